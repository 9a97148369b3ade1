/- Part 'M24' of the proof (Opw): lemmas, each with its own conditions in its own statement. -/
import Derived.Test.YthmicpkjickejaaGreatRRRows
import Derived.Test.YthmicpkjickejaaGreatRRM13
import Derived.Test.YthmicpkjickejaaGreatRRM15
import Derived.Test.YthmicpkjickejaaGreatRRM21
namespace Go.Proofs.YthmicpkjickejaaGreatRR
open Go.Sy
open Go.ChangeShapes Go.WideShapes Go.ChangeAt Go.RowKit
set_option maxRecDepth 100000
theorem own:ownKnob Tryz.prog.godebug=none:=by kernel_rfl
theorem laidOut:laidOutB Tryz.prog=true:=by kernel_rfl
theorem oInt:Opens Tryz.prog 3 Int:=opens_int (by kernel_rfl) (by kernel_rfl)
theorem oStr:Opens Tryz.prog 9 Str:=opens_str (by kernel_rfl) (by kernel_rfl)
theorem oNum:Opens Tryz.prog 47 Nm:=opens_struct (by kernel_rfl) (tt_ok 47 _ _ rfl).2 (opensF_cons rfl (by decide) oInt (opensF_one rfl oInt))
theorem oAtom:Opens Tryz.prog 49 Atm:=opens_struct (by kernel_rfl) (tt_ok 49 _ _ rfl).2 (opensF_cons rfl (by decide) oStr (opensF_one rfl oNum))
theorem oExpr:Opens Tryz.prog 55 Expr:=opens_struct (by kernel_rfl) (tt_ok 55 _ _ rfl).2 (opensF_cons rfl (by decide) oInt (opensF_cons rfl (by decide) oAtom (opensF_one rfl oAtom)))
theorem oStmt:Opens Tryz.prog 57 Stmt:=opens_struct (by kernel_rfl) (tt_ok 57 _ _ rfl).2 (opensF_cons rfl (by decide) oInt (opensF_cons rfl (by decide) oStr (opensF_one rfl oExpr)))
theorem oTerm:Opens Tryz.prog 51 Term:=opens_struct (by kernel_rfl) (tt_ok 51 _ _ rfl).2 (opensF_cons rfl (by decide) oInt (opensF_cons rfl (by decide) oAtom (opensF_cons rfl (by decide) oStr (opensF_one rfl oStr))))
theorem oStmts:Opens Tryz.prog 45 (List Stmt):=opens_list (by kernel_rfl) (tt_ok 45 _ _ rfl).2 oStmt (by decide)
theorem oBlock:Opens Tryz.prog 53 Block:=opens_struct (by kernel_rfl) (tt_ok 53 _ _ rfl).2 (opensF_cons rfl (by decide) oStr (opensF_cons rfl (by decide) oStmts (opensF_one rfl oTerm)))
theorem oBlocks:Opens Tryz.prog 22 (List Block):=opens_list (by kernel_rfl) (tt_ok 22 _ _ rfl).2 oBlock (by decide)
theorem oProg:Opens Tryz.prog 24 Prog:=opens_struct (by kernel_rfl) (tt_ok 24 _ _ rfl).2 (opensF_one rfl oBlocks)
end Go.Proofs.YthmicpkjickejaaGreatRR
