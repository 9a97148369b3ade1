/- Part 'M19' of the proof (Ops): lemmas, each with its own conditions in its own statement. -/
import Derived.Test.YtjnmonnpglkmlaaGreatRows
import Derived.Test.YtjnmonnpglkmlaaGreatM11
import Derived.Test.YtjnmonnpglkmlaaGreatM13
import Derived.Test.YtjnmonnpglkmlaaGreatM16
namespace Go.Proofs.YtjnmonnpglkmlaaGreat
open Go.Sy
open Go.ChangeShapes Go.WideShapes Go.ChangeAt Go.RowKit
set_option maxRecDepth 100000
theorem own : ownKnob Tryz.prog.godebug = none := by kernel_rfl
theorem laidOut : laidOutB Tryz.prog = true := by kernel_rfl
theorem oInt : Opens Tryz.prog 3 Int := opens_int (by kernel_rfl) (by kernel_rfl)
theorem oStr : Opens Tryz.prog 9 Str := opens_str (by kernel_rfl) (by kernel_rfl)
theorem oNum : Opens Tryz.prog 42 Nm := opens_struct (by kernel_rfl) (tt_ok 42 _ _ rfl).2 (opensF_cons rfl (by decide) oInt (opensF_one rfl oInt))
theorem oAtom : Opens Tryz.prog 61 Atm := opens_struct (by kernel_rfl) (tt_ok 61 _ _ rfl).2 (opensF_cons rfl (by decide) oStr (opensF_one rfl oNum))
theorem oExpr : Opens Tryz.prog 63 Expr := opens_struct (by kernel_rfl) (tt_ok 63 _ _ rfl).2 (opensF_cons rfl (by decide) oInt (opensF_cons rfl (by decide) oAtom (opensF_one rfl oAtom)))
theorem oStmt : Opens Tryz.prog 65 Stmt := opens_struct (by kernel_rfl) (tt_ok 65 _ _ rfl).2 (opensF_cons rfl (by decide) oInt (opensF_cons rfl (by decide) oStr (opensF_one rfl oExpr)))
theorem oTerm : Opens Tryz.prog 68 Term := opens_struct (by kernel_rfl) (tt_ok 68 _ _ rfl).2 (opensF_cons rfl (by decide) oInt (opensF_cons rfl (by decide) oAtom (opensF_cons rfl (by decide) oStr (opensF_one rfl oStr))))
theorem oStmts : Opens Tryz.prog 66 (List Stmt) := opens_list (by kernel_rfl) (tt_ok 66 _ _ rfl).2 oStmt (by decide)
theorem oBlock : Opens Tryz.prog 70 Block := opens_struct (by kernel_rfl) (tt_ok 70 _ _ rfl).2 (opensF_cons rfl (by decide) oStr (opensF_cons rfl (by decide) oStmts (opensF_one rfl oTerm)))
theorem oBlocks : Opens Tryz.prog 22 (List Block) := opens_list (by kernel_rfl) (tt_ok 22 _ _ rfl).2 oBlock (by decide)
theorem oNums : Opens Tryz.prog 25 (List Nm) := opens_list (by kernel_rfl) (tt_ok 25 _ _ rfl).2 oNum (by decide)
theorem oProg : Opens Tryz.prog 24 Prog := opens_struct (by kernel_rfl) (tt_ok 24 _ _ rfl).2 (opensF_one rfl oBlocks)
end Go.Proofs.YtjnmonnpglkmlaaGreat
