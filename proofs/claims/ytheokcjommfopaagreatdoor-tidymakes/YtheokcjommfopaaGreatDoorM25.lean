/- Part 'M25' of the proof (Ops): lemmas, each with its own conditions in its own statement. -/
import Derived.Test.YtheokcjommfopaaGreatDoorRows
import Derived.Test.YtheokcjommfopaaGreatDoorM16
import Derived.Test.YtheokcjommfopaaGreatDoorM18
import Derived.Test.YtheokcjommfopaaGreatDoorM21
set_option maxRecDepth 20000
set_option maxHeartbeats 4000000
namespace Go.Proofs.YtheokcjommfopaaGreatDoor
open Go.Sy
open Go.ChangeShapes Go.WideShapes Go.ChangeAt Go.RowKit
theorem own:ownKnob Tryz.prog.godebug=none:=by kernel_rfl
theorem laidOut:laidOutB Tryz.prog=true:=by kernel_rfl
theorem MF:iL Tryz.prog 3 Int:=JB (by kernel_rfl) (by kernel_rfl)
theorem MG:iL Tryz.prog 9 iz:=JC (by kernel_rfl) (by kernel_rfl)
theorem Wl:iL Tryz.prog 55 Nm:=eP (by kernel_rfl) (jE 55 _ _ rfl).2 (dh rfl (by decide) MF (gU rfl MF))
theorem MH:iL Tryz.prog 57 ks:=eP (by kernel_rfl) (jE 57 _ _ rfl).2 (dh rfl (by decide) MG (gU rfl Wl))
theorem T5:iL Tryz.prog 59 Expr:=eP (by kernel_rfl) (jE 59 _ _ rfl).2 (dh rfl (by decide) MF (dh rfl (by decide) MH (gU rfl MH)))
theorem T6:iL Tryz.prog 61 Stmt:=eP (by kernel_rfl) (jE 61 _ _ rfl).2 (dh rfl (by decide) MF (dh rfl (by decide) MG (gU rfl T5)))
theorem T7:iL Tryz.prog 64 Term:=eP (by kernel_rfl) (jE 64 _ _ rfl).2 (dh rfl (by decide) MF (dh rfl (by decide) MH (dh rfl (by decide) MG (gU rfl MG))))
theorem RS:iL Tryz.prog 62 (List Stmt):=w7 (by kernel_rfl) (jE 62 _ _ rfl).2 T6 (by decide)
theorem RT:iL Tryz.prog 66 Block:=eP (by kernel_rfl) (jE 66 _ _ rfl).2 (dh rfl (by decide) MG (dh rfl (by decide) RS (gU rfl T7)))
theorem Pb:iL Tryz.prog 22 (List Block):=w7 (by kernel_rfl) (jE 22 _ _ rfl).2 RT (by decide)
theorem T8:iL Tryz.prog 24 Prog:=eP (by kernel_rfl) (jE 24 _ _ rfl).2 (gU rfl Pb)
end Go.Proofs.YtheokcjommfopaaGreatDoor
