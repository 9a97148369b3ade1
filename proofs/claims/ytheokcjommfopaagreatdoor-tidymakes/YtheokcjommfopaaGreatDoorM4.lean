/- Part 'M4' of the proof (Tz): lemmas, each with its own conditions in its own statement. -/
import Derived.Shelf.Spec.TrailingZeros
import Derived.Test.YtheokcjommfopaaGreatDoorProg
set_option maxRecDepth 20000
set_option maxHeartbeats 4000000
namespace Go.Proofs
open Go.Shelf
open Tryz
def Tryz.Fh:Go.Shelf.Ren:=⟨fun | 29=>224 | n=>n,fun | 0=>0 | 3=>3 | 4=>4 | 5=>5 | 22=>126 | 25=>184 | 54=>281 | n=>n,fun | 1=>0 | n=>n⟩
theorem Tryz.QP:Go.Proofs.Lays7.n29 Tryz.prog Tryz.Fh:={
 mixed:=by kernel_rfl
 f29:=func224.trans (congrArg some (by kernel_rfl))
 t0:=underlying0
 a0:=isAgg0
 z0:=sizeOf0
 v0:=zeroValue0
 i0:=by kernel_rfl
 t3:=underlying3
 a3:=isAgg3
 z3:=sizeOf3
 v3:=zeroValue3
 i3:=by kernel_rfl
 t4:=underlying4
 a4:=isAgg4
 z4:=sizeOf4
 v4:=zeroValue4
 i4:=by kernel_rfl
 t5:=underlying5
 a5:=isAgg5
 z5:=sizeOf5
 v5:=zeroValue5
 i5:=by kernel_rfl
 t22:=underlying126
 a22:=isAgg126
 z22:=sizeOf126
 v22:=zeroValue126
 i22:=by kernel_rfl
 t25:=underlying184
 a25:=isAgg184
 z25:=sizeOf184
 v25:=zeroValue184
 i25:=by kernel_rfl
 t54:=underlying281
 a54:=isAgg281
 z54:=sizeOf281
 g1:=by kernel_rfl }
open Go.RowKit Go.Lib in
theorem K3 (x:Nat) (hx:x<18446744073709551616) (w:World) (hT:TabAt 0 Lib.deBruijn64tab w):
  Calls prog 224 #[.int .u64 x] w fun e w'=>e = .returned (.int .i64 (Lib.ctz 64 x))∧w'=w :=
 Any7.bits_TrailingZeros64 QP x hx w (fun _=>hT)
end Go.Proofs
