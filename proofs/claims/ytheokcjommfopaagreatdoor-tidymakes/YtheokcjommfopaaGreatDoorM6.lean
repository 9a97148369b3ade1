/- Part 'M6' of the proof (Ins0): lemmas, each with its own conditions in its own statement. -/
import Derived.Shelf.Spec.SlicesInsert
import Derived.Shelf.Spec.SlicesInsertGrow
import Derived.Test.YtheokcjommfopaaGreatDoorProg
set_option maxRecDepth 20000
set_option maxHeartbeats 4000000
namespace Go.Proofs
open Go.Shelf
open Tryz
def Tryz.fT:Go.Shelf.Ren:=⟨fun | 17=>247 | 22=>94 | 29=>144 | 30=>145 | 36=>199 | n=>n,fun | 24=>71 | n=>n,fun | n=>n⟩
theorem Tryz.Ce:Go.Proofs.Lays2.n22 Tryz.prog Tryz.fT:={
 mixed:=by kernel_rfl
 f17:=func247.trans (congrArg some (by kernel_rfl))
 f22:=func94.trans (congrArg some (by kernel_rfl))
 f29:=func144.trans (congrArg some (by kernel_rfl))
 f30:=func145.trans (congrArg some (by kernel_rfl))
 f36:=func199.trans (congrArg some (by kernel_rfl))
 t0:=underlying0
 a0:=isAgg0
 z0:=sizeOf0
 v0:=zeroValue0
 t3:=underlying3
 a3:=isAgg3
 z3:=sizeOf3
 v3:=zeroValue3
 t4:=underlying4
 a4:=isAgg4
 z4:=sizeOf4
 v4:=zeroValue4
 t9:=underlying9
 a9:=isAgg9
 z9:=sizeOf9
 v9:=zeroValue9
 t24:=underlying71
 a24:=isAgg71
 z24:=sizeOf71
 v24:=zeroValue71
 i9:=by kernel_rfl }
end Go.Proofs
