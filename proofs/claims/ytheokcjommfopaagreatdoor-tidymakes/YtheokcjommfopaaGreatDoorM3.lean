/- Part 'M3' of the proof (Gw0): lemmas, each with its own conditions in its own statement. -/
import Derived.Shelf.Spec.SlicesGrow
import Derived.Test.YtheokcjommfopaaGreatDoorProg
set_option maxRecDepth 20000
set_option maxHeartbeats 4000000
namespace Go.Proofs
open Go.Shelf
open Tryz
def Tryz.Fg:Go.Shelf.Ren:=⟨fun | 4=>183 | n=>n,fun | 22=>62 | 25=>61 | n=>n,fun | n=>n⟩
theorem Tryz.K2:Go.Proofs.Lays8.n4 Tryz.prog Tryz.Fg:={
 mixed:=by kernel_rfl
 f4:=⟨f183.name,by decide,func183.trans (congrArg some (by kernel_rfl))⟩
 t0:=underlying0
 a0:=isAgg0
 z0:=sizeOf0
 v0:=zeroValue0
 t3:=underlying3
 a3:=isAgg3
 z3:=sizeOf3
 v3:=zeroValue3
 t4:=underlying4
 a4:=isAgg4
 z4:=sizeOf4
 v4:=zeroValue4
 t9:=underlying9
 a9:=isAgg9
 z9:=sizeOf9
 v9:=zeroValue9
 t20:=underlying20
 a20:=isAgg20
 z20:=sizeOf20
 v20:=zeroValue20
 t22:=underlying62
 a22:=isAgg62
 z22:=sizeOf62
 v22:=zeroValue62
}
end Go.Proofs
