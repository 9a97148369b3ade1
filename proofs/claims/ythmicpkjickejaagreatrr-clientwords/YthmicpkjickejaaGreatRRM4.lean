/- Part 'M4' of the proof (Ins0): lemmas, each with its own conditions in its own statement. -/
import Derived.Shelf.Spec.SlicesInsert
import Derived.Shelf.Spec.SlicesInsertGrow
import Derived.Test.YthmicpkjickejaaGreatRRProg
namespace Go.Proofs
open Go.Shelf
def Tryz.laysI_ren:Go.Shelf.Ren:=⟨fun | 17=>173 | 22=>63 | 29=>117 | 30=>118 | 36=>161 | n=>n,fun | 24=>36 | n=>n,fun | n=>n⟩
theorem Tryz.laysI:Go.Proofs.Lays2.n22 Tryz.prog Tryz.laysI_ren:={
 mixed:=by kernel_rfl
 f17:=Tryz.func173.trans (congrArg some (by kernel_rfl))
 f22:=Tryz.func63.trans (congrArg some (by kernel_rfl))
 f29:=Tryz.func117.trans (congrArg some (by kernel_rfl))
 f30:=Tryz.func118.trans (congrArg some (by kernel_rfl))
 f36:=Tryz.func161.trans (congrArg some (by kernel_rfl))
 t0:=Tryz.underlying0
 a0:=Tryz.isAgg0
 z0:=Tryz.sizeOf0
 v0:=Tryz.zeroValue0
 t3:=Tryz.underlying3
 a3:=Tryz.isAgg3
 z3:=Tryz.sizeOf3
 v3:=Tryz.zeroValue3
 t4:=Tryz.underlying4
 a4:=Tryz.isAgg4
 z4:=Tryz.sizeOf4
 v4:=Tryz.zeroValue4
 t9:=Tryz.underlying9
 a9:=Tryz.isAgg9
 z9:=Tryz.sizeOf9
 v9:=Tryz.zeroValue9
 t24:=Tryz.underlying36
 a24:=Tryz.isAgg36
 z24:=Tryz.sizeOf36
 v24:=Tryz.zeroValue36
 i9:=by kernel_rfl }
end Go.Proofs
