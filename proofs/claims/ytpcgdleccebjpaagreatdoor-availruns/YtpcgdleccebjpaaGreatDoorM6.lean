/- Part 'M6' of the proof (Ins0): lemmas, each with its own conditions in its own statement. -/
import Derived.Shelf.Spec.SlicesInsert
import Derived.Shelf.Spec.SlicesInsertGrow
import Derived.Test.YtpcgdleccebjpaaGreatDoorProg
namespace Go.Proofs
open Go.Shelf
def Tryz.laysI_ren : Go.Shelf.Ren := ⟨fun | 17 => 279 | 22 => 143 | 29 => 196 | 30 => 197 | 36 => 235 | n => n, fun | 24 => 79 | n => n, fun | n => n⟩
theorem Tryz.laysI : Go.Proofs.Lays2.n22 Tryz.prog Tryz.laysI_ren := {
  mixed := by kernel_rfl
  f17 := Tryz.func279.trans (congrArg some (by kernel_rfl))
  f22 := Tryz.func143.trans (congrArg some (by kernel_rfl))
  f29 := Tryz.func196.trans (congrArg some (by kernel_rfl))
  f30 := Tryz.func197.trans (congrArg some (by kernel_rfl))
  f36 := Tryz.func235.trans (congrArg some (by kernel_rfl))
  t0 := Tryz.underlying0
  a0 := Tryz.isAgg0
  z0 := Tryz.sizeOf0
  v0 := Tryz.zeroValue0
  t3 := Tryz.underlying3
  a3 := Tryz.isAgg3
  z3 := Tryz.sizeOf3
  v3 := Tryz.zeroValue3
  t4 := Tryz.underlying4
  a4 := Tryz.isAgg4
  z4 := Tryz.sizeOf4
  v4 := Tryz.zeroValue4
  t9 := Tryz.underlying9
  a9 := Tryz.isAgg9
  z9 := Tryz.sizeOf9
  v9 := Tryz.zeroValue9
  t24 := Tryz.underlying79
  a24 := Tryz.isAgg79
  z24 := Tryz.sizeOf79
  v24 := Tryz.zeroValue79
  i9 := by kernel_rfl }
end Go.Proofs
