/- Part 'Ins0' of the proof: lemmas, each with its own conditions in its own statement. -/
import Derived.Shelf.Spec.SlicesInsert
import Derived.Shelf.Spec.SlicesInsertGrow
import Derived.Test.YtmcopfncaehggaaProg
namespace Go.Proofs
open Go.Shelf
def Try.laysI_ren : Go.Shelf.Ren := ⟨fun | 17 => 112 | 22 => 98 | 29 => 107 | 30 => 108 | 36 => 111 | n => n, fun | 24 => 60 | n => n, fun | n => n⟩
theorem Try.laysI : Go.Proofs.Lays2.n22 Try.prog Try.laysI_ren := {
  mixed := by kernel_rfl
  f17 := Try.func112.trans (congrArg some (by kernel_rfl))
  f22 := Try.func98.trans (congrArg some (by kernel_rfl))
  f29 := Try.func107.trans (congrArg some (by kernel_rfl))
  f30 := Try.func108.trans (congrArg some (by kernel_rfl))
  f36 := Try.func111.trans (congrArg some (by kernel_rfl))
  t0 := Try.underlying0
  a0 := Try.isAgg0
  z0 := Try.sizeOf0
  v0 := Try.zeroValue0
  t3 := Try.underlying3
  a3 := Try.isAgg3
  z3 := Try.sizeOf3
  v3 := Try.zeroValue3
  t4 := Try.underlying4
  a4 := Try.isAgg4
  z4 := Try.sizeOf4
  v4 := Try.zeroValue4
  t9 := Try.underlying9
  a9 := Try.isAgg9
  z9 := Try.sizeOf9
  v9 := Try.zeroValue9
  t24 := Try.underlying60
  a24 := Try.isAgg60
  z24 := Try.sizeOf60
  v24 := Try.zeroValue60
  i9 := by kernel_rfl }
end Go.Proofs
