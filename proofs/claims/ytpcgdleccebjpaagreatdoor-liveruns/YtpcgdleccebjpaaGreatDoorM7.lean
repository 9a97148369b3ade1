/- Part 'M7' of the proof (Ss0, Si0): lemmas, each with its own conditions in its own statement. -/
import Derived.Ground.Names2Prog
import Derived.Shelf.Slices.In.SortNone
import Derived.Shelf.Sort.Plain
import Derived.Test.YtpcgdleccebjpaaGreatDoorProg
section
/-
  DERIVED: THE SHELF's CONTRACTS AT THIS DUMP, IN PLAIN WORDS (tools/lay-plain.mjs out of 'SdsShelf.lean', which tools/lay-shelf.mjs wrote): THE SAME DECLARATIONS UNDER THE SAME NAMES: 'import', 'namespace', 'open', 'def', 'theorem' AND NOTHING ELSE: no command of the shelf's: FOR A HAND-IN. Each laying: the table of numbers ('.._ren') and one theorem, a field a fact of the dump's own or the kernel's comparison; each contract: ONE APPLICATION.
-/
namespace Go.Proofs
open Go.Shelf
def Tryz.lays190_ren : Go.Shelf.Ren := ⟨fun | 190 => 155 | 125 => 203 | 258 => 202 | 128 => 245 | 129 => 246 | 302 => 237 | 303 => 238 | 304 => 239 | 305 => 240 | 306 => 241 | 307 => 242 | 308 => 194 | 309 => 243 | 310 => 244 | 333 => 280 | 329 => 281 | 330 => 282 | 334 => 283 | 335 => 284 | 336 => 234 | 344 => 304 | n => n, fun | 31 => 79 | 9 => 9 | 3 => 3 | 46 => 228 | 0 => 0 | 51 => 263 | 53 => 169 | 4 => 4 | 183 => 257 | 182 => 256 | 131 => 137 | 5 => 5 | 218 => 285 | 222 => 289 | 228 => 302 | 229 => 303 | n => n, fun | n => n⟩
theorem Tryz.lays190 : Go.Proofs.Lays.n190 Tryz.prog Tryz.lays190_ren := {
  mixed := by kernel_rfl
  f125 := Tryz.func203.trans (congrArg some (by kernel_rfl))
  f128 := Tryz.func245.trans (congrArg some (by kernel_rfl))
  f129 := Tryz.func246.trans (congrArg some (by kernel_rfl))
  f190 := Tryz.func155.trans (congrArg some (by kernel_rfl))
  f258 := Tryz.func202.trans (congrArg some (by kernel_rfl))
  f302 := Tryz.func237.trans (congrArg some (by kernel_rfl))
  f303 := Tryz.func238.trans (congrArg some (by kernel_rfl))
  f304 := Tryz.func239.trans (congrArg some (by kernel_rfl))
  f305 := Tryz.func240.trans (congrArg some (by kernel_rfl))
  f306 := Tryz.func241.trans (congrArg some (by kernel_rfl))
  f307 := Tryz.func242.trans (congrArg some (by kernel_rfl))
  f308 := Tryz.func194.trans (congrArg some (by kernel_rfl))
  f309 := Tryz.func243.trans (congrArg some (by kernel_rfl))
  f310 := Tryz.func244.trans (congrArg some (by kernel_rfl))
  f329 := Tryz.func281.trans (congrArg some (by kernel_rfl))
  f330 := Tryz.func282.trans (congrArg some (by kernel_rfl))
  f333 := Tryz.func280.trans (congrArg some (by kernel_rfl))
  f334 := Tryz.func283.trans (congrArg some (by kernel_rfl))
  f335 := Tryz.func284.trans (congrArg some (by kernel_rfl))
  f336 := Tryz.func234.trans (congrArg some (by kernel_rfl))
  f344 := Tryz.func304.trans (congrArg some (by kernel_rfl))
  t0 := Tryz.underlying0
  a0 := Tryz.isAgg0
  z0 := Tryz.sizeOf0
  v0 := Tryz.zeroValue0
  t3 := Tryz.underlying3
  a3 := Tryz.isAgg3
  z3 := Tryz.sizeOf3
  v3 := Tryz.zeroValue3
  t4 := Tryz.underlying4
  a4 := Tryz.isAgg4
  z4 := Tryz.sizeOf4
  v4 := Tryz.zeroValue4
  t5 := Tryz.underlying5
  a5 := Tryz.isAgg5
  z5 := Tryz.sizeOf5
  v5 := Tryz.zeroValue5
  t9 := Tryz.underlying9
  a9 := Tryz.isAgg9
  z9 := Tryz.sizeOf9
  v9 := Tryz.zeroValue9
  t31 := Tryz.underlying79
  a31 := Tryz.isAgg79
  z31 := Tryz.sizeOf79
  v31 := Tryz.zeroValue79
  t46 := Tryz.underlying228
  a46 := Tryz.isAgg228
  z46 := Tryz.sizeOf228
  v46 := Tryz.zeroValue228
  t51 := Tryz.underlying263
  a51 := Tryz.isAgg263
  z51 := Tryz.sizeOf263
  v51 := Tryz.zeroValue263
  t53 := Tryz.underlying169
  a53 := Tryz.isAgg169
  z53 := Tryz.sizeOf169
  v53 := Tryz.zeroValue169
  t131 := Tryz.underlying137
  a131 := Tryz.isAgg137
  z131 := Tryz.sizeOf137
  v131 := Tryz.zeroValue137
  t182 := Tryz.underlying256
  a182 := Tryz.isAgg256
  z182 := Tryz.sizeOf256
  v182 := Tryz.zeroValue256
  t183 := Tryz.underlying257
  a183 := Tryz.isAgg257
  z183 := Tryz.sizeOf257
  v183 := Tryz.zeroValue257
  t218 := Tryz.underlying285
  a218 := Tryz.isAgg285
  z218 := Tryz.sizeOf285
  v218 := Tryz.zeroValue285
  t222 := Tryz.underlying289
  a222 := Tryz.isAgg289
  z222 := Tryz.sizeOf289
  v222 := Tryz.zeroValue289
  t228 := Tryz.underlying302
  a228 := Tryz.isAgg302
  z228 := Tryz.sizeOf302
  v228 := Tryz.zeroValue302
  t229 := Tryz.underlying303
  a229 := Tryz.isAgg303
  z229 := Tryz.sizeOf303
  v229 := Tryz.zeroValue303 }
open Go.Sort Go.RowKit in
theorem Tryz.slices_Sort_string (blk off cap : Nat) (ss : List (List UInt8)) (w : World) (hH : Holds encStr w blk off ss.toArray) (hblk : blk < w.heap.size) (hsz : ss.length < 4611686018427387904) :
    Calls Tryz.prog 155 #[.slice (some ⟨blk, off, none⟩) ss.length cap] w fun e w' =>
      e = .returned (.tuple #[]) ∧ ∃ n os, w' = grow (putRow encStr (Sort.ahead w n) blk off (ss.mergeSort fun x y => decide (x ≤ y)).toArray) os := Any.slices_Sort_string Tryz.lays190 blk off cap ss w hH hblk hsz
open Go.RowKit Go.Sort in
/-- .. and plain. (LAID: no walk: one application.) -/
theorem Tryz.slices_Sort_string_none (p : Option Addr) (cap : Nat) (w : World) :
    Calls Tryz.prog 155 #[.slice p 0 cap] w fun e w' => e = .returned (.tuple #[]) ∧ w' = w := Any.slices_Sort_string_none Tryz.lays190 p cap w

end Go.Proofs
end
section
/-
  DERIVED: THE SHELF's CONTRACTS AT THIS DUMP, IN PLAIN WORDS (tools/lay-plain.mjs out of 'SiShelf.lean', which tools/lay-shelf.mjs wrote): THE SAME DECLARATIONS UNDER THE SAME NAMES: 'import', 'namespace', 'open', 'def', 'theorem' AND NOTHING ELSE: no command of the shelf's: FOR A HAND-IN. Each laying: the table of numbers ('.._ren') and one theorem, a field a fact of the dump's own or the kernel's comparison; each contract: ONE APPLICATION.
-/
namespace Go.Proofs
open Go.Shelf
end Go.Proofs
end
