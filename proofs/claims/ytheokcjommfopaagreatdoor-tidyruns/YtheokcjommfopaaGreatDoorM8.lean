/- Part 'M8' of the proof (Si0, Ss0): lemmas, each with its own conditions in its own statement. -/
import Derived.Ground.Names2Prog
import Derived.Shelf.Slices.In.SortNone
import Derived.Shelf.Sort.Plain
import Derived.Test.YtheokcjommfopaaGreatDoorProg
section
/-
 DERIVED: THE SHELF's CONTRACTS AT THIS DUMP,IN PLAIN WORDS (tools/lay-plain.mjs out of 'SiShelf.lean',which tools/lay-shelf.mjs wrote): THE SAME DECLARATIONS UNDER THE SAME NAMES: 'import','namespace','open','def','theorem' AND NOTHING ELSE: no command of the shelf's: FOR A HAND-IN. Each laying: the table of numbers ('.._ren') and one theorem,a field a fact of the dump's own or the kernel's comparison;each contract: ONE APPLICATION.
-/
namespace Go.Proofs
open Go.Shelf
def Tryz.lays189_ren:Go.Shelf.Ren:=⟨fun | 189=>181 | 125=>226 | 257=>234 | 128=>276 | 129=>277 | 294=>283 | 295=>284 | 296=>285 | 297=>286 | 298=>287 | 299=>288 | 216=>289 | 300=>290 | 301=>291 | 328=>322 | 329=>316 | 330=>317 | 331=>323 | 332=>324 | 215=>249 | 343=>334 | n=>n,fun | 28=>102 | 3=>3 | 46=>184 | 0=>0 | 51=>290 | 53=>126 | 4=>4 | 183=>284 | 182=>283 | 131=>133 | 5=>5 | 9=>9 | 218=>310 | 222=>314 | 228=>326 | 229=>327 | n=>n,fun | n=>n⟩
theorem Tryz.lays189:Go.Proofs.Lays.n189 Tryz.prog Tryz.lays189_ren:={
 mixed:=by kernel_rfl
 f125:=Tryz.func226.trans (congrArg some (by kernel_rfl))
 f128:=Tryz.func276.trans (congrArg some (by kernel_rfl))
 f129:=Tryz.func277.trans (congrArg some (by kernel_rfl))
 f189:=Tryz.func181.trans (congrArg some (by kernel_rfl))
 f215:=Tryz.func249.trans (congrArg some (by kernel_rfl))
 f216:=Tryz.func289.trans (congrArg some (by kernel_rfl))
 f257:=Tryz.func234.trans (congrArg some (by kernel_rfl))
 f294:=Tryz.func283.trans (congrArg some (by kernel_rfl))
 f295:=Tryz.func284.trans (congrArg some (by kernel_rfl))
 f296:=Tryz.func285.trans (congrArg some (by kernel_rfl))
 f297:=Tryz.func286.trans (congrArg some (by kernel_rfl))
 f298:=Tryz.func287.trans (congrArg some (by kernel_rfl))
 f299:=Tryz.func288.trans (congrArg some (by kernel_rfl))
 f300:=Tryz.func290.trans (congrArg some (by kernel_rfl))
 f301:=Tryz.func291.trans (congrArg some (by kernel_rfl))
 f328:=Tryz.func322.trans (congrArg some (by kernel_rfl))
 f329:=Tryz.func316.trans (congrArg some (by kernel_rfl))
 f330:=Tryz.func317.trans (congrArg some (by kernel_rfl))
 f331:=Tryz.func323.trans (congrArg some (by kernel_rfl))
 f332:=Tryz.func324.trans (congrArg some (by kernel_rfl))
 f343:=Tryz.func334.trans (congrArg some (by kernel_rfl))
 t0:=Tryz.underlying0
 a0:=Tryz.isAgg0
 z0:=Tryz.sizeOf0
 v0:=Tryz.zeroValue0
 t3:=Tryz.underlying3
 a3:=Tryz.isAgg3
 z3:=Tryz.sizeOf3
 v3:=Tryz.zeroValue3
 t4:=Tryz.underlying4
 a4:=Tryz.isAgg4
 z4:=Tryz.sizeOf4
 v4:=Tryz.zeroValue4
 t5:=Tryz.underlying5
 a5:=Tryz.isAgg5
 z5:=Tryz.sizeOf5
 v5:=Tryz.zeroValue5
 t9:=Tryz.underlying9
 a9:=Tryz.isAgg9
 z9:=Tryz.sizeOf9
 v9:=Tryz.zeroValue9
 t28:=Tryz.underlying102
 a28:=Tryz.isAgg102
 z28:=Tryz.sizeOf102
 v28:=Tryz.zeroValue102
 t46:=Tryz.underlying184
 a46:=Tryz.isAgg184
 z46:=Tryz.sizeOf184
 v46:=Tryz.zeroValue184
 t51:=Tryz.underlying290
 a51:=Tryz.isAgg290
 z51:=Tryz.sizeOf290
 v51:=Tryz.zeroValue290
 t53:=Tryz.underlying126
 a53:=Tryz.isAgg126
 z53:=Tryz.sizeOf126
 v53:=Tryz.zeroValue126
 t131:=Tryz.underlying133
 a131:=Tryz.isAgg133
 z131:=Tryz.sizeOf133
 v131:=Tryz.zeroValue133
 t182:=Tryz.underlying283
 a182:=Tryz.isAgg283
 z182:=Tryz.sizeOf283
 v182:=Tryz.zeroValue283
 t183:=Tryz.underlying284
 a183:=Tryz.isAgg284
 z183:=Tryz.sizeOf284
 v183:=Tryz.zeroValue284
 t218:=Tryz.underlying310
 a218:=Tryz.isAgg310
 z218:=Tryz.sizeOf310
 v218:=Tryz.zeroValue310
 t222:=Tryz.underlying314
 a222:=Tryz.isAgg314
 z222:=Tryz.sizeOf314
 v222:=Tryz.zeroValue314
 t228:=Tryz.underlying326
 a228:=Tryz.isAgg326
 z228:=Tryz.sizeOf326
 v228:=Tryz.zeroValue326
 t229:=Tryz.underlying327
 a229:=Tryz.isAgg327
 z229:=Tryz.sizeOf327
 v229:=Tryz.zeroValue327 }
end Go.Proofs
end
section
/-
 DERIVED: THE SHELF's CONTRACTS AT THIS DUMP,IN PLAIN WORDS (tools/lay-plain.mjs out of 'SdsShelf.lean',which tools/lay-shelf.mjs wrote): THE SAME DECLARATIONS UNDER THE SAME NAMES: 'import','namespace','open','def','theorem' AND NOTHING ELSE: no command of the shelf's: FOR A HAND-IN. Each laying: the table of numbers ('.._ren') and one theorem,a field a fact of the dump's own or the kernel's comparison;each contract: ONE APPLICATION.
-/
namespace Go.Proofs
open Go.Shelf
def Tryz.lays190_ren:Go.Shelf.Ren:=⟨fun | 190=>165 | 125=>226 | 258=>225 | 128=>276 | 129=>277 | 302=>268 | 303=>269 | 304=>270 | 305=>271 | 306=>272 | 307=>273 | 308=>142 | 309=>274 | 310=>275 | 333=>315 | 329=>316 | 330=>317 | 334=>318 | 335=>319 | 336=>198 | 344=>333 | n=>n,fun | 31=>71 | 9=>9 | 3=>3 | 46=>184 | 0=>0 | 51=>290 | 53=>126 | 4=>4 | 183=>284 | 182=>283 | 131=>133 | 5=>5 | 218=>310 | 222=>314 | 228=>326 | 229=>327 | n=>n,fun | n=>n⟩
theorem Tryz.lays190:Go.Proofs.Lays.n190 Tryz.prog Tryz.lays190_ren:={
 mixed:=by kernel_rfl
 f125:=Tryz.func226.trans (congrArg some (by kernel_rfl))
 f128:=Tryz.func276.trans (congrArg some (by kernel_rfl))
 f129:=Tryz.func277.trans (congrArg some (by kernel_rfl))
 f190:=Tryz.func165.trans (congrArg some (by kernel_rfl))
 f258:=Tryz.func225.trans (congrArg some (by kernel_rfl))
 f302:=Tryz.func268.trans (congrArg some (by kernel_rfl))
 f303:=Tryz.func269.trans (congrArg some (by kernel_rfl))
 f304:=Tryz.func270.trans (congrArg some (by kernel_rfl))
 f305:=Tryz.func271.trans (congrArg some (by kernel_rfl))
 f306:=Tryz.func272.trans (congrArg some (by kernel_rfl))
 f307:=Tryz.func273.trans (congrArg some (by kernel_rfl))
 f308:=Tryz.func142.trans (congrArg some (by kernel_rfl))
 f309:=Tryz.func274.trans (congrArg some (by kernel_rfl))
 f310:=Tryz.func275.trans (congrArg some (by kernel_rfl))
 f329:=Tryz.func316.trans (congrArg some (by kernel_rfl))
 f330:=Tryz.func317.trans (congrArg some (by kernel_rfl))
 f333:=Tryz.func315.trans (congrArg some (by kernel_rfl))
 f334:=Tryz.func318.trans (congrArg some (by kernel_rfl))
 f335:=Tryz.func319.trans (congrArg some (by kernel_rfl))
 f336:=Tryz.func198.trans (congrArg some (by kernel_rfl))
 f344:=Tryz.func333.trans (congrArg some (by kernel_rfl))
 t0:=Tryz.underlying0
 a0:=Tryz.isAgg0
 z0:=Tryz.sizeOf0
 v0:=Tryz.zeroValue0
 t3:=Tryz.underlying3
 a3:=Tryz.isAgg3
 z3:=Tryz.sizeOf3
 v3:=Tryz.zeroValue3
 t4:=Tryz.underlying4
 a4:=Tryz.isAgg4
 z4:=Tryz.sizeOf4
 v4:=Tryz.zeroValue4
 t5:=Tryz.underlying5
 a5:=Tryz.isAgg5
 z5:=Tryz.sizeOf5
 v5:=Tryz.zeroValue5
 t9:=Tryz.underlying9
 a9:=Tryz.isAgg9
 z9:=Tryz.sizeOf9
 v9:=Tryz.zeroValue9
 t31:=Tryz.underlying71
 a31:=Tryz.isAgg71
 z31:=Tryz.sizeOf71
 v31:=Tryz.zeroValue71
 t46:=Tryz.underlying184
 a46:=Tryz.isAgg184
 z46:=Tryz.sizeOf184
 v46:=Tryz.zeroValue184
 t51:=Tryz.underlying290
 a51:=Tryz.isAgg290
 z51:=Tryz.sizeOf290
 v51:=Tryz.zeroValue290
 t53:=Tryz.underlying126
 a53:=Tryz.isAgg126
 z53:=Tryz.sizeOf126
 v53:=Tryz.zeroValue126
 t131:=Tryz.underlying133
 a131:=Tryz.isAgg133
 z131:=Tryz.sizeOf133
 v131:=Tryz.zeroValue133
 t182:=Tryz.underlying283
 a182:=Tryz.isAgg283
 z182:=Tryz.sizeOf283
 v182:=Tryz.zeroValue283
 t183:=Tryz.underlying284
 a183:=Tryz.isAgg284
 z183:=Tryz.sizeOf284
 v183:=Tryz.zeroValue284
 t218:=Tryz.underlying310
 a218:=Tryz.isAgg310
 z218:=Tryz.sizeOf310
 v218:=Tryz.zeroValue310
 t222:=Tryz.underlying314
 a222:=Tryz.isAgg314
 z222:=Tryz.sizeOf314
 v222:=Tryz.zeroValue314
 t228:=Tryz.underlying326
 a228:=Tryz.isAgg326
 z228:=Tryz.sizeOf326
 v228:=Tryz.zeroValue326
 t229:=Tryz.underlying327
 a229:=Tryz.isAgg327
 z229:=Tryz.sizeOf327
 v229:=Tryz.zeroValue327 }
open Go.Sort Go.RowKit in
theorem Tryz.slices_Sort_string (blk off cap:Nat) (ss:List (List UInt8)) (w:World) (hH:Holds encStr w blk off ss.toArray) (hblk:blk<w.heap.size) (hsz:ss.length<4611686018427387904):
  Calls Tryz.prog 165 #[.slice (some ⟨blk,off,none⟩) ss.length cap] w fun e w' =>
   e = .returned (.tuple #[])∧∃n os,w'=grow (putRow encStr (Sort.ahead w n) blk off (ss.mergeSort fun x y=>decide (x≤y)).toArray) os:=Any.slices_Sort_string Tryz.lays190 blk off cap ss w hH hblk hsz
open Go.RowKit Go.Sort in
theorem Tryz.slices_Sort_string_none (p:Option Addr) (cap:Nat) (w:World):
  Calls Tryz.prog 165 #[.slice p 0 cap] w fun e w'=>e = .returned (.tuple #[])∧w'=w:=Any.slices_Sort_string_none Tryz.lays190 p cap w
end Go.Proofs
end
