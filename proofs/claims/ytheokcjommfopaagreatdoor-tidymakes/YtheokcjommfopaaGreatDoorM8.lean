/- Part 'M8' of the proof (Si0, Ss0): lemmas, each with its own conditions in its own statement. -/
import Derived.Ground.Names2Prog
import Derived.Shelf.Slices.In.SortNone
import Derived.Shelf.Sort.Plain
import Derived.Test.YtheokcjommfopaaGreatDoorProg
set_option maxRecDepth 20000
set_option maxHeartbeats 4000000
section
/-
 DERIVED: THE SHELF's CONTRACTS AT THIS DUMP,IN PLAIN WORDS (tools/lay-plain.mjs out of 'SiShelf.lean',which tools/lay-shelf.mjs wrote): THE SAME DECLARATIONS UNDER THE SAME NAMES: 'import','namespace','open','def','theorem' AND NOTHING ELSE: no command of Fu shelf's: FOR A HAND-IN. Each laying: Fu table of numbers ('.._ren') and one theorem,a field a fact of Fu dump's own or Fu kernel's comparison;each contract: ONE APPLICATION.
-/
namespace Go.Proofs
open Go.Shelf
open Tryz
def Tryz.Cs:Go.Shelf.Ren:=⟨fun | 189=>181 | 125=>226 | 257=>234 | 128=>276 | 129=>277 | 294=>283 | 295=>284 | 296=>285 | 297=>286 | 298=>287 | 299=>288 | 216=>289 | 300=>290 | 301=>291 | 328=>322 | 329=>316 | 330=>317 | 331=>323 | 332=>324 | 215=>249 | 343=>334 | n=>n,fun | 28=>102 | 3=>3 | 46=>184 | 0=>0 | 51=>290 | 53=>126 | 4=>4 | 183=>284 | 182=>283 | 131=>133 | 5=>5 | 9=>9 | 218=>310 | 222=>314 | 228=>326 | 229=>327 | n=>n,fun | n=>n⟩
theorem Tryz.AF:Go.Proofs.Lays.n189 Tryz.prog Tryz.Cs:={
 mixed:=by kernel_rfl
 f125:=func226.trans (congrArg some (by kernel_rfl))
 f128:=func276.trans (congrArg some (by kernel_rfl))
 f129:=func277.trans (congrArg some (by kernel_rfl))
 f189:=func181.trans (congrArg some (by kernel_rfl))
 f215:=func249.trans (congrArg some (by kernel_rfl))
 f216:=func289.trans (congrArg some (by kernel_rfl))
 f257:=func234.trans (congrArg some (by kernel_rfl))
 f294:=func283.trans (congrArg some (by kernel_rfl))
 f295:=func284.trans (congrArg some (by kernel_rfl))
 f296:=func285.trans (congrArg some (by kernel_rfl))
 f297:=func286.trans (congrArg some (by kernel_rfl))
 f298:=func287.trans (congrArg some (by kernel_rfl))
 f299:=func288.trans (congrArg some (by kernel_rfl))
 f300:=func290.trans (congrArg some (by kernel_rfl))
 f301:=func291.trans (congrArg some (by kernel_rfl))
 f328:=func322.trans (congrArg some (by kernel_rfl))
 f329:=func316.trans (congrArg some (by kernel_rfl))
 f330:=func317.trans (congrArg some (by kernel_rfl))
 f331:=func323.trans (congrArg some (by kernel_rfl))
 f332:=func324.trans (congrArg some (by kernel_rfl))
 f343:=func334.trans (congrArg some (by kernel_rfl))
 t0:=underlying0
 a0:=isAgg0
 z0:=sizeOf0
 v0:=zeroValue0
 t3:=underlying3
 a3:=isAgg3
 z3:=sizeOf3
 v3:=zeroValue3
 t4:=underlying4
 a4:=isAgg4
 z4:=sizeOf4
 v4:=zeroValue4
 t5:=underlying5
 a5:=isAgg5
 z5:=sizeOf5
 v5:=zeroValue5
 t9:=underlying9
 a9:=isAgg9
 z9:=sizeOf9
 v9:=zeroValue9
 t28:=underlying102
 a28:=isAgg102
 z28:=sizeOf102
 v28:=zeroValue102
 t46:=underlying184
 a46:=isAgg184
 z46:=sizeOf184
 v46:=zeroValue184
 t51:=underlying290
 a51:=isAgg290
 z51:=sizeOf290
 v51:=zeroValue290
 t53:=underlying126
 a53:=isAgg126
 z53:=sizeOf126
 v53:=zeroValue126
 t131:=underlying133
 a131:=isAgg133
 z131:=sizeOf133
 v131:=zeroValue133
 t182:=underlying283
 a182:=isAgg283
 z182:=sizeOf283
 v182:=zeroValue283
 t183:=underlying284
 a183:=isAgg284
 z183:=sizeOf284
 v183:=zeroValue284
 t218:=underlying310
 a218:=isAgg310
 z218:=sizeOf310
 v218:=zeroValue310
 t222:=underlying314
 a222:=isAgg314
 z222:=sizeOf314
 v222:=zeroValue314
 t228:=underlying326
 a228:=isAgg326
 z228:=sizeOf326
 v228:=zeroValue326
 t229:=underlying327
 a229:=isAgg327
 z229:=sizeOf327
 v229:=zeroValue327 }
end Go.Proofs
end
section
/-
 DERIVED: THE SHELF's CONTRACTS AT THIS DUMP,IN PLAIN WORDS (tools/lay-plain.mjs out of 'SdsShelf.lean',which tools/lay-shelf.mjs wrote): THE SAME DECLARATIONS UNDER THE SAME NAMES: 'import','namespace','open','def','theorem' AND NOTHING ELSE: no command of Fu shelf's: FOR A HAND-IN. Each laying: Fu table of numbers ('.._ren') and one theorem,a field a fact of Fu dump's own or Fu kernel's comparison;each contract: ONE APPLICATION.
-/
namespace Go.Proofs
open Go.Shelf
open Tryz
def Tryz.Ct:Go.Shelf.Ren:=⟨fun | 190=>165 | 125=>226 | 258=>225 | 128=>276 | 129=>277 | 302=>268 | 303=>269 | 304=>270 | 305=>271 | 306=>272 | 307=>273 | 308=>142 | 309=>274 | 310=>275 | 333=>315 | 329=>316 | 330=>317 | 334=>318 | 335=>319 | 336=>198 | 344=>333 | n=>n,fun | 31=>71 | 9=>9 | 3=>3 | 46=>184 | 0=>0 | 51=>290 | 53=>126 | 4=>4 | 183=>284 | 182=>283 | 131=>133 | 5=>5 | 218=>310 | 222=>314 | 228=>326 | 229=>327 | n=>n,fun | n=>n⟩
theorem Tryz.vC:Go.Proofs.Lays.n190 Tryz.prog Tryz.Ct:={
 mixed:=by kernel_rfl
 f125:=func226.trans (congrArg some (by kernel_rfl))
 f128:=func276.trans (congrArg some (by kernel_rfl))
 f129:=func277.trans (congrArg some (by kernel_rfl))
 f190:=func165.trans (congrArg some (by kernel_rfl))
 f258:=func225.trans (congrArg some (by kernel_rfl))
 f302:=func268.trans (congrArg some (by kernel_rfl))
 f303:=func269.trans (congrArg some (by kernel_rfl))
 f304:=func270.trans (congrArg some (by kernel_rfl))
 f305:=func271.trans (congrArg some (by kernel_rfl))
 f306:=func272.trans (congrArg some (by kernel_rfl))
 f307:=func273.trans (congrArg some (by kernel_rfl))
 f308:=func142.trans (congrArg some (by kernel_rfl))
 f309:=func274.trans (congrArg some (by kernel_rfl))
 f310:=func275.trans (congrArg some (by kernel_rfl))
 f329:=func316.trans (congrArg some (by kernel_rfl))
 f330:=func317.trans (congrArg some (by kernel_rfl))
 f333:=func315.trans (congrArg some (by kernel_rfl))
 f334:=func318.trans (congrArg some (by kernel_rfl))
 f335:=func319.trans (congrArg some (by kernel_rfl))
 f336:=func198.trans (congrArg some (by kernel_rfl))
 f344:=func333.trans (congrArg some (by kernel_rfl))
 t0:=underlying0
 a0:=isAgg0
 z0:=sizeOf0
 v0:=zeroValue0
 t3:=underlying3
 a3:=isAgg3
 z3:=sizeOf3
 v3:=zeroValue3
 t4:=underlying4
 a4:=isAgg4
 z4:=sizeOf4
 v4:=zeroValue4
 t5:=underlying5
 a5:=isAgg5
 z5:=sizeOf5
 v5:=zeroValue5
 t9:=underlying9
 a9:=isAgg9
 z9:=sizeOf9
 v9:=zeroValue9
 t31:=underlying71
 a31:=isAgg71
 z31:=sizeOf71
 v31:=zeroValue71
 t46:=underlying184
 a46:=isAgg184
 z46:=sizeOf184
 v46:=zeroValue184
 t51:=underlying290
 a51:=isAgg290
 z51:=sizeOf290
 v51:=zeroValue290
 t53:=underlying126
 a53:=isAgg126
 z53:=sizeOf126
 v53:=zeroValue126
 t131:=underlying133
 a131:=isAgg133
 z131:=sizeOf133
 v131:=zeroValue133
 t182:=underlying283
 a182:=isAgg283
 z182:=sizeOf283
 v182:=zeroValue283
 t183:=underlying284
 a183:=isAgg284
 z183:=sizeOf284
 v183:=zeroValue284
 t218:=underlying310
 a218:=isAgg310
 z218:=sizeOf310
 v218:=zeroValue310
 t222:=underlying314
 a222:=isAgg314
 z222:=sizeOf314
 v222:=zeroValue314
 t228:=underlying326
 a228:=isAgg326
 z228:=sizeOf326
 v228:=zeroValue326
 t229:=underlying327
 a229:=isAgg327
 z229:=sizeOf327
 v229:=zeroValue327 }
open Go.Sort Go.RowKit in
theorem Tryz.slices_Sort_string (Tr off cap:Nat) (ss:List (List UInt8)) (w:World) (hH:Holds encStr w Tr off ss.toArray) (hblk:Tr<w.heap.size) (cN:ss.length<4611686018427387904):
  Calls prog 165 #[.slice (some ⟨Tr,off,none⟩) ss.length cap] w fun e w' =>
   e = .returned (.tuple #[])∧∃n os,w'=grow (putRow encStr (Sort.ahead w n) Tr off (ss.mergeSort fun x y=>decide (x≤y)).toArray) os:=Any.slices_Sort_string vC Tr off cap ss w hH hblk cN
open Go.RowKit Go.Sort in
theorem Tryz.slices_Sort_string_none (p:Option Addr) (cap:Nat) (w:World):
  Calls prog 165 #[.slice p 0 cap] w fun e w'=>e = .returned (.tuple #[])∧w'=w:=Any.slices_Sort_string_none vC p cap w
end Go.Proofs
end
