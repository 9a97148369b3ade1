/- Part 'M17' of the proof (Sf0): lemmas, each with its own conditions in its own statement. -/
import Derived.Ground.Names2Prog
import Derived.Ground.SlgnProg
import Derived.Ground.SlsfProg
import Derived.Shelf.SlSortCmp.HeapSort1
import Derived.Shelf.SlSortCmp.Insertion
import Derived.Shelf.SlSortCmp.Insertion1
import Derived.Shelf.SlSortCmp.Median1
import Derived.Shelf.SlSortCmp.NoneTotal
import Derived.Shelf.SlSortCmp.PartialInsertion1
import Derived.Shelf.SlSortCmp.Partition1
import Derived.Shelf.SlSortCmp.PartitionEqual1
import Derived.Shelf.SlSortCmp.Pdq1
import Derived.Shelf.SlSortCmp.Pivot1
import Derived.Shelf.SlSortCmp.ReverseRange1
import Derived.Shelf.SlSortCmp.SiftDown1
import Derived.Shelf.SlSortCmp.Whole1
import Derived.Test.YtheokcjommfopaaGreatDoorProg
set_option maxRecDepth 20000
set_option maxHeartbeats 4000000
namespace Go.Proofs
open Go.Shelf
open Tryz
def Tryz.A0:Go.Shelf.Ren:=⟨fun | 6=>201 | 15=>226 | 14=>248 | 28=>276 | 29=>277 | 20=>298 | 21=>299 | 22=>300 | 23=>301 | 24=>302 | 25=>303 | 26=>304 | 27=>305 | 46=>328 | 47=>316 | 48=>317 | 49=>329 | 50=>330 | 57=>335 | n=>n,fun | 22=>101 | 24=>172 | 25=>235 | 3=>3 | 39=>184 | 0=>0 | 53=>290 | 55=>126 | 4=>4 | 46=>284 | 45=>283 | 50=>133 | 5=>5 | 9=>9 | 66=>310 | 70=>314 | 76=>326 | 77=>327 | n=>n,fun | n=>n⟩
theorem Tryz.Ml:Go.Proofs.SlLaysF0.n6 Tryz.prog Tryz.A0:={
 mixed:=by kernel_rfl
 f6:=⟨f201.name,by decide,func201.trans (congrArg some (by kernel_rfl))⟩
 f14:=⟨f248.name,by decide,func248.trans (congrArg some (by kernel_rfl))⟩
 f15:=func226.trans (congrArg some (by kernel_rfl))
 f20:=⟨f298.name,by decide,func298.trans (congrArg some (by kernel_rfl))⟩
 f21:=⟨f299.name,by decide,func299.trans (congrArg some (by kernel_rfl))⟩
 f22:=⟨f300.name,by decide,func300.trans (congrArg some (by kernel_rfl))⟩
 f23:=⟨f301.name,by decide,func301.trans (congrArg some (by kernel_rfl))⟩
 f24:=⟨f302.name,by decide,func302.trans (congrArg some (by kernel_rfl))⟩
 f25:=⟨f303.name,by decide,func303.trans (congrArg some (by kernel_rfl))⟩
 f26:=⟨f304.name,by decide,func304.trans (congrArg some (by kernel_rfl))⟩
 f27:=⟨f305.name,by decide,func305.trans (congrArg some (by kernel_rfl))⟩
 f28:=func276.trans (congrArg some (by kernel_rfl))
 f29:=func277.trans (congrArg some (by kernel_rfl))
 f46:=⟨f328.name,by decide,func328.trans (congrArg some (by kernel_rfl))⟩
 f47:=func316.trans (congrArg some (by kernel_rfl))
 f48:=func317.trans (congrArg some (by kernel_rfl))
 f49:=⟨f329.name,by decide,func329.trans (congrArg some (by kernel_rfl))⟩
 f50:=⟨f330.name,by decide,func330.trans (congrArg some (by kernel_rfl))⟩
 f57:=⟨f335.name,by decide,func335.trans (congrArg some (by kernel_rfl))⟩
 t0:=underlying0
 a0:=isAgg0
 z0:=sizeOf0
 v0:=zeroValue0
 t3:=underlying3
 a3:=isAgg3
 z3:=sizeOf3
 v3:=zeroValue3
 t4:=underlying4
 a4:=isAgg4
 z4:=sizeOf4
 v4:=zeroValue4
 t5:=underlying5
 a5:=isAgg5
 z5:=sizeOf5
 v5:=zeroValue5
 t9:=underlying9
 a9:=isAgg9
 z9:=sizeOf9
 v9:=zeroValue9
 t22:=underlying101
 a22:=isAgg101
 z22:=sizeOf101
 v22:=zeroValue101
 t25:=underlying235
 a25:=isAgg235
 z25:=sizeOf235
 v25:=zeroValue235
 t39:=underlying184
 a39:=isAgg184
 z39:=sizeOf184
 v39:=zeroValue184
 t45:=underlying283
 a45:=isAgg283
 z45:=sizeOf283
 v45:=zeroValue283
 t46:=underlying284
 a46:=isAgg284
 z46:=sizeOf284
 v46:=zeroValue284
 t50:=underlying133
 a50:=isAgg133
 z50:=sizeOf133
 v50:=zeroValue133
 t53:=underlying290
 a53:=isAgg290
 z53:=sizeOf290
 v53:=zeroValue290
 t55:=underlying126
 a55:=isAgg126
 z55:=sizeOf126
 v55:=zeroValue126
 t66:=underlying310
 a66:=isAgg310
 z66:=sizeOf310
 v66:=zeroValue310
 t70:=underlying314
 a70:=isAgg314
 z70:=sizeOf314
 v70:=zeroValue314
 t76:=underlying326
 a76:=isAgg326
 z76:=sizeOf326
 v76:=zeroValue326
 t77:=underlying327
 a77:=isAgg327
 z77:=sizeOf327
 v77:=zeroValue327 }
end Go.Proofs
