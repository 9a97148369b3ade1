/- Part 'M35' of the proof (Dr0): lemmas, each with its own conditions in its own statement. -/
import Derived.LaidMore
import Derived.Lib.LaidTab
import Derived.ProofKit
import Derived.SevenTiedAt
import Derived.Test.YtheokcjommfopaaGreatDoorCards
import Derived.Test.YtheokcjommfopaaGreatDoorTie
import Derived.Test.YtheokcjommfopaaGreatDoorM25
import Derived.Test.YtheokcjommfopaaGreatDoorM33
set_option maxRecDepth 20000
set_option maxHeartbeats 4000000
namespace Go.Proofs.YtheokcjommfopaaGreatDoor
open Go.Sy
open Go.ChangeShapes Go.WideShapes Go.ChangeAt Go.RowKit
abbrev EZ {H : Type} : List (String × DataW H) := [("math/bits.deBruijn64tab", Rows.laid_math_bits_deBruijn64tab)]
theorem B0 {W:World} (h:laidMetH Tryz.prog EZ W):pC (Dk W):=by
 rw[MakeChecks.laidMetH_plain _ _ _ (by kernel_rfl)]at h
 have ht := Lib.tabIs_of_head (P := Tryz.prog) (W := W) (name := "math/bits.deBruijn64tab") (k := .u8) (zs := Lib.deBruijn64tab.map fun n : Nat => (n : Int)) (rest := []) (g := 0) (t := 281) (e := 5) (n := 64)
  (by kernel_rfl) (by kernel_rfl) (by kernel_rfl) (by kernel_rfl) (by kernel_rfl) (by kernel_rfl) h
 have hc:∀j,j<64→W.cell? ⟨0,j,none⟩=some (.int .u8 (Lib.deBruijn64tab.getD j 0)):=fun j hj=>by
  have:=Lib.TabIs.cell ht (g:=0) (by kernel_rfl) j (by exact hj);have hl:j<Lib.deBruijn64tab.length:=hj;rw[this,List.getD_eq_getElem?_getD,List.getElem?_map,List.getD_eq_getElem?_getD,aL hl]
  rfl
 obtain⟨_,c,T,fr,h1,h2⟩:=r7 (hc 0 (by decide));refine⟨c,T,fr,h1,fun j hj=>?_⟩;obtain⟨_,c',T',Xz,h3,h4⟩:=r7 (hc j hj);have h3:W.heap[0]?=some (.cells c' T' Xz):=h3;have h1:W.heap[0]?=some (.cells c T fr):=h1;rw[h1]at h3;cases h3;exact h4
theorem NT (os:Os) (args:Array Value):laidMetH Tryz.prog EZ ((World.doorLaid Tryz.prog 14 os).forCall (fun _ _=>0) ⟨#[],args,[]⟩).memory :=
 laidMetH_of_parts3 (fuel:=8) (laidMet_of_run' 8 (by kernel_rfl) (by kernel_rfl)) (by kernel_rfl) (by kernel_rfl)
end Go.Proofs.YtheokcjommfopaaGreatDoor
