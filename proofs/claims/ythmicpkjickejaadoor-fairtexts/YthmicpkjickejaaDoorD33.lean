/- FairTexts returns true for every input: the whole claim. No condition. -/
import Derived.Test.YthmicpkjickejaaDoorM1
import Derived.Test.YthmicpkjickejaaDoorM12
import Derived.Test.YthmicpkjickejaaDoorM14
namespace Go.Proofs.YthmicpkjickejaaDoor
open Go.Sy
open Go.ChangeShapes Go.WideShapes Go.ChangeAt Go.RowKit
set_option maxRecDepth 100000 in
theorem lifted (os:Os) (started:os.Started) (H:Type) (enc:TypeId×Value→H):
  ReturnsInHanded {} Tryd.checked os 3 .any (fun w args=>(Rows.fairTextsSpec.pre enc Tryd.prog Tryd.f3 [] false w args∧laidMetH Tryd.prog laidT w)∧sizedMet enc Tryd.prog Tryd.f3 (OpenSpec.ofChange Rows.fairTextsSpec) false w args)
   (Rows.fairTextsSpec.post enc Tryd.prog Tryd.f3 false true false false):=by
 refine returnsInHanded_of_change_and (C:=Tryd.checked) (X:=fun w _=>laidMetH Tryd.prog laidT w) (fun _ _ _ hh h=>h.of_heap hh) own started (by kernel_rfl) Tryd.func3
  (ChangeSpec.witness_shaped (enc:=enc) (C:=Tryd.checked) (os:=os) (X:=fun w _=>laidMetH Tryd.prog laidT w) false (World.laidAll Tryd.prog os laidT) #[.slice none 0 0,.string ⟨#[]⟩] 8 (World.laidAll_os _ _ _)
   (World.shaped_of_ZipB (by kernel_rfl) (by kernel_rfl)) (by kernel_rfl) (by kernel_rfl) (by kernel_rfl)
   (by rw[MakeChecks.laidMetH_plain _ _ _ (by kernel_rfl)];exact laidMet_laidAll _ (by kernel_rfl) (by kernel_rfl))) ?_
 intro W base args ds gs before hval0 hW _ _ hL _;have hval:∀(j:Nat) t v,Tryd.f3.params[j]?=some t→args[j]?=some v→Value.okWide Tryd.prog W .any base t v:=hval0;have hW':=hW;obtain⟨p,q,hA0,hV,rfl,hfz,hnd⟩:=hW;have hA:DataW.TrodAll enc Tryd.prog W 0 (fun _=>true) true Tryd.f3.params.toList args.toList ds p:=hA0;rw[Tryd.params3]at hA hval;obtain⟨v0,vs0,d0,ds0,p0,q0,hargs,rfl,rfl,h0,r0⟩:=trodAll_cons hA;obtain⟨v1,vs1,d1,ds1,p1,q1,rfl,rfl,rfl,h1,r1⟩:=trodAll_cons r0;obtain⟨rfl,rfl,rfl⟩:=trodAll_nil r1
 obtain rfl:args=#[v0,v1]:=by cases args;simp_all
 obtain⟨rfl,rfl⟩:=trodVars_none hV;obtain⟨sa,sn,sc,rfl⟩:=okWide_slice (tt_ok 22 _ _ rfl).2 (hval 0 22 v0 rfl rfl);obtain⟨s1,rfl⟩:=okWide_string (tt_ok 9 _ _ rfl).2 (hval 1 9 v1 rfl rfl);obtain⟨b0,a0,m0,c0,e0,hl0⟩:=opens_val oPicks h0;obtain⟨b1,e1,e2⟩:=opens_val oStr h1;simp only[Value.cells,List.cons.injEq,and_true,Value.slice.injEq,Value.string.injEq]at e0 e1;obtain⟨rfl,rfl,rfl⟩:=e0;subst e1;refine law_post (tb:=4) laidOut (by kernel_rfl) (by kernel_rfl) (by kernel_rfl) rfl rfl rfl rfl hW' ?_;have:=FairTexts_spec (s:=b1) (H:=hpOf W) (K:=fun v _=>v = .bool true) hl0 (fun _ _=>rfl);exact this
theorem row_holds:Rows.FairTextsSaid :=
 OpenClaim.holds_of_wide 3 Tryd.f3 rfl rfl rfl rfl rfl rfl rfl ⟨rfl,rfl,rfl,rfl,rfl⟩ rfl rfl rfl rfl rfl (by kernel_rfl) Tryd.func3 facts_FairTexts
  (of_decide_eq_true (by kernel_rfl)) (by unfold Func.isWrapper;first | (rw[if_pos (by decide +kernel)];kernel_rfl) | (rw[if_neg (by decide +kernel)];exact⟨rfl,rfl⟩))
  (fun os started H enc _=>lifted os started H enc)
theorem FairTexts_holds:Rows.FairTextsCardSaid :=
 Claim7.holds_tied_plain_at .later [] [.data, .pinned] true (true, "5755fe442577b8befb09328251ba7599a2867afd6d7a2af54776842c81fe863f") false
  row_holds (fun _ h=>by cases h) (by kernel_rfl) (fun _ h=>by cases h) fairTexts_row_tie rfl ⟨rfl,rfl⟩ (by kernel_rfl) rfl
  (fun f fn hf hfn=>by
   obtain rfl : f = 3 := Option.some.inj ((show Tryd.prog.funcNamed "sough/soughlaw26.FairTexts" = some 3 by kernel_rfl).symm.trans hf) |>.symm
   obtain rfl:fn=Tryd.f3:=(Option.some.inj (Tryd.func3.symm.trans hfn)).symm
   exact⟨by kernel_rfl,fun j t ht=>by
    rw[Tryd.params3]at ht
    have hm:t∈[22,9]:=by simpa using Array.mem_of_getElem? ht
    have hall:([22,9].all fun u=>!Tryd.prog.wantsStandIn u)=true:=by kernel_rfl
    exact (show Tryd.prog.wantsStandIn t=false by simpa using List.all_eq_true.1 hall t hm)⟩)
  (by kernel_rfl)
#print axioms FairTexts_holds
end Go.Proofs.YthmicpkjickejaaDoor
