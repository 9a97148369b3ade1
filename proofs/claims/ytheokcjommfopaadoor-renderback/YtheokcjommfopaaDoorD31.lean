/- RenderBack returns true for every input: the whole claim. No condition. -/
import Derived.Test.YtheokcjommfopaaDoorM1
import Derived.Test.YtheokcjommfopaaDoorM12
import Derived.Test.YtheokcjommfopaaDoorM14
namespace Go.Proofs.YtheokcjommfopaaDoor
open Go.Sy
open Go.ChangeShapes Go.WideShapes Go.ChangeAt Go.RowKit
set_option maxRecDepth 100000 in
theorem lifted (os:Os) (started:os.Started) (H:Type) (enc:TypeId×Value→H):
  ReturnsInHanded {} Tryd.checked os 4 .any (fun w args=>(Rows.renderBackSpec.pre enc Tryd.prog Tryd.f4 [] false w args∧laidMetH Tryd.prog laidT w)∧sizedMet enc Tryd.prog Tryd.f4 (OpenSpec.ofChange Rows.renderBackSpec) false w args)
   (Rows.renderBackSpec.post enc Tryd.prog Tryd.f4 false true false false):=by
 refine returnsInHanded_of_change_and (C:=Tryd.checked) (X:=fun w _=>laidMetH Tryd.prog laidT w) (fun _ _ _ hh h=>h.of_heap hh) own started (by kernel_rfl) Tryd.func4
  (ChangeSpec.witness_shaped (enc:=enc) (C:=Tryd.checked) (os:=os) (X:=fun w _=>laidMetH Tryd.prog laidT w) false (World.laidAll Tryd.prog os laidT) #[.agg #[.int .i64 0,.slice none 0 0],.agg #[.int .i64 0,.slice none 0 0]] 8 (World.laidAll_os _ _ _)
   (World.shaped_of_ZipB (by kernel_rfl) (by kernel_rfl)) (by kernel_rfl) (by kernel_rfl) (by kernel_rfl)
   (by rw[MakeChecks.laidMetH_plain _ _ _ (by kernel_rfl)];exact laidMet_laidAll _ (by kernel_rfl) (by kernel_rfl))) ?_
 intro W base args ds gs before hval0 hW _ _ hL _;have hval:∀(j:Nat) t v,Tryd.f4.params[j]?=some t→args[j]?=some v→Value.okWide Tryd.prog W .any base t v:=hval0;have hW':=hW;obtain⟨p,q,hA0,hV,rfl,hfz,hnd⟩:=hW;have hA:DataW.TrodAll enc Tryd.prog W 0 (fun _=>true) true Tryd.f4.params.toList args.toList ds p:=hA0;rw[Tryd.params4]at hA hval;obtain⟨v0,vs0,d0,ds0,p0,q0,hargs,rfl,rfl,h0,r0⟩:=trodAll_cons hA;obtain⟨v1,vs1,d1,ds1,p1,q1,rfl,rfl,rfl,h1,r1⟩:=trodAll_cons r0;obtain⟨rfl,rfl,rfl⟩:=trodAll_nil r1
 obtain rfl:args=#[v0,v1]:=by cases args;simp_all
 obtain⟨rfl,rfl⟩:=trodVars_none hV;obtain⟨c0,rfl,-⟩:=okWide_struct (tt_ok 25 _ _ rfl).2 (hval 0 25 v0 rfl rfl);obtain⟨c1,rfl,-⟩:=okWide_struct (tt_ok 25 _ _ rfl).2 (hval 1 25 v1 rfl rfl);obtain⟨b0,e0⟩:=opens_val oRep h0;obtain⟨b1,e1⟩:=opens_val oRep h1;refine law_post (tb:=4) laidOut (by kernel_rfl) (by kernel_rfl) (by kernel_rfl) rfl rfl rfl rfl hW' ?_;have:=RenderBack_spec (H:=hpOf W) (K:=fun v _=>v = .bool true) e0 e1 (fun _ _=>rfl);simp only[Value.cells]at this;rw[Array.toArray_toList,Array.toArray_toList]at this;exact this
theorem row_holds:Rows.RenderBackSaid :=
 OpenClaim.holds_of_wide 4 Tryd.f4 rfl rfl rfl rfl rfl rfl rfl ⟨rfl,rfl,rfl,rfl,rfl⟩ rfl rfl rfl rfl rfl (by kernel_rfl) Tryd.func4 facts_RenderBack
  (of_decide_eq_true (by kernel_rfl)) (by unfold Func.isWrapper;first | (rw[if_pos (by decide +kernel)];kernel_rfl) | (rw[if_neg (by decide +kernel)];exact⟨rfl,rfl⟩))
  (fun os started H enc _=>lifted os started H enc)
theorem RenderBack_holds:Rows.RenderBackCardSaid :=
 Claim7.holds_tied_plain_at .later [] [.data, .pinned] true (true, "a8f3591521e7893e379ab30cd025deee45633e0ee864b3306e578aba69f68caf") false
  row_holds (fun _ h=>by cases h) (by kernel_rfl) (fun _ h=>by cases h) renderBack_row_tie rfl ⟨rfl,rfl⟩ (by kernel_rfl) rfl
  (fun f fn hf hfn=>by
   obtain rfl : f = 4 := Option.some.inj ((show Tryd.prog.funcNamed "sough/soughlaw43.RenderBack" = some 4 by kernel_rfl).symm.trans hf) |>.symm
   obtain rfl:fn=Tryd.f4:=(Option.some.inj (Tryd.func4.symm.trans hfn)).symm
   exact⟨by kernel_rfl,fun j t ht=>by
    rw[Tryd.params4]at ht
    have hm:t∈[25,25]:=by simpa using Array.mem_of_getElem? ht
    have hall:([25,25].all fun u=>!Tryd.prog.wantsStandIn u)=true:=by kernel_rfl
    exact (show Tryd.prog.wantsStandIn t=false by simpa using List.all_eq_true.1 hall t hm)⟩)
  (by kernel_rfl)
#print axioms RenderBack_holds
end Go.Proofs.YtheokcjommfopaaDoor
