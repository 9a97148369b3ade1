/- TidyRuns returns true for every input: the whole claim. No condition. -/
import Derived.Test.YtheokcjommfopaaGreatDoorM34
import Derived.Test.YtheokcjommfopaaGreatDoorM35
import Derived.Test.YtheokcjommfopaaGreatDoorM5
namespace Go.Proofs.YtheokcjommfopaaGreatDoor
open Go.Sy
open Go.ChangeShapes Go.WideShapes Go.ChangeAt Go.RowKit
set_option maxRecDepth 100000 in
theorem lifted (os:Os) (started:os.Started) (H:Type) (enc:TypeId×Value→H):
  ReturnsInHanded {} Tryz.checked os 6 .any (fun w args=>(Rows.tidyRunsSpec.pre enc Tryz.prog Tryz.f6 [] false w args∧laidMetH Tryz.prog laidT w)∧sizedMet enc Tryz.prog Tryz.f6 (OpenSpec.ofChange Rows.tidyRunsSpec) false w args)
   (Rows.tidyRunsSpec.post enc Tryz.prog Tryz.f6 false true false false):=by
 refine returnsInHanded_of_change_and (C:=Tryz.checked) (X:=fun w _=>laidMetH Tryz.prog laidT w) (fun _ _ _ hh h=>h.of_heap hh) own started (by kernel_rfl) Tryz.func6
  (ChangeSpec.witness_shaped (enc:=enc) (C:=Tryz.checked) (os:=os) (X:=fun w _=>laidMetH Tryz.prog laidT w) false (World.doorLaid Tryz.prog 14 os) #[.agg #[.slice none 0 0],.slice none 0 0,.int .i64 0] 8 rfl (World.shaped_of_RefB (by kernel_rfl) (by kernel_rfl)) (by kernel_rfl) (by kernel_rfl) (by kernel_rfl) (door_met os _)) ?_
 intro W base args ds gs before hval0 hW _ _ hL _;have hval:∀(j:Nat) t v,Tryz.f6.params[j]?=some t→args[j]?=some v→Value.okWide Tryz.prog W .any base t v:=hval0;have hW':=hW;obtain⟨p,q,hA0,hV,rfl,hfz,hnd⟩:=hW;have hA:DataW.TrodAll enc Tryz.prog W 0 (fun _=>true) true Tryz.f6.params.toList args.toList ds p:=hA0;rw[Tryz.params6]at hA hval;obtain⟨v0,vs0,d0,ds0,p0,q0,hargs,rfl,rfl,h0,r0⟩:=trodAll_cons hA;obtain⟨v1,vs1,d1,ds1,p1,q1,rfl,rfl,rfl,h1,r1⟩:=trodAll_cons r0;obtain⟨v2,vs2,d2,ds2,p2,q2,rfl,rfl,rfl,h2,r2⟩:=trodAll_cons r1;obtain⟨rfl,rfl,rfl⟩:=trodAll_nil r2
 obtain rfl:args=#[v0,v1,v2]:=by cases args;simp_all
 obtain⟨rfl,rfl⟩:=trodVars_none hV;have hT:=tabH_of_laid hL;obtain⟨c0,rfl,-⟩:=okWide_struct (tt_ok 24 _ _ rfl).2 (hval 0 24 v0 rfl rfl);obtain⟨sa1,sn1,sc1,rfl⟩:=okWide_slice (tt_ok 25 _ _ rfl).2 (hval 1 25 v1 rfl rfl);obtain⟨x2,rfl⟩:=okWide_int (tt_ok 3 _ _ rfl).2 (hval 2 3 v2 rfl rfl);obtain⟨b0,e00⟩:=opens_val oProg h0;obtain⟨a0,m0,k0,e0,hl0⟩:=e00;obtain⟨b1,a1,m1,k1,e1,hl1⟩:=opens_val oNums h1;simp only[Value.cells,List.cons.injEq,and_true,Value.slice.injEq]at e1;obtain⟨rfl,rfl,rfl⟩:=e1;refine law_post (tb:=4) laidOut (by kernel_rfl) (by kernel_rfl) (by kernel_rfl) rfl rfl rfl rfl hW' ?_;have:=TidyRuns_spec (H:=hpOf W) (K:=fun v _=>v = .bool true) (most:=x2) hl0 hl1 hT (fun _ _=>rfl);rw[←Array.toArray_toList (xs:=c0)];simp only[Value.cells]at e0;rw[e0];exact this
theorem row_holds:Rows.TidyRunsSaid :=
 OpenClaim.holds_of_wide 6 Tryz.f6 rfl rfl rfl rfl rfl rfl rfl ⟨rfl,rfl,rfl,rfl,rfl⟩ rfl rfl rfl rfl rfl (by kernel_rfl) Tryz.func6 facts_TidyRuns
  (of_decide_eq_true (by kernel_rfl)) (by unfold Func.isWrapper;first | (rw[if_pos (by decide +kernel)];kernel_rfl) | (rw[if_neg (by decide +kernel)];exact⟨rfl,rfl⟩))
  (fun os started H enc _=>lifted os started H enc)
theorem TidyRuns_holds:Rows.TidyRunsCardSaid :=
 Claim7.holds_tied_plain_at .later [] [.data] true (true, "0727561a35e6b4cc8a2f45baa14af9e7500ba553f2fb0ca3ae0f5673a8046414") false
  row_holds (fun _ h=>by cases h) (by kernel_rfl) (fun _ h=>by cases h) tidyRuns_row_tie rfl ⟨rfl,rfl⟩ (by kernel_rfl) rfl
  (fun f fn hf hfn=>by
   obtain rfl : f = 6 := Option.some.inj ((show Tryz.prog.funcNamed "sough/soughlaw49.TidyRuns" = some 6 by kernel_rfl).symm.trans hf) |>.symm
   obtain rfl:fn=Tryz.f6:=(Option.some.inj (Tryz.func6.symm.trans hfn)).symm
   exact⟨by kernel_rfl,fun j t ht=>by
    rw[Tryz.params6]at ht
    have hm:t∈[24,25,3]:=by simpa using Array.mem_of_getElem? ht
    have hall:([24,25,3].all fun u=>!Tryz.prog.wantsStandIn u)=true:=by kernel_rfl
    exact (show Tryz.prog.wantsStandIn t=false by simpa using List.all_eq_true.1 hall t hm)⟩)
  (by kernel_rfl)
#print axioms TidyRuns_holds
end Go.Proofs.YtheokcjommfopaaGreatDoor
