/- TidyMakes returns true for every input: the whole claim. No condition. -/
import Derived.Test.YtheokcjommfopaaGreatDoorM34
import Derived.Test.YtheokcjommfopaaGreatDoorM35
import Derived.Test.YtheokcjommfopaaGreatDoorM5
set_option maxRecDepth 20000
set_option maxHeartbeats 4000000
namespace Go.Proofs.YtheokcjommfopaaGreatDoor
open Go.Sy
open Go.ChangeShapes Go.WideShapes Go.ChangeAt Go.RowKit
set_option maxRecDepth 100000 in
theorem lifted (os:Os) (started:os.Started) (H:Type) (enc:TypeId×Value→H):
  ReturnsInHanded {} Tryz.checked os 4 .any (fun w args=>(Rows.tidyMakesSpec.pre enc Tryz.prog Tryz.f4 [] false w args∧laidMetH Tryz.prog EZ w)∧sizedMet enc Tryz.prog Tryz.f4 (OpenSpec.ofChange Rows.tidyMakesSpec) false w args)
   (Rows.tidyMakesSpec.post enc Tryz.prog Tryz.f4 false true false false):=by
 refine returnsInHanded_of_change_and (C:=Tryz.checked) (X:=fun w _=>laidMetH Tryz.prog EZ w) (fun _ _ _ hh h=>h.of_heap hh) own started (by kernel_rfl) Tryz.func4
  (ChangeSpec.witness_shaped (enc:=enc) (C:=Tryz.checked) (os:=os) (X:=fun w _=>laidMetH Tryz.prog EZ w) false (World.doorLaid Tryz.prog 14 os) #[.agg #[.slice none 0 0],.int .i64 0] 8 rfl (World.shaped_of_RefB (by kernel_rfl) (by kernel_rfl)) (by kernel_rfl) (by kernel_rfl) (by kernel_rfl) (NT os _)) ?_
 intro W base args ds gs before UU hW _ _ hL _;have mq:∀(j:Nat) t v,Tryz.f4.params[j]?=some t→args[j]?=some v→Value.okWide Tryz.prog W .any base t v:=UU;have Vb:=hW;obtain⟨p,q,DW,hV,rfl,hfz,wE⟩:=hW;have hA:DataW.TrodAll enc Tryz.prog W 0 (fun _=>true) true Tryz.f4.params.toList args.toList ds p:=DW;rw[Tryz.params4]at hA mq;obtain⟨v0,vs0,d0,ds0,p0,q0,w5,rfl,rfl,h0,r0⟩:=trodAll_cons hA;obtain⟨v1,vs1,d1,ds1,p1,q1,rfl,rfl,rfl,h1,r1⟩:=trodAll_cons r0;obtain⟨rfl,rfl,rfl⟩:=trodAll_nil r1
 obtain rfl:args=#[v0,v1]:=by cases args;simp_all
 obtain⟨rfl,rfl⟩:=trodVars_none hV;have hT:=B0 hL;obtain⟨c0,rfl,-⟩:=okWide_struct (jE 24 _ _ rfl).2 (mq 0 24 v0 rfl rfl);obtain⟨x1,rfl⟩:=okWide_int (jE 3 _ _ rfl).2 (mq 1 3 v1 rfl rfl);obtain⟨b0,e00⟩:=JD T8 h0;obtain⟨a0,m0,k0,e0,S9⟩:=e00;refine Ms (tb:=4) laidOut (by kernel_rfl) (by kernel_rfl) (by kernel_rfl) rfl rfl rfl rfl Vb ?_;have:=yj (H:=Dk W) (K:=fun v _=>v = .bool true) (most:=x1) S9 hT (fun _ _=>rfl);rw[←Array.toArray_toList (xs:=c0)];simp only[Value.cells]at e0;rw[e0];exact this
theorem row_holds:Rows.TidyMakesSaid :=
 OpenClaim.holds_of_wide 4 Tryz.f4 rfl rfl rfl rfl rfl rfl rfl ⟨rfl,rfl,rfl,rfl,rfl⟩ rfl rfl rfl rfl rfl (by kernel_rfl) Tryz.func4 vd
  (of_decide_eq_true (by kernel_rfl)) (by unfold Func.isWrapper;first | (rw[if_pos (by decide +kernel)];kernel_rfl) | (rw[if_neg (by decide +kernel)];exact⟨rfl,rfl⟩))
  (fun os started H enc _=>lifted os started H enc)
theorem TidyMakes_holds:Rows.TidyMakesCardSaid :=
 Claim7.holds_tied_plain_at .later [] [.data] true (true, "0727561a35e6b4cc8a2f45baa14af9e7500ba553f2fb0ca3ae0f5673a8046414") false
  row_holds (fun _ h=>by cases h) (by kernel_rfl) (fun _ h=>by cases h) tidyMakes_row_tie rfl ⟨rfl,rfl⟩ (by kernel_rfl) rfl
  (fun f fn hf Vz=>by
   obtain rfl : f = 4 := Option.some.inj ((show Tryz.prog.funcNamed "sough/soughlaw49.TidyMakes" = some 4 by kernel_rfl).symm.trans hf) |>.symm
   obtain rfl:fn=Tryz.f4:=(Option.some.inj (Tryz.func4.symm.trans Vz)).symm
   exact⟨by kernel_rfl,fun j t ht=>by
    rw[Tryz.params4]at ht
    have hm:t∈[24,3]:=by simpa using Array.mem_of_getElem? ht
    have dm:([24,3].all fun u=>!Tryz.prog.wantsStandIn u)=true:=by kernel_rfl
    exact (show Tryz.prog.wantsStandIn t=false by simpa using List.all_eq_true.1 dm t hm)⟩)
  (by kernel_rfl)
#print axioms TidyMakes_holds
end Go.Proofs.YtheokcjommfopaaGreatDoor
