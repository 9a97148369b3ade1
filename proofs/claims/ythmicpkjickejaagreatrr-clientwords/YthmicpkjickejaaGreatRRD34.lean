/- ClientWords returns true for every input: the whole claim. No condition. -/
import Derived.Test.YthmicpkjickejaaGreatRRM24
import Derived.Test.YthmicpkjickejaaGreatRRM38
namespace Go.Proofs.YthmicpkjickejaaGreatRR
open Go.Sy
open Go.ChangeShapes Go.WideShapes Go.ChangeAt Go.RowKit
theorem oU64:Opens Tryz.prog 66 UInt64:=opens_u64 (by kernel_rfl) (by kernel_rfl)
theorem oWds:Opens Tryz.prog 25 (List UInt64):=opens_list (by kernel_rfl) (tt_ok 25 _ _ rfl).2 oU64 (by decide)
set_option maxRecDepth 100000 in
theorem lifted (os:Os) (started:os.Started) (H:Type) (enc:TypeId×Value→H):
  ReturnsInHanded {} Tryz.checked os 3 .any (Rows.clientWordsSpec.pre6 enc Tryz.prog Tryz.f3 Rows.clientWordsRow.domain false) (Rows.clientWordsSpec.post enc Tryz.prog Tryz.f3 false true false false):=by
 refine returnsInHanded_of_change (C:=Tryz.checked) own started (by kernel_rfl) Tryz.func3
  (ChangeSpec.witness6 (enc:=enc) (C:=Tryz.checked) false ⟨#[],#[.int .i64 0,.agg #[.slice none 0 0],.slice none 0 0],[]⟩ 3 (by kernel_rfl) (by kernel_rfl) (by kernel_rfl) (by kernel_rfl)) ?_
 intro W base args ds gs before hval0 hW hcnd _;have hval:∀(j:Nat) t v,Tryz.f3.params[j]?=some t→args[j]?=some v→Value.okWide Tryz.prog W .any base t v:=hval0;have hW':=hW;obtain⟨p,q,hA0,hV,rfl,hfz,hnd⟩:=hW;have hA:DataW.TrodAll enc Tryz.prog W 0 (fun _=>true) true Tryz.f3.params.toList args.toList ds p:=hA0;rw[Tryz.params3]at hA hval;obtain⟨v0,vs0,d0,ds0,p0,q0,hargs,rfl,rfl,h0,r0⟩:=trodAll_cons hA;obtain⟨v1,vs1,d1,ds1,p1,q1,rfl,rfl,rfl,h1,r1⟩:=trodAll_cons r0;obtain⟨v2,vs2,d2,ds2,p2,q2,rfl,rfl,rfl,h2,r2⟩:=trodAll_cons r1;obtain⟨rfl,rfl,rfl⟩:=trodAll_nil r2
 obtain rfl:args=#[v0,v1,v2]:=by cases args;simp_all
 obtain⟨rfl,rfl⟩:=trodVars_none hV;obtain⟨x0,rfl⟩:=okWide_int (tt_ok 3 _ _ rfl).2 (hval 0 3 v0 rfl rfl);obtain⟨c1,rfl,-⟩:=okWide_struct (tt_ok 24 _ _ rfl).2 (hval 1 24 v1 rfl rfl);obtain⟨sa2,sn2,sc2,rfl⟩:=okWide_slice (tt_ok 25 _ _ rfl).2 (hval 2 25 v2 rfl rfl);obtain⟨b1,e01⟩:=opens_val oProg h1;obtain⟨a1,m1,k1,e1,hl1⟩:=e01;obtain⟨b2,a2,m2,k2,e2,hl2⟩:=opens_val oWds h2;simp only[Value.cells,List.cons.injEq,and_true,Value.slice.injEq]at e2;obtain⟨rfl,rfl,rfl⟩:=e2;refine law_post (tb:=4) laidOut (by kernel_rfl) (by kernel_rfl) (by kernel_rfl) rfl rfl rfl rfl hW' ?_;have:=ClientWords_spec (H:=hpOf W) (K:=fun v _=>v = .bool true) (kind:=x0) hl1 hl2 (fun _ _=>rfl);rw[←Array.toArray_toList (xs:=c1)];simp only[Value.cells]at e1;rw[e1];exact this
theorem ClientWords_holds:Rows.ClientWordsSaid :=
 OpenClaim.holds_of_wide 3 Tryz.f3 rfl rfl rfl rfl rfl rfl rfl ⟨rfl,rfl,rfl,rfl,rfl⟩ rfl rfl rfl rfl rfl (by kernel_rfl) Tryz.func3 (by kernel_rfl)
  (of_decide_eq_true (by kernel_rfl)) (by unfold Func.isWrapper;first | (rw[if_pos (by decide +kernel)];kernel_rfl) | (rw[if_neg (by decide +kernel)];exact⟨rfl,rfl⟩))
  (fun os started H enc _=>lifted os started H enc)
#print axioms ClientWords_holds
end Go.Proofs.YthmicpkjickejaaGreatRR
