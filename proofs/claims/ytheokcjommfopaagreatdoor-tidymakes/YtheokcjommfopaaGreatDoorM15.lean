/- Part 'M15' of the proof (SyOk9, SyOk10, SyOk11, Enc, Frz, SyPlan, Thaw, ThawB): lemmas, each with its own conditions in its own statement. -/
import Derived.Deep.LoopGhost
import Derived.Scope
import Derived.Test.YtheokcjommfopaaGreatDoorM13
import Derived.Test.YtheokcjommfopaaGreatDoorM7
set_option maxRecDepth 20000
set_option maxHeartbeats 4000000
section
namespace Go.Sy
open Go.RowKit (Below)
section
variable {C:Cx} {hs:List Nat} {B:Bs} {ρ:bk} {s:St} {H:Hp} {a:Act} {w:World} {P:Program}
theorem Rel.Qp (hr:Rel C B ρ s H a w) {d:Nat} {x y:SV} (hx:lk s.env d=some x) (hy:ga ρ y=ga ρ x) (hl:y.lt s.nx=true):Rel C B ρ (s.put C.n (some d) y) H a w:=by
 simp only[St.put]
 cases Nat.ble (d+1) C.n with
 | false=>exact hr
 | true =>
  refine⟨fun u z hu=>?_,hr.sz,hr.defers,hr.mem⟩;simp only[cond_true,aT]at hu;split at hu
  ·rename_i e;subst e;simp only[Option.some.injEq]at hu;subst hu;rw[hy];exact⟨(hr.env _ _ hx).1,hl⟩
  ·exact hr.env u z hu
theorem Mc {n:Nat} {d:Option Tmp} {x:SV} {K:St→Prop}:s.eX n d x K↔K (s.put n d x):=by
 cases s with
 | mk env bx nx =>
  cases d with
  | none=>simp only[St.eX,St.put,pL,pK,je]
  | some t=>simp only[St.eX,St.put,pL,yM,pK,je];cases Nat.ble (t+1) n<;>rfl
theorem mo (ht:eH C) {ops:Array Oper} {Q:St→Hp→Prop} {H0:Hp}:∀(l:List Oper) {s:St} {H:Hp} {a:Act} {w:World} {ρ:bk},Rel C B ρ s H a w→Le H0 H→jX C ops.toList Q l s H →
  wpList C.P ops (qj C B H0 fun e s H=>match e with | .normal=>Q s H | _=>False) l a w
 | [],s,H,a,w,ρ,hr,hle,h=>by
  rw[jX]at h;exact wpList_nil ⟨.normal,s,H,ρ,rfl,h,hr,hle⟩
 | o::r,s,H,a,w,ρ,hr,hle,h=>by
  rw[jX]at h;simp only[Mc]at h
  refine wpList_step fun K hK=>?_
  split at h
  ·-- no guard
   rename_i hg;simp only[Region.wanted,hg,if_true]
   exact AS ht h B ρ o a w rfl rfl hr _ _ fun x s' H' ρ' w' hk iX vk aj=>hK _ _ (mo ht r (iX.put o.dst aj) (hle.trans vk) hk)
  ·rename_i j want hg;split at h
   ·exact h.elim
   ·rename_i d hd
    have uv:(ops[j]?).bind (·.dst)=some d:=by
     unfold yO at hd;split at hd
     ·rename_i o' dx;rw[Array.getElem?_toList]at dx
      rw[dx];exact hd
     ·cases hd
    have hw:∀x,lk s.env d=some x→Region.wanted o (yielded ops a.tmps)=(((match ga ρ x with | .bool b=>some b | _=>none):Option Bool) == some want):=fun x hx=>by
     simp only[Region.wanted,hg,yielded,uv,Option.bind_some,(hr.env _ _ hx).1]
     cases ga ρ x<;>rfl
    have Md:∀ {s1:St},Rel C B ρ s1 H a w→jX C ops.toList Q r (s1.put C.n o.dst unit) H→K (a.put o.dst undef) w:=fun {s1} bh h1=>by
     have:=bh.put o.dst (x:=unit) (by rw[unit,SV.lt]);rw[unit,ga]at this;exact hK _ _ (mo ht r this hle h1)
    split at h
    ·-- known
     rename_i b hx;rw[hw _ hx,ga]
     cases AW:(b == want) with
     | true =>
      rw[AW]at h;simp only[cond_true]at h;rw[if_pos (by simpa using AW)]
      exact AS ht h B ρ o a w rfl rfl hr _ _ fun x s' H' ρ' w' hk iX vk aj=>hK _ _ (mo ht r (iX.put o.dst aj) (hle.trans vk) hk)
     | false =>
      rw[AW]at h;simp only[cond_false]at h;rw[if_neg (by simpa using AW)];exact Md hr h
    ·rename_i b hx;rw[hw _ hx,ga];obtain⟨h1,h2⟩:=h
     by_cases AW:b=want
     ·rw[if_pos (by simp [AW])];have bh:Rel C B ρ (s.put C.n (some d) (.kb want)) H a w:=hr.Qp hx (by rw[ga,ga,AW]) (by rw[SV.lt])
      exact AS ht (h1 AW) B ρ o a w rfl rfl bh _ _ fun x s' H' ρ' w' hk iX vk aj=>hK _ _ (mo ht r (iX.put o.dst aj) (hle.trans vk) hk)
     ·rw[if_neg (by simp [AW])]
      have uu:b=!want:=by cases b<;>cases want<;>simp_all
      have bh:Rel C B ρ (s.put C.n (some d) (.kb !want)) H a w:=hr.Qp hx (by rw[ga,ga,uu]) (by rw[SV.lt]);exact Md bh (h2 uu)
    ·rename_i vs hx;rw[hw _ hx,ga,if_neg (by simp)];exact Md hr h
    ·exact h.elim
theorem OS (ht:eH C) (hm:C.P.follows .mixedOrders=true) {id:Nat} {ops:Array Oper} {ord:List Nat} {Q:St→Hp→Prop} (V0:s7 ops ord=true) (h:nj C hs ops.toList Q ord s H) (hr:Rel C B ρ s H a w):
  (Code.region id ops true).wp C.P (qj C B H fun e s H=>match e with | .normal=>Q s H | _=>False) a w :=
 wp_region_any hm (wO ht (CY V0) h ⟨hr.env,hr.sz,hr.defers,hr.mem.step rfl rfl ⟨rfl,Nat.le_succ _⟩ (Nat.le_refl _) fun _ _=>rfl⟩)
def bk.by (ρ:bk) (m:List (Nat×Nat)) (bx:List (Nat×Bx)):bk where
 b k:=match lk m k with | some j=>ρ.b j | none=>ρ.b k
 sl k:=match lk m k with
  | some j=>ρ.sl j
  | none=>match lk bx k with
   | some (.row _ _ _)=>(none,0,0)
   | _=>ρ.sl k
theorem FK {m:List (Nat×Nat)} {k j:Nat} (h:lk m k=some j):(k,j)∈m:=by
 induction m with
 | nil=>simp [lk]at h
 | cons p r ih =>
  obtain⟨i,x⟩:=p;rw[aT]at h;split at h
  ·rename_i e;simp only[Option.some.injEq]at h;subst e;subst h;simp
  ·exact List.mem_cons_of_mem _ (ih h)
theorem C1 {k:Nat}:∀ {m:List (Nat×Nat)},Ld k m=true↔∃i,(i,k)∈m
 | []=>by simp [Ld]
 | (i,j)::r=>by
  rw[Ld]
  cases h:Nat.beq j k with
  | true=>simp only[cond_true,true_iff];exact⟨i,by rw[bE h];simp⟩
  | false =>
   simp only[cond_false,C1 (m:=r),List.mem_cons,Prod.mk.injEq];constructor
   ·rintro⟨x,hx⟩;exact⟨x,.inr hx⟩
   ·rintro⟨x,hx | hx⟩
    ·exact absurd hx.2.symm (Cr h)
    ·exact⟨x,hx⟩
theorem wP {base:Nat}:∀ {m:List (Nat×Nat)},HH base m=true→(∀i j,(i,j)∈m→i<base→i=j)∧∀i i' j,lk m i=some j→lk m i'=some j→i=i'
 | [],_=>⟨by simp,by simp [lk]⟩
 | (x,y)::r,h=>by
  simp only[HH,Bool.and_eq_true,Bool.not_eq_true']at h;obtain⟨⟨h1,h2⟩,h3⟩:=h;obtain⟨h4,h5⟩:=wP h3
  have hn:∀i,¬(i,y)∈r:=fun i hi=>by
   have:=C1.2 ⟨i,hi⟩
   rw[h2]at this;cases this
  refine⟨fun i j Me aj=>?_,fun i i' j hi N3=>?_⟩
  ·rcases List.mem_cons.1 Me with e | Me
   ·simp only[Prod.mk.injEq]at e;obtain⟨rfl,rfl⟩:=e
    cases hb:Nat.ble base i with
    | true=>have:=dp hb;omega
    | false=>rw[hb]at h1;exact bE h1
   ·exact h4 i j Me aj
  ·rw[aT]at hi N3
   split at hi<;>split at N3
   ·omega
   ·simp only[Option.some.injEq]at hi;subst hi;exact absurd (FK N3) (hn _)
   ·simp only[Option.some.injEq]at N3;subst N3;exact absurd (FK hi) (hn _)
   ·exact h5 i i' j hi N3
theorem rR {ρ:bk} {m:List (Nat×Nat)} {bx:List (Nat×Bx)} {k:Nat} (h:Ft m k=true):(ρ.by m bx).b k=ρ.b k∧(ρ.by m bx).sl k=ρ.sl k:=by
 unfold Ft at h;split at h
 ·rename_i j hj;have:=bE h;subst this;simp [bk.by,hj]
 ·cases h
mutual
theorem Mf {ρ:bk} {m:List (Nat×Nat)} {bx:List (Nat×Bx)}:∀x:SV,SV.fix m x=true→ga (ρ.by m bx) x=ga ρ x
 | .v _,_=>by rw[ga,ga]
 | .kb _,_=>by rw[ga,ga]
 | .ptr k _,h=>by rw[SV.fix]at h;rw[ga,ga,(rR h).1]
 | .el none _ _ _,_=>by rw[ga,ga]
 | .el (some _) _ _ _,_=>by rw[ga,ga]
 | .rel k _ _ _,h=>by rw[SV.fix]at h;rw[ga,ga,(rR h).1]
 | .own k,h=>by rw[SV.fix]at h;rw[ga,ga,bk.val,bk.val,(rR h).2]
 | .sub k _ _ _,h=>by rw[SV.fix]at h;rw[ga,ga,bk.part,bk.part,(rR h).2]
 | .mp k,h=>by rw[SV.fix]at h;rw[ga,ga,(rR h).1]
 | .agg cs,h=>by rw[SV.fix]at h;rw[ga,ga,vE cs h]
 | .fn _ cs,h=>by rw[SV.fix]at h;rw[ga,ga,vE cs h]
 | .eo cs,h=>by rw[SV.fix]at h;rw[ga,ga,vE cs h]
theorem vE {ρ:bk} {m:List (Nat×Nat)} {bx:List (Nat×Bx)}:∀l:List SV,SV.I3 m l=true→cE (ρ.by m bx) l=cE ρ l
 | [],_=>by rw[cE,cE]
 | x::r,h=>by
  rw[SV.I3]at h
  cases h1:SV.fix m x with
  | false=>rw[h1]at h;cases h
  | true =>
   rw[h1]at h;rw[cE,cE,Mf x h1,vE r h]
end
theorem Mg {m:List (Nat×Nat)} {bx:List (Nat×Bx)} {x y:SV} (h:Cp m bx x y):ga (ρ.by m bx) y=ga ρ x:=by
 unfold Cp at h;split at h
 ·rename_i k;split at h
  ·rename_i k'
   rw[ga,ga];simp [bk.val,bk.by,h]
  ·rename_i z;obtain⟨rfl,h1,h2⟩:=h;unfold Lb at h2
   cases hk:lk bx k with
   | none=>rw[hk]at h2;exact h2.elim
   | some b =>
    rw[hk]at h2
    cases b with
    | row e sz xs=>rw[ga,ga];simp [bk.val,bk.by,h1,hk]
    | _=>exact h2.elim
  ·exact h.elim
 ·rename_i k off;split at h
  ·rename_i k' Cg;obtain⟨h1,rfl⟩:=h
   rw[ga,ga];simp [bk.by,h1]
  ·exact h.elim
 ·rename_i k sz lo n;split at h
  ·obtain⟨h1,rfl,rfl,rfl⟩:=h
   rw[ga,ga];simp [bk.part,bk.by,h1]
  ·exact h.elim
 ·rename_i k;split at h
  ·rw[ga,ga];simp [bk.by,h]
  ·exact h.elim
 ·rename_i k sz i off;split at h
  ·obtain⟨h1,rfl,rfl,rfl⟩:=h
   rw[ga,ga];simp [bk.by,h1]
  ·exact h.elim
 ·rename_i z;split at h
  ·subst h;rw[ga,ga]
  ·subst h;rw[ga,ga]
 ·split at h
  ·subst h;rw[ga,ga]
  ·subst h;rw[ga,ga]
 ·obtain⟨rfl,h⟩:=h;exact Mf _ h
theorem Mh {m:List (Nat×Nat)} {bx:List (Nat×Bx)}:∀ {xs ys:List SV},yQ m bx xs ys→cE (ρ.by m bx) ys=cE ρ xs
 | [],[],_=>by rw[cE,cE]
 | x::r,y::r',h=>by
  rw[yQ]at h;rw[cE,cE,Mg h.1,Mh h.2]
 | [],_::_,h=>by simp [yQ]at h
 | _::_,[],h=>by simp [yQ]at h
theorem zf {m:List (Nat×Nat)} {bx:List (Nat×Bx)} {env:List (Nat×SV)}:∀ {l:List (Nat×SV)},AA m bx env l→∀t y,lk l t=some y→∃x,lk env t=some x∧Cp m bx x y
 | [],_,t,y,hy=>by simp [lk]at hy
 | (u,z)::r,h,t,y,hy=>by
  rw[AA]at h;rw[aT]at hy;split at hy
  ·rename_i e;subst e;simp only[Option.some.injEq]at hy;subst hy;have:=h.1;split at this
   ·rename_i x hx;exact⟨x,hx,this⟩
   ·exact this.elim
  ·exact zf h.2 t y hy
theorem C2 {n:Nat}:∀ {l:List (Nat×SV)},HI n l=true→∀t y,lk l t=some y→y.lt n=true
 | [],_,t,y,hy=>by simp [lk]at hy
 | (u,z)::r,h,t,y,hy=>by
  rw[HI]at h
  cases hz:SV.lt n z with
  | false=>rw[hz]at h;cases h
  | true =>
   rw[hz]at h;rw[aT]at hy;split at hy
   ·simp only[Option.some.injEq]at hy;subst hy;exact hz
   ·exact C2 h t y hy
theorem vF {base n:Nat} {m:List (Nat×Nat)}:∀ {l:List (Nat×Bx)},Ol base n m l=true→∀k y,lk l k=some y→k<n∧y.lt n=true∧(k<base→y = .dead∨∃j,lk m k=some j)
 | [],_,k,y,hy=>by simp [lk]at hy
 | (u,z)::r,h,k,y,hy=>by
  rw[Ol]at h
  cases h1:Nat.ble (u+1) n with
  | false=>rw[h1]at h;cases h
  | true =>
   rw[h1]at h;simp only[cond_true]at h
   cases h2:Bx.lt n z with
   | false=>rw[h2]at h;cases h
   | true =>
    rw[h2]at h;simp only[cond_true]at h
    cases h3:(bif Nat.ble base u then true else bif z.Lf then true else (lk m u).isSome) with
    | false=>rw[h3]at h;cases h
    | true =>
     rw[h3]at h;simp only[cond_true]at h;rw[aT]at hy;split at hy
     ·rename_i e;subst e;simp only[Option.some.injEq]at hy;subst hy;refine⟨dp h1,h2,fun aj=>?_⟩
      cases hb:Nat.ble base u with
      | true=>have:=dp hb;omega
      | false =>
       rw[hb]at h3;simp only[cond_false]at h3
       cases z with
       | dead=>exact .inl rfl
       | _=>exact .inr (Option.isSome_iff_exists.1 h3)
     ·exact vF h k y hy
theorem C3 {m:List (Nat×Nat)} {bx QV:List (Nat×Bx)}:∀ {l:List (Nat×Bx)},HG m bx QV l→∀k y,lk l k=some y→Lc m bx QV k y
 | [],_,k,y,hy=>by simp [lk]at hy
 | (u,z)::r,h,k,y,hy=>by
  rw[HG]at h;rw[aT]at hy;split at hy
  ·rename_i e;subst e;simp only[Option.some.injEq]at hy;subst hy;exact h.1
  ·exact C3 h.2 k y hy
theorem Rel.sub (hr:Rel C B ρ s H a w) (cP:B.base=C.base) {m:List (Nat×Nat)} {t:St} (h:Sub C m s t):∃ρ',Rel C B ρ' t H a w:=by
 obtain⟨h0,he,hb⟩:=dr h;simp only[Bool.and_eq_true]at h0;obtain⟨⟨⟨h1,h2⟩,h3⟩,h4⟩:=h0;obtain⟨m1,m2⟩:=wP h1;have hm:=hr.mem
 have key:∀k y,lk t.bx k=some y→bu (ρ.by m t.bx) w k y∧∀g,br (ρ.by m t.bx) k y g→∃j x,lk m k=some j∧lk s.bx j=some x∧br ρ j x g:=fun k y hy=>by
  have hs:=C3 hb k y hy;unfold Lc at hs;split at hs
  ·rename_i k' lQ;split at hs
   ·rename_i x hx;have ca:=(hm.ok _ _ hx).2.1
    cases y with
    | cells T cs =>
     cases x with
     | cells T' To =>
      have et:=dr hs;clear hs;obtain⟨YF,fB⟩:=et
      obtain rfl:=bE YF;refine⟨?_,fun g hg=>⟨k',_,lQ,hx,?_⟩⟩
      ·simp only[bu]at ca ⊢;rw[Mh fB]
       simpa [bk.by,lQ] using ca
      ·simp only[br,bk.by,lQ]at hg ⊢;exact hg
     | row _ _ _=>exact hs.elim
     | qh _=>exact hs.elim
     | obj _=>exact hs.elim
     | kW _ _ _=>exact hs.elim
     | dead=>exact hs.elim
    | row e sz xs =>
     cases x with
     | row e' cn Vw =>
      have et:=dr hs;clear hs;obtain⟨yw,hs⟩:=et
      simp only[Bool.and_eq_true]at yw;obtain rfl:=bE yw.1;obtain rfl:=bE yw.2;subst hs
      have hv:(ρ.by m t.bx).val k=ρ.val k':=by simp [bk.val,bk.by,lQ]
      refine⟨?_,fun g hg=>⟨k',_,lQ,hx,?_⟩⟩
      ·simp only[bu]at ca ⊢;rw[hv]
       simpa [bk.by,lQ] using ca
      ·simp only[br]at hg ⊢;rw[hv]at hg;exact hg
     | cells _ _=>exact hs.elim
     | qh _=>exact hs.elim
     | obj _=>exact hs.elim
     | kW _ _ _=>exact hs.elim
     | dead=>exact hs.elim
    | qh z =>
     cases x with
     | qh z' =>
      have hs:z'=z:=hs;subst hs
      have hv:(ρ.by m t.bx).val k=ρ.val k':=by simp [bk.val,bk.by,lQ]
      refine⟨?_,fun g hg=>hg.elim⟩;simp only[bu]at ca ⊢
      rw[hv];exact ca
     | cells _ _=>exact hs.elim
     | row _ _ _=>exact hs.elim
     | obj _=>exact hs.elim
     | kW _ _ _=>exact hs.elim
     | dead=>exact hs.elim
    | obj Φ =>
     cases x with
     | obj Φ' =>
      have hs:Φ'=Φ:=hs;subst hs;refine⟨?_,fun g hg=>⟨k',_,lQ,hx,?_⟩⟩
      ·simp only[bu]at ca ⊢
       simpa [bk.by,lQ] using ca
      ·simp only[br,bk.by,lQ]at hg ⊢;exact hg
     | cells _ _=>exact hs.elim
     | row _ _ _=>exact hs.elim
     | qh _=>exact hs.elim
     | kW _ _ _=>exact hs.elim
     | dead=>exact hs.elim
    | kW e sz l =>
     cases x with
     | kW e' cn l' =>
      obtain⟨rfl,rfl,rfl⟩:=hs;exact⟨ca,fun g hg=>⟨k',_,lQ,hx,hg⟩⟩
     | cells _ _=>exact hs.elim
     | row _ _ _=>exact hs.elim
     | qh _=>exact hs.elim
     | obj _=>exact hs.elim
     | dead=>exact hs.elim
    | dead=>exact⟨trivial,fun g hg=>hg.elim⟩
   ·exact hs.elim
  ·rename_i lQ;split at hs
   ·rename_i e sz xs;subst hs
    have hv:(ρ.by m t.bx).val k = .slice none 0 0:=by simp [bk.val,bk.by,lQ,hy]
    refine⟨?_,fun g hg=>?_⟩
    ·simp only[bu];rw[hv];exact⟨World.ownsRow_nil _ _ _ _,by simp,by simp [Value.ownBlock]⟩
    ·simp only[br]at hg;rw[hv]at hg;simp [Value.ownBlock]at hg
   ·rename_i e sz l;refine⟨⟨fun p hp=>?_,?_⟩,fun g ⟨p,hp,hg⟩=>?_⟩
    ·rw[hs p hp];exact⟨World.ownsRow_nil _ _ _ _,by simp⟩
    ·rw[List.pairwise_iff_getElem];intro i j hi hj _ g hg;rw[hs _ (List.getElem_mem hi)]at hg;cases hg
    ·rw[hs p hp]at hg;cases hg
   ·exact⟨trivial,fun g hg=>hg.elim⟩
   ·exact hs.elim
 refine⟨ρ.by m t.bx,⟨fun u y hy=>?_,hr.sz,hr.defers,?_⟩⟩
 ·obtain⟨x,hx,hs⟩:=zf he u y hy;rw[Mg hs];exact⟨(hr.env _ _ hx).1,C2 h2 u y hy⟩
 ·exact
  {os:=hm.os,tape:=hm.tape,output:=hm.output,size:=hm.size,frame:=hm.frame
   base:=by rw[cP];exact dp h4
   agree:=fun k hk=>by
    rw[cP]at hk;rw[←(hm.agree k (by rw[cP];exact hk)).1,←(hm.agree k (by rw[cP];exact hk)).2];simp only[bk.by]
    cases hj:lk m k with
    | some j =>
     have:=m1 k j (FK hj) hk;subst this;exact⟨rfl,rfl⟩
    | none =>
     refine⟨rfl,?_⟩;simp only;split
     ·rename_i hy
      rcases (vF h3 k _ hy).2.2 hk with h | ⟨j,s8⟩
      ·cases h
      ·rw[hj]at s8;cases s8
     ·rfl
   hp:=hm.hp,hle:=hm.hle,cR:=hm.cR
   ok:=fun k y hy=>⟨(vF h3 k y hy).1,(key k y hy).1,(vF h3 k y hy).2.1⟩
   own:=fun k y g hy hg=>by
    obtain⟨j,x,_,hx,ho⟩:=(key k y hy).2 g hg;exact hm.own j x g hx ho
   eZ:=fun k k' y y' g hy E4 hg iW=>by
    obtain⟨j,x,hj,hx,ho⟩:=(key k y hy).2 g hg;obtain⟨j',x',s8,mj,dx⟩:=(key k' y' E4).2 g iW;have:=hm.eZ j j' x x' g hx mj ho dx;subst this
    exact m2 k k' j hj s8 }
theorem qj.mono {H0 H1:Hp} {Q Q':Ex→St→Hp→Prop} {e:Exit} {a:Act} {w:World} (h:qj C B H1 Q e a w) (hle:Le H0 H1) (hq:∀e s H,Q e s H→Q' e s H):qj C B H0 Q' e a w:=by
 obtain⟨e0,s,H,ρ,h1,h2,h3,h4⟩:=h;exact⟨e0,s,H,ρ,h1,hq _ _ _ h2,h3,hle.trans h4⟩
def jQ (K:Nat→Act→World→Prop) (Q:Exit→Act→World→Prop):Exit→Act→World→Prop
 | .goto l,a,w=>K l a w
 | e,a,w=>Q e a w
theorem rS {P:Program} {a:Act} {w:World} {Q:Exit→Act→World→Prop} {c:Code} (J:Nat→Nat→Act→World→Prop)
  (first:c.wp P (jQ (fun l a w=>∃n,J n l a w) Q) a w)
  (pass:∀n l a w,J n l a w→∃rest,findLabel c l=some rest∧rest.wp P (jQ (fun l' a' w'=>∃m,m<n∧J m l' a' w') Q) a w):(Code.scope c).wp P Q a w:=by
 intro b k cs
 have hg:∀l rest,findLabel c l=some rest→gotoIn l (.inScope c::k)=some (.code rest :: .inScope c::k):=fun l rest hf=>by simp [gotoIn,hf]
 have key:∀n l a w,J n l a w→∃rest,findLabel c l=some rest∧∃e a' w',Q e a' w'∧Arrives P (lone (b.at a (.code rest :: .inScope c::k)) cs w) b k cs e a' w':=by
  intro n
  induction n using Nat.strongRecOn with
  | _ n ih =>
   intro l a w hJ;obtain⟨rest,hf,hp⟩:=pass n l a w hJ;refine⟨rest,hf,?_⟩;obtain⟨e,a₁,w₁,hq,tq⟩:=hp b (.inScope c::k) cs
   cases e with
   | normal=>exact⟨.normal,a₁,w₁,hq,Steps.trans tq (.one step_inScope)⟩
   | exit id=>exact⟨.exit id,a₁,w₁,hq,fun k' hk=>tq k' (by simp [exitTo,hk])⟩
   | goto l' =>
    obtain⟨m,aj,V1⟩:=hq;obtain⟨TP,V2,e₂,a₂,w₂,V3,Mi⟩:=ih m aj l' a₁ w₁ V1;exact⟨e₂,a₂,w₂,V3,.of_steps (tq _ (hg _ _ V2)) Mi⟩
   | ret=>exact⟨_,a₁,w₁,hq,tq⟩
   | panic ch=>exact⟨_,a₁,w₁,hq,tq⟩
   | outgrown=>exact⟨_,a₁,w₁,hq,tq⟩
 obtain⟨e,a₁,w₁,hq,tq⟩:=first b (.inScope c::k) cs
 cases e with
 | normal=>exact⟨.normal,a₁,w₁,hq,.head step_scope (Steps.trans tq (.one step_inScope))⟩
 | exit id=>exact⟨.exit id,a₁,w₁,hq,fun k' hk=>.head step_scope (tq k' (by simp [exitTo,hk]))⟩
 | goto l' =>
  obtain⟨n,V1⟩:=hq;obtain⟨TP,V2,e₂,a₂,w₂,V3,Mi⟩:=key n l' a₁ w₁ V1;exact⟨e₂,a₂,w₂,V3,.of_steps (.head step_scope (tq _ (hg _ _ V2))) Mi⟩
 | ret=>exact⟨_,a₁,w₁,hq,.of_steps (.one step_scope) tq⟩
 | panic ch=>exact⟨_,a₁,w₁,hq,.of_steps (.one step_scope) tq⟩
 | outgrown=>exact⟨_,a₁,w₁,hq,.of_steps (.one step_scope) tq⟩
theorem vG:∀(c:Code) (l:Nat),Cq c l=findLabel c l
 | .seq x y,l=>by
  have e:Cq (.seq x y) l=match Cq x l with
   | some r=>some (.seq r y)
   | none=>Cq y l:=rfl
  rw[e,vG x l,vG y l,findLabel];cases findLabel x l<;>rfl
 | .label l',l=>by
  have e:Cq (.label l') l=bif Nat.beq l' l then some .skip else none:=rfl
  rw[e,findLabel]
  cases h:Nat.beq l' l with
  | true=>have:=bE h;subst this;simp
  | false=>have:=Cr h;simp [this]
 | .skip,_=>rfl
 | .region _ _ _,_=>rfl
 | .cond _ _ _,_=>rfl
 | .block _ _,_=>rfl
 | .loop _,_=>rfl
 | .rangeFunc _ _ _ _,_=>rfl
 | .exit _,_=>rfl
 | .scope _,_=>rfl
 | .goto _,_=>rfl
 | .ret,_=>rfl
 | .refuse _,_=>rfl
def YG (C:Cx) (B:Bs) (W:Code→WT):Prop:=∀(c:Code) {Q:Ex→St→Hp→Prop} {s:St} {H:Hp} {a:Act} {w:World} {ρ:bk},W c Q s H→Rel C B ρ s H a w→c.wp C.P (qj C B H Q) a w
def V4 (C:Cx) (B:Bs) (sc:Code→WT):Prop:=∀(c:Code) {Q:Ex→St→Hp→Prop} {s:St} {H:Hp} {a:Act} {w:World} {ρ:bk},sc c Q s H→Rel C B ρ s H a w→(Code.scope c).wp C.P (qj C B H Q) a w
theorem Rs (cP:B.base=C.base):V4 C B (QW C):=fun _ _ _ _ a w ρ h hr =>
 wp_mono (h B ρ a w cP hr) fun _ _ _ ⟨e0,s',H',ρ',h1,h2,h3,h4⟩=>⟨e0,s',H',ρ',h1,h2,h3,h4⟩
theorem Rt (cP:B.base=C.base) {W:Code→WT} (hW:YG C B W):V4 C B (Tp C W):=by
 intro b Q s H a w ρ h hr
 rcases h with ⟨n,h⟩ | ⟨α,SZ,T,I,μ,h,TQ⟩
 ·refine rS (fun i l a' w'=>∃s' H' ρ',i<n∧Rel C B ρ' s' H' a' w'∧Le H H'∧match Cq b l with
   | some r=>W r (Xe W b i Q) s' H'
   | none=>False) ?_ ?_
  ·refine wp_mono (hW b h hr) fun e a2 w2 ⟨e0,s',H',ρ',h1,h2,h3,h4⟩=>?_
   subst h1
   cases n with
   | zero=>cases e0 with
    | normal=>exact⟨.normal,s',H',ρ',rfl,h2,h3,h4⟩
    | exit i=>exact⟨.exit i,s',H',ρ',rfl,h2,h3,h4⟩
    | goto l=>exact h2.elim
    | ret=>exact⟨.ret,s',H',ρ',rfl,h2,h3,h4⟩
   | succ n=>cases e0 with
    | normal=>exact⟨.normal,s',H',ρ',rfl,h2,h3,h4⟩
    | exit i=>exact⟨.exit i,s',H',ρ',rfl,h2,h3,h4⟩
    | goto l=>exact⟨n,s',H',ρ',Nat.lt_succ_self n,h3,h4,h2⟩
    | ret=>exact⟨.ret,s',H',ρ',rfl,h2,h3,h4⟩
  ·rintro i l a1 w1 ⟨s1,H1,ρ1,hi,bh,ak,hm⟩;rw[vG]at hm
   cases hf:findLabel b l with
   | none=>rw[hf]at hm;exact hm.elim
   | some r =>
    rw[hf]at hm;refine⟨r,rfl,wp_mono (hW r hm bh) fun e a2 w2 ⟨e0,s',H',ρ',h1,h2,h3,h4⟩=>?_⟩;subst h1
    cases i with
    | zero=>cases e0 with
     | normal=>exact⟨.normal,s',H',ρ',rfl,h2,h3,ak.trans h4⟩
     | exit i=>exact⟨.exit i,s',H',ρ',rfl,h2,h3,ak.trans h4⟩
     | goto l=>exact h2.elim
     | ret=>exact⟨.ret,s',H',ρ',rfl,h2,h3,ak.trans h4⟩
    | succ i=>cases e0 with
     | normal=>exact⟨.normal,s',H',ρ',rfl,h2,h3,ak.trans h4⟩
     | exit i=>exact⟨.exit i,s',H',ρ',rfl,h2,h3,ak.trans h4⟩
     | goto l=>exact⟨i,Nat.lt_succ_self i,s',H',ρ',by omega,h3,ak.trans h4,h2⟩
     | ret=>exact⟨.ret,s',H',ρ',rfl,h2,h3,ak.trans h4⟩
 ·refine rS (fun i l a' w'=>∃x H' ρ',SZ x=l∧Rel C B ρ' (T x) H' a' w'∧I x H'∧Le H H'∧μ x=i) ?_ ?_
  ·refine wp_mono (hW b h hr) fun e a2 w2 ⟨e0,s',H',ρ',h1,h2,h3,h4⟩=>?_
   subst h1
   cases e0 with
   | normal=>exact⟨.normal,s',H',ρ',rfl,h2,h3,h4⟩
   | exit i=>exact⟨.exit i,s',H',ρ',rfl,h2,h3,h4⟩
   | goto l =>
    obtain⟨x,m,hl,hs,hi⟩:=h2;obtain⟨ρ2,bj⟩:=h3.sub cP hs;exact⟨μ x,x,H',ρ2,hl,bj,hi,h4,rfl⟩
   | ret=>exact⟨.ret,s',H',ρ',rfl,h2,h3,h4⟩
  ·rintro i l a1 w1 ⟨x,H1,ρ1,hl,bh,V5,ak,hμ⟩;subst hl hμ;have hm:=TQ x H1 ak V5;rw[vG]at hm
   cases hf:findLabel b (SZ x) with
   | none=>rw[hf]at hm;exact hm.elim
   | some r =>
    rw[hf]at hm;refine⟨r,rfl,wp_mono (hW r hm bh) fun e a2 w2 ⟨e0,s',H',ρ',h1,h2,h3,h4⟩=>?_⟩;subst h1
    cases e0 with
    | normal=>exact⟨.normal,s',H',ρ',rfl,h2,h3,ak.trans h4⟩
    | exit i=>exact⟨.exit i,s',H',ρ',rfl,h2,h3,ak.trans h4⟩
    | goto l =>
     obtain⟨x',m',th,KS,N3,aj⟩:=h2;obtain⟨ρ2,bj⟩:=h3.sub cP KS;exact⟨μ x',aj,x',H',ρ2,th,bj,N3,ak.trans h4,rfl⟩
    | ret=>exact⟨.ret,s',H',ρ',rfl,h2,h3,ak.trans h4⟩
theorem lV (ht:eH C) (hm:C.P.follows .mixedOrders=true) (cP:B.base=C.base) {sc:Code→WT} (OT:V4 C B sc):∀(c:Code) {Q:Ex→St→Hp→Prop} {s:St} {H:Hp} {a:Act} {w:World} {ρ:bk},AB C sc c Q s H→Rel C B ρ s H a w→c.wp C.P (qj C B H Q) a w
 | .skip,Q,s,H,a,w,ρ,h,hr=>wp_skip ⟨.normal,s,H,ρ,rfl,h,hr,Le.refl H⟩
 | .exit id,Q,s,H,a,w,ρ,h,hr=>wp_exit ⟨.exit id,s,H,ρ,rfl,h,hr,Le.refl H⟩
 | .ret,Q,s,H,a,w,ρ,h,hr=>wp_ret ⟨.ret,s,H,ρ,rfl,h,hr,Le.refl H⟩
 | .label l,Q,s,H,a,w,ρ,h,hr=>wp_label ⟨.normal,s,H,ρ,rfl,h,hr,Le.refl H⟩
 | .goto l,Q,s,H,a,w,ρ,h,hr=>wp_goto ⟨.goto l,s,H,ρ,rfl,h,hr,Le.refl H⟩
 | .refuse _,Q,s,H,a,w,ρ,h,hr=>h.elim
 | .rangeFunc f ps x y,Q,s,H,a,w,ρ,h,hr=>wp_mono (h B ρ a w cP hr) fun e a w ⟨e0,s',H',ρ',h1,h2,h3,h4⟩=>⟨e0,s',H',ρ',h1,h2,h3,h4⟩
 | .scope b,Q,s,H,a,w,ρ,h,hr=>OT b h hr
 | .region id ops draw,Q,s,H,a,w,ρ,h,hr=>by
  rw[AB]at h
  cases draw with
  | true =>
   simp only[cond_true]at h;obtain⟨ord,h⟩:=h
   cases ord with
   | none=>exact wp_mono (h B ρ a w cP hr) fun e a w ⟨e0,s',H',ρ',h1,h2,h3,h4⟩=>⟨e0,s',H',ρ',h1,h2,h3,h4⟩
   | some hl =>
    obtain⟨hs,l⟩:=hl
    refine wp_mono (OS ht hm h.1 h.2 hr) fun e a w ⟨e0,s',H',ρ',h1,h2,h3,h4⟩=>?_
    cases e0 with
    | normal=>exact⟨.normal,s',H',ρ',h1,h2,h3,h4⟩
    | exit _=>exact h2.elim
    | goto _=>exact h2.elim
    | ret=>exact h2.elim
  | false =>
   simp only[cond_false]at h
   refine wp_mono (wp_region_list (mo ht ops.toList hr (Le.refl H) h)) fun e a w ⟨e0,s',H',ρ',h1,h2,h3,h4⟩=>?_
   cases e0 with
   | normal=>exact⟨.normal,s',H',ρ',h1,h2,h3,h4⟩
   | exit _=>exact h2.elim
   | goto _=>exact h2.elim
   | ret=>exact h2.elim
 | .seq x y,Q,s,H,a,w,ρ,h,hr=>by
  rw[AB]at h;refine wp_seq (wp_mono (lV ht hm cP OT x h hr) fun e a w ⟨e0,s',H',ρ',h1,h2,h3,h4⟩=>?_);subst h1
  cases e0 with
  | normal=>exact wp_mono (lV ht hm cP OT y h2 h3) fun e a w hp=>hp.mono h4 fun _ _ _ h=>h
  | exit i=>exact⟨.exit i,s',H',ρ',rfl,h2,h3,h4⟩
  | goto l=>exact⟨.goto l,s',H',ρ',rfl,h2,h3,h4⟩
  | ret=>exact⟨.ret,s',H',ρ',rfl,h2,h3,h4⟩
 | .cond c x y,Q,s,H,a,w,ρ,h,hr=>by
  rw[AB]at h;split at h
  ·rename_i t hc;have h1:=(ai hr hc).1;rw[ga]at h1
   cases t with
   | true=>exact wp_cond_true h1 (lV ht hm cP OT x h hr)
   | false=>exact wp_cond_false h1 (lV ht hm cP OT y h hr)
  ·rename_i t hc;have h1:=(ai hr hc).1;rw[ga]at h1;exact wp_cond_split h1 (fun e=>lV ht hm cP OT x (h.1 e) hr) (fun e=>lV ht hm cP OT y (h.2 e) hr)
  ·exact h.elim
 | .block id c,Q,s,H,a,w,ρ,h,hr=>by
  rw[AB]at h;refine wp_block (wp_mono (lV ht hm cP OT c h hr) fun e a w ⟨e0,s',H',ρ',h1,h2,h3,h4⟩=>?_);subst h1
  cases e0 with
  | normal=>exact⟨.normal,s',H',ρ',rfl,h2,h3,h4⟩
  | exit i =>
   show if i=id then _ else _
   cases hi:Nat.beq i id with
   | true =>
    simp only[hi,cond_true]at h2;rw[if_pos (bE hi)];exact⟨.normal,s',H',ρ',rfl,h2,h3,h4⟩
   | false =>
    simp only[hi,cond_false]at h2;rw[if_neg (Cr hi)];exact⟨.exit i,s',H',ρ',rfl,h2,h3,h4⟩
  | goto l=>exact⟨.goto l,s',H',ρ',rfl,h2,h3,h4⟩
  | ret=>exact⟨.ret,s',H',ρ',rfl,h2,h3,h4⟩
 | .loop c,Q,s,H,a,w,ρ,h,hr=>by
  rw[AB]at h;obtain⟨α,T,I,μ,⟨x0,m,hs,hi⟩,Ru⟩:=h;obtain⟨ρ0,I7⟩:=hr.sub cP hs;refine wp_loop_ghost (fun n a w=>∃x H' ρ',Rel C B ρ' (T x) H' a w∧I x H'∧Le H H'∧μ x=n) (μ x0) ⟨x0,H,ρ0,I7,hi,Le.refl H,rfl⟩ ?_;rintro n a1 w1 ⟨x,H1,ρ1,bh,V5,ak,rfl⟩
  refine wp_mono (lV ht hm cP OT c (Ru x H1 ak V5) bh) fun e a2 w2 ⟨e0,s',H',ρ',h1,h2,h3,h4⟩=>?_
  subst h1
  cases e0 with
  | normal =>
   obtain⟨x',m',KS,N3,aj⟩:=h2;obtain⟨ρ2,bj⟩:=h3.sub cP KS;exact⟨μ x',aj,x',H',ρ2,bj,N3,ak.trans h4,rfl⟩
  | exit i=>exact⟨.exit i,s',H',ρ',rfl,h2,h3,ak.trans h4⟩
  | goto l=>exact⟨.goto l,s',H',ρ',rfl,h2,h3,ak.trans h4⟩
  | ret=>exact⟨.ret,s',H',ρ',rfl,h2,h3,ak.trans h4⟩
theorem Ic (ht:eH C) (hm:C.P.follows .mixedOrders=true) (cP:B.base=C.base) (c:Code) {Q:Ex→St→Hp→Prop} {s:St} {H:Hp} {a:Act} {w:World} {ρ:bk} (h:AB C (Tp C (AB C (QW C))) c Q s H) (hr:Rel C B ρ s H a w):c.wp C.P (qj C B H Q) a w :=
 lV ht hm cP (Rt cP fun c=>lV ht hm cP (Rs cP) c) c h hr
end
end Go.Sy
end
section
namespace Go.Sy
open Go.RowKit (Below)
section
variable {C:Cx} {B:Bs} {ρ:bk} {s:St} {H:Hp} {a:Act} {w:World} {P:Program}
def C4 (tmps:Array Value):ResultVar→Sem Value
 | .tmp t=>pure (tmps.getD t undef)
 | .cell a t=>do loadVar t (←asAddr (tmps.getD a undef))
theorem AY (ht:eH C) (hr:Rel C B ρ s H a w):∀ {l:List ResultVar} {xs:List SV},vg C s l=some xs→(l.mapM (C4 a.tmps)).run C.P w = .ok (cE ρ xs) w∧SV.jW s.nx xs=true
 | [],xs,h=>by
  simp only[vg,Option.some.injEq]at h;subst h;exact⟨by simp [cE],by rw[SV.jW]⟩
 | .tmp t::r,xs,h=>by
  simp only[vg]at h;split at h
  ·rename_i x hx;split at h
   ·rename_i l hl;simp only[Option.some.injEq]at h;subst h;obtain⟨h1,h2⟩:=ai hr hx;obtain⟨h3,h4⟩:=AY ht hr hl;have CL:a.tmps.getD t undef=ga ρ x:=h1;refine⟨?_,by rw[SV.jW,h2];exact h4⟩;simp only[List.mapM_cons,C4,Sem.run_bind,Sem.run_pure,Result.andThen_ok,CL,h3,cE]
   ·cases h
  ·cases h
 | .cell t T::r,xs,h=>by
  simp only[vg]at h;split at h
  ·rename_i k off hx;split at h
   ·rename_i T0 cs hk;split at h
    ·rename_i n hn
     cases hle:Nat.ble (off+n) cs.length with
     | false=>rw[hle]at h;cases h
     | true =>
      rw[hle]at h;simp only[cond_true]at h;have hle:=dp hle;split at h
      ·rename_i x zd;split at h
       ·rename_i l hl;simp only[Option.some.injEq]at h;subst h;have h1:=(ai hr hx).1;rw[ga]at h1;have CL:a.tmps.getD t undef = .pointer (some ⟨ρ.b k,off,none⟩):=h1;have hb:=(hr.mem.ok _ _ hk).2.1;simp only[bu]at hb
        have h2:=nm (ρ:=ρ) (w:=w) ht hn (g:=ρ.b k) (off:=off) (l:=(cs.drop off).take n) (by simp;omega) (fun j v hv=>by
         rw[cell_of _ _ hb];rw[lS,List.getElem?_take]at hv;split at hv
         ·simpa [List.getElem?_drop] using hv
         ·cases hv) zd
        obtain⟨h3,h4⟩:=AY ht hr hl;refine⟨?_,by rw[SV.jW,wu zd (lT (hr.mem.ok _ _ hk).2.2 off n)];exact h4⟩;simp only[List.mapM_cons,C4,CL,asAddr,Sem.run_bind,Sem.run_pure,Result.andThen_ok,h2,h3,cE]
       ·cases h
      ·cases h
    ·cases h
   ·cases h
  ·cases h
theorem wQ (ht:eH C) (hr:Rel C B ρ s H a w) {fn:Func} {xs:List SV} (h:vg C s fn.results.toList=some xs):(results fn a.tmps).run C.P w = .ok (ga ρ (rI xs)) w:=by
 have h1:=(AY ht hr h).1
 have h2:(fn.results.mapM (C4 a.tmps)).run C.P w = .ok (cE ρ xs).toArray w:=by
  rw[Array.mapM_eq_mapM_toList,Sem.run_map,h1];rfl
 have h3:results fn a.tmps=(do let vs ←fn.results.mapM (C4 a.tmps);pure (if h:vs.size=1 then vs[0] else .tuple vs)):=by
  unfold results
  congr 2
 rw[h3,Sem.run_bind,h2];simp only[Result.andThen_ok,Sem.run_pure]
 match xs with
 | [x]=>simp [cE,rI]
 | []=>simp [cE,rI,ga]
 | x::y::r=>simp [cE,rI,ga]
theorem zg:∀(i:Nat) (l:List Value) (t:Nat) (x:SV),lk (qI i l) t=some x→i≤t∧∃v,l[t - i]?=some v∧x=NV v
 | i,[],t,x,h=>by simp [qI,lk]at h
 | i,v::r,t,x,h=>by
  rw[qI,aT]at h;split at h
  ·rename_i e;subst e;simp only[Option.some.injEq]at h;subst h;exact⟨Nat.le_refl _,v,by simp,rfl⟩
  ·rename_i cu;obtain⟨h1,u,h2,h3⟩:=zg (i+1) r t x h;refine⟨by omega,u,?_,h3⟩;rw[show t - i=(t - (i+1))+1 by omega]
   simpa using h2
theorem ab (ht:eH C) (hm:C.P.follows .mixedOrders=true) (hb:C.base=0) {f:FuncId} {fn:Func} (hf:C.P.funcs[f]?=some fn) (hc:∀as w,(callFunc f as).run C.P w = .ok (.enter f as) w) {n:Nat} (hn:fn.ntmps=n) {rs:Array ResultVar} (V6:fn.results=rs) {c:Code} (Cu:fn.body=some c) {args:List Value} (cN:Nat.ble args.length n=true)
  {K:Value→Hp→Prop} (h:Vx C n c rs.toList args H K) (TR:C.rg=false:=by rfl):aq C.P f args H K:=by
 rw[QY]at h;refine⟨hc,fun w hp=>?_⟩;subst hn;subst V6;have cN:=dp cN;unfold Xf at h
 ·refine calls_of_wp hf Cu ?_
  let C':Cx:={ C with n:=fn.ntmps }
  have S7:eH C':=⟨ht.tt,ht.eqs⟩
  let B:Bs:={ N:=w.heap.size,w0:=w,E:=fun _=>False,base:=0,ρ:=⟨fun _=>0,fun _=>(none,0,0)⟩,H:=H }
  have hr:Rel C' B ⟨fun _=>0,fun _=>(none,0,0)⟩ { env:=qI 0 args,bx:=[],nx:=0 } H { tmps:=args.toArray++Array.replicate (fn.ntmps - args.toArray.size) undef,defers:=[] } w :=
   {env:=fun t x hx=>by
     obtain⟨_,v,h1,rfl⟩:=zg 0 args t x hx;have aj:=(gh.1 h1).1;refine⟨?_,(oI ⟨fun _=>0,fun _=>(none,0,0)⟩ v).2 _⟩;rw[(oI _ v).1];simp only[Nat.sub_zero]at h1 aj;rw[Array.getElem?_append_left (by simpa using aj)]
     simpa using h1
    sz:=by simp [C'];omega
    defers:=Aw.nil _ _ _
    mem:={ os:=rfl,tape:=rfl,output:=OD.refl _,size:=Nat.le_refl _,frame:=fun _ _ _=>rfl,base:=Nat.zero_le _,agree:=fun k hk=>absurd hk (Nat.not_lt_zero k),hp:=hp,hle:=Le.refl H,cR:=fun _ h _ _=>h,ok:=fun k b hk=>by simp [lk]at hk,own:=fun k b g hk=>by simp [lk]at hk,eZ:=fun k k' b b' g hk=>by simp [lk]at hk } }
  refine wp_mono (Ic (B:=B) S7 hm hb.symm c h hr) fun e a' w' ⟨e0,s',H',ρ',h1,h2,h3,h4⟩=>?_
  subst h1
  have fin:∀l,vg C' s' fn.results.toList=some l→fz (rI l) s' H' (fun v _ wc=>K v wc)→a'.defers=[]∧∃v,(results fn a'.tmps).run C.P w' = .ok v w'∧∃v1 H1,Ending.returned v = .returned v1∧K v1 H1∧Le H H1∧(∀b o,H1 b=some o→w'.heap[b]?=some o) ∧
    (∀b,H b=none→b<w.heap.size→H1 b=none)∧fx w.heap.size w w':=fun l hl hz=>by
   obtain⟨s1,H1,k1,k2,k3,k4⟩:=LA (rI l) h3 hz;refine⟨by have:=h3.defers;rw[show C'.rg=false from TR]at this;exact this,_,wQ S7 h3 hl,_,H1,rfl,k1,h4.trans k3,k2.mem.hp,fun b hb aj=>k2.mem.cR b hb aj (fun h=>h),⟨⟨k2.mem.os,k2.mem.tape,k2.mem.output.1,k2.mem.size,fun b hb=>k2.mem.frame b hb (fun h=>h)⟩,k2.mem.output.2⟩⟩
  cases e0 with
  | normal =>
   simp only at h2;split at h2
   ·rename_i l hl;exact fin l hl (by rw[we]at h2;exact h2)
   ·exact h2.elim
  | ret =>
   simp only at h2;split at h2
   ·rename_i l hl;exact fin l hl (by rw[we]at h2;exact h2)
   ·exact h2.elim
  | exit i=>exact h2.elim
  | goto l=>exact h2.elim
end
end Go.Sy
end
section
namespace Go.Sy
open Go.RowKit (Below)
section
variable {C:Cx} {B:Bs} {ρ:bk} {s:St} {H:Hp} {a:Act} {w:World} {P:Program}
def pT:Nat→List SV→List (Nat×SV)
 | _,[]=>[]
 | i,x::r=>(i,x)::pT (i+1) r
def shrink (x:SV) (bx:List (Nat×Bx)) (nx:Nat) (K:SV→List (Nat×Bx)→Nat→Prop):Prop:=match x with
 | .sub k sz 0 n=>match lk bx k with
  | some (.row e cn xs)=>n≤xs.length∧K (.own nx) ((nx,.row e cn (xs.take n))::(k,.dead)::bx) (nx+1)
  | _=>K (.sub k sz 0 n) bx nx
 | x=>K x bx nx
noncomputable def TS (C:Cx) (n:Nat) (c:Code) (res:List ResultVar) (args:List SV) (bx:List (Nat×Bx)) (nx:Nat) (H:Hp) (K:SV→St→Hp→Prop):Prop :=
 Lh { C with n:=n,base:=nx } (Tp { C with n:=n,base:=nx } (Lh { C with n:=n,base:=nx } (QW { C with n:=n,base:=nx }))) c (fun e s' H'=>match e with
   | .normal | .ret=>match vg { C with n:=n,base:=nx } s' res with
    | some l=>shrink (rI l) s'.bx s'.nx fun x Fs E2=>∃(y:SV) (b2:List (Nat×Bx)) (n2:Nat) (m:List (Nat×Nat)),Sub { C with n:=1,base:=nx } m ⟨[(0,x)],Fs,E2⟩ ⟨[(0,y)],b2,n2⟩∧K y ⟨[],b2,n2⟩ H'
    | none=>False
   | _=>False) { env:=pT 0 args,bx:=bx,nx:=nx } H
theorem wR:∀(i:Nat) (l:List SV) (t:Nat) (x:SV),lk (pT i l) t=some x→i≤t∧l[t - i]?=some x
 | i,[],t,x,h=>by simp [pT,lk]at h
 | i,v::r,t,x,h=>by
  rw[pT,aT]at h;split at h
  ·rename_i e;subst e;simp only[Option.some.injEq]at h;subst h;exact⟨Nat.le_refl _,by simp⟩
  ·rename_i cu;obtain⟨h1,h2⟩:=wR (i+1) r t x h;refine⟨by omega,?_⟩;rw[show t - i=(t - (i+1))+1 by omega]
   simpa using h2
theorem Jm {x:SV} {bx:List (Nat×Bx)} {nx:Nat} {K:SV→List (Nat×Bx)→Nat→Prop} (h:shrink x bx nx K) (hr:Rel C B ρ ⟨[(0,x)],bx,nx⟩ H { tmps:=#[ga ρ x],defers:=[] } w):
  ∃x' Fs E2 ρ',K x' Fs E2∧ga ρ' x'=ga ρ x∧Rel C B ρ' ⟨[(0,x')],Fs,E2⟩ H { tmps:=#[ga ρ' x'],defers:=[] } w:=by
 unfold shrink at h;split at h
 ·rename_i k sz n;split at h
  ·rename_i e cn xs hk;obtain⟨hn,h⟩:=h;obtain⟨ρ',iX,hg⟩:=hr.LY hk hn sz;refine⟨_,_,_,ρ',h,by rw[hg,ga],⟨fun t x hx=>?_,hr.sz,Aw.nil _ _ _,iX.mem⟩⟩;rw[aT]at hx;split at hx
   ·rename_i e;subst e;cases hx;exact⟨rfl,by rw[SV.lt];exact Nat.ble_eq_true_of_le (Nat.le_refl _)⟩
   ·cases hx
  ·exact⟨_,_,_,ρ,h,rfl,hr⟩
 ·exact⟨_,_,_,ρ,h,rfl,hr⟩
theorem aJ (ht:eH C) (hm:C.P.follows .mixedOrders=true) {f:FuncId} {fn:Func} (hf:C.P.funcs[f]?=some fn) (hc:∀as w,(callFunc f as).run C.P w = .ok (.enter f as) w) {n:Nat} (hn:fn.ntmps=n) {rs:Array ResultVar} (V6:fn.results=rs) {c:Code} (Cu:fn.body=some c) {args:List SV} {bx:List (Nat×Bx)} {nx:Nat} (cN:Nat.ble args.length n=true)
  {K:SV→St→Hp→Prop} (h:TS C n c rs.toList args bx nx H K) (TR:C.rg=false:=by rfl):aY C.P f args bx nx H K:=by
 refine⟨hc,fun w ρ iG hl=>?_⟩;subst hn;subst V6;have cN:=dp cN;unfold TS at h;rw[AE,funext (AE { C with n:=fn.ntmps,base:=nx } (QW { C with n:=fn.ntmps,base:=nx }))]at h;refine calls_of_wp hf Cu ?_
 let C':Cx:={ C with n:=fn.ntmps,base:=nx }
 have S7:eH C':=⟨ht.tt,ht.eqs⟩
 have hlen:(cE ρ args).length=args.length:=by rw[cH,List.length_map]
 have hr:Rel C' (Bs.lP w ρ bx nx H) ρ { env:=pT 0 args,bx:=bx,nx:=nx } H { tmps:=(cE ρ args).toArray++Array.replicate (fn.ntmps - (cE ρ args).toArray.size) undef,defers:=[] } w :=
  {env:=fun t x hx=>by
    obtain⟨_,h1⟩:=wR 0 args t x hx;rw[Nat.sub_zero]at h1;have aj:=(gh.1 h1).1;refine⟨?_,(dS nx args).1 hl x (dY h1)⟩;rw[Array.getElem?_append_left (by simpa [hlen] using aj)];simp [cH,h1]
   sz:=by simp [C',hlen];omega
   defers:=Aw.nil _ _ _
   mem:=iG }
 refine wp_mono (Ic (B:=Bs.lP w ρ bx nx H) S7 hm rfl c h hr) fun e a' w' ⟨e0,s',H',ρ',h1,h2,h3,h4⟩=>?_
 subst h1
 have fin:∀l,vg C' s' fn.results.toList=some l→(shrink (rI l) s'.bx s'.nx fun x Fs E2=>∃(y:SV) (b2:List (Nat×Bx)) (n2:Nat) (m:List (Nat×Nat)),Sub { C with n:=1,base:=nx } m ⟨[(0,x)],Fs,E2⟩ ⟨[(0,y)],b2,n2⟩∧K y ⟨[],b2,n2⟩ H') →
   a'.defers=[]∧∃v,(results fn a'.tmps).run C.P w' = .ok v w'∧∃x t H1 ρ1,Ending.returned v = .returned (ga ρ1 x)∧K x t H1∧x.lt t.nx=true∧Mem (Bs.lP w ρ bx nx H) ρ1 t.bx t.nx H1 w':=fun l hl KR=>by
  have Ja:=(AY S7 h3 hl).2
  have rO:(rI l).lt s'.nx=true:=by
   unfold rI;split
   ·rw[dS]at Ja;exact Ja _ (by simp)
   ·rw[SV.lt];exact Ja
  have bj:Rel { C with n:=1,base:=nx } (Bs.lP w ρ bx nx H) ρ' ⟨[(0,rI l)],s'.bx,s'.nx⟩ H' { tmps:=#[ga ρ' (rI l)],defers:=[] } w' :=
   {env:=fun t x hx=>by
     rw[aT]at hx;split at hx
     ·rename_i e;subst e;cases hx;exact⟨rfl,rO⟩
     ·cases hx
    sz:=rfl
    defers:=Aw.nil _ _ _
    mem:=h3.mem }
  obtain⟨x3,bx3,nx3,ρ3,⟨y,b2,n2,m,wS,hk⟩,S5,db⟩:=Jm KR bj;obtain⟨ρ1,bh⟩:=db.sub rfl wS;obtain⟨e1,e2⟩:=bh.env 0 y rfl;refine⟨by have:=h3.defers;rw[show C'.rg=false from TR]at this;exact this,_,wQ S7 h3 hl,y,_,H',ρ1,?_,hk,e2,bh.mem⟩
  have:ga ρ3 x3=ga ρ1 y:=by simpa using e1
  rw[←S5,this]
 cases e0 with
 | normal =>
  simp only at h2;split at h2
  ·rename_i l hl;exact fin l hl h2
  ·exact h2.elim
 | ret =>
  simp only at h2;split at h2
  ·rename_i l hl;exact fin l hl h2
  ·exact h2.elim
 | exit i=>exact h2.elim
 | goto l=>exact h2.elim
end
end Go.Sy
end
section
/- How data lie in memory that is never written again; the law of a contract. -/
namespace Go.Sy
open Go.RowKit (Below)
class cq (α:Type) where
 sz:Nat
 R:Hp→List Value→α→Prop
 len:∀ {H cs a},R H cs a→cs.length=sz
 one:∀ {H cs a},R H cs a→∀u∈cs,u.oneCell'=true
 up:∀ {H H' cs a},Le H H'→R H cs a→R H' cs a
instance:cq Int where
 sz:=1
 R _ cs n:=cs=[.int .i64 n]∧-9223372036854775808≤n∧n≤9223372036854775807
 len h:=by rw[h.1];rfl
 one h:=by rw[h.1];simp [Value.oneCell']
 up _ h:=h
instance:cq UInt64 where
 sz:=1
 R _ cs n:=cs=[.int .u64 n.toNat]
 len h:=by rw[h];rfl
 one h:=by rw[h];simp [Value.oneCell']
 up _ h:=h
instance:cq UInt8 where
 sz:=1
 R _ cs n:=cs=[.int .u8 n.toNat]
 len h:=by rw[h];rfl
 one h:=by rw[h];simp [Value.oneCell']
 up _ h:=h
instance:cq Bool where
 sz:=1
 R _ cs n:=cs=[.bool n]
 len h:=by rw[h];rfl
 one h:=by rw[h];simp [Value.oneCell']
 up _ h:=h
@[simp] theorem dM (l:List UInt8):sl (bs l)=l:=rfl
@[simp] theorem Xv (b:ByteArray):bs (sl b)=b:=rfl
theorem dt {p:Prop} [Decidable p] (h:decide p=true):p:=of_decide_eq_true h
theorem df {p:Prop} [Decidable p] (h:decide p=false):¬p:=of_decide_eq_false h
theorem nt {p:Prop} [Decidable p] (h:(!decide p)=true):¬p:=by simpa using h
theorem nf {p:Prop} [Decidable p] (h:(!decide p)=false):p:=by simpa using h
structure iz where
 l:List UInt8
 deriving DecidableEq
instance:cq iz where
 sz:=1
 R _ cs n:=cs=[.string (bs n.l)]∧n.l.length≤9223372036854775807
 len h:=by rw[h.1];rfl
 one h:=by rw[h.1];simp [Value.oneCell']
 up _ h:=h
def RL {α:Type} [cq α] (H:Hp) (a:Option Addr) (n c:Nat) (xs:List α):Prop :=
 n=xs.length∧n≤c∧c≤9223372036854775807∧(c=0∨∃ad,a=some ad∧ad.spot=none∧∃cells T fr,H ad.block=some (.cells cells T fr)∧ad.off+c*cq.sz α≤cells.size ∧
  ∀i x,xs[i]?=some x→∃cs,cq.R H cs x∧∀j,j<cq.sz α→cells[ad.off+i*cq.sz α+j]?=cs[j]?)
section
variable {α β:Type} [cq α] [cq β] {H H':Hp} {a:Option Addr} {n c:Nat} {xs:List α}
theorem RL.up (h:RL H a n c xs) (hle:Le H H'):RL H' a n c xs:=by
 obtain⟨h1,h2,h3,h4⟩:=h;refine⟨h1,h2,h3,?_⟩
 rcases h4 with h4 | ⟨ad,e,hs,cells,T,fr,hH,hc,hx⟩
 ·exact .inl h4
 ·refine .inr ⟨ad,e,hs,cells,T,fr,hle _ _ hH,hc,fun i x hi=>?_⟩;obtain⟨cs,h5,h6⟩:=hx i x hi;exact⟨cs,cq.up hle h5,h6⟩
theorem RL.aB (h:RL H a n c xs):n=xs.length:=h.1
theorem RL.le (h:RL H a n c xs):n≤9223372036854775807:=by have:=h.2.1;have:=h.2.2.1;omega
instance:cq (List α) where
 sz:=1
 R H cs xs:=∃a n c,cs=[.slice a n c]∧RL H a n c xs
 len h:=by obtain⟨a,n,c,e,_⟩:=h;rw[e];rfl
 one h:=by obtain⟨a,n,c,e,_⟩:=h;rw[e];simp [Value.oneCell']
 up hle h:=by obtain⟨a,n,c,e,h⟩:=h;exact⟨a,n,c,e,h.up hle⟩
theorem RL.elem (h:RL H a n c xs) {i:Nat} {x:α} (hi:xs[i]?=some x):∃ad cs,a=some ad∧jz H ad (i:Int) (cq.sz α) cs∧cq.R H cs x:=by
 obtain⟨h1,h2,_,h4⟩:=h;have aj:=(gh.1 hi).1
 rcases h4 with hc | ⟨ad,e,hs,cells,T,fr,hH,hc,hx⟩
 ·omega
 ·obtain⟨cs,h5,h6⟩:=hx i x hi;exact⟨ad,cs,e,⟨hs,cq.len h5,cells,T,fr,hH,by simpa using h6⟩,h5⟩
theorem RL.cut (h:RL H a n c xs) {l k:Nat} (Tv:l≤k) (hk:k≤n):RL H (dR a l c (cq.sz α)) (k - l) (c - l) ((xs.take k).drop l):=by
 obtain⟨h1,h2,h3,h4⟩:=h;refine⟨by simp;omega,by omega,by omega,?_⟩
 by_cases fC:c=l
 ·exact .inl (by omega)
 ·rcases h4 with hc | ⟨ad,e,hs,cells,T,fr,hH,hc,hx⟩
  ·omega
  ·subst e;obtain⟨b,o,sp⟩:=ad;simp only at hs;subst hs;refine .inr ⟨⟨b,o+l*cq.sz α,none⟩,by rw[dR,if_neg fC,Option.map_some,Addr.at_],rfl,cells,T,fr,hH,?_,fun i x hi=>?_⟩
   ·have:l*cq.sz α+(c - l)*cq.sz α=c*cq.sz α:=by rw[←Nat.add_mul];congr 1;omega
    simp only at hc ⊢;omega
   ·rw[List.getElem?_drop,List.getElem?_take]at hi;split at hi
    ·obtain⟨cs,h5,h6⟩:=hx (l+i) x hi;refine⟨cs,h5,fun j hj=>?_⟩;have:=h6 j hj;rw[Nat.add_mul]at this;simp only at this ⊢;rw[show o+l*cq.sz α+i*cq.sz α+j=o+(l*cq.sz α+i*cq.sz α)+j by omega];exact this
    ·cases hi
def RC (H:Hp) (css:List (List Value)) (xs:List α):Prop:=css.length=xs.length∧∀(i:Nat) (cs:List Value) (x:α),css[i]?=some cs→xs[i]?=some x→cq.R H cs x
theorem RC.nil:RC (α:=α) H [] []:=⟨rfl,fun i cs x h=>by simp at h⟩
theorem RC.up {css:List (List Value)} (h:RC H css xs) (hle:Le H H'):RC H' css xs:=⟨h.1,fun i cs x h1 h2=>cq.up hle (h.2 i cs x h1 h2)⟩
theorem RC.snoc {css:List (List Value)} {cs:List Value} {x:α} (h:RC H css xs) (hx:cq.R H cs x):RC H (css++[cs]) (xs++[x]):=by
 refine⟨by simp [h.1],fun i c y h1 h2=>?_⟩;rw[List.getElem?_append]at h1 h2
 by_cases aj:i<css.length
 ·rw[if_pos aj]at h1;rw[if_pos (by rw[←h.1];exact aj)]at h2;exact h.2 i c y h1 h2
 ·rw[if_neg aj]at h1;rw[if_neg (by rw[←h.1];exact aj)]at h2
  have e:i - css.length=0:=by
   have:=(gh.1 h1).1
   simp at this;omega
  rw[e]at h1;rw[←h.1,e]at h2;simp at h1 h2;subst h1 h2;exact hx
theorem RC.append {css kZ:List (List Value)} {ys:List α} (h:RC H css xs) (hy:RC H kZ ys):RC H (css++kZ) (xs++ys):=by
 refine⟨by simp [h.1,hy.1],fun i c y h1 h2=>?_⟩;rw[List.getElem?_append]at h1 h2
 by_cases aj:i<css.length
 ·rw[if_pos aj]at h1;rw[if_pos (by rw[←h.1];exact aj)]at h2;exact h.2 i c y h1 h2
 ·rw[if_neg aj]at h1;rw[if_neg (by rw[←h.1];exact aj)]at h2;rw[←h.1]at h2;exact hy.2 _ c y h1 h2
theorem RC.take {css:List (List Value)} (h:RC H css xs) (k:Nat):RC H (css.take k) (xs.take k):=by
 refine⟨by simp [h.1],fun i c y h1 h2=>?_⟩;rw[List.getElem?_take]at h1 h2;split at h1
 ·rename_i aj;rw[if_pos aj]at h2;exact h.2 i c y h1 h2
 ·cases h1
theorem RC.set {css:List (List Value)} {cs:List Value} {x:α} (h:RC H css xs) (hx:cq.R H cs x) (k:Nat):RC H (css.set k cs) (xs.set k x):=by
 refine⟨by simp [h.1],fun i c y h1 h2=>?_⟩;rw[List.getElem?_set]at h1 h2;split at h1
 ·rename_i e;subst e;rw[if_pos rfl]at h2;split at h1
  ·rw[if_pos (by rw[←h.1];assumption)]at h2;simp only[Option.some.injEq]at h1 h2;subst h1 h2;exact hx
  ·cases h1
 ·rename_i cu;rw[if_neg cu]at h2;exact h.2 i c y h1 h2
theorem RC.get {css:List (List Value)} (h:RC H css xs) {i:Nat} {x:α} (hi:xs[i]?=some x):∃cs,css[i]?=some cs∧cq.R H cs x:=by
 have aj:=(gh.1 hi).1
 have OM:i<css.length:=by rw[h.1];exact aj
 have h1:css[i]?=some css[i]:=aL OM;exact⟨_,h1,h.2 i _ x h1 hi⟩
theorem RL.aC {v:Value} {css:List (List Value)} (h:aW H v (cq.sz α) css) (hc:RC H css xs):∃a n c,v = .slice a n c∧RL H a n c xs:=by
 obtain⟨a,cap,e,h1,h2,h3⟩:=h;refine⟨a,_,cap,e,hc.1,h1.1,h1.2,?_⟩
 rcases h3 with ⟨_,h4⟩ | ⟨ad,h3,hs,cells,T,fr,hH,cN,hx⟩
 ·exact .inl h4
 ·refine .inr ⟨ad,h3,hs,cells,T,fr,hH,cN,fun i x hi=>?_⟩;obtain⟨cs,h5,h6⟩:=hc.get hi;exact⟨cs,h6,fun j hj=>hx i cs h5 j hj⟩
theorem RL.row (h:RL H a n c xs):∃css,aW H (.slice a n c) (cq.sz α) css∧RC H css xs:=by
 obtain⟨h1,h2,eI,h4⟩:=h
 rcases h4 with hc | ⟨ad,e,hs,cells,T,fr,hH,hc,hx⟩
 ·have:xs=[]:=List.eq_nil_of_length_eq_zero (by omega);subst this;exact⟨[],⟨a,c,by simp [h1],by simp;omega,by simp,.inl ⟨rfl,hc⟩⟩,RC.nil⟩
 ·have hex:∀i:Nat,∃cs,∀x,xs[i]?=some x→cq.R H cs x∧∀j,j<cq.sz α→cells[ad.off+i*cq.sz α+j]?=cs[j]?:=fun i=>by
   cases hi:xs[i]? with
   | none=>exact⟨[],fun x h=>by cases h⟩
   | some x =>
    obtain⟨cs,h5,h6⟩:=hx i x hi;exact⟨cs,fun y h=>by simp only[Option.some.injEq]at h;subst h;exact⟨h5,h6⟩⟩
  let f:Nat→List Value:=fun i=>Classical.choose (hex i)
  have hf:∀i x,xs[i]?=some x→cq.R H (f i) x∧∀j,j<cq.sz α→cells[ad.off+i*cq.sz α+j]?=(f i)[j]?:=fun i=>Classical.choose_spec (hex i)
  refine⟨(List.range xs.length).map f,⟨a,c,by simp [h1],by simp;omega,fun y hy=>?_,.inr ⟨ad,e,hs,cells,T,fr,hH,hc,fun i y hi j hj=>?_⟩⟩,by simp,fun i y x hi mj=>?_⟩
  ·simp only[List.mem_map,List.mem_range]at hy;obtain⟨i,hi,rfl⟩:=hy;have:=(hf i xs[i] (aL hi)).1;exact⟨cq.len this,cq.one this⟩
  ·have aj:=(gh.1 hi).1;simp at aj;simp [aj]at hi;subst hi;exact (hf i xs[i] (aL aj)).2 j hj
  ·have aj:=(gh.1 mj).1;simp [aj]at hi;subst hi;exact (hf i x mj).1
end
instance {α β:Type} [cq α] [cq β]:cq (α×β) where
 sz:=cq.sz α+cq.sz β
 R H cs p:=∃c1 c2,cs=c1++c2∧cq.R H c1 p.1∧cq.R H c2 p.2
 len h:=by obtain⟨c1,c2,rfl,h1,h2⟩:=h;rw[List.length_append,cq.len h1,cq.len h2]
 one h:=by
  obtain⟨c1,c2,rfl,h1,h2⟩:=h;intro u hu
  rcases List.mem_append.1 hu with h | h
  ·exact cq.one h1 u h
  ·exact cq.one h2 u h
 up hle h:=by obtain⟨c1,c2,e,h1,h2⟩:=h;exact⟨c1,c2,e,cq.up hle h1,cq.up hle h2⟩
end Go.Sy
end
section
namespace Go.Sy
open Go.RowKit (Below)
variable {B:Bs} {ρ:bk} {H:Hp} {w:World}
open Classical in
noncomputable def FL (ρ:bk) (k:Nat) (b:Bx) (w:World) (H:Hp):Hp:=fun g=>if br ρ k b g then w.heap[g]? else H g
theorem AZ {k g:Nat} {b:Bx} (h:br ρ k b g):FL ρ k b w H g=w.heap[g]?:=if_pos h
theorem rT {k g:Nat} {b:Bx} (h:¬br ρ k b g):FL ρ k b w H g=H g:=if_neg h
theorem Mem.qh {bx:List (Nat×Bx)} {nx k:Nat} {b:Bx} (hm:Mem B ρ bx nx H w) (hk:lk bx k=some b):Le H (FL ρ k b w H)∧Mem B ρ ((k,.dead)::bx) nx (FL ρ k b w H) w:=by
 have hle:Le H (FL ρ k b w H):=fun g o hg=>by
  rw[rT]
  ·exact hg
  ·intro ho;rw[(hm.own k b g hk ho).1]at hg;cases hg
 refine⟨hle,?_⟩;have jg:Mem B ρ ((k,.dead)::bx) nx H w:=hm.write hk rfl rfl ⟨rfl,Nat.le_refl _⟩ (Nat.le_refl _) (fun _ _ _=>rfl) rfl trivial (fun g hg=>hg.elim);exact
 {os:=hm.os,tape:=hm.tape,output:=hm.output,size:=hm.size,frame:=hm.frame,base:=hm.base,agree:=hm.agree
  hp:=fun g o hg=>by
   by_cases ho:br ρ k b g
   ·rw[AZ ho]at hg;exact hg
   ·rw[rT ho]at hg;exact hm.hp g o hg
  hle:=fun g o hg=>hle g o (hm.hle g o hg)
  cR:=fun g h1 h2 h3=>by
   rw[rT]
   ·exact hm.cR g h1 h2 h3
   ·intro ho
    rcases (hm.own k b g hk ho).2 with h | h
    ·omega
    ·exact h3 h
  ok:=jg.ok
  own:=fun j x g hj ho=>by
   rw[aT]at hj;split at hj
   ·simp only[Option.some.injEq]at hj;subst hj;exact ho.elim
   ·rename_i cu;rw[rT]
    ·exact hm.own j x g hj ho
    ·exact fun dx=>cu (hm.eZ k j b x g hk hj dx ho)
  eZ:=jg.eZ }
theorem Rv {k:Nat} {e:TypeId} {sz:Nat} {l:List (Value×List (List Value))} (hb:bu ρ w k (.kW e sz l)) {p:Value×List (List Value)} (hp:p∈l):aW (FL ρ k (.kW e sz l) w H) p.1 sz p.2:=by
 have Fz:=hb.1 p hp
 rcases Fz.1.2 with ⟨h1,h2⟩ | ⟨g,cap,cur,h1,_⟩
 ·have:p.2=[]:=List.eq_nil_of_length_eq_zero h2;exact⟨none,0,by rw[h1,this];rfl,⟨by rw[this];exact Nat.le_refl _,by omega⟩,Fz.2,.inl ⟨this,rfl⟩⟩
 ·have mq:({ ρ with b:=fun _=>g,sl:=fun _=>(some ⟨g,0,none⟩,p.2.length,cap) }:bk).val 0=p.1:=by rw[h1];rfl
  have:=AL (ρ:=⟨fun _=>g,fun _=>(some ⟨g,0,none⟩,p.2.length,cap)⟩) (w:=w) (k:=0) (e:=e) (sz:=sz) (xs:=p.2) (H':=FL ρ k (.kW e sz l) w H)
   ⟨by show w.ownsRow 0 e sz (bk.val _ 0) _ _;rw[mq];exact Fz.1,Fz.2,fun g' iW=>by rw[mq,h1]at iW;simpa [Value.ownBlock] using iW⟩ (fun g' o iW ho=>by
    rw[mq]at iW;rw[AZ (b:=.kW e sz l) (k:=k) (ρ:=ρ) (show ∃p∈l,p.1.ownBlock=some g' from ⟨p,hp,iW⟩)]
    exact ho)
  rw[mq]at this;exact this
theorem tr {sz:Nat}:∀(l:List (List Value)),(∀x∈l,x.length=sz)→l.flatten.length=l.length*sz
 | [],_=>by simp
 | x::r,h=>by
  rw[List.flatten_cons,List.length_append,h x List.mem_cons_self,tr r (fun y hy=>h y (List.mem_cons_of_mem _ hy)),List.length_cons,Nat.add_mul,Nat.one_mul];omega
theorem fF {P:Program} {f:FuncId} {args:List Value} {H:Hp} {K0:Value→Hp→Prop} {K:SV→St→Hp→Prop} {svs:List SV} (hs:∀ρ,cE ρ svs=args) (hd:aq P f args H K0)
  (hK:∀v H2,Le H H2→K0 v H2→(∃x,(∀ρ,ga ρ x=v)∧x.lt 0=true∧K x ⟨[],[],0⟩ H2)∨∃(e:TypeId) (sz:Nat) (xs:List (List Value)) (h:Value) (x:SV),(∀ρ:bk,ρ.val 0=h→ga ρ x=v)∧x.lt 1=true∧j9 e sz xs H h H2 ∧
   (∀y∈xs,y.length=sz∧∀u∈y,u.oneCell'=true)∧∀H',Le H H'→(∀b o,H2 b=some o→h.ownBlock≠some b→H' b=some o)→K x ⟨[],[(0,.row e sz xs)],1⟩ H'):aY P f svs [] 0 H K:=by
 refine⟨hd.1,fun w ρ hm hl=>?_⟩;rw[hs ρ]
 refine (hd.2 w hm.hp).mono fun ev w' ⟨v,H2,e1,k,hle,hp,cR,lf⟩=>?_
 rcases hK v H2 hle k with ⟨x,hx,aj,TT⟩ | ⟨e,sz,xs,h,x,hx,aj,iG,yX,TT⟩
 ·exact⟨x,_,H2,ρ,by rw[hx ρ];exact e1,TT,aj,
  {os:=lf.os,tape:=lf.tape,output:=⟨lf.output,lf.drawn⟩,size:=lf.size
   frame:=fun b hb _=>lf.block b hb
   base:=Nat.zero_le _
   agree:=fun k hk=>absurd hk (Nat.not_lt_zero k)
   hp:=hp,hle:=hle
   cR:=fun b h1 h2 _=>cR b h1 h2
   ok:=fun k b h=>by cases h
   own:=fun k b g h=>by cases h
   eZ:=fun k k' b b' g h=>by cases h }⟩
 ·have Mj:∀g,h.ownBlock=some g→w.heap.size≤g∧H g=none:=fun g hg=>by
   rcases iG with ⟨h1,_⟩ | ⟨g',cap,c,h1,h2,h3,_⟩
   ·rw[h1]at hg;cases hg
   ·rw[h1]at hg;simp only[Value.ownBlock,Option.some.injEq]at hg;subst hg;refine⟨?_,h2⟩;apply Nat.le_of_not_lt;intro dK;rw[cR _ h2 dK]at h3;cases h3
  let H':Hp:=fun b=>if h.ownBlock=some b then none else H2 b
  have Ot:∀b o,H2 b=some o→h.ownBlock≠some b→H' b=some o:=fun b o hb cu=>by
   show (if h.ownBlock=some b then none else H2 b)=_
   rw[if_neg cu];exact hb
  have YH:∀b o,H' b=some o→H2 b=some o:=fun b o hb=>by
   have hb:(if h.ownBlock=some b then none else H2 b)=some o:=hb;split at hb
   ·cases hb
   ·exact hb
  have iK:Le H H':=fun b o hb=>Ot b o (hle b o hb) fun e2=>by
   rw[(Mj b e2).2]at hb;cases hb
  have KR:∃a n c,h = .slice a n c:=by
   rcases iG with ⟨h1,_⟩ | ⟨g',cap,c,h1,_⟩
   ·exact⟨_,_,_,h1⟩
   ·exact⟨_,_,_,h1⟩
  obtain⟨ha,hn,hc,V7⟩:=KR
  let ρ':bk:=⟨fun _=>h.ownBlock.getD 0,fun _=>(ha,hn,hc)⟩
  have mq:ρ'.val 0=h:=by rw[V7];rfl
  have Ie:∀ {k:Nat} {b:Bx},lk [(0,Bx.row e sz xs)] k=some b→k=0∧b = .row e sz xs:=fun {k b} h=>by
   rw[aT]at h;split at h
   ·rename_i e0;simp only[Option.some.injEq]at h;exact⟨e0.symm,h.symm⟩
   ·cases h
  refine⟨x,⟨[],[(0,.row e sz xs)],1⟩,H',ρ',by rw[hx ρ' mq];exact e1,TT H' iK Ot,aj,?_⟩;exact
  {os:=lf.os,tape:=lf.tape,output:=⟨lf.output,lf.drawn⟩,size:=lf.size
   frame:=fun b hb _=>lf.block b hb
   base:=Nat.zero_le _
   agree:=fun k hk=>absurd hk (Nat.not_lt_zero k)
   hp:=fun b o hb=>hp b o (YH b o hb)
   hle:=iK
   cR:=fun b h1 h2 _=>by
    have h3:=cR b h1 h2;show (if h.ownBlock=some b then none else H2 b)=none;split
    ·rfl
    ·exact h3
   ok:=fun k b hb=>by
    obtain⟨rfl,rfl⟩:=Ie hb;refine⟨Nat.lt_succ_self _,⟨?_,yX,fun g hg=>?_⟩,rfl⟩
    ·rw[mq];refine⟨tr _ fun y hy=>(yX y hy).1,?_⟩
     rcases iG with ⟨h1,h2⟩ | ⟨g,cap,c,h1,h2,h3,h4,h5,h6,h7⟩
     ·exact .inl ⟨h1,by rw[h2];rfl⟩
     ·exact .inr ⟨g,cap,c,h1,Nat.zero_le _,hp _ _ h3,h4,h5,h6,h7⟩
    ·rw[mq]at hg;show h.ownBlock.getD 0=g
     rw[hg];rfl
   own:=fun k b g hb ho=>by
    obtain⟨rfl,rfl⟩:=Ie hb;have ho:(ρ'.val 0).ownBlock=some g:=ho;rw[mq]at ho;refine⟨?_,.inl (Mj g ho).1⟩;show (if h.ownBlock=some g then none else H2 g)=none;rw[if_pos ho]
   eZ:=fun k k' b b' g hb gr _ _=>by
    obtain⟨rfl,_⟩:=Ie hb;obtain⟨rfl,_⟩:=Ie gr
    rfl }
end Go.Sy
end
section
/- A region whose order is open, in which operations on the memory are in no order: each of their orders is gone through. -/
namespace Go.Sy
open Go.RowKit (Below)
def lh:List Oper→Nat→Nat→List Oper
 | [],_,_=>[]
 | o::r,0,i=>{ o with after:=o.after.push { on:=i,ground:=.data } }::r
 | o::r,j+1,i=>o::lh r j i
inductive Jn where
 | one (hs ord:List Nat)
 | two (i j:Nat) (p q:Jn)
def wT (l:List Oper):Jn→Bool
 | .one _ ord=>s7 l.toArray ord
 | .two i j p q=>i != j&&wT (lh l j i) p&&wT (lh l i j) q
noncomputable def Ig (C:Cx) (Q:St→Hp→Prop) (p:Jn):List Oper→St→Hp→Prop :=
 Jn.rec (motive:=fun _=>List Oper→St→Hp→Prop) (fun hs ord l s H=>yR C hs l Q ord s H) (fun i j _ _ ip iq l s H=>ip (lh l j i) s H∧iq (lh l i j) s H) p
theorem vH:∀(l:List Oper) (j i k:Nat),(lh l j i)[k]?=(l[k]?).map fun o=>if k=j then { o with after:=o.after.push { on:=i,ground:=.data } } else o
 | [],_,_,k=>by simp [lh]
 | o::r,0,i,0=>by simp [lh]
 | o::r,0,i,k+1=>by
  simp only[lh,List.getElem?_cons_succ]
  cases r[k]?<;>simp
 | o::r,j+1,i,0=>by simp [lh]
 | o::r,j+1,i,k+1=>by simp [lh,vH r j i k]
theorem rU:∀(l:List Oper) (j i:Nat),(lh l j i).length=l.length
 | [],_,_=>rfl
 | _::_,0,_=>rfl
 | _::r,j+1,i=>by simp [lh,rU r j i]
inductive qs (ops:Array Oper):Nat→Array Bool→List Nat→Prop
 | nil {n:Nat} {listed:Array Bool} (h:Region.ready .any ops listed=[]):qs ops n listed []
 | out {listed:Array Bool}:qs ops 0 listed []
 | cons {n:Nat} {listed:Array Bool} {i:Nat} {l:List Nat} (h:i∈Region.ready .any ops listed) (hl:qs ops n (listed.setIfInBounds i true) l):qs ops (n+1) listed (i::l)
theorem C5 (ops:Array Oper):∀(fuel t:Nat) (listed:Array Bool),qs ops fuel listed (Region.linearise.go .any ops fuel t listed [])
 | 0,t,listed=>by
  simp only[Region.linearise.go,List.reverse_nil];exact .out
 | fuel+1,t,listed=>by
  simp only[Region.linearise.go]
  change qs ops (fuel+1) listed (match (Region.ready .any ops listed)[t % (Region.ready .any ops listed).length]? with
   | some i=>Region.linearise.go .any ops fuel (t / (Region.ready .any ops listed).length) (listed.setIfInBounds i true) [i]
   | none=>[].reverse)
  cases hi:(Region.ready .any ops listed)[t % (Region.ready .any ops listed).length]? with
  | none =>
   have qM:Region.ready .any ops listed=[]:=by
    cases hr:Region.ready .any ops listed with
    | nil=>rfl
    | cons x xs =>
     rw[hr]at hi;have aj:t % (x::xs).length<(x::xs).length:=Nat.mod_lt _ (by simp);simp at hi;simp at aj;omega
   exact .nil qM
  | some i =>
   simp only[];rw[linearise_go_acc,List.reverse_singleton,List.singleton_append];exact .cons (dY hi) (C5 ops fuel _ _)
theorem Jo {P:Program} {ops:Array Oper} {Q:Exit→Act→World→Prop} {n:Nat} {listed:Array Bool} {l:List Nat} (h:qs ops n listed l):∀ {a:Act} {w:World},wpAny P .any ops Q n listed a w→wpOps P ops Q l a w:=by
 induction h with
 | @nil n listed h =>
  intro a w hw
  cases n with
  | zero=>exact hw.2
  | succ n=>exact hw.1 h
 | out=>exact fun hw=>hw.2
 | cons h hl ih =>
  intro a w hw;rw[wpOps_cons];exact wpOp_mono (fun a w=>ih) (hw.2 _ h)
def FM (i j:Nat) (l:List Nat):Prop:=∀pre post,l=pre++j::post→i∈pre
theorem zh {i j:Nat} (cu:i≠j):∀l:List Nat,FM i j l∨FM j i l
 | []=>.inl fun pre post h=>by cases pre<;>cases h
 | x::r=>by
  by_cases hi:x=i
  ·refine .inl fun pre post h=>?_
   cases pre with
   | nil=>simp only[List.nil_append,List.cons.injEq]at h;exact absurd (hi.symm.trans h.1) cu
   | cons y pre=>simp only[List.cons_append,List.cons.injEq]at h;rw[←h.1,hi];exact List.mem_cons_self
  ·by_cases hj:x=j
   ·refine .inr fun pre post h=>?_
    cases pre with
    | nil=>simp only[List.nil_append,List.cons.injEq]at h;exact absurd h.1 hi
    | cons y pre=>simp only[List.cons_append,List.cons.injEq]at h;rw[←h.1,hj];exact List.mem_cons_self
   ·rcases zh cu r with h | h
    ·refine .inl fun pre post e=>?_
     cases pre with
     | nil=>simp only[List.nil_append,List.cons.injEq]at e;exact absurd e.1 hj
     | cons y pre=>simp only[List.cons_append,List.cons.injEq]at e;exact List.mem_cons_of_mem _ (h pre post e.2)
    ·refine .inr fun pre post e=>?_
     cases pre with
     | nil=>simp only[List.nil_append,List.cons.injEq]at e;exact absurd e.1 hi
     | cons y pre=>simp only[List.cons_append,List.cons.injEq]at e;exact List.mem_cons_of_mem _ (h pre post e.2)
theorem zi {l:List Oper} {i j k:Nat} {listed:Array Bool}:k∈Region.ready .any (lh l j i).toArray listed↔k∈Region.ready .any l.toArray listed∧(k=j→listed.getD i false=true):=by
 simp only[Region.ready,List.mem_filter,List.mem_range,List.size_toArray,rU,List.getElem?_toArray,vH,Bool.and_eq_true]
 by_cases aj:k<l.length
 ·simp only[aL aj,Option.map_some,Option.getD_some]
  by_cases hk:k=j
  ·simp only[hk,if_true,forall_const];simp only[Array.all_push,Bool.and_eq_true];constructor
   ·rintro⟨h1,h2,h3,h4⟩;refine⟨⟨h1,h2,h3⟩,?_⟩
    simpa [Region.binds] using h4
   ·rintro⟨⟨h1,h2,h3⟩,h4⟩;exact⟨h1,h2,h3,by simp [h4]⟩
  ·simp only[hk,if_false,false_implies,and_true]
 ·simp [aj]
theorem zj {l:List Oper} {i j n:Nat} {listed:Array Bool} {r:List Nat} (h:qs l.toArray n listed r) (hb:listed.getD i false=true∨FM i j r):qs (lh l j i).toArray n listed r:=by
 induction h with
 | nil h =>
  refine .nil (List.eq_nil_iff_forall_not_mem.2 fun k hk=>?_);have:=(zi.1 hk).1
  rw[h]at this;cases this
 | out=>exact .out
 | @cons n listed k r h hl ih =>
  have kX:listed.getD k true=false:=by
   simp only[Region.ready,List.mem_filter,Bool.and_eq_true,Bool.not_eq_true']at h;exact h.2.1
  have e8:k<listed.size:=by
   rcases Nat.lt_or_ge k listed.size with h | h
   ·exact h
   ·rw[Array.getD_eq_getD_getElem?,Array.getElem?_eq_none h]at kX;cases kX
  refine .cons (zi.2 ⟨h,fun e=>?_⟩) (ih ?_)
  ·rcases hb with hb | hb
   ·exact hb
   ·subst e;have:=hb [] r rfl;cases this
  ·rcases hb with hb | hb
   ·left
    rw[Array.getD_eq_getD_getElem?]at hb ⊢
    by_cases e:k=i
    ·subst e;rw[Array.getElem?_setIfInBounds_self_of_lt e8];rfl
    ·rw[Array.getElem?_setIfInBounds_ne e];exact hb
   ·by_cases e:k=i
    ·subst e
     left
     rw[Array.getD_eq_getD_getElem?,Array.getElem?_setIfInBounds_self_of_lt e8];rfl
    ·right
     intro pre post hr;have:=hb (k::pre) post (by rw[hr];rfl)
     rcases List.mem_cons.1 this with h2 | h2
     ·exact absurd h2.symm e
     ·exact h2
theorem mr {P:Program} {l:List Oper} {i j:Nat} {Q:Exit→Act→World→Prop}:∀(r:List Nat) {a:Act} {w:World},wpOps P (lh l j i).toArray Q r a w→wpOps P l.toArray Q r a w
 | [],a,w,h=>h
 | k::r,a,w,h=>by
  have hy:yielded (lh l j i).toArray a.tmps=yielded l.toArray a.tmps:=by
   funext g;unfold yielded
   have:((lh l j i).toArray[g]?).bind (·.dst)=(l.toArray[g]?).bind (·.dst):=by
    rw[List.getElem?_toArray,List.getElem?_toArray,vH]
    cases l[g]? with
    | none=>rfl
    | some o=>simp only[Option.map_some,Option.bind_some];split<;>rfl
   rw[this]
  rw[wpOps_cons]at h ⊢;unfold wpOp at h ⊢;rw[hy,List.getElem?_toArray,vH]at h;rw[List.getElem?_toArray]
  cases hk:l[k]? with
  | none=>rw[hk]at h;exact mr r h
  | some o =>
   rw[hk]at h;simp only[Option.map_some]at h ⊢
   have hw:∀x,Region.wanted (if k=j then { o with after:=o.after.push { on:=i,ground:=.data } } else o) x=Region.wanted o x:=fun x=>by split<;>rfl
   have hp:∀(a:Act) (w:World) N,Oper.wp P (if k=j then { o with after:=o.after.push { on:=i,ground:=.data } } else o) a w N Q=Oper.wp P o a w N Q:=fun a w N=>by
    split
    ·cases o;rfl
    ·rfl
   have ha:∀(a:Act) (w:World),Oper.asks P (if k=j then { o with after:=o.after.push { on:=i,ground:=.data } } else o) a w=Oper.asks P o a w:=fun a w=>by
    split
    ·cases o;rfl
    ·rfl
   have hd:(if k=j then { o with after:=o.after.push { on:=i,ground:=.data } } else o).dst=o.dst:=by split<;>rfl
   rw[hw,hp,ha,hd]at h;split
   ·rename_i U9;rw[if_pos U9]at h;exact h.imp (Oper.wp_mono fun a w=>mr r) id
   ·rename_i U9;rw[if_neg U9]at h;exact mr r h
section
variable {C:Cx} {B:Bs} {ρ:bk} {s:St} {H:Hp} {a:Act} {w:World}
theorem wU (ht:eH C) {Q:St→Hp→Prop}:∀(p:Jn) (l:List Oper),wT l p=true→Ig C Q p l s H→Rel C B ρ s H a w→∀r,qs l.toArray l.length (Array.replicate l.length false) r →
  wpOps C.P l.toArray (qj C B H fun e s H=>match e with | .normal=>Q s H | _=>False) r a w
 | .one hs ord,l,ca,h,hr,r,KS=>by
  have h:yR C hs l Q ord s H:=h;rw[wm]at h;exact Jo KS (wO ht (CY ca) h hr)
 | .two i j p q,l,ca,h,hr,r,KS=>by
  simp only[wT,Bool.and_eq_true,bne_iff_ne]at ca;obtain⟨⟨h1,h2⟩,h3⟩:=ca;have h:Ig C Q p (lh l j i) s H∧Ig C Q q (lh l i j) s H:=h
  rcases zh h1 r with hb | hb
  ·have:=zj KS (.inr hb);exact mr r (wU ht p (lh l j i) h2 h.1 hr r (by rw[rU];exact this))
  ·have:=zj KS (.inr hb);exact mr r (wU ht q (lh l i j) h3 h.2 hr r (by rw[rU];exact this))
theorem bH (ht:eH C) (hm:C.P.follows .mixedOrders=true) {id:Nat} {ops:Array Oper} {Q:Ex→St→Hp→Prop} (p:Jn) {α:Type} (T:α→St) (I:α→Hp→Prop)
  (ca:wT ops.toList p=true) (h:Ig C (fun s' H'=>∃x m,Sub C m s' (T x)∧I x H') p ops.toList s H) (hq:∀x H',Le H H'→I x H'→Q .normal (T x) H'):pN C (.region id ops true) Q s H:=by
 intro B ρ a w cP hr;refine wp_mono (Q:=qj C B H fun e s H=>match e with | .normal=>∃x m,Sub C m s (T x)∧I x H | _=>False) (wp_region_draw fun t=>?_) ?_
 ·have bh:Rel C B ρ s H a { w with drawn:=w.drawn+1 }:=⟨hr.env,hr.sz,hr.defers,hr.mem.step rfl rfl ⟨rfl,Nat.le_succ _⟩ (Nat.le_refl _) fun _ _=>rfl⟩
  have hs:=C5 ops ops.size t (Array.replicate ops.size false);simp only[Region.schedule,hm,Bool.true_or,if_true];exact wU ht p ops.toList ca h bh (Region.linearise.go .any ops ops.size t (Array.replicate ops.size false) []) (by simpa using hs)
 ·rintro e a w ⟨e0,s',H',ρ',rfl,h2,h3,h4⟩
  cases e0 with
  | normal =>
   obtain⟨x,m,hs,hi⟩:=h2;obtain⟨ρ2,bj⟩:=h3.sub cP hs;exact⟨.normal,T x,H',ρ2,rfl,hq x H' h4 hi,bj,h4⟩
  | _=>exact h2.elim
end
end Go.Sy
end
section
namespace Go.Sy
open Go.RowKit (Below)
open Classical in
noncomputable def C6 (H:Hp) (l:List (Value×List (List Value))):Hp:=fun b=>if ∃p∈l,p.1.ownBlock=some b then none else H b
theorem Ih {H:Hp} {l:List (Value×List (List Value))} {p:Value×List (List Value)} {b:Nat} (hp:p∈l) (h:p.1.ownBlock=some b):C6 H l b=none:=if_pos ⟨p,hp,h⟩
theorem C7 {H:Hp} {l:List (Value×List (List Value))} {b:Nat} (h:∀p∈l,p.1.ownBlock≠some b):C6 H l b=H b:=if_neg fun⟨p,hp,e⟩=>h p hp e
theorem Jp {H:Hp} {l:List (Value×List (List Value))} {b:Nat} {o:Obj} (h:C6 H l b=some o):H b=some o∧∀p∈l,p.1.ownBlock≠some b:=by
 unfold C6 at h;split at h
 ·cases h
 ·rename_i hn;exact⟨h,fun p hp e=>hn ⟨p,hp,e⟩⟩
end Go.Sy
end
section
namespace Go.Sy
open Go.RowKit (Below)
theorem j9.fresh {e:TypeId} {sz:Nat} {xs:List (List Value)} {H H2:Hp} {x:Value} (h:j9 e sz xs H x H2) {g:Nat} (hg:x.ownBlock=some g):H g=none∧∃o,H2 g=some o:=by
 rcases h with ⟨h1,_⟩ | ⟨g',cap,c,h1,h2,h3,_⟩
 ·rw[h1]at hg;cases hg
 ·rw[h1]at hg;simp only[Value.ownBlock,Option.some.injEq]at hg;subst hg;exact⟨h2,_,h3⟩
theorem j9.owns {e:TypeId} {sz:Nat} {xs:List (List Value)} {H H2:Hp} {x:Value} (h:j9 e sz xs H x H2) {w:World} (hp:∀b o,H2 b=some o→w.heap[b]?=some o) (yX:∀y∈xs,y.length=sz∧∀u∈y,u.oneCell'=true):
  w.ownsRow 0 e sz x xs.length xs.flatten:=by
 refine⟨tr _ fun y hy=>(yX y hy).1,?_⟩
 rcases h with ⟨h1,h2⟩ | ⟨g,cap,c,h1,h2,h3,h4,h5,h6,h7⟩
 ·exact .inl ⟨h1,by rw[h2];rfl⟩
 ·exact .inr ⟨g,cap,c,h1,Nat.zero_le _,hp _ _ h3,h4,h5,h6,h7⟩
theorem C8 {P:Program} {f:FuncId} {args:List Value} {H:Hp} {K0:Value→Hp→Prop} {K:SV→St→Hp→Prop} {svs:List SV} (hs:∀ρ,cE ρ svs=args) (hd:aq P f args H K0)
  (hK:∀v H2,Le H H2→K0 v H2→∃(e:TypeId) (sz:Nat) (xs:List (List Value)) (h:Value) (e':TypeId) (cn:Nat) (l:List (Value×List (List Value))) (x:SV),(∀ρ:bk,ρ.val 0=h→ga ρ x=v)∧x.lt 2=true∧j9 e sz xs H h H2 ∧
   (∀y∈xs,y.length=sz∧∀u∈y,u.oneCell'=true)∧(∀p∈l,j9 e' cn p.2 H p.1 H2∧∀y∈p.2,y.length=cn∧∀u∈y,u.oneCell'=true) ∧
   (l.Pairwise fun p q=>∀g,p.1.ownBlock=some g→q.1.ownBlock≠some g)∧(∀p∈l,∀g,h.ownBlock=some g→p.1.ownBlock≠some g) ∧
   ∀H',Le H H'→(∀b o,H2 b=some o→h.ownBlock≠some b→(∀p∈l,p.1.ownBlock≠some b)→H' b=some o)→K x ⟨[],[(0,.row e sz xs),(1,.kW e' cn l)],2⟩ H'):aY P f svs [] 0 H K:=by
 refine⟨hd.1,fun w ρ hm hl=>?_⟩;rw[hs ρ]
 refine (hd.2 w hm.hp).mono fun ev w' ⟨v,H2,e1,k,hle,hp,cR,lf⟩=>?_
 obtain⟨e,sz,xs,h,e',cn,l,x,hx,aj,iG,yX,vi,pQ,TU,TT⟩:=hK v H2 hle k
 have Qn:∀p∈(h,xs)::l,∀g,p.1.ownBlock=some g→w.heap.size≤g∧H g=none:=fun p qo g hg=>by
  have h1:H g=none∧∃o,H2 g=some o:=by
   rcases List.mem_cons.1 qo with rfl | qo
   ·exact iG.fresh hg
   ·exact (vi p qo).1.fresh hg
  refine⟨?_,h1.1⟩;apply Nat.le_of_not_lt;intro dK;obtain⟨o,ho⟩:=h1.2;rw[cR _ h1.1 dK]at ho;cases ho
 have iK:Le H (C6 H2 ((h,xs)::l)):=fun b o hb=>by
  rw[C7 (fun p qo e2=>?_)]
  ·exact hle b o hb
  ·rw[(Qn p qo b e2).2]at hb;cases hb
 have KR:∃a n c,h = .slice a n c:=by
  rcases iG with ⟨h1,_⟩ | ⟨g',cap,c,h1,_⟩
  ·exact⟨_,_,_,h1⟩
  ·exact⟨_,_,_,h1⟩
 obtain⟨ha,hn,hc,V7⟩:=KR
 let ρ':bk:=⟨fun _=>h.ownBlock.getD 0,fun _=>(ha,hn,hc)⟩
 have mq:ρ'.val 0=h:=by rw[V7];rfl
 have Ie:∀ {k:Nat} {b:Bx},lk [(0,Bx.row e sz xs),(1,Bx.kW e' cn l)] k=some b→(k=0∧b = .row e sz xs)∨(k=1∧b = .kW e' cn l):=fun {k b} h=>by
  rw[aT]at h;split at h
  ·rename_i e0;simp only[Option.some.injEq]at h;exact .inl ⟨e0.symm,h.symm⟩
  ·rw[aT]at h;split at h
   ·rename_i e0;simp only[Option.some.injEq]at h;exact .inr ⟨e0.symm,h.symm⟩
   ·cases h
 have iF:∀b o,H2 b=some o→h.ownBlock≠some b→(∀p∈l,p.1.ownBlock≠some b)→C6 H2 ((h,xs)::l) b=some o:=fun b o hb h1 h2=>by
  rw[C7 (fun p qo=>?_)]
  ·exact hb
  ·rcases List.mem_cons.1 qo with rfl | qo
   ·exact h1
   ·exact h2 p qo
 refine⟨x,⟨[],[(0,.row e sz xs),(1,.kW e' cn l)],2⟩,C6 H2 ((h,xs)::l),ρ',by rw[hx ρ' mq];exact e1,TT _ iK iF,aj,?_⟩;exact
 {os:=lf.os,tape:=lf.tape,output:=⟨lf.output,lf.drawn⟩,size:=lf.size
  frame:=fun b hb _=>lf.block b hb
  base:=Nat.zero_le _
  agree:=fun k hk=>absurd hk (Nat.not_lt_zero k)
  hp:=fun b o hb=>hp b o (Jp hb).1
  hle:=iK
  cR:=fun b h1 h2 _=>by
   have h3:=cR b h1 h2;unfold C6;split
   ·rfl
   ·exact h3
  ok:=fun k b hb=>by
   rcases Ie hb with ⟨rfl,rfl⟩ | ⟨rfl,rfl⟩
   ·refine⟨Nat.zero_lt_two,⟨?_,yX,fun g hg=>?_⟩,rfl⟩
    ·rw[mq];exact iG.owns hp yX
    ·rw[mq]at hg;show h.ownBlock.getD 0=g
     rw[hg];rfl
   ·exact⟨Nat.one_lt_two,⟨fun p qo=>⟨(vi p qo).1.owns hp (vi p qo).2,(vi p qo).2⟩,pQ⟩,rfl⟩
  own:=fun k b g hb ho=>by
   rcases Ie hb with ⟨rfl,rfl⟩ | ⟨rfl,rfl⟩
   ·have ho:(ρ'.val 0).ownBlock=some g:=ho;rw[mq]at ho;exact⟨Ih List.mem_cons_self ho,.inl (Qn _ List.mem_cons_self g ho).1⟩
   ·obtain⟨p,qo,hg⟩:=ho;exact⟨Ih (List.mem_cons_of_mem _ qo) hg,.inl (Qn p (List.mem_cons_of_mem _ qo) g hg).1⟩
  eZ:=fun k k' b b' g hb gr ho dx=>by
   rcases Ie hb with ⟨rfl,rfl⟩ | ⟨rfl,rfl⟩<;>rcases Ie gr with ⟨rfl,rfl⟩ | ⟨rfl,rfl⟩
   ·rfl
   ·have ho:(ρ'.val 0).ownBlock=some g:=ho;rw[mq]at ho;obtain⟨p,qo,hg⟩:=dx;exact absurd hg (TU p qo g ho)
   ·have dx:(ρ'.val 0).ownBlock=some g:=dx;rw[mq]at dx;obtain⟨p,qo,hg⟩:=ho;exact absurd hg (TU p qo g dx)
   ·rfl }
theorem aW.YI {H H':Hp} {v:Value} {sz:Nat} {xs:List (List Value)} (h:aW H v sz xs) (hle:Le H H'):aW H' v sz xs:=by
 obtain⟨a',cap,e2,h2,h3,h4⟩:=h;refine⟨a',cap,e2,h2,h3,?_⟩
 rcases h4 with h4 | ⟨ad,h4,h5,c,T,fr,h6,h7⟩
 ·exact .inl h4
 ·exact .inr ⟨ad,h4,h5,c,T,fr,hle _ _ h6,h7⟩
theorem zk {P:Program} {f:FuncId} {args:List Value} {H:Hp} {K0:SV→St→Hp→Prop} {K:Value→Hp→Prop} {svs:List SV} (hs:∀ρ,cE ρ svs=args) (V8:SV.jW 0 svs=true) (hd:aY P f svs [] 0 H K0)
  (hK:∀x t H1,K0 x t H1→Le H H1→(∃v,(∀ρ,ga ρ x=v)∧K v H1)∨∃(r k:Nat) (e:TypeId) (sz:Nat) (xs:List (List Value)) (e':TypeId) (cn:Nat) (l:List (Value×List (List Value))) (out:Value→Value),
   (∀ρ,ga ρ x=out (ρ.val r))∧lk t.bx r=some (.row e sz xs)∧lk t.bx k=some (.kW e' cn l)∧r≠k∧∀v H',Le H1 H'→aW H' v sz xs→(∀p∈l,aW H' p.1 cn p.2)→K (out v) H'):aq P f args H K:=by
 refine⟨hd.1,fun w hp=>?_⟩
 let ρ:bk:=⟨fun _=>0,fun _=>(none,0,0)⟩
 have V9:Mem (Bs.lP w ρ [] 0 H) ρ [] 0 H w :=
  {os:=rfl,tape:=rfl,output:=⟨rfl,Nat.le_refl _⟩,size:=Nat.le_refl _,frame:=fun _ _ _=>rfl,base:=Nat.le_refl _,agree:=fun _ _=>⟨rfl,rfl⟩
   hp:=hp,hle:=Le.refl H,cR:=fun _ h _ _=>h,ok:=fun k b h=>(by cases h),own:=fun k b g h=>(by cases h),eZ:=fun k k' b b' g h=>(by cases h) }
 have hc:=hd.2 w ρ V9 V8;rw[hs ρ]at hc
 refine hc.mono fun ev w' ⟨x,t,H1,ρ',e1,k1,aj,jg⟩=>?_
 have hE:∀b,¬(Bs.lP w ρ [] 0 H).E b:=fun b h=>by
  obtain⟨k,bb,h1,_⟩:=h;cases h1
 have fin:∀ {bx:List (Nat×Bx)} {nx:Nat} {H3:Hp} {v:Value},ev = .returned v→K v H3→Mem (Bs.lP w ρ [] 0 H) ρ' bx nx H3 w' →
   ∃v H',ev = .returned v∧K v H'∧Le H H'∧(∀b o,H' b=some o→w'.heap[b]?=some o)∧(∀b,H b=none→b<w.heap.size→H' b=none)∧fx w.heap.size w w':=fun {bx nx H3 v} e2 hk hm =>
  ⟨v,H3,e2,hk,hm.hle,hm.hp,fun b h1 h2=>hm.cR b h1 h2 (hE b),⟨⟨hm.os,hm.tape,hm.output.1,hm.size,fun b hb=>hm.frame b hb (hE b)⟩,hm.output.2⟩⟩
 rcases hK x t H1 k1 jg.hle with ⟨v,hx,hv⟩ | ⟨r,k,e,sz,xs,e',cn,l,out,hx,hr,hk,YJ,Mk⟩
 ·exact fin (by rw[e1,hx ρ']) hv jg
 ·obtain⟨ah,ti⟩:=jg.qh hk
  have bj:lk ((k,Bx.dead)::t.bx) r=some (.row e sz xs):=by rw[aT,if_neg (fun h=>YJ h.symm)];exact hr
  obtain⟨az,VI⟩:=ti.qh bj;refine fin (by rw[e1,hx ρ']) (Mk (ρ'.val r) _ (ah.trans az) ?_ ?_) VI
  ·exact AL (ti.ok _ _ bj).2.1 fun g o hg ho=>by rw[AZ (show br ρ' r (.row e sz xs) g from hg)];exact ho
  ·exact fun p hp=>(Rv (H:=H1) (jg.ok _ _ hk).2.1 hp).YI az
end Go.Sy
end
