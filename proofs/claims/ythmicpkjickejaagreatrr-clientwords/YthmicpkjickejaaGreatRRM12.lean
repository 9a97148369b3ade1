/- Part 'M12' of the proof (SyOk9, SyOk10, SyOk11, Enc, SyTree, Frz, SyPlan, SyTreeM, Thaw, ThawB): lemmas, each with its own conditions in its own statement. -/
import Derived.Deep.LoopGhost
import Derived.Scope
import Derived.Test.YthmicpkjickejaaGreatRRM11
import Derived.Test.YthmicpkjickejaaGreatRRM5
section
namespace Go.Sy
open Go.RowKit (Below)
section
variable {C:Cx} {hs:List Nat} {B:Bs} {ρ:Rho} {s:St} {H:Hp} {a:Act} {w:World} {P:Program}
theorem Rel.reput (hr:Rel C B ρ s H a w) {d:Nat} {x y:SV} (hx:lk s.env d=some x) (hy:ga ρ y=ga ρ x) (hl:y.lt s.nx=true):Rel C B ρ (s.put C.n (some d) y) H a w:=by
 simp only[St.put]
 cases Nat.ble (d+1) C.n with
 | false=>exact hr
 | true =>
  refine⟨fun u z hu=>?_,hr.sz,hr.defers,hr.mem⟩;simp only[cond_true,lk_cons]at hu;split at hu
  ·rename_i e;subst e;simp only[Option.some.injEq]at hu;subst hu;rw[hy];exact⟨(hr.env _ _ hx).1,hl⟩
  ·exact hr.env u z hu
theorem putK_iff {n:Nat} {d:Option Tmp} {x:SV} {K:St→Prop}:s.putK n d x K↔K (s.put n d x):=by
 cases s with
 | mk env bx nx =>
  cases d with
  | none=>simp only[St.putK,St.put,forceB_eq,forceE_eq,forceN_eq]
  | some t=>simp only[St.putK,St.put,forceB_eq,forceV_eq,forceE_eq,forceN_eq];cases Nat.ble (t+1) n<;>rfl
theorem runOps_ok (ht:TOK C) {ops:Array Oper} {Q:St→Hp→Prop} {H0:Hp}:∀(l:List Oper) {s:St} {H:Hp} {a:Act} {w:World} {ρ:Rho},Rel C B ρ s H a w→Le H0 H→runOps C ops.toList Q l s H →
  wpList C.P ops (Post C B H0 fun e s H=>match e with | .normal=>Q s H | _=>False) l a w
 | [],s,H,a,w,ρ,hr,hle,h=>by
  rw[runOps]at h;exact wpList_nil ⟨.normal,s,H,ρ,rfl,h,hr,hle⟩
 | o::r,s,H,a,w,ρ,hr,hle,h=>by
  rw[runOps]at h;simp only[putK_iff]at h
  refine wpList_step fun K hK=>?_
  split at h
  ·-- no guard
   rename_i hg;simp only[Region.wanted,hg,if_true]
   exact opE_ok ht h B ρ o a w rfl rfl hr _ _ fun x s' H' ρ' w' hk hr' hle' hlt=>hK _ _ (runOps_ok ht r (hr'.put o.dst hlt) (hle.trans hle') hk)
  ·rename_i j want hg;split at h
   ·exact h.elim
   ·rename_i d hd
    have hd':(ops[j]?).bind (·.dst)=some d:=by
     unfold dstOf at hd;split at hd
     ·rename_i o' ho';rw[Array.getElem?_toList]at ho'
      rw[ho'];exact hd
     ·cases hd
    have hw:∀x,lk s.env d=some x→Region.wanted o (yielded ops a.tmps)=(((match ga ρ x with | .bool b=>some b | _=>none):Option Bool) == some want):=fun x hx=>by
     simp only[Region.wanted,hg,yielded,hd',Option.bind_some,(hr.env _ _ hx).1]
     cases ga ρ x<;>rfl
    have hskip:∀ {s1:St},Rel C B ρ s1 H a w→runOps C ops.toList Q r (s1.put C.n o.dst unit) H→K (a.put o.dst undef) w:=fun {s1} hr1 h1=>by
     have:=hr1.put o.dst (x:=unit) (by rw[unit,SV.lt]);rw[unit,ga]at this;exact hK _ _ (runOps_ok ht r this hle h1)
    split at h
    ·-- known
     rename_i b hx;rw[hw _ hx,ga]
     cases hbw:(b == want) with
     | true =>
      rw[hbw]at h;simp only[cond_true]at h;rw[if_pos (by simpa using hbw)]
      exact opE_ok ht h B ρ o a w rfl rfl hr _ _ fun x s' H' ρ' w' hk hr' hle' hlt=>hK _ _ (runOps_ok ht r (hr'.put o.dst hlt) (hle.trans hle') hk)
     | false =>
      rw[hbw]at h;simp only[cond_false]at h;rw[if_neg (by simpa using hbw)];exact hskip hr h
    ·rename_i b hx;rw[hw _ hx,ga];obtain⟨h1,h2⟩:=h
     by_cases hbw:b=want
     ·rw[if_pos (by simp [hbw])];have hr1:Rel C B ρ (s.put C.n (some d) (.kb want)) H a w:=hr.reput hx (by rw[ga,ga,hbw]) (by rw[SV.lt])
      exact opE_ok ht (h1 hbw) B ρ o a w rfl rfl hr1 _ _ fun x s' H' ρ' w' hk hr' hle' hlt=>hK _ _ (runOps_ok ht r (hr'.put o.dst hlt) (hle.trans hle') hk)
     ·rw[if_neg (by simp [hbw])]
      have hb2:b=!want:=by cases b<;>cases want<;>simp_all
      have hr1:Rel C B ρ (s.put C.n (some d) (.kb !want)) H a w:=hr.reput hx (by rw[ga,ga,hb2]) (by rw[SV.lt]);exact hskip hr1 (h2 hb2)
    ·rename_i vs hx;rw[hw _ hx,ga,if_neg (by simp)];exact hskip hr h
    ·exact h.elim
theorem draw_ok (ht:TOK C) (hm:C.P.follows .mixedOrders=true) {id:Nat} {ops:Array Oper} {ord:List Nat} {Q:St→Hp→Prop} (hchk:drawOK ops ord=true) (h:runD C hs ops.toList Q ord s H) (hr:Rel C B ρ s H a w):
  (Code.region id ops true).wp C.P (Post C B H fun e s H=>match e with | .normal=>Q s H | _=>False) a w :=
 wp_region_any hm (draw_start ht (ordOK_of hchk) h ⟨hr.env,hr.sz,hr.defers,hr.mem.step rfl rfl ⟨rfl,Nat.le_succ _⟩ (Nat.le_refl _) fun _ _=>rfl⟩)
def Rho.by (ρ:Rho) (m:List (Nat×Nat)) (bx:List (Nat×Bx)):Rho where
 b k:=match lk m k with | some j=>ρ.b j | none=>ρ.b k
 sl k:=match lk m k with
  | some j=>ρ.sl j
  | none=>match lk bx k with
   | some (.row _ _ _)=>(none,0,0)
   | _=>ρ.sl k
theorem lk_mem {m:List (Nat×Nat)} {k j:Nat} (h:lk m k=some j):(k,j)∈m:=by
 induction m with
 | nil=>simp [lk]at h
 | cons p r ih =>
  obtain⟨i,x⟩:=p;rw[lk_cons]at h;split at h
  ·rename_i e;simp only[Option.some.injEq]at h;subst e;subst h;simp
  ·exact List.mem_cons_of_mem _ (ih h)
theorem memN_iff {k:Nat}:∀ {m:List (Nat×Nat)},memN k m=true↔∃i,(i,k)∈m
 | []=>by simp [memN]
 | (i,j)::r=>by
  rw[memN]
  cases h:Nat.beq j k with
  | true=>simp only[cond_true,true_iff];exact⟨i,by rw[beq_t h];simp⟩
  | false =>
   simp only[cond_false,memN_iff (m:=r),List.mem_cons,Prod.mk.injEq];constructor
   ·rintro⟨x,hx⟩;exact⟨x,.inr hx⟩
   ·rintro⟨x,hx | hx⟩
    ·exact absurd hx.2.symm (beq_f h)
    ·exact⟨x,hx⟩
theorem mapOK_spec {base:Nat}:∀ {m:List (Nat×Nat)},mapOK base m=true→(∀i j,(i,j)∈m→i<base→i=j)∧∀i i' j,lk m i=some j→lk m i'=some j→i=i'
 | [],_=>⟨by simp,by simp [lk]⟩
 | (x,y)::r,h=>by
  simp only[mapOK,Bool.and_eq_true,Bool.not_eq_true']at h;obtain⟨⟨h1,h2⟩,h3⟩:=h;obtain⟨h4,h5⟩:=mapOK_spec h3
  have hn:∀i,¬(i,y)∈r:=fun i hi=>by
   have:=memN_iff.2 ⟨i,hi⟩
   rw[h2]at this;cases this
  refine⟨fun i j hij hlt=>?_,fun i i' j hi hi'=>?_⟩
  ·rcases List.mem_cons.1 hij with e | hij
   ·simp only[Prod.mk.injEq]at e;obtain⟨rfl,rfl⟩:=e
    cases hb:Nat.ble base i with
    | true=>have:=ble_t hb;omega
    | false=>rw[hb]at h1;exact beq_t h1
   ·exact h4 i j hij hlt
  ·rw[lk_cons]at hi hi'
   split at hi<;>split at hi'
   ·omega
   ·simp only[Option.some.injEq]at hi;subst hi;exact absurd (lk_mem hi') (hn _)
   ·simp only[Option.some.injEq]at hi';subst hi';exact absurd (lk_mem hi) (hn _)
   ·exact h5 i i' j hi hi'
theorem fixN_by {ρ:Rho} {m:List (Nat×Nat)} {bx:List (Nat×Bx)} {k:Nat} (h:fixN m k=true):(ρ.by m bx).b k=ρ.b k∧(ρ.by m bx).sl k=ρ.sl k:=by
 unfold fixN at h;split at h
 ·rename_i j hj;have:=beq_t h;subst this;simp [Rho.by,hj]
 ·cases h
mutual
theorem ga_fix {ρ:Rho} {m:List (Nat×Nat)} {bx:List (Nat×Bx)}:∀x:SV,SV.fix m x=true→ga (ρ.by m bx) x=ga ρ x
 | .v _,_=>by rw[ga,ga]
 | .kb _,_=>by rw[ga,ga]
 | .ptr k _,h=>by rw[SV.fix]at h;rw[ga,ga,(fixN_by h).1]
 | .el none _ _ _,_=>by rw[ga,ga]
 | .el (some _) _ _ _,_=>by rw[ga,ga]
 | .rel k _ _ _,h=>by rw[SV.fix]at h;rw[ga,ga,(fixN_by h).1]
 | .own k,h=>by rw[SV.fix]at h;rw[ga,ga,Rho.val,Rho.val,(fixN_by h).2]
 | .sub k _ _ _,h=>by rw[SV.fix]at h;rw[ga,ga,Rho.part,Rho.part,(fixN_by h).2]
 | .mp k,h=>by rw[SV.fix]at h;rw[ga,ga,(fixN_by h).1]
 | .agg cs,h=>by rw[SV.fix]at h;rw[ga,ga,gas_fix cs h]
 | .fn _ cs,h=>by rw[SV.fix]at h;rw[ga,ga,gas_fix cs h]
 | .tup cs,h=>by rw[SV.fix]at h;rw[ga,ga,gas_fix cs h]
theorem gas_fix {ρ:Rho} {m:List (Nat×Nat)} {bx:List (Nat×Bx)}:∀l:List SV,SV.fixs m l=true→gas (ρ.by m bx) l=gas ρ l
 | [],_=>by rw[gas,gas]
 | x::r,h=>by
  rw[SV.fixs]at h
  cases h1:SV.fix m x with
  | false=>rw[h1]at h;cases h
  | true =>
   rw[h1]at h;rw[gas,gas,ga_fix x h1,gas_fix r h]
end
theorem sub_sv {m:List (Nat×Nat)} {bx:List (Nat×Bx)} {x y:SV} (h:SubSV m bx x y):ga (ρ.by m bx) y=ga ρ x:=by
 unfold SubSV at h;split at h
 ·rename_i k;split at h
  ·rename_i k'
   rw[ga,ga];simp [Rho.val,Rho.by,h]
  ·rename_i z;obtain⟨rfl,h1,h2⟩:=h;unfold nilRow at h2
   cases hk:lk bx k with
   | none=>rw[hk]at h2;exact h2.elim
   | some b =>
    rw[hk]at h2
    cases b with
    | row e sz xs=>rw[ga,ga];simp [Rho.val,Rho.by,h1,hk]
    | _=>exact h2.elim
  ·exact h.elim
 ·rename_i k off;split at h
  ·rename_i k' off';obtain⟨h1,rfl⟩:=h
   rw[ga,ga];simp [Rho.by,h1]
  ·exact h.elim
 ·rename_i k sz lo n;split at h
  ·obtain⟨h1,rfl,rfl,rfl⟩:=h
   rw[ga,ga];simp [Rho.part,Rho.by,h1]
  ·exact h.elim
 ·rename_i k;split at h
  ·rw[ga,ga];simp [Rho.by,h]
  ·exact h.elim
 ·rename_i k sz i off;split at h
  ·obtain⟨h1,rfl,rfl,rfl⟩:=h
   rw[ga,ga];simp [Rho.by,h1]
  ·exact h.elim
 ·rename_i z;split at h
  ·subst h;rw[ga,ga]
  ·subst h;rw[ga,ga]
 ·split at h
  ·subst h;rw[ga,ga]
  ·subst h;rw[ga,ga]
 ·obtain⟨rfl,h⟩:=h;exact ga_fix _ h
theorem sub_cs {m:List (Nat×Nat)} {bx:List (Nat×Bx)}:∀ {xs ys:List SV},SubCs m bx xs ys→gas (ρ.by m bx) ys=gas ρ xs
 | [],[],_=>by rw[gas,gas]
 | x::r,y::r',h=>by
  rw[SubCs]at h;rw[gas,gas,sub_sv h.1,sub_cs h.2]
 | [],_::_,h=>by simp [SubCs]at h
 | _::_,[],h=>by simp [SubCs]at h
theorem subEnv_lk {m:List (Nat×Nat)} {bx:List (Nat×Bx)} {env:List (Nat×SV)}:∀ {l:List (Nat×SV)},SubEnv m bx env l→∀t y,lk l t=some y→∃x,lk env t=some x∧SubSV m bx x y
 | [],_,t,y,hy=>by simp [lk]at hy
 | (u,z)::r,h,t,y,hy=>by
  rw[SubEnv]at h;rw[lk_cons]at hy;split at hy
  ·rename_i e;subst e;simp only[Option.some.injEq]at hy;subst hy;have:=h.1;split at this
   ·rename_i x hx;exact⟨x,hx,this⟩
   ·exact this.elim
  ·exact subEnv_lk h.2 t y hy
theorem wfEnv_lk {n:Nat}:∀ {l:List (Nat×SV)},wfEnv n l=true→∀t y,lk l t=some y→y.lt n=true
 | [],_,t,y,hy=>by simp [lk]at hy
 | (u,z)::r,h,t,y,hy=>by
  rw[wfEnv]at h
  cases hz:SV.lt n z with
  | false=>rw[hz]at h;cases h
  | true =>
   rw[hz]at h;rw[lk_cons]at hy;split at hy
   ·simp only[Option.some.injEq]at hy;subst hy;exact hz
   ·exact wfEnv_lk h t y hy
theorem wfBx_lk {base n:Nat} {m:List (Nat×Nat)}:∀ {l:List (Nat×Bx)},wfBx base n m l=true→∀k y,lk l k=some y→k<n∧y.lt n=true∧(k<base→y = .dead∨∃j,lk m k=some j)
 | [],_,k,y,hy=>by simp [lk]at hy
 | (u,z)::r,h,k,y,hy=>by
  rw[wfBx]at h
  cases h1:Nat.ble (u+1) n with
  | false=>rw[h1]at h;cases h
  | true =>
   rw[h1]at h;simp only[cond_true]at h
   cases h2:Bx.lt n z with
   | false=>rw[h2]at h;cases h
   | true =>
    rw[h2]at h;simp only[cond_true]at h
    cases h3:(bif Nat.ble base u then true else bif z.isDead then true else (lk m u).isSome) with
    | false=>rw[h3]at h;cases h
    | true =>
     rw[h3]at h;simp only[cond_true]at h;rw[lk_cons]at hy;split at hy
     ·rename_i e;subst e;simp only[Option.some.injEq]at hy;subst hy;refine⟨ble_t h1,h2,fun hlt=>?_⟩
      cases hb:Nat.ble base u with
      | true=>have:=ble_t hb;omega
      | false =>
       rw[hb]at h3;simp only[cond_false]at h3
       cases z with
       | dead=>exact .inl rfl
       | _=>exact .inr (Option.isSome_iff_exists.1 h3)
     ·exact wfBx_lk h k y hy
theorem subBx_lk {m:List (Nat×Nat)} {bx sbx:List (Nat×Bx)}:∀ {l:List (Nat×Bx)},SubBx m bx sbx l→∀k y,lk l k=some y→SubB1 m bx sbx k y
 | [],_,k,y,hy=>by simp [lk]at hy
 | (u,z)::r,h,k,y,hy=>by
  rw[SubBx]at h;rw[lk_cons]at hy;split at hy
  ·rename_i e;subst e;simp only[Option.some.injEq]at hy;subst hy;exact h.1
  ·exact subBx_lk h.2 k y hy
theorem Rel.sub (hr:Rel C B ρ s H a w) (hbase:B.base=C.base) {m:List (Nat×Nat)} {t:St} (h:Sub C m s t):∃ρ',Rel C B ρ' t H a w:=by
 obtain⟨h0,he,hb⟩:=bif_f h;simp only[Bool.and_eq_true]at h0;obtain⟨⟨⟨h1,h2⟩,h3⟩,h4⟩:=h0;obtain⟨m1,m2⟩:=mapOK_spec h1;have hm:=hr.mem
 have key:∀k y,lk t.bx k=some y→BoxOK (ρ.by m t.bx) w k y∧∀g,Owns (ρ.by m t.bx) k y g→∃j x,lk m k=some j∧lk s.bx j=some x∧Owns ρ j x g:=fun k y hy=>by
  have hs:=subBx_lk hb k y hy;unfold SubB1 at hs;split at hs
  ·rename_i k' hk';split at hs
   ·rename_i x hx;have hok:=(hm.ok _ _ hx).2.1
    cases y with
    | cells T cs =>
     cases x with
     | cells T' cs' =>
      have hbif:=bif_f hs;clear hs;obtain⟨hTT,hcs⟩:=hbif
      obtain rfl:=beq_t hTT;refine⟨?_,fun g hg=>⟨k',_,hk',hx,?_⟩⟩
      ·simp only[BoxOK]at hok ⊢;rw[sub_cs hcs]
       simpa [Rho.by,hk'] using hok
      ·simp only[Owns,Rho.by,hk']at hg ⊢;exact hg
     | row _ _ _=>exact hs.elim
     | frz _=>exact hs.elim
     | obj _=>exact hs.elim
     | fam _ _ _=>exact hs.elim
     | dead=>exact hs.elim
    | row e sz xs =>
     cases x with
     | row e' sz' xs' =>
      have hbif:=bif_f hs;clear hs;obtain⟨hee,hs⟩:=hbif
      simp only[Bool.and_eq_true]at hee;obtain rfl:=beq_t hee.1;obtain rfl:=beq_t hee.2;subst hs
      have hv:(ρ.by m t.bx).val k=ρ.val k':=by simp [Rho.val,Rho.by,hk']
      refine⟨?_,fun g hg=>⟨k',_,hk',hx,?_⟩⟩
      ·simp only[BoxOK]at hok ⊢;rw[hv]
       simpa [Rho.by,hk'] using hok
      ·simp only[Owns]at hg ⊢;rw[hv]at hg;exact hg
     | cells _ _=>exact hs.elim
     | frz _=>exact hs.elim
     | obj _=>exact hs.elim
     | fam _ _ _=>exact hs.elim
     | dead=>exact hs.elim
    | frz z =>
     cases x with
     | frz z' =>
      have hs:z'=z:=hs;subst hs
      have hv:(ρ.by m t.bx).val k=ρ.val k':=by simp [Rho.val,Rho.by,hk']
      refine⟨?_,fun g hg=>hg.elim⟩;simp only[BoxOK]at hok ⊢
      rw[hv];exact hok
     | cells _ _=>exact hs.elim
     | row _ _ _=>exact hs.elim
     | obj _=>exact hs.elim
     | fam _ _ _=>exact hs.elim
     | dead=>exact hs.elim
    | obj Φ =>
     cases x with
     | obj Φ' =>
      have hs:Φ'=Φ:=hs;subst hs;refine⟨?_,fun g hg=>⟨k',_,hk',hx,?_⟩⟩
      ·simp only[BoxOK]at hok ⊢
       simpa [Rho.by,hk'] using hok
      ·simp only[Owns,Rho.by,hk']at hg ⊢;exact hg
     | cells _ _=>exact hs.elim
     | row _ _ _=>exact hs.elim
     | frz _=>exact hs.elim
     | fam _ _ _=>exact hs.elim
     | dead=>exact hs.elim
    | fam e sz l =>
     cases x with
     | fam e' sz' l' =>
      obtain⟨rfl,rfl,rfl⟩:=hs;exact⟨hok,fun g hg=>⟨k',_,hk',hx,hg⟩⟩
     | cells _ _=>exact hs.elim
     | row _ _ _=>exact hs.elim
     | frz _=>exact hs.elim
     | obj _=>exact hs.elim
     | dead=>exact hs.elim
    | dead=>exact⟨trivial,fun g hg=>hg.elim⟩
   ·exact hs.elim
  ·rename_i hk';split at hs
   ·rename_i e sz xs;subst hs
    have hv:(ρ.by m t.bx).val k = .slice none 0 0:=by simp [Rho.val,Rho.by,hk',hy]
    refine⟨?_,fun g hg=>?_⟩
    ·simp only[BoxOK];rw[hv];exact⟨World.ownsRow_nil _ _ _ _,by simp,by simp [Value.ownBlock]⟩
    ·simp only[Owns]at hg;rw[hv]at hg;simp [Value.ownBlock]at hg
   ·rename_i e sz l;refine⟨⟨fun p hp=>?_,?_⟩,fun g ⟨p,hp,hg⟩=>?_⟩
    ·rw[hs p hp];exact⟨World.ownsRow_nil _ _ _ _,by simp⟩
    ·rw[List.pairwise_iff_getElem];intro i j hi hj _ g hg;rw[hs _ (List.getElem_mem hi)]at hg;cases hg
    ·rw[hs p hp]at hg;cases hg
   ·exact⟨trivial,fun g hg=>hg.elim⟩
   ·exact hs.elim
 refine⟨ρ.by m t.bx,⟨fun u y hy=>?_,hr.sz,hr.defers,?_⟩⟩
 ·obtain⟨x,hx,hs⟩:=subEnv_lk he u y hy;rw[sub_sv hs];exact⟨(hr.env _ _ hx).1,wfEnv_lk h2 u y hy⟩
 ·exact
  {os:=hm.os,tape:=hm.tape,output:=hm.output,size:=hm.size,frame:=hm.frame
   base:=by rw[hbase];exact ble_t h4
   agree:=fun k hk=>by
    rw[hbase]at hk;rw[←(hm.agree k (by rw[hbase];exact hk)).1,←(hm.agree k (by rw[hbase];exact hk)).2];simp only[Rho.by]
    cases hj:lk m k with
    | some j =>
     have:=m1 k j (lk_mem hj) hk;subst this;exact⟨rfl,rfl⟩
    | none =>
     refine⟨rfl,?_⟩;simp only;split
     ·rename_i hy
      rcases (wfBx_lk h3 k _ hy).2.2 hk with h | ⟨j,hj'⟩
      ·cases h
      ·rw[hj]at hj';cases hj'
     ·rfl
   hp:=hm.hp,hle:=hm.hle,hnew:=hm.hnew
   ok:=fun k y hy=>⟨(wfBx_lk h3 k y hy).1,(key k y hy).1,(wfBx_lk h3 k y hy).2.1⟩
   own:=fun k y g hy hg=>by
    obtain⟨j,x,_,hx,ho⟩:=(key k y hy).2 g hg;exact hm.own j x g hx ho
   disj:=fun k k' y y' g hy hy' hg hg'=>by
    obtain⟨j,x,hj,hx,ho⟩:=(key k y hy).2 g hg;obtain⟨j',x',hj',hx',ho'⟩:=(key k' y' hy').2 g hg';have:=hm.disj j j' x x' g hx hx' ho ho';subst this
    exact m2 k k' j hj hj' }
theorem Post.mono {H0 H1:Hp} {Q Q':Ex→St→Hp→Prop} {e:Exit} {a:Act} {w:World} (h:Post C B H1 Q e a w) (hle:Le H0 H1) (hq:∀e s H,Q e s H→Q' e s H):Post C B H0 Q' e a w:=by
 obtain⟨e0,s,H,ρ,h1,h2,h3,h4⟩:=h;exact⟨e0,s,H,ρ,h1,hq _ _ _ h2,h3,hle.trans h4⟩
def jQ (K:Nat→Act→World→Prop) (Q:Exit→Act→World→Prop):Exit→Act→World→Prop
 | .goto l,a,w=>K l a w
 | e,a,w=>Q e a w
theorem wp_scope_gen {P:Program} {a:Act} {w:World} {Q:Exit→Act→World→Prop} {c:Code} (J:Nat→Nat→Act→World→Prop)
  (first:c.wp P (jQ (fun l a w=>∃n,J n l a w) Q) a w)
  (pass:∀n l a w,J n l a w→∃rest,findLabel c l=some rest∧rest.wp P (jQ (fun l' a' w'=>∃m,m<n∧J m l' a' w') Q) a w):(Code.scope c).wp P Q a w:=by
 intro b k cs
 have hg:∀l rest,findLabel c l=some rest→gotoIn l (.inScope c::k)=some (.code rest :: .inScope c::k):=fun l rest hf=>by simp [gotoIn,hf]
 have key:∀n l a w,J n l a w→∃rest,findLabel c l=some rest∧∃e a' w',Q e a' w'∧Arrives P (lone (b.at a (.code rest :: .inScope c::k)) cs w) b k cs e a' w':=by
  intro n
  induction n using Nat.strongRecOn with
  | _ n ih =>
   intro l a w hJ;obtain⟨rest,hf,hp⟩:=pass n l a w hJ;refine⟨rest,hf,?_⟩;obtain⟨e,a₁,w₁,hq,harr⟩:=hp b (.inScope c::k) cs
   cases e with
   | normal=>exact⟨.normal,a₁,w₁,hq,Steps.trans harr (.one step_inScope)⟩
   | exit id=>exact⟨.exit id,a₁,w₁,hq,fun k' hk=>harr k' (by simp [exitTo,hk])⟩
   | goto l' =>
    obtain⟨m,hlt,hJ'⟩:=hq;obtain⟨rest',hf',e₂,a₂,w₂,hq₂,harr₂⟩:=ih m hlt l' a₁ w₁ hJ';exact⟨e₂,a₂,w₂,hq₂,.of_steps (harr _ (hg _ _ hf')) harr₂⟩
   | ret=>exact⟨_,a₁,w₁,hq,harr⟩
   | panic ch=>exact⟨_,a₁,w₁,hq,harr⟩
   | outgrown=>exact⟨_,a₁,w₁,hq,harr⟩
 obtain⟨e,a₁,w₁,hq,harr⟩:=first b (.inScope c::k) cs
 cases e with
 | normal=>exact⟨.normal,a₁,w₁,hq,.head step_scope (Steps.trans harr (.one step_inScope))⟩
 | exit id=>exact⟨.exit id,a₁,w₁,hq,fun k' hk=>.head step_scope (harr k' (by simp [exitTo,hk]))⟩
 | goto l' =>
  obtain⟨n,hJ'⟩:=hq;obtain⟨rest',hf',e₂,a₂,w₂,hq₂,harr₂⟩:=key n l' a₁ w₁ hJ';exact⟨e₂,a₂,w₂,hq₂,.of_steps (.head step_scope (harr _ (hg _ _ hf'))) harr₂⟩
 | ret=>exact⟨_,a₁,w₁,hq,.of_steps (.one step_scope) harr⟩
 | panic ch=>exact⟨_,a₁,w₁,hq,.of_steps (.one step_scope) harr⟩
 | outgrown=>exact⟨_,a₁,w₁,hq,.of_steps (.one step_scope) harr⟩
theorem flab_eq:∀(c:Code) (l:Nat),flab c l=findLabel c l
 | .seq x y,l=>by
  have e:flab (.seq x y) l=match flab x l with
   | some r=>some (.seq r y)
   | none=>flab y l:=rfl
  rw[e,flab_eq x l,flab_eq y l,findLabel];cases findLabel x l<;>rfl
 | .label l',l=>by
  have e:flab (.label l') l=bif Nat.beq l' l then some .skip else none:=rfl
  rw[e,findLabel]
  cases h:Nat.beq l' l with
  | true=>have:=beq_t h;subst this;simp
  | false=>have:=beq_f h;simp [this]
 | .skip,_=>rfl
 | .region _ _ _,_=>rfl
 | .cond _ _ _,_=>rfl
 | .block _ _,_=>rfl
 | .loop _,_=>rfl
 | .rangeFunc _ _ _ _,_=>rfl
 | .exit _,_=>rfl
 | .scope _,_=>rfl
 | .goto _,_=>rfl
 | .ret,_=>rfl
 | .refuse _,_=>rfl
def WOK (C:Cx) (B:Bs) (W:Code→WT):Prop:=∀(c:Code) {Q:Ex→St→Hp→Prop} {s:St} {H:Hp} {a:Act} {w:World} {ρ:Rho},W c Q s H→Rel C B ρ s H a w→c.wp C.P (Post C B H Q) a w
def SOK (C:Cx) (B:Bs) (sc:Code→WT):Prop:=∀(c:Code) {Q:Ex→St→Hp→Prop} {s:St} {H:Hp} {a:Act} {w:World} {ρ:Rho},sc c Q s H→Rel C B ρ s H a w→(Code.scope c).wp C.P (Post C B H Q) a w
theorem sc0_ok (hbase:B.base=C.base):SOK C B (sc0 C):=fun _ _ _ _ a w ρ h hr =>
 wp_mono (h B ρ a w hbase hr) fun _ _ _ ⟨e0,s',H',ρ',h1,h2,h3,h4⟩=>⟨e0,s',H',ρ',h1,h2,h3,h4⟩
theorem scE_ok (hbase:B.base=C.base) {W:Code→WT} (hW:WOK C B W):SOK C B (scE C W):=by
 intro b Q s H a w ρ h hr
 rcases h with ⟨n,h⟩ | ⟨α,lab,T,I,μ,h,hpass⟩
 ·refine wp_scope_gen (fun i l a' w'=>∃s' H' ρ',i<n∧Rel C B ρ' s' H' a' w'∧Le H H'∧match flab b l with
   | some r=>W r (scJ W b i Q) s' H'
   | none=>False) ?_ ?_
  ·refine wp_mono (hW b h hr) fun e a2 w2 ⟨e0,s',H',ρ',h1,h2,h3,h4⟩=>?_
   subst h1
   cases n with
   | zero=>cases e0 with
    | normal=>exact⟨.normal,s',H',ρ',rfl,h2,h3,h4⟩
    | exit i=>exact⟨.exit i,s',H',ρ',rfl,h2,h3,h4⟩
    | goto l=>exact h2.elim
    | ret=>exact⟨.ret,s',H',ρ',rfl,h2,h3,h4⟩
   | succ n=>cases e0 with
    | normal=>exact⟨.normal,s',H',ρ',rfl,h2,h3,h4⟩
    | exit i=>exact⟨.exit i,s',H',ρ',rfl,h2,h3,h4⟩
    | goto l=>exact⟨n,s',H',ρ',Nat.lt_succ_self n,h3,h4,h2⟩
    | ret=>exact⟨.ret,s',H',ρ',rfl,h2,h3,h4⟩
  ·rintro i l a1 w1 ⟨s1,H1,ρ1,hi,hr1,hle1,hm⟩;rw[flab_eq]at hm
   cases hf:findLabel b l with
   | none=>rw[hf]at hm;exact hm.elim
   | some r =>
    rw[hf]at hm;refine⟨r,rfl,wp_mono (hW r hm hr1) fun e a2 w2 ⟨e0,s',H',ρ',h1,h2,h3,h4⟩=>?_⟩;subst h1
    cases i with
    | zero=>cases e0 with
     | normal=>exact⟨.normal,s',H',ρ',rfl,h2,h3,hle1.trans h4⟩
     | exit i=>exact⟨.exit i,s',H',ρ',rfl,h2,h3,hle1.trans h4⟩
     | goto l=>exact h2.elim
     | ret=>exact⟨.ret,s',H',ρ',rfl,h2,h3,hle1.trans h4⟩
    | succ i=>cases e0 with
     | normal=>exact⟨.normal,s',H',ρ',rfl,h2,h3,hle1.trans h4⟩
     | exit i=>exact⟨.exit i,s',H',ρ',rfl,h2,h3,hle1.trans h4⟩
     | goto l=>exact⟨i,Nat.lt_succ_self i,s',H',ρ',by omega,h3,hle1.trans h4,h2⟩
     | ret=>exact⟨.ret,s',H',ρ',rfl,h2,h3,hle1.trans h4⟩
 ·refine wp_scope_gen (fun i l a' w'=>∃x H' ρ',lab x=l∧Rel C B ρ' (T x) H' a' w'∧I x H'∧Le H H'∧μ x=i) ?_ ?_
  ·refine wp_mono (hW b h hr) fun e a2 w2 ⟨e0,s',H',ρ',h1,h2,h3,h4⟩=>?_
   subst h1
   cases e0 with
   | normal=>exact⟨.normal,s',H',ρ',rfl,h2,h3,h4⟩
   | exit i=>exact⟨.exit i,s',H',ρ',rfl,h2,h3,h4⟩
   | goto l =>
    obtain⟨x,m,hl,hs,hi⟩:=h2;obtain⟨ρ2,hr2⟩:=h3.sub hbase hs;exact⟨μ x,x,H',ρ2,hl,hr2,hi,h4,rfl⟩
   | ret=>exact⟨.ret,s',H',ρ',rfl,h2,h3,h4⟩
  ·rintro i l a1 w1 ⟨x,H1,ρ1,hl,hr1,hi1,hle1,hμ⟩;subst hl hμ;have hm:=hpass x H1 hle1 hi1;rw[flab_eq]at hm
   cases hf:findLabel b (lab x) with
   | none=>rw[hf]at hm;exact hm.elim
   | some r =>
    rw[hf]at hm;refine⟨r,rfl,wp_mono (hW r hm hr1) fun e a2 w2 ⟨e0,s',H',ρ',h1,h2,h3,h4⟩=>?_⟩;subst h1
    cases e0 with
    | normal=>exact⟨.normal,s',H',ρ',rfl,h2,h3,hle1.trans h4⟩
    | exit i=>exact⟨.exit i,s',H',ρ',rfl,h2,h3,hle1.trans h4⟩
    | goto l =>
     obtain⟨x',m',hl',hs',hi',hlt⟩:=h2;obtain⟨ρ2,hr2⟩:=h3.sub hbase hs';exact⟨μ x',hlt,x',H',ρ2,hl',hr2,hi',hle1.trans h4,rfl⟩
    | ret=>exact⟨.ret,s',H',ρ',rfl,h2,h3,hle1.trans h4⟩
theorem wpE_ok (ht:TOK C) (hm:C.P.follows .mixedOrders=true) (hbase:B.base=C.base) {sc:Code→WT} (hsc:SOK C B sc):∀(c:Code) {Q:Ex→St→Hp→Prop} {s:St} {H:Hp} {a:Act} {w:World} {ρ:Rho},wpE C sc c Q s H→Rel C B ρ s H a w→c.wp C.P (Post C B H Q) a w
 | .skip,Q,s,H,a,w,ρ,h,hr=>wp_skip ⟨.normal,s,H,ρ,rfl,h,hr,Le.refl H⟩
 | .exit id,Q,s,H,a,w,ρ,h,hr=>wp_exit ⟨.exit id,s,H,ρ,rfl,h,hr,Le.refl H⟩
 | .ret,Q,s,H,a,w,ρ,h,hr=>wp_ret ⟨.ret,s,H,ρ,rfl,h,hr,Le.refl H⟩
 | .label l,Q,s,H,a,w,ρ,h,hr=>wp_label ⟨.normal,s,H,ρ,rfl,h,hr,Le.refl H⟩
 | .goto l,Q,s,H,a,w,ρ,h,hr=>wp_goto ⟨.goto l,s,H,ρ,rfl,h,hr,Le.refl H⟩
 | .refuse _,Q,s,H,a,w,ρ,h,hr=>h.elim
 | .rangeFunc f ps x y,Q,s,H,a,w,ρ,h,hr=>wp_mono (h B ρ a w hbase hr) fun e a w ⟨e0,s',H',ρ',h1,h2,h3,h4⟩=>⟨e0,s',H',ρ',h1,h2,h3,h4⟩
 | .scope b,Q,s,H,a,w,ρ,h,hr=>hsc b h hr
 | .region id ops draw,Q,s,H,a,w,ρ,h,hr=>by
  rw[wpE]at h
  cases draw with
  | true =>
   simp only[cond_true]at h;obtain⟨ord,h⟩:=h
   cases ord with
   | none=>exact wp_mono (h B ρ a w hbase hr) fun e a w ⟨e0,s',H',ρ',h1,h2,h3,h4⟩=>⟨e0,s',H',ρ',h1,h2,h3,h4⟩
   | some hl =>
    obtain⟨hs,l⟩:=hl
    refine wp_mono (draw_ok ht hm h.1 h.2 hr) fun e a w ⟨e0,s',H',ρ',h1,h2,h3,h4⟩=>?_
    cases e0 with
    | normal=>exact⟨.normal,s',H',ρ',h1,h2,h3,h4⟩
    | exit _=>exact h2.elim
    | goto _=>exact h2.elim
    | ret=>exact h2.elim
  | false =>
   simp only[cond_false]at h
   refine wp_mono (wp_region_list (runOps_ok ht ops.toList hr (Le.refl H) h)) fun e a w ⟨e0,s',H',ρ',h1,h2,h3,h4⟩=>?_
   cases e0 with
   | normal=>exact⟨.normal,s',H',ρ',h1,h2,h3,h4⟩
   | exit _=>exact h2.elim
   | goto _=>exact h2.elim
   | ret=>exact h2.elim
 | .seq x y,Q,s,H,a,w,ρ,h,hr=>by
  rw[wpE]at h;refine wp_seq (wp_mono (wpE_ok ht hm hbase hsc x h hr) fun e a w ⟨e0,s',H',ρ',h1,h2,h3,h4⟩=>?_);subst h1
  cases e0 with
  | normal=>exact wp_mono (wpE_ok ht hm hbase hsc y h2 h3) fun e a w hp=>hp.mono h4 fun _ _ _ h=>h
  | exit i=>exact⟨.exit i,s',H',ρ',rfl,h2,h3,h4⟩
  | goto l=>exact⟨.goto l,s',H',ρ',rfl,h2,h3,h4⟩
  | ret=>exact⟨.ret,s',H',ρ',rfl,h2,h3,h4⟩
 | .cond c x y,Q,s,H,a,w,ρ,h,hr=>by
  rw[wpE]at h;split at h
  ·rename_i t hc;have h1:=(eval_get hr hc).1;rw[ga]at h1
   cases t with
   | true=>exact wp_cond_true h1 (wpE_ok ht hm hbase hsc x h hr)
   | false=>exact wp_cond_false h1 (wpE_ok ht hm hbase hsc y h hr)
  ·rename_i t hc;have h1:=(eval_get hr hc).1;rw[ga]at h1;exact wp_cond_split h1 (fun e=>wpE_ok ht hm hbase hsc x (h.1 e) hr) (fun e=>wpE_ok ht hm hbase hsc y (h.2 e) hr)
  ·exact h.elim
 | .block id c,Q,s,H,a,w,ρ,h,hr=>by
  rw[wpE]at h;refine wp_block (wp_mono (wpE_ok ht hm hbase hsc c h hr) fun e a w ⟨e0,s',H',ρ',h1,h2,h3,h4⟩=>?_);subst h1
  cases e0 with
  | normal=>exact⟨.normal,s',H',ρ',rfl,h2,h3,h4⟩
  | exit i =>
   show if i=id then _ else _
   cases hi:Nat.beq i id with
   | true =>
    simp only[hi,cond_true]at h2;rw[if_pos (beq_t hi)];exact⟨.normal,s',H',ρ',rfl,h2,h3,h4⟩
   | false =>
    simp only[hi,cond_false]at h2;rw[if_neg (beq_f hi)];exact⟨.exit i,s',H',ρ',rfl,h2,h3,h4⟩
  | goto l=>exact⟨.goto l,s',H',ρ',rfl,h2,h3,h4⟩
  | ret=>exact⟨.ret,s',H',ρ',rfl,h2,h3,h4⟩
 | .loop c,Q,s,H,a,w,ρ,h,hr=>by
  rw[wpE]at h;obtain⟨α,T,I,μ,⟨x0,m,hs,hi⟩,hround⟩:=h;obtain⟨ρ0,hr0⟩:=hr.sub hbase hs;refine wp_loop_ghost (fun n a w=>∃x H' ρ',Rel C B ρ' (T x) H' a w∧I x H'∧Le H H'∧μ x=n) (μ x0) ⟨x0,H,ρ0,hr0,hi,Le.refl H,rfl⟩ ?_;rintro n a1 w1 ⟨x,H1,ρ1,hr1,hi1,hle1,rfl⟩
  refine wp_mono (wpE_ok ht hm hbase hsc c (hround x H1 hle1 hi1) hr1) fun e a2 w2 ⟨e0,s',H',ρ',h1,h2,h3,h4⟩=>?_
  subst h1
  cases e0 with
  | normal =>
   obtain⟨x',m',hs',hi',hlt⟩:=h2;obtain⟨ρ2,hr2⟩:=h3.sub hbase hs';exact⟨μ x',hlt,x',H',ρ2,hr2,hi',hle1.trans h4,rfl⟩
  | exit i=>exact⟨.exit i,s',H',ρ',rfl,h2,h3,hle1.trans h4⟩
  | goto l=>exact⟨.goto l,s',H',ρ',rfl,h2,h3,hle1.trans h4⟩
  | ret=>exact⟨.ret,s',H',ρ',rfl,h2,h3,hle1.trans h4⟩
theorem wpE_ok1 (ht:TOK C) (hm:C.P.follows .mixedOrders=true) (hbase:B.base=C.base) (c:Code) {Q:Ex→St→Hp→Prop} {s:St} {H:Hp} {a:Act} {w:World} {ρ:Rho} (h:wpE C (scE C (wpE C (sc0 C))) c Q s H) (hr:Rel C B ρ s H a w):c.wp C.P (Post C B H Q) a w :=
 wpE_ok ht hm hbase (scE_ok hbase fun c=>wpE_ok ht hm hbase (sc0_ok hbase) c) c h hr
end
end Go.Sy
end
section
namespace Go.Sy
open Go.RowKit (Below)
section
variable {C:Cx} {B:Bs} {ρ:Rho} {s:St} {H:Hp} {a:Act} {w:World} {P:Program}
def resOp (tmps:Array Value):ResultVar→Sem Value
 | .tmp t=>pure (tmps.getD t undef)
 | .cell a t=>do loadVar t (←asAddr (tmps.getD a undef))
theorem res_ok (ht:TOK C) (hr:Rel C B ρ s H a w):∀ {l:List ResultVar} {xs:List SV},resE C s l=some xs→(l.mapM (resOp a.tmps)).run C.P w = .ok (gas ρ xs) w∧SV.lts s.nx xs=true
 | [],xs,h=>by
  simp only[resE,Option.some.injEq]at h;subst h;exact⟨by simp [gas],by rw[SV.lts]⟩
 | .tmp t::r,xs,h=>by
  simp only[resE]at h;split at h
  ·rename_i x hx;split at h
   ·rename_i l hl;simp only[Option.some.injEq]at h;subst h;obtain⟨h1,h2⟩:=eval_get hr hx;obtain⟨h3,h4⟩:=res_ok ht hr hl;have h1':a.tmps.getD t undef=ga ρ x:=h1;refine⟨?_,by rw[SV.lts,h2];exact h4⟩;simp only[List.mapM_cons,resOp,Sem.run_bind,Sem.run_pure,Result.andThen_ok,h1',h3,gas]
   ·cases h
  ·cases h
 | .cell t T::r,xs,h=>by
  simp only[resE]at h;split at h
  ·rename_i k off hx;split at h
   ·rename_i T0 cs hk;split at h
    ·rename_i n hn
     cases hle:Nat.ble (off+n) cs.length with
     | false=>rw[hle]at h;cases h
     | true =>
      rw[hle]at h;simp only[cond_true]at h;have hle:=ble_t hle;split at h
      ·rename_i x hx0;split at h
       ·rename_i l hl;simp only[Option.some.injEq]at h;subst h;have h1:=(eval_get hr hx).1;rw[ga]at h1;have h1':a.tmps.getD t undef = .pointer (some ⟨ρ.b k,off,none⟩):=h1;have hb:=(hr.mem.ok _ _ hk).2.1;simp only[BoxOK]at hb
        have h2:=loadVar_ok (ρ:=ρ) (w:=w) ht hn (g:=ρ.b k) (off:=off) (l:=(cs.drop off).take n) (by simp;omega) (fun j v hv=>by
         rw[cell_of _ _ hb];rw[gas_take_drop,List.getElem?_take]at hv;split at hv
         ·simpa [List.getElem?_drop] using hv
         ·cases hv) hx0
        obtain⟨h3,h4⟩:=res_ok ht hr hl;refine⟨?_,by rw[SV.lts,mkv_lt hx0 (lts_take_drop (hr.mem.ok _ _ hk).2.2 off n)];exact h4⟩;simp only[List.mapM_cons,resOp,h1',asAddr,Sem.run_bind,Sem.run_pure,Result.andThen_ok,h2,h3,gas]
       ·cases h
      ·cases h
    ·cases h
   ·cases h
  ·cases h
theorem results_ok (ht:TOK C) (hr:Rel C B ρ s H a w) {fn:Func} {xs:List SV} (h:resE C s fn.results.toList=some xs):(results fn a.tmps).run C.P w = .ok (ga ρ (resV xs)) w:=by
 have h1:=(res_ok ht hr h).1
 have h2:(fn.results.mapM (resOp a.tmps)).run C.P w = .ok (gas ρ xs).toArray w:=by
  rw[Array.mapM_eq_mapM_toList,Sem.run_map,h1];rfl
 have h3:results fn a.tmps=(do let vs ←fn.results.mapM (resOp a.tmps);pure (if h:vs.size=1 then vs[0] else .tuple vs)):=by
  unfold results
  congr 2
 rw[h3,Sem.run_bind,h2];simp only[Result.andThen_ok,Sem.run_pure]
 match xs with
 | [x]=>simp [gas,resV]
 | []=>simp [gas,resV,ga]
 | x::y::r=>simp [gas,resV,ga]
theorem argEnv_lk:∀(i:Nat) (l:List Value) (t:Nat) (x:SV),lk (argEnv i l) t=some x→i≤t∧∃v,l[t - i]?=some v∧x=ofV v
 | i,[],t,x,h=>by simp [argEnv,lk]at h
 | i,v::r,t,x,h=>by
  rw[argEnv,lk_cons]at h;split at h
  ·rename_i e;subst e;simp only[Option.some.injEq]at h;subst h;exact⟨Nat.le_refl _,v,by simp,rfl⟩
  ·rename_i hne;obtain⟨h1,u,h2,h3⟩:=argEnv_lk (i+1) r t x h;refine⟨by omega,u,?_,h3⟩;rw[show t - i=(t - (i+1))+1 by omega]
   simpa using h2
theorem spec_of (ht:TOK C) (hm:C.P.follows .mixedOrders=true) (hb:C.base=0) {f:FuncId} {fn:Func} (hf:C.P.funcs[f]?=some fn) (hc:∀as w,(callFunc f as).run C.P w = .ok (.enter f as) w) {n:Nat} (hn:fn.ntmps=n) {rs:Array ResultVar} (hrs:fn.results=rs) {c:Code} (hbody:fn.body=some c) {args:List Value} (hsz:Nat.ble args.length n=true)
  {K:Value→Hp→Prop} (h:fnR C n c rs.toList args H K) (hmk:C.rg=false:=by rfl):Does C.P f args H K:=by
 rw[fnR_eq]at h;refine⟨hc,fun w hp=>?_⟩;subst hn;subst hrs;have hsz:=ble_t hsz;unfold fnE at h
 ·refine calls_of_wp hf hbody ?_
  let C':Cx:={ C with n:=fn.ntmps }
  have ht':TOK C':=⟨ht.tt,ht.eqs⟩
  let B:Bs:={ N:=w.heap.size,w0:=w,E:=fun _=>False,base:=0,ρ:=⟨fun _=>0,fun _=>(none,0,0)⟩,H:=H }
  have hr:Rel C' B ⟨fun _=>0,fun _=>(none,0,0)⟩ { env:=argEnv 0 args,bx:=[],nx:=0 } H { tmps:=args.toArray++Array.replicate (fn.ntmps - args.toArray.size) undef,defers:=[] } w :=
   {env:=fun t x hx=>by
     obtain⟨_,v,h1,rfl⟩:=argEnv_lk 0 args t x hx;have hlt:=(List.getElem?_eq_some_iff.1 h1).1;refine⟨?_,(ofV_ga ⟨fun _=>0,fun _=>(none,0,0)⟩ v).2 _⟩;rw[(ofV_ga _ v).1];simp only[Nat.sub_zero]at h1 hlt;rw[Array.getElem?_append_left (by simpa using hlt)]
     simpa using h1
    sz:=by simp [C'];omega
    defers:=Dfs.nil _ _ _
    mem:={ os:=rfl,tape:=rfl,output:=OD.refl _,size:=Nat.le_refl _,frame:=fun _ _ _=>rfl,base:=Nat.zero_le _,agree:=fun k hk=>absurd hk (Nat.not_lt_zero k),hp:=hp,hle:=Le.refl H,hnew:=fun _ h _ _=>h,ok:=fun k b hk=>by simp [lk]at hk,own:=fun k b g hk=>by simp [lk]at hk,disj:=fun k k' b b' g hk=>by simp [lk]at hk } }
  refine wp_mono (wpE_ok1 (B:=B) ht' hm hb.symm c h hr) fun e a' w' ⟨e0,s',H',ρ',h1,h2,h3,h4⟩=>?_
  subst h1
  have fin:∀l,resE C' s' fn.results.toList=some l→fz (resV l) s' H' (fun v _ H''=>K v H'')→a'.defers=[]∧∃v,(results fn a'.tmps).run C.P w' = .ok v w'∧∃v1 H1,Ending.returned v = .returned v1∧K v1 H1∧Le H H1∧(∀b o,H1 b=some o→w'.heap[b]?=some o) ∧
    (∀b,H b=none→b<w.heap.size→H1 b=none)∧BelowD w.heap.size w w':=fun l hl hz=>by
   obtain⟨s1,H1,k1,k2,k3,k4⟩:=fz_ok (resV l) h3 hz;refine⟨by have:=h3.defers;rw[show C'.rg=false from hmk]at this;exact this,_,results_ok ht' h3 hl,_,H1,rfl,k1,h4.trans k3,k2.mem.hp,fun b hb hlt=>k2.mem.hnew b hb hlt (fun h=>h),⟨⟨k2.mem.os,k2.mem.tape,k2.mem.output.1,k2.mem.size,fun b hb=>k2.mem.frame b hb (fun h=>h)⟩,k2.mem.output.2⟩⟩
  cases e0 with
  | normal =>
   simp only at h2;split at h2
   ·rename_i l hl;exact fin l hl (by rw[fz2_eq]at h2;exact h2)
   ·exact h2.elim
  | ret =>
   simp only at h2;split at h2
   ·rename_i l hl;exact fin l hl (by rw[fz2_eq]at h2;exact h2)
   ·exact h2.elim
  | exit i=>exact h2.elim
  | goto l=>exact h2.elim
end
end Go.Sy
end
section
namespace Go.Sy
open Go.RowKit (Below)
section
variable {C:Cx} {B:Bs} {ρ:Rho} {s:St} {H:Hp} {a:Act} {w:World} {P:Program}
def argEnvG:Nat→List SV→List (Nat×SV)
 | _,[]=>[]
 | i,x::r=>(i,x)::argEnvG (i+1) r
def shrink (x:SV) (bx:List (Nat×Bx)) (nx:Nat) (K:SV→List (Nat×Bx)→Nat→Prop):Prop:=match x with
 | .sub k sz 0 n=>match lk bx k with
  | some (.row e sz' xs)=>n≤xs.length∧K (.own nx) ((nx,.row e sz' (xs.take n))::(k,.dead)::bx) (nx+1)
  | _=>K (.sub k sz 0 n) bx nx
 | x=>K x bx nx
noncomputable def fnRG (C:Cx) (n:Nat) (c:Code) (res:List ResultVar) (args:List SV) (bx:List (Nat×Bx)) (nx:Nat) (H:Hp) (K:SV→St→Hp→Prop):Prop :=
 wpR { C with n:=n,base:=nx } (scE { C with n:=n,base:=nx } (wpR { C with n:=n,base:=nx } (sc0 { C with n:=n,base:=nx }))) c (fun e s' H'=>match e with
   | .normal | .ret=>match resE { C with n:=n,base:=nx } s' res with
    | some l=>shrink (resV l) s'.bx s'.nx fun x bx' nx'=>∃(y:SV) (b2:List (Nat×Bx)) (n2:Nat) (m:List (Nat×Nat)),Sub { C with n:=1,base:=nx } m ⟨[(0,x)],bx',nx'⟩ ⟨[(0,y)],b2,n2⟩∧K y ⟨[],b2,n2⟩ H'
    | none=>False
   | _=>False) { env:=argEnvG 0 args,bx:=bx,nx:=nx } H
theorem argEnvG_lk:∀(i:Nat) (l:List SV) (t:Nat) (x:SV),lk (argEnvG i l) t=some x→i≤t∧l[t - i]?=some x
 | i,[],t,x,h=>by simp [argEnvG,lk]at h
 | i,v::r,t,x,h=>by
  rw[argEnvG,lk_cons]at h;split at h
  ·rename_i e;subst e;simp only[Option.some.injEq]at h;subst h;exact⟨Nat.le_refl _,by simp⟩
  ·rename_i hne;obtain⟨h1,h2⟩:=argEnvG_lk (i+1) r t x h;refine⟨by omega,?_⟩;rw[show t - i=(t - (i+1))+1 by omega]
   simpa using h2
theorem shrink_ok {x:SV} {bx:List (Nat×Bx)} {nx:Nat} {K:SV→List (Nat×Bx)→Nat→Prop} (h:shrink x bx nx K) (hr:Rel C B ρ ⟨[(0,x)],bx,nx⟩ H { tmps:=#[ga ρ x],defers:=[] } w):
  ∃x' bx' nx' ρ',K x' bx' nx'∧ga ρ' x'=ga ρ x∧Rel C B ρ' ⟨[(0,x')],bx',nx'⟩ H { tmps:=#[ga ρ' x'],defers:=[] } w:=by
 unfold shrink at h;split at h
 ·rename_i k sz n;split at h
  ·rename_i e sz' xs hk;obtain⟨hn,h⟩:=h;obtain⟨ρ',hr',hg⟩:=hr.shrunk hk hn sz;refine⟨_,_,_,ρ',h,by rw[hg,ga],⟨fun t x hx=>?_,hr.sz,Dfs.nil _ _ _,hr'.mem⟩⟩;rw[lk_cons]at hx;split at hx
   ·rename_i e;subst e;cases hx;exact⟨rfl,by rw[SV.lt];exact Nat.ble_eq_true_of_le (Nat.le_refl _)⟩
   ·cases hx
  ·exact⟨_,_,_,ρ,h,rfl,hr⟩
 ·exact⟨_,_,_,ρ,h,rfl,hr⟩
theorem spec_ofG (ht:TOK C) (hm:C.P.follows .mixedOrders=true) {f:FuncId} {fn:Func} (hf:C.P.funcs[f]?=some fn) (hc:∀as w,(callFunc f as).run C.P w = .ok (.enter f as) w) {n:Nat} (hn:fn.ntmps=n) {rs:Array ResultVar} (hrs:fn.results=rs) {c:Code} (hbody:fn.body=some c) {args:List SV} {bx:List (Nat×Bx)} {nx:Nat} (hsz:Nat.ble args.length n=true)
  {K:SV→St→Hp→Prop} (h:fnRG C n c rs.toList args bx nx H K) (hmk:C.rg=false:=by rfl):DoesG C.P f args bx nx H K:=by
 refine⟨hc,fun w ρ hmem hl=>?_⟩;subst hn;subst hrs;have hsz:=ble_t hsz;unfold fnRG at h;rw[wpR_eq,funext (wpR_eq { C with n:=fn.ntmps,base:=nx } (sc0 { C with n:=fn.ntmps,base:=nx }))]at h;refine calls_of_wp hf hbody ?_
 let C':Cx:={ C with n:=fn.ntmps,base:=nx }
 have ht':TOK C':=⟨ht.tt,ht.eqs⟩
 have hlen:(gas ρ args).length=args.length:=by rw[gas_eq,List.length_map]
 have hr:Rel C' (Bs.lent w ρ bx nx H) ρ { env:=argEnvG 0 args,bx:=bx,nx:=nx } H { tmps:=(gas ρ args).toArray++Array.replicate (fn.ntmps - (gas ρ args).toArray.size) undef,defers:=[] } w :=
  {env:=fun t x hx=>by
    obtain⟨_,h1⟩:=argEnvG_lk 0 args t x hx;rw[Nat.sub_zero]at h1;have hlt:=(List.getElem?_eq_some_iff.1 h1).1;refine⟨?_,(lts_iff nx args).1 hl x (List.mem_of_getElem? h1)⟩;rw[Array.getElem?_append_left (by simpa [hlen] using hlt)];simp [gas_eq,h1]
   sz:=by simp [C',hlen];omega
   defers:=Dfs.nil _ _ _
   mem:=hmem }
 refine wp_mono (wpE_ok1 (B:=Bs.lent w ρ bx nx H) ht' hm rfl c h hr) fun e a' w' ⟨e0,s',H',ρ',h1,h2,h3,h4⟩=>?_
 subst h1
 have fin:∀l,resE C' s' fn.results.toList=some l→(shrink (resV l) s'.bx s'.nx fun x bx' nx'=>∃(y:SV) (b2:List (Nat×Bx)) (n2:Nat) (m:List (Nat×Nat)),Sub { C with n:=1,base:=nx } m ⟨[(0,x)],bx',nx'⟩ ⟨[(0,y)],b2,n2⟩∧K y ⟨[],b2,n2⟩ H') →
   a'.defers=[]∧∃v,(results fn a'.tmps).run C.P w' = .ok v w'∧∃x t H1 ρ1,Ending.returned v = .returned (ga ρ1 x)∧K x t H1∧x.lt t.nx=true∧Mem (Bs.lent w ρ bx nx H) ρ1 t.bx t.nx H1 w':=fun l hl hsh=>by
  have hlts:=(res_ok ht' h3 hl).2
  have hrl:(resV l).lt s'.nx=true:=by
   unfold resV;split
   ·rw[lts_iff]at hlts;exact hlts _ (by simp)
   ·rw[SV.lt];exact hlts
  have hr2:Rel { C with n:=1,base:=nx } (Bs.lent w ρ bx nx H) ρ' ⟨[(0,resV l)],s'.bx,s'.nx⟩ H' { tmps:=#[ga ρ' (resV l)],defers:=[] } w' :=
   {env:=fun t x hx=>by
     rw[lk_cons]at hx;split at hx
     ·rename_i e;subst e;cases hx;exact⟨rfl,hrl⟩
     ·cases hx
    sz:=rfl
    defers:=Dfs.nil _ _ _
    mem:=h3.mem }
  obtain⟨x3,bx3,nx3,ρ3,⟨y,b2,n2,m,hsub,hk⟩,hg3,hr3⟩:=shrink_ok hsh hr2;obtain⟨ρ1,hr1⟩:=hr3.sub rfl hsub;obtain⟨e1,e2⟩:=hr1.env 0 y rfl;refine⟨by have:=h3.defers;rw[show C'.rg=false from hmk]at this;exact this,_,results_ok ht' h3 hl,y,_,H',ρ1,?_,hk,e2,hr1.mem⟩
  have:ga ρ3 x3=ga ρ1 y:=by simpa using e1
  rw[←hg3,this]
 cases e0 with
 | normal =>
  simp only at h2;split at h2
  ·rename_i l hl;exact fin l hl h2
  ·exact h2.elim
 | ret =>
  simp only at h2;split at h2
  ·rename_i l hl;exact fin l hl h2
  ·exact h2.elim
 | exit i=>exact h2.elim
 | goto l=>exact h2.elim
end
end Go.Sy
end
section
/- How data lie in memory that is never written again; the law of a contract. -/
namespace Go.Sy
open Go.RowKit (Below)
class Enc (α:Type) where
 sz:Nat
 R:Hp→List Value→α→Prop
 len:∀ {H cs a},R H cs a→cs.length=sz
 one:∀ {H cs a},R H cs a→∀u∈cs,u.oneCell'=true
 up:∀ {H H' cs a},Le H H'→R H cs a→R H' cs a
instance:Enc Int where
 sz:=1
 R _ cs n:=cs=[.int .i64 n]∧-9223372036854775808≤n∧n≤9223372036854775807
 len h:=by rw[h.1];rfl
 one h:=by rw[h.1];simp [Value.oneCell']
 up _ h:=h
instance:Enc UInt64 where
 sz:=1
 R _ cs n:=cs=[.int .u64 n.toNat]
 len h:=by rw[h];rfl
 one h:=by rw[h];simp [Value.oneCell']
 up _ h:=h
instance:Enc UInt8 where
 sz:=1
 R _ cs n:=cs=[.int .u8 n.toNat]
 len h:=by rw[h];rfl
 one h:=by rw[h];simp [Value.oneCell']
 up _ h:=h
instance:Enc Bool where
 sz:=1
 R _ cs n:=cs=[.bool n]
 len h:=by rw[h];rfl
 one h:=by rw[h];simp [Value.oneCell']
 up _ h:=h
@[simp] theorem sl_bs (l:List UInt8):sl (bs l)=l:=rfl
@[simp] theorem bs_sl (b:ByteArray):bs (sl b)=b:=rfl
theorem dt {p:Prop} [Decidable p] (h:decide p=true):p:=of_decide_eq_true h
theorem df {p:Prop} [Decidable p] (h:decide p=false):¬p:=of_decide_eq_false h
theorem nt {p:Prop} [Decidable p] (h:(!decide p)=true):¬p:=by simpa using h
theorem nf {p:Prop} [Decidable p] (h:(!decide p)=false):p:=by simpa using h
structure Str where
 l:List UInt8
 deriving DecidableEq
instance:Enc Str where
 sz:=1
 R _ cs n:=cs=[.string (bs n.l)]∧n.l.length≤9223372036854775807
 len h:=by rw[h.1];rfl
 one h:=by rw[h.1];simp [Value.oneCell']
 up _ h:=h
def RL {α:Type} [Enc α] (H:Hp) (a:Option Addr) (n c:Nat) (xs:List α):Prop :=
 n=xs.length∧n≤c∧c≤9223372036854775807∧(c=0∨∃ad,a=some ad∧ad.spot=none∧∃cells T fr,H ad.block=some (.cells cells T fr)∧ad.off+c*Enc.sz α≤cells.size ∧
  ∀i x,xs[i]?=some x→∃cs,Enc.R H cs x∧∀j,j<Enc.sz α→cells[ad.off+i*Enc.sz α+j]?=cs[j]?)
section
variable {α β:Type} [Enc α] [Enc β] {H H':Hp} {a:Option Addr} {n c:Nat} {xs:List α}
theorem RL.up (h:RL H a n c xs) (hle:Le H H'):RL H' a n c xs:=by
 obtain⟨h1,h2,h3,h4⟩:=h;refine⟨h1,h2,h3,?_⟩
 rcases h4 with h4 | ⟨ad,e,hs,cells,T,fr,hH,hc,hx⟩
 ·exact .inl h4
 ·refine .inr ⟨ad,e,hs,cells,T,fr,hle _ _ hH,hc,fun i x hi=>?_⟩;obtain⟨cs,h5,h6⟩:=hx i x hi;exact⟨cs,Enc.up hle h5,h6⟩
theorem RL.n_eq (h:RL H a n c xs):n=xs.length:=h.1
theorem RL.le (h:RL H a n c xs):n≤9223372036854775807:=by have:=h.2.1;have:=h.2.2.1;omega
instance:Enc (List α) where
 sz:=1
 R H cs xs:=∃a n c,cs=[.slice a n c]∧RL H a n c xs
 len h:=by obtain⟨a,n,c,e,_⟩:=h;rw[e];rfl
 one h:=by obtain⟨a,n,c,e,_⟩:=h;rw[e];simp [Value.oneCell']
 up hle h:=by obtain⟨a,n,c,e,h⟩:=h;exact⟨a,n,c,e,h.up hle⟩
theorem RL.elem (h:RL H a n c xs) {i:Nat} {x:α} (hi:xs[i]?=some x):∃ad cs,a=some ad∧ElemH H ad (i:Int) (Enc.sz α) cs∧Enc.R H cs x:=by
 obtain⟨h1,h2,_,h4⟩:=h;have hlt:=(List.getElem?_eq_some_iff.1 hi).1
 rcases h4 with hc | ⟨ad,e,hs,cells,T,fr,hH,hc,hx⟩
 ·omega
 ·obtain⟨cs,h5,h6⟩:=hx i x hi;exact⟨ad,cs,e,⟨hs,Enc.len h5,cells,T,fr,hH,by simpa using h6⟩,h5⟩
theorem RL.cut (h:RL H a n c xs) {l k:Nat} (hlk:l≤k) (hk:k≤n):RL H (cutA a l c (Enc.sz α)) (k - l) (c - l) ((xs.take k).drop l):=by
 obtain⟨h1,h2,h3,h4⟩:=h;refine⟨by simp;omega,by omega,by omega,?_⟩
 by_cases hcl:c=l
 ·exact .inl (by omega)
 ·rcases h4 with hc | ⟨ad,e,hs,cells,T,fr,hH,hc,hx⟩
  ·omega
  ·subst e;obtain⟨b,o,sp⟩:=ad;simp only at hs;subst hs;refine .inr ⟨⟨b,o+l*Enc.sz α,none⟩,by rw[cutA,if_neg hcl,Option.map_some,Addr.at_],rfl,cells,T,fr,hH,?_,fun i x hi=>?_⟩
   ·have:l*Enc.sz α+(c - l)*Enc.sz α=c*Enc.sz α:=by rw[←Nat.add_mul];congr 1;omega
    simp only at hc ⊢;omega
   ·rw[List.getElem?_drop,List.getElem?_take]at hi;split at hi
    ·obtain⟨cs,h5,h6⟩:=hx (l+i) x hi;refine⟨cs,h5,fun j hj=>?_⟩;have:=h6 j hj;rw[Nat.add_mul]at this;simp only at this ⊢;rw[show o+l*Enc.sz α+i*Enc.sz α+j=o+(l*Enc.sz α+i*Enc.sz α)+j by omega];exact this
    ·cases hi
def RC (H:Hp) (css:List (List Value)) (xs:List α):Prop:=css.length=xs.length∧∀(i:Nat) (cs:List Value) (x:α),css[i]?=some cs→xs[i]?=some x→Enc.R H cs x
theorem RC.nil:RC (α:=α) H [] []:=⟨rfl,fun i cs x h=>by simp at h⟩
theorem RC.up {css:List (List Value)} (h:RC H css xs) (hle:Le H H'):RC H' css xs:=⟨h.1,fun i cs x h1 h2=>Enc.up hle (h.2 i cs x h1 h2)⟩
theorem RC.snoc {css:List (List Value)} {cs:List Value} {x:α} (h:RC H css xs) (hx:Enc.R H cs x):RC H (css++[cs]) (xs++[x]):=by
 refine⟨by simp [h.1],fun i c y h1 h2=>?_⟩;rw[List.getElem?_append]at h1 h2
 by_cases hlt:i<css.length
 ·rw[if_pos hlt]at h1;rw[if_pos (by rw[←h.1];exact hlt)]at h2;exact h.2 i c y h1 h2
 ·rw[if_neg hlt]at h1;rw[if_neg (by rw[←h.1];exact hlt)]at h2
  have e:i - css.length=0:=by
   have:=(List.getElem?_eq_some_iff.1 h1).1
   simp at this;omega
  rw[e]at h1;rw[←h.1,e]at h2;simp at h1 h2;subst h1 h2;exact hx
theorem RC.append {css dss:List (List Value)} {ys:List α} (h:RC H css xs) (hy:RC H dss ys):RC H (css++dss) (xs++ys):=by
 refine⟨by simp [h.1,hy.1],fun i c y h1 h2=>?_⟩;rw[List.getElem?_append]at h1 h2
 by_cases hlt:i<css.length
 ·rw[if_pos hlt]at h1;rw[if_pos (by rw[←h.1];exact hlt)]at h2;exact h.2 i c y h1 h2
 ·rw[if_neg hlt]at h1;rw[if_neg (by rw[←h.1];exact hlt)]at h2;rw[←h.1]at h2;exact hy.2 _ c y h1 h2
theorem RC.take {css:List (List Value)} (h:RC H css xs) (k:Nat):RC H (css.take k) (xs.take k):=by
 refine⟨by simp [h.1],fun i c y h1 h2=>?_⟩;rw[List.getElem?_take]at h1 h2;split at h1
 ·rename_i hlt;rw[if_pos hlt]at h2;exact h.2 i c y h1 h2
 ·cases h1
theorem RC.set {css:List (List Value)} {cs:List Value} {x:α} (h:RC H css xs) (hx:Enc.R H cs x) (k:Nat):RC H (css.set k cs) (xs.set k x):=by
 refine⟨by simp [h.1],fun i c y h1 h2=>?_⟩;rw[List.getElem?_set]at h1 h2;split at h1
 ·rename_i e;subst e;rw[if_pos rfl]at h2;split at h1
  ·rw[if_pos (by rw[←h.1];assumption)]at h2;simp only[Option.some.injEq]at h1 h2;subst h1 h2;exact hx
  ·cases h1
 ·rename_i hne;rw[if_neg hne]at h2;exact h.2 i c y h1 h2
theorem RC.get {css:List (List Value)} (h:RC H css xs) {i:Nat} {x:α} (hi:xs[i]?=some x):∃cs,css[i]?=some cs∧Enc.R H cs x:=by
 have hlt:=(List.getElem?_eq_some_iff.1 hi).1
 have hlt':i<css.length:=by rw[h.1];exact hlt
 have h1:css[i]?=some css[i]:=List.getElem?_eq_getElem hlt';exact⟨_,h1,h.2 i _ x h1 hi⟩
theorem RL.of_row {v:Value} {css:List (List Value)} (h:RowAt H v (Enc.sz α) css) (hc:RC H css xs):∃a n c,v = .slice a n c∧RL H a n c xs:=by
 obtain⟨a,cap,e,h1,h2,h3⟩:=h;refine⟨a,_,cap,e,hc.1,h1.1,h1.2,?_⟩
 rcases h3 with ⟨_,h4⟩ | ⟨ad,h3,hs,cells,T,fr,hH,hsz,hx⟩
 ·exact .inl h4
 ·refine .inr ⟨ad,h3,hs,cells,T,fr,hH,hsz,fun i x hi=>?_⟩;obtain⟨cs,h5,h6⟩:=hc.get hi;exact⟨cs,h6,fun j hj=>hx i cs h5 j hj⟩
theorem RL.row (h:RL H a n c xs):∃css,RowAt H (.slice a n c) (Enc.sz α) css∧RC H css xs:=by
 obtain⟨h1,h2,hmx,h4⟩:=h
 rcases h4 with hc | ⟨ad,e,hs,cells,T,fr,hH,hc,hx⟩
 ·have:xs=[]:=List.eq_nil_of_length_eq_zero (by omega);subst this;exact⟨[],⟨a,c,by simp [h1],by simp;omega,by simp,.inl ⟨rfl,hc⟩⟩,RC.nil⟩
 ·have hex:∀i:Nat,∃cs,∀x,xs[i]?=some x→Enc.R H cs x∧∀j,j<Enc.sz α→cells[ad.off+i*Enc.sz α+j]?=cs[j]?:=fun i=>by
   cases hi:xs[i]? with
   | none=>exact⟨[],fun x h=>by cases h⟩
   | some x =>
    obtain⟨cs,h5,h6⟩:=hx i x hi;exact⟨cs,fun y h=>by simp only[Option.some.injEq]at h;subst h;exact⟨h5,h6⟩⟩
  let f:Nat→List Value:=fun i=>Classical.choose (hex i)
  have hf:∀i x,xs[i]?=some x→Enc.R H (f i) x∧∀j,j<Enc.sz α→cells[ad.off+i*Enc.sz α+j]?=(f i)[j]?:=fun i=>Classical.choose_spec (hex i)
  refine⟨(List.range xs.length).map f,⟨a,c,by simp [h1],by simp;omega,fun y hy=>?_,.inr ⟨ad,e,hs,cells,T,fr,hH,hc,fun i y hi j hj=>?_⟩⟩,by simp,fun i y x hi hx'=>?_⟩
  ·simp only[List.mem_map,List.mem_range]at hy;obtain⟨i,hi,rfl⟩:=hy;have:=(hf i xs[i] (List.getElem?_eq_getElem hi)).1;exact⟨Enc.len this,Enc.one this⟩
  ·have hlt:=(List.getElem?_eq_some_iff.1 hi).1;simp at hlt;simp [hlt]at hi;subst hi;exact (hf i xs[i] (List.getElem?_eq_getElem hlt)).2 j hj
  ·have hlt:=(List.getElem?_eq_some_iff.1 hx').1;simp [hlt]at hi;subst hi;exact (hf i x hx').1
end
instance {α β:Type} [Enc α] [Enc β]:Enc (α×β) where
 sz:=Enc.sz α+Enc.sz β
 R H cs p:=∃c1 c2,cs=c1++c2∧Enc.R H c1 p.1∧Enc.R H c2 p.2
 len h:=by obtain⟨c1,c2,rfl,h1,h2⟩:=h;rw[List.length_append,Enc.len h1,Enc.len h2]
 one h:=by
  obtain⟨c1,c2,rfl,h1,h2⟩:=h;intro u hu
  rcases List.mem_append.1 hu with h | h
  ·exact Enc.one h1 u h
  ·exact Enc.one h2 u h
 up hle h:=by obtain⟨c1,c2,e,h1,h2⟩:=h;exact⟨c1,c2,e,Enc.up hle h1,Enc.up hle h2⟩
end Go.Sy
end
section
/- A region whose order is open, read by an invariant: whatever is carried out next, the state is one of a family of states. -/
namespace Go.Sy
open Go.RowKit (Below)
section
variable {C:Cx} {B:Bs} {ρ:Rho} {s:St} {H:Hp} {a:Act} {w:World}
theorem tree_any (ht:TOK C) (hbase:B.base=C.base) {ops:Array Oper} {α:Type} (T:α→St) (lst:α→Array Bool) {Q:Exit→Act→World→Prop}
  (hsz:∀x,(lst x).size=ops.size)
  (hstep:∀x,∀i∈Region.ready .any ops (lst x),∃o,ops[i]?=some o∧o.guard=none∧opE C (T x) o.op o.type H fun v s' H'=>H'=H∧∃y m,lst y=(lst x).setIfInBounds i true∧Sub C m (s'.put C.n o.dst v) (T y))
  (hend:∀x (ρ:Rho) (a:Act) (w:World),Region.ready .any ops (lst x)=[]→Rel C B ρ (T x) H a w→Q .normal a w):
  ∀(fuel:Nat) (x:α) (un:List Nat) (ρ:Rho) (a:Act) (w:World),un.length=fuel→un.Nodup→(∀i,i∈un↔i<ops.size∧¬Done (lst x) i)→Rel C B ρ (T x) H a w →
  wpAny C.P .any ops Q fuel (lst x) a w:=by
 intro fuel
 induction fuel with
 | zero =>
  intro x un ρ a w hl hnd hun hr;have hu:un=[]:=List.eq_nil_of_length_eq_zero hl;subst hu
  have hr0:Region.ready .any ops (lst x)=[]:=by
   apply List.eq_nil_iff_forall_not_mem.2;intro j hj;obtain⟨h1,o,ho,_⟩:=mem_ready.1 hj
   have hnd':¬Done (lst x) j:=fun h=>by
    unfold Done at h
    rw[Array.getD_eq_getD_getElem?,h]at h1;cases h1
   have:=(hun j).2 ⟨(Array.getElem?_eq_some_iff.1 ho).1,hnd'⟩;cases this
  exact⟨hr0,hend x ρ a w hr0 hr⟩
 | succ fuel ih =>
  intro x un ρ a w hl hnd hun hr;refine⟨fun h=>hend x ρ a w h hr,fun i hi=>?_⟩;obtain⟨o,ho,hg,hop⟩:=hstep x i hi;obtain⟨h1,o',ho',_⟩:=mem_ready.1 hi;have hilt:=(Array.getElem?_eq_some_iff.1 ho).1
  have hil:i<(lst x).size:=by rw[hsz];exact hilt
  have hnd':¬Done (lst x) i:=fun h=>by
   unfold Done at h
   rw[Array.getD_eq_getD_getElem?,h]at h1;cases h1
  unfold wpOp;rw[ho]
  have hw:Region.wanted o (yielded ops a.tmps)=true:=by
   unfold Region.wanted;rw[hg]
  show if _ then _ else _
  rw[if_pos hw];refine .inl (opE_ok ht hop B ρ o a w rfl rfl hr _ _ fun v s' H' ρ' w' hk hr' hle hlt=>?_);obtain⟨rfl,y,m,hy,hs⟩:=hk;obtain⟨ρ2,hr2⟩:=(hr'.put o.dst hlt).sub hbase hs;rw[←hy];refine ih y (un.erase i) ρ2 _ w' ?_ (hnd.erase i) (fun j=>?_) hr2
  ·have hm:=(hun i).2 ⟨hilt,hnd'⟩
   rw[List.length_erase_of_mem hm,hl];rfl
  ·rw[hnd.mem_erase_iff,hun j,hy,done_set hil];constructor
   ·rintro⟨h2,h3,h4⟩;exact⟨h3,fun h=>h.elim h4 h2⟩
   ·rintro⟨h2,h3⟩;exact⟨fun e=>h3 (.inr e),h2,fun h=>h3 (.inl h)⟩
theorem region_tree (ht:TOK C) (hm:C.P.follows .mixedOrders=true) {id:Nat} {ops:Array Oper} {Q:Ex→St→Hp→Prop} {α:Type} (T:α→St) (lst:α→Array Bool) (x0:α)
  (h0:∃m,Sub C m s (T x0)) (hl0:lst x0=Array.replicate ops.size false) (hsz:∀x,(lst x).size=ops.size)
  (hstep:∀x,∀i∈Region.ready .any ops (lst x),∃o,ops[i]?=some o∧o.guard=none∧opE C (T x) o.op o.type H fun v s' H'=>H'=H∧∃y m,lst y=(lst x).setIfInBounds i true∧Sub C m (s'.put C.n o.dst v) (T y))
  (hend:∀x,Region.ready .any ops (lst x)=[]→Q .normal (T x) H):RawCode C (.region id ops true) Q s H:=by
 intro B ρ a w hbase hr;refine wp_region_any hm ?_;obtain⟨m,hs⟩:=h0
 have hr1:Rel C B ρ s H a { w with drawn:=w.drawn+1 }:=⟨hr.env,hr.sz,hr.defers,hr.mem.step rfl rfl ⟨rfl,Nat.le_succ _⟩ (Nat.le_refl _) fun _ _=>rfl⟩
 obtain⟨ρ2,hr2⟩:=hr1.sub hbase hs
 have hno:∀i,¬Done (lst x0) i:=fun i h=>by
  unfold Done at h;rw[hl0,Array.getElem?_replicate]at h
  split at h<;>simp at h
 rw[←hl0];refine tree_any ht hbase T lst hsz hstep (fun x ρ a w h hr=>⟨.normal,T x,H,ρ,rfl,hend x h,hr,Le.refl H⟩) ops.size x0 (List.range ops.size) ρ2 a _ (by simp) List.nodup_range (fun i=>?_) hr2;rw[List.mem_range];exact⟨fun h=>⟨h,hno i⟩,fun h=>h.1⟩
end
end Go.Sy
end
section
namespace Go.Sy
open Go.RowKit (Below)
variable {B:Bs} {ρ:Rho} {H:Hp} {w:World}
open Classical in
noncomputable def frzH (ρ:Rho) (k:Nat) (b:Bx) (w:World) (H:Hp):Hp:=fun g=>if Owns ρ k b g then w.heap[g]? else H g
theorem frzH_in {k g:Nat} {b:Bx} (h:Owns ρ k b g):frzH ρ k b w H g=w.heap[g]?:=if_pos h
theorem frzH_out {k g:Nat} {b:Bx} (h:¬Owns ρ k b g):frzH ρ k b w H g=H g:=if_neg h
theorem Mem.frz {bx:List (Nat×Bx)} {nx k:Nat} {b:Bx} (hm:Mem B ρ bx nx H w) (hk:lk bx k=some b):Le H (frzH ρ k b w H)∧Mem B ρ ((k,.dead)::bx) nx (frzH ρ k b w H) w:=by
 have hle:Le H (frzH ρ k b w H):=fun g o hg=>by
  rw[frzH_out]
  ·exact hg
  ·intro ho;rw[(hm.own k b g hk ho).1]at hg;cases hg
 refine⟨hle,?_⟩;have hm1:Mem B ρ ((k,.dead)::bx) nx H w:=hm.write hk rfl rfl ⟨rfl,Nat.le_refl _⟩ (Nat.le_refl _) (fun _ _ _=>rfl) rfl trivial (fun g hg=>hg.elim);exact
 {os:=hm.os,tape:=hm.tape,output:=hm.output,size:=hm.size,frame:=hm.frame,base:=hm.base,agree:=hm.agree
  hp:=fun g o hg=>by
   by_cases ho:Owns ρ k b g
   ·rw[frzH_in ho]at hg;exact hg
   ·rw[frzH_out ho]at hg;exact hm.hp g o hg
  hle:=fun g o hg=>hle g o (hm.hle g o hg)
  hnew:=fun g h1 h2 h3=>by
   rw[frzH_out]
   ·exact hm.hnew g h1 h2 h3
   ·intro ho
    rcases (hm.own k b g hk ho).2 with h | h
    ·omega
    ·exact h3 h
  ok:=hm1.ok
  own:=fun j x g hj ho=>by
   rw[lk_cons]at hj;split at hj
   ·simp only[Option.some.injEq]at hj;subst hj;exact ho.elim
   ·rename_i hne;rw[frzH_out]
    ·exact hm.own j x g hj ho
    ·exact fun ho'=>hne (hm.disj k j b x g hk hj ho' ho)
  disj:=hm1.disj }
end Go.Sy
end
section
/- A region whose order is open, in which operations on the memory are in no order: each of their orders is gone through. -/
namespace Go.Sy
open Go.RowKit (Below)
def addL:List Oper→Nat→Nat→List Oper
 | [],_,_=>[]
 | o::r,0,i=>{ o with after:=o.after.push { on:=i,ground:=.data } }::r
 | o::r,j+1,i=>o::addL r j i
inductive Plan where
 | one (hs ord:List Nat)
 | two (i j:Nat) (p q:Plan)
def planOK (l:List Oper):Plan→Bool
 | .one _ ord=>drawOK l.toArray ord
 | .two i j p q=>i != j&&planOK (addL l j i) p&&planOK (addL l i j) q
noncomputable def planE (C:Cx) (Q:St→Hp→Prop) (p:Plan):List Oper→St→Hp→Prop :=
 Plan.rec (motive:=fun _=>List Oper→St→Hp→Prop) (fun hs ord l s H=>runDR C hs l Q ord s H) (fun i j _ _ ip iq l s H=>ip (addL l j i) s H∧iq (addL l i j) s H) p
theorem addL_at:∀(l:List Oper) (j i k:Nat),(addL l j i)[k]?=(l[k]?).map fun o=>if k=j then { o with after:=o.after.push { on:=i,ground:=.data } } else o
 | [],_,_,k=>by simp [addL]
 | o::r,0,i,0=>by simp [addL]
 | o::r,0,i,k+1=>by
  simp only[addL,List.getElem?_cons_succ]
  cases r[k]?<;>simp
 | o::r,j+1,i,0=>by simp [addL]
 | o::r,j+1,i,k+1=>by simp [addL,addL_at r j i k]
theorem addL_len:∀(l:List Oper) (j i:Nat),(addL l j i).length=l.length
 | [],_,_=>rfl
 | _::_,0,_=>rfl
 | _::r,j+1,i=>by simp [addL,addL_len r j i]
inductive Sched (ops:Array Oper):Nat→Array Bool→List Nat→Prop
 | nil {n:Nat} {listed:Array Bool} (h:Region.ready .any ops listed=[]):Sched ops n listed []
 | out {listed:Array Bool}:Sched ops 0 listed []
 | cons {n:Nat} {listed:Array Bool} {i:Nat} {l:List Nat} (h:i∈Region.ready .any ops listed) (hl:Sched ops n (listed.setIfInBounds i true) l):Sched ops (n+1) listed (i::l)
theorem sched_go (ops:Array Oper):∀(fuel t:Nat) (listed:Array Bool),Sched ops fuel listed (Region.linearise.go .any ops fuel t listed [])
 | 0,t,listed=>by
  simp only[Region.linearise.go,List.reverse_nil];exact .out
 | fuel+1,t,listed=>by
  simp only[Region.linearise.go]
  change Sched ops (fuel+1) listed (match (Region.ready .any ops listed)[t % (Region.ready .any ops listed).length]? with
   | some i=>Region.linearise.go .any ops fuel (t / (Region.ready .any ops listed).length) (listed.setIfInBounds i true) [i]
   | none=>[].reverse)
  cases hi:(Region.ready .any ops listed)[t % (Region.ready .any ops listed).length]? with
  | none =>
   have hnil:Region.ready .any ops listed=[]:=by
    cases hr:Region.ready .any ops listed with
    | nil=>rfl
    | cons x xs =>
     rw[hr]at hi;have hlt:t % (x::xs).length<(x::xs).length:=Nat.mod_lt _ (by simp);simp at hi;simp at hlt;omega
   exact .nil hnil
  | some i =>
   simp only[];rw[linearise_go_acc,List.reverse_singleton,List.singleton_append];exact .cons (List.mem_of_getElem? hi) (sched_go ops fuel _ _)
theorem sched_run {P:Program} {ops:Array Oper} {Q:Exit→Act→World→Prop} {n:Nat} {listed:Array Bool} {l:List Nat} (h:Sched ops n listed l):∀ {a:Act} {w:World},wpAny P .any ops Q n listed a w→wpOps P ops Q l a w:=by
 induction h with
 | @nil n listed h =>
  intro a w hw
  cases n with
  | zero=>exact hw.2
  | succ n=>exact hw.1 h
 | out=>exact fun hw=>hw.2
 | cons h hl ih =>
  intro a w hw;rw[wpOps_cons];exact wpOp_mono (fun a w=>ih) (hw.2 _ h)
def Before (i j:Nat) (l:List Nat):Prop:=∀pre post,l=pre++j::post→i∈pre
theorem before_or {i j:Nat} (hne:i≠j):∀l:List Nat,Before i j l∨Before j i l
 | []=>.inl fun pre post h=>by cases pre<;>cases h
 | x::r=>by
  by_cases hi:x=i
  ·refine .inl fun pre post h=>?_
   cases pre with
   | nil=>simp only[List.nil_append,List.cons.injEq]at h;exact absurd (hi.symm.trans h.1) hne
   | cons y pre=>simp only[List.cons_append,List.cons.injEq]at h;rw[←h.1,hi];exact List.mem_cons_self
  ·by_cases hj:x=j
   ·refine .inr fun pre post h=>?_
    cases pre with
    | nil=>simp only[List.nil_append,List.cons.injEq]at h;exact absurd h.1 hi
    | cons y pre=>simp only[List.cons_append,List.cons.injEq]at h;rw[←h.1,hj];exact List.mem_cons_self
   ·rcases before_or hne r with h | h
    ·refine .inl fun pre post e=>?_
     cases pre with
     | nil=>simp only[List.nil_append,List.cons.injEq]at e;exact absurd e.1 hj
     | cons y pre=>simp only[List.cons_append,List.cons.injEq]at e;exact List.mem_cons_of_mem _ (h pre post e.2)
    ·refine .inr fun pre post e=>?_
     cases pre with
     | nil=>simp only[List.nil_append,List.cons.injEq]at e;exact absurd e.1 hi
     | cons y pre=>simp only[List.cons_append,List.cons.injEq]at e;exact List.mem_cons_of_mem _ (h pre post e.2)
theorem ready_add {l:List Oper} {i j k:Nat} {listed:Array Bool}:k∈Region.ready .any (addL l j i).toArray listed↔k∈Region.ready .any l.toArray listed∧(k=j→listed.getD i false=true):=by
 simp only[Region.ready,List.mem_filter,List.mem_range,List.size_toArray,addL_len,List.getElem?_toArray,addL_at,Bool.and_eq_true]
 by_cases hlt:k<l.length
 ·simp only[List.getElem?_eq_getElem hlt,Option.map_some,Option.getD_some]
  by_cases hk:k=j
  ·simp only[hk,if_true,forall_const];simp only[Array.all_push,Bool.and_eq_true];constructor
   ·rintro⟨h1,h2,h3,h4⟩;refine⟨⟨h1,h2,h3⟩,?_⟩
    simpa [Region.binds] using h4
   ·rintro⟨⟨h1,h2,h3⟩,h4⟩;exact⟨h1,h2,h3,by simp [h4]⟩
  ·simp only[hk,if_false,false_implies,and_true]
 ·simp [hlt]
theorem sched_add {l:List Oper} {i j n:Nat} {listed:Array Bool} {r:List Nat} (h:Sched l.toArray n listed r) (hb:listed.getD i false=true∨Before i j r):Sched (addL l j i).toArray n listed r:=by
 induction h with
 | nil h =>
  refine .nil (List.eq_nil_iff_forall_not_mem.2 fun k hk=>?_);have:=(ready_add.1 hk).1
  rw[h]at this;cases this
 | out=>exact .out
 | @cons n listed k r h hl ih =>
  have hin:listed.getD k true=false:=by
   simp only[Region.ready,List.mem_filter,Bool.and_eq_true,Bool.not_eq_true']at h;exact h.2.1
  have hkl:k<listed.size:=by
   rcases Nat.lt_or_ge k listed.size with h | h
   ·exact h
   ·rw[Array.getD_eq_getD_getElem?,Array.getElem?_eq_none h]at hin;cases hin
  refine .cons (ready_add.2 ⟨h,fun e=>?_⟩) (ih ?_)
  ·rcases hb with hb | hb
   ·exact hb
   ·subst e;have:=hb [] r rfl;cases this
  ·rcases hb with hb | hb
   ·left
    rw[Array.getD_eq_getD_getElem?]at hb ⊢
    by_cases e:k=i
    ·subst e;rw[Array.getElem?_setIfInBounds_self_of_lt hkl];rfl
    ·rw[Array.getElem?_setIfInBounds_ne e];exact hb
   ·by_cases e:k=i
    ·subst e
     left
     rw[Array.getD_eq_getD_getElem?,Array.getElem?_setIfInBounds_self_of_lt hkl];rfl
    ·right
     intro pre post hr;have:=hb (k::pre) post (by rw[hr];rfl)
     rcases List.mem_cons.1 this with h2 | h2
     ·exact absurd h2.symm e
     ·exact h2
theorem wpOps_add {P:Program} {l:List Oper} {i j:Nat} {Q:Exit→Act→World→Prop}:∀(r:List Nat) {a:Act} {w:World},wpOps P (addL l j i).toArray Q r a w→wpOps P l.toArray Q r a w
 | [],a,w,h=>h
 | k::r,a,w,h=>by
  have hy:yielded (addL l j i).toArray a.tmps=yielded l.toArray a.tmps:=by
   funext g;unfold yielded
   have:((addL l j i).toArray[g]?).bind (·.dst)=(l.toArray[g]?).bind (·.dst):=by
    rw[List.getElem?_toArray,List.getElem?_toArray,addL_at]
    cases l[g]? with
    | none=>rfl
    | some o=>simp only[Option.map_some,Option.bind_some];split<;>rfl
   rw[this]
  rw[wpOps_cons]at h ⊢;unfold wpOp at h ⊢;rw[hy,List.getElem?_toArray,addL_at]at h;rw[List.getElem?_toArray]
  cases hk:l[k]? with
  | none=>rw[hk]at h;exact wpOps_add r h
  | some o =>
   rw[hk]at h;simp only[Option.map_some]at h ⊢
   have hw:∀x,Region.wanted (if k=j then { o with after:=o.after.push { on:=i,ground:=.data } } else o) x=Region.wanted o x:=fun x=>by split<;>rfl
   have hp:∀(a:Act) (w:World) N,Oper.wp P (if k=j then { o with after:=o.after.push { on:=i,ground:=.data } } else o) a w N Q=Oper.wp P o a w N Q:=fun a w N=>by
    split
    ·cases o;rfl
    ·rfl
   have ha:∀(a:Act) (w:World),Oper.asks P (if k=j then { o with after:=o.after.push { on:=i,ground:=.data } } else o) a w=Oper.asks P o a w:=fun a w=>by
    split
    ·cases o;rfl
    ·rfl
   have hd:(if k=j then { o with after:=o.after.push { on:=i,ground:=.data } } else o).dst=o.dst:=by split<;>rfl
   rw[hw,hp,ha,hd]at h;split
   ·rename_i hw1;rw[if_pos hw1]at h;exact h.imp (Oper.wp_mono fun a w=>wpOps_add r) id
   ·rename_i hw1;rw[if_neg hw1]at h;exact wpOps_add r h
section
variable {C:Cx} {B:Bs} {ρ:Rho} {s:St} {H:Hp} {a:Act} {w:World}
theorem plan_run (ht:TOK C) {Q:St→Hp→Prop}:∀(p:Plan) (l:List Oper),planOK l p=true→planE C Q p l s H→Rel C B ρ s H a w→∀r,Sched l.toArray l.length (Array.replicate l.length false) r →
  wpOps C.P l.toArray (Post C B H fun e s H=>match e with | .normal=>Q s H | _=>False) r a w
 | .one hs ord,l,hok,h,hr,r,hs'=>by
  have h:runDR C hs l Q ord s H:=h;rw[runDR_eq]at h;exact sched_run hs' (draw_start ht (ordOK_of hok) h hr)
 | .two i j p q,l,hok,h,hr,r,hs'=>by
  simp only[planOK,Bool.and_eq_true,bne_iff_ne]at hok;obtain⟨⟨h1,h2⟩,h3⟩:=hok;have h:planE C Q p (addL l j i) s H∧planE C Q q (addL l i j) s H:=h
  rcases before_or h1 r with hb | hb
  ·have:=sched_add hs' (.inr hb);exact wpOps_add r (plan_run ht p (addL l j i) h2 h.1 hr r (by rw[addL_len];exact this))
  ·have:=sched_add hs' (.inr hb);exact wpOps_add r (plan_run ht q (addL l i j) h3 h.2 hr r (by rw[addL_len];exact this))
theorem region_plan (ht:TOK C) (hm:C.P.follows .mixedOrders=true) {id:Nat} {ops:Array Oper} {Q:Ex→St→Hp→Prop} (p:Plan) {α:Type} (T:α→St) (I:α→Hp→Prop)
  (hok:planOK ops.toList p=true) (h:planE C (fun s' H'=>∃x m,Sub C m s' (T x)∧I x H') p ops.toList s H) (hq:∀x H',Le H H'→I x H'→Q .normal (T x) H'):RawCode C (.region id ops true) Q s H:=by
 intro B ρ a w hbase hr;refine wp_mono (Q:=Post C B H fun e s H=>match e with | .normal=>∃x m,Sub C m s (T x)∧I x H | _=>False) (wp_region_draw fun t=>?_) ?_
 ·have hr1:Rel C B ρ s H a { w with drawn:=w.drawn+1 }:=⟨hr.env,hr.sz,hr.defers,hr.mem.step rfl rfl ⟨rfl,Nat.le_succ _⟩ (Nat.le_refl _) fun _ _=>rfl⟩
  have hs:=sched_go ops ops.size t (Array.replicate ops.size false);simp only[Region.schedule,hm,Bool.true_or,if_true];exact plan_run ht p ops.toList hok h hr1 (Region.linearise.go .any ops ops.size t (Array.replicate ops.size false) []) (by simpa using hs)
 ·rintro e a w ⟨e0,s',H',ρ',rfl,h2,h3,h4⟩
  cases e0 with
  | normal =>
   obtain⟨x,m,hs,hi⟩:=h2;obtain⟨ρ2,hr2⟩:=h3.sub hbase hs;exact⟨.normal,T x,H',ρ2,rfl,hq x H' h4 hi,hr2,h4⟩
  | _=>exact h2.elim
end
end Go.Sy
end
section
/- A region whose order is open, read by an invariant: whatever is carried out next, the state is one of a family of states, and the memory is such as the family says. -/
namespace Go.Sy
open Go.RowKit (Below)
section
variable {C:Cx} {B:Bs} {ρ:Rho} {s:St} {H:Hp} {a:Act} {w:World}
theorem tree_anyM (ht:TOK C) (hbase:B.base=C.base) {ops:Array Oper} {α:Type} (T:α→St) (lst:α→Array Bool) (I:α→Hp→Prop) {H0:Hp} {Q:Exit→Act→World→Prop}
  (hsz:∀x,(lst x).size=ops.size)
  (hstep:∀x H,I x H→∀i∈Region.ready .any ops (lst x),∃o,ops[i]?=some o∧o.guard=none∧opE C (T x) o.op o.type H fun v s' H'=>∃y m,I y H'∧lst y=(lst x).setIfInBounds i true∧Sub C m (s'.put C.n o.dst v) (T y))
  (hend:∀x H (ρ:Rho) (a:Act) (w:World),I x H→Le H0 H→Region.ready .any ops (lst x)=[]→Rel C B ρ (T x) H a w→Q .normal a w):
  ∀(fuel:Nat) (x:α) (H:Hp) (un:List Nat) (ρ:Rho) (a:Act) (w:World),I x H→Le H0 H→un.length=fuel→un.Nodup→(∀i,i∈un↔i<ops.size∧¬Done (lst x) i)→Rel C B ρ (T x) H a w →
  wpAny C.P .any ops Q fuel (lst x) a w:=by
 intro fuel
 induction fuel with
 | zero =>
  intro x H un ρ a w hI h0 hl hnd hun hr;have hu:un=[]:=List.eq_nil_of_length_eq_zero hl;subst hu
  have hr0:Region.ready .any ops (lst x)=[]:=by
   apply List.eq_nil_iff_forall_not_mem.2;intro j hj;obtain⟨h1,o,ho,_⟩:=mem_ready.1 hj
   have hnd':¬Done (lst x) j:=fun h=>by
    unfold Done at h
    rw[Array.getD_eq_getD_getElem?,h]at h1;cases h1
   have:=(hun j).2 ⟨(Array.getElem?_eq_some_iff.1 ho).1,hnd'⟩;cases this
  exact⟨hr0,hend x H ρ a w hI h0 hr0 hr⟩
 | succ fuel ih =>
  intro x H un ρ a w hI h0 hl hnd hun hr;refine⟨fun h=>hend x H ρ a w hI h0 h hr,fun i hi=>?_⟩;obtain⟨o,ho,hg,hop⟩:=hstep x H hI i hi;obtain⟨h1,o',ho',_⟩:=mem_ready.1 hi;have hilt:=(Array.getElem?_eq_some_iff.1 ho).1
  have hil:i<(lst x).size:=by rw[hsz];exact hilt
  have hnd':¬Done (lst x) i:=fun h=>by
   unfold Done at h
   rw[Array.getD_eq_getD_getElem?,h]at h1;cases h1
  unfold wpOp;rw[ho]
  have hw:Region.wanted o (yielded ops a.tmps)=true:=by
   unfold Region.wanted;rw[hg]
  show if _ then _ else _
  rw[if_pos hw];refine .inl (opE_ok ht hop B ρ o a w rfl rfl hr _ _ fun v s' H' ρ' w' hk hr' hle hlt=>?_);obtain⟨y,m,hI',hy,hs⟩:=hk;obtain⟨ρ2,hr2⟩:=(hr'.put o.dst hlt).sub hbase hs;rw[←hy];refine ih y H' (un.erase i) ρ2 _ w' hI' (h0.trans hle) ?_ (hnd.erase i) (fun j=>?_) hr2
  ·have hm:=(hun i).2 ⟨hilt,hnd'⟩
   rw[List.length_erase_of_mem hm,hl];rfl
  ·rw[hnd.mem_erase_iff,hun j,hy,done_set hil];constructor
   ·rintro⟨h2,h3,h4⟩;exact⟨h3,fun h=>h.elim h4 h2⟩
   ·rintro⟨h2,h3⟩;exact⟨fun e=>h3 (.inr e),h2,fun h=>h3 (.inl h)⟩
theorem region_treeM (ht:TOK C) (hm:C.P.follows .mixedOrders=true) {id:Nat} {ops:Array Oper} {Q:Ex→St→Hp→Prop} {α:Type} (T:α→St) (lst:α→Array Bool) (I:α→Hp→Prop) (x0:α)
  (h0:∃m,Sub C m s (T x0)) (hI0:I x0 H) (hl0:lst x0=Array.replicate ops.size false) (hsz:∀x,(lst x).size=ops.size)
  (hstep:∀x H,I x H→∀i∈Region.ready .any ops (lst x),∃o,ops[i]?=some o∧o.guard=none∧opE C (T x) o.op o.type H fun v s' H'=>∃y m,I y H'∧lst y=(lst x).setIfInBounds i true∧Sub C m (s'.put C.n o.dst v) (T y))
  (hend:∀x H,I x H→Region.ready .any ops (lst x)=[]→Q .normal (T x) H):RawCode C (.region id ops true) Q s H:=by
 intro B ρ a w hbase hr;refine wp_region_any hm ?_;obtain⟨m,hs⟩:=h0
 have hr1:Rel C B ρ s H a { w with drawn:=w.drawn+1 }:=⟨hr.env,hr.sz,hr.defers,hr.mem.step rfl rfl ⟨rfl,Nat.le_succ _⟩ (Nat.le_refl _) fun _ _=>rfl⟩
 obtain⟨ρ2,hr2⟩:=hr1.sub hbase hs
 have hno:∀i,¬Done (lst x0) i:=fun i h=>by
  unfold Done at h;rw[hl0,Array.getElem?_replicate]at h
  split at h<;>simp at h
 rw[←hl0];refine tree_anyM ht hbase T lst I (H0:=H) hsz hstep (fun x H' ρ a w hI hle h hr=>⟨.normal,T x,H',ρ,rfl,hend x H' hI h,hr,hle⟩) ops.size x0 H (List.range ops.size) ρ2 a _ hI0 (Le.refl H) (by simp) List.nodup_range (fun i=>?_) hr2;rw[List.mem_range];exact⟨fun h=>⟨h,hno i⟩,fun h=>h.1⟩
end
end Go.Sy
end
section
namespace Go.Sy
open Go.RowKit (Below)
end Go.Sy
end
section
namespace Go.Sy
open Go.RowKit (Below)
theorem NewAt.fresh {e:TypeId} {sz:Nat} {xs:List (List Value)} {H H2:Hp} {x:Value} (h:NewAt e sz xs H x H2) {g:Nat} (hg:x.ownBlock=some g):H g=none∧∃o,H2 g=some o:=by
 rcases h with ⟨h1,_⟩ | ⟨g',cap,c,h1,h2,h3,_⟩
 ·rw[h1]at hg;cases hg
 ·rw[h1]at hg;simp only[Value.ownBlock,Option.some.injEq]at hg;subst hg;exact⟨h2,_,h3⟩
end Go.Sy
end
