/- Part 'M29' of the proof (Pr6, Pr7, Pr8, Pr9, Mg0, Mg1): lemmas, each with its own conditions in its own statement. -/
import Derived.Test.YtheokcjommfopaaGreatDoorM15
import Derived.Test.YtheokcjommfopaaGreatDoorM22
import Derived.Test.YtheokcjommfopaaGreatDoorM26
import Derived.Test.YtheokcjommfopaaGreatDoorM28
set_option maxRecDepth 20000
set_option maxHeartbeats 4000000
section
namespace Go.Proofs
open Go.Sy
open Tryz
variable {H:Hp} {K:Value→Hp→Prop}
def cm (q:Prog) (R:List Int) (i:Nat):Prog:=((List.range i).filter fun (k:Nat)=>decide ((k:Int)∈R)).filterMap fun (k:Nat)=>q[k]?
theorem xv {q:Prog} {R:List Int} {i:Nat} {b:Block} (h:q[i]?=some b):cm q R (i+1)=cm q R i++(if (i:Int)∈R then [b] else []):=by
 rw[cm,List.range_succ,List.filter_append,List.filterMap_append,←cm]
 congr 1
 by_cases e:(i:Int)∈R
 ·rw[if_pos e];simp [e,h]
 ·rw[if_neg e];simp [e]
theorem pZ (q:Prog) (R:List Int) (i:Nat):(cm q R i).length≤i:=by
 rw[cm];refine Nat.le_trans (List.length_filterMap_le _ _) ?_;have:=List.length_filter_le (fun (k:Nat)=>decide ((k:Int)∈R)) (List.range i);rwa[List.length_range]at this
theorem cB (p:Prog):(aP p).length=p.length:=List.length_map _
theorem uL {p:Prog} (hp:p.length≤12) (hl:∀b∈p,b.2.1.length≤1000000) (hc:aw p≤1000000) (hv:iE p<400000) {a:Option Addr} {n c:Nat} (ha:RL H a n c p)
  (fK:al p≠0→∀H',Le H H'→K (.tuple #[.agg #[.slice none 0 0],.int .i64 (al p)]) H')
  (hK:al p=0→∀v css R H3 H',Le H H3→bD R→cy (p.length:Nat) (aR (aG (aP p))) [0] R→RC (α:=Block) H3 css (cm (aP p) R p.length)→qp 66 8 css H3 v H'→aW H' v 8 css→K (.tuple #[.agg #[v],.int .i64 0]) H'):aq prog 75 [.agg #[.slice a n c]] H K:=by
 refine ab af aa rfl func75 call75 ntmps75 results75 rfl rfl ?_;refine Ga (by omega) hl hc hv ha (fun he H1 ak=>?_) (fun he a1 n1 c1 H1 ak bh=>?_)
 ·refine⟨fun h=>?_,fun h=>?_⟩
  ·exact fK he H1 ak
  ·exact absurd (nf h) he
 ·have hK:=hK he;refine⟨fun h=>by simp at h,fun _=>?_⟩;have dd:=bh.aB;rw[cB]at dd
  have gq:(aR (aG (aP p))).length≤100000:=by
   have h1:=dP (aG (aP p));have h2:(aG (aP p)).length≤2*(aP p).length:=fa _ _ 0;rw[cB]at h2;omega
  refine⟨none,?_⟩
  refine bH (α:=Option Addr×Nat×Nat×List Int) ?_ ?_ (.two 4 5 (.one [3] [0,1,2,3,4,5,6,7]) (.one [3] [0,1,2,3,5,4,6,7]))
   (fun z=>⟨[(2,.ptr 0 0),(4,.ptr 1 0),(6,.v (.slice z.1 z.2.1 z.2.2.1))],[(0,.cells 24 [.v (.slice none 0 0)]),(1,.cells 24 [.v (.slice a1 n1 c1)])],2⟩)
   (fun z H'=>Le H1 H'∧RL H' z.1 z.2.1 z.2.2.1 z.2.2.2∧bD z.2.2.2∧cy (n1:Nat) (aR (aG (aP p))) [0] z.2.2.2) (by kernel_rfl) ⟨?_,?_⟩ ?_
  ·exact⟨af.tt,af.eqs⟩
  ·exact aa
  ·refine cI (by rw[cB];exact hp) bh fun a2 n2 c2 H2 ah bj=>?_
   intro x H3 az hx;obtain⟨a3,n3,c3,rfl,db⟩:=lY (l:=[0]) hx (fun z hz=>by rw[List.mem_singleton]at hz;rw[hz];exact⟨by omega,by omega⟩)
   refine sk (m:=(n1:Nat)) (by omega) gq (by simp) (bj.up az.le) db fun a4 n4 c4 R H4 aN fm hS hR=>?_
   refine⟨(a4,n4,c4,R),[(0,1),(1,2)],?_,(ah.trans az.le).trans aN,fm,hS,hR⟩
   (repeat' first|exact trivial|refine⟨?_,?_⟩|exact rfl|assumption)
  ·refine cI (by rw[cB];exact hp) bh fun a2 n2 c2 H2 ah bj=>?_
   intro x H3 az hx;obtain⟨a3,n3,c3,rfl,db⟩:=lY (l:=[0]) hx (fun z hz=>by rw[List.mem_singleton]at hz;rw[hz];exact⟨by omega,by omega⟩)
   refine sk (m:=(n1:Nat)) (by omega) gq (by simp) (bj.up az.le) db fun a4 n4 c4 R H4 aN fm hS hR=>?_
   refine⟨(a4,n4,c4,R),[(0,1),(1,2)],?_,(ah.trans az.le).trans aN,fm,hS,hR⟩
   (repeat' first|exact trivial|refine⟨?_,?_⟩|exact rfl|assumption)
  rintro⟨a4,n4,c4,R⟩ H4 _ ⟨aN,fm,hS,hR⟩;dsimp only at fm hS hR;have hle:=ak.trans aN;have MO:=bh.up aN;rw[dd]at hR
  refine aD (aP p) fun q hq=>?_
  have F9:q.length=p.length:=by rw[hq,cB]
  rw[←hq]at MO hR hK
  refine⟨Nat×List (List Value),fun z=>⟨[(2,.ptr 0 0),(6,.v (.slice a4 n4 c4)),(7,.ptr 1 0),(27,.v (.slice a1 n1 c1)),(28,.v (.int .i64 n1)),(29,.v (.int .i64 z.1))],
    [(0,.cells 24 [.v (.slice none 0 0)]),(1,.cells 24 [.own 2]),(2,.row 66 8 z.2)],3⟩,
   fun z H'=>H'=H4∧z.1≤q.length∧RC (α:=Block) H4 z.2 (cm q R z.1),fun z=>q.length - z.1,⟨(0,[]),[(0,0),(1,2)],?_,rfl,Nat.zero_le _,RC.nil⟩,?_⟩
  ·(repeat' first|exact trivial|refine⟨?_,?_⟩|exact rfl|assumption)
  rintro⟨i,css⟩ H5 _ ⟨rfl,hi,bf⟩;dsimp only at hi bf;have e8:=pZ q R i;have fC:css.length=(cm q R i).length:=bf.1;refine⟨fun h=>?_,fun h=>?_⟩
  ·have aj:i<q.length:=by have:=dt h;dsimp only at this;omega
   refine aD q[i] fun b gV=>?_
   have bG:q[i]?=some b:=by rw[gV];exact aL aj
   have Ve:=xv (R:=R) bG
   refine bF MO bG fun ad a5 n5 c5 q1 hh ct xw vR=>?_
   refine⟨ad,⟨by dsimp only;omega,by dsimp only;omega,q1⟩,?_⟩;refine⟨_,hh,?_⟩;refine kO fm ?_;refine⟨fun h=>?_,fun h=>?_⟩
   ·have hm:(i:Int)∈R:=dt h;rw[if_pos hm]at Ve;refine⟨⟨by show (css.length+1)*112≤140737488355328;omega,by show css.length+1≤9223372036854775807;omega⟩,?_⟩
    have b8:RC (α:=Block) H5 (css++[Value.string (bs b.1.l) :: .slice a5 n5 c5::dg b.2.2]) (cm q R (i+1)):=by
     rw[Ve];exact bf.snoc (dD ct xw vR)
    refine⟨⟨by dsimp only;omega,by dsimp only;omega⟩,(i+1,css++[Value.string (bs b.1.l) :: .slice a5 n5 c5::dg b.2.2]),[(0,0),(1,1),(2,5)],?_,⟨rfl,aj,b8⟩,by dsimp only;omega⟩
    (repeat' first|exact trivial|refine⟨?_,?_⟩|exact rfl|assumption)
   ·have hm:¬(i:Int)∈R:=df h;rw[if_neg hm,List.append_nil]at Ve;refine⟨⟨by dsimp only;omega,by dsimp only;omega⟩,(i+1,css),[(0,0),(1,1),(2,2)],?_,⟨rfl,aj,by rw[Ve];exact bf⟩,by dsimp only;omega⟩
    (repeat' first|exact trivial|refine⟨?_,?_⟩|exact rfl|assumption)
  ·have aX:i=p.length:=by have:=df h;dsimp only at this;omega
   rw[aX]at bf;intro v H6 aI cZ;exact hK v css R H5 H6 hle hS hR bf aI cZ
theorem Gl {p:Prog} (hp:p.length≤12) (hl:∀b∈p,b.2.1.length≤1000000) (hc:aw p≤1000000) (hv:iE p<400000) {a:Option Addr} {n c:Nat} (ha:RL H a n c p)
  (fK:al p≠0→∀H',Le H H'→K (.tuple #[.agg #[.slice none 0 0],.int .i64 (al p)]) H')
  (hK:al p=0→∀a1 n1 c1 R H',Le H H'→bD R→cy (p.length:Nat) (aR (aG (aP p))) [0] R→RL H' a1 n1 c1 (cm (aP p) R p.length)→K (.tuple #[.agg #[.slice a1 n1 c1],.int .i64 0]) H'):aq prog 75 [.agg #[.slice a n c]] H K:=by
 refine uL hp hl hc hv ha fK fun he v css R H3 H' hle hS hR bf ah hv=>?_
 obtain⟨a7,n7,c7,rfl,dz⟩:=RL.aC (α:=Block) hv (bf.up ah.le);exact hK he _ _ _ R _ (hle.trans ah.le) hS hR dz
end Go.Proofs
end
section
namespace Go.Proofs
open Go.Sy
open Tryz
def mG (q:Prog) (R:List Int):Prog:=R.filterMap fun (x:Int)=>q[x.toNat]?
theorem Gm {q:Prog} {R:List Int} {i:Nat} {x:Int} {b:Block} (hx:R[i]?=some x) (hb:q[x.toNat]?=some b):mG q (R.take (i+1))=mG q (R.take i)++[b]:=by
 rw[mG,List.take_add_one,hx,Option.toList_some,List.filterMap_append,←mG]
 congr 1
 simp [hb]
theorem J2 (q:Prog) (R:List Int):(mG q R).length≤R.length:=List.length_filterMap_le _ _
theorem DI {q:Prog} {R:List Int} (hs:bD R) (hR:∀x∈R,0≤x∧x<(q.length:Nat)):cm q R q.length=mG q R:=by
 have h1:((List.range q.length).filter fun (k:Nat)=>decide ((k:Int)∈R)).map (fun (k:Nat)=>(k:Int))=R:=by
  refine jd ?_ hs fun x=>?_
  ·have h2:((List.range q.length).filter fun (k:Nat)=>decide ((k:Int)∈R)).Pairwise (·<·):=List.Pairwise.filter _ List.pairwise_lt_range;exact List.pairwise_map.2 (h2.imp fun {a b} h=>by show (a:Int)<(b:Int);omega)
  ·simp only[List.mem_map,List.mem_filter,List.mem_range,decide_eq_true_eq];constructor
   ·rintro⟨k,⟨_,h2⟩,rfl⟩;exact h2
   ·intro hx;obtain⟨h2,h3⟩:=hR x hx;exact⟨x.toNat,⟨by omega,by rwa[Int.toNat_of_nonneg h2]⟩,Int.toNat_of_nonneg h2⟩
 rw[mG,←h1,List.filterMap_map,cm,h1]
 rfl
theorem J3 {m:Int} {l:List cV} {f R:List Int} (hs:bD R) (h:cy m l f R):(R.length:Int)≤m.toNat:=by
 have h1:R.Nodup:=nD hs
 have h2:R ⊆ (List.range m.toNat).map (fun (k:Nat)=>(k:Int)):=fun x hx=>by
  have:=dt (h.node x hx);exact List.mem_map.2 ⟨x.toNat,List.mem_range.2 (by omega),Int.toNat_of_nonneg this.1⟩
 have h3:=List.Nodup.length_le_of_subset h1 h2;rw[List.length_map,List.length_range]at h3;omega
theorem so {P:Prop} {H:Hp} {a:Option Addr} {n c:Nat} {xs:Prog} (h:RL H a n c xs) {j:Int} (h0:0≤j) {x:Block} (hi:xs[j.toNat]?=some x) (k:∀ad a1 n1 c1,a=some ad→jz H ad j 8 [.string (bs x.1.l),.slice a1 n1 c1,.int .i64 x.2.2.1,.string (bs x.2.2.2.1.1.l),.int .i64 x.2.2.2.1.2.1,.int .i64 x.2.2.2.1.2.2,.string (bs x.2.2.2.2.1.l),.string (bs x.2.2.2.2.2.l)]→RL H a1 n1 c1 x.2.1→sR x.1→gi x.2.2→P):P :=
 bF h hi fun ad a1 n1 c1 e he h1 h2 h3=>k ad a1 n1 c1 e (by rwa[Int.toNat_of_nonneg h0]at he) h1 h2 h3
theorem xx {p:Prog} (hp:p.length≤12) {a:Option Addr} {n c:Nat} {H:Hp} {K:Value→Hp→Prop} (ha:RL H a n c p)
  (hK:∀a1 n1 c1 R H',Le H H'→bD R→cy (p.length:Nat) (aR (aG (aP p))) [0] R→RL H' a1 n1 c1 (mG (aP p) R)→K (.agg #[.slice a1 n1 c1]) H'):aq prog 43 [.agg #[.slice a n c]] H K:=by
 refine ab af aa rfl func43 call43 ntmps43 results43 rfl rfl ?_
 refine Gb (by omega) ha fun a1 n1 c1 H1 ak bh=>?_
 have dd:=bh.aB;rw[cB]at dd
 have gq:(aR (aG (aP p))).length≤100000:=by
  have h1:=dP (aG (aP p));have h2:(aG (aP p)).length≤2*(aP p).length:=fa _ _ 0;rw[cB]at h2;omega
 refine⟨none,?_⟩
 refine bH (α:=Option Addr×Nat×Nat×List Int) ?_ ?_ (.two 4 5 (.one [4] [0,1,2,3,8,4,5,6,7]) (.one [4] [0,1,2,3,8,5,4,6,7]))
  (fun z=>⟨[(2,.ptr 0 0),(3,.ptr 1 0),(4,.ptr 2 0),(15,.v (.slice z.1 z.2.1 z.2.2.1)),(16,.v (.int .i64 z.2.1)),(17,.v (.int .i64 0))],[(0,.cells 24 [.v (.slice none 0 0)]),(1,.cells 24 [.v (.slice a1 n1 c1)]),(2,.cells 24 [.v (.slice none 0 0)])],3⟩)
  (fun z H'=>Le H1 H'∧RL H' z.1 z.2.1 z.2.2.1 z.2.2.2∧bD z.2.2.2∧cy (n1:Nat) (aR (aG (aP p))) [0] z.2.2.2) (by kernel_rfl) ⟨?_,?_⟩ ?_
 ·exact⟨af.tt,af.eqs⟩
 ·exact aa
 ·refine cw (by rw[cB];exact hp) bh fun a2 n2 c2 H2 ah bj=>?_
  intro x H3 az hx;obtain⟨a3,n3,c3,rfl,db⟩:=lY (l:=[0]) hx (fun z hz=>by rw[List.mem_singleton]at hz;rw[hz];exact⟨by omega,by omega⟩)
  refine qx (m:=(n1:Nat)) (by omega) (by omega) gq (by simp) (bj.up az.le) db fun a4 n4 c4 R H4 aN fm hS hR=>?_
  refine⟨(a4,n4,c4,R),[(0,1),(1,2),(2,3)],?_,(ah.trans az.le).trans aN,fm,hS,hR⟩
  (repeat' first|exact trivial|refine⟨?_,?_⟩|exact rfl|assumption)
 ·refine cw (by rw[cB];exact hp) bh fun a2 n2 c2 H2 ah bj=>?_
  intro x H3 az hx;obtain⟨a3,n3,c3,rfl,db⟩:=lY (l:=[0]) hx (fun z hz=>by rw[List.mem_singleton]at hz;rw[hz];exact⟨by omega,by omega⟩)
  refine qx (m:=(n1:Nat)) (by omega) (by omega) gq (by simp) (bj.up az.le) db fun a4 n4 c4 R H4 aN fm hS hR=>?_
  refine⟨(a4,n4,c4,R),[(0,1),(1,2),(2,3)],?_,(ah.trans az.le).trans aN,fm,hS,hR⟩
  (repeat' first|exact trivial|refine⟨?_,?_⟩|exact rfl|assumption)
 rintro⟨a4,n4,c4,R⟩ H4 _ ⟨aN,fm,hS,hR⟩;dsimp only at fm hS hR;have Vf:=fm.aB;have hle:=ak.trans aN;have MO:=bh.up aN;rw[dd]at hR;have Y2:=J3 hS hR
 refine aD (aP p) fun q hq=>?_
 have F9:q.length=p.length:=by rw[hq,cB]
 rw[←hq]at MO hR hK
 refine⟨Nat×List (List Value),fun z=>⟨[(2,.ptr 0 0),(3,.ptr 1 0),(4,.ptr 2 0),(15,.v (.slice a4 n4 c4)),(16,.v (.int .i64 n4)),(17,.v (.int .i64 z.1))],
   [(0,.cells 24 [.v (.slice none 0 0)]),(1,.cells 24 [.v (.slice a1 n1 c1)]),(2,.cells 24 [.own 3]),(3,.row 66 8 z.2)],4⟩,
  fun z H'=>H'=H4∧z.1≤R.length∧RC (α:=Block) H4 z.2 (mG q (R.take z.1)),fun z=>R.length - z.1,⟨(0,[]),[(0,0),(1,1),(2,2)],?_,rfl,Nat.zero_le _,RC.nil⟩,?_⟩
 ·(repeat' first|exact trivial|refine⟨?_,?_⟩|exact rfl|assumption)
 rintro⟨i,css⟩ H5 _ ⟨rfl,hi,bf⟩;dsimp only at hi bf;have fC:css.length=(mG q (R.take i)).length:=bf.1;have e8:=J2 q (R.take i);rw[List.length_take]at e8;refine⟨fun h=>?_,fun h=>?_⟩
 ·have aj:i<R.length:=by have:=dt h;dsimp only at this;omega
  refine aD R[i] fun x hx=>?_
  have oi:R[i]?=some x:=by rw[hx];exact aL aj
  have O6:=dt (hR.node x (by rw[hx];exact List.getElem_mem aj))
  have Qj:x.toNat<q.length:=by omega
  refine aD q[x.toNat] fun b gV=>?_
  have bG:q[x.toNat]?=some b:=by rw[gV];exact aL Qj
  refine xo fm oi fun ad e1 hh=>?_
  refine⟨ad,⟨by dsimp only;omega,by dsimp only;omega,e1⟩,?_⟩;refine⟨_,hh,?_⟩;refine⟨some ([2,3],[0,1,2,3,4,5,6,7,8,9,10]),by kernel_rfl,?_⟩
  refine so MO O6.1 bG fun ad a5 n5 c5 q1 hh ct xw vR=>?_
  refine⟨ad,⟨by omega,by omega,q1⟩,?_⟩;refine⟨_,hh,?_⟩;refine⟨⟨by show (css.length+1)*112≤140737488355328;omega,by show css.length+1≤9223372036854775807;omega⟩,?_⟩
  have b8:RC (α:=Block) H5 (css++[Value.string (bs b.1.l) :: .slice a5 n5 c5::dg b.2.2]) (mG q (R.take (i+1))):=by
   rw[Gm oi bG];exact bf.snoc (dD ct xw vR)
  refine⟨⟨by dsimp only;omega,by dsimp only;omega⟩,(i+1,css++[Value.string (bs b.1.l) :: .slice a5 n5 c5::dg b.2.2]),[(0,0),(1,1),(2,2),(3,5)],?_,⟨rfl,aj,b8⟩,by dsimp only;omega⟩
  (repeat' first|exact trivial|refine⟨?_,?_⟩|exact rfl|assumption)
 ·have aX:i=R.length:=by have:=df h;dsimp only at this;omega
  rw[aX,List.take_length]at bf;intro v H6 aI cZ;obtain⟨a7,n7,c7,rfl,dz⟩:=RL.aC (α:=Block) cZ (bf.up aI.le);exact hK _ _ _ R _ (hle.trans aI.le) hS hR dz
end Go.Proofs
end
section
namespace Go.Proofs
open Go.Sy
end Go.Proofs
end
section
namespace Go.Proofs
open Go.Sy
theorem DJ {p:Prog} (h:FO p):aw p≤1000000:=by
 have h1:∀q:Prog,(∀b∈q,vI b)→aw q≤12*q.length:=by
  intro q
  induction q with
  | nil=>exact fun _=>Nat.le_refl _
  | cons b r ih =>
   intro hq
   have h2:=ih fun b hb=>hq b (List.mem_cons_of_mem _ hb)
   have h3:=(hq b List.mem_cons_self).1.1;simp only[aw,List.map_cons,List.sum_cons,List.length_cons]at h2 ⊢;omega
 have:=h1 p h.2;have:=h.1;omega
theorem J4 {p:Prog} (h:FO p):iE p<400000:=by
 have h1:∀q:Prog,(∀b∈q,vI b)→iE q≤37*q.length:=by
  intro q
  induction q with
  | nil=>exact fun _=>Nat.le_refl _
  | cons b r ih =>
   intro hq
   have h2:=ih fun b hb=>hq b (List.mem_cons_of_mem _ hb)
   have h3:=(hq b List.mem_cons_self).1.1;simp only[iE,List.map_cons,List.sum_cons,List.length_cons]at h2 ⊢;omega
 have:=h1 p h.2;have:=h.1;omega
end Go.Proofs
end
section
namespace Go.Proofs
open Go.Sy
theorem DK {p:Prog}:∀(l:List Block) (i:Nat),∀e∈cO p l i,(i:Int)≤e.1∧e.1<i+l.length
 | [],_,e,he=>by simp [cO]at he
 | b::r,i,e,he=>by
  rw[cO]at he;rw[List.length_cons]
  have hN:∀t,e∈eN p i t→e.1=i:=fun t h=>by
   unfold eN at h;split at h
   ·simp only[List.mem_cons,List.not_mem_nil,or_false]at h;rw[h]
   ·cases h
  rcases List.mem_append.1 he with he | he
  ·unfold eB at he
   have:e.1=i:=by
    rcases List.mem_append.1 he with he | he
    ·split at he
     ·exact hN _ he
     ·cases he
    ·split at he
     ·exact hN _ he
     ·cases he
   omega
  ·have:=DK r (i+1) e he;omega
def mH (q:Prog) (t:Int):Nat:=(aR (aG q)).countP fun e=>decide (e.2=t)
theorem Gn {q:Prog} {t:Int} (ht:0≤t∧t<(q.length:Nat)):(aR (lF (q.length:Nat) t (aR (iZ (aR (aG q)))))).length=mH q t:=by
 have hS:(aR (aG q)).Nodup:=nD (kh _)
 have hA:(((aR (aG q)).filter fun e=>decide (e.2=t)).map (·.1)).Nodup:=by
  have h1:=hS.filter (fun e=>decide (e.2=t));refine List.pairwise_map.2 (List.Pairwise.imp_of_mem ?_ h1);intro x y hx hy cu e;have h2:=dt (List.mem_filter.1 hx).2;have h3:=dt (List.mem_filter.1 hy).2;exact cu (Prod.ext e (h2.trans h3.symm))
 have hB:(aR (lF (q.length:Nat) t (aR (iZ (aR (aG q)))))).Nodup:=nD (kh _)
 have hp:=(List.perm_ext_iff_of_nodup hB hA).2 fun y=>?_
 ·rw[hp.length_eq,List.length_map,mH,List.countP_eq_length_filter]
 ·rw[bJ,lG,bJ];simp only[List.mem_map,List.mem_filter,decide_eq_true_eq];constructor
  ·rintro⟨⟨e,he,h1⟩,_,_⟩;obtain⟨rfl,rfl⟩:=Prod.ext_iff.1 h1;exact⟨e,⟨he,rfl⟩,rfl⟩
  ·rintro⟨e,⟨he,rfl⟩,rfl⟩;have h2:=DK (p:=q) q 0 e ((bJ _ _).1 he);exact⟨⟨e,he,rfl⟩,decide_eq_true ht,decide_eq_true ⟨by omega,by omega⟩⟩
def zJ (q:Prog) (b:Block):Int:=bw b.2.2.2.2.1.l (lE q) 0
def Iq (q:Prog) (a:Nat) (b:Block):Bool:=decide (b.2.2.1=1)&&decide (0<zJ q b)&&!decide (zJ q b=(a:Int))&&decide (mH q (zJ q b)=1)
def MP (q:Prog) (a:Nat):Option (Nat×Nat):=match q[a]? with
 | some b=>if Iq q a b then some (a,(zJ q b).toNat) else none
 | none=>none
def fL (q:Prog) (i:Nat):Option (Nat×Nat):=(List.range i).findSome? (MP q)
theorem ij (q:Prog) (i:Nat):fL q (i+1)=(fL q i).or (MP q i):=by
 rw[fL,List.range_succ,List.findSome?_append,←fL];simp
def ja (q:Prog):Option (Nat×Nat):=fL q q.length
theorem zK {q:Prog} {i:Nat} {x:Nat×Nat} (h:fL q (i+1)=some x):∀j,fL q (i+1+j)=some x
 | 0=>h
 | j+1=>by rw[←Nat.add_assoc,ij,zK h j];rfl
theorem DL {q:Prog} {i:Nat} (hi:i<q.length) {x:Nat×Nat} (h0:fL q i=none) (h:MP q i=some x):ja q=some x:=by
 have h1:fL q (i+1)=some x:=by rw[ij,h0,h];rfl
 have:=zK h1 (q.length - (i+1));rwa[show i+1+(q.length - (i+1))=q.length by omega]at this
theorem p5 (q:Prog) (b:Block):zJ q b = -1∨(0≤zJ q b∧zJ q b<(q.length:Nat)):=by
 have:=fG b.2.2.2.2.1.l (lE q) 0 (Int.le_refl 0);rw[List.length_map]at this
 rcases this with h | ⟨h1,h2⟩
 ·exact .inl h
 ·exact .inr ⟨h1,by rw[zJ];omega⟩
theorem MQ {q:Prog} {i a t:Nat} (h:MP q i=some (a,t)):a=i∧t≠a∧t<q.length∧a<q.length:=by
 unfold MP at h;split at h
 ·rename_i b hb;split at h
  ·rename_i ca;simp only[Iq,Bool.and_eq_true,decide_eq_true_eq,Bool.not_eq_true',decide_eq_false_iff_not]at ca;simp only[Option.some.injEq,Prod.mk.injEq]at h;obtain⟨rfl,rfl⟩:=h;have hr:=p5 q b;have:=(gh.1 hb).1;omega
  ·cases h
 ·cases h
theorem jH {q:Prog} {a t:Nat}:∀ {i:Nat},fL q i=some (a,t)→t≠a∧t<q.length∧a<q.length
 | 0,h=>by cases h
 | i+1,h=>by
  rw[ij]at h
  cases h1:fL q i with
  | some x=>rw[h1]at h;cases h;exact jH h1
  | none=>rw[h1]at h;exact (MQ (i:=i) h).2
def ft (x y:Block):Block:=(x.1,x.2.1++y.2.1,y.2.2)
def ej (q:Prog) (a t:Nat):Prog:=match q[a]?,q[t]? with
 | some x,some y=>(q.set a (ft x y)).eraseIdx t
 | _,_=>q
theorem mI {q:Prog} {a t:Nat} {x y:Block} (hx:q[a]?=some x) (hy:q[t]?=some y):ej q a t=(q.set a (ft x y)).eraseIdx t:=by rw[ej,hx,hy]
theorem jm {q:Prog} {a t:Nat} (ht:t<q.length) (ha:a<q.length):(ej q a t).length+1=q.length:=by
 rw[mI (aL ha) (aL ht),List.length_eraseIdx,List.length_set,if_pos ht];omega
theorem Bl (f:Block→Nat):∀ {l:Prog} {i:Nat} {x y:Block},l[i]?=some x→((l.set i y).map f).sum+f x=(l.map f).sum+f y
 | [],_,_,_,h=>by cases h
 | b::r,0,x,y,h=>by
  simp only[List.getElem?_cons_zero,Option.some.injEq]at h;subst h
  simp;omega
 | b::r,i+1,x,y,h=>by
  have:=Bl f (l:=r) (i:=i) (y:=y) (by simpa using h)
  simp only[List.set_cons_succ,List.map_cons,List.sum_cons];omega
theorem tK (f:Block→Nat):∀ {l:Prog} {i:Nat} {x:Block},l[i]?=some x→((l.eraseIdx i).map f).sum+f x=(l.map f).sum
 | [],_,_,h=>by cases h
 | b::r,0,x,h=>by
  simp only[List.getElem?_cons_zero,Option.some.injEq]at h;subst h
  simp;omega
 | b::r,i+1,x,h=>by
  have:=tK f (l:=r) (i:=i) (by simpa using h)
  simp only[List.eraseIdx_cons_succ,List.map_cons,List.sum_cons];omega
theorem lH {q:Prog} {a t:Nat} (cu:t≠a) (ht:t<q.length) (ha:a<q.length):aw (ej q a t)=aw q:=by
 have hx:=aL ha;have hy:=aL ht;rw[mI hx hy];have h1:=Bl (fun b=>b.2.1.length) (y:=ft q[a] q[t]) hx;have h2:=tK (fun b=>b.2.1.length) (l:=q.set a (ft q[a] q[t])) (i:=t) (x:=q[t]) (by rw[List.getElem?_set_ne (Ne.symm cu),hy]);have h3:(ft q[a] q[t]).2.1.length=q[a].2.1.length+q[t].2.1.length:=List.length_append;show (List.map _ _).sum=(List.map _ _).sum;rw[h3]at h1;omega
theorem sq {q:Prog} {i:Nat} {b:Block} (h:q[i]?=some b):b.2.1.length≤aw q:=by
 have:=tK (fun b=>b.2.1.length) h;show _≤(List.map _ _).sum;omega
inductive E7:Prog→Prog→Prop
 | stop {q:Prog} (h:ja q=none):E7 q q
 | step {q r:Prog} {a t:Nat} (h:ja q=some (a,t)) (hr:E7 (ej q a t) r):E7 q r
theorem E7.one {q r s:Prog} (h:E7 q r):E7 q s→r=s:=by
 induction h with
 | stop h=>intro h2;cases h2 with
  | stop _=>rfl
  | step h3 _=>rw[h]at h3;cases h3
 | step h _ ih=>intro h2;cases h2 with
  | stop h3=>rw[h]at h3;cases h3
  | step h3 h4 =>
   rw[h]at h3;cases h3;exact ih h4
theorem xy {α:Type} {l:List α} {i t:Nat} {x:α} (h:l[i]?=some x):(l.take (i+1)).eraseIdx t=(l.take i).eraseIdx t++(if i=t then [] else [x]):=by
 have aj:=(gh.1 h).1
 have hl:(l.take i).length=i:=by rw[List.length_take];omega
 rw[List.take_add_one,h,Option.toList_some]
 rcases Nat.lt_trichotomy i t with h1 | h1 | h1
 ·rw[if_neg (by omega),List.eraseIdx_of_length_le (by rw[List.length_append,hl];simp;omega),List.eraseIdx_of_length_le (by rw[hl];omega)]
 ·subst h1
  rw[if_pos rfl,List.eraseIdx_append_of_length_le (by rw[hl];omega),hl,Nat.sub_self,List.eraseIdx_of_length_le (l:=l.take i) (by rw[hl];omega)];simp
 ·rw[if_neg (by omega),List.eraseIdx_append_of_lt_length (by rw[hl];omega)]
end Go.Proofs
end
section
namespace Go.Proofs
open Go.Sy
open Tryz
def MR:Option (Nat×Nat)→Value
 | some x=>.tuple #[.int .i64 x.1,.int .i64 x.2,.bool true]
 | none=>.tuple #[.int .i64 0,.int .i64 0,.bool false]
theorem zL {q:Prog} (hq:q.length≤12) {a:Option Addr} {n c:Nat} {H:Hp} {K:Value→Hp→Prop} (ha:RL H a n c q) (hK:∀H',Le H H'→K (MR (ja q)) H'):aq prog 123 [.agg #[.slice a n c]] H K:=by
 have dd:=ha.aB;have eI:=ha.le;refine ab af aa rfl func123 call123 ntmps123 results123 rfl rfl ?_;refine .inl ⟨0,?_⟩
 refine cI hq ha fun a1 n1 c1 H1 ak bh=>?_
 have gq:(aR (aG q)).length≤1000000:=by
  have h1:=dP (aG q);have h2:(aG q).length≤2*q.length:=fa _ _ 0;omega
 refine⟨Nat,fun i=>⟨[(1,.ptr 0 0),(5,.v (.slice a1 n1 c1)),(13,.v (.slice a n c)),(14,.v (.int .i64 n)),(15,.v (.int .i64 i))],[(0,.cells 24 [.v (.slice a n c)])],1⟩,
  fun i H'=>Le H1 H'∧i≤q.length∧fL q i=none,fun i=>q.length - i,⟨0,[(0,0)],?_,Le.refl _,Nat.zero_le _,rfl⟩,?_⟩
 ·(repeat' first|exact trivial|refine⟨?_,?_⟩|exact rfl|assumption)
 rintro i H2 _ ⟨ah,hi,hf⟩;have XI:=(ha.up ak).up ah;have bj:=bh.up ah;refine⟨fun h=>?_,fun h=>?_⟩
 ·have aj:i<q.length:=by have:=dt h;omega
  refine aD q[i] fun b gV=>?_
  have bG:q[i]?=some b:=by rw[gV];exact aL aj
  have hT:=p5 q b
  have Uk:MP q i=if Iq q i b then some (i,(zJ q b).toNat) else none:=by rw[MP,bG]
  have fE:Iq q i b=false→fL q (i+1)=none:=fun h=>by rw[ij,hf,Uk,h];rfl
  have DM:Iq q i b=true→ja q=some (i,(zJ q b).toNat):=fun h=>DL aj hf (by rw[Uk,h];rfl)
  refine bF XI bG fun ad a5 n5 c5 q1 hh ct xw vR=>?_
  refine⟨ad,⟨by omega,by omega,q1⟩,?_⟩;refine⟨_,hh,?_⟩
  refine nA hq XI fun _ _=>?_
  refine aD (zJ q b) fun t Pg=>?_
  have RZ:bw b.2.2.2.2.1.l (List.map (fun x=>x.1.l) q) 0=t:=Pg.symm;rw[RZ]
  have Ul:∀(h0:¬max t 0=0),0≤t∧t<(q.length:Nat):=fun h0=>by omega
  have ca:Iq q i b=(decide (b.2.2.1=1)&&decide (0<t)&&!decide (t=(i:Int))&&decide (mH q t=1)):=by rw[Iq,←Pg]
  rw[←Pg]at DM;refine⟨fun h1=>?_,fun h1=>?_⟩
  ·have h1:b.2.2.1=1:=nf h1;refine⟨fun h2=>?_,fun h2=>?_⟩
   ·have h2:¬max t 0=0:=df h2
    have Vg:max t 0=t:=by omega
    refine⟨fun h3=>?_,fun h3=>?_⟩
    ·have h3:¬t=(i:Int):=fun e=>df h3 (Vg.trans e)
     refine JV (by omega) bj fun a6 n6 c6 H3 az ji=>?_
     have E8:=ji.aB;rw[Vg]at E8;have E0:=Gn (q:=q) (t:=t) (Ul h2);rw[←dd]at E0;rw[E0]at E8;refine⟨fun h4=>?_,fun h4=>?_⟩
     ·have h4:¬mH q t=1:=by have:=nt h4;omega
      refine⟨⟨by omega,by omega⟩,i+1,[(0,0)],?_,⟨ah.trans az,aj,fE (by rw[ca,decide_eq_false h4,Bool.and_false])⟩,by dsimp only;omega⟩
      (repeat' first|exact trivial|refine⟨?_,?_⟩|exact rfl|assumption)
     ·have h4:mH q t=1:=by have:=nf h4;omega
      have e:=DM (by rw[ca,decide_eq_true h4,decide_eq_false h3,decide_eq_true h1,decide_eq_true (show 0<t by omega)];rfl);rw[e]at hK
      have e2:(.tuple #[.int .i64 (i:Int),.int .i64 (max t 0),.bool true]:Value)=MR (some (i,t.toNat)):=by rw[MR,Vg,Int.toNat_of_nonneg (by omega)]
      have hK:=hK _ ((ak.trans ah).trans az);rw[←e2]at hK;exact hK
    ·have h3:t=(i:Int):=Vg.symm.trans (dt h3);refine⟨⟨by omega,by omega⟩,i+1,[(0,0)],?_,⟨ah,aj,fE (by rw[ca,decide_eq_true h3];simp)⟩,by dsimp only;omega⟩
     (repeat' first|exact trivial|refine⟨?_,?_⟩|exact rfl|assumption)
   ·have h2:¬0<t:=by have:=dt h2;omega
    refine⟨⟨by omega,by omega⟩,i+1,[(0,0)],?_,⟨ah,aj,fE (by rw[ca,decide_eq_false h2];simp)⟩,by dsimp only;omega⟩
    (repeat' first|exact trivial|refine⟨?_,?_⟩|exact rfl|assumption)
  ·have h1:¬b.2.2.1=1:=nt h1;refine⟨⟨by omega,by omega⟩,i+1,[(0,0)],?_,⟨ah,aj,fE (by rw[ca,decide_eq_false h1];simp)⟩,by dsimp only;omega⟩
   (repeat' first|exact trivial|refine⟨?_,?_⟩|exact rfl|assumption)
 ·have aX:i=q.length:=by have:=df h;omega
  rw[aX]at hf;have e:ja q=none:=hf;rw[e]at hK;exact hK _ (ak.trans ah)
end Go.Proofs
end
