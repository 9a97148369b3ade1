/- Part 'M29' of the proof (Pr6, Pr7, Pr8, Pr9, Mg0, Mg1): lemmas, each with its own conditions in its own statement. -/
import Derived.Test.YtheokcjommfopaaGreatDoorM15
import Derived.Test.YtheokcjommfopaaGreatDoorM22
import Derived.Test.YtheokcjommfopaaGreatDoorM26
import Derived.Test.YtheokcjommfopaaGreatDoorM28
section
namespace Go.Proofs
open Go.Sy
set_option maxRecDepth 20000
set_option maxHeartbeats 4000000
def keepP (q:Prog) (R:List Int) (i:Nat):Prog:=((List.range i).filter fun (k:Nat)=>decide ((k:Int)∈R)).filterMap fun (k:Nat)=>q[k]?
theorem keepP_succ {q:Prog} {R:List Int} {i:Nat} {b:Block} (h:q[i]?=some b):keepP q R (i+1)=keepP q R i++(if (i:Int)∈R then [b] else []):=by
 rw[keepP,List.range_succ,List.filter_append,List.filterMap_append,←keepP]
 congr 1
 by_cases e:(i:Int)∈R
 ·rw[if_pos e];simp [e,h]
 ·rw[if_neg e];simp [e]
theorem keepP_len (q:Prog) (R:List Int) (i:Nat):(keepP q R i).length≤i:=by
 rw[keepP];refine Nat.le_trans (List.length_filterMap_le _ _) ?_;have:=List.length_filter_le (fun (k:Nat)=>decide ((k:Int)∈R)) (List.range i);rwa[List.length_range]at this
theorem endsP_len (p:Prog):(endsP p).length=p.length:=List.length_map _
theorem pprogN_spec {p:Prog} (hp:p.length≤12) (hl:∀b∈p,b.2.1.length≤1000000) (hc:stmtsN p≤1000000) (hv:cnt p<400000) {a:Option Addr} {n c:Nat} {H:Hp} {K:Value→Hp→Prop} (ha:RL H a n c p)
  (hbad:checkE p≠0→∀H',Le H H'→K (.tuple #[.agg #[.slice none 0 0],.int .i64 (checkE p)]) H')
  (hK:checkE p=0→∀v css R H3 H',Le H H3→StrictL R→IsReach (p.length:Nat) (gSort (edgesOf (endsP p))) [0] R→RC (α:=Block) H3 css (keepP (endsP p) R p.length)→LeN 66 8 css H3 v H'→RowAt H' v 8 css→K (.tuple #[.agg #[v],.int .i64 0]) H'):Does Tryz.prog 75 [.agg #[.slice a n c]] H K:=by
 refine spec_of cx_ok cx_mix rfl Tryz.func75 Tryz.call75 Tryz.ntmps75 Tryz.results75 rfl rfl ?_;refine pends_spec (by omega) hl hc hv ha (fun he H1 hle1=>?_) (fun he a1 n1 c1 H1 hle1 hr1=>?_)
 ·refine⟨fun h=>?_,fun h=>?_⟩
  ·exact hbad he H1 hle1
  ·exact absurd (nf h) he
 ·have hK:=hK he;refine⟨fun h=>by simp at h,fun _=>?_⟩;have hn1:=hr1.n_eq;rw[endsP_len]at hn1
  have hel:(gSort (edgesOf (endsP p))).length≤100000:=by
   have h1:=gSort_len (edgesOf (endsP p));have h2:(edgesOf (endsP p)).length≤2*(endsP p).length:=eAll_len _ _ 0;rw[endsP_len]at h2;omega
  refine⟨none,?_⟩
  refine region_plan (α:=Option Addr×Nat×Nat×List Int) ?_ ?_ (.two 4 5 (.one [3] [0,1,2,3,4,5,6,7]) (.one [3] [0,1,2,3,5,4,6,7]))
   (fun z=>⟨[(2,.ptr 0 0),(4,.ptr 1 0),(6,.v (.slice z.1 z.2.1 z.2.2.1))],[(0,.cells 24 [.v (.slice none 0 0)]),(1,.cells 24 [.v (.slice a1 n1 c1)])],2⟩)
   (fun z H'=>Le H1 H'∧RL H' z.1 z.2.1 z.2.2.1 z.2.2.2∧StrictL z.2.2.2∧IsReach (n1:Nat) (gSort (edgesOf (endsP p))) [0] z.2.2.2) (by kernel_rfl) ⟨?_,?_⟩ ?_
  ·exact⟨cx_ok.tt,cx_ok.eqs⟩
  ·exact cx_mix
  ·refine edges_spec (by rw[endsP_len];exact hp) hr1 fun a2 n2 c2 H2 hle2 hr2=>?_
   intro x H3 hle3 hx;obtain⟨a3,n3,c3,rfl,hr3⟩:=rI_all (l:=[0]) hx (fun z hz=>by rw[List.mem_singleton]at hz;rw[hz];exact⟨by omega,by omega⟩)
   refine reached_spec (m:=(n1:Nat)) (by omega) hel (by simp) (hr2.up hle3.le) hr3 fun a4 n4 c4 R H4 hle4 hr4 hS hR=>?_
   refine⟨(a4,n4,c4,R),[(0,1),(1,2)],?_,(hle2.trans hle3.le).trans hle4,hr4,hS,hR⟩
   (repeat' (first|exact trivial|refine⟨?_,?_⟩|exact rfl|assumption))
  ·refine edges_spec (by rw[endsP_len];exact hp) hr1 fun a2 n2 c2 H2 hle2 hr2=>?_
   intro x H3 hle3 hx;obtain⟨a3,n3,c3,rfl,hr3⟩:=rI_all (l:=[0]) hx (fun z hz=>by rw[List.mem_singleton]at hz;rw[hz];exact⟨by omega,by omega⟩)
   refine reached_spec (m:=(n1:Nat)) (by omega) hel (by simp) (hr2.up hle3.le) hr3 fun a4 n4 c4 R H4 hle4 hr4 hS hR=>?_
   refine⟨(a4,n4,c4,R),[(0,1),(1,2)],?_,(hle2.trans hle3.le).trans hle4,hr4,hS,hR⟩
   (repeat' (first|exact trivial|refine⟨?_,?_⟩|exact rfl|assumption))
  rintro⟨a4,n4,c4,R⟩ H4 _ ⟨hle4,hr4,hS,hR⟩;dsimp only at hr4 hS hR;have hle:=hle1.trans hle4;have hr1':=hr1.up hle4;rw[hn1]at hR
  refine name_k (endsP p) fun q hq=>?_
  have hql:q.length=p.length:=by rw[hq,endsP_len]
  rw[←hq]at hr1' hR hK
  refine⟨Nat×List (List Value),fun z=>⟨[(2,.ptr 0 0),(6,.v (.slice a4 n4 c4)),(7,.ptr 1 0),(27,.v (.slice a1 n1 c1)),(28,.v (.int .i64 n1)),(29,.v (.int .i64 z.1))],
    [(0,.cells 24 [.v (.slice none 0 0)]),(1,.cells 24 [.own 2]),(2,.row 66 8 z.2)],3⟩,
   fun z H'=>H'=H4∧z.1≤q.length∧RC (α:=Block) H4 z.2 (keepP q R z.1),fun z=>q.length - z.1,⟨(0,[]),[(0,0),(1,2)],?_,rfl,Nat.zero_le _,RC.nil⟩,?_⟩
  ·(repeat' (first|exact trivial|refine⟨?_,?_⟩|exact rfl|assumption))
  rintro⟨i,css⟩ H5 _ ⟨rfl,hi,hrc⟩;dsimp only at hi hrc;have hkl:=keepP_len q R i;have hcl:css.length=(keepP q R i).length:=hrc.1;refine⟨fun h=>?_,fun h=>?_⟩
  ·have hlt:i<q.length:=by have:=dt h;dsimp only at this;omega
   refine name_k q[i] fun b hbe=>?_
   have hbb:q[i]?=some b:=by rw[hbe];exact List.getElem?_eq_getElem hlt
   have hks:=keepP_succ (R:=R) hbb
   refine block_k hr1' hbb fun ad a5 n5 c5 q1 hh hr5 hs5 ht5=>?_
   refine⟨ad,⟨by dsimp only;omega,by dsimp only;omega,q1⟩,?_⟩;refine⟨_,hh,?_⟩;refine containsN_spec hr4 ?_;refine⟨fun h=>?_,fun h=>?_⟩
   ·have hm:(i:Int)∈R:=dt h;rw[if_pos hm]at hks;refine⟨⟨by show (css.length+1)*112≤140737488355328;omega,by show css.length+1≤9223372036854775807;omega⟩,?_⟩
    have hrc2:RC (α:=Block) H5 (css++[Value.string (bs b.1.l) :: .slice a5 n5 c5::termV b.2.2]) (keepP q R (i+1)):=by
     rw[hks];exact hrc.snoc (block_mk hr5 hs5 ht5)
    refine⟨⟨by dsimp only;omega,by dsimp only;omega⟩,(i+1,css++[Value.string (bs b.1.l) :: .slice a5 n5 c5::termV b.2.2]),[(0,0),(1,1),(2,5)],?_,⟨rfl,hlt,hrc2⟩,by dsimp only;omega⟩
    (repeat' (first|exact trivial|refine⟨?_,?_⟩|exact rfl|assumption))
   ·have hm:¬(i:Int)∈R:=df h;rw[if_neg hm,List.append_nil]at hks;refine⟨⟨by dsimp only;omega,by dsimp only;omega⟩,(i+1,css),[(0,0),(1,1),(2,2)],?_,⟨rfl,hlt,by rw[hks];exact hrc⟩,by dsimp only;omega⟩
    (repeat' (first|exact trivial|refine⟨?_,?_⟩|exact rfl|assumption))
  ·have hil:i=p.length:=by have:=df h;dsimp only at this;omega
   rw[hil]at hrc;intro v H6 hle6 hv6;exact hK v css R H5 H6 hle hS hR hrc hle6 hv6
theorem pprog_spec {p:Prog} (hp:p.length≤12) (hl:∀b∈p,b.2.1.length≤1000000) (hc:stmtsN p≤1000000) (hv:cnt p<400000) {a:Option Addr} {n c:Nat} {H:Hp} {K:Value→Hp→Prop} (ha:RL H a n c p)
  (hbad:checkE p≠0→∀H',Le H H'→K (.tuple #[.agg #[.slice none 0 0],.int .i64 (checkE p)]) H')
  (hK:checkE p=0→∀a1 n1 c1 R H',Le H H'→StrictL R→IsReach (p.length:Nat) (gSort (edgesOf (endsP p))) [0] R→RL H' a1 n1 c1 (keepP (endsP p) R p.length)→K (.tuple #[.agg #[.slice a1 n1 c1],.int .i64 0]) H'):Does Tryz.prog 75 [.agg #[.slice a n c]] H K:=by
 refine pprogN_spec hp hl hc hv ha hbad fun he v css R H3 H' hle hS hR hrc hle2 hv=>?_
 obtain⟨a7,n7,c7,rfl,hr7⟩:=RL.of_row (α:=Block) hv (hrc.up hle2.le);exact hK he _ _ _ R _ (hle.trans hle2.le) hS hR hr7
end Go.Proofs
end
section
namespace Go.Proofs
open Go.Sy
set_option maxRecDepth 20000
set_option maxHeartbeats 4000000
theorem block_kI {P:Prop} {H:Hp} {a:Option Addr} {n c:Nat} {xs:Prog} (h:RL H a n c xs) {j:Int} (h0:0≤j) {x:Block} (hi:xs[j.toNat]?=some x) (k:∀ad a1 n1 c1,a=some ad→ElemH H ad j 8 [.string (bs x.1.l),.slice a1 n1 c1,.int .i64 x.2.2.1,.string (bs x.2.2.2.1.1.l),.int .i64 x.2.2.2.1.2.1,.int .i64 x.2.2.2.1.2.2,.string (bs x.2.2.2.2.1.l),.string (bs x.2.2.2.2.2.l)]→RL H a1 n1 c1 x.2.1→sR x.1→termR x.2.2→P):P :=
 block_k h hi fun ad a1 n1 c1 e he h1 h2 h3=>k ad a1 n1 c1 e (by rwa[Int.toNat_of_nonneg h0]at he) h1 h2 h3
end Go.Proofs
end
section
namespace Go.Proofs
open Go.Sy
set_option maxRecDepth 20000
set_option maxHeartbeats 4000000
end Go.Proofs
end
section
namespace Go.Proofs
open Go.Sy
set_option maxRecDepth 20000
set_option maxHeartbeats 4000000
theorem small_stmts {p:Prog} (h:small4 p):stmtsN p≤1000000:=by
 have h1:∀q:Prog,(∀b∈q,smallB4 b)→stmtsN q≤12*q.length:=by
  intro q
  induction q with
  | nil=>exact fun _=>Nat.le_refl _
  | cons b r ih =>
   intro hq
   have h2:=ih fun b hb=>hq b (List.mem_cons_of_mem _ hb)
   have h3:=(hq b List.mem_cons_self).1.1;simp only[stmtsN,List.map_cons,List.sum_cons,List.length_cons]at h2 ⊢;omega
 have:=h1 p h.2;have:=h.1;omega
theorem small_cnt {p:Prog} (h:small4 p):cnt p<400000:=by
 have h1:∀q:Prog,(∀b∈q,smallB4 b)→cnt q≤37*q.length:=by
  intro q
  induction q with
  | nil=>exact fun _=>Nat.le_refl _
  | cons b r ih =>
   intro hq
   have h2:=ih fun b hb=>hq b (List.mem_cons_of_mem _ hb)
   have h3:=(hq b List.mem_cons_self).1.1;simp only[cnt,List.map_cons,List.sum_cons,List.length_cons]at h2 ⊢;omega
 have:=h1 p h.2;have:=h.1;omega
end Go.Proofs
end
section
namespace Go.Proofs
open Go.Sy
theorem eAll_src {p:Prog}:∀(l:List Block) (i:Nat),∀e∈eAll p l i,(i:Int)≤e.1∧e.1<i+l.length
 | [],_,e,he=>by simp [eAll]at he
 | b::r,i,e,he=>by
  rw[eAll]at he;rw[List.length_cons]
  have hN:∀t,e∈eN p i t→e.1=i:=fun t h=>by
   unfold eN at h;split at h
   ·simp only[List.mem_cons,List.not_mem_nil,or_false]at h;rw[h]
   ·cases h
  rcases List.mem_append.1 he with he | he
  ·unfold eB at he
   have:e.1=i:=by
    rcases List.mem_append.1 he with he | he
    ·split at he
     ·exact hN _ he
     ·cases he
    ·split at he
     ·exact hN _ he
     ·cases he
   omega
  ·have:=eAll_src r (i+1) e he;omega
def indeg (q:Prog) (t:Int):Nat:=(gSort (edgesOf q)).countP fun e=>decide (e.2=t)
theorem indeg_back {q:Prog} {t:Int} (ht:0≤t∧t<(q.length:Nat)):(gSort (nxt (q.length:Nat) t (gSort (revL (gSort (edgesOf q)))))).length=indeg q t:=by
 have hS:(gSort (edgesOf q)).Nodup:=strict_nodup (gSort_strict _)
 have hA:(((gSort (edgesOf q)).filter fun e=>decide (e.2=t)).map (·.1)).Nodup:=by
  have h1:=hS.filter (fun e=>decide (e.2=t));refine List.pairwise_map.2 (List.Pairwise.imp_of_mem ?_ h1);intro x y hx hy hne e;have h2:=dt (List.mem_filter.1 hx).2;have h3:=dt (List.mem_filter.1 hy).2;exact hne (Prod.ext e (h2.trans h3.symm))
 have hB:(gSort (nxt (q.length:Nat) t (gSort (revL (gSort (edgesOf q)))))).Nodup:=strict_nodup (gSort_strict _)
 have hp:=(List.perm_ext_iff_of_nodup hB hA).2 fun y=>?_
 ·rw[hp.length_eq,List.length_map,indeg,List.countP_eq_length_filter]
 ·rw[gSort_mem,nxt_mem,gSort_mem];simp only[List.mem_map,List.mem_filter,decide_eq_true_eq];constructor
  ·rintro⟨⟨e,he,h1⟩,_,_⟩;obtain⟨rfl,rfl⟩:=Prod.ext_iff.1 h1;exact⟨e,⟨he,rfl⟩,rfl⟩
  ·rintro⟨e,⟨he,rfl⟩,rfl⟩;have h2:=eAll_src (p:=q) q 0 e ((gSort_mem _ _).1 he);exact⟨⟨e,he,rfl⟩,decide_eq_true ht,decide_eq_true ⟨by omega,by omega⟩⟩
def toI (q:Prog) (b:Block):Int:=idxS b.2.2.2.2.1.l (nms q) 0
def okP (q:Prog) (a:Nat) (b:Block):Bool:=decide (b.2.2.1=1)&&decide (0<toI q b)&&!decide (toI q b=(a:Int))&&decide (indeg q (toI q b)=1)
def tgt (q:Prog) (a:Nat):Option (Nat×Nat):=match q[a]? with
 | some b=>if okP q a b then some (a,(toI q b).toNat) else none
 | none=>none
def firstP (q:Prog) (i:Nat):Option (Nat×Nat):=(List.range i).findSome? (tgt q)
theorem firstP_succ (q:Prog) (i:Nat):firstP q (i+1)=(firstP q i).or (tgt q i):=by
 rw[firstP,List.range_succ,List.findSome?_append,←firstP];simp
def pairP (q:Prog):Option (Nat×Nat):=firstP q q.length
theorem firstP_ge {q:Prog} {i:Nat} {x:Nat×Nat} (h:firstP q (i+1)=some x):∀j,firstP q (i+1+j)=some x
 | 0=>h
 | j+1=>by rw[←Nat.add_assoc,firstP_succ,firstP_ge h j];rfl
theorem pairP_at {q:Prog} {i:Nat} (hi:i<q.length) {x:Nat×Nat} (h0:firstP q i=none) (h:tgt q i=some x):pairP q=some x:=by
 have h1:firstP q (i+1)=some x:=by rw[firstP_succ,h0,h];rfl
 have:=firstP_ge h1 (q.length - (i+1));rwa[show i+1+(q.length - (i+1))=q.length by omega]at this
theorem toI_range (q:Prog) (b:Block):toI q b = -1∨(0≤toI q b∧toI q b<(q.length:Nat)):=by
 have:=idxS_range b.2.2.2.2.1.l (nms q) 0 (Int.le_refl 0);rw[List.length_map]at this
 rcases this with h | ⟨h1,h2⟩
 ·exact .inl h
 ·exact .inr ⟨h1,by rw[toI];omega⟩
theorem tgt_spec {q:Prog} {i a t:Nat} (h:tgt q i=some (a,t)):a=i∧t≠a∧t<q.length∧a<q.length:=by
 unfold tgt at h;split at h
 ·rename_i b hb;split at h
  ·rename_i hok;simp only[okP,Bool.and_eq_true,decide_eq_true_eq,Bool.not_eq_true',decide_eq_false_iff_not]at hok;simp only[Option.some.injEq,Prod.mk.injEq]at h;obtain⟨rfl,rfl⟩:=h;have hr:=toI_range q b;have:=(List.getElem?_eq_some_iff.1 hb).1;omega
  ·cases h
 ·cases h
theorem firstP_spec {q:Prog} {a t:Nat}:∀ {i:Nat},firstP q i=some (a,t)→t≠a∧t<q.length∧a<q.length
 | 0,h=>by cases h
 | i+1,h=>by
  rw[firstP_succ]at h
  cases h1:firstP q i with
  | some x=>rw[h1]at h;cases h;exact firstP_spec h1
  | none=>rw[h1]at h;exact (tgt_spec (i:=i) h).2
def catB (x y:Block):Block:=(x.1,x.2.1++y.2.1,y.2.2)
def joinP (q:Prog) (a t:Nat):Prog:=match q[a]?,q[t]? with
 | some x,some y=>(q.set a (catB x y)).eraseIdx t
 | _,_=>q
theorem joinP_eq {q:Prog} {a t:Nat} {x y:Block} (hx:q[a]?=some x) (hy:q[t]?=some y):joinP q a t=(q.set a (catB x y)).eraseIdx t:=by rw[joinP,hx,hy]
theorem joinP_len {q:Prog} {a t:Nat} (ht:t<q.length) (ha:a<q.length):(joinP q a t).length+1=q.length:=by
 rw[joinP_eq (List.getElem?_eq_getElem ha) (List.getElem?_eq_getElem ht),List.length_eraseIdx,List.length_set,if_pos ht];omega
theorem sum_set (f:Block→Nat):∀ {l:Prog} {i:Nat} {x y:Block},l[i]?=some x→((l.set i y).map f).sum+f x=(l.map f).sum+f y
 | [],_,_,_,h=>by cases h
 | b::r,0,x,y,h=>by
  simp only[List.getElem?_cons_zero,Option.some.injEq]at h;subst h
  simp;omega
 | b::r,i+1,x,y,h=>by
  have:=sum_set f (l:=r) (i:=i) (y:=y) (by simpa using h)
  simp only[List.set_cons_succ,List.map_cons,List.sum_cons];omega
theorem sum_erase (f:Block→Nat):∀ {l:Prog} {i:Nat} {x:Block},l[i]?=some x→((l.eraseIdx i).map f).sum+f x=(l.map f).sum
 | [],_,_,h=>by cases h
 | b::r,0,x,h=>by
  simp only[List.getElem?_cons_zero,Option.some.injEq]at h;subst h
  simp;omega
 | b::r,i+1,x,h=>by
  have:=sum_erase f (l:=r) (i:=i) (by simpa using h)
  simp only[List.eraseIdx_cons_succ,List.map_cons,List.sum_cons];omega
theorem joinP_stmts {q:Prog} {a t:Nat} (hne:t≠a) (ht:t<q.length) (ha:a<q.length):stmtsN (joinP q a t)=stmtsN q:=by
 have hx:=List.getElem?_eq_getElem ha;have hy:=List.getElem?_eq_getElem ht;rw[joinP_eq hx hy];have h1:=sum_set (fun b=>b.2.1.length) (y:=catB q[a] q[t]) hx;have h2:=sum_erase (fun b=>b.2.1.length) (l:=q.set a (catB q[a] q[t])) (i:=t) (x:=q[t]) (by rw[List.getElem?_set_ne (Ne.symm hne),hy]);have h3:(catB q[a] q[t]).2.1.length=q[a].2.1.length+q[t].2.1.length:=List.length_append;show (List.map _ _).sum=(List.map _ _).sum;rw[h3]at h1;omega
theorem stmts_le {q:Prog} {i:Nat} {b:Block} (h:q[i]?=some b):b.2.1.length≤stmtsN q:=by
 have:=sum_erase (fun b=>b.2.1.length) h;show _≤(List.map _ _).sum;omega
inductive Mrg:Prog→Prog→Prop
 | stop {q:Prog} (h:pairP q=none):Mrg q q
 | step {q r:Prog} {a t:Nat} (h:pairP q=some (a,t)) (hr:Mrg (joinP q a t) r):Mrg q r
theorem Mrg.one {q r s:Prog} (h:Mrg q r):Mrg q s→r=s:=by
 induction h with
 | stop h=>intro h2;cases h2 with
  | stop _=>rfl
  | step h3 _=>rw[h]at h3;cases h3
 | step h _ ih=>intro h2;cases h2 with
  | stop h3=>rw[h]at h3;cases h3
  | step h3 h4 =>
   rw[h]at h3;cases h3;exact ih h4
end Go.Proofs
end
section
namespace Go.Proofs
open Go.Sy
set_option maxRecDepth 20000
set_option maxHeartbeats 4000000
def pairV:Option (Nat×Nat)→Value
 | some x=>.tuple #[.int .i64 x.1,.int .i64 x.2,.bool true]
 | none=>.tuple #[.int .i64 0,.int .i64 0,.bool false]
theorem pair_spec {q:Prog} (hq:q.length≤12) {a:Option Addr} {n c:Nat} {H:Hp} {K:Value→Hp→Prop} (ha:RL H a n c q) (hK:∀H',Le H H'→K (pairV (pairP q)) H'):Does Tryz.prog 123 [.agg #[.slice a n c]] H K:=by
 have hn1:=ha.n_eq;have hmx:=ha.le;refine spec_of cx_ok cx_mix rfl Tryz.func123 Tryz.call123 Tryz.ntmps123 Tryz.results123 rfl rfl ?_;refine .inl ⟨0,?_⟩
 refine edges_spec hq ha fun a1 n1 c1 H1 hle1 hr1=>?_
 have hel:(gSort (edgesOf q)).length≤1000000:=by
  have h1:=gSort_len (edgesOf q);have h2:(edgesOf q).length≤2*q.length:=eAll_len _ _ 0;omega
 refine⟨Nat,fun i=>⟨[(1,.ptr 0 0),(5,.v (.slice a1 n1 c1)),(13,.v (.slice a n c)),(14,.v (.int .i64 n)),(15,.v (.int .i64 i))],[(0,.cells 24 [.v (.slice a n c)])],1⟩,
  fun i H'=>Le H1 H'∧i≤q.length∧firstP q i=none,fun i=>q.length - i,⟨0,[(0,0)],?_,Le.refl _,Nat.zero_le _,rfl⟩,?_⟩
 ·(repeat' (first|exact trivial|refine⟨?_,?_⟩|exact rfl|assumption))
 rintro i H2 _ ⟨hle2,hi,hf⟩;have ha2:=(ha.up hle1).up hle2;have hr2:=hr1.up hle2;refine⟨fun h=>?_,fun h=>?_⟩
 ·have hlt:i<q.length:=by have:=dt h;omega
  refine name_k q[i] fun b hbe=>?_
  have hbb:q[i]?=some b:=by rw[hbe];exact List.getElem?_eq_getElem hlt
  have hT:=toI_range q b
  have htg:tgt q i=if okP q i b then some (i,(toI q b).toNat) else none:=by rw[tgt,hbb]
  have hnext:okP q i b=false→firstP q (i+1)=none:=fun h=>by rw[firstP_succ,hf,htg,h];rfl
  have hthis:okP q i b=true→pairP q=some (i,(toI q b).toNat):=fun h=>pairP_at hlt hf (by rw[htg,h];rfl)
  refine block_k ha2 hbb fun ad a5 n5 c5 q1 hh hr5 hs5 ht5=>?_
  refine⟨ad,⟨by omega,by omega,q1⟩,?_⟩;refine⟨_,hh,?_⟩
  refine block_spec hq ha2 fun _ _=>?_
  refine name_k (toI q b) fun t hte=>?_
  have hte2:idxS b.2.2.2.2.1.l (List.map (fun x=>x.1.l) q) 0=t:=hte.symm;rw[hte2]
  have hback:∀(h0:¬max t 0=0),0≤t∧t<(q.length:Nat):=fun h0=>by omega
  have hok:okP q i b=(decide (b.2.2.1=1)&&decide (0<t)&&!decide (t=(i:Int))&&decide (indeg q t=1)):=by rw[okP,←hte]
  rw[←hte]at hthis;refine⟨fun h1=>?_,fun h1=>?_⟩
  ·have h1:b.2.2.1=1:=nf h1;refine⟨fun h2=>?_,fun h2=>?_⟩
   ·have h2:¬max t 0=0:=df h2
    have hmt:max t 0=t:=by omega
    refine⟨fun h3=>?_,fun h3=>?_⟩
    ·have h3:¬t=(i:Int):=fun e=>df h3 (hmt.trans e)
     refine back_spec (by omega) hr2 fun a6 n6 c6 H3 hle3 hr6=>?_
     have hn6:=hr6.n_eq;rw[hmt]at hn6;have hq2:=indeg_back (q:=q) (t:=t) (hback h2);rw[←hn1]at hq2;rw[hq2]at hn6;refine⟨fun h4=>?_,fun h4=>?_⟩
     ·have h4:¬indeg q t=1:=by have:=nt h4;omega
      refine⟨⟨by omega,by omega⟩,i+1,[(0,0)],?_,⟨hle2.trans hle3,hlt,hnext (by rw[hok,decide_eq_false h4,Bool.and_false])⟩,by dsimp only;omega⟩
      (repeat' (first|exact trivial|refine⟨?_,?_⟩|exact rfl|assumption))
     ·have h4:indeg q t=1:=by have:=nf h4;omega
      have e:=hthis (by rw[hok,decide_eq_true h4,decide_eq_false h3,decide_eq_true h1,decide_eq_true (show 0<t by omega)];rfl);rw[e]at hK
      have e2:(.tuple #[.int .i64 (i:Int),.int .i64 (max t 0),.bool true]:Value)=pairV (some (i,t.toNat)):=by rw[pairV,hmt,Int.toNat_of_nonneg (by omega)]
      have hK:=hK _ ((hle1.trans hle2).trans hle3);rw[←e2]at hK;exact hK
    ·have h3:t=(i:Int):=hmt.symm.trans (dt h3);refine⟨⟨by omega,by omega⟩,i+1,[(0,0)],?_,⟨hle2,hlt,hnext (by rw[hok,decide_eq_true h3];simp)⟩,by dsimp only;omega⟩
     (repeat' (first|exact trivial|refine⟨?_,?_⟩|exact rfl|assumption))
   ·have h2:¬0<t:=by have:=dt h2;omega
    refine⟨⟨by omega,by omega⟩,i+1,[(0,0)],?_,⟨hle2,hlt,hnext (by rw[hok,decide_eq_false h2];simp)⟩,by dsimp only;omega⟩
    (repeat' (first|exact trivial|refine⟨?_,?_⟩|exact rfl|assumption))
  ·have h1:¬b.2.2.1=1:=nt h1;refine⟨⟨by omega,by omega⟩,i+1,[(0,0)],?_,⟨hle2,hlt,hnext (by rw[hok,decide_eq_false h1];simp)⟩,by dsimp only;omega⟩
   (repeat' (first|exact trivial|refine⟨?_,?_⟩|exact rfl|assumption))
 ·have hil:i=q.length:=by have:=df h;omega
  rw[hil]at hf;have e:pairP q=none:=hf;rw[e]at hK;exact hK _ (hle1.trans hle2)
end Go.Proofs
end
