/- Part 'M28' of the proof (Q1, Q2, Q3, Q4, Q5, Q6, R1, R2, R3): lemmas, each with its own conditions in its own statement. -/
import Derived.Test.YtheokcjommfopaaGreatDoorM19
import Derived.Test.YtheokcjommfopaaGreatDoorM23
import Derived.Test.YtheokcjommfopaaGreatDoorM26
section
namespace Go.Proofs
open Go.Sy
set_option maxRecDepth 20000
def nodeI (m x:Int):Bool:=decide (0≤x∧x<m)
def goesE (m x:Int) (e:Edg):Bool:=decide (e.1=x)&&nodeI m x&&nodeI m e.2
def nxt (m x:Int) (l:List Edg):List Int:=(l.filter (goesE m x)).map (·.2)
theorem nxt_take {m x:Int} {l:List Edg} {i:Nat} (h:i<l.length):nxt m x (l.take (i+1))=nxt m x (l.take i)++(if goesE m x l[i] then [l[i].2] else []):=by
 rw[nxt,nxt,List.take_add_one,List.getElem?_eq_getElem h,Option.toList_some,List.filter_append,List.map_append]
 congr 1
 by_cases hg:goesE m x l[i]=true
 ·rw[List.filter_cons_of_pos hg,if_pos hg];rfl
 ·rw[List.filter_cons_of_neg hg,if_neg hg];rfl
theorem nxt_len (m x:Int) (l:List Edg):(nxt m x l).length≤l.length:=by rw[nxt,List.length_map];exact List.length_filter_le _ _
theorem nxt_mem {m x:Int} {l:List Edg} {y:Int}:y∈nxt m x l↔(x,y)∈l∧nodeI m x=true∧nodeI m y=true:=by
 simp only[nxt,List.mem_map,List.mem_filter,goesE,Bool.and_eq_true,decide_eq_true_eq];constructor
 ·rintro⟨⟨a,b⟩,⟨h1,⟨rfl,h2⟩,h3⟩,rfl⟩;exact⟨h1,h2,h3⟩
 ·rintro⟨h1,h2,h3⟩;exact⟨(x,y),⟨h1,⟨rfl,h2⟩,h3⟩,rfl⟩
theorem nxt_in {m x:Int} {l:List Edg} (hl:∀e∈l,inI e.1∧inI e.2):∀y∈nxt m x l,inI y:=fun _ hy=>(hl _ (nxt_mem.1 hy).1).2
theorem next_spec {m x:Int} {l:List Edg} (hl:l.length≤1000000) {a:Option Addr} {n c:Nat} {H:Hp} {K:Value→Hp→Prop} (ha:RL H a n c l)
  (hK:∀a1 n1 c1 H',Le H H'→RL H' a1 n1 c1 (gSort (nxt m x l))→K (.slice a1 n1 c1) H'):Does Tryz.prog 180 [.int .i64 m,.slice a n c,.int .i64 x] H K:=by
 have hn1:=ha.n_eq;refine spec_of cx_ok cx_mix rfl Tryz.func180 Tryz.call180 Tryz.ntmps180 Tryz.results180 rfl rfl ?_
 refine⟨Nat,fun i=>⟨[(0,.v (.int .i64 m)),(2,.v (.int .i64 x)),(7,.own 0),(10,.v (.slice a n c)),(11,.v (.int .i64 n)),(12,.v (.int .i64 i))],[(0,.row 3 1 (iRows (nxt m x (l.take i))))],1⟩,
  fun i H'=>H'=H∧i≤l.length,fun i=>l.length - i,⟨0,[],?_,rfl,by omega⟩,?_⟩
 ·exact⟨⟨rfl,rfl,⟨rfl,rfl,rfl⟩,rfl,rfl,rfl,trivial⟩,⟨rfl,trivial⟩⟩
 rintro i H1 _ ⟨rfl,hi⟩;refine⟨fun h=>?_,fun h=>?_⟩
 ·have hlt:i<l.length:=by have:=dt h;omega
  obtain⟨ad,cs,q1,hh,r1⟩:=ha.elem (List.getElem?_eq_getElem hlt);obtain⟨rfl,hr1,hr2⟩:=edge_open r1;have hst:=nxt_take (m:=m) (x:=x) hlt;have hlen:=nxt_len m x (l.take i);rw[List.length_take,Nat.min_eq_left (by omega)]at hlen;have hel:(iRows (nxt m x (l.take i))).length=(nxt m x (l.take i)).length:=List.length_map _;refine⟨ad,⟨by omega,by omega,q1⟩,?_⟩;refine⟨_,hh,?_⟩;refine⟨fun h=>?_,fun h=>?_⟩
  ·have h1:l[i].1=x:=dt h;refine node_spec ?_;refine⟨fun h=>?_,fun h=>?_⟩
   ·have h2:nodeI m x=true:=h;refine node_spec ?_;refine⟨fun h=>?_,fun h=>?_⟩
    ·have hg:goesE m x l[i]=true:=by rw[goesE,decide_eq_true h1,h2];exact h
     refine⟨⟨by show ((iRows (nxt m x (l.take i))).length+1)*8≤_;omega,by show (iRows (nxt m x (l.take i))).length+1≤_;omega⟩,?_⟩
     have erow:iRows (nxt m x (l.take i))++[[.int .i64 l[i].2]]=iRows (nxt m x (l.take (i+1))):=by rw[hst,hg];simp
     refine⟨⟨by omega,by omega⟩,i+1,[(0,3)],?_,⟨rfl,by omega⟩,by dsimp only;omega⟩;exact⟨⟨rfl,rfl,rfl,rfl,rfl,rfl,trivial⟩,⟨erow,trivial⟩⟩
    ·have hg:goesE m x l[i]=false:=by rw[goesE,h2];simp [show nodeI m l[i].2=false from h]
     have erow:iRows (nxt m x (l.take i))=iRows (nxt m x (l.take (i+1))):=by rw[hst,hg];simp
     refine⟨⟨by omega,by omega⟩,i+1,[(0,0)],?_,⟨rfl,by omega⟩,by dsimp only;omega⟩;exact⟨⟨rfl,rfl,rfl,rfl,rfl,rfl,trivial⟩,⟨erow,trivial⟩⟩
   ·have hg:goesE m x l[i]=false:=by rw[goesE,show nodeI m x=false from h];simp
    have erow:iRows (nxt m x (l.take i))=iRows (nxt m x (l.take (i+1))):=by rw[hst,hg];simp
    refine⟨⟨by omega,by omega⟩,i+1,[(0,0)],?_,⟨rfl,by omega⟩,by dsimp only;omega⟩;exact⟨⟨rfl,rfl,rfl,rfl,rfl,rfl,trivial⟩,⟨erow,trivial⟩⟩
  ·have h1:¬l[i].1=x:=df h
   have hg:goesE m x l[i]=false:=by rw[goesE,decide_eq_false h1];rfl
   have erow:iRows (nxt m x (l.take i))=iRows (nxt m x (l.take (i+1))):=by rw[hst,hg];simp
   refine⟨⟨by omega,by omega⟩,i+1,[(0,0)],?_,⟨rfl,by omega⟩,by dsimp only;omega⟩;exact⟨⟨rfl,rfl,rfl,rfl,rfl,rfl,trivial⟩,⟨erow,trivial⟩⟩
 ·have hil:i=l.length:=by have:=df h;omega
  have hlen:=nxt_len m x l
  have ei:iRows (nxt m x (l.take i))=iRows (nxt m x l):=by rw[hil,List.take_length]
  rw[hil,List.take_length];refine⟨[0],rfl,sortI_spec (by omega) fun l' hl' hp hg=>?_⟩;refine⟨[0],rfl,compI_spec (l:=l') (by omega) ?_⟩;intro y H2 hle hy;rw[hg]at hy;obtain⟨a1,n1,c1,rfl,hr⟩:=rI_all hy (fun e he=>nxt_in (RLe_all ha) e ((gSort_mem _ e).1 he));exact hK _ _ _ _ hle hr
end Go.Proofs
end
section
namespace Go.Proofs
open Go.Sy
set_option maxRecDepth 20000
abbrev swp (e:Edg):Edg:=(e.2,e.1)
abbrev revL (l:List Edg):List Edg:=l.map swp
theorem revL_snoc (m:List Edg) (x:Edg):revL (m++[x])=revL m++[swp x]:=List.map_append
theorem reverse_spec {l:List Edg} (hl:l.length≤1000000) {a:Option Addr} {n c:Nat} {H:Hp} {K:Value→Hp→Prop} (ha:RL H a n c l)
  (hK:∀a1 n1 c1 H',Le H H'→RL H' a1 n1 c1 (gSort (revL l))→K (.slice a1 n1 c1) H'):Does Tryz.prog 96 [.slice a n c] H K:=by
 have hn1:=ha.n_eq;refine spec_of cx_ok cx_mix rfl Tryz.func96 Tryz.call96 Tryz.ntmps96 Tryz.results96 rfl rfl ?_
 refine⟨Nat,fun i=>⟨[(3,.own 0),(6,.v (.slice a n c)),(7,.v (.int .i64 n)),(8,.v (.int .i64 i))],[(0,.row 172 2 (eRows (revL (l.take i))))],1⟩,
  fun i H'=>H'=H∧i≤l.length,fun i=>l.length - i,⟨0,[],?_,rfl,by omega⟩,?_⟩
 ·exact⟨⟨⟨rfl,rfl,rfl⟩,rfl,rfl,rfl,trivial⟩,⟨rfl,trivial⟩⟩
 rintro i H1 _ ⟨rfl,hi⟩;refine⟨fun h=>?_,fun h=>?_⟩
 ·have hlt:i<l.length:=by have:=dt h;omega
  obtain⟨ad,cs,q1,hh,r1⟩:=ha.elem (List.getElem?_eq_getElem hlt);obtain⟨rfl,hr1,hr2⟩:=edge_open r1
  have hel:(eRows (revL (l.take i))).length=i:=by rw[List.length_map,List.length_map,List.length_take];omega
  refine⟨ad,⟨by omega,by omega,q1⟩,?_⟩;refine⟨_,hh,?_⟩;refine⟨⟨by show ((eRows (revL (l.take i))).length+1)*16≤_;omega,by show (eRows (revL (l.take i))).length+1≤_;omega⟩,?_⟩
  have erow:eRows (revL (l.take i))++[[.int .i64 l[i].2,.int .i64 l[i].1]]=eRows (revL (l.take (i+1))):=by rw[List.take_add_one,List.getElem?_eq_getElem hlt,Option.toList_some,revL_snoc];exact eRows_snoc (revL (l.take i)) (swp l[i])
  refine⟨⟨by omega,by omega⟩,i+1,[(0,3)],?_,⟨rfl,by omega⟩,by dsimp only;omega⟩;exact⟨⟨rfl,rfl,rfl,rfl,trivial⟩,⟨erow,trivial⟩⟩
 ·have hil:i=l.length:=by have:=df h;omega
  intro x H2 hle2 hx;rw[hil,List.take_length]at hx
  obtain⟨a1,n1,c1,rfl,hr⟩:=rE_all hx (fun e he=>by
   obtain⟨e',he',rfl⟩:=List.mem_map.1 he
   exact⟨(RLe_all ha e' he').2,(RLe_all ha e' he').1⟩)
  refine sorted_spec (by rw[List.length_map];omega) hr ?_;intro a3 n3 c3 H3 hle3 hr3;exact hK _ _ _ _ (hle2.trans hle3) hr3
theorem back_spec {m x:Int} {l:List Edg} (hl:l.length≤1000000) {a:Option Addr} {n c:Nat} {H:Hp} {K:Value→Hp→Prop} (ha:RL H a n c l)
  (hK:∀a1 n1 c1 H',Le H H'→RL H' a1 n1 c1 (gSort (nxt m x (gSort (revL l))))→K (.slice a1 n1 c1) H'):Does Tryz.prog 184 [.int .i64 m,.slice a n c,.int .i64 x] H K:=by
 refine spec_of cx_ok cx_mix rfl Tryz.func184 Tryz.call184 Tryz.ntmps184 Tryz.results184 rfl rfl ?_
 refine reverse_spec hl ha fun a1 n1 c1 H1 hle1 hr1=>?_
 have hlen:=gSort_len (revL l);rw[List.length_map]at hlen
 refine next_spec (by omega) hr1 fun a2 n2 c2 H2 hle2 hr2=>?_
 exact hK _ _ _ _ (hle1.trans hle2) hr2
end Go.Proofs
end
section
namespace Go.Proofs
open Go.Sy
set_option maxRecDepth 20000
theorem keyI {x:Int} (hx:inI x):keyOf Tryz.prog 3 (.int .i64 x)=some (.int .i64 x):=by
 unfold keyOf;rw[(tt_ok 3 _ _ rfl).2];show mapKey Tryz.prog 3 (.int .i64 x)=_;unfold mapKey;rw[(tt_ok 3 _ _ rfl).2];show (if IntKind.i64=IntKind.i64∧(Lit.int .i64 x).wf=true then some (Lit.int .i64 x) else none)=_
 have hw:(Lit.int .i64 x).wf=true:=by
  have h1:=hx.1;have h2:=hx.2
  have e1:IntKind.i64.min = -9223372036854775808:=by decide
  have e2:IntKind.i64.max=9223372036854775807:=by decide
  show (decide _&&decide _)=true
  rw[e1,e2,decide_eq_true h1,decide_eq_true h2];rfl
 rw[if_pos ⟨rfl,hw⟩]
theorem mapOK3:MapOK Tryz.prog 3 3:=⟨Maps.int_keyed (tt_ok 3 _ _ rfl).2,(tt_ok 3 _ _ rfl).2,Tryz.zeroValue3⟩
open Classical in
noncomputable def seenG (s:List Int):Lit→Int:=fun kl=>if ∃x∈s,kl = .int .i64 x then 1 else 0
theorem seenG_at (s:List Int) (x:Int):seenG s (.int .i64 x)=if x∈s then 1 else 0:=by
 unfold seenG
 by_cases h:x∈s
 ·rw[if_pos ⟨x,h,rfl⟩,if_pos h]
 ·rw[if_neg (fun⟨y,hy,e⟩=>h (by cases e;exact hy)),if_neg h]
theorem seenG_nil:(fun _=>0)=seenG []:=by
 funext kl;unfold seenG;rw[if_neg (fun⟨_,h,_⟩=>by cases h)]
theorem seenG_snoc (s:List Int) (x:Int):updL (seenG s) (.int .i64 x) 1=seenG (s++[x]):=by
 funext kl;unfold updL seenG
 by_cases h:kl = .int .i64 x
 ·rw[if_pos h,if_pos ⟨x,by simp,h⟩]
 ·rw[if_neg h]
  by_cases h2:∃y∈s,kl = .int .i64 y
  ·obtain⟨y,hy,e⟩:=h2;rw[if_pos ⟨y,hy,e⟩,if_pos ⟨y,List.mem_append_left _ hy,e⟩]
  ·rw[if_neg h2,if_neg];rintro⟨y,hy,e⟩
   rcases List.mem_append.1 hy with hy | hy
   ·exact h2 ⟨y,hy,e⟩
   ·rw[List.mem_singleton]at hy;subst hy;exact h e
def pst (m:Int) (l:List Int) (q:List Int×List Int):List Int×List Int :=
 l.foldl (fun q x=>if nodeI m x=true∧x ∉ q.1 then (q.1++[x],q.2++[x]) else q) q
theorem pst_take {m:Int} {l:List Int} {q:List Int×List Int} {i:Nat} (h:i<l.length):pst m (l.take (i+1)) q=if nodeI m l[i]=true∧l[i] ∉ (pst m (l.take i) q).1 then ((pst m (l.take i) q).1++[l[i]],(pst m (l.take i) q).2++[l[i]]) else pst m (l.take i) q:=take_step _ q (List.getElem?_eq_getElem h)
theorem pst_len (m:Int):∀(l:List Int) (q:List Int×List Int),(pst m l q).2.length≤q.2.length+l.length∧(pst m l q).1.length≤q.1.length+l.length
 | [],q=>⟨Nat.le_refl _,Nat.le_refl _⟩
 | x::r,q=>by
  rw[pst,List.foldl_cons];have:=pst_len m r (if nodeI m x=true∧x ∉ q.1 then (q.1++[x],q.2++[x]) else q);rw[pst]at this
  split at this<;>rename_i hc
  ·rw[if_pos hc];simp only[List.length_append,List.length_cons,List.length_nil]at this ⊢;omega
  ·rw[if_neg hc];simp only[List.length_cons];omega
noncomputable abbrev seenP (s:List Int):Obj→Prop:=MapI Tryz.prog 3 3 s.length (seenG s)
noncomputable abbrev seenB (s:List Int):Bx:=.obj (seenP s)
theorem push0_spec {m:Int} {l seen todo:List Int} {a:Option Addr} {n c:Nat} {H:Hp} {K:SV→St→Hp→Prop} (ha:RL H a n c l) (hb:todo.length+l.length≤1000000000∧seen.length+l.length≤1000000000) (ht:todo=[])
  (hK:K (.tup []) ⟨[],[(0,.cells 3 [.v (.int .i64 m)]),(1,.cells 212 [.mp 3]),(2,.cells 102 [.own 4]),(3,seenB (pst m l (seen,todo)).1),(4,.row 3 1 (iRows (pst m l (seen,todo)).2))],5⟩ H):DoesG Tryz.prog 178 [.v (.slice a n c),.ptr 0 0,.ptr 1 0,.ptr 2 0] ([(0,.cells 3 [.v (.int .i64 m)]),(1,.cells 212 [.mp 3]),(2,.cells 102 [.v (.slice none 0 0)]),(3,seenB seen)]) 4 H K:=by
 have hn1:=ha.n_eq;have hmx:=ha.le;refine spec_ofG cx_ok cx_mix Tryz.func178 Tryz.call178 Tryz.ntmps178 Tryz.results178 rfl rfl ?_
 obtain⟨q,hq⟩:∃q:Nat→List Int×List Int,∀i,q i=pst m (l.take i) (seen,todo):=⟨_,fun _=>rfl⟩
 have hq0:q 0=(seen,todo):=hq 0
 refine⟨Nat,fun i=>⟨[(1,.ptr 0 0),(2,.ptr 1 0),(3,.ptr 2 0),(7,.v (.slice a n c)),(8,.v (.int .i64 n)),(9,.v (.int .i64 i))],[(0,.cells 3 [.v (.int .i64 m)]),(1,.cells 212 [.mp 3]),(2,.cells 102 [.own 4]),(3,seenB (q i).1),(4,.row 3 1 (iRows (q i).2))],5⟩,
  fun i H'=>H'=H∧i≤l.length,fun i=>l.length - i,⟨0,[(0,0),(1,1),(2,2),(3,3)],?_,rfl,by omega⟩,?_⟩
 ·have e3:seenP seen=seenP (q 0).1:=by rw[hq0]
  have e4:iRows (q 0).2=[]:=by rw[hq0,ht];rfl
  exact⟨⟨⟨rfl,rfl⟩,⟨rfl,rfl⟩,⟨rfl,rfl⟩,rfl,rfl,rfl,trivial⟩,⟨⟨rfl,trivial⟩,⟨rfl,trivial⟩,⟨⟨rfl,rfl,e4⟩,trivial⟩,e3,e4,trivial⟩⟩
 rintro i H1 _ ⟨rfl,hi⟩;refine⟨fun h=>?_,fun h=>?_⟩
 ·have hlt:i<l.length:=by have:=dt h;omega
  obtain⟨ad,cs,q1,hh,r1⟩:=ha.elem (List.getElem?_eq_getElem hlt);obtain⟨rfl,r2⟩:=r1;have hst:=pst_take (m:=m) (q:=(seen,todo)) hlt;rw[←hq,←hq]at hst;have hlen:=pst_len m (l.take i) (seen,todo);rw[←hq,List.length_take,Nat.min_eq_left (by omega)]at hlen;simp only at hlen;refine⟨ad,⟨by omega,by omega,q1⟩,?_⟩;refine⟨_,hh,?_⟩;refine node_spec ?_;refine⟨fun h=>?_,fun h=>?_⟩
  ·have h1:nodeI m l[i]=true:=h;refine⟨_,_,_,rfl,keyI r2,?_⟩;refine⟨fun h=>?_,fun h=>?_⟩
   ·have hs:=seenG_at (q i).1 l[i]
    have h2:l[i] ∉ (q i).1:=fun hm=>by rw[if_pos hm]at hs;have:=dt h;omega
    rw[if_pos ⟨h1,h2⟩]at hst;have hel:(iRows (q i).2).length=(q i).2.length:=List.length_map _;refine⟨_,_,_,rfl,keyI r2,⟨by omega,by decide,by decide⟩,?_⟩;refine⟨⟨by show ((iRows (q i).2).length+1)*8≤_;omega,by show (iRows (q i).2).length+1≤_;omega⟩,?_⟩
    have e3:MapI Tryz.prog 3 3 ((q i).1.length+1) (updL (seenG (q i).1) (.int .i64 l[i]) 1)=seenP (q (i+1)).1:=by rw[hst,seenG_snoc];simp only[seenP,List.length_append,List.length_cons,List.length_nil,Nat.zero_add]
    have e4:iRows (q i).2++[[.int .i64 l[i]]]=iRows (q (i+1)).2:=by rw[hst];simp
    refine⟨⟨by omega,by omega⟩,i+1,[(0,0),(1,1),(2,2),(3,3),(4,6)],?_,⟨rfl,by omega⟩,by dsimp only;omega⟩;exact⟨⟨⟨rfl,rfl⟩,⟨rfl,rfl⟩,⟨rfl,rfl⟩,rfl,rfl,rfl,trivial⟩,⟨⟨rfl,trivial⟩,⟨rfl,trivial⟩,⟨rfl,trivial⟩,e3,e4,trivial⟩⟩
   ·have hs:=seenG_at (q i).1 l[i]
    have hc:¬(nodeI m l[i]=true∧l[i] ∉ (q i).1):=fun h2=>by rw[if_neg h2.2]at hs;exact (df h) hs
    rw[if_neg hc]at hst
    have e3:seenP (q i).1=seenP (q (i+1)).1:=by rw[hst]
    have e4:iRows (q i).2=iRows (q (i+1)).2:=by rw[hst]
    refine⟨⟨by omega,by omega⟩,i+1,[(0,0),(1,1),(2,2),(3,3),(4,4)],?_,⟨rfl,by omega⟩,by dsimp only;omega⟩;exact⟨⟨⟨rfl,rfl⟩,⟨rfl,rfl⟩,⟨rfl,rfl⟩,rfl,rfl,rfl,trivial⟩,⟨⟨rfl,trivial⟩,⟨rfl,trivial⟩,⟨rfl,trivial⟩,e3,e4,trivial⟩⟩
  ·have hc:¬(nodeI m l[i]=true∧l[i] ∉ (q i).1):=fun h2=>by have:=h2.1;rw[show nodeI m l[i]=false from h]at this;cases this
   rw[if_neg hc]at hst
   have e3:seenP (q i).1=seenP (q (i+1)).1:=by rw[hst]
   have e4:iRows (q i).2=iRows (q (i+1)).2:=by rw[hst]
   refine⟨⟨by omega,by omega⟩,i+1,[(0,0),(1,1),(2,2),(3,3),(4,4)],?_,⟨rfl,by omega⟩,by dsimp only;omega⟩;exact⟨⟨⟨rfl,rfl⟩,⟨rfl,rfl⟩,⟨rfl,rfl⟩,rfl,rfl,rfl,trivial⟩,⟨⟨rfl,trivial⟩,⟨rfl,trivial⟩,⟨rfl,trivial⟩,e3,e4,trivial⟩⟩
 ·have hil:i=l.length:=by have:=df h;omega
  rw[←List.take_length (l:=l),←hil,←hq]at hK;exact⟨.tup [],[(0,.cells 3 [.v (.int .i64 m)]),(1,.cells 212 [.mp 3]),(2,.cells 102 [.own 4]),(3,seenB (q i).1),(4,.row 3 1 (iRows (q i).2))],5,[(0,0),(1,1),(2,2),(3,3),(4,4)],⟨⟨⟨rfl,rfl⟩,trivial⟩,⟨⟨rfl,trivial⟩,⟨rfl,trivial⟩,⟨rfl,trivial⟩,rfl,rfl,trivial⟩⟩,hK⟩
theorem push1_spec {m:Int} {l seen todo:List Int} {a:Option Addr} {n c:Nat} {H:Hp} {K:SV→St→Hp→Prop} (ha:RL H a n c l) (hb:todo.length+l.length≤1000000000∧seen.length+l.length≤1000000000)
  (hK:K (.tup []) ⟨[],[(0,.cells 3 [.v (.int .i64 m)]),(1,.cells 212 [.mp 3]),(2,.cells 102 [.own 5]),(3,seenB (pst m l (seen,todo)).1),(4,.dead),(5,.row 3 1 (iRows (pst m l (seen,todo)).2))],6⟩ H):DoesG Tryz.prog 178 [.v (.slice a n c),.ptr 0 0,.ptr 1 0,.ptr 2 0] ([(0,.cells 3 [.v (.int .i64 m)]),(1,.cells 212 [.mp 3]),(2,.cells 102 [.own 4]),(3,seenB seen)]++[(4,.row 3 1 (iRows todo))]) 5 H K:=by
 have hn1:=ha.n_eq;have hmx:=ha.le;refine spec_ofG cx_ok cx_mix Tryz.func178 Tryz.call178 Tryz.ntmps178 Tryz.results178 rfl rfl ?_
 obtain⟨q,hq⟩:∃q:Nat→List Int×List Int,∀i,q i=pst m (l.take i) (seen,todo):=⟨_,fun _=>rfl⟩
 have hq0:q 0=(seen,todo):=hq 0
 refine⟨Nat,fun i=>⟨[(1,.ptr 0 0),(2,.ptr 1 0),(3,.ptr 2 0),(7,.v (.slice a n c)),(8,.v (.int .i64 n)),(9,.v (.int .i64 i))],[(0,.cells 3 [.v (.int .i64 m)]),(1,.cells 212 [.mp 3]),(2,.cells 102 [.own 5]),(3,seenB (q i).1),(4,.dead),(5,.row 3 1 (iRows (q i).2))],6⟩,
  fun i H'=>H'=H∧i≤l.length,fun i=>l.length - i,⟨0,[(0,0),(1,1),(2,2),(3,3),(5,4)],?_,rfl,by omega⟩,?_⟩
 ·have e3:seenP seen=seenP (q 0).1:=by rw[hq0]
  have e4:iRows todo=iRows (q 0).2:=by rw[hq0]
  exact⟨⟨⟨rfl,rfl⟩,⟨rfl,rfl⟩,⟨rfl,rfl⟩,rfl,rfl,rfl,trivial⟩,⟨⟨rfl,trivial⟩,⟨rfl,trivial⟩,⟨rfl,trivial⟩,e3,trivial,e4,trivial⟩⟩
 rintro i H1 _ ⟨rfl,hi⟩;refine⟨fun h=>?_,fun h=>?_⟩
 ·have hlt:i<l.length:=by have:=dt h;omega
  obtain⟨ad,cs,q1,hh,r1⟩:=ha.elem (List.getElem?_eq_getElem hlt);obtain⟨rfl,r2⟩:=r1;have hst:=pst_take (m:=m) (q:=(seen,todo)) hlt;rw[←hq,←hq]at hst;have hlen:=pst_len m (l.take i) (seen,todo);rw[←hq,List.length_take,Nat.min_eq_left (by omega)]at hlen;simp only at hlen;refine⟨ad,⟨by omega,by omega,q1⟩,?_⟩;refine⟨_,hh,?_⟩;refine node_spec ?_;refine⟨fun h=>?_,fun h=>?_⟩
  ·have h1:nodeI m l[i]=true:=h;refine⟨_,_,_,rfl,keyI r2,?_⟩;refine⟨fun h=>?_,fun h=>?_⟩
   ·have hs:=seenG_at (q i).1 l[i]
    have h2:l[i] ∉ (q i).1:=fun hm=>by rw[if_pos hm]at hs;have:=dt h;omega
    rw[if_pos ⟨h1,h2⟩]at hst;have hel:(iRows (q i).2).length=(q i).2.length:=List.length_map _;refine⟨_,_,_,rfl,keyI r2,⟨by omega,by decide,by decide⟩,?_⟩;refine⟨⟨by show ((iRows (q i).2).length+1)*8≤_;omega,by show (iRows (q i).2).length+1≤_;omega⟩,?_⟩
    have e3:MapI Tryz.prog 3 3 ((q i).1.length+1) (updL (seenG (q i).1) (.int .i64 l[i]) 1)=seenP (q (i+1)).1:=by rw[hst,seenG_snoc];simp only[seenP,List.length_append,List.length_cons,List.length_nil,Nat.zero_add]
    have e4:iRows (q i).2++[[.int .i64 l[i]]]=iRows (q (i+1)).2:=by rw[hst];simp
    refine⟨⟨by omega,by omega⟩,i+1,[(0,0),(1,1),(2,2),(3,3),(5,7)],?_,⟨rfl,by omega⟩,by dsimp only;omega⟩;exact⟨⟨⟨rfl,rfl⟩,⟨rfl,rfl⟩,⟨rfl,rfl⟩,rfl,rfl,rfl,trivial⟩,⟨⟨rfl,trivial⟩,⟨rfl,trivial⟩,⟨rfl,trivial⟩,e3,trivial,e4,trivial⟩⟩
   ·have hs:=seenG_at (q i).1 l[i]
    have hc:¬(nodeI m l[i]=true∧l[i] ∉ (q i).1):=fun h2=>by rw[if_neg h2.2]at hs;exact (df h) hs
    rw[if_neg hc]at hst
    have e3:seenP (q i).1=seenP (q (i+1)).1:=by rw[hst]
    have e4:iRows (q i).2=iRows (q (i+1)).2:=by rw[hst]
    refine⟨⟨by omega,by omega⟩,i+1,[(0,0),(1,1),(2,2),(3,3),(5,5)],?_,⟨rfl,by omega⟩,by dsimp only;omega⟩;exact⟨⟨⟨rfl,rfl⟩,⟨rfl,rfl⟩,⟨rfl,rfl⟩,rfl,rfl,rfl,trivial⟩,⟨⟨rfl,trivial⟩,⟨rfl,trivial⟩,⟨rfl,trivial⟩,e3,trivial,e4,trivial⟩⟩
  ·have hc:¬(nodeI m l[i]=true∧l[i] ∉ (q i).1):=fun h2=>by have:=h2.1;rw[show nodeI m l[i]=false from h]at this;cases this
   rw[if_neg hc]at hst
   have e3:seenP (q i).1=seenP (q (i+1)).1:=by rw[hst]
   have e4:iRows (q i).2=iRows (q (i+1)).2:=by rw[hst]
   refine⟨⟨by omega,by omega⟩,i+1,[(0,0),(1,1),(2,2),(3,3),(5,5)],?_,⟨rfl,by omega⟩,by dsimp only;omega⟩;exact⟨⟨⟨rfl,rfl⟩,⟨rfl,rfl⟩,⟨rfl,rfl⟩,rfl,rfl,rfl,trivial⟩,⟨⟨rfl,trivial⟩,⟨rfl,trivial⟩,⟨rfl,trivial⟩,e3,trivial,e4,trivial⟩⟩
 ·have hil:i=l.length:=by have:=df h;omega
  rw[←List.take_length (l:=l),←hil,←hq]at hK;exact⟨.tup [],[(0,.cells 3 [.v (.int .i64 m)]),(1,.cells 212 [.mp 3]),(2,.cells 102 [.own 5]),(3,seenB (q i).1),(4,.dead),(5,.row 3 1 (iRows (q i).2))],6,[(0,0),(1,1),(2,2),(3,3),(5,5)],⟨⟨⟨rfl,rfl⟩,trivial⟩,⟨⟨rfl,trivial⟩,⟨rfl,trivial⟩,⟨rfl,trivial⟩,rfl,trivial,rfl,trivial⟩⟩,hK⟩
end Go.Proofs
end
section
namespace Go.Proofs
open Go.Sy
structure IsReach (m:Int) (l:List Edg) (f R:List Int):Prop where
 from':∀x∈f,nodeI m x=true→x∈R
 closed:∀x∈R,∀y∈nxt m x l,y∈R
 least:∀S:Int→Prop,(∀x∈f,nodeI m x=true→S x)→(∀x,S x→∀y∈nxt m x l,S y)→∀x∈R,S x
theorem IsReach.mem {m:Int} {l:List Edg} {f R R':List Int} (h:IsReach m l f R) (h':IsReach m l f R') (x:Int):x∈R↔x∈R' :=
 ⟨h.least (·∈R') h'.from' h'.closed x,h'.least (·∈R) h.from' h.closed x⟩
theorem IsReach.node {m:Int} {l:List Edg} {f R:List Int} (h:IsReach m l f R):∀x∈R,nodeI m x=true :=
 h.least (fun x=>nodeI m x=true) (fun _ _ h=>h) (fun _ _ _ hy=>(nxt_mem.1 hy).2.2)
theorem IsReach.again {m:Int} {l:List Edg} {f R R':List Int} (h:IsReach m l f R) (h':IsReach m l R R') (x:Int):x∈R'↔x∈R :=
 ⟨h'.least (·∈R) (fun _ hx _=>hx) h.closed x,fun hx=>h'.from' x hx (h.node x hx)⟩
theorem pst_inv {m:Int}:∀(l:List Int) {s t o:List Int},s.Nodup→(∀x∈s,nodeI m x=true)→(o++t).Perm s →
  (pst m l (s,t)).1.Nodup∧(∀x∈(pst m l (s,t)).1,nodeI m x=true)∧(o++(pst m l (s,t)).2).Perm (pst m l (s,t)).1∧∀x,x∈(pst m l (s,t)).1↔x∈s∨(x∈l∧nodeI m x=true)
 | [],s,t,o,h1,h2,h3=>⟨h1,h2,h3,fun x=>by simp [pst]⟩
 | y::r,s,t,o,h1,h2,h3=>by
  rw[pst,List.foldl_cons]
  by_cases hc:nodeI m y=true∧y ∉ s
  ·rw[if_pos hc]
   have ih:=pst_inv (m:=m) r (s:=s++[y]) (t:=t++[y]) (o:=o) (by
     rw[List.nodup_append];refine⟨h1,by simp,fun a ha b hb=>?_⟩;rw[List.mem_singleton]at hb;subst hb
     exact fun e=>hc.2 (e▸ha)) (fun x hx=>by
     rcases List.mem_append.1 hx with hx | hx
     ·exact h2 x hx
     ·rw[List.mem_singleton]at hx;subst hx;exact hc.1) (by rw[←List.append_assoc];exact h3.append (List.Perm.refl _))
   refine⟨ih.1,ih.2.1,ih.2.2.1,fun x=>?_⟩;have:=ih.2.2.2 x;rw[pst]at this;rw[this,List.mem_append,List.mem_singleton,List.mem_cons];constructor
   ·rintro ((h | h) | h)
    ·exact .inl h
    ·exact .inr ⟨.inl h,h▸hc.1⟩
    ·exact .inr ⟨.inr h.1,h.2⟩
   ·rintro (h | ⟨h | h,h'⟩)
    ·exact .inl (.inl h)
    ·exact .inl (.inr h)
    ·exact .inr ⟨h,h'⟩
  ·rw[if_neg hc];have ih:=pst_inv (m:=m) r h1 h2 h3;refine⟨ih.1,ih.2.1,ih.2.2.1,fun x=>?_⟩;have:=ih.2.2.2 x;rw[pst]at this;rw[this,List.mem_cons];constructor
   ·rintro (h | h)
    ·exact .inl h
    ·exact .inr ⟨.inr h.1,h.2⟩
   ·rintro (h | ⟨h | h,h'⟩)
    ·exact .inl h
    ·subst h
     by_cases hs:x∈s
     ·exact .inl hs
     ·exact absurd ⟨h',hs⟩ hc
    ·exact .inr ⟨h,h'⟩
structure RInv (m:Int) (l:List Edg) (f s t o:List Int):Prop where
 nd:s.Nodup
 node:∀x∈s,nodeI m x=true
 perm:(o++t).Perm s
 from':∀x∈f,nodeI m x=true→x∈s
 done:∀x∈o,∀y∈nxt m x l,y∈s
 least:∀S:Int→Prop,(∀x∈f,nodeI m x=true→S x)→(∀x,S x→∀y∈nxt m x l,S y)→∀x∈s,S x
theorem rinv_zero (m:Int) (l:List Edg) (f:List Int):RInv m l f (pst m f ([],[])).1 (pst m f ([],[])).2 []:=by
 have h:=pst_inv (m:=m) f (s:=[]) (t:=[]) (o:=[]) List.nodup_nil (by simp) (List.Perm.refl _);refine⟨h.1,h.2.1,h.2.2.1,fun x hx hn=>(h.2.2.2 x).2 (.inr ⟨hx,hn⟩),by simp,fun S h1 _ x hx=>?_⟩
 rcases (h.2.2.2 x).1 hx with h' | h'
 ·cases h'
 ·exact h1 x h'.1 h'.2
theorem rinv_step {m:Int} {l:List Edg} {f s t o:List Int} {x:Int} (h:RInv m l f s (t++[x]) o) {g:List Int} (hg:∀y,y∈g↔y∈nxt m x l):
  RInv m l f (pst m g (s,t)).1 (pst m g (s,t)).2 (o++[x]):=by
 have hp:((o++[x])++t).Perm s:=by
  refine List.Perm.trans ?_ h.perm;rw[List.append_assoc];exact List.Perm.append_left o (List.perm_append_comm)
 have k:=pst_inv (m:=m) g h.nd h.node hp;have hx:x∈s:=h.perm.mem_iff.1 (by simp);refine⟨k.1,k.2.1,k.2.2.1,fun y hy hn=>(k.2.2.2 y).2 (.inl (h.from' y hy hn)),fun y hy z hz=>?_,fun S h1 h2 y hy=>?_⟩
 ·rcases List.mem_append.1 hy with hy | hy
  ·exact (k.2.2.2 z).2 (.inl (h.done y hy z hz))
  ·rw[List.mem_singleton]at hy;subst hy;exact (k.2.2.2 z).2 (.inr ⟨(hg z).2 hz,(nxt_mem.1 hz).2.2⟩)
 ·rcases (k.2.2.2 y).1 hy with h' | h'
  ·exact h.least S h1 h2 y h'
  ·exact h2 x (h.least S h1 h2 x hx) y ((hg y).1 h'.1)
theorem rinv_end {m:Int} {l:List Edg} {f s o:List Int} (h:RInv m l f s [] o):IsReach m l f o∧o.Nodup:=by
 have hp:o.Perm s:=by have:=h.perm;rw[List.append_nil]at this;exact this
 exact⟨⟨fun x hx hn=>hp.mem_iff.2 (h.from' x hx hn),fun x hx y hy=>hp.mem_iff.2 (h.done x hx y hy),fun S h1 h2 x hx=>h.least S h1 h2 x (hp.mem_iff.1 hx)⟩,hp.nodup_iff.2 h.nd⟩
theorem nat_few:∀(n:Nat) (s:List Nat),s.Nodup→(∀x∈s,x<n)→s.length≤n
 | 0,s,_,h=>by
  match s,h with
  | [],_=>exact Nat.le_refl _
  | x::r,h=>exact absurd (h x List.mem_cons_self) (Nat.not_lt_zero x)
 | n+1,s,hn,h=>by
  by_cases hm:n∈s
  ·have h2:=nat_few n (s.erase n) (hn.erase n) (fun x hx=>by
    have h3:=(hn.mem_erase_iff).1 hx;have:=h x h3.2;have:=h3.1
    omega)
   rw[List.length_erase_of_mem hm]at h2;omega
  ·have:=nat_few n s hn (fun x hx=>by
    have:=h x hx
    have:x≠n:=fun e=>hm (e▸hx)
    omega)
   omega
theorem nodes_len {m:Int} {s:List Int} (h1:s.Nodup) (h2:∀x∈s,nodeI m x=true):s.length≤m.toNat:=by
 have h3:(s.map Int.toNat).Nodup:=by
  rw[List.nodup_iff_pairwise_ne,List.pairwise_map]
  refine (List.Pairwise.and_mem.1 h1).imp fun {a b} ⟨ha,hb,hab⟩ e=>hab ?_
  have:=dt (h2 a ha);have:=dt (h2 b hb);omega
 have:=nat_few m.toNat _ h3 (fun x hx=>by
  obtain⟨y,hy,rfl⟩:=List.mem_map.1 hx;have:=dt (h2 y hy)
  omega)
 rwa[List.length_map]at this
theorem gComp_nodup {α:Type} [LO α]:∀ {l:List α},l.Nodup→gComp l=l
 | [],_=>rfl
 | [_],_=>rfl
 | x::y::s,h=>by
  have h1:=List.nodup_cons.1 h;rw[gComp,if_neg (fun e=>h1.1 (by rw[e];exact List.mem_cons_self)),gComp_nodup h1.2]
end Go.Proofs
end
section
namespace Go.Proofs
open Go.Sy
set_option maxRecDepth 20000
theorem seenP_nil:seenP []=MapI Tryz.prog 3 3 0 fun _=>0:=by rw[seenP,seenG_nil];rfl
theorem push00_spec {m:Int} {l:List Int} {a:Option Addr} {n c:Nat} {H:Hp} {K:SV→St→Hp→Prop} (ha:RL H a n c l) (hb:l.length≤1000000)
  (hK:K (.tup []) ⟨[],[(0,.cells 3 [.v (.int .i64 m)]),(1,.cells 212 [.mp 3]),(2,.cells 102 [.own 4]),(3,seenB (pst m l ([],[])).1),(4,.row 3 1 (iRows (pst m l ([],[])).2))],5⟩ H):
  DoesG Tryz.prog 178 [.v (.slice a n c),.ptr 0 0,.ptr 1 0,.ptr 2 0] [(0,.cells 3 [.v (.int .i64 m)]),(1,.cells 212 [.mp 3]),(2,.cells 102 [.v (.slice none 0 0)]),(3,.obj (MapI Tryz.prog 3 3 0 fun _=>0))] 4 H K:=by
 rw[←seenP_nil];exact push0_spec ha (by simp only[List.length_nil];omega) rfl hK
theorem push11_spec {m:Int} {l seen todo:List Int} {rt:List (List Value)} {a:Option Addr} {n c:Nat} {H:Hp} {K:SV→St→Hp→Prop} (ha:RL H a n c l) (hrt:rt=iRows todo) (hb:todo.length+l.length≤1000000000∧seen.length+l.length≤1000000000)
  (hK:K (.tup []) ⟨[],[(0,.cells 3 [.v (.int .i64 m)]),(1,.cells 212 [.mp 3]),(2,.cells 102 [.own 5]),(3,seenB (pst m l (seen,todo)).1),(4,.dead),(5,.row 3 1 (iRows (pst m l (seen,todo)).2))],6⟩ H):
  DoesG Tryz.prog 178 [.v (.slice a n c),.ptr 0 0,.ptr 1 0,.ptr 2 0] [(0,.cells 3 [.v (.int .i64 m)]),(1,.cells 212 [.mp 3]),(2,.cells 102 [.own 4]),(3,seenB seen),(4,.row 3 1 rt)] 5 H K:=by
 rw[hrt];exact push1_spec ha hb hK
theorem sortN_spec {H:Hp} {K:SV→St→Hp→Prop} (hK:K (.tup []) ⟨[],[],0⟩ H):DoesG Tryz.prog 181 [.v (.slice none 0 0)] [] 0 H K :=
 ⟨Tryz.call181,fun w ρ hm _=>(Any.slices_Sort_int_none Tryz.lays189 none 0 w).mono fun _ _ ⟨e1,e2⟩=>⟨.tup [],⟨[],[],0⟩,H,ρ,e1,hK,rfl,by rw[e2];exact hm⟩⟩
theorem reached_spec {m:Int} (hm:m≤1000) {l:List Edg} (hl:l.length≤100000) {f:List Int} (hf:f.length≤100000) {a a3:Option Addr} {n c n3 c3:Nat} {H:Hp} {K:Value→Hp→Prop} (ha:RL H a n c l) (hb:RL H a3 n3 c3 f)
  (hK:∀a1 n1 c1 R H',Le H H'→RL H' a1 n1 c1 R→StrictL R→IsReach m l f R→K (.slice a1 n1 c1) H'):Does Tryz.prog 118 [.int .i64 m,.slice a n c,.slice a3 n3 c3] H K:=by
 refine spec_of cx_ok cx_mix rfl Tryz.func118 Tryz.call118 Tryz.ntmps118 Tryz.results118 rfl rfl ?_
 refine .inr ⟨List Int×List Int×List Int,fun _=>0,fun q=>⟨[(1,.v (.slice a n c)),(3,.ptr 0 0),(7,.own 5),(8,.ptr 1 0),(10,.fn 178 [.ptr 0 0,.ptr 3 0,.ptr 1 0])],
   [(0,.cells 3 [.v (.int .i64 m)]),(1,.cells 102 [.own 4]),(2,seenB q.1),(3,.cells 212 [.mp 2]),(4,.row 3 1 (iRows q.2.1)),(5,.row 3 1 (iRows q.2.2))],6⟩,
  fun q H'=>Le H H'∧RInv m l f q.1 q.2.1 q.2.2,fun q=>m.toNat - q.2.2.length,?_,?_⟩
 ·refine⟨mapOK3,?_⟩;refine⟨[0,3,1,2],rfl,push00_spec hb (by omega) ?_⟩
  obtain⟨s,hs⟩:∃s,s=(pst m f ([],[])).1:=⟨_,rfl⟩
  obtain⟨t,ht0⟩:∃t,t=(pst m f ([],[])).2:=⟨_,rfl⟩
  have hI:=rinv_zero m l f;rw[←hs,←ht0]at hI ⊢;have hel:(iRows t).length=t.length:=List.length_map _
  have hM:s.length≤1000:=by have:=nodes_len hI.nd hI.node;omega
  have hpl:=hI.perm.length_eq;rw[List.nil_append]at hpl;refine⟨fun h=>?_,fun h=>?_⟩
  ·have hpos:0<t.length:=by have:=dt h;omega
   obtain⟨t',x,htx⟩:∃t' x,t=t'++[x]:=⟨t.dropLast,t.getLast (by intro e;rw[e]at hpos;cases hpos),(List.dropLast_concat_getLast _).symm⟩
   have eln:(((iRows t).length:Int) - 1).toNat=t'.length:=by rw[hel,htx,List.length_append,List.length_singleton];omega
   have hgx:(iRows t)[(((iRows t).length:Int) - 1).toNat]?=some [.int .i64 x]:=by rw[eln,htx];simp
   refine⟨⟨by omega,by omega⟩,?_⟩;refine⟨⟨by omega,by omega⟩,?_⟩;refine⟨_,hgx,?_⟩;refine⟨⟨by omega,by omega⟩,?_⟩;refine .inl ⟨⟨by omega,by omega⟩,?_⟩;refine⟨⟨by show 1*8≤_;omega,by show 1≤_;omega⟩,?_⟩
   refine next_spec (by omega) ha fun a5 n5 c5 H2 hle2 hr5=>?_
   have hg5:=gSort_len (nxt m x l);have hg6:=nxt_len m x l
   have hrt:(iRows t).take (((iRows t).length:Int) - 1).toNat=iRows t':=by rw[eln,htx];simp
   refine⟨[0,3,1,2,5],rfl,push11_spec (m:=m) (seen:=s) (todo:=t') hr5 hrt ⟨by rw[htx]at hpl;rw[List.length_append]at hpl;omega,by omega⟩ ?_⟩;rw[htx]at hI;have hstep:=rinv_step hI (g:=gSort (nxt m x l)) (fun y=>gSort_mem _ y);refine⟨((pst m (gSort (nxt m x l)) (s,t')).1,(pst m (gSort (nxt m x l)) (s,t')).2,[x]),[(0,0),(1,1),(2,2),(3,3),(4,8),(5,7)],rfl,?_,⟨hle2,hstep⟩⟩;exact⟨⟨rfl,⟨rfl,rfl⟩,rfl,⟨rfl,rfl⟩,⟨rfl,rfl⟩,trivial⟩,⟨⟨rfl,trivial⟩,⟨rfl,trivial⟩,rfl,⟨rfl,trivial⟩,rfl,rfl,trivial⟩⟩
  ·have ht:t=[]:=List.eq_nil_of_length_eq_zero (by have:=df h;omega);rw[ht]at hI;obtain⟨hR,hnd⟩:=rinv_end hI;refine⟨[],rfl,sortN_spec ?_⟩;exact hK _ _ _ [] _ (Le.refl H) ⟨rfl,Nat.le_refl _,by omega,.inl rfl⟩ List.Pairwise.nil hR
 ·rintro⟨s,t,o⟩ H1 _ ⟨hle,hI⟩;have hI:RInv m l f s t o:=hI;have hle:Le H H1:=hle;have hel:(iRows t).length=t.length:=List.length_map _
  have hM:s.length≤1000:=by have:=nodes_len hI.nd hI.node;omega
  have hpl:=hI.perm.length_eq;rw[List.length_append]at hpl;refine⟨fun h=>?_,fun h=>?_⟩
  ·have hpos:0<t.length:=by have:=dt h;simp only at this;omega
   obtain⟨t',x,rfl⟩:∃t' x,t=t'++[x]:=⟨t.dropLast,t.getLast (by intro e;rw[e]at hpos;cases hpos),(List.dropLast_concat_getLast _).symm⟩
   have eln:(((iRows (t'++[x])).length:Int) - 1).toNat=t'.length:=by rw[hel,List.length_append,List.length_singleton];omega
   have hgx:(iRows (t'++[x]))[(((iRows (t'++[x])).length:Int) - 1).toNat]?=some [.int .i64 x]:=by rw[eln];simp
   have hel2:(iRows (t'++[x])).length=t'.length+1:=by rw[hel,List.length_append];rfl
   have hpl2:o.length+(t'.length+1)=s.length:=by rw[List.length_append]at hpl;exact hpl
   refine⟨⟨by show _≤((iRows (t'++[x])).length:Int) - 1;omega,by show ((iRows (t'++[x])).length:Int) - 1≤_;omega⟩,?_⟩;refine⟨⟨by show 0≤((iRows (t'++[x])).length:Int) - 1;omega,by show ((iRows (t'++[x])).length:Int) - 1<((iRows (t'++[x])).length:Int);omega⟩,?_⟩;refine⟨_,hgx,?_⟩;refine⟨⟨by show _≤((iRows (t'++[x])).length:Int) - 1;omega,by show ((iRows (t'++[x])).length:Int) - 1≤_;omega⟩,?_⟩;refine .inl ⟨⟨by show 0≤((iRows (t'++[x])).length:Int) - 1;omega,by show ((iRows (t'++[x])).length:Int) - 1≤((iRows (t'++[x])).length:Int);omega⟩,?_⟩;have heo:(iRows o).length=o.length:=List.length_map _;refine⟨⟨by show ((iRows o).length+1)*8≤_;omega,by show (iRows o).length+1≤_;omega⟩,?_⟩
   refine next_spec (by omega) (ha.up hle) fun a5 n5 c5 H2 hle2 hr5=>?_
   have hg5:=gSort_len (nxt m x l);have hg6:=nxt_len m x l
   have hrt:(iRows (t'++[x])).take (((iRows (t'++[x])).length:Int) - 1).toNat=iRows t':=by rw[eln];simp
   refine⟨[0,3,1,2,6],rfl,push11_spec (m:=m) (seen:=s) (todo:=t') hr5 hrt ⟨by omega,by omega⟩ ?_⟩
   have erow:iRows o++[[.int .i64 x]]=iRows (o++[x]):=by simp
   have hstep:=rinv_step hI (g:=gSort (nxt m x l)) (fun y=>gSort_mem _ y);refine⟨((pst m (gSort (nxt m x l)) (s,t')).1,(pst m (gSort (nxt m x l)) (s,t')).2,o++[x]),[(0,0),(1,1),(2,2),(3,3),(4,9),(5,8)],rfl,?_,⟨hle.trans hle2,hstep⟩,?_⟩
   ·exact⟨⟨rfl,⟨rfl,rfl⟩,rfl,⟨rfl,rfl⟩,⟨rfl,rfl⟩,trivial⟩,⟨⟨rfl,trivial⟩,⟨rfl,trivial⟩,rfl,⟨rfl,trivial⟩,rfl,erow,trivial⟩⟩
   ·have:=nodes_len hI.nd hI.node;show m.toNat - (o++[x]).length<m.toNat - o.length;rw[List.length_append,List.length_singleton];omega
  ·have ht:t=[]:=List.eq_nil_of_length_eq_zero (by have:=df h;simp only at this;omega);subst ht;obtain⟨hR,hnd⟩:=rinv_end hI
   have hol:o.length≤1000:=by rw[List.length_nil]at hpl;omega
   refine⟨[5],rfl,sortI_spec (l:=o) (by omega) fun l' hl' hp hg=>?_⟩;intro y H2 hle2 hy;rw[gComp_nodup (hp.nodup_iff.2 hnd)]at hg;subst hg
   have hin:∀z∈gSort o,inI z:=fun z hz=>by
    have h1:=dt (hI.node z (hI.perm.mem_iff.1 (by simpa using (gSort_mem o z).1 hz)));exact⟨by omega,by omega⟩
   obtain⟨a1,n1,c1,rfl,hr⟩:=rI_all hy hin;refine hK _ _ _ _ _ (hle.trans hle2) hr (gSort_strict o) ⟨fun z hz hn=>(gSort_mem o z).2 (hR.from' z hz hn),fun z hz w hw=>(gSort_mem o w).2 (hR.closed z ((gSort_mem o z).1 hz) w hw),fun S h1 h2 z hz=>hR.least S h1 h2 z ((gSort_mem o z).1 hz)⟩
end Go.Proofs
end
section
namespace Go.Proofs
open Go.Sy
set_option maxRecDepth 20000
theorem strict_nodup {α:Type} [LO α] {l:List α} (h:StrictL l):l.Nodup:=h.imp fun {x y} h e=>by
 rw[e]at h;exact LO.irrefl y h
end Go.Proofs
end
section
namespace Go.Proofs
open Go.Sy
set_option maxRecDepth 20000
theorem room {n k:Nat} (h:n≤1000000000000:=by omega) (hk:k≤64:=by decide):(n+1)*k≤140737488355328∧n+1≤9223372036854775807:=by
 have:=Nat.mul_le_mul_left (n+1) hk;omega
end Go.Proofs
end
section
namespace Go.Proofs
open Go.Sy
def bget (M:List Bool) (x:Int):Bool:=M[x.toNat]?.getD false
def relax (m:Int) (M:List Bool) (e:Edg):List Bool:=if nodeI m e.1&&nodeI m e.2&&bget M e.1 then M.set e.2.toNat true else M
def round (m:Int) (l:List Edg) (M:List Bool):List Bool:=l.foldl (relax m) M
def LeM (M M':List Bool):Prop:=M.length=M'.length∧∀i:Nat,M[i]?=some true→M'[i]?=some true
theorem LeM.refl (M:List Bool):LeM M M:=⟨rfl,fun _ h=>h⟩
theorem LeM.trans {A B C:List Bool} (h:LeM A B) (h':LeM B C):LeM A C:=⟨h.1.trans h'.1,fun i hi=>h'.2 i (h.2 i hi)⟩
theorem bget_true {M:List Bool} {x:Int}:bget M x=true↔M[x.toNat]?=some true:=by
 rw[bget]
 cases M[x.toNat]? with
 | none=>simp
 | some b=>cases b<;>simp
theorem LeM.get {M M':List Bool} (h:LeM M M') {x:Int} (hx:bget M x=true):bget M' x=true:=bget_true.2 (h.2 _ (bget_true.1 hx))
theorem LeM.set (M:List Bool) (k:Nat):LeM M (M.set k true):=by
 refine⟨(List.length_set).symm,fun i hi=>?_⟩;rw[List.getElem?_set];split
 ·rename_i e;subst e;rw[if_pos (List.getElem?_eq_some_iff.1 hi).1]
 ·exact hi
def rounds (m:Int) (l:List Edg) (M:List Bool):Nat→List Bool
 | 0=>M
 | k+1=>round m l (rounds m l M k)
def mark (m:Int) (M:List Bool) (x:Int):List Bool:=if nodeI m x then M.set x.toNat true else M
def marks (m:Int) (f:List Int) (M:List Bool):List Bool:=f.foldl (mark m) M
def told (M:List Bool) (k:Nat):List Int:=((List.range k).filter fun (j:Nat)=>bget M (j:Int)).map fun (j:Nat)=>(j:Int)
end Go.Proofs
end
section
namespace Go.Proofs
open Go.Sy
set_option maxRecDepth 20000
set_option maxHeartbeats 4000000
end Go.Proofs
end
