/- Part 'M22' of the proof (V0, V1, V2, Ck0, Ck1, Ck2, Ck3, Ck4, Ck5, Ck6, Ck7, Ck8, Ck9, Ck10, Pr1, Pr2, Pr3, Pr4, Pr5, V3, V4, Deq): lemmas, each with its own conditions in its own statement. -/
import Derived.Sort.Walk0
import Derived.Test.YtheokcjommfopaaGreatDoorM15
import Derived.Test.YtheokcjommfopaaGreatDoorM19
import Derived.Test.YtheokcjommfopaaGreatDoorM20
set_option maxRecDepth 20000
set_option maxHeartbeats 4000000
section
namespace Go.Proofs
open Go.Sy
def bY (s:aQ) (q:List aQ×Bool) (x:aQ):List aQ×Bool :=
 if q.2=false∧(s<x∨s=x) then (if s<x then q.1++[s]++[x] else q.1++[x],true) else (q.1++[x],q.2)
def A9 (s:aQ) (l:List aQ):List aQ×Bool:=l.foldl (bY s) ([],decide (s=[]))
def iC (s:aQ) (l:List aQ):List aQ:=if (A9 s l).2 then (A9 s l).1 else (A9 s l).1++[s]
abbrev bq (l:List aQ):Prop:=l.Pairwise (·<·)
theorem eQ (a:aQ):¬a<a:=List.lt_irrefl a
theorem ku {a b c:aQ} (h:a<b) (h':b<c):a<c:=List.lt_trans h h'
theorem JE {a b:aQ} (h:a<b):¬b<a:=fun h'=>eQ a (ku h h')
theorem vN (a b:aQ):a<b∨a=b∨b<a:=by
 by_cases h1:a<b
 ·exact .inl h1
 ·by_cases h2:b<a
  ·exact .inr (.inr h2)
  ·exact .inr (.inl (List.le_antisymm (List.not_lt.1 h2) (List.not_lt.1 h1)))
theorem ux {s:aQ}:∀(l o:List aQ),(∀x∈l,x<s)→l.foldl (bY s) (o,false)=(o++l,false)
 | [],o,_=>by simp
 | x::r,o,h=>by
  have hx:=h x List.mem_cons_self
  have hn:¬(s<x∨s=x):=by
   rintro (h1 | h1)
   ·exact JE hx h1
   ·subst h1;exact eQ _ hx
  rw[List.foldl_cons,bY,if_neg (fun h=>hn h.2),ux r _ fun y hy=>h y (List.mem_cons_of_mem _ hy),List.append_assoc]
  rfl
theorem kx {s:aQ}:∀(l o:List aQ),l.foldl (bY s) (o,true)=(o++l,true)
 | [],o=>by simp
 | x::r,o=>by
  rw[List.foldl_cons,bY,if_neg (fun h=>by cases h.1),kx r,List.append_assoc]
  rfl
theorem Mt (l:List aQ):A9 [] l=(l,true):=by
 rw[A9,decide_eq_true rfl,kx];rfl
theorem mz (l:List aQ):iC [] l=l:=by rw[iC,Mt];rfl
theorem vO {s:aQ} {l:List aQ} {i:Nat} (hs:s≠[]) (hi:i≤l.length) (h1:∀x∈l.take i,x<s) (h2:∀x,l[i]?=some x→¬x<s):
  iC s l=if l[i]?=some s then l else lD i s l:=by
 have e0:A9 s l=(l.drop i).foldl (bY s) (l.take i,false):=by
  have e:l=l.take i++l.drop i:=(List.take_append_drop i l).symm;rw[A9,decide_eq_false hs]
  conv=>lhs;rw[e,List.foldl_append,ux _ _ h1]
  rfl
 by_cases aj:i<l.length
 ·have hg:=aL aj;have hd:=List.drop_eq_getElem_cons aj;have hn:=h2 _ hg;rw[hd,List.foldl_cons]at e0;rw[hg,lD,hd]
  rcases vN s l[i] with h | h | h
  ·rw[bY,if_pos ⟨rfl,.inl h⟩,if_pos h,kx]at e0
   have cu:¬some l[i]=some s:=by
    intro he;simp only[Option.some.injEq]at he;rw[he]at h;exact eQ _ h
   rw[iC,e0,if_neg cu];simp
  ·rw[bY,if_pos ⟨rfl,.inr h⟩,if_neg (by rw[←h];exact eQ _),kx]at e0;rw[iC,e0,h,if_pos rfl,if_pos rfl];simp only[List.append_assoc,List.singleton_append];rw[←hd,List.take_append_drop]
  ·exact absurd h hn
 ·have aX:i=l.length:=by omega
  subst aX;rw[List.drop_length,List.foldl_nil]at e0;rw[iC,e0,List.getElem?_eq_none (Nat.le_refl _),lD,List.drop_length,if_neg (by simp),if_neg (by simp)]
theorem Ba {s:aQ} {l:List aQ} {i:Nat} (hl:bq l) (h1:∀x∈l.take i,x<s) (h2:∀x∈l.drop i,s<x):bq (lD i s l):=by
 have e:l=l.take i++l.drop i:=(List.take_append_drop i l).symm;unfold bq at *;rw[e,List.pairwise_append]at hl;rw[lD,List.pairwise_append,List.pairwise_cons];refine⟨hl.1,⟨h2,hl.2.1⟩,fun a ha b hb=>?_⟩
 rcases List.mem_cons.1 hb with rfl | hb
 ·exact h1 a ha
 ·exact hl.2.2 a ha b hb
theorem lower {l:List aQ} (hl:bq l) (s:aQ):∃i,i≤l.length∧(∀x∈l.take i,x<s)∧∀x∈l.drop i,¬x<s:=by
 induction l with
 | nil=>exact⟨0,Nat.le_refl _,by simp,by simp⟩
 | cons y r ih =>
  have hp:=List.pairwise_cons.1 hl
  by_cases h:y<s
  ·obtain⟨i,h1,h2,h3⟩:=ih hp.2;refine⟨i+1,by simpa using h1,fun x hx=>?_,by simpa using h3⟩;rw[List.take_succ_cons,List.mem_cons]at hx
   rcases hx with rfl | hx
   ·exact h
   ·exact h2 x hx
  ·refine⟨0,Nat.zero_le _,by simp,fun x hx=>?_⟩;rw[List.drop_zero,List.mem_cons]at hx
   rcases hx with rfl | hx
   ·exact h
   ·exact fun yX=>h (ku (hp.1 x hx) yX)
theorem F0 {l:List aQ} {i:Nat} {s:aQ} (hl:bq l) (h2:∀x∈l.drop i,¬x<s) (cu:l[i]?≠some s):∀x∈l.drop i,s<x:=by
 intro x hx
 rcases vN s x with h | h | h
 ·exact h
 ·subst h;exfalso;obtain⟨j,hj,e⟩:=List.mem_iff_getElem.1 hx;rw[List.getElem_drop]at e;rw[List.length_drop]at hj
  by_cases NY:j=0
  ·subst NY;apply cu;rw[aL (by omega)];simp only[Nat.add_zero]at e;rw[e]
  ·have aj:i<l.length:=by omega
   have:=List.pairwise_iff_getElem.1 hl i (i+j) aj (by omega) (by omega);rw[e]at this;refine h2 l[i] ?_ this;rw[List.drop_eq_getElem_cons aj];exact List.mem_cons_self
 ·exact absurd h (h2 x hx)
theorem uy {l:List aQ} (hl:bq l) (s:aQ):bq (iC s l):=by
 by_cases hs:s=[]
 ·subst hs;rw[mz];exact hl
 ·obtain⟨i,h1,h2,h3⟩:=lower hl s
  have h4:∀x,l[i]?=some x→¬x<s:=fun x hx=>h3 x (by
   obtain⟨aj,e⟩:=gh.1 hx;rw[List.drop_eq_getElem_cons aj]
   exact e▸List.mem_cons_self)
  rw[vO hs h1 h2 h4];split
  ·exact hl
  ·rename_i h;exact Ba hl h2 (F0 hl h3 h)
theorem xa (s:aQ):∀(l:List aQ) (q:List aQ×Bool),(l.foldl (bY s) q).1.length≤q.1.length+l.length+(if q.2 then 0 else 1)∧((l.foldl (bY s) q).2=false→(l.foldl (bY s) q).1.length≤q.1.length+l.length)
 | [],q=>by constructor<;>simp
 | x::r,q=>by
  obtain⟨o,d⟩:=q;rw[List.foldl_cons];cases d
  ·by_cases h:s<x∨s=x
   ·have e1:bY s (o,false) x=(if s<x then o++[s]++[x] else o++[x],true):=by rw[bY,if_pos ⟨rfl,h⟩]
    rw[e1,kx];refine⟨?_,fun h=>by cases h⟩;simp only[Bool.false_eq_true,if_false,List.length_append,List.length_cons]
    split<;>simp only[List.length_append,List.length_singleton]<;>omega
   ·have e1:bY s (o,false) x=(o++[x],false):=by rw[bY,if_neg (fun hh=>h hh.2)]
    have ih:=xa s r (o++[x],false);rw[e1];simp only[Bool.false_eq_true,if_false,List.length_append,List.length_cons,List.length_nil]at ih ⊢;exact⟨by have:=ih.1;omega,fun hh=>by have:=ih.2 hh;omega⟩
  ·have e1:bY s (o,true) x=(o++[x],true):=by rw[bY,if_neg (fun hh=>by cases hh.1)]
   rw[e1,kx];refine⟨?_,fun h=>by cases h⟩;simp only[if_true,List.length_append,List.length_cons,List.length_nil];omega
theorem xb (s:aQ) (l:List aQ):(iC s l).length≤l.length+1:=by
 have h:=xa s l ([],decide (s=[]));unfold iC A9;simp only[List.length_nil]at h;split
 ·have:=h.1;split at this<;>omega
 ·rename_i hf;have:=h.2 (by simpa using hf)
  rw[List.length_append,List.length_singleton];omega
theorem xc (s:aQ):∀(l:List aQ) (q:List aQ×Bool) {t:aQ},t∈(l.foldl (bY s) q).1→t∈q.1∨t∈l∨t=s
 | [],q,t,h=>.inl h
 | x::r,q,t,h=>by
  rw[List.foldl_cons]at h
  rcases xc s r _ h with h | h | h
  ·have:t∈q.1∨t=s∨t=x:=by
    unfold bY at h;split at h
    ·simp only at h;split at h
     ·simp only[List.mem_append,List.mem_singleton]at h
      rcases h with (h | h) | h
      ·exact .inl h
      ·exact .inr (.inl h)
      ·exact .inr (.inr h)
     ·simp only[List.mem_append,List.mem_singleton]at h
      rcases h with h | h
      ·exact .inl h
      ·exact .inr (.inr h)
    ·simp only[List.mem_append,List.mem_singleton]at h
     rcases h with h | h
     ·exact .inl h
     ·exact .inr (.inr h)
   rcases this with h | h | h
   ·exact .inl h
   ·exact .inr (.inr h)
   ·exact .inr (.inl (h▸List.mem_cons_self))
  ·exact .inr (.inl (List.mem_cons_of_mem _ h))
  ·exact .inr (.inr h)
theorem r8 {s:aQ} {l:List aQ} {t:aQ} (h:t∈iC s l):t∈l∨t=s:=by
 unfold iC at h;split at h
 ·rcases xc s l _ h with h | h
  ·cases h
  ·exact h
 ·rw[List.mem_append]at h
  rcases h with h | h
  ·rcases xc s l _ h with h | h
   ·cases h
   ·exact h
  ·exact .inr (List.mem_singleton.1 h)
theorem O2 {l:List aQ} {t:aQ} {k:Nat} (hl:bq l) (hk:k<l.length) (h:l[k]<t):∀x∈l.take (k+1),x<t:=by
 intro x hx;obtain⟨m,hm,rfl⟩:=List.mem_iff_getElem.1 hx;rw[List.length_take]at hm;rw[List.getElem_take]
 by_cases TR:m=k
 ·subst TR;exact h
 ·exact ku (List.pairwise_iff_getElem.1 hl m k (by omega) hk (by omega)) h
theorem O3 {l:List aQ} {t:aQ} {k:Nat} (hl:bq l) (hk:k<l.length) (h:¬l[k]<t):∀x∈l.drop k,¬x<t:=by
 intro x hx Wf;obtain⟨m,hm,rfl⟩:=List.mem_iff_getElem.1 hx;rw[List.length_drop]at hm;rw[List.getElem_drop]at Wf
 by_cases V9:m=0
 ·subst V9;exact h Wf
 ·exact h (ku (List.pairwise_iff_getElem.1 hl k (k+m) hk (by omega) (by omega)) Wf)
end Go.Proofs
end
section
namespace Go.Proofs
open Go.Sy
open Tryz
variable {H:Hp} {K:Value→Hp→Prop}
theorem Mu {s:List UInt8} (hK:K (.bool false) H):aq prog 198 [.string (bs s)] H K:=by
 refine ab af aa rfl func198 call198 ntmps198 results198 rfl rfl ?_;exact aA hK (by simp)
theorem JF {s:List UInt8} (hK:K (.bool false) H):aq prog 143 [.string (bs s)] H K:=by
 refine ab af aa rfl func143 call143 ntmps143 results143 rfl rfl ?_;exact aA hK (by simp)
theorem Qv (a b:List UInt8):Op.bytesLess a b=decide (a<b):=bytesLess_eq a b
theorem Bb (a b:List UInt8):Op.bytesLess (sl (bs a)) (sl (bs b))=true↔a<b:=by rw[dM,dM,Qv,decide_eq_true_iff]
theorem Ij (a b:List UInt8):(Op.bytesLess (sl (bs a)) (sl (bs b))||decide (sl (bs a)=sl (bs b)))=true↔a<b∨a=b:=by
 rw[Bool.or_eq_true,Bb,decide_eq_true_iff,dM,dM]
theorem JG {a b:List UInt8} (hK:K (.bool (decide (a<b))) H):aq prog 142 [.string (bs a),.string (bs b)] H K:=by
 refine ab af aa rfl func142 call142 ntmps142 results142 rfl rfl ?_;refine Mu ?_;refine⟨(fun h=>by cases h),fun _=>?_⟩;exact aA hK (Qv a b).symm
abbrev gv (s:aQ) (l:List iz) (i:Nat):List aQ×Bool:=(vm (l.take i)).foldl (bY s) ([],decide (s=[]))
theorem JH {s:aQ} {l:List iz} {i:Nat} {x:iz} (h:l[i]?=some x):gv s l (i+1)=bY s (gv s l i) x.l:=by
 unfold gv vm;rw[List.map_take,List.map_take,eC _ _ (by rw[List.getElem?_map,h];rfl)]
theorem Mv {s:aQ} {l:List iz} {i:Nat} (hi:i≤l.length):(gv s l i).1.length≤i+1:=by
 have h:=(xa s (vm (l.take i)) ([],decide (s=[]))).1;simp only[List.length_nil,List.length_map,List.length_take]at h;unfold gv
 split at h<;>omega
theorem dC (l:List aQ) (s:aQ):ay l++[[.string (bs s)]]=ay (l++[s]):=by simp
theorem r9 {l:List iz} {a:Option Addr} {n c:Nat} {s:aQ} (ha:RL H a n c l) (hs:s.length≤9223372036854775807) (hn:l.length<1000000)
  (hK:∀a' n' c' H',Le H H'→RL H' a' n' c' (iA (iC s (vm l)))→K (.slice a' n' c') H'):aq prog 58 [.slice a n c,.string (bs s)] H K:=by
 have dd:=ha.aB;refine ab af aa rfl func58 call58 ntmps58 results58 rfl rfl ?_
 refine⟨Nat,fun i=>⟨[(1,.v (.string (bs s))),(5,.own 0),(6,.v (.bool (gv s l i).2)),(11,.v (.slice a n c)),(12,.v (.int .i64 n)),(13,.v (.int .i64 i))],[(0,.row 9 1 (ay (gv s l i).1))],1⟩,
  fun i H'=>H'=H∧i≤l.length,fun i=>l.length - i,⟨0,[],?_,rfl,by omega⟩,?_⟩
 ·exact⟨⟨rfl,⟨rfl,rfl,rfl⟩,rfl,rfl,rfl,rfl,trivial⟩,⟨rfl,trivial⟩⟩
 rintro i H1 _ ⟨rfl,hi⟩;have aX:=Mv (s:=s) hi;refine⟨fun h=>?_,fun h=>?_⟩
 ·have aj:i<l.length:=by have:=dt h;omega
  have hx:=aL aj;obtain⟨ad,cs,e1,hh,rfl,hl⟩:=ha.elem hx;have bc:=JH (s:=s) hx;refine⟨ad,⟨by omega,by omega,e1⟩,?_⟩;refine⟨_,hh,?_⟩
  have app:∀ {o:List aQ},o.length≤2000000→(((ay o).length+1)*16≤140737488355328∧(ay o).length+1≤9223372036854775807):=fun h=>by
   simp only[List.length_map];omega
  refine⟨fun h=>?_,fun h=>?_⟩
  ·have hd:(gv s l i).2=false:=by simpa using h
   refine⟨fun h=>?_,fun h=>?_⟩
   ·have hle:s<l[i].l∨s=l[i].l:=(Ij _ _).1 h;refine⟨fun h=>?_,fun h=>?_⟩
    ·have dK:s<l[i].l:=(Bb _ _).1 h
     have e:ay (gv s l i).1++[[Value.string (bs s)]]++[[Value.string (bs l[i].l)]]=ay (gv s l (i+1)).1:=by
      rw[bc,bY,if_pos ⟨hd,hle⟩,if_pos dK,dC,dC]
     have e2:(gv s l (i+1)).2=true:=by rw[bc,bY,if_pos ⟨hd,hle⟩]
     refine⟨app (by omega),?_⟩;refine⟨by show ((ay (gv s l i).1++[[Value.string (bs s)]]).length+1)*16≤_∧(ay (gv s l i).1++[[Value.string (bs s)]]).length+1≤_;rw[dC];exact app (by rw[List.length_append,List.length_singleton];omega),?_⟩;refine⟨⟨by omega,by omega⟩,i+1,[(0,4)],?_,⟨rfl,by omega⟩,by dsimp only;omega⟩;exact⟨⟨rfl,rfl,congrArg Value.bool e2,rfl,rfl,rfl,trivial⟩,⟨e,trivial⟩⟩
    ·have dK:¬s<l[i].l:=fun hh=>by rw[(Bb _ _).2 hh]at h;cases h
     have e:ay (gv s l i).1++[[Value.string (bs l[i].l)]]=ay (gv s l (i+1)).1:=by
      rw[bc,bY,if_pos ⟨hd,hle⟩,if_neg dK,dC]
     have e2:(gv s l (i+1)).2=true:=by rw[bc,bY,if_pos ⟨hd,hle⟩]
     refine⟨app (by omega),?_⟩;refine⟨⟨by omega,by omega⟩,i+1,[(0,2)],?_,⟨rfl,by omega⟩,by dsimp only;omega⟩;exact⟨⟨rfl,rfl,congrArg Value.bool e2,rfl,rfl,rfl,trivial⟩,⟨e,trivial⟩⟩
   ·have hle:¬(s<l[i].l∨s=l[i].l):=fun hh=>by rw[(Ij _ _).2 hh]at h;cases h
    have e:ay (gv s l i).1++[[Value.string (bs l[i].l)]]=ay (gv s l (i+1)).1:=by
     rw[bc,bY,if_neg (fun hh=>hle hh.2),dC]
    have e2:(gv s l (i+1)).2=(gv s l i).2:=by rw[bc,bY,if_neg (fun hh=>hle hh.2)]
    refine⟨app (by omega),?_⟩;refine⟨⟨by omega,by omega⟩,i+1,[(0,2)],?_,⟨rfl,by omega⟩,by dsimp only;omega⟩;exact⟨⟨rfl,rfl,congrArg (fun b=>SV.v (.bool b)) e2.symm,rfl,rfl,rfl,trivial⟩,⟨e,trivial⟩⟩
  ·have hd:(gv s l i).2=true:=by simpa using h
   have TZ:¬((gv s l i).2=false∧(s<l[i].l∨s=l[i].l)):=fun hh=>by rw[hd]at hh;cases hh.1
   have e:ay (gv s l i).1++[[Value.string (bs l[i].l)]]=ay (gv s l (i+1)).1:=by
    rw[bc,bY,if_neg TZ,dC]
   have e2:(gv s l (i+1)).2=(gv s l i).2:=by rw[bc,bY,if_neg TZ]
   refine⟨app (by omega),?_⟩;refine⟨⟨by omega,by omega⟩,i+1,[(0,2)],?_,⟨rfl,by omega⟩,by dsimp only;omega⟩;exact⟨⟨rfl,rfl,congrArg (fun b=>SV.v (.bool b)) e2.symm,rfl,rfl,rfl,trivial⟩,⟨e,trivial⟩⟩
 ·have aX:i=l.length:=by have:=df h;omega
  have dm:∀t∈iC s (vm l),t.length≤9223372036854775807:=fun t ht=>by
   rcases r8 ht with h | rfl
   ·obtain⟨x,hx,rfl⟩:=List.mem_map.1 h;obtain⟨j,hj⟩:=List.getElem?_of_mem hx;obtain⟨_,_,_,_,_,hl⟩:=ha.elem hj;exact hl
   ·exact hs
  have e0:gv s l i=A9 s (vm l):=by rw[aX,gv,List.take_length];rfl
  refine⟨fun h=>?_,fun h=>?_⟩
  ·have hd:(gv s l i).2=false:=by simpa using h
   refine⟨by show ((ay _).length+1)*16≤_∧(ay _).length+1≤_;simp only[List.length_map];omega,?_⟩;intro x H2 ah hx
   have e:ay (gv s l i).1++[[Value.string (bs s)]]=ay (iC s (vm l)):=by
    rw[dC,iC,←e0,if_neg (by rw[hd];decide)]
   have hx:aW H2 x 1 (ay (gv s l i).1++[[Value.string (bs s)]]):=hx;rw[e]at hx;obtain⟨a',n',c',rfl,hr⟩:=RL.aC (α:=iz) hx (dU dm);exact hK _ _ _ _ ah hr
  ·have hd:(gv s l i).2=true:=by simpa using h
   intro x H2 ah hx
   have e:ay (gv s l i).1=ay (iC s (vm l)):=by
    rw[iC,←e0,if_pos hd]
   rw[e]at hx;obtain⟨a',n',c',rfl,hr⟩:=RL.aC (α:=iz) hx (dU dm);exact hK _ _ _ _ ah hr
theorem Dn {l:List aQ} {t:aQ} (hl:bq l) (hn:l.length<1000000) {H:Hp} {K:SV→St→Hp→Prop}
  (hK:∀i:Nat,i≤l.length→(∀x∈l.take i,x<t)→(∀x∈l.drop i,¬x<t)→(l[i]?=some t→K (.eo [.v (.int .i64 i),.kb true]) ⟨[],[(0,.row 9 1 (ay l))],1⟩ H) ∧
   (l[i]?≠some t→K (.eo [.v (.int .i64 i),.kb false]) ⟨[],[(0,.row 9 1 (ay l))],1⟩ H)):
  aY prog 93 [.own 0,.v (.string (bs t))] [(0,.row 9 1 (ay l))] 1 H K:=by
 refine aJ af aa func93 call93 ntmps93 results93 rfl rfl ?_
 refine⟨Nat×Nat,fun p=>⟨[(0,.own 0),(1,.v (.string (bs t))),(6,.v (.int .i64 (ay l).length)),(7,.v (.int .i64 p.1)),(8,.v (.int .i64 p.2))],[(0,.row 9 1 (ay l))],1⟩,
  fun p H'=>H'=H∧p.1≤p.2∧p.2≤l.length∧(∀x∈l.take p.1,x<t)∧(∀x∈l.drop p.2,¬x<t),fun p=>p.2 - p.1,⟨(0,(ay l).length),[(0,0)],?_,rfl,by simp,by simp,by simp,by simp⟩,?_⟩
 ·exact⟨⟨rfl,rfl,rfl,rfl,rfl,trivial⟩,⟨rfl,trivial⟩⟩
 rintro⟨i,j⟩ H1 _ ⟨rfl,h1,h2,h3,h4⟩;simp only at h1 h2 h3 h4;refine⟨fun h=>?_,fun h=>?_⟩
 ·have Me:i<j:=by have:=dt h;simp only at this;omega
  have aj:(i+j) / 2<l.length:=by omega
  refine⟨⟨by simp only;omega,by simp only;omega⟩,⟨by simp only;omega,by simp only;omega⟩,by decide,?_⟩
  have he:(((i,j).fst:Int)+((i,j).snd:Int)).fdiv (2 ^ min (Int.toNat 1) IntKind.u64.bits)=(((i+j) / 2:Nat):Int):=by
   rw[Int.fdiv_eq_ediv_of_nonneg _ (by decide)];show ((i:Int)+(j:Int)) / 2=_;omega
  obtain⟨k,hk⟩:∃k,k=(i+j) / 2:=⟨_,rfl⟩
  rw[←hk]at he aj
  have hg:(ay l)[((((i,j).fst:Int)+((i,j).snd:Int)).fdiv (2 ^ min (Int.toNat 1) IntKind.u64.bits)).toNat]?=some [.string (bs l[k])]:=by
   rw[he,Int.toNat_natCast,List.getElem?_map,aL aj];rfl
  refine⟨⟨by rw[he];omega,by rw[he];omega⟩,?_⟩;refine⟨⟨by rw[he];omega,by rw[he,List.length_map];omega⟩,?_⟩;refine⟨_,hg,?_⟩;refine JG ?_;refine⟨fun h=>?_,fun h=>?_⟩
  ·refine⟨⟨by rw[he];omega,by rw[he];omega⟩,(k+1,j),[(0,0)],?_,⟨rfl,by dsimp only;omega,h2,O2 hl aj (dt h),h4⟩,by dsimp only;omega⟩;exact⟨⟨rfl,rfl,rfl,congrArg (fun n=>SV.v (.int .i64 n)) (by rw[he];rfl),rfl,trivial⟩,⟨rfl,trivial⟩⟩
  ·refine⟨(i,k),[(0,0)],?_,⟨rfl,by dsimp only;omega,by dsimp only;omega,h3,O3 hl aj (df h)⟩,by dsimp only;omega⟩;exact⟨⟨rfl,rfl,rfl,rfl,congrArg (fun n=>SV.v (.int .i64 n)) he,trivial⟩,⟨rfl,trivial⟩⟩
 ·have Me:i=j:=by have:=df h;simp only at this;omega
  subst Me;have h9:=hK i h2 h3 h4;refine⟨fun h=>?_,fun h=>?_⟩
  ·have aj:i<l.length:=by have:=dt h;rw[List.length_map]at this;simp only at this;omega
   rw[aL aj]at h9;refine⟨⟨by simp only;omega,by rw[List.length_map];simp only;omega⟩,?_⟩;refine⟨[.string (bs l[i])],by show (ay l)[((i:Nat):Int).toNat]?=_;rw[Int.toNat_natCast,List.getElem?_map,aL aj];rfl,?_⟩
   have hg:(ay l)[(((i,i).fst:Int)).toNat]?=some [.string (bs l[i])]:=by
    show (ay l)[((i:Nat):Int).toNat]?=_
    rw[Int.toNat_natCast,List.getElem?_map,aL aj];rfl
   refine⟨fun h=>?_,fun h=>?_⟩
   ·refine⟨⟨by simp only;omega,by rw[List.length_map];simp only;omega⟩,?_⟩;refine⟨_,hg,?_⟩;refine JF ?_;refine⟨(fun h=>by cases h),fun _=>?_⟩;have cu:l[i]≠t:=df h;exact⟨.eo [.v (.int .i64 i),.kb false],[(0,.row 9 1 (ay l))],1,[(0,0)],⟨⟨⟨rfl,rfl⟩,trivial⟩,⟨rfl,trivial⟩⟩,h9.2 (by simpa using cu)⟩
   ·have he:l[i]=t:=by
     have h:decide (sl (bs l[i])=sl (bs t))=true:=by cases hh:decide (sl (bs l[i])=sl (bs t))<;>simp_all
     exact dt h
    exact⟨.eo [.v (.int .i64 i),.kb true],[(0,.row 9 1 (ay l))],1,[(0,0)],⟨⟨⟨rfl,rfl⟩,trivial⟩,⟨rfl,trivial⟩⟩,h9.1 (by rw[he])⟩
  ·have aX:i=l.length:=by have:=df h;rw[List.length_map]at this;simp only at this;omega
   rw[List.getElem?_eq_none (by omega)]at h9;exact⟨.eo [.v (.int .i64 i),.kb false],[(0,.row 9 1 (ay l))],1,[(0,0)],⟨⟨⟨rfl,rfl⟩,trivial⟩,⟨rfl,trivial⟩⟩,h9.2 (by simp)⟩
abbrev cellOf (l:List aQ):List (Nat×Bx):=[(0,.cells 71 [.own 1]),(1,.row 9 1 (ay l))]
abbrev cY (vs out:List aQ):List aQ:=vs.foldl (fun o v=>iC v o) out
theorem eb:∀(vs:List aQ) {l:List aQ},bq l→bq (cY vs l)
 | [],_,h=>h
 | v::r,_,h=>eb r (uy h v)
theorem kL:∀(vs l:List aQ),(cY vs l).length≤l.length+vs.length
 | [],l=>by simp [cY]
 | v::r,l=>by
  have h1:=kL r (iC v l);have h2:=xb v l;simp only[cY,List.foldl_cons,List.length_cons]at h1 ⊢;omega
theorem zw {vs:List iz} {a:Option Addr} {n c:Nat} {l:List aQ} {H:Hp} {K:SV→St→Hp→Prop} (ha:RL H a n c vs) (hl:bq l) (hn:l.length+vs.length<1000000)
  (hK:K (.eo []) ⟨[],[(0,.cells 71 [.own 2]),(1,.dead),(2,.row 9 1 (ay (cY (vm vs) l)))],3⟩ H):
  aY prog 92 [.v (.slice a n c),.ptr 0 0] (cellOf l) 2 H K:=by
 have dd:=ha.aB;refine aJ af aa func92 call92 ntmps92 results92 rfl rfl ?_
 refine⟨Nat,fun i=>⟨[(1,.ptr 0 0),(7,.v (.slice a n c)),(8,.v (.int .i64 n)),(9,.v (.int .i64 i))],[(0,.cells 71 [.own 2]),(1,.dead),(2,.row 9 1 (ay (cY (vm (vs.take i)) l)))],3⟩,
  fun i H'=>H'=H∧i≤vs.length,fun i=>vs.length - i,⟨0,[(0,0),(2,1)],?_,rfl,by omega⟩,?_⟩
 ·exact⟨⟨⟨rfl,rfl⟩,rfl,rfl,rfl,trivial⟩,⟨⟨rfl,trivial⟩,trivial,rfl,trivial⟩⟩
 rintro i H1 _ ⟨rfl,hi⟩;refine⟨fun h=>?_,fun h=>?_⟩
 ·have aj:i<vs.length:=by have:=dt h;omega
  have hx:=aL aj;obtain⟨ad,cs,e1,hh,rfl,vi⟩:=ha.elem hx;refine⟨ad,⟨by omega,by omega,e1⟩,?_⟩;refine⟨_,hh,?_⟩;refine⟨[2],rfl,?_⟩
  refine Dn (eb _ hl) (by have:=kL (vm (vs.take i)) l;simp only[List.length_map,List.length_take]at this;omega) fun k h1 h2 h3=>?_
  obtain⟨o,ho⟩:∃o,o=cY (vm (vs.take i)) l:=⟨_,rfl⟩
  rw[←ho]at h1 h2 h3
  have Tb:o.length≤l.length+i:=by
   have:=kL (vm (vs.take i)) l;rw[←ho,List.length_map,List.length_take]at this;omega
  have fE:cY (vm (vs.take (i+1))) l=iC vs[i].l o:=by
   rw[ho];unfold cY vm;rw[List.map_take,List.map_take,eC _ _ (by rw[List.getElem?_map,hx];rfl)]
  have h4:∀x,o[k]?=some x→¬x<vs[i].l:=fun x hx=>h3 x (by
   obtain⟨aj,e⟩:=gh.1 hx;rw[List.drop_eq_getElem_cons aj]
   exact e▸List.mem_cons_self)
  refine⟨fun hf=>?_,fun hf=>?_⟩
  ·rw[←ho]at hf
   have e:iC vs[i].l o=o:=by
    by_cases hv:vs[i].l=[]
    ·rw[hv,mz]
    ·rw[vO hv h1 h2 h4,if_pos hf]
   have e5:ay (cY (vm (vs.take i)) l)=ay (cY (vm (vs.take (i+1))) l):=by rw[fE,e,ho]
   refine⟨⟨by omega,by omega⟩,i+1,[(0,0),(2,2)],?_,⟨rfl,by omega⟩,by dsimp only;omega⟩;exact⟨⟨⟨rfl,rfl⟩,rfl,rfl,rfl,trivial⟩,⟨⟨rfl,trivial⟩,trivial,e5,trivial⟩⟩
  ·rw[←ho]at hf;refine⟨fun h=>?_,fun h=>?_⟩
   ·have hv:vs[i].l≠[]:=nt h;refine⟨[2,3],rfl,?_⟩;rw[←ho];refine Dj h1 (by omega) ?_
    have e5:ay (lD k vs[i].l o)=ay (cY (vm (vs.take (i+1))) l):=by rw[fE,vO hv h1 h2 h4,if_neg hf]
    refine⟨⟨by omega,by omega⟩,i+1,[(0,0),(2,4)],?_,⟨rfl,by omega⟩,by dsimp only;omega⟩;exact⟨⟨⟨rfl,rfl⟩,rfl,rfl,rfl,trivial⟩,⟨⟨rfl,trivial⟩,trivial,e5,trivial⟩⟩
   ·have hv:vs[i].l=[]:=nf h
    have e5:ay (cY (vm (vs.take i)) l)=ay (cY (vm (vs.take (i+1))) l):=by rw[fE,hv,mz,ho]
    refine⟨⟨by omega,by omega⟩,i+1,[(0,0),(2,2)],?_,⟨rfl,by omega⟩,by dsimp only;omega⟩;exact⟨⟨⟨rfl,rfl⟩,rfl,rfl,rfl,trivial⟩,⟨⟨rfl,trivial⟩,trivial,e5,trivial⟩⟩
 ·have aX:i=vs.length:=by have:=df h;omega
  rw[aX,List.take_length];exact⟨.eo [],[(0,.cells 71 [.own 2]),(1,.dead),(2,.row 9 1 (ay (cY (vm vs) l)))],3,[(0,0),(2,2)],⟨⟨⟨rfl,rfl⟩,trivial⟩,⟨⟨rfl,trivial⟩,trivial,rfl,trivial⟩⟩,hK⟩
end Go.Proofs
end
section
namespace Go.Proofs
open Go.Sy
open Tryz
variable {H:Hp} {K:Value→Hp→Prop}
abbrev ie (s:Stmt):List aQ:=[s.2.1.l,s.2.2.2.1.1.l,s.2.2.2.2.1.l]
abbrev fH (o:List aQ) (l:List Stmt):List aQ:=l.foldl (fun o s=>cY (ie s) o) o
abbrev dW (o:List aQ) (b:Block):List aQ:=cY [b.2.2.2.1.1.l] (fH o b.2.1)
def varsOf (p:Prog):List aQ:=p.foldl dW []
theorem fY:∀(l:List Stmt) {o:List aQ},bq o→bq (fH o l)
 | [],_,h=>h
 | s::r,_,h=>fY r (eb (ie s) h)
theorem pW:∀(l:List Stmt) (o:List aQ),(fH o l).length≤o.length+3*l.length
 | [],o=>by simp [fH]
 | s::r,o=>by
  have h1:=pW r (cY (ie s) o);have h2:=kL (ie s) o;simp only[fH,List.foldl_cons,List.length_cons,List.length_nil]at h1 h2 ⊢;omega
def iE (p:Prog):Nat:=(p.map fun b=>3*b.2.1.length+1).sum
theorem O4 (o:List aQ) (b:Block):(dW o b).length≤o.length+(3*b.2.1.length+1):=by
 have h1:=kL [b.2.2.2.1.1.l] (fH o b.2.1);have h2:=pW b.2.1 o;simp only[List.length_singleton]at h1;unfold dW;omega
theorem xd:∀(p:Prog) (o:List aQ),(p.foldl dW o).length≤o.length+iE p
 | [],o=>by simp [iE]
 | b::r,o=>by
  have h1:=xd r (dW o b);have h2:=O4 o b;simp only[iE,List.foldl_cons,List.map_cons,List.sum_cons]at h1 h2 ⊢;omega
theorem fI:∀(p:Prog) {o:List aQ},bq o→bq (p.foldl dW o)
 | [],_,h=>h
 | b::r,_,h=>fI r (eb _ (fY b.2.1 h))
theorem xe:∀(p:Prog) {i:Nat} {b:Block},p[i]?=some b→iE (p.take i)+(3*b.2.1.length+1)≤iE p
 | [],i,b,h=>by simp at h
 | x::r,0,b,h=>by
  simp only[List.getElem?_cons_zero,Option.some.injEq]at h;subst h;simp [iE]
 | x::r,i+1,b,h=>by
  rw[List.getElem?_cons_succ]at h;have:=xe r h;simp only[iE,List.take_succ_cons,List.map_cons,List.sum_cons]at this ⊢;omega
theorem nB:∀(vs:List aQ) {o:List aQ} {t:aQ},t∈cY vs o→t∈o∨t∈vs
 | [],_,_,h=>.inl h
 | v::r,o,t,h=>by
  rcases nB r h with h | h
  ·rcases r8 h with h | h
   ·exact .inl h
   ·exact .inr (h▸List.mem_cons_self)
  ·exact .inr (List.mem_cons_of_mem _ h)
theorem zx:∀(l:List Stmt) {o:List aQ} {t:aQ},t∈fH o l→t∈o∨∃s∈l,t∈ie s
 | [],_,_,h=>.inl h
 | s::r,o,t,h=>by
  rcases zx r h with h | ⟨s',h1,h2⟩
  ·rcases nB _ h with h | h
   ·exact .inl h
   ·exact .inr ⟨s,List.mem_cons_self,h⟩
  ·exact .inr ⟨s',List.mem_cons_of_mem _ h1,h2⟩
theorem mA:∀(p:Prog) {o:List aQ} {t:aQ},t∈p.foldl dW o→t∈o∨∃b∈p,t=b.2.2.2.1.1.l∨∃s∈b.2.1,t∈ie s
 | [],_,_,h=>.inl h
 | b::r,o,t,h=>by
  rcases mA r h with h | ⟨b',h1,h2⟩
  ·rcases nB _ h with h | h
   ·rcases zx _ h with h | h
    ·exact .inl h
    ·exact .inr ⟨b,List.mem_cons_self,.inr h⟩
   ·exact .inr ⟨b,List.mem_cons_self,.inl (List.mem_singleton.1 h)⟩
  ·exact .inr ⟨b',List.mem_cons_of_mem _ h1,h2⟩
theorem Mw {p:Prog} {a:Option Addr} {n c:Nat} {H:Hp} (ha:RL H a n c p):∀t∈varsOf p,t.length≤9223372036854775807:=by
 intro t ht
 rcases mA p ht with h | ⟨b,hb,h⟩
 ·cases h
 ·obtain⟨cs,hr⟩:=qO ha hb;obtain⟨a2,n2,c2,_,hl,_,wM⟩:=cX hr
  rcases h with rfl | ⟨s,hs,h⟩
  ·exact wM.2.1.1
  ·obtain⟨cs,hr⟩:=qO hl hs;obtain⟨_,vM⟩:=hC hr;simp only[ie,List.mem_cons,List.not_mem_nil,or_false]at h
   rcases h with rfl | rfl | rfl
   ·exact vM.2.1
   ·exact vM.2.2.2.1.1
   ·exact vM.2.2.2.2.1
theorem kM {p:Prog} {a:Option Addr} {n c:Nat} (ha:RL H a n c p) (hc:iE p<400000)
  (hK:∀a' n' c' H',Le H H'→RL H' a' n' c' (iA (varsOf p))→K (.slice a' n' c') H'):aq prog 51 [.agg #[.slice a n c]] H K:=by
 have dd:=ha.aB;have eI:=ha.le;refine ab af aa rfl func51 call51 ntmps51 results51 rfl rfl ?_
 refine⟨Nat,fun i=>⟨[(3,.ptr 1 0),(4,.fn 92 [.ptr 1 0]),(11,.v (.slice a n c)),(12,.v (.int .i64 n)),(13,.v (.int .i64 i))],[(1,.cells 71 [.own 2]),(2,.row 9 1 (ay (varsOf (p.take i))))],3⟩,
  fun i H'=>Le H H'∧i≤p.length,fun i=>p.length - i,⟨0,[(1,1)],?_,Le.refl H,by omega⟩,?_⟩
 ·exact⟨⟨⟨rfl,rfl⟩,⟨rfl,rfl⟩,rfl,rfl,rfl,trivial⟩,⟨⟨⟨rfl,rfl,rfl⟩,trivial⟩,rfl,trivial⟩⟩
 rintro i H1 _ ⟨ak,hi⟩;refine⟨fun h=>?_,fun h=>?_⟩
 ·have aj:i<p.length:=by have:=dt h;omega
  have hx:=aL aj
  obtain⟨b,hb⟩:∃b,b=p[i]:=⟨_,rfl⟩
  rw[←hb]at hx;obtain⟨ad,cs,e1,hh,r1⟩:=(ha.up ak).elem hx;obtain⟨a2,n2,c2,rfl,bj,Ii,wM⟩:=cX r1;refine⟨ad,⟨by omega,by omega,e1⟩,?_⟩;refine⟨_,hh,?_⟩;have lv:=bj.aB;have TV:=bj.le
  obtain⟨o,ho⟩:∃o,o=varsOf (p.take i):=⟨_,rfl⟩
  have XA:bq o:=by rw[ho];exact fI _ List.Pairwise.nil
  have Tb:o.length+(3*b.2.1.length+1)<400000:=by
   have h1:=xd (p.take i) [];have h2:=xe p hx
   rw[ho];unfold varsOf
   simp only[List.length_nil]at h1;omega
  refine⟨Nat,fun j=>⟨[(3,.ptr 1 0),(4,.fn 92 [.ptr 1 0]),(6,.ptr 3 0),(11,.v (.slice a n c)),(12,.v (.int .i64 n)),(13,.v (.int .i64 i)),(18,.v (.slice a2 n2 c2)),(19,.v (.int .i64 n2)),(20,.v (.int .i64 j))],
    [(1,.cells 71 [.own 2]),(2,.row 9 1 (ay (fH o (b.2.1.take j)))),(3,.cells 66 ((Value.string (bs b.1.l) :: .slice a2 n2 c2::dg b.2.2).map .v))],4⟩,
   fun j H'=>Le H1 H'∧j≤b.2.1.length,fun j=>b.2.1.length - j,⟨0,[(1,1),(2,2),(3,3)],?_,Le.refl _,by omega⟩,?_⟩
  ·exact⟨⟨⟨rfl,rfl⟩,⟨rfl,rfl⟩,⟨rfl,rfl⟩,rfl,rfl,rfl,rfl,rfl,rfl,trivial⟩,⟨⟨rfl,trivial⟩,congrArg ay ho.symm,⟨rfl,rfl,rfl,rfl,rfl,rfl,rfl,rfl,trivial⟩,trivial⟩⟩
  rintro j H2 _ ⟨ah,hj⟩;have oJ:=pW (b.2.1.take j) o;rw[List.length_take]at oJ;refine⟨fun h=>?_,fun h=>?_⟩
  ·have Dd:j<b.2.1.length:=by have:=dt h;omega
   have Qr:=aL Dd;have gq:=(bj.up ah).elem Qr;obtain⟨iy,N4,e2,gj,r2⟩:=gq;have bc:=hC r2;obtain⟨TW,vM⟩:=bc;rw[TW]at gj;refine⟨iy,⟨by omega,by omega,e2⟩,?_⟩;refine⟨_,gj,?_⟩;refine⟨[1,2],rfl,?_⟩;intro x H3 az RD;have Tc:aW H3 x 1 (ay (ie b.2.1[j])):=RD
   have db:=RL.aC (α:=iz) Tc (dU (l:=ie b.2.1[j]) (fun t ht=>by
    simp only[ie,List.mem_cons,List.not_mem_nil,or_false]at ht
    rcases ht with rfl | rfl | rfl
    ·exact vM.2.1
    ·exact vM.2.2.2.1.1
    ·exact vM.2.2.2.2.1))
   obtain⟨a3,n3,c3,e3,db⟩:=db;rw[e3];refine zw db (fY _ XA) (by simp only[List.length_map,List.length_cons,List.length_nil];omega) ?_
   have e5:ay (cY (vm (iA (ie b.2.1[j]))) (fH o (b.2.1.take j)))=ay (fH o (b.2.1.take (j+1))):=by
    rw[pU];unfold fH;rw[eC _ _ Qr]
   refine⟨⟨by omega,by omega⟩,j+1,[(1,1),(2,6),(3,3)],?_,⟨ah.trans az,by omega⟩,by dsimp only;omega⟩;exact⟨⟨⟨rfl,rfl⟩,⟨rfl,rfl⟩,⟨rfl,rfl⟩,rfl,rfl,rfl,rfl,rfl,rfl,trivial⟩,⟨⟨rfl,trivial⟩,e5,⟨rfl,rfl,rfl,rfl,rfl,rfl,rfl,rfl,trivial⟩,trivial⟩⟩
  ·have eD:j=b.2.1.length:=by have:=df h;omega
   refine⟨[1,2],rfl,?_⟩;intro x H3 az RD;have Tc:aW H3 x 1 (ay [b.2.2.2.1.1.l]):=RD
   have db:=RL.aC (α:=iz) Tc (dU (l:=[b.2.2.2.1.1.l]) (fun t ht=>by
    rw[List.mem_singleton.1 ht];exact wM.2.1.1))
   obtain⟨a3,n3,c3,e3,db⟩:=db;rw[e3];refine zw db (fY _ XA) (by simp only[List.length_map,List.length_cons,List.length_nil];omega) ?_
   have e5:ay (cY (vm (iA [b.2.2.2.1.1.l])) (fH o (b.2.1.take j)))=ay (varsOf (p.take (i+1))):=by
    rw[pU,eD,List.take_length];unfold varsOf;rw[eC _ _ hx,ho]
    rfl
   refine⟨⟨by omega,by omega⟩,i+1,[(1,1),(2,5)],?_,⟨ak.trans (ah.trans az),by omega⟩,by dsimp only;omega⟩;exact⟨⟨⟨rfl,rfl⟩,⟨rfl,rfl⟩,rfl,rfl,rfl,trivial⟩,⟨⟨rfl,trivial⟩,e5,trivial⟩⟩
 ·have aX:i=p.length:=by have:=df h;omega
  intro x H2 ah hx
  have e:varsOf (p.take i)=varsOf p:=by rw[aX,List.take_length]
  have Tc:aW H2 x 1 (ay (varsOf (p.take i))):=hx;rw[e]at Tc;have db:=RL.aC (α:=iz) Tc (dU (l:=varsOf p) (Mw ha));obtain⟨a3,n3,c3,e3,db⟩:=db;rw[e3];exact hK _ _ _ _ (ak.trans ah) db
theorem eh {p:Prog} {a:Option Addr} {n c:Nat} (ha:RL H a n c p) (hc:iE p<400000)
  (hK:∀a' n' c' H',Le H H'→RL H' a' n' c' (iA (varsOf p))→K (.slice a' n' c') H'):aq prog 28 [.agg #[.slice a n c]] H K:=by
 have dd:=ha.aB;have eI:=ha.le;refine ab af aa rfl func28 call28 ntmps28 results28 rfl rfl ?_
 refine⟨Nat×(Option Addr×Nat×Nat),fun q=>⟨[(3,.v (.slice q.2.1 q.2.2.1 q.2.2.2)),(9,.v (.slice a n c)),(10,.v (.int .i64 n)),(11,.v (.int .i64 q.1))],[],0⟩,
  fun q H'=>Le H H'∧q.1≤p.length∧RL H' q.2.1 q.2.2.1 q.2.2.2 (iA (varsOf (p.take q.1))),fun q=>p.length - q.1,⟨(0,none,0,0),[],?_,Le.refl H,Nat.zero_le _,⟨rfl,Nat.le_refl _,Nat.zero_le _,.inl rfl⟩⟩,?_⟩
 ·exact⟨⟨rfl,rfl,rfl,rfl,trivial⟩,trivial⟩
 rintro⟨i,a1,n1,c1⟩ H1 _ ⟨ak,hi,bh⟩;simp only at hi bh;refine⟨fun h=>?_,fun h=>?_⟩
 ·have aj:i<p.length:=by have:=dt h;simp only at this;omega
  have hx:=aL aj
  obtain⟨b,hb⟩:∃b,b=p[i]:=⟨_,rfl⟩
  rw[←hb]at hx;obtain⟨ad,cs,e1,hh,r1⟩:=(ha.up ak).elem hx;obtain⟨a2,n2,c2,rfl,bj,Ii,wM⟩:=cX r1;refine⟨ad,⟨by simp only;omega,by simp only;omega,e1⟩,?_⟩;refine⟨_,hh,?_⟩;have lv:=bj.aB;have TV:=bj.le
  obtain⟨o,ho⟩:∃o,o=varsOf (p.take i):=⟨_,rfl⟩
  have Tb:o.length+(3*b.2.1.length+1)<400000:=by
   have h1:=xd (p.take i) [];have h2:=xe p hx
   rw[ho];unfold varsOf
   simp only[List.length_nil]at h1;omega
  rw[←ho]at bh
  refine⟨Nat×(Option Addr×Nat×Nat),fun q=>⟨[(3,.v (.slice q.2.1 q.2.2.1 q.2.2.2)),(5,.ptr 0 0),(9,.v (.slice a n c)),(10,.v (.int .i64 n)),(11,.v (.int .i64 i)),(16,.v (.slice a2 n2 c2)),(17,.v (.int .i64 n2)),(18,.v (.int .i64 q.1))],
    [(0,.cells 66 ((Value.string (bs b.1.l) :: .slice a2 n2 c2::dg b.2.2).map .v))],1⟩,
   fun q H'=>Le H1 H'∧q.1≤b.2.1.length∧RL H' q.2.1 q.2.2.1 q.2.2.2 (iA (fH o (b.2.1.take q.1))),fun q=>b.2.1.length - q.1,⟨(0,a1,n1,c1),[(0,0)],?_,Le.refl _,by omega,bh⟩,?_⟩
  ·exact⟨⟨rfl,⟨rfl,rfl⟩,rfl,rfl,rfl,rfl,rfl,rfl,trivial⟩,⟨⟨rfl,rfl,rfl,rfl,rfl,rfl,rfl,rfl,trivial⟩,trivial⟩⟩
  rintro⟨j,a3,n3,c3⟩ H2 _ ⟨ah,hj,db⟩;simp only at hj db;have oJ:=pW (b.2.1.take j) o;rw[List.length_take]at oJ;refine⟨fun h=>?_,fun h=>?_⟩
  ·have Dd:j<b.2.1.length:=by have:=dt h;simp only at this;omega
   have Qr:=aL Dd;have gq:=(bj.up ah).elem Qr;obtain⟨iy,N4,e2,gj,r2⟩:=gq;have bc:=hC r2;obtain⟨TW,vM⟩:=bc;rw[TW]at gj;refine⟨iy,⟨by simp only;omega,by simp only;omega,e2⟩,?_⟩;refine⟨_,gj,?_⟩;refine⟨some ([],[0,1,2,4,5,6,7,9,10,11,12,3,8,13,14]),by kernel_rfl,?_⟩
   have hlen:∀ {l:List aQ} {m:Nat},l.length≤m→m<1000000→(iA l).length<1000000:=fun h1 h2=>by rw[List.length_map];omega
   refine r9 db vM.2.1 (hlen oJ (by omega)) fun a4 n4 c4 H3 az fm=>?_
   rw[pU]at fm;have l4:=xb b.2.1[j].2.1.l (fH o (b.2.1.take j))
   refine r9 fm vM.2.2.2.1.1 (hlen l4 (by omega)) fun a5 n5 c5 H4 aN ct=>?_
   rw[pU]at ct;have l5:=xb b.2.1[j].2.2.2.1.1.l (iC b.2.1[j].2.1.l (fH o (b.2.1.take j)))
   refine r9 ct vM.2.2.2.2.1 (hlen l5 (by omega)) fun a6 n6 c6 H5 aK ji=>?_
   rw[pU]at ji
   have e5:fH o (b.2.1.take (j+1))=iC b.2.1[j].2.2.2.2.1.l (iC b.2.1[j].2.2.2.1.1.l (iC b.2.1[j].2.1.l (fH o (b.2.1.take j)))):=by
    unfold fH;rw[eC _ _ Qr]
    rfl
   rw[←e5]at ji;refine⟨⟨by simp only;omega,by simp only;omega⟩,(j+1,a6,n6,c6),[(0,0)],?_,⟨ah.trans (az.trans (aN.trans aK)),by simp only;omega,ji⟩,by dsimp only;omega⟩;exact⟨⟨rfl,⟨rfl,rfl⟩,rfl,rfl,rfl,rfl,rfl,rfl,trivial⟩,⟨⟨rfl,rfl,rfl,rfl,rfl,rfl,rfl,rfl,trivial⟩,trivial⟩⟩
  ·have eD:j=b.2.1.length:=by have:=df h;simp only at this;omega
   refine r9 db wM.2.1.1 (by rw[List.length_map];omega) fun a4 n4 c4 H3 az fm=>?_
   rw[pU]at fm
   have e5:varsOf (p.take (i+1))=iC b.2.2.2.1.1.l (fH o (b.2.1.take j)):=by
    rw[eD,List.take_length];unfold varsOf;rw[eC _ _ hx,ho]
    rfl
   rw[←e5]at fm;refine⟨⟨by omega,by omega⟩,(i+1,a4,n4,c4),[],?_,⟨ak.trans (ah.trans az),by omega,fm⟩,by dsimp only;omega⟩;exact⟨⟨rfl,rfl,rfl,rfl,trivial⟩,trivial⟩
 ·have aX:i=p.length:=by have:=df h;simp only at this;omega
  have e:varsOf (p.take i)=varsOf p:=by rw[aX,List.take_length]
  rw[e]at bh;exact hK _ _ _ _ ak bh
end Go.Proofs
end
section
/- Plain words: which programs may be. No program in sight. -/
namespace Go.Proofs
open Go.Sy
def za:ks:=(⟨[]⟩,0,0)
def ze:Expr:=(0,za,za)
def RE (a:Nm):Bool:=decide (a=mu a)
def fh (a:ks):Bool:=if a.1.l=[] then RE a.2 else oA a.1.l&&decide (a.2=(0,0))
def vn (k:Int):Bool:=decide (k=0)||decide (k=4)
def yy (k:Int):Bool:=decide (k=1)||decide (k=2)||decide (k=3)
def aH (x:Expr):List ks:=if vn x.1 then [x.2.1] else if yy x.1 then [x.2.1,x.2.2] else []
def fo (x:Expr):Bool:=if vn x.1 then fh x.2.1&&decide (x.2.2=za) else if yy x.1 then fh x.2.1&&fh x.2.2 else false
def dc (s:Stmt):Bool:=if s.1=1 then oA s.2.1.l&&fo s.2.2 else if s.1=2 then oA s.2.1.l&&decide (s.2.2=ze) else if s.1=3 then decide (s.2.1.l=[])&&decide (s.2.2.1=0)&&fo s.2.2 else false
def fJ (t:Term):Bool:=if t.1=1 then oA t.2.2.1.l&&(decide (t.2.2.2.l=[])&&decide (t.2.1=za)) else if t.1=2 then oA t.2.2.1.l&&oA t.2.2.2.l&&fh t.2.1 else if t.1=3 then decide (t.2.2.1.l=[])&&decide (t.2.2.2.l=[])&&decide (t.2.1=za) else false
def bM (b:Block):Bool:=oA b.1.l&&fJ b.2.2&&b.2.1.all dc
def aw (p:Prog):Nat:=(p.map fun b=>b.2.1.length).sum
def aF (p:Prog):List aQ:=p.map fun b=>b.1.l
def goes (t:Term):List aQ:=if t.1=1 then [t.2.2.1.l] else if t.1=2 then [t.2.2.1.l,t.2.2.2.l] else []
def al (p:Prog):Int :=
 if p.length=0∨128<p.length∨512<aw p then 6
 else if p.all bM then
  if 64<(varsOf p).length then 6
  else if (aF p).Nodup then
   if p.all fun b=>(goes b.2.2).all fun n=>decide (n∈aF p) then 0 else 4
  else 5
 else 12
end Go.Proofs
end
section
namespace Go.Proofs
open Go.Sy
open Tryz
variable {H:Hp} {K:Value→Hp→Prop}
abbrev Mx (a:ks):Value:=.agg #[.string (bs a.1.l),.int .i64 a.2.1,.int .i64 a.2.2]
abbrev qv (x:Expr):Value:=.agg #[.int .i64 x.1,.string (bs x.2.1.1.l),.int .i64 x.2.1.2.1,.int .i64 x.2.1.2.2,.string (bs x.2.2.1.l),.int .i64 x.2.2.2.1,.int .i64 x.2.2.2.2]
theorem aD {α:Type} {P:Prop} (x:α) (k:∀z,z=x→P):P:=k x rfl
theorem kN {α:Type} [cq α] {P:Prop} {H:Hp} {a:Option Addr} {n c:Nat} {xs:List α} (h:RL H a n c xs) {i:Nat} {x:α} (hi:xs[i]?=some x) (k:∀ad cs,a=some ad→jz H ad (i:Int) (cq.sz α) cs→cq.R H cs x→P):P:=by
 obtain⟨ad,cs,h1,h2,h3⟩:=h.elem hi;exact k ad cs h1 h2 h3
theorem Bc {P:Prop} {H:Hp} {a:Option Addr} {n c:Nat} {xs:List ks} (h:RL H a n c xs) {i:Nat} {x:ks} (hi:xs[i]?=some x) (k:∀ad,a=some ad→jz H ad (i:Int) 3 [.string (bs x.1.l),.int .i64 x.2.1,.int .i64 x.2.2]→lW x→P):P :=
 kN h hi fun ad cs h1 h2 h3=>by
  obtain⟨rfl,h4⟩:=rW h3;exact k ad h1 h2 h4
theorem JI {b:Bool} (h:(!b)=true):b=false:=by simpa using h
theorem Ik {b:Bool} (h:(!b)=false):b=true:=by simpa using h
theorem oO {s:List UInt8} (h:decide (sl (bs s)=sl (bs []))=true):s=[]:=dt h
theorem oP {s:List UInt8} (h:decide (sl (bs s)=sl (bs []))=false):s≠[]:=df h
theorem Dp {a:Nm} (hK:K (.bool (RE a)) H):aq prog 197 [kK a] H K:=by
 refine ab af aa rfl func197 call197 ntmps197 results197 rfl rfl ?_;refine⟨some ([1000000],[0,1,2,3,4,5,6,7]),by kernel_rfl,?_⟩;refine mv ?_;exact aA hK (by rw[RE,mu,Bool.eq_iff_iff];simp [Prod.ext_iff])
theorem xg {a:ks} (ha:lW a) (hK:K (.bool (fh a)) H):aq prog 56 [Mx a] H K:=by
 refine ab af aa rfl func56 call56 ntmps56 results56 rfl rfl ?_;refine⟨fun h=>?_,fun h=>?_⟩
 ·have h1:a.1.l=[]:=oO h;refine⟨some ([1000000],[0,1,2,3,4,5,6,7,8,9,10]),by kernel_rfl,?_⟩;refine gJ ?_;exact aA hK (by rw[fh,if_pos h1,RE,mu,Bool.eq_iff_iff];simp [Prod.ext_iff])
 ·have h1:a.1.l≠[]:=oP h;refine dZ ?_ ha.1;have e1:fh a=(oA a.1.l&&decide (a.2=(0,0))):=if_neg h1;refine⟨fun h=>?_,fun h=>?_⟩
  ·exact aA hK (by rw[e1,h,Bool.eq_iff_iff];simp [Prod.ext_iff])
  ·exact aA hK (by rw[e1,h];rfl)
theorem zy {l:List ks} {a:Option Addr} {n c:Nat} (ha:RL H a n c l) (hK:K (.bool (l.all fh)) H):aq prog 139 [.slice a n c] H K:=by
 have hn:=ha.aB;have eI:=ha.le;refine ab af aa rfl func139 call139 ntmps139 results139 rfl rfl ?_
 refine⟨Nat,fun i=>⟨[(5,.v (.slice a n c)),(6,.v (.int .i64 n)),(7,.v (.int .i64 i))],[],0⟩,
  fun i H'=>H'=H∧i≤l.length∧(l.take i).all fh=true,fun i=>l.length - i,⟨0,[],?_,rfl,Nat.zero_le _,rfl⟩,?_⟩
 ·(repeat' first|exact trivial|refine⟨?_,?_⟩|exact rfl|assumption)
 rintro i H1 _ ⟨rfl,hi,xh⟩;refine⟨fun h=>?_,fun h=>?_⟩
 ·have aj:i<l.length:=by have:=dt h;omega
  refine aD l[i] fun x hx=>?_
  have oi:l[i]?=some x:=by rw[hx];exact aL aj
  refine Bc ha oi fun ad q1 hh hr=>?_
  refine⟨ad,⟨by omega,by omega,q1⟩,?_⟩;refine⟨_,hh,?_⟩
  have RF:fh x=false→K (.bool false) H1:=fun h=>by
   refine aA hK ?_;rw[Bool.eq_false_iff];intro h2;rw[List.all_eq_true]at h2;rw[h2 x (dY oi)]at h;cases h
  have B4:fh x=true→(l.take (i+1)).all fh=true:=fun h=>by
   rw[List.take_add_one,oi,Option.toList_some,List.all_append,xh];simp [h]
  refine⟨fun h=>?_,fun h=>?_⟩
  ·have h1:x.1.l=[]:=oO h;have e1:fh x=RE x.2:=if_pos h1;refine Dp ?_;refine⟨fun h=>?_,fun h=>?_⟩
   ·have L4:fh x=true:=by rw[e1];simpa using h
    refine⟨fun h=>absurd h1 (oP (JI h)),fun _=>?_⟩;refine⟨⟨by omega,by omega⟩,i+1,[],?_,⟨rfl,aj,B4 L4⟩,by dsimp only;omega⟩
    (repeat' first|exact trivial|refine⟨?_,?_⟩|exact rfl|assumption)
   ·have L4:fh x=false:=by rw[e1];simpa using h
    exact RF L4
  ·have h1:x.1.l≠[]:=oP h;have e1:fh x=(oA x.1.l&&decide (x.2=(0,0))):=if_neg h1;refine⟨fun _=>?_,fun h=>absurd (oO (Ik h)) h1⟩;refine gT ?_ hr.1;refine⟨fun h=>?_,fun h=>?_⟩
   ·have Ii:oA x.1.l=true:=Ik (by assumption);refine⟨fun h=>?_,fun h=>?_⟩
    ·refine RF ?_;have h2:=h;rw[e1,Ii,Bool.true_and]
     refine decide_eq_false fun h3=>?_
     rw[h3]at h2;simp at h2
    ·have L4:fh x=true:=by
      have h2:=Ik h;rw[e1,Ii,Bool.true_and];refine decide_eq_true ?_
      simpa [Prod.ext_iff] using h2
     refine⟨⟨by omega,by omega⟩,i+1,[],?_,⟨rfl,aj,B4 L4⟩,by dsimp only;omega⟩
     (repeat' first|exact trivial|refine⟨?_,?_⟩|exact rfl|assumption)
   ·have Ii:oA x.1.l=false:=JI h;exact RF (by rw[e1,Ii];rfl)
 ·have aX:i=l.length:=by have:=df h;omega
  refine aA hK ?_;rw[←xh,aX,List.take_length]
end Go.Proofs
end
section
namespace Go.Proofs
open Go.Sy
open Tryz
variable {H:Hp} {K:Value→Hp→Prop}
theorem tz {H:Hp} {a:ks} (h:lW a):cq.R H (dT a) a:=⟨[.string (bs a.1.l)],[.int .i64 a.2.1,.int .i64 a.2.2],rfl,⟨rfl,h.1⟩,[.int .i64 a.2.1],[.int .i64 a.2.2],rfl,⟨rfl,h.2.1⟩,⟨rfl,h.2.2⟩⟩
abbrev Qw (l:List ks):List (List Value):=l.map dT
theorem My {H:Hp} {l:List ks} (h:∀x∈l,lW x):RC (α:=ks) H (Qw l) l:=by
 refine⟨List.length_map _,fun i cs x h1 h2=>?_⟩;rw[List.getElem?_map,h2]at h1;simp only[Option.map_some,Option.some.injEq]at h1;rw[←h1];exact tz (h x (dY h2))
theorem mB {H:Hp} {v:Value} {l:List ks} (h:∀x∈l,lW x) (hr:aW H v 3 (Qw l)):∃a n c,v = .slice a n c∧RL H a n c l:=RL.aC (α:=ks) hr (My h)
theorem jk {x:Expr} (h:lC x):∀y∈aH x,lW y:=by
 intro y hy;rw[aH]at hy;split at hy
 ·rw[List.mem_singleton]at hy;rw[hy];exact h.2.1
 ·split at hy
  ·rcases List.mem_cons.1 hy with rfl | hy
   ·exact h.2.1
   ·rw[List.mem_singleton]at hy;rw[hy];exact h.2.2
  ·cases hy
theorem bz {α:Type} [cq α] {H:Hp}:RL (α:=α) H none 0 0 []:=by
 obtain⟨a,n,c,e,h⟩:=RL.aC (α:=α) (v:=.slice none 0 0) (css:=[]) (xs:=[]) (H:=H) ⟨none,0,rfl,⟨Nat.le_refl _,by omega⟩,by simp,.inl ⟨rfl,rfl⟩⟩ RC.nil;simp only[Value.slice.injEq]at e;obtain⟨rfl,rfl,rfl⟩:=e;exact h
theorem oQ {x:Expr} (hx:lC x) (hK:∀a n c H',Le H H'→RL H' a n c (aH x)→K (.slice a n c) H'):aq prog 49 [qv x] H K:=by
 refine ab af aa rfl func49 call49 ntmps49 results49 rfl rfl ?_
 have RG:vn x.1=true→aH x=[x.2.1]:=fun h=>by rw[aH,if_pos h]
 have RH:vn x.1=false→yy x.1=true→aH x=[x.2.1,x.2.2]:=fun h h2=>by rw[aH,if_neg (by rw[h];decide),if_pos h2]
 have k1:vn x.1=true→∀v H',Le H H'→aW H' v 3 [dT x.2.1]→K v H':=fun h v H' hle hv=>by
  obtain⟨a,n,c,rfl,hr⟩:=mB (l:=aH x) (jk hx) (by rw[RG h];exact hv);exact hK _ _ _ _ hle hr
 have k2:vn x.1=false→yy x.1=true→∀v H',Le H H'→aW H' v 3 [dT x.2.1,dT x.2.2]→K v H':=fun h h2 v H' hle hv=>by
  obtain⟨a,n,c,rfl,hr⟩:=mB (l:=aH x) (jk hx) (by rw[RH h h2];exact hv);exact hK _ _ _ _ hle hr
 refine⟨fun h=>?_,fun h=>?_⟩
 ·refine⟨fun _=>?_,fun h2=>(by rw[h]at h2;cases h2)⟩;intro v H' hle hv;exact k1 (by rw[vn,h];rfl) v H' hle.le hv
 ·have n0:=h;refine⟨fun h=>?_,fun h=>?_⟩
  ·intro v H' hle hv;exact k1 (by rw[vn,h,n0];rfl) v H' hle.le hv
  ·have n4:=h
   have no:vn x.1=false:=by rw[vn,n0,n4];rfl
   refine⟨fun h=>?_,fun h=>?_⟩
   ·refine⟨fun _=>?_,fun h2=>(by rw[h]at h2;cases h2)⟩;intro v H' hle hv;exact k2 no (by rw[yy,h];rfl) v H' hle.le hv
   ·have n1:=h;refine⟨fun h=>?_,fun h=>?_⟩
    ·refine⟨fun _=>?_,fun h2=>(by rw[h]at h2;cases h2)⟩;intro v H' hle hv;exact k2 no (by rw[yy,h,n1];rfl) v H' hle.le hv
    ·have n2:=h;refine⟨fun h=>?_,fun h=>?_⟩
     ·intro v H' hle hv;exact k2 no (by rw[yy,h,n1,n2];rfl) v H' hle.le hv
     ·have nn:yy x.1=false:=by rw[yy,n1,n2,h];rfl
      refine hK none 0 0 H (Le.refl H) ?_;rw[aH,if_neg (by rw[no];decide),if_neg (by rw[nn];decide)];exact bz
theorem oR {x:Expr} (hx:lC x) (hK:∀a n c H',Le H H'→RL H' a n c (aH x)→K (.slice a n c) H'):aq prog 46 [qv x] H K:=by
 refine ab af aa rfl func46 call46 ntmps46 results46 rfl rfl ?_
 have RG:vn x.1=true→aH x=[x.2.1]:=fun h=>by rw[aH,if_pos h]
 have RH:vn x.1=false→yy x.1=true→aH x=[x.2.1,x.2.2]:=fun h h2=>by rw[aH,if_neg (by rw[h];decide),if_pos h2]
 have k1:vn x.1=true→∀v H',Le H H'→aW H' v 3 [dT x.2.1]→K v H':=fun h v H' hle hv=>by
  obtain⟨a,n,c,rfl,hr⟩:=mB (l:=aH x) (jk hx) (by rw[RG h];exact hv);exact hK _ _ _ _ hle hr
 have k2:vn x.1=false→yy x.1=true→∀v H',Le H H'→aW H' v 3 [dT x.2.1,dT x.2.2]→K v H':=fun h h2 v H' hle hv=>by
  obtain⟨a,n,c,rfl,hr⟩:=mB (l:=aH x) (jk hx) (by rw[RH h h2];exact hv);exact hK _ _ _ _ hle hr
 refine⟨fun h=>?_,fun h=>?_⟩
 ·have n0:=h;refine⟨fun h=>?_,fun h=>?_⟩
  ·intro v H' hle hv;exact k1 (by rw[vn,h,n0];rfl) v H' hle.le hv
  ·have n4:=h
   have no:vn x.1=false:=by rw[vn,n0,n4];rfl
   refine⟨fun h=>?_,fun h=>?_⟩
   ·have n1:=h;refine⟨fun h=>?_,fun h=>?_⟩
    ·have n2:=h;refine⟨fun h=>?_,fun h=>?_⟩
     ·intro v H' hle hv;exact k2 no (by rw[yy,h,n1,n2];rfl) v H' hle.le hv
     ·have nn:yy x.1=false:=by rw[yy,n1,n2,h];rfl
      refine hK none 0 0 H (Le.refl H) ?_;rw[aH,if_neg (by rw[no];decide),if_neg (by rw[nn];decide)];exact bz
    ·intro v H' hle hv;exact k2 no (by rw[yy,h,n1];rfl) v H' hle.le hv
   ·intro v H' hle hv;exact k2 no (by rw[yy,h];rfl) v H' hle.le hv
 ·intro v H' hle hv;exact k1 (by rw[vn,h];rfl) v H' hle.le hv
end Go.Proofs
end
section
namespace Go.Proofs
open Go.Sy
open Tryz
variable {H:Hp} {K:Value→Hp→Prop}
theorem Dq (x:Expr):fo x=(decide (0<(aH x).length)&&(aH x).all fh&&(decide ((aH x).length=2)||decide (x.2.2=za))):=by
 rw[fo,aH]
 cases h1:vn x.1 with
 | true=>simp
 | false =>
  cases h2:yy x.1 with
  | true=>simp
  | false=>simp
theorem oS (a:ks):(decide (sl (bs a.1.l)=sl (bs []))&&(decide (a.2.1=0)&&(decide (a.2.2=0)&&true)&&true))=decide (a=za):=by
 rw[Bool.eq_iff_iff];obtain⟨⟨s⟩,p,q⟩:=a;have:sl (bs [])=[]:=rfl;simp [za,dM,this]
theorem xi {x:Expr} (hx:lC x) (hK:∀H',Le H H'→K (.bool (fo x)) H'):aq prog 141 [qv x] H K:=by
 have e:=Dq x;refine ab af aa rfl func141 call141 ntmps141 results141 rfl rfl ?_
 refine oQ hx fun a n c H1 hle hr=>?_
 have hn:=hr.aB;have hK:=hK H1 hle;refine⟨fun h=>?_,fun h=>?_⟩
 ·have ns:0<(aH x).length:=by have:=dt h;omega
  refine zy hr ?_;refine⟨fun h=>?_,fun h=>?_⟩
  ·have hf:(aH x).all fh=true:=h;refine⟨fun h=>?_,fun h=>?_⟩
   ·have h2:¬(aH x).length=2:=by have:=df h;omega
    refine aA hK ?_;rw[e,decide_eq_true ns,hf,decide_eq_false h2];exact (oS x.2.2).symm
   ·have h2:(aH x).length=2:=by have:=dt h;omega
    refine aA hK ?_
    rw[e,decide_eq_true ns,hf,h2];rfl
  ·have hf:(aH x).all fh=false:=h;refine aA hK ?_
   rw[e,hf];simp
 ·have hz:(aH x).length=0:=by have:=df h;omega
  refine aA hK ?_
  rw[e,hz];rfl
theorem xj {x:Expr} (hx:lC x) (hK:∀H',Le H H'→K (.bool (fo x)) H'):aq prog 57 [qv x] H K:=by
 have e:=Dq x;refine ab af aa rfl func57 call57 ntmps57 results57 rfl rfl ?_
 refine oR hx fun a n c H1 hle hr=>?_
 have hn:=hr.aB;have eI:=hr.le;have hR:=jk hx
 refine⟨Nat,fun i=>⟨[(1,.ptr 0 0),(3,.v (.slice a n c)),(8,.v (.slice a n c)),(9,.v (.int .i64 n)),(10,.v (.int .i64 i))],[(0,.cells 59 ([.int .i64 x.1,.string (bs x.2.1.1.l),.int .i64 x.2.1.2.1,.int .i64 x.2.1.2.2,.string (bs x.2.2.1.l),.int .i64 x.2.2.2.1,.int .i64 x.2.2.2.2].map .v))],1⟩,
  fun i H'=>H'=H1∧i≤(aH x).length∧((aH x).take i).all fh=true,fun i=>(aH x).length - i,⟨0,[(0,0)],?_,rfl,Nat.zero_le _,rfl⟩,?_⟩
 ·(repeat' first|exact trivial|refine⟨?_,?_⟩|exact rfl|assumption)
 rintro i H2 _ ⟨rfl,hi,xh⟩;have hK:=hK H2 hle;refine⟨fun h=>?_,fun h=>?_⟩
 ·have aj:i<(aH x).length:=by have:=dt h;omega
  refine aD (aH x)[i] fun y hy=>?_
  have B5:(aH x)[i]?=some y:=by rw[hy];exact aL aj
  refine Bc hr B5 fun ad q1 hh YP=>?_
  refine⟨ad,⟨by omega,by omega,q1⟩,?_⟩;refine⟨_,hh,?_⟩;refine xg YP ?_;refine⟨fun h=>?_,fun h=>?_⟩
  ·have hf:fh y=false:=JI h;refine aA hK ?_
   have:(aH x).all fh=false:=by
    rw[Bool.eq_false_iff];intro h2;rw[List.all_eq_true]at h2;rw[h2 y (dY B5)]at hf;cases hf
   rw[e,this];simp
  ·have ht:fh y=true:=Ik h
   have B4:((aH x).take (i+1)).all fh=true:=by
    rw[List.take_add_one,B5,Option.toList_some,List.all_append,xh];simp [ht]
   refine⟨⟨by omega,by omega⟩,i+1,[(0,0)],?_,⟨rfl,aj,B4⟩,by dsimp only;omega⟩
   (repeat' first|exact trivial|refine⟨?_,?_⟩|exact rfl|assumption)
 ·have aX:i=(aH x).length:=by have:=df h;omega
  have hf:(aH x).all fh=true:=by rw[←xh,aX,List.take_length]
  refine⟨fun h=>?_,fun h=>?_⟩
  ·have h2:¬(aH x).length=2:=by have:=df h;omega
   refine⟨fun h=>?_,fun h=>?_⟩
   ·have ns:0<(aH x).length:=by have:=dt h;omega
    refine aA hK ?_;rw[e,decide_eq_true ns,hf,decide_eq_false h2];exact (oS x.2.2).symm
   ·have h1:¬(aH x).length=1:=by have:=df h;omega
    have h3:(aH x).length≤2:=by
     rw[aH];split
     ·simp
     ·split<;>simp
    have hz:(aH x).length=0:=by omega
    refine aA hK ?_
    rw[e,hz];rfl
  ·have h2:(aH x).length=2:=by have:=dt h;omega
   refine aA hK ?_
   rw[e,hf,h2];rfl
end Go.Proofs
end
section
namespace Go.Proofs
open Go.Sy
open Tryz
variable {H:Hp} {K:Value→Hp→Prop}
abbrev xk (s:Stmt):Value:=.agg #[.int .i64 s.1,.string (bs s.2.1.l),.int .i64 s.2.2.1,.string (bs s.2.2.2.1.1.l),.int .i64 s.2.2.2.1.2.1,.int .i64 s.2.2.2.1.2.2,.string (bs s.2.2.2.2.1.l),.int .i64 s.2.2.2.2.2.1,.int .i64 s.2.2.2.2.2.2]
abbrev sa (t:Term):Value:=.agg #[.int .i64 t.1,.string (bs t.2.1.1.l),.int .i64 t.2.1.2.1,.int .i64 t.2.1.2.2,.string (bs t.2.2.1.l),.string (bs t.2.2.2.l)]
theorem jl {k j:Int} {α:Sort _} {x y:α} (h:decide (k=j)=false):(if k=j then x else y)=y:=if_neg (df h)
theorem se {k j:Int} {α:Sort _} {x y:α} (h:decide (k=j)=true):(if k=j then x else y)=x:=if_pos (dt h)
theorem Mz (x:Expr):(decide (x.1=0)&&((decide (sl (bs x.2.1.1.l)=sl (bs []))&&(decide (x.2.1.2.1=0)&&(decide (x.2.1.2.2=0)&&true)&&true))&&((decide (sl (bs x.2.2.1.l)=sl (bs []))&&(decide (x.2.2.2.1=0)&&(decide (x.2.2.2.2=0)&&true)&&true))&&true)))=decide (x=ze):=by
 rw[oS,oS,Bool.eq_iff_iff];obtain⟨k,a,b⟩:=x;simp [ze]
theorem F1 {s:Stmt} (hs:fl s) (hK:K (.bool (dc s)) H):aq prog 91 [xk s] H K:=by
 refine ab af aa rfl func91 call91 ntmps91 results91 rfl rfl ?_;refine⟨fun h=>?_,fun h=>?_⟩
 ·have e1:dc s=(oA s.2.1.l&&fo s.2.2):=se h;refine gT ?_ hs.2.1;refine⟨fun h=>?_,fun h=>?_⟩
  ·have hn:=h
   refine xi hs.2.2 fun _ _=>?_
   exact aA hK (by rw[e1,hn];rfl)
  ·exact aA hK (by rw[e1,h];rfl)
 ·have n1:=h;refine⟨fun h=>?_,fun h=>?_⟩
  ·have e1:dc s=(oA s.2.1.l&&decide (s.2.2=ze)):=(jl n1).trans (se h);refine gT ?_ hs.2.1;refine⟨fun h=>?_,fun h=>?_⟩
   ·exact aA hK (by rw[e1,h,←Mz];rfl)
   ·exact aA hK (by rw[e1,h];rfl)
  ·have n2:=h;refine⟨fun h=>?_,fun h=>?_⟩
   ·have e1:dc s=(decide (s.2.1.l=[])&&decide (s.2.2.1=0)&&fo s.2.2):=(jl n1).trans ((jl n2).trans (se h));refine⟨fun h=>?_,fun h=>?_⟩
    ·have m1:=oO h;refine⟨fun h=>?_,fun h=>?_⟩
     ·have m2:=h
      refine xi hs.2.2 fun _ _=>?_
      exact aA hK (by rw[e1,m2,m1];rfl)
     ·exact aA hK (by rw[e1,h];simp)
    ·exact aA hK (by rw[e1,decide_eq_false (oP h)];rfl)
   ·exact aA hK ((jl n1).trans ((jl n2).trans (jl h)))
theorem F2 {s:Stmt} (hs:fl s) (hK:K (.bool (dc s)) H):aq prog 27 [xk s] H K:=by
 refine ab af aa rfl func27 call27 ntmps27 results27 rfl rfl ?_;refine⟨fun h=>?_,fun h=>?_⟩
 ·have e1:dc s=(oA s.2.1.l&&fo s.2.2):=se h;refine dZ ?_ hs.2.1;refine⟨fun h=>?_,fun h=>?_⟩
  ·have hn:=h
   refine xj hs.2.2 fun _ _=>?_
   exact aA hK (by rw[e1,hn];rfl)
  ·exact aA hK (by rw[e1,h];rfl)
 ·have n1:=h;refine⟨fun h=>?_,fun h=>?_⟩
  ·have e1:dc s=(oA s.2.1.l&&decide (s.2.2=ze)):=(jl n1).trans (se h);refine dZ ?_ hs.2.1;refine⟨fun h=>?_,fun h=>?_⟩
   ·exact aA hK (by rw[e1,h,←Mz];rfl)
   ·exact aA hK (by rw[e1,h];rfl)
  ·have n2:=h;refine⟨fun h=>?_,fun h=>?_⟩
   ·have e1:dc s=(decide (s.2.1.l=[])&&decide (s.2.2.1=0)&&fo s.2.2):=(jl n1).trans ((jl n2).trans (se h));refine⟨fun h=>?_,fun h=>?_⟩
    ·have m1:=oO h;refine⟨fun h=>?_,fun h=>?_⟩
     ·have m2:=h
      refine xj hs.2.2 fun _ _=>?_
      exact aA hK (by rw[e1,m2,m1];rfl)
     ·exact aA hK (by rw[e1,h];simp)
    ·exact aA hK (by rw[e1,decide_eq_false (oP h)];rfl)
   ·exact aA hK ((jl n1).trans ((jl n2).trans (jl h)))
end Go.Proofs
end
section
namespace Go.Proofs
open Go.Sy
open Tryz
variable {H:Hp} {K:Value→Hp→Prop}
theorem Bd (s:List UInt8):decide (sl (bs s)=sl (bs []))=decide (s=[]):=rfl
theorem RI (t:Term):(decide (t.1=t.1)&&((decide (sl (bs t.2.1.1.l)=sl (bs []))&&(decide (t.2.1.2.1=0)&&(decide (t.2.1.2.2=0)&&true)&&true))&&(decide (sl (bs t.2.2.1.l)=sl (bs t.2.2.1.l))&&(decide (sl (bs t.2.2.2.l)=sl (bs []))&&true))))=(decide (t.2.2.2.l=[])&&decide (t.2.1=za)):=by
 rw[oS,Bd];simp [Bool.and_comm]
theorem RJ (t:Term):(decide (t.1=t.1)&&((decide (sl (bs t.2.1.1.l)=sl (bs []))&&(decide (t.2.1.2.1=0)&&(decide (t.2.1.2.2=0)&&true)&&true))&&(decide (sl (bs t.2.2.1.l)=sl (bs []))&&(decide (sl (bs t.2.2.2.l)=sl (bs []))&&true))))=(decide (t.2.2.1.l=[])&&decide (t.2.2.2.l=[])&&decide (t.2.1=za)):=by
 rw[oS,Bd,Bd,decide_eq_true (rfl:t.1=t.1),Bool.true_and,Bool.and_true,Bool.and_comm]
theorem F3 {t:Term} (ht:gi t) (hK:K (.bool (fJ t)) H):aq prog 88 [sa t] H K:=by
 refine ab af aa rfl func88 call88 ntmps88 results88 rfl rfl ?_;refine⟨fun h=>?_,fun h=>?_⟩
 ·have e1:fJ t=(oA t.2.2.1.l&&(decide (t.2.2.2.l=[])&&decide (t.2.1=za))):=se h;refine gT ?_ ht.2.2.1;refine⟨fun h=>?_,fun h=>?_⟩
  ·exact aA hK (by rw[e1,h,←RI];rfl)
  ·exact aA hK (by rw[e1,h];rfl)
 ·have n1:=h;refine⟨fun h=>?_,fun h=>?_⟩
  ·have e1:fJ t=(oA t.2.2.1.l&&oA t.2.2.2.l&&fh t.2.1):=(jl n1).trans (se h);refine gT ?_ ht.2.2.1;refine⟨fun h=>?_,fun h=>?_⟩
   ·have m1:=h;refine gT ?_ ht.2.2.2;refine⟨fun h=>?_,fun h=>?_⟩
    ·have m2:=h;intro v H' hle hv;obtain⟨a,n,c,rfl,hr⟩:=mB (l:=[t.2.1]) (fun x hx=>by rw[List.mem_singleton]at hx;rw[hx];exact ht.2.1) hv;refine zy hr ?_;exact aA hK (by rw[e1,m1,m2];simp)
    ·exact aA hK (by rw[e1,h];simp)
   ·exact aA hK (by rw[e1,h];rfl)
  ·have n2:=h;refine⟨fun h=>?_,fun h=>?_⟩
   ·have e1:fJ t=(decide (t.2.2.1.l=[])&&decide (t.2.2.2.l=[])&&decide (t.2.1=za)):=(jl n1).trans ((jl n2).trans (se h));exact aA hK (by rw[e1,←RJ];rfl)
   ·exact aA hK ((jl n1).trans ((jl n2).trans (jl h)))
theorem F4 {t:Term} (ht:gi t) (hK:K (.bool (fJ t)) H):aq prog 26 [sa t] H K:=by
 refine ab af aa rfl func26 call26 ntmps26 results26 rfl rfl ?_;refine⟨fun h=>?_,fun h=>?_⟩
 ·have e1:fJ t=(oA t.2.2.1.l&&(decide (t.2.2.2.l=[])&&decide (t.2.1=za))):=se h;refine dZ ?_ ht.2.2.1;refine⟨fun h=>?_,fun h=>?_⟩
  ·have m1:=h;refine⟨fun h=>?_,fun h=>?_⟩
   ·have m2:=oO h;exact aA hK (by rw[e1,m1,m2,←oS];rfl)
   ·exact aA hK (by rw[e1,decide_eq_false (oP h)];simp)
  ·exact aA hK (by rw[e1,h];rfl)
 ·have n1:=h;refine⟨fun h=>?_,fun h=>?_⟩
  ·have e1:fJ t=(oA t.2.2.1.l&&oA t.2.2.2.l&&fh t.2.1):=(jl n1).trans (se h);refine dZ ?_ ht.2.2.1;refine⟨fun h=>?_,fun h=>?_⟩
   ·have m1:=h;refine dZ ?_ ht.2.2.2;refine⟨fun h=>?_,fun h=>?_⟩
    ·have m2:=h;refine xg ht.2.1 ?_;exact aA hK (by rw[e1,m1,m2];rfl)
    ·exact aA hK (by rw[e1,h];simp)
   ·exact aA hK (by rw[e1,h];rfl)
  ·have n2:=h;refine⟨fun h=>?_,fun h=>?_⟩
   ·have e1:fJ t=(decide (t.2.2.1.l=[])&&decide (t.2.2.2.l=[])&&decide (t.2.1=za)):=(jl n1).trans ((jl n2).trans (se h));refine⟨fun h=>?_,fun h=>?_⟩
    ·have m1:=oO h;refine⟨fun h=>?_,fun h=>?_⟩
     ·have m2:=oO h;exact aA hK (by rw[e1,m1,m2,←oS];rfl)
     ·exact aA hK (by rw[e1,decide_eq_false (oP h)];simp)
    ·exact aA hK (by rw[e1,decide_eq_false (oP h)];rfl)
   ·exact aA hK ((jl n1).trans ((jl n2).trans (jl h)))
end Go.Proofs
end
section
namespace Go.Proofs
open Go.Sy
open Tryz
variable {H:Hp} {K:Value→Hp→Prop}
def mC {α:Type} (f:α→Bool):List α→Int→Int
 | [],_=>-1
 | x::r,i=>if f x then i else mC f r (i+1)
theorem tA {α:Type} {f:α→Bool} {l:List α} {i:Nat} (h:i<l.length):mC f (l.drop i) i=if f l[i] then (i:Int) else mC f (l.drop (i+1)) (i+1:Nat):=by
 rw[List.drop_eq_getElem_cons h,mC];rfl
theorem sf {α:Type} {f:α→Bool}:∀(l:List α) (i:Int),0≤i→decide (0≤mC f l i)=l.any f
 | [],i,_=>by simp [mC]
 | x::r,i,h=>by
  rw[mC,List.any_cons];split
  ·rename_i h1;rw[h1,Bool.true_or,decide_eq_true h]
  ·rename_i h1;rw[sf r (i+1) (by omega),Bool.eq_false_iff.2 h1,Bool.false_or]
theorem du {P:Prop} {H:Hp} {a:Option Addr} {n c:Nat} {xs:List Stmt} (h:RL H a n c xs) {i:Nat} {x:Stmt} (hi:xs[i]?=some x) (k:∀ad,a=some ad→jz H ad (i:Int) 9 [.int .i64 x.1,.string (bs x.2.1.l),.int .i64 x.2.2.1,.string (bs x.2.2.2.1.1.l),.int .i64 x.2.2.2.1.2.1,.int .i64 x.2.2.2.1.2.2,.string (bs x.2.2.2.2.1.l),.int .i64 x.2.2.2.2.2.1,.int .i64 x.2.2.2.2.2.2]→fl x→P):P :=
 kN h hi fun ad cs h1 h2 h3=>by
  obtain⟨rfl,h4⟩:=hC h3;exact k ad h1 h2 h4
theorem JJ {s:Stmt} (hs:fl s) (hK:K (.bool (!dc s)) H):aq prog 90 [xk s] H K:=by
 refine ab af aa rfl func90 call90 ntmps90 results90 rfl rfl ?_;refine F1 hs ?_;exact hK
theorem Dr {l:List Stmt} {a:Option Addr} {n c:Nat} {H:Hp} {K:SV→St→Hp→Prop} (ha:RL H a n c l) (hK:K (.v (.int .i64 (mC (fun s=>!dc s) l 0))) ⟨[],[],0⟩ H):aY prog 140 [.v (.slice a n c),.fn 90 []] [] 0 H K:=by
 have dd:=ha.aB;have eI:=ha.le;refine aJ af aa func140 call140 ntmps140 results140 rfl rfl ?_
 refine⟨Nat,fun j=>⟨[(0,.v (.slice a n c)),(1,.fn 90 []),(7,.v (.int .i64 n)),(8,.v (.int .i64 j))],[],0⟩,
  fun j H'=>H'=H∧j≤l.length∧mC (fun s=>!dc s) l 0=mC (fun s=>!dc s) (l.drop j) j,fun j=>l.length - j,⟨0,[],?_,rfl,by omega,rfl⟩,?_⟩
 ·(repeat' first|exact trivial|refine⟨?_,?_⟩|exact rfl|assumption)
 rintro j H1 _ ⟨rfl,hi,hx⟩;refine⟨fun h=>?_,fun h=>?_⟩
 ·have aj:j<l.length:=by have:=dt h;omega
  rw[tA aj]at hx
  refine aD l[j] fun x Ds=>?_
  have oi:l[j]?=some x:=by rw[Ds];exact aL aj
  rw[←Ds]at hx
  refine du ha oi fun ad q1 hh hr=>?_
  refine⟨ad,⟨by omega,by omega,q1⟩,?_⟩;refine⟨_,hh,?_⟩;refine JJ (s:=x) hr ?_;refine⟨fun h=>?_,fun h=>?_⟩
  ·rw[if_pos h]at hx;rw[hx]at hK;exact⟨.v (.int .i64 (j:Int)),[],0,[],by (repeat' first|exact trivial|refine⟨?_,?_⟩|exact rfl|assumption),hK⟩
  ·rw[if_neg (by rw[h];decide)]at hx;refine⟨⟨by omega,by omega⟩,j+1,[],?_,⟨rfl,by omega,hx⟩,by dsimp only;omega⟩
   (repeat' first|exact trivial|refine⟨?_,?_⟩|exact rfl|assumption)
 ·have aX:j=l.length:=by have:=df h;omega
  rw[aX,List.drop_length,mC]at hx;rw[hx]at hK;exact⟨.v (.int .i64 (-1)),[],0,[],by (repeat' first|exact trivial|refine⟨?_,?_⟩|exact rfl|assumption),hK⟩
theorem F5 {l:List Stmt} {a:Option Addr} {n c:Nat} {H:Hp} {K:SV→St→Hp→Prop} (ha:RL H a n c l) (hK:K (.v (.bool (l.any fun s=>!dc s))) ⟨[],[],0⟩ H):aY prog 89 [.v (.slice a n c),.fn 90 []] [] 0 H K:=by
 rw[←sf l 0 (Int.le_refl 0)]at hK;refine aJ af aa func89 call89 ntmps89 results89 rfl rfl ?_;refine⟨[],rfl,Dr ha ?_⟩;exact⟨.v (.bool (decide (0≤mC (fun s=>!dc s) l 0))),[],0,[],by (repeat' first|exact trivial|refine⟨?_,?_⟩|exact rfl|assumption),hK⟩
theorem O5 (l:List Stmt):(!(l.any fun s=>!dc s))=l.all dc:=by
 induction l with
 | nil=>rfl
 | cons x r ih=>rw[List.any_cons,List.all_cons,←ih];cases dc x<;>simp
abbrev RK (b:Block) (a:Option Addr) (n c:Nat):Value:=.agg #[.string (bs b.1.l),.slice a n c,.int .i64 b.2.2.1,.string (bs b.2.2.2.1.1.l),.int .i64 b.2.2.2.1.2.1,.int .i64 b.2.2.2.1.2.2,.string (bs b.2.2.2.2.1.l),.string (bs b.2.2.2.2.2.l)]
theorem Dt {b:Block} {a:Option Addr} {n c:Nat} (hb:sR b.1) (ht:gi b.2.2) (hl:RL H a n c b.2.1) (hK:K (.bool (bM b)) H):aq prog 50 [RK b a n c] H K:=by
 refine ab af aa rfl func50 call50 ntmps50 results50 rfl rfl ?_;refine gT ?_ hb;refine⟨fun h=>?_,fun h=>?_⟩
 ·have h1:=h;refine F3 ht ?_;refine⟨fun h=>?_,fun h=>?_⟩
  ·have h2:=h;refine⟨[],rfl,F5 hl ?_⟩;exact aA hK (by rw[bM,h1,h2,←O5];rfl)
  ·exact aA hK (by rw[bM,h];simp)
 ·exact aA hK (by rw[bM,h];rfl)
end Go.Proofs
end
section
namespace Go.Proofs
open Go.Sy
open Tryz
variable {H:Hp} {K:Value→Hp→Prop}
theorem bF {P:Prop} {H:Hp} {a:Option Addr} {n c:Nat} {xs:Prog} (h:RL H a n c xs) {i:Nat} {x:Block} (hi:xs[i]?=some x) (k:∀ad a1 n1 c1,a=some ad→jz H ad (i:Int) 8 [.string (bs x.1.l),.slice a1 n1 c1,.int .i64 x.2.2.1,.string (bs x.2.2.2.1.1.l),.int .i64 x.2.2.2.1.2.1,.int .i64 x.2.2.2.1.2.2,.string (bs x.2.2.2.2.1.l),.string (bs x.2.2.2.2.2.l)]→RL H a1 n1 c1 x.2.1→sR x.1→gi x.2.2→P):P :=
 kN h hi fun ad cs h1 h2 h3=>by
  obtain⟨a1,n1,c1,rfl,h4,h5,h6⟩:=cX h3;exact k ad a1 n1 c1 h1 h2 h4 h5 h6
theorem oT {p:Prog} {i:Nat} {b:Block} (h:p[i]?=some b):aw (p.take (i+1))=aw (p.take i)+b.2.1.length:=by
 rw[aw,List.take_add_one,h,Option.toList_some,List.map_append,List.sum_append];simp [aw]
theorem ky (p:Prog) (i:Nat):aw (p.take i)≤aw p:=by
 have h:p=p.take i++p.drop i:=(List.take_append_drop i p).symm;rw[aw,aw]
 conv=>rhs;rw[h,List.map_append,List.sum_append]
 omega
theorem F6 {p:Prog} {a:Option Addr} {n c:Nat} (ha:RL H a n c p) (hc:aw p≤1000000) (hK:K (.int .i64 (aw p)) H):aq prog 47 [.agg #[.slice a n c]] H K:=by
 have hn:=ha.aB;have eI:=ha.le;refine ab af aa rfl func47 call47 ntmps47 results47 rfl rfl ?_
 refine⟨Nat,fun i=>⟨[(3,.v (.int .i64 (aw (p.take i)))),(7,.v (.slice a n c)),(8,.v (.int .i64 n)),(9,.v (.int .i64 i))],[],0⟩,
  fun i H'=>H'=H∧i≤p.length,fun i=>p.length - i,⟨0,[],?_,rfl,Nat.zero_le _⟩,?_⟩
 ·(repeat' first|exact trivial|refine⟨?_,?_⟩|exact rfl|assumption)
 rintro i H1 _ ⟨rfl,hi⟩;have hle:=ky p i;refine⟨fun h=>?_,fun h=>?_⟩
 ·have aj:i<p.length:=by have:=dt h;omega
  refine aD p[i] fun b gV=>?_
  have bG:p[i]?=some b:=by rw[gV];exact aL aj
  have hs:=oT bG;have ah:=ky p (i+1)
  refine bF ha bG fun ad a1 n1 c1 q1 hh bh _ _=>?_
  have dd:=bh.aB;refine⟨ad,⟨by omega,by omega,q1⟩,?_⟩;refine⟨_,hh,?_⟩;refine⟨⟨by omega,by omega⟩,?_⟩
  have e1:SV.v (.int .i64 ((aw (p.take i):Int)+(n1:Int)))=SV.v (.int .i64 (aw (p.take (i+1)):Int)):=by rw[hs,dd];simp
  refine⟨⟨by omega,by omega⟩,i+1,[],?_,⟨rfl,aj⟩,by dsimp only;omega⟩
  (repeat' first|exact trivial|refine⟨?_,?_⟩|exact rfl|assumption)
 ·have aX:i=p.length:=by have:=df h;omega
  rw[aX,List.take_length];exact hK
theorem oU {p:Prog} {a:Option Addr} {n c:Nat} (ha:RL H a n c p) (hc:aw p≤1000000) (hK:K (.int .i64 (aw p)) H):aq prog 24 [.agg #[.slice a n c]] H K:=by
 have hn:=ha.aB;have eI:=ha.le;refine ab af aa rfl func24 call24 ntmps24 results24 rfl rfl ?_
 refine⟨Nat,fun i=>⟨[(3,.v (.int .i64 (aw (p.take i)))),(7,.v (.slice a n c)),(8,.v (.int .i64 n)),(9,.v (.int .i64 i))],[],0⟩,
  fun i H'=>H'=H∧i≤p.length,fun i=>p.length - i,⟨0,[],?_,rfl,Nat.zero_le _⟩,?_⟩
 ·(repeat' first|exact trivial|refine⟨?_,?_⟩|exact rfl|assumption)
 rintro i H1 _ ⟨rfl,hi⟩;have hle:=ky p i;refine⟨fun h=>?_,fun h=>?_⟩
 ·have aj:i<p.length:=by have:=dt h;omega
  refine aD p[i] fun b gV=>?_
  have bG:p[i]?=some b:=by rw[gV];exact aL aj
  have hs:=oT bG;have ah:=ky p (i+1)
  refine bF ha bG fun ad a1 n1 c1 q1 hh bh _ _=>?_
  have dd:=bh.aB;refine⟨ad,⟨by omega,by omega,q1⟩,?_⟩;refine⟨_,hh,?_⟩;refine⟨⟨by omega,by omega⟩,?_⟩
  have e1:SV.v (.int .i64 ((aw (p.take i):Int)+(n1:Int)))=SV.v (.int .i64 (aw (p.take (i+1)):Int)):=by rw[hs,dd];simp
  refine⟨⟨by omega,by omega⟩,i+1,[],?_,⟨rfl,aj⟩,by dsimp only;omega⟩
  (repeat' first|exact trivial|refine⟨?_,?_⟩|exact rfl|assumption)
 ·have aX:i=p.length:=by have:=df h;omega
  rw[aX,List.take_length];exact hK
theorem Du (t:aQ):∀(l:List aQ) (i:Int),0≤i→decide (0≤bw t l i)=decide (t∈l)
 | [],i,_=>by simp [bw]
 | x::r,i,h=>by
  rw[bw];split
  ·rename_i h1;rw[decide_eq_true h,decide_eq_true (by rw[h1];exact List.mem_cons_self)]
  ·rename_i h1;rw[Du t r (i+1) (by omega),decide_eq_decide,List.mem_cons];exact⟨.inr,fun h2=>h2.resolve_left fun e=>h1 e.symm⟩
theorem l6 {l:List aQ} {t:aQ} {a:Option Addr} {n c:Nat} (ha:RL H a n c (iA l)) (hK:K (.bool (decide (t∈l))) H):aq prog 35 [.slice a n c,.string (bs t)] H K:=by
 refine ab af aa rfl func35 call35 ntmps35 results35 rfl rfl ?_;refine qP ha ?_;exact aA hK (Du t l 0 (Int.le_refl 0)).symm
theorem F7 {t:Term} (ht:gi t) (hK:∀a n c H',Le H H'→RL H' a n c (iA (goes t))→K (.slice a n c) H'):aq prog 52 [sa t] H K:=by
 refine ab af aa rfl func52 call52 ntmps52 results52 rfl rfl ?_
 have kX:∀s∈goes t,s.length≤9223372036854775807:=fun s hs=>by
  rw[goes]at hs;split at hs
  ·rw[List.mem_singleton]at hs;rw[hs];exact ht.2.2.1
  ·split at hs
   ·rcases List.mem_cons.1 hs with rfl | hs
    ·exact ht.2.2.1
    ·rw[List.mem_singleton]at hs;rw[hs];exact ht.2.2.2
   ·cases hs
 have gF:∀v H',Le H H'→aW H' v 1 (ay (goes t))→K v H':=fun v H' hle hv=>by
  obtain⟨a,n,c,rfl,hr⟩:=RL.aC (α:=iz) hv (dU kX);exact hK _ _ _ _ hle hr
 refine⟨fun h=>?_,fun h=>?_⟩
 ·intro v H' hle hv;refine gF v H' hle.le ?_
  rw[goes,se h];exact hv
 ·have n1:=h;refine⟨fun h=>?_,fun h=>?_⟩
  ·intro v H' hle hv;refine gF v H' hle.le ?_
   rw[goes,jl n1,se h];exact hv
  ·refine hK none 0 0 H (Le.refl H) ?_;rw[goes,jl n1,jl h];exact bz
end Go.Proofs
end
section
namespace Go.Proofs
open Go.Sy
open Tryz
variable {H:Hp} {K:Value→Hp→Prop}
theorem iM {K:Value→Hp→Prop} {H:Hp} {a b:Int} (h:K (.int .i64 a) H) (e:a=b):K (.int .i64 b) H:=e▸h
theorem sg {l:List aQ} {t:aQ} {v:Value} (hx:aW H v 1 (ay l)) (hl:∀s∈l,s.length≤9223372036854775807) (hK:K (.bool (decide (t∈l))) H):aq prog 35 [v,.string (bs t)] H K:=by
 obtain⟨a,n,c,rfl,hr⟩:=RL.aC (α:=iz) hx (dU hl);exact l6 hr hK
theorem eL {p:Prog} {a:Option Addr} {n c:Nat} (ha:RL H a n c p) (hc:aw p≤1000000) (hv:iE p<400000) (hK:∀H',Le H H'→K (.int .i64 (al p)) H'):aq prog 23 [.agg #[.slice a n c]] H K:=by
 have hn:=ha.aB;have eI:=ha.le
 have kX:∀s∈aF p,s.length≤9223372036854775807:=fun s hs=>by
  obtain⟨b,hb,rfl⟩:=List.mem_map.1 hs;obtain⟨cs,hr⟩:=qO ha hb;obtain⟨_,_,_,_,_,h,_⟩:=cX hr;exact h
 have oJ:(aF p).length=p.length:=List.length_map _;refine ab af aa rfl func23 call23 ntmps23 results23 rfl rfl ?_;refine .inl ⟨1,?_⟩
 have h6:p.length=0∨128<p.length∨512<aw p→al p=6:=fun h=>by rw[al,if_pos h]
 refine⟨fun h=>?_,fun h=>?_⟩
 ·have h1:¬p.length=0:=by have:=df h;omega
  refine⟨fun h=>?_,fun h=>?_⟩
  ·have h2:¬128<p.length:=by have:=df h;omega
   refine F6 ha hc ?_;refine⟨fun h=>?_,fun h=>?_⟩
   ·exact iM (hK _ (Le.refl H)) (h6 (.inr (.inr (by have:=dt h;omega))))
   ·have h3:¬512<aw p:=by have:=df h;omega
    have e1:al p=(if p.all bM then (if 64<(varsOf p).length then 6 else if (aF p).Nodup then (if p.all fun b=>(goes b.2.2).all fun n=>decide (n∈aF p) then 0 else 4) else 5) else 12):=if_neg (fun h=>by rcases h with h | h | h<;>omega)
    have T1:∀b∈p,bM b=false→al p=12:=fun b hb hf=>by
     rw[e1,if_neg];intro h;rw[List.all_eq_true]at h;rw[h b hb]at hf;cases hf
    refine⟨Nat,fun i=>⟨[(1,.ptr 0 0),(3,.v (.int .i64 12)),(4,.own 1),(29,.v (.slice a n c)),(30,.v (.int .i64 n)),(31,.v (.int .i64 i))],
      [(0,.cells 24 [.v (.slice a n c)]),(1,.row 9 1 (ay ((aF p).take i)))],2⟩,
     fun i H'=>H'=H∧i≤p.length∧(p.take i).all bM=true,fun i=>p.length - i,⟨0,[(0,0)],?_,rfl,Nat.zero_le _,rfl⟩,?_⟩
    ·have e0:ay ((aF p).take 0)=[]:=rfl
     (repeat' first|exact trivial|refine⟨?_,?_⟩|exact rfl|assumption)
    rintro i H1 _ ⟨rfl,hi,xh⟩;refine⟨fun h=>?_,fun h=>?_⟩
    ·have aj:i<p.length:=by have:=dt h;omega
     refine aD p[i] fun b gV=>?_
     have bG:p[i]?=some b:=by rw[gV];exact aL aj
     refine bF ha bG fun ad a1 n1 c1 q1 hh bh rP B6=>?_
     refine⟨ad,⟨by omega,by omega,q1⟩,?_⟩;refine⟨_,hh,?_⟩;refine Dt rP B6 bh ?_;refine⟨fun h=>?_,fun h=>?_⟩
     ·exact iM (hK _ (Le.refl _)) (T1 b (dY bG) (JI h))
     ·have YQ:=Ik h
      have B4:(p.take (i+1)).all bM=true:=by
       rw[List.take_add_one,bG,Option.toList_some,List.all_append,xh];simp [YQ]
      have j1:(ay ((aF p).take i)).length≤1000:=by
       rw[List.length_map,List.length_take];omega
      have e2:ay ((aF p).take i)++[[Value.string (bs b.1.l)]]=ay ((aF p).take (i+1)):=by
       have h3:(aF p)[i]?=some b.1.l:=by rw[aF,List.getElem?_map,bG];rfl
       rw[List.take_add_one,h3];simp
      refine⟨⟨by show ((ay _).length+1)*16≤140737488355328;omega,by show (ay _).length+1≤9223372036854775807;omega⟩,?_⟩;refine⟨⟨by omega,by omega⟩,i+1,[(0,0),(1,4)],?_,⟨rfl,aj,B4⟩,by dsimp only;omega⟩
      (repeat' first|exact trivial|refine⟨?_,?_⟩|exact rfl|assumption)
    ·have aX:i=p.length:=by have:=df h;omega
     have dm:p.all bM=true:=by rw[←xh,aX,List.take_length]
     have e3:al p=(if 64<(varsOf p).length then 6 else if (aF p).Nodup then (if p.all fun b=>(goes b.2.2).all fun n=>decide (n∈aF p) then 0 else 4) else 5):=by rw[e1,if_pos dm]
     refine kM ha hv fun a2 n2 c2 H2 ah bj=>?_
     have lv:=bj.aB;rw[List.length_map]at lv;refine⟨fun h=>?_,fun h=>?_⟩
     ·exact iM (hK _ ah) (by rw[e3,if_pos (by have:=dt h;omega)])
     ·have Wg:¬64<(varsOf p).length:=by have:=df h;omega
      have e4:al p=(if (aF p).Nodup then (if p.all fun b=>(goes b.2.2).all fun n=>decide (n∈aF p) then 0 else 4) else 5):=by rw[e3,if_neg Wg]
      refine aD (aF p) fun N hN=>?_
      rw[←hN]at kX oJ e4;have j1:(ay N).length=N.length:=List.length_map _
      refine⟨Nat,fun j=>⟨[(1,.ptr 0 0),(3,.v (.int .i64 5)),(4,.own 1),(48,.own 1),(49,.v (.int .i64 (N.length:Nat))),(50,.v (.int .i64 j))],
        [(0,.cells 24 [.v (.slice a n c)]),(1,.row 9 1 (ay N))],2⟩,
       fun j H'=>Le H2 H'∧j≤N.length∧(N.take j).Nodup,fun j=>N.length - j,⟨0,[(0,0),(1,1)],?_,Le.refl _,Nat.zero_le _,by simp⟩,?_⟩
      ·have e5:ay ((aF p).take i)=ay N:=by rw[←hN,aX,←oJ,List.take_length]
       have e6:SV.v (.int .i64 (((ay ((aF p).take i)).length:Nat):Int))=SV.v (.int .i64 (N.length:Nat)):=by rw[e5,j1]
       (repeat' first|exact trivial|refine⟨?_,?_⟩|exact rfl|assumption)
      rintro j H3 az ⟨_,hj,wE⟩;refine⟨fun h=>?_,fun h=>?_⟩
      ·have eD:j<N.length:=by have:=dt h;omega
       refine aD N[j] fun t ht=>?_
       have zq:(ay N)[(j:Int).toNat]?=some [.string (bs t)]:=by rw[Int.toNat_natCast,List.getElem?_map,aL eD,ht];rfl
       refine⟨⟨by omega,by rw[j1];omega⟩,?_⟩;refine⟨_,zq,?_⟩;refine .inr ?_
       refine⟨by refine⟨?_,?_⟩<;>first | omega | (rw[j1];omega) | (refine⟨by omega,?_⟩;rw[j1];omega),?_⟩
       refine⟨by rw[j1];omega,?_⟩;intro v w H4 aN hv4 YR
       have YS:aW H4 w 1 (ay (N.take j)):=by
        have e7:List.take ((j:Int).toNat - Int.toNat 0) (List.drop (Int.toNat 0) (ay N))=ay (N.take j):=by
         rw[Int.toNat_natCast,show Int.toNat 0=0 from rfl,Nat.sub_zero,List.drop_zero,←List.map_take]
        rw[←e7];exact YR
       refine sg YS (fun s hs=>kX s (List.mem_of_mem_take hs)) ?_;refine⟨fun h=>?_,fun h=>?_⟩
       ·have iG:t∈N.take j:=dt h
        have gZ:¬N.Nodup:=fun h2=>by
         obtain⟨k,hk,MA⟩:=List.getElem_of_mem iG;rw[List.length_take]at hk;rw[List.getElem_take,ht]at MA;have:=(List.getElem_inj h2).1 MA;omega
        exact iM (hK _ (ah.trans az)) (by rw[e4,if_neg gZ])
       ·have iG:t ∉ N.take j:=df h
        have RM:(N.take (j+1)).Nodup:=by
         rw[List.take_succ_eq_append_getElem eD,←ht,List.nodup_append];exact⟨wE,by simp,fun x hx y hy e=>iG (by rw[List.mem_singleton]at hy;rw[←hy,←e];exact hx)⟩
        refine⟨⟨by omega,by omega⟩,j+1,[(0,0),(1,1)],?_,⟨az,eD,RM⟩,by dsimp only;omega⟩
        (repeat' first|exact trivial|refine⟨?_,?_⟩|exact rfl|assumption)
      ·have eD:j=N.length:=by have:=df h;omega
       rw[eD,List.take_length]at wE
       have e5:al p=(if p.all fun b=>(goes b.2.2).all fun n=>decide (n∈N) then 0 else 4):=by rw[e4,if_pos wE]
       have Vc:∀b∈p,(∃x∈goes b.2.2,x ∉ N)→al p=4:=fun b hb ⟨x,hx,O6⟩=>by
        rw[e5,if_neg];intro h;rw[List.all_eq_true]at h;have h2:=h b hb;rw[List.all_eq_true]at h2;exact O6 (dt (h2 x hx))
       have uz:=ah.trans az
       refine⟨Nat,fun k=>⟨[(3,.v (.int .i64 4)),(4,.own 0),(62,.v (.slice a n c)),(63,.v (.int .i64 n)),(64,.v (.int .i64 k))],[(0,.row 9 1 (ay N))],1⟩,
        fun k H'=>Le H3 H'∧k≤p.length∧((p.take k).all fun b=>(goes b.2.2).all fun n=>decide (n∈N))=true,fun k=>p.length - k,⟨0,[(0,1)],?_,Le.refl _,Nat.zero_le _,rfl⟩,?_⟩
       ·(repeat' first|exact trivial|refine⟨?_,?_⟩|exact rfl|assumption)
       rintro k H4 aN ⟨_,hk,F8⟩;refine⟨fun h=>?_,fun h=>?_⟩
       ·have e8:k<p.length:=by have:=dt h;omega
        refine aD p[k] fun b gV=>?_
        have bG:p[k]?=some b:=by rw[gV];exact aL e8
        refine bF (ha.up (uz.trans aN)) bG fun ad a1 n1 c1 q1 hh bh rP B6=>?_
        refine⟨ad,⟨by omega,by omega,q1⟩,?_⟩;refine⟨_,hh,?_⟩
        refine F7 B6 fun a5 n5 c5 H5 aK ct=>?_
        have xl:=ct.aB;rw[List.length_map]at xl;have RN:=ct.le
        refine aD (goes b.2.2) fun G hG=>?_
        rw[←hG]at ct xl
        refine⟨Nat,fun q=>⟨[(3,.v (.int .i64 4)),(4,.own 0),(62,.v (.slice a n c)),(63,.v (.int .i64 n)),(64,.v (.int .i64 k)),(70,.v (.slice a5 n5 c5)),(71,.v (.int .i64 n5)),(72,.v (.int .i64 q))],[(0,.row 9 1 (ay N))],1⟩,
         fun q H'=>Le H5 H'∧q≤G.length∧∀x∈G.take q,x∈N,fun q=>G.length - q,⟨0,[(0,0)],?_,Le.refl _,Nat.zero_le _,by simp⟩,?_⟩
        ·(repeat' first|exact trivial|refine⟨?_,?_⟩|exact rfl|assumption)
        rintro q H6 aI ⟨_,hq,RO⟩;refine⟨fun h=>?_,fun h=>?_⟩
        ·have F9:q<G.length:=by have:=dt h;omega
         refine aD G[q] fun x hx=>?_
         have oi:(iA G)[q]?=some ⟨x⟩:=by rw[A1 F9,hx]
         refine kN (ct.up aI) oi fun iy N4 q2 gj bj=>?_
         have fB:N4=[.string (bs x)]:=bj.1;rw[fB]at gj;refine⟨iy,⟨by omega,by omega,q2⟩,?_⟩;refine⟨_,gj,?_⟩;intro v H7 cS Wi;refine sg Wi kX ?_;have T2:=((uz.trans aN).trans aK).trans aI;refine⟨fun h=>?_,fun h=>?_⟩
         ·have O6:x ∉ N:=df (JI h);exact iM (hK _ T2) (Vc b (dY bG) ⟨x,by rw[←hG,hx];exact List.getElem_mem F9,O6⟩)
         ·have O6:x∈N:=dt (Ik h)
          have B4:∀y∈G.take (q+1),y∈N:=fun y hy=>by
           rw[List.take_succ_eq_append_getElem F9,←hx]at hy
           rcases List.mem_append.1 hy with hy | hy
           ·exact RO y hy
           ·rw[List.mem_singleton]at hy;rw[hy];exact O6
          refine⟨⟨by omega,by omega⟩,q+1,[(0,0)],?_,⟨aI,F9,B4⟩,by dsimp only;omega⟩
          (repeat' first|exact trivial|refine⟨?_,?_⟩|exact rfl|assumption)
        ·have F9:q=G.length:=by have:=df h;omega
         rw[F9,List.take_length]at RO
         have B4:((p.take (k+1)).all fun b=>(goes b.2.2).all fun n=>decide (n∈N))=true:=by
          rw[List.take_add_one,bG,Option.toList_some,List.all_append,F8,Bool.true_and,List.all_cons,List.all_nil,Bool.and_true,List.all_eq_true]
          exact fun y hy=>decide_eq_true (RO y (by rw[hG];exact hy))
         refine⟨⟨by omega,by omega⟩,k+1,[(0,0)],?_,⟨(aN.trans aK).trans aI,e8,B4⟩,by dsimp only;omega⟩
         (repeat' first|exact trivial|refine⟨?_,?_⟩|exact rfl|assumption)
       ·have e8:k=p.length:=by have:=df h;omega
        rw[e8,List.take_length]at F8;exact iM (hK _ (uz.trans aN)) (by rw[e5,if_pos F8])
  ·have h2:128<p.length:=by have:=dt h;omega
   exact iM (hK _ (Le.refl H)) (h6 (.inr (.inl h2)))
 ·exact iM (hK _ (Le.refl H)) (h6 (.inl (by have:=dt h;omega)))
end Go.Proofs
end
section
namespace Go.Proofs
open Go.Sy
open Tryz
theorem xm {p:Prog} {a:Option Addr} {n c:Nat} {k:Nat} {s:aQ} {H:Hp} {K:Value→Hp→Prop} (ha:RL H a n c p) (hk:k≤p.length) (hK:K (.bool (decide (s∈(aF p).take k))) H):aq prog 29 [.agg #[.slice a n c],.int .i64 k,.string (bs s)] H K:=by
 have hn:=ha.aB;have eI:=ha.le;refine ab af aa rfl func29 call29 ntmps29 results29 rfl rfl ?_;refine⟨⟨by omega,by omega,by omega,ha.2.1⟩,?_⟩;have hr:RL H (dR a 0 c 8) (k - 0) (c - 0) ((p.take k).drop 0):=ha.cut (Nat.zero_le k) (by omega);rw[List.drop_zero]at hr
 refine⟨Nat,fun i=>⟨[(2,.v (.string (bs s))),(12,.v (.slice (dR a 0 c 8) (k - 0) (c - 0))),(13,.v (.int .i64 k)),(14,.v (.int .i64 i))],[],0⟩,
  fun i H'=>H'=H∧i≤k∧s ∉ (aF p).take i,fun i=>k - i,⟨0,[],?_,rfl,Nat.zero_le _,by simp⟩,?_⟩
 ·have e1:SV.v (.int .i64 (((k:Int).toNat - Int.toNat 0:Nat):Int))=SV.v (.int .i64 k):=by simp
  (repeat' first|exact trivial|refine⟨?_,?_⟩|exact rfl|assumption)
 rintro i H1 _ ⟨rfl,hi,gZ⟩;have oJ:(aF p).length=p.length:=List.length_map _;refine⟨fun h=>?_,fun h=>?_⟩
 ·have aj:i<k:=by have:=dt h;omega
  have XB:i<p.length:=by omega
  refine aD p[i] fun b gV=>?_
  have bG:(p.take k)[i]?=some b:=by rw[List.getElem?_take_of_lt aj,gV];exact aL XB
  have Qx:(aF p)[i]?=some b.1.l:=by rw[aF,List.getElem?_map,aL XB,←gV];rfl
  refine bF hr bG fun ad a1 n1 c1 q1 hh bh rP B6=>?_
  refine⟨ad,⟨by omega,by omega,q1⟩,?_⟩;refine⟨_,hh,?_⟩
  have Qy:(aF p).take (i+1)=(aF p).take i++[b.1.l]:=by rw[List.take_add_one,Qx];rfl
  refine⟨fun h=>?_,fun h=>?_⟩
  ·have he:b.1.l=s:=(dM _).symm.trans ((dt h).trans (dM _));refine aA hK ?_;refine decide_eq_true ?_;rw[←he];exact dY (by rw[List.getElem?_take_of_lt aj];exact Qx)
  ·have he:b.1.l≠s:=fun e=>by
    have h2:=df h;rw[e]at h2;exact h2 rfl
   refine⟨⟨by omega,by omega⟩,i+1,[],?_,⟨rfl,aj,?_⟩,by dsimp only;omega⟩
   ·(repeat' first|exact trivial|refine⟨?_,?_⟩|exact rfl|assumption)
   ·rw[Qy,List.mem_append,List.mem_singleton];rintro (h1 | h1)
    ·exact gZ h1
    ·exact he h1.symm
 ·have YT:i=k:=by have:=df h;omega
  rw[YT]at gZ;exact aA hK (decide_eq_false gZ)
end Go.Proofs
end
section
namespace Go.Proofs
open Go.Sy
open Tryz
theorem uA {p:Prog} {a:Option Addr} {n c:Nat} {H:Hp} {K:Value→Hp→Prop} (ha:RL H a n c p) (hc:aw p≤1000000) (hv:iE p<400000) (hK:∀H',Le H H'→K (.int .i64 (al p)) H'):aq prog 9 [.agg #[.slice a n c]] H K:=by
 have hn:=ha.aB;have eI:=ha.le;have oJ:(aF p).length=p.length:=List.length_map _;refine ab af aa rfl func9 call9 ntmps9 results9 rfl rfl ?_
 have h6:p.length=0∨128<p.length∨512<aw p→al p=6:=fun h=>by rw[al,if_pos h]
 refine⟨fun h=>?_,fun h=>?_⟩
 ·have h1:¬p.length=0:=by have:=df h;omega
  refine⟨fun h=>?_,fun h=>?_⟩
  ·have h2:¬128<p.length:=by have:=df h;omega
   refine oU ha hc ?_;refine⟨fun h=>?_,fun h=>?_⟩
   ·exact iM (hK _ (Le.refl H)) (h6 (.inr (.inr (by have:=dt h;omega))))
   ·have h3:¬512<aw p:=by have:=df h;omega
    have e1:al p=(if p.all bM then (if 64<(varsOf p).length then 6 else if (aF p).Nodup then (if p.all fun b=>(goes b.2.2).all fun n=>decide (n∈aF p) then 0 else 4) else 5) else 12):=if_neg (fun h=>by rcases h with h | h | h<;>omega)
    have T1:∀b∈p,bM b=false→al p=12:=fun b hb hf=>by
     rw[e1,if_neg];intro h;rw[List.all_eq_true]at h;rw[h b hb]at hf;cases hf
    refine⟨Nat,fun i=>⟨[(1,.ptr 0 0),(27,.v (.slice a n c)),(28,.v (.int .i64 n)),(29,.v (.int .i64 i))],[(0,.cells 24 [.v (.slice a n c)])],1⟩,
     fun i H'=>H'=H∧i≤p.length∧(p.take i).all bM=true,fun i=>p.length - i,⟨0,[(0,0)],?_,rfl,Nat.zero_le _,rfl⟩,?_⟩
    ·(repeat' first|exact trivial|refine⟨?_,?_⟩|exact rfl|assumption)
    rintro i H1 _ ⟨rfl,hi,xh⟩;refine⟨fun h=>?_,fun h=>?_⟩
    ·have aj:i<p.length:=by have:=dt h;omega
     refine aD p[i] fun b gV=>?_
     have bG:p[i]?=some b:=by rw[gV];exact aL aj
     have RP:=dY bG
     refine bF ha bG fun ad a1 n1 c1 q1 hh bh rP B6=>?_
     have dd:=bh.aB;have YU:=bh.le;refine⟨ad,⟨by omega,by omega,q1⟩,?_⟩;refine⟨_,hh,?_⟩;refine dZ ?_ rP;refine⟨fun h=>?_,fun h=>?_⟩
     ·have Ii:=Ik h;refine F4 B6 ?_;refine⟨fun h=>?_,fun h=>?_⟩
      ·exact iM (hK _ (Le.refl _)) (T1 b RP (by rw[bM,JI h];simp))
      ·have wM:=Ik h
       refine⟨Nat,fun j=>⟨[(1,.ptr 0 0),(27,.v (.slice a n c)),(28,.v (.int .i64 n)),(29,.v (.int .i64 i)),(44,.v (.slice a1 n1 c1)),(45,.v (.int .i64 n1)),(46,.v (.int .i64 j))],[(0,.cells 24 [.v (.slice a n c)])],1⟩,
        fun j H'=>H'=H1∧j≤b.2.1.length∧(b.2.1.take j).all dc=true,fun j=>b.2.1.length - j,⟨0,[(0,0)],?_,rfl,Nat.zero_le _,rfl⟩,?_⟩
       ·(repeat' first|exact trivial|refine⟨?_,?_⟩|exact rfl|assumption)
       rintro j H2 _ ⟨rfl,hj,RQ⟩;refine⟨fun h=>?_,fun h=>?_⟩
       ·have eD:j<b.2.1.length:=by have:=dt h;omega
        refine aD b.2.1[j] fun s Be=>?_
        have dy:b.2.1[j]?=some s:=by rw[Be];exact aL eD
        refine du bh dy fun iy q2 gj bj=>?_
        refine⟨iy,⟨by omega,by omega,q2⟩,?_⟩;refine⟨_,gj,?_⟩;refine F2 bj ?_;refine⟨fun h=>?_,fun h=>?_⟩
        ·refine iM (hK _ (Le.refl _)) (T1 b RP ?_)
         have:b.2.1.all dc=false:=by
          rw[Bool.eq_false_iff];intro h4;rw[List.all_eq_true]at h4;have h5:=JI h;rw[h4 s (dY dy)]at h5;cases h5
         rw[bM,this];simp
        ·have B4:(b.2.1.take (j+1)).all dc=true:=by
          rw[List.take_add_one,dy,Option.toList_some,List.all_append,RQ];simp [Ik h]
         refine⟨⟨by omega,by omega⟩,j+1,[(0,0)],?_,⟨rfl,eD,B4⟩,by dsimp only;omega⟩
         (repeat' first|exact trivial|refine⟨?_,?_⟩|exact rfl|assumption)
       ·have eD:j=b.2.1.length:=by have:=df h;omega
        rw[eD,List.take_length]at RQ
        have B4:(p.take (i+1)).all bM=true:=by
         rw[List.take_add_one,bG,Option.toList_some,List.all_append,xh];simp [bM,Ii,wM,RQ]
        refine⟨⟨by omega,by omega⟩,i+1,[(0,0)],?_,⟨rfl,aj,B4⟩,by dsimp only;omega⟩
        (repeat' first|exact trivial|refine⟨?_,?_⟩|exact rfl|assumption)
     ·exact iM (hK _ (Le.refl _)) (T1 b RP (by rw[bM,JI h];rfl))
    ·have aX:i=p.length:=by have:=df h;omega
     have dm:p.all bM=true:=by rw[←xh,aX,List.take_length]
     have e3:al p=(if 64<(varsOf p).length then 6 else if (aF p).Nodup then (if p.all fun b=>(goes b.2.2).all fun n=>decide (n∈aF p) then 0 else 4) else 5):=by rw[e1,if_pos dm]
     refine eh ha hv fun a2 n2 c2 H2 ah bj=>?_
     have lv:=bj.aB;rw[List.length_map]at lv;refine⟨fun h=>?_,fun h=>?_⟩
     ·exact iM (hK _ ah) (by rw[e3,if_pos (by have:=dt h;omega)])
     ·have Wg:¬64<(varsOf p).length:=by have:=df h;omega
      have e4:al p=(if (aF p).Nodup then (if p.all fun b=>(goes b.2.2).all fun n=>decide (n∈aF p) then 0 else 4) else 5):=by rw[e3,if_neg Wg]
      refine⟨Nat,fun j=>⟨[(1,.ptr 0 0),(60,.v (.slice a n c)),(61,.v (.int .i64 n)),(62,.v (.int .i64 j))],[(0,.cells 24 [.v (.slice a n c)])],1⟩,
       fun j H'=>Le H2 H'∧j≤p.length∧((aF p).take j).Nodup,fun j=>p.length - j,⟨0,[(0,0)],?_,Le.refl _,Nat.zero_le _,by simp⟩,?_⟩
      ·(repeat' first|exact trivial|refine⟨?_,?_⟩|exact rfl|assumption)
      rintro j H3 az ⟨_,hj,wE⟩;have uz:=ah.trans az;refine⟨fun h=>?_,fun h=>?_⟩
      ·have eD:j<p.length:=by have:=dt h;omega
       refine aD p[j] fun b gV=>?_
       have bG:p[j]?=some b:=by rw[gV];exact aL eD
       have Qx:(aF p)[j]?=some b.1.l:=by rw[aF,List.getElem?_map,bG];rfl
       refine bF (ha.up uz) bG fun ad a1 n1 c1 q1 hh bh rP B6=>?_
       refine⟨ad,⟨by omega,by omega,q1⟩,?_⟩;refine⟨_,hh,?_⟩;refine xm (k:=j) (ha.up uz) (by omega) ?_;refine⟨fun h=>?_,fun h=>?_⟩
       ·have iG:b.1.l∈(aF p).take j:=dt h
        have gZ:¬(aF p).Nodup:=fun h2=>by
         obtain⟨k,hk,MA⟩:=List.getElem_of_mem iG;rw[List.length_take]at hk;rw[List.getElem_take]at MA
         have T3:j<(aF p).length:=by omega
         have YV:(aF p)[j]=b.1.l:=by
          rw[aL T3]at Qx
          simpa using Qx
         have:=(List.getElem_inj h2).1 (MA.trans YV.symm);omega
        exact iM (hK _ uz) (by rw[e4,if_neg gZ])
       ·have iG:b.1.l ∉ (aF p).take j:=df h
        have RM:((aF p).take (j+1)).Nodup:=by
         rw[List.take_add_one,Qx,Option.toList_some,List.nodup_append];exact⟨wE,by simp,fun x hx y hy e=>iG (by rw[List.mem_singleton]at hy;rw[←hy,←e];exact hx)⟩
        refine⟨⟨by omega,by omega⟩,j+1,[(0,0)],?_,⟨az,eD,RM⟩,by dsimp only;omega⟩
        (repeat' first|exact trivial|refine⟨?_,?_⟩|exact rfl|assumption)
      ·have eD:j=p.length:=by have:=df h;omega
       rw[eD,←oJ,List.take_length]at wE
       have XC:(aF p).take n=aF p:=by rw[hn,←oJ,List.take_length]
       have e5:al p=(if p.all fun b=>(goes b.2.2).all fun n=>decide (n∈aF p) then 0 else 4):=by rw[e4,if_pos wE]
       have Vc:∀b∈p,(∃x∈goes b.2.2,x ∉ aF p)→al p=4:=fun b hb ⟨x,hx,O6⟩=>by
        rw[e5,if_neg];intro h;rw[List.all_eq_true]at h;have h2:=h b hb;rw[List.all_eq_true]at h2;exact O6 (dt (h2 x hx))
       refine⟨Nat,fun k=>⟨[(1,.ptr 0 0),(74,.v (.slice a n c)),(75,.v (.int .i64 n)),(76,.v (.int .i64 k))],[(0,.cells 24 [.v (.slice a n c)])],1⟩,
        fun k H'=>Le H3 H'∧k≤p.length∧((p.take k).all fun b=>(goes b.2.2).all fun n=>decide (n∈aF p))=true,fun k=>p.length - k,⟨0,[(0,0)],?_,Le.refl _,Nat.zero_le _,rfl⟩,?_⟩
       ·(repeat' first|exact trivial|refine⟨?_,?_⟩|exact rfl|assumption)
       rintro k H4 aN ⟨_,hk,F8⟩;have zz:=uz.trans aN;refine⟨fun h=>?_,fun h=>?_⟩
       ·have e8:k<p.length:=by have:=dt h;omega
        refine aD p[k] fun b gV=>?_
        have bG:p[k]?=some b:=by rw[gV];exact aL e8
        have RP:=dY bG
        have wM:fJ b.2.2=true:=by
         rw[List.all_eq_true]at dm;have h5:=dm b RP;rw[bM,Bool.and_eq_true,Bool.and_eq_true]at h5;exact h5.1.2
        have B4:(∀x∈goes b.2.2,x∈aF p)→((p.take (k+1)).all fun b=>(goes b.2.2).all fun n=>decide (n∈aF p))=true:=fun h5=>by
         rw[List.take_add_one,bG,Option.toList_some,List.all_append,F8,Bool.true_and,List.all_cons,List.all_nil,Bool.and_true,List.all_eq_true]
         exact fun y hy=>decide_eq_true (h5 y hy)
        refine bF (ha.up zz) bG fun ad a1 n1 c1 q1 hh bh rP B6=>?_
        refine⟨ad,⟨by omega,by omega,q1⟩,?_⟩;refine⟨_,hh,?_⟩;refine⟨fun h=>?_,fun h=>?_⟩
        ·have kJ:b.2.2.1≠3:=df (JI h)
         have Wj:b.2.2.2.2.1.l∈goes b.2.2:=by
          rw[goes]
          by_cases h1:b.2.2.1=1
          ·rw[if_pos h1];exact List.mem_cons_self
          ·rw[if_neg h1]
           by_cases h2:b.2.2.1=2
           ·rw[if_pos h2];exact List.mem_cons_self
           ·exfalso;rw[fJ,if_neg h1,if_neg h2,if_neg kJ]at wM;cases wM
         refine xm (k:=n) (ha.up zz) (by omega) ?_;rw[XC];refine⟨fun h=>?_,fun h=>?_⟩
         ·have jg:b.2.2.2.2.1.l∈aF p:=dt (Ik h);refine⟨fun h=>?_,fun h=>?_⟩
          ·have kY:b.2.2.1=2:=dt h
           have hg:goes b.2.2=[b.2.2.2.2.1.l,b.2.2.2.2.2.l]:=by rw[goes,if_neg (by rw[kY];decide),if_pos kY]
           refine xm (k:=n) (ha.up zz) (by omega) ?_;rw[XC];refine⟨fun h=>?_,fun h=>?_⟩
           ·have ti:b.2.2.2.2.2.l ∉ aF p:=df (JI h);exact iM (hK _ zz) (Vc b RP ⟨_,by rw[hg];simp,ti⟩)
           ·have ti:b.2.2.2.2.2.l∈aF p:=dt (Ik h)
            have MB:=B4 fun x hx=>by
             rw[hg]at hx
             rcases List.mem_cons.1 hx with rfl | hx
             ·exact jg
             ·rw[List.mem_singleton]at hx;rw[hx];exact ti
            refine⟨⟨by omega,by omega⟩,k+1,[(0,0)],?_,⟨aN,e8,MB⟩,by dsimp only;omega⟩
            (repeat' first|exact trivial|refine⟨?_,?_⟩|exact rfl|assumption)
          ·have kY:¬b.2.2.1=2:=df h
           have MB:=B4 fun x hx=>by
            rw[goes]at hx;split at hx
            ·rw[List.mem_singleton]at hx;rw[hx];exact jg
            ·first | cases hx | (rw[if_neg kY]at hx;cases hx)
           refine⟨⟨by omega,by omega⟩,k+1,[(0,0)],?_,⟨aN,e8,MB⟩,by dsimp only;omega⟩
           (repeat' first|exact trivial|refine⟨?_,?_⟩|exact rfl|assumption)
         ·have jg:b.2.2.2.2.1.l ∉ aF p:=df (JI h);exact iM (hK _ zz) (Vc b RP ⟨_,Wj,jg⟩)
        ·have kJ:b.2.2.1=3:=dt (Ik h)
         have MB:=B4 fun x hx=>by
          rw[goes,if_neg (by rw[kJ];decide),if_neg (by rw[kJ];decide)]at hx;cases hx
         refine⟨fun h=>absurd (dt h) (by rw[kJ];decide),fun _=>?_⟩;refine⟨⟨by omega,by omega⟩,k+1,[(0,0)],?_,⟨aN,e8,MB⟩,by dsimp only;omega⟩
         (repeat' first|exact trivial|refine⟨?_,?_⟩|exact rfl|assumption)
       ·have e8:k=p.length:=by have:=df h;omega
        rw[e8,List.take_length]at F8;exact iM (hK _ zz) (by rw[e5,if_pos F8])
  ·have h2:128<p.length:=by have:=dt h;omega
   exact iM (hK _ (Le.refl H)) (h6 (.inr (.inl h2)))
 ·exact iM (hK _ (Le.refl H)) (h6 (.inl (by have:=dt h;omega)))
end Go.Proofs
end
section
namespace Go.Proofs
open Go.Sy
open Tryz
variable {H:Hp} {K:Value→Hp→Prop}
def eJ (t:Term):Term:=if t.1=2 then (if t.2.1.1.l=[]∧t.2.1.2=(0,0) then (1,za,t.2.2.2,⟨[]⟩) else if t.2.1.1.l=[]∨t.2.2.1.l=t.2.2.2.l then (1,za,t.2.2.1,⟨[]⟩) else t) else t
theorem yz {K:Value→Hp→Prop} {H:Hp} {t s:Term} (h:K (sa t) H) (e:t=s):K (sa s) H:=e▸h
theorem Vd (p q:Int):(decide (p=0)&&(decide (q=0)&&true))=decide ((p,q)=((0:Int),(0:Int))):=by
 rw[Bool.eq_iff_iff];simp
theorem JK {t:Term} (hK:K (sa (eJ t)) H):aq prog 177 [sa t] H K:=by
 refine ab af aa rfl func177 call177 ntmps177 results177 rfl rfl ?_;refine⟨fun h=>?_,fun h=>?_⟩
 ·have h2:¬t.1=2:=df (JI h);exact yz hK (by rw[eJ,if_neg h2])
 ·have h2:t.1=2:=dt (Ik h)
  have e1:eJ t=if t.2.1.1.l=[]∧t.2.1.2=(0,0) then (1,za,t.2.2.2,⟨[]⟩) else if t.2.1.1.l=[]∨t.2.2.1.l=t.2.2.2.l then (1,za,t.2.2.1,⟨[]⟩) else t:=if_pos h2
  refine⟨fun h=>?_,fun h=>?_⟩
  ·have hv:=oO h;refine⟨fun h=>?_,fun h=>?_⟩
   ·have hz:t.2.1.2=(0,0):=dt ((Vd _ _).symm.trans h);exact yz hK (by rw[e1,if_pos ⟨hv,hz⟩])
   ·have hz:¬t.2.1.2=(0,0):=df ((Vd _ _).symm.trans h);refine⟨fun h3=>absurd hv (oP h3),fun _=>?_⟩;exact yz hK (by rw[e1,if_neg (fun h4=>hz h4.2),if_pos (.inl hv)])
  ·have hv:=oP h;refine⟨fun _=>?_,fun h3=>absurd (oO h3) hv⟩;refine⟨fun h=>?_,fun h=>?_⟩
   ·have he:t.2.2.1.l=t.2.2.2.l:=by have:=dt h;rwa[dM,dM]at this
    exact yz hK (by rw[e1,if_neg (fun h4=>hv h4.1),if_pos (.inr he)])
   ·have he:¬t.2.2.1.l=t.2.2.2.l:=by have:=df h;rwa[dM,dM]at this
    exact yz hK (by rw[e1,if_neg (fun h4=>hv h4.1),if_neg (fun h4=>h4.elim hv he)])
theorem JL {t:Term} (hK:K (sa (eJ t)) H):aq prog 125 [sa t] H K:=by
 refine ab af aa rfl func125 call125 ntmps125 results125 rfl rfl ?_;refine⟨fun h=>?_,fun h=>?_⟩
 ·have h2:¬t.1=2:=df (JI h);exact yz hK (by rw[eJ,if_neg h2])
 ·have h2:t.1=2:=dt (Ik h)
  have e1:eJ t=if t.2.1.1.l=[]∧t.2.1.2=(0,0) then (1,za,t.2.2.2,⟨[]⟩) else if t.2.1.1.l=[]∨t.2.2.1.l=t.2.2.2.l then (1,za,t.2.2.1,⟨[]⟩) else t:=if_pos h2
  refine⟨fun h=>?_,fun h=>?_⟩
  ·have hv:=oO h;refine⟨fun h=>?_,fun h=>?_⟩
   ·have hz:t.2.1.2=(0,0):=dt ((Vd _ _).symm.trans h);exact yz hK (by rw[e1,if_pos ⟨hv,hz⟩])
   ·have hz:¬t.2.1.2=(0,0):=df ((Vd _ _).symm.trans h);exact yz hK (by rw[e1,if_neg (fun h4=>hz h4.2),if_pos (.inl hv)])
  ·have hv:=oP h;refine⟨fun h=>?_,fun h=>?_⟩
   ·have he:t.2.2.1.l=t.2.2.2.l:=by have:=dt h;rwa[dM,dM]at this
    exact yz hK (by rw[e1,if_neg (fun h4=>hv h4.1),if_pos (.inr he)])
   ·have he:¬t.2.2.1.l=t.2.2.2.l:=by have:=df h;rwa[dM,dM]at this
    exact yz hK (by rw[e1,if_neg (fun h4=>hv h4.1),if_neg (fun h4=>h4.elim hv he)])
end Go.Proofs
end
section
namespace Go.Proofs
open Go.Sy
open Tryz
variable {H:Hp} {K:Value→Hp→Prop}
theorem qp.base {e:TypeId} {sz:Nat} {xs:List (List Value)} {H H1 H':Hp} {x:Value} (hle:Le H H1) (h:qp e sz xs H1 x H'):qp e sz xs H x H':=by
 refine⟨hle.trans h.le,?_⟩
 rcases h.new with h1 | ⟨g,cap,c,h1,h2,h3⟩
 ·exact .inl h1
 ·refine .inr ⟨g,cap,c,h1,?_,h3⟩
  cases hg:H g with
  | none=>rfl
  | some o=>rw[hle _ _ hg]at h2;cases h2
theorem Dv {l:List Stmt} (hl:l.length≤1000000) {a:Option Addr} {n c:Nat} (ha:RL H a n c l) (hK:∀a1 n1 c1 H',Le H H'→RL H' a1 n1 c1 l→K (.slice a1 n1 c1) H'):aq prog 59 [.slice a n c] H K:=by
 have hn:=ha.aB;refine ab af aa rfl func59 call59 ntmps59 results59 rfl rfl ?_;refine⟨fun h=>?_,fun h=>?_⟩
 ·have gZ:a=none:=by
   cases a with
   | none=>rfl
   | some x=>cases h
  rw[gZ]at ha;have:=A2 ha;refine hK none 0 0 H (Le.refl H) ?_;rw[this];exact bz
 ·obtain⟨css,gF,bf⟩:=ha.row;have fC:css.length=l.length:=bf.1;refine⟨css,gF,?_⟩;refine⟨⟨by show (0+css.length)*96≤140737488355328;omega,by show 0+css.length≤9223372036854775807;omega⟩,?_⟩;intro v H' hle hv;obtain⟨a1,n1,c1,rfl,hr⟩:=RL.aC (α:=Stmt) hv (bf.up hle.le);exact hK _ _ _ _ hle.le hr
theorem O7 {H:Hp} {t:Term} (h:gi t):cq.R H (dg t) t :=
 ⟨[.int .i64 t.1],dT t.2.1++[.string (bs t.2.2.1.l),.string (bs t.2.2.2.l)],rfl,⟨rfl,h.1⟩,dT t.2.1,[.string (bs t.2.2.1.l),.string (bs t.2.2.2.l)],rfl,tz h.2.1,[.string (bs t.2.2.1.l)],[.string (bs t.2.2.2.l)],rfl,⟨rfl,h.2.2.1⟩,⟨rfl,h.2.2.2⟩⟩
theorem dD {H:Hp} {b:Block} {a:Option Addr} {n c:Nat} (hl:RL H a n c b.2.1) (hs:sR b.1) (ht:gi b.2.2):cq.R H (.string (bs b.1.l) :: .slice a n c::dg b.2.2) b :=
 ⟨[.string (bs b.1.l)],.slice a n c::dg b.2.2,rfl,⟨rfl,hs⟩,[.slice a n c],dg b.2.2,rfl,⟨a,n,c,rfl,hl⟩,O7 ht⟩
theorem oV {p:Prog} (hp:p.length≤1000000) (hl:∀b∈p,b.2.1.length≤1000000) {a:Option Addr} {n c:Nat} (ha:RL H a n c p)
  (hK:∀v css H3 H',Le H H3→RC (α:=Block) H3 css p→qp 66 8 css H3 v H'→aW H' v 8 css→K (.agg #[v]) H'):aq prog 30 [.agg #[.slice a n c]] H K:=by
 have hn:=ha.aB;have eI:=ha.le;refine ab af aa rfl func30 call30 ntmps30 results30 rfl rfl ?_
 refine⟨Nat×List (List Value),fun q=>⟨[(2,.ptr 0 0),(3,.ptr 1 0),(7,.v (.slice a n c)),(8,.v (.int .i64 n)),(9,.v (.int .i64 q.1))],
   [(0,.cells 24 [.v (.slice none 0 0)]),(1,.cells 24 [.own 2]),(2,.row 66 8 q.2)],3⟩,
  fun q H'=>Le H H'∧q.1≤p.length∧RC (α:=Block) H' q.2 (p.take q.1),fun q=>p.length - q.1,⟨(0,[]),[(0,1),(1,2)],?_,Le.refl _,Nat.zero_le _,RC.nil⟩,?_⟩
 ·(repeat' first|exact trivial|refine⟨?_,?_⟩|exact rfl|assumption)
 rintro⟨i,css⟩ H1 ak ⟨_,hi,bf⟩;dsimp only at hi bf;have fC:css.length=(p.take i).length:=bf.1;rw[List.length_take]at fC;refine⟨fun h=>?_,fun h=>?_⟩
 ·have aj:i<p.length:=by have:=dt h;dsimp only at this;omega
  refine aD p[i] fun b gV=>?_
  have bG:p[i]?=some b:=by rw[gV];exact aL aj
  refine bF (ha.up ak) bG fun ad a1 n1 c1 q1 hh bh rP B6=>?_
  refine⟨ad,⟨by dsimp only;omega,by dsimp only;omega,q1⟩,?_⟩;refine⟨_,hh,?_⟩
  refine Dv (hl b (dY bG)) bh fun a5 n5 c5 H5 aK ct=>?_
  refine⟨⟨by show (css.length+1)*112≤140737488355328;omega,by show css.length+1≤9223372036854775807;omega⟩,?_⟩
  have b8:RC (α:=Block) H5 (css++[Value.string (bs b.1.l) :: .slice a5 n5 c5::dg b.2.2]) (p.take (i+1)):=by
   rw[List.take_add_one,bG,Option.toList_some];exact (bf.up aK).snoc (dD ct rP B6)
  refine⟨⟨by dsimp only;omega,by dsimp only;omega⟩,(i+1,css++[Value.string (bs b.1.l) :: .slice a5 n5 c5::dg b.2.2]),[(0,0),(1,1),(2,5)],?_,⟨ak.trans aK,aj,b8⟩,by dsimp only;omega⟩
  (repeat' first|exact trivial|refine⟨?_,?_⟩|exact rfl|assumption)
 ·have aX:i=p.length:=by have:=df h;dsimp only at this;omega
  rw[aX,List.take_length]at bf;intro v H' hle hv;exact hK v css H1 H' ak bf hle hv
theorem Dw {p:Prog} (hp:p.length≤1000000) (hl:∀b∈p,b.2.1.length≤1000000) {a:Option Addr} {n c:Nat} {H:Hp} {K:SV→St→Hp→Prop} (ha:RL H a n c p)
  (hK:∀css H',Le H H'→RC (α:=Block) H' css p→K (.agg [.own 0]) ⟨[],[(0,.row 66 8 css)],1⟩ H'):aY prog 30 [.agg [.v (.slice a n c)]] [] 0 H K:=by
 refine fF (args:=[.agg #[.slice a n c]]) (fun _=>rfl) (oV hp hl ha (K:=fun v H'=>∃x css H3,v = .agg #[x]∧Le H H3∧RC (α:=Block) H3 css p∧qp 66 8 css H3 x H') (fun v css H3 H' h1 h2 h3 _=>⟨v,css,H3,rfl,h1,h2,h3⟩)) ?_;rintro v H2 hle ⟨x,css,H3,rfl,h1,h2,h3⟩;refine .inr ⟨66,8,css,x,.agg [.own 0],fun ρ hρ=>?_,rfl,(qp.base h1 h3).new,fun y hy=>?_,fun H' ah iF=>hK css H' ah (h2.up fun b o hb=>iF b o (h3.le b o hb) fun e=>?_)⟩
 ·show Value.agg #[ρ.val 0]=_;rw[hρ]
 ·obtain⟨i,hi⟩:=List.getElem?_of_mem hy;have aj:=(gh.1 hi).1;have fC:css.length=p.length:=h2.1;have:=h2.2 i y (p[i]'(by omega)) hi (aL _);exact⟨cq.len this,cq.one this⟩
 ·rcases h3.new with ⟨h4,_⟩ | ⟨g,cap,cc,h4,h5,_⟩
  ·rw[h4]at e;cases e
  ·rw[h4]at e;simp only[Value.ownBlock,Option.some.injEq]at e;rw[e,hb]at h5;cases h5
end Go.Proofs
end
section
namespace Go.Proofs
open Go.Sy
open Tryz
noncomputable def YW:Cx:={ P:=prog,tt:=tt,n:=0,wrap:=false,base:=0,gf:=30::cx.gf,eqs:=cx.eqs,xf:=[] }
theorem MC:eH YW:=⟨af.tt,af.eqs⟩
def mD (b:Block):Block:=(b.1,b.2.1,eJ b.2.2)
def aP (p:Prog):Prog:=p.map mD
def oj (p:Prog) (i:Nat):Prog:=(p.take i).map mD++p.drop i
theorem Qz:rV 1:=⟨by decide,by decide⟩
theorem RR:lW za:=⟨Nat.zero_le _,⟨by decide,by decide⟩,⟨by decide,by decide⟩⟩
theorem MD {t:Term} (h:gi t):gi (eJ t):=by
 have h1:gi (1,za,t.2.2.2,⟨[]⟩):=⟨Qz,RR,h.2.2.2,Nat.zero_le _⟩
 have h2:gi (1,za,t.2.2.1,⟨[]⟩):=⟨Qz,RR,h.2.2.1,Nat.zero_le _⟩
 rw[eJ];split
 ·split
  ·exact h1
  ·split
   ·exact h2
   ·exact h
 ·exact h
theorem qR {P:Prop} {H:Hp} {css:List (List Value)} {xs:Prog} (h:RC (α:=Block) H css xs) {i:Nat} {x:Block} (hi:xs[i]?=some x)
  (k:∀a1 n1 c1,css[i]?=some [.string (bs x.1.l),.slice a1 n1 c1,.int .i64 x.2.2.1,.string (bs x.2.2.2.1.1.l),.int .i64 x.2.2.2.1.2.1,.int .i64 x.2.2.2.1.2.2,.string (bs x.2.2.2.2.1.l),.string (bs x.2.2.2.2.2.l)]→RL H a1 n1 c1 x.2.1→sR x.1→gi x.2.2→P):P:=by
 have aj:=(gh.1 hi).1;have hl:css.length=xs.length:=h.1;have hg:css[i]?=some (css[i]'(by omega)):=aL _;obtain⟨a1,n1,c1,e,h4,h5,h6⟩:=cX (h.2 i _ x hg hi);exact k a1 n1 c1 (by rw[hg,e];rfl) h4 h5 h6
theorem ME {H:Hp} {css:List (List Value)} {xs:Prog} (h:RC (α:=Block) H css xs) {i:Nat} {cs:List Value} {x:Block} (hx:cq.R H cs x):RC (α:=Block) H (css.set i cs) (xs.set i x):=by
 refine⟨by rw[List.length_set,List.length_set];exact h.1,fun j To x' h1 h2=>?_⟩;rw[List.getElem?_set]at h1 h2;have hl:css.length=xs.length:=h.1;split at h1
 ·rename_i e;rw[if_pos e]at h2;split at h1
  ·rename_i aj;rw[if_pos (by omega)]at h2;simp only[Option.some.injEq]at h1 h2
   rw[←h1,←h2];exact hx
  ·cases h1
 ·rename_i e;rw[if_neg e]at h2;exact h.2 j To x' h1 h2
theorem JM {p:Prog} {i:Nat} {b:Block} (h:p[i]?=some b):(oj p i)[i]?=some b:=by
 have aj:=(gh.1 h).1;rw[oj,List.getElem?_append_right (by rw[List.length_map,List.length_take];omega),List.length_map,List.length_take,Nat.min_eq_left (by omega),Nat.sub_self,List.getElem?_drop,Nat.add_zero];exact h
theorem JN {p:Prog} {i:Nat} {b:Block} (h:p[i]?=some b):(oj p i).set i (mD b)=oj p (i+1):=by
 have aj:=(gh.1 h).1
 have hlen:((p.take i).map mD).length=i:=by rw[List.length_map,List.length_take];omega
 have hd:p.drop i=b::p.drop (i+1):=by
  rw[List.drop_eq_getElem_cons aj];rw[aL aj]at h;simp only[Option.some.injEq]at h;rw[h]
 rw[oj,oj,List.set_append_right _ _ (by omega),hlen,Nat.sub_self,hd,List.set_cons_zero,List.take_add_one,h];simp
theorem Ga {p:Prog} (hp:p.length≤1000000) (hl:∀b∈p,b.2.1.length≤1000000) (hc:aw p≤1000000) (hv:iE p<400000) {a:Option Addr} {n c:Nat} {H:Hp} {K:Value→Hp→Prop} (ha:RL H a n c p)
  (fK:al p≠0→∀H',Le H H'→K (.tuple #[.agg #[.slice none 0 0],.int .i64 (al p)]) H')
  (hK:al p=0→∀a1 n1 c1 H',Le H H'→RL H' a1 n1 c1 (aP p)→K (.tuple #[.agg #[.slice a1 n1 c1],.int .i64 0]) H'):aq prog 117 [.agg #[.slice a n c]] H K:=by
 refine ab MC aa rfl func117 call117 ntmps117 results117 rfl rfl ?_
 refine eL ha hc hv fun _ _=>?_
 refine⟨fun h=>?_,fun h=>?_⟩
 ·exact fK (nt h) H (Le.refl H)
 ·have he:al p=0:=nf h;refine⟨[],rfl,Dw hp hl ha fun css H1 ak bf=>?_⟩;have hK:=hK he;have fC:css.length=p.length:=bf.1
  refine⟨Nat×List (List Value),fun q=>⟨[(2,.ptr 0 0),(5,.ptr 1 0),(17,.own 2),(18,.v (.int .i64 (p.length:Nat))),(19,.v (.int .i64 q.1))],
    [(0,.cells 24 [.v (.slice none 0 0)]),(1,.cells 24 [.own 2]),(2,.row 66 8 q.2)],3⟩,
   fun q H'=>Le H1 H'∧q.1≤p.length∧RC (α:=Block) H' q.2 (oj p q.1),fun q=>p.length - q.1,⟨(0,css),[(0,1),(1,3),(2,2)],?_,Le.refl _,Nat.zero_le _,bf⟩,?_⟩
  ·have e0:SV.v (.int .i64 (css.length:Nat))=SV.v (.int .i64 (p.length:Nat)):=by rw[fC]
   (repeat' first|exact trivial|refine⟨?_,?_⟩|exact rfl|assumption)
  rintro⟨i,cs⟩ H2 ah ⟨_,hi,b8⟩;dsimp only at hi b8
  have xn:cs.length=p.length:=by
   have h1:cs.length=(oj p i).length:=b8.1
   rw[h1,oj,List.length_append,List.length_map,List.length_take,List.length_drop];omega
  refine⟨fun h=>?_,fun h=>?_⟩
  ·have aj:i<p.length:=by have:=dt h;dsimp only at this;omega
   refine aD p[i] fun b gV=>?_
   have bG:p[i]?=some b:=by rw[gV];exact aL aj
   refine qR b8 (JM bG) fun a1 n1 c1 hg bh rP B6=>?_
   have rB:cs[(i:Int).toNat]?=_:=hg;refine⟨⟨by dsimp only;omega,by dsimp only;omega⟩,?_⟩;refine⟨_,rB,?_⟩;refine⟨some ([1000000,2],[0,1,2,3,4,5,6,7,8]),by kernel_rfl,?_⟩;refine JK ?_;refine⟨⟨by dsimp only;omega,by dsimp only;omega⟩,?_⟩;refine⟨_,rB,?_⟩
   have nC:RC (α:=Block) H2 (cs.set i (.string (bs b.1.l) :: .slice a1 n1 c1::dg (eJ b.2.2))) (oj p (i+1)):=by
    rw[←JN bG];exact ME b8 (dD (b:=mD b) bh rP (MD B6))
   refine⟨⟨by dsimp only;omega,by dsimp only;omega⟩,(i+1,cs.set i (.string (bs b.1.l) :: .slice a1 n1 c1::dg (eJ b.2.2))),[(0,0),(1,1),(2,2)],?_,⟨ah,aj,nC⟩,by dsimp only;omega⟩
   (repeat' first|exact trivial|refine⟨?_,?_⟩|exact rfl|assumption)
  ·have aX:i=p.length:=by have:=df h;dsimp only at this;omega
   have e1:oj p p.length=aP p:=by rw[oj,List.take_length,List.drop_length,List.append_nil];rfl
   rw[aX,e1]at b8;intro v H3 az yl;obtain⟨a1,n1,c1,rfl,hr⟩:=RL.aC (α:=Block) yl (b8.up az.le);exact hK _ _ _ _ ((ak.trans ah).trans az.le) hr
end Go.Proofs
end
section
namespace Go.Proofs
open Go.Sy
open Tryz
theorem Gb {p:Prog} (hp:p.length≤1000000) {a:Option Addr} {n c:Nat} {H:Hp} {K:Value→Hp→Prop} (ha:RL H a n c p)
  (hK:∀a1 n1 c1 H',Le H H'→RL H' a1 n1 c1 (aP p)→K (.agg #[.slice a1 n1 c1]) H'):aq prog 78 [.agg #[.slice a n c]] H K:=by
 have hn:=ha.aB;have eI:=ha.le;refine ab af aa rfl func78 call78 ntmps78 results78 rfl rfl ?_
 refine⟨Nat×List (List Value),fun q=>⟨[(2,.ptr 0 0),(3,.ptr 1 0),(7,.v (.slice a n c)),(8,.v (.int .i64 n)),(9,.v (.int .i64 q.1))],
   [(0,.cells 24 [.v (.slice none 0 0)]),(1,.cells 24 [.own 2]),(2,.row 66 8 q.2)],3⟩,
  fun q H'=>H'=H∧q.1≤p.length∧RC (α:=Block) H q.2 (aP (p.take q.1)),fun q=>p.length - q.1,⟨(0,[]),[(0,1),(1,2)],?_,rfl,Nat.zero_le _,RC.nil⟩,?_⟩
 ·(repeat' first|exact trivial|refine⟨?_,?_⟩|exact rfl|assumption)
 rintro⟨i,css⟩ H1 _ ⟨rfl,hi,bf⟩;dsimp only at hi bf
 have fC:css.length=i:=by
  have h1:css.length=(aP (p.take i)).length:=bf.1
  rw[h1,aP,List.length_map,List.length_take];omega
 refine⟨fun h=>?_,fun h=>?_⟩
 ·have aj:i<p.length:=by have:=dt h;dsimp only at this;omega
  refine aD p[i] fun b gV=>?_
  have bG:p[i]?=some b:=by rw[gV];exact aL aj
  refine bF ha bG fun ad a1 n1 c1 q1 hh bh rP B6=>?_
  refine⟨ad,⟨by dsimp only;omega,by dsimp only;omega,q1⟩,?_⟩;refine⟨_,hh,?_⟩;refine⟨some ([1000000,1,2],[0,1,2,3,4,5,6,7,8,9,10,11,12,13]),by kernel_rfl,?_⟩;refine JL ?_;refine⟨⟨by show (css.length+1)*112≤140737488355328;omega,by show css.length+1≤9223372036854775807;omega⟩,?_⟩
  have b8:RC (α:=Block) H1 (css++[Value.string (bs b.1.l) :: .slice a1 n1 c1::dg (eJ b.2.2)]) (aP (p.take (i+1))):=by
   rw[List.take_add_one,bG,Option.toList_some,aP,List.map_append];exact bf.snoc (dD (b:=mD b) bh rP (MD B6))
  refine⟨⟨by dsimp only;omega,by dsimp only;omega⟩,(i+1,css++[Value.string (bs b.1.l) :: .slice a1 n1 c1::dg (eJ b.2.2)]),[(0,0),(1,1),(2,5)],?_,⟨rfl,aj,b8⟩,by dsimp only;omega⟩
  (repeat' first|exact trivial|refine⟨?_,?_⟩|exact rfl|assumption)
 ·have aX:i=p.length:=by have:=df h;dsimp only at this;omega
  rw[aX,List.take_length]at bf;intro v H3 az yl;obtain⟨a1,n1,c1,rfl,hr⟩:=RL.aC (α:=Block) yl (bf.up az.le);exact hK _ _ _ _ az.le hr
end Go.Proofs
end
section
namespace Go.Proofs
open Go.Sy
open Tryz
variable {H:Hp} {K:Value→Hp→Prop}
theorem xo {P:Prop} {H:Hp} {a:Option Addr} {n c:Nat} {xs:List Int} (h:RL H a n c xs) {i:Nat} {x:Int} (hi:xs[i]?=some x) (k:∀ad,a=some ad→jz H ad (i:Int) 1 [.int .i64 x]→P):P:=by
 obtain⟨ad,cs,h1,h2,rfl,_⟩:=h.elem hi;exact k ad h1 h2
theorem Dx {l:List Int} {t:Int} {a:Option Addr} {n c:Nat} (ha:RL H a n c l) (hK:K (.int .i64 (mC (fun x=>decide (x=t)) l 0)) H):aq prog 182 [.slice a n c,.int .i64 t] H K:=by
 have dd:=ha.aB;have eI:=ha.le;refine ab af aa rfl func182 call182 ntmps182 results182 rfl rfl ?_;refine⟨Nat,fun i=>⟨[(0,.v (.slice a n c)),(1,.v (.int .i64 t)),(7,.v (.int .i64 n)),(8,.v (.int .i64 i))],[],0⟩,fun i H'=>H'=H∧i≤l.length∧mC (fun x=>decide (x=t)) l 0=mC (fun x=>decide (x=t)) (l.drop i) i,fun i=>l.length - i,⟨0,[],?_,rfl,by omega,rfl⟩,?_⟩
 ·(repeat' first|exact trivial|refine⟨?_,?_⟩|exact rfl|assumption)
 rintro i H1 _ ⟨rfl,hi,hx⟩;refine⟨fun h=>?_,fun h=>?_⟩
 ·have aj:i<l.length:=by have:=dt h;omega
  rw[tA aj]at hx
  refine xo ha (aL aj) fun ad e1 hh=>?_
  refine⟨ad,⟨by omega,by omega,e1⟩,?_⟩;refine⟨_,hh,?_⟩;refine⟨fun h=>?_,fun h=>?_⟩
  ·have he:t=l[i]:=dt h;rw[if_pos (decide_eq_true he.symm)]at hx;rw[hx]at hK;exact hK
  ·have he:¬t=l[i]:=df h;rw[if_neg (by rw[decide_eq_true_eq];exact fun h=>he h.symm)]at hx;refine⟨⟨by omega,by omega⟩,i+1,[],?_,⟨rfl,by omega,hx⟩,by dsimp only;omega⟩
   (repeat' first|exact trivial|refine⟨?_,?_⟩|exact rfl|assumption)
 ·have aX:i=l.length:=by have:=df h;omega
  rw[aX,List.drop_length,mC]at hx;rw[hx]at hK;exact hK
theorem kO {l:List Int} {t:Int} {a:Option Addr} {n c:Nat} (ha:RL H a n c l) (hK:K (.bool (decide (t∈l))) H):aq prog 119 [.slice a n c,.int .i64 t] H K:=by
 refine ab af aa rfl func119 call119 ntmps119 results119 rfl rfl ?_;refine Dx ha ?_;refine aA hK ?_;rw[sf l 0 (Int.le_refl 0),Bool.eq_iff_iff];simp
end Go.Proofs
end
section
namespace Go.Proofs
open Go.Sy
open Tryz
variable {H:Hp} {K:Value→Hp→Prop}
theorem xp {p:Prog} {t:aQ} {a:Option Addr} {n c:Nat} (ha:RL H a n c p) (hc:iE p<400000)
  (hK:∀H',Le H H'→K (.tuple #[.int .i64 (max (bw t (varsOf p) 0) 0),.bool (decide (0≤bw t (varsOf p) 0))]) H'):aq prog 168 [.agg #[.slice a n c],.string (bs t)] H K:=by
 refine ab af aa rfl func168 call168 ntmps168 results168 rfl rfl ?_
 refine kM ha hc fun a1 n1 c1 H1 ak bh=>?_
 refine wY bh ?_;exact hK _ ak
theorem tB {p:Prog} {t:aQ} {a:Option Addr} {n c:Nat} (ha:RL H a n c p) (hc:iE p<400000)
  (hK:∀H',Le H H'→K (.int .i64 (bw t (varsOf p) 0)) H'):aq prog 134 [.agg #[.slice a n c],.string (bs t)] H K:=by
 refine ab af aa rfl func134 call134 ntmps134 results134 rfl rfl ?_
 refine eh ha hc fun a1 n1 c1 H1 ak bh=>?_
 obtain⟨l,hl⟩:∃l,l=varsOf p:=⟨_,rfl⟩
 rw[←hl]at bh hK;have dd:=bh.aB;rw[List.length_map]at dd;have eI:=bh.le;refine⟨Nat,fun i=>⟨[(1,.v (.string (bs t))),(8,.v (.slice a1 n1 c1)),(9,.v (.int .i64 n1)),(10,.v (.int .i64 i))],[],0⟩,fun i H'=>H'=H1∧i≤l.length∧bw t l 0=bw t (l.drop i) i,fun i=>l.length - i,⟨0,[],?_,rfl,by omega,rfl⟩,?_⟩
 ·exact⟨⟨rfl,rfl,rfl,rfl,trivial⟩,trivial⟩
 rintro i H2 _ ⟨rfl,hi,hx⟩;have hK:=hK _ ak;refine⟨fun h=>?_,fun h=>?_⟩
 ·have aj:i<l.length:=by have:=dt h;omega
  obtain⟨ad,cs,e1,hh,rfl,vi⟩:=bh.elem (A1 aj);rw[tu aj]at hx;refine⟨ad,⟨by omega,by omega,e1⟩,?_⟩;refine⟨_,hh,?_⟩;refine⟨fun h=>?_,fun h=>?_⟩
  ·have he:l[i]=t:=dt h;rw[if_pos he]at hx;rw[hx]at hK;exact hK
  ·have he:¬l[i]=t:=df h;rw[if_neg he]at hx;refine⟨⟨by omega,by omega⟩,i+1,[],?_,⟨rfl,by omega,hx⟩,by dsimp only;omega⟩;exact⟨⟨rfl,rfl,rfl,rfl,trivial⟩,trivial⟩
 ·have aX:i=l.length:=by have:=df h;omega
  rw[aX,List.drop_length,bw]at hx;rw[hx]at hK;exact hK
end Go.Proofs
end
section
namespace Go.Proofs
open Go.Sy
open Tryz
variable {H:Hp} {K:Value→Hp→Prop}
theorem Il {w:Nat} (k:Nat) (hk:k≤64) (hw:w<18446744073709551616):IntKind.u64.wrap ((BitVec.ofInt IntKind.u64.bits (w:Int) &&& BitVec.ofInt IntKind.u64.bits ((2 ^ k - 1:Nat):Int)).toNat:Int)=((w % 2 ^ k:Nat):Int):=by
 show IntKind.u64.wrap ((BitVec.ofInt 64 (w:Int) &&& BitVec.ofInt 64 ((2 ^ k - 1:Nat):Int)).toNat:Int)=_;rw[BitVec.toNat_and,BitVec.ofInt_natCast,BitVec.ofInt_natCast,BitVec.toNat_ofNat,BitVec.toNat_ofNat,Nat.mod_eq_of_lt (by simpa using hw)]
 rw[Nat.mod_eq_of_lt (by
  have:=Nat.pow_le_pow_right (show 0<2 by omega) hk;have:=Nat.two_pow_pos k
  omega),Nat.and_two_pow_sub_one_eq_mod]
 have aj:w % 2 ^ k≤w:=Nat.mod_le _ _;rw[IntKind.wrap_u64];omega
theorem Gc {w:Nat} (k:Nat) (hk:k≤64):((w:Int)).fdiv (2 ^ min (Int.toNat (k:Int)) IntKind.u64.bits)=((w / 2 ^ k:Nat):Int):=by
 show ((w:Int)).fdiv (2 ^ min (Int.toNat (k:Int)) 64)=_;rw[Int.toNat_natCast,Nat.min_eq_left hk,Int.fdiv_eq_ediv_of_nonneg _ (Int.le_of_lt (Int.pow_pos (by decide)))]
 norm_cast
def kj (w:Nat):Option Nm:=if w % 4=2∧w / 4<4294967296 then some (fu ((w / 4 % 65536:Nat):Int),fu ((w / 4 / 65536:Nat):Int)) else none
abbrev O8 (o:Option Nm):Value:=.tuple #[kK (o.getD (0,0)),.bool o.isSome]
theorem Dy {w:Nat} (hw:w<18446744073709551616) (hK:K (O8 (if w<4294967296 then some (fu ((w % 65536:Nat):Int),fu ((w / 65536:Nat):Int)) else none)) H):aq prog 232 [.int .u64 w] H K:=by
 refine ab af aa rfl func232 call232 ntmps232 results232 rfl rfl ?_;have XD:=Gc (w:=w) 32 (by omega);have YX:=Gc (w:=w) 16 (by omega);have hm:=Il (w:=w) 16 (by omega) hw;refine⟨by decide,?_⟩;refine⟨fun h=>?_,fun h=>?_⟩
 ·have h:¬((w:Int)).fdiv (2 ^ min (Int.toNat (32:Nat)) IntKind.u64.bits)=0:=nt h;rw[XD]at h;rw[if_neg (by omega)]at hK;exact hK
 ·have h:((w:Int)).fdiv (2 ^ min (Int.toNat (32:Nat)) IntKind.u64.bits)=0:=nf h;rw[XD]at h
  have aj:w<4294967296:=by omega
  rw[if_pos aj]at hK;have e1:IntKind.u64.wrap ((BitVec.ofInt IntKind.u64.bits (w:Int) &&& BitVec.ofInt IntKind.u64.bits 65535).toNat:Int)=((w % 65536:Nat):Int):=hm;have e2:((w:Int)).fdiv (2 ^ min (Int.toNat 16) IntKind.u64.bits)=((w / 65536:Nat):Int):=YX;refine⟨⟨by rw[e1];omega,by rw[e1];omega⟩,?_⟩;refine⟨by decide,?_⟩;refine⟨⟨by rw[e2];omega,by rw[e2];omega⟩,?_⟩;rw[←e1,←e2]at hK;refine mv ?_;exact hK
theorem Bf {x:Int} {w:Nat} (hx:x=w) (hw:w<18446744073709551616) (hK:K (O8 (if w<4294967296 then some (fu ((w % 65536:Nat):Int),fu ((w / 65536:Nat):Int)) else none)) H):aq prog 232 [.int .u64 x] H K:=by
 subst hx;exact Dy hw hK
theorem fZ {w:Nat} (hw:w<18446744073709551616) (hK:K (O8 (kj w)) H):aq prog 176 [.int .u64 w] H K:=by
 refine ab af aa rfl func176 call176 ntmps176 results176 rfl rfl ?_;have hm:IntKind.u64.wrap ((BitVec.ofInt IntKind.u64.bits (w:Int) &&& BitVec.ofInt IntKind.u64.bits 3).toNat:Int)=((w % 4:Nat):Int):=Il (w:=w) 2 (by omega) hw;have hs:((w:Int)).fdiv (2 ^ min (Int.toNat 2) IntKind.u64.bits)=((w / 4:Nat):Int):=Gc (w:=w) 2 (by omega);refine⟨fun h=>?_,fun h=>?_⟩
 ·have h:¬IntKind.u64.wrap ((BitVec.ofInt IntKind.u64.bits (w:Int) &&& BitVec.ofInt IntKind.u64.bits 3).toNat:Int)=2:=nt h;rw[hm]at h;rw[kj,if_neg (by omega)]at hK;exact hK
 ·have h:IntKind.u64.wrap ((BitVec.ofInt IntKind.u64.bits (w:Int) &&& BitVec.ofInt IntKind.u64.bits 3).toNat:Int)=2:=nf h;rw[hm]at h
  have h:w % 4=2:=by omega
  refine⟨by decide,?_⟩;refine Bf hs (by omega) ?_;unfold kj at hK;simp only[h,true_and]at hK;exact hK
theorem gb {w:Nat} (hw:w<18446744073709551616) (hK:K (O8 (kj w)) H):aq prog 135 [.int .u64 w] H K:=by
 refine ab af aa rfl func135 call135 ntmps135 results135 rfl rfl ?_
 have e4:((w:Int)).tmod 4=((w % 4:Nat):Int):=by rw[Int.tmod_eq_emod_of_nonneg (by omega)];rfl
 have e5:((w:Int)).tdiv 4=((w / 4:Nat):Int):=by rw[Int.tdiv_eq_ediv_of_nonneg (by omega)];rfl
 refine⟨by decide,?_⟩;refine⟨fun h=>?_,fun h=>?_⟩
 ·have h:((w:Int)).tmod 4=2:=nf h;rw[e4]at h
  have h:w % 4=2:=by omega
  refine⟨by decide,⟨by rw[e5];omega,by rw[e5];omega⟩,?_⟩;refine⟨fun h2=>?_,fun h2=>?_⟩
  ·have h2:=dt h2;rw[e5]at h2;rw[kj,if_neg (by omega)]at hK;exact hK
  ·have h2:=df h2;rw[e5]at h2
   have aj:w / 4<4294967296:=by omega
   rw[kj,if_pos ⟨h,aj⟩]at hK
   have e6:(((w / 4:Nat):Int)).tmod 65536=((w / 4 % 65536:Nat):Int):=by rw[Int.tmod_eq_emod_of_nonneg (by omega)];rfl
   have e7:(((w / 4:Nat):Int)).tdiv 65536=((w / 4 / 65536:Nat):Int):=by rw[Int.tdiv_eq_ediv_of_nonneg (by omega)];rfl
   refine⟨by decide,⟨by rw[e5];omega,by rw[e5];omega⟩,⟨by rw[e5];omega,by rw[e5];omega⟩,by decide,by decide,⟨by rw[e5,e7];omega,by rw[e5,e7];omega⟩,?_⟩;rw[←e6,←e7,←e5]at hK;refine gJ ?_;exact hK
 ·have h:¬((w:Int)).tmod 4=2:=nt (by cases hh:(!decide (((w:Int)).tmod 4=2))<;>simp_all)
  rw[e4]at h;rw[kj,if_neg (by omega)]at hK;exact hK
end Go.Proofs
end
section
namespace Go.Proofs
open Go.Sy
instance decStmt:DecidableEq Stmt:=@instDecidableEqProd Int (iz×Expr) inferInstance (@instDecidableEqProd iz Expr inferInstance inferInstance)
instance decBlock:DecidableEq Block:=@instDecidableEqProd iz (List Stmt×Term) inferInstance (@instDecidableEqProd (List Stmt) Term inferInstance inferInstance)
instance decProg:DecidableEq Prog:=inferInstanceAs (DecidableEq (List Block))
end Go.Proofs
end
