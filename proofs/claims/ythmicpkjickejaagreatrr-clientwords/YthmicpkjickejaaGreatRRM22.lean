/- Part 'M22' of the proof (V0, V1, V2, V3, V4, Cw0, Cw1, Ck0, Ck1, Ck2, Ck3, Ck4, Ck5, Ck6, Ck7, Ck8, Ck9, Ck10, Pr1, Pr2, Pr3, Pr4, Pr5): lemmas, each with its own conditions in its own statement. -/
import Derived.Sort.Walk0
import Derived.Test.YthmicpkjickejaaGreatRRM12
import Derived.Test.YthmicpkjickejaaGreatRRM17
import Derived.Test.YthmicpkjickejaaGreatRRM19
section
namespace Go.Proofs
open Go.Sy
def putStep (s:Bs8) (q:List Bs8×Bool) (x:Bs8):List Bs8×Bool :=
 if q.2=false∧(s<x∨s=x) then (if s<x then q.1++[s]++[x] else q.1++[x],true) else (q.1++[x],q.2)
def putF (s:Bs8) (l:List Bs8):List Bs8×Bool:=l.foldl (putStep s) ([],decide (s=[]))
def putS (s:Bs8) (l:List Bs8):List Bs8:=if (putF s l).2 then (putF s l).1 else (putF s l).1++[s]
abbrev SortedS (l:List Bs8):Prop:=l.Pairwise (·<·)
theorem slt_irrefl (a:Bs8):¬a<a:=List.lt_irrefl a
theorem slt_trans {a b c:Bs8} (h:a<b) (h':b<c):a<c:=List.lt_trans h h'
theorem slt_asymm {a b:Bs8} (h:a<b):¬b<a:=fun h'=>slt_irrefl a (slt_trans h h')
theorem slt_tri (a b:Bs8):a<b∨a=b∨b<a:=by
 by_cases h1:a<b
 ·exact .inl h1
 ·by_cases h2:b<a
  ·exact .inr (.inr h2)
  ·exact .inr (.inl (List.le_antisymm (List.not_lt.1 h2) (List.not_lt.1 h1)))
theorem fold_before {s:Bs8}:∀(l o:List Bs8),(∀x∈l,x<s)→l.foldl (putStep s) (o,false)=(o++l,false)
 | [],o,_=>by simp
 | x::r,o,h=>by
  have hx:=h x List.mem_cons_self
  have hn:¬(s<x∨s=x):=by
   rintro (h1 | h1)
   ·exact slt_asymm hx h1
   ·subst h1;exact slt_irrefl _ hx
  rw[List.foldl_cons,putStep,if_neg (fun h=>hn h.2),fold_before r _ fun y hy=>h y (List.mem_cons_of_mem _ hy),List.append_assoc]
  rfl
theorem fold_done {s:Bs8}:∀(l o:List Bs8),l.foldl (putStep s) (o,true)=(o++l,true)
 | [],o=>by simp
 | x::r,o=>by
  rw[List.foldl_cons,putStep,if_neg (fun h=>by cases h.1),fold_done r,List.append_assoc]
  rfl
theorem putF_nil (l:List Bs8):putF [] l=(l,true):=by
 rw[putF,decide_eq_true rfl,fold_done];rfl
theorem putS_nil (l:List Bs8):putS [] l=l:=by rw[putS,putF_nil];rfl
theorem putS_at {s:Bs8} {l:List Bs8} {i:Nat} (hs:s≠[]) (hi:i≤l.length) (h1:∀x∈l.take i,x<s) (h2:∀x,l[i]?=some x→¬x<s):
  putS s l=if l[i]?=some s then l else insAt i s l:=by
 have e0:putF s l=(l.drop i).foldl (putStep s) (l.take i,false):=by
  have e:l=l.take i++l.drop i:=(List.take_append_drop i l).symm;rw[putF,decide_eq_false hs]
  conv=>lhs;rw[e,List.foldl_append,fold_before _ _ h1]
  rfl
 by_cases hlt:i<l.length
 ·have hg:=List.getElem?_eq_getElem hlt;have hd:=List.drop_eq_getElem_cons hlt;have hn:=h2 _ hg;rw[hd,List.foldl_cons]at e0;rw[hg,insAt,hd]
  rcases slt_tri s l[i] with h | h | h
  ·rw[putStep,if_pos ⟨rfl,.inl h⟩,if_pos h,fold_done]at e0
   have hne:¬some l[i]=some s:=by
    intro he;simp only[Option.some.injEq]at he;rw[he]at h;exact slt_irrefl _ h
   rw[putS,e0,if_neg hne];simp
  ·rw[putStep,if_pos ⟨rfl,.inr h⟩,if_neg (by rw[←h];exact slt_irrefl _),fold_done]at e0;rw[putS,e0,h,if_pos rfl,if_pos rfl];simp only[List.append_assoc,List.singleton_append];rw[←hd,List.take_append_drop]
  ·exact absurd h hn
 ·have hil:i=l.length:=by omega
  subst hil;rw[List.drop_length,List.foldl_nil]at e0;rw[putS,e0,List.getElem?_eq_none (Nat.le_refl _),insAt,List.drop_length,if_neg (by simp),if_neg (by simp)]
theorem insAt_sorted {s:Bs8} {l:List Bs8} {i:Nat} (hl:SortedS l) (h1:∀x∈l.take i,x<s) (h2:∀x∈l.drop i,s<x):SortedS (insAt i s l):=by
 have e:l=l.take i++l.drop i:=(List.take_append_drop i l).symm;unfold SortedS at *;rw[e,List.pairwise_append]at hl;rw[insAt,List.pairwise_append,List.pairwise_cons];refine⟨hl.1,⟨h2,hl.2.1⟩,fun a ha b hb=>?_⟩
 rcases List.mem_cons.1 hb with rfl | hb
 ·exact h1 a ha
 ·exact hl.2.2 a ha b hb
theorem lower {l:List Bs8} (hl:SortedS l) (s:Bs8):∃i,i≤l.length∧(∀x∈l.take i,x<s)∧∀x∈l.drop i,¬x<s:=by
 induction l with
 | nil=>exact⟨0,Nat.le_refl _,by simp,by simp⟩
 | cons y r ih =>
  have hp:=List.pairwise_cons.1 hl
  by_cases h:y<s
  ·obtain⟨i,h1,h2,h3⟩:=ih hp.2;refine⟨i+1,by simpa using h1,fun x hx=>?_,by simpa using h3⟩;rw[List.take_succ_cons,List.mem_cons]at hx
   rcases hx with rfl | hx
   ·exact h
   ·exact h2 x hx
  ·refine⟨0,Nat.zero_le _,by simp,fun x hx=>?_⟩;rw[List.drop_zero,List.mem_cons]at hx
   rcases hx with rfl | hx
   ·exact h
   ·exact fun hxs=>h (slt_trans (hp.1 x hx) hxs)
theorem drop_above {l:List Bs8} {i:Nat} {s:Bs8} (hl:SortedS l) (h2:∀x∈l.drop i,¬x<s) (hne:l[i]?≠some s):∀x∈l.drop i,s<x:=by
 intro x hx
 rcases slt_tri s x with h | h | h
 ·exact h
 ·subst h;exfalso;obtain⟨j,hj,e⟩:=List.mem_iff_getElem.1 hx;rw[List.getElem_drop]at e;rw[List.length_drop]at hj
  by_cases hj0:j=0
  ·subst hj0;apply hne;rw[List.getElem?_eq_getElem (by omega)];simp only[Nat.add_zero]at e;rw[e]
  ·have hlt:i<l.length:=by omega
   have:=List.pairwise_iff_getElem.1 hl i (i+j) hlt (by omega) (by omega);rw[e]at this;refine h2 l[i] ?_ this;rw[List.drop_eq_getElem_cons hlt];exact List.mem_cons_self
 ·exact absurd h (h2 x hx)
theorem putS_sorted {l:List Bs8} (hl:SortedS l) (s:Bs8):SortedS (putS s l):=by
 by_cases hs:s=[]
 ·subst hs;rw[putS_nil];exact hl
 ·obtain⟨i,h1,h2,h3⟩:=lower hl s
  have h4:∀x,l[i]?=some x→¬x<s:=fun x hx=>h3 x (by
   obtain⟨hlt,e⟩:=List.getElem?_eq_some_iff.1 hx;rw[List.drop_eq_getElem_cons hlt]
   exact e▸List.mem_cons_self)
  rw[putS_at hs h1 h2 h4];split
  ·exact hl
  ·rename_i h;exact insAt_sorted hl h2 (drop_above hl h3 h)
theorem putF_len (s:Bs8):∀(l:List Bs8) (q:List Bs8×Bool),(l.foldl (putStep s) q).1.length≤q.1.length+l.length+(if q.2 then 0 else 1)∧((l.foldl (putStep s) q).2=false→(l.foldl (putStep s) q).1.length≤q.1.length+l.length)
 | [],q=>by constructor<;>simp
 | x::r,q=>by
  obtain⟨o,d⟩:=q;rw[List.foldl_cons];cases d
  ·by_cases h:s<x∨s=x
   ·have e1:putStep s (o,false) x=(if s<x then o++[s]++[x] else o++[x],true):=by rw[putStep,if_pos ⟨rfl,h⟩]
    rw[e1,fold_done];refine⟨?_,fun h=>by cases h⟩;simp only[Bool.false_eq_true,if_false,List.length_append,List.length_cons]
    split<;>simp only[List.length_append,List.length_singleton]<;>omega
   ·have e1:putStep s (o,false) x=(o++[x],false):=by rw[putStep,if_neg (fun hh=>h hh.2)]
    have ih:=putF_len s r (o++[x],false);rw[e1];simp only[Bool.false_eq_true,if_false,List.length_append,List.length_cons,List.length_nil]at ih ⊢;exact⟨by have:=ih.1;omega,fun hh=>by have:=ih.2 hh;omega⟩
  ·have e1:putStep s (o,true) x=(o++[x],true):=by rw[putStep,if_neg (fun hh=>by cases hh.1)]
   rw[e1,fold_done];refine⟨?_,fun h=>by cases h⟩;simp only[if_true,List.length_append,List.length_cons,List.length_nil];omega
theorem putS_len (s:Bs8) (l:List Bs8):(putS s l).length≤l.length+1:=by
 have h:=putF_len s l ([],decide (s=[]));unfold putS putF;simp only[List.length_nil]at h;split
 ·have:=h.1;split at this<;>omega
 ·rename_i hf;have:=h.2 (by simpa using hf)
  rw[List.length_append,List.length_singleton];omega
theorem putF_mem (s:Bs8):∀(l:List Bs8) (q:List Bs8×Bool) {t:Bs8},t∈(l.foldl (putStep s) q).1→t∈q.1∨t∈l∨t=s
 | [],q,t,h=>.inl h
 | x::r,q,t,h=>by
  rw[List.foldl_cons]at h
  rcases putF_mem s r _ h with h | h | h
  ·have:t∈q.1∨t=s∨t=x:=by
    unfold putStep at h;split at h
    ·simp only at h;split at h
     ·simp only[List.mem_append,List.mem_singleton]at h
      rcases h with (h | h) | h
      ·exact .inl h
      ·exact .inr (.inl h)
      ·exact .inr (.inr h)
     ·simp only[List.mem_append,List.mem_singleton]at h
      rcases h with h | h
      ·exact .inl h
      ·exact .inr (.inr h)
    ·simp only[List.mem_append,List.mem_singleton]at h
     rcases h with h | h
     ·exact .inl h
     ·exact .inr (.inr h)
   rcases this with h | h | h
   ·exact .inl h
   ·exact .inr (.inr h)
   ·exact .inr (.inl (h▸List.mem_cons_self))
  ·exact .inr (.inl (List.mem_cons_of_mem _ h))
  ·exact .inr (.inr h)
theorem putS_mem {s:Bs8} {l:List Bs8} {t:Bs8} (h:t∈putS s l):t∈l∨t=s:=by
 unfold putS at h;split at h
 ·rcases putF_mem s l _ h with h | h
  ·cases h
  ·exact h
 ·rw[List.mem_append]at h
  rcases h with h | h
  ·rcases putF_mem s l _ h with h | h
   ·cases h
   ·exact h
  ·exact .inr (List.mem_singleton.1 h)
theorem take_lt {l:List Bs8} {t:Bs8} {k:Nat} (hl:SortedS l) (hk:k<l.length) (h:l[k]<t):∀x∈l.take (k+1),x<t:=by
 intro x hx;obtain⟨m,hm,rfl⟩:=List.mem_iff_getElem.1 hx;rw[List.length_take]at hm;rw[List.getElem_take]
 by_cases hmk:m=k
 ·subst hmk;exact h
 ·exact slt_trans (List.pairwise_iff_getElem.1 hl m k (by omega) hk (by omega)) h
theorem drop_ge {l:List Bs8} {t:Bs8} {k:Nat} (hl:SortedS l) (hk:k<l.length) (h:¬l[k]<t):∀x∈l.drop k,¬x<t:=by
 intro x hx hxt;obtain⟨m,hm,rfl⟩:=List.mem_iff_getElem.1 hx;rw[List.length_drop]at hm;rw[List.getElem_drop]at hxt
 by_cases hm0:m=0
 ·subst hm0;exact h hxt
 ·exact h (slt_trans (List.pairwise_iff_getElem.1 hl k (k+m) hk (by omega) (by omega)) hxt)
end Go.Proofs
end
section
namespace Go.Proofs
open Go.Sy
set_option maxRecDepth 20000
theorem nan_spec {s:List UInt8} {H:Hp} {K:Value→Hp→Prop} (hK:K (.bool false) H):Does Tryz.prog 160 [.string (bs s)] H K:=by
 refine spec_of cx_ok cx_mix rfl Tryz.func160 Tryz.call160 Tryz.ntmps160 Tryz.results160 rfl rfl ?_;exact kbool hK (by simp)
theorem nan2_spec {s:List UInt8} {H:Hp} {K:Value→Hp→Prop} (hK:K (.bool false) H):Does Tryz.prog 116 [.string (bs s)] H K:=by
 refine spec_of cx_ok cx_mix rfl Tryz.func116 Tryz.call116 Tryz.ntmps116 Tryz.results116 rfl rfl ?_;exact kbool hK (by simp)
theorem bless (a b:List UInt8):Op.bytesLess a b=decide (a<b):=bytesLess_eq a b
theorem blt_iff (a b:List UInt8):Op.bytesLess (sl (bs a)) (sl (bs b))=true↔a<b:=by rw[sl_bs,sl_bs,bless,decide_eq_true_iff]
theorem ble_iff (a b:List UInt8):(Op.bytesLess (sl (bs a)) (sl (bs b))||decide (sl (bs a)=sl (bs b)))=true↔a<b∨a=b:=by
 rw[Bool.or_eq_true,blt_iff,decide_eq_true_iff,sl_bs,sl_bs]
theorem less_spec {a b:List UInt8} {H:Hp} {K:Value→Hp→Prop} (hK:K (.bool (decide (a<b))) H):Does Tryz.prog 115 [.string (bs a),.string (bs b)] H K:=by
 refine spec_of cx_ok cx_mix rfl Tryz.func115 Tryz.call115 Tryz.ntmps115 Tryz.results115 rfl rfl ?_;refine nan_spec ?_;refine⟨(fun h=>by cases h),fun _=>?_⟩;exact kbool hK (bless a b).symm
abbrev putI (s:Bs8) (l:List Str) (i:Nat):List Bs8×Bool:=(uns (l.take i)).foldl (putStep s) ([],decide (s=[]))
theorem putI_step {s:Bs8} {l:List Str} {i:Nat} {x:Str} (h:l[i]?=some x):putI s l (i+1)=putStep s (putI s l i) x.l:=by
 unfold putI uns;rw[List.map_take,List.map_take,take_step _ _ (by rw[List.getElem?_map,h];rfl)]
theorem putI_len {s:Bs8} {l:List Str} {i:Nat} (hi:i≤l.length):(putI s l i).1.length≤i+1:=by
 have h:=(putF_len s (uns (l.take i)) ([],decide (s=[]))).1;simp only[List.length_nil,List.length_map,List.length_take]at h;unfold putI
 split at h<;>omega
theorem sRows_snoc (l:List Bs8) (s:Bs8):sRows l++[[.string (bs s)]]=sRows (l++[s]):=by simp
theorem put_spec {l:List Str} {a:Option Addr} {n c:Nat} {s:Bs8} {H:Hp} {K:Value→Hp→Prop} (ha:RL H a n c l) (hs:s.length≤9223372036854775807) (hn:l.length<1000000)
  (hK:∀a' n' c' H',Le H H'→RL H' a' n' c' (ens (putS s (uns l)))→K (.slice a' n' c') H'):Does Tryz.prog 73 [.slice a n c,.string (bs s)] H K:=by
 have hn1:=ha.n_eq;refine spec_of cx_ok cx_mix rfl Tryz.func73 Tryz.call73 Tryz.ntmps73 Tryz.results73 rfl rfl ?_
 refine⟨Nat,fun i=>⟨[(1,.v (.string (bs s))),(5,.own 0),(6,.v (.bool (putI s l i).2)),(11,.v (.slice a n c)),(12,.v (.int .i64 n)),(13,.v (.int .i64 i))],[(0,.row 9 1 (sRows (putI s l i).1))],1⟩,
  fun i H'=>H'=H∧i≤l.length,fun i=>l.length - i,⟨0,[],?_,rfl,by omega⟩,?_⟩
 ·exact⟨⟨rfl,⟨rfl,rfl,rfl⟩,rfl,rfl,rfl,rfl,trivial⟩,⟨rfl,trivial⟩⟩
 rintro i H1 _ ⟨rfl,hi⟩;have hil:=putI_len (s:=s) hi;refine⟨fun h=>?_,fun h=>?_⟩
 ·have hlt:i<l.length:=by have:=dt h;omega
  have hx:=List.getElem?_eq_getElem hlt;obtain⟨ad,cs,e1,hh,rfl,hl⟩:=ha.elem hx;have hst:=putI_step (s:=s) hx;refine⟨ad,⟨by omega,by omega,e1⟩,?_⟩;refine⟨_,hh,?_⟩
  have app:∀ {o:List Bs8},o.length≤2000000→(((sRows o).length+1)*16≤140737488355328∧(sRows o).length+1≤9223372036854775807):=fun h=>by
   simp only[List.length_map];omega
  refine⟨fun h=>?_,fun h=>?_⟩
  ·have hd:(putI s l i).2=false:=by simpa using h
   refine⟨fun h=>?_,fun h=>?_⟩
   ·have hle:s<l[i].l∨s=l[i].l:=(ble_iff _ _).1 h;refine⟨fun h=>?_,fun h=>?_⟩
    ·have hlt2:s<l[i].l:=(blt_iff _ _).1 h
     have e:sRows (putI s l i).1++[[Value.string (bs s)]]++[[Value.string (bs l[i].l)]]=sRows (putI s l (i+1)).1:=by
      rw[hst,putStep,if_pos ⟨hd,hle⟩,if_pos hlt2,sRows_snoc,sRows_snoc]
     have e2:(putI s l (i+1)).2=true:=by rw[hst,putStep,if_pos ⟨hd,hle⟩]
     refine⟨app (by omega),?_⟩;refine⟨by show ((sRows (putI s l i).1++[[Value.string (bs s)]]).length+1)*16≤_∧(sRows (putI s l i).1++[[Value.string (bs s)]]).length+1≤_;rw[sRows_snoc];exact app (by rw[List.length_append,List.length_singleton];omega),?_⟩;refine⟨⟨by omega,by omega⟩,i+1,[(0,4)],?_,⟨rfl,by omega⟩,by dsimp only;omega⟩;exact⟨⟨rfl,rfl,congrArg Value.bool e2,rfl,rfl,rfl,trivial⟩,⟨e,trivial⟩⟩
    ·have hlt2:¬s<l[i].l:=fun hh=>by rw[(blt_iff _ _).2 hh]at h;cases h
     have e:sRows (putI s l i).1++[[Value.string (bs l[i].l)]]=sRows (putI s l (i+1)).1:=by
      rw[hst,putStep,if_pos ⟨hd,hle⟩,if_neg hlt2,sRows_snoc]
     have e2:(putI s l (i+1)).2=true:=by rw[hst,putStep,if_pos ⟨hd,hle⟩]
     refine⟨app (by omega),?_⟩;refine⟨⟨by omega,by omega⟩,i+1,[(0,2)],?_,⟨rfl,by omega⟩,by dsimp only;omega⟩;exact⟨⟨rfl,rfl,congrArg Value.bool e2,rfl,rfl,rfl,trivial⟩,⟨e,trivial⟩⟩
   ·have hle:¬(s<l[i].l∨s=l[i].l):=fun hh=>by rw[(ble_iff _ _).2 hh]at h;cases h
    have e:sRows (putI s l i).1++[[Value.string (bs l[i].l)]]=sRows (putI s l (i+1)).1:=by
     rw[hst,putStep,if_neg (fun hh=>hle hh.2),sRows_snoc]
    have e2:(putI s l (i+1)).2=(putI s l i).2:=by rw[hst,putStep,if_neg (fun hh=>hle hh.2)]
    refine⟨app (by omega),?_⟩;refine⟨⟨by omega,by omega⟩,i+1,[(0,2)],?_,⟨rfl,by omega⟩,by dsimp only;omega⟩;exact⟨⟨rfl,rfl,congrArg (fun b=>SV.v (.bool b)) e2.symm,rfl,rfl,rfl,trivial⟩,⟨e,trivial⟩⟩
  ·have hd:(putI s l i).2=true:=by simpa using h
   have hnn:¬((putI s l i).2=false∧(s<l[i].l∨s=l[i].l)):=fun hh=>by rw[hd]at hh;cases hh.1
   have e:sRows (putI s l i).1++[[Value.string (bs l[i].l)]]=sRows (putI s l (i+1)).1:=by
    rw[hst,putStep,if_neg hnn,sRows_snoc]
   have e2:(putI s l (i+1)).2=(putI s l i).2:=by rw[hst,putStep,if_neg hnn]
   refine⟨app (by omega),?_⟩;refine⟨⟨by omega,by omega⟩,i+1,[(0,2)],?_,⟨rfl,by omega⟩,by dsimp only;omega⟩;exact⟨⟨rfl,rfl,congrArg (fun b=>SV.v (.bool b)) e2.symm,rfl,rfl,rfl,trivial⟩,⟨e,trivial⟩⟩
 ·have hil:i=l.length:=by have:=df h;omega
  have hall:∀t∈putS s (uns l),t.length≤9223372036854775807:=fun t ht=>by
   rcases putS_mem ht with h | rfl
   ·obtain⟨x,hx,rfl⟩:=List.mem_map.1 h;obtain⟨j,hj⟩:=List.getElem?_of_mem hx;obtain⟨_,_,_,_,_,hl⟩:=ha.elem hj;exact hl
   ·exact hs
  have e0:putI s l i=putF s (uns l):=by rw[hil,putI,List.take_length];rfl
  refine⟨fun h=>?_,fun h=>?_⟩
  ·have hd:(putI s l i).2=false:=by simpa using h
   refine⟨by show ((sRows _).length+1)*16≤_∧(sRows _).length+1≤_;simp only[List.length_map];omega,?_⟩;intro x H2 hle2 hx
   have e:sRows (putI s l i).1++[[Value.string (bs s)]]=sRows (putS s (uns l)):=by
    rw[sRows_snoc,putS,←e0,if_neg (by rw[hd];decide)]
   have hx:RowAt H2 x 1 (sRows (putI s l i).1++[[Value.string (bs s)]]):=hx;rw[e]at hx;obtain⟨a',n',c',rfl,hr⟩:=RL.of_row (α:=Str) hx (rc_sRows hall);exact hK _ _ _ _ hle2 hr
  ·have hd:(putI s l i).2=true:=by simpa using h
   intro x H2 hle2 hx
   have e:sRows (putI s l i).1=sRows (putS s (uns l)):=by
    rw[putS,←e0,if_pos hd]
   rw[e]at hx;obtain⟨a',n',c',rfl,hr⟩:=RL.of_row (α:=Str) hx (rc_sRows hall);exact hK _ _ _ _ hle2 hr
theorem search_spec {l:List Bs8} {t:Bs8} (hl:SortedS l) (hn:l.length<1000000) {H:Hp} {K:SV→St→Hp→Prop}
  (hK:∀i:Nat,i≤l.length→(∀x∈l.take i,x<t)→(∀x∈l.drop i,¬x<t)→(l[i]?=some t→K (.tup [.v (.int .i64 i),.kb true]) ⟨[],[(0,.row 9 1 (sRows l))],1⟩ H) ∧
   (l[i]?≠some t→K (.tup [.v (.int .i64 i),.kb false]) ⟨[],[(0,.row 9 1 (sRows l))],1⟩ H)):
  DoesG Tryz.prog 62 [.own 0,.v (.string (bs t))] [(0,.row 9 1 (sRows l))] 1 H K:=by
 refine spec_ofG cx_ok cx_mix Tryz.func62 Tryz.call62 Tryz.ntmps62 Tryz.results62 rfl rfl ?_
 refine⟨Nat×Nat,fun p=>⟨[(0,.own 0),(1,.v (.string (bs t))),(6,.v (.int .i64 (sRows l).length)),(7,.v (.int .i64 p.1)),(8,.v (.int .i64 p.2))],[(0,.row 9 1 (sRows l))],1⟩,
  fun p H'=>H'=H∧p.1≤p.2∧p.2≤l.length∧(∀x∈l.take p.1,x<t)∧(∀x∈l.drop p.2,¬x<t),fun p=>p.2 - p.1,⟨(0,(sRows l).length),[(0,0)],?_,rfl,by simp,by simp,by simp,by simp⟩,?_⟩
 ·exact⟨⟨rfl,rfl,rfl,rfl,rfl,trivial⟩,⟨rfl,trivial⟩⟩
 rintro⟨i,j⟩ H1 _ ⟨rfl,h1,h2,h3,h4⟩;simp only at h1 h2 h3 h4;refine⟨fun h=>?_,fun h=>?_⟩
 ·have hij:i<j:=by have:=dt h;simp only at this;omega
  have hlt:(i+j) / 2<l.length:=by omega
  refine⟨⟨by simp only;omega,by simp only;omega⟩,⟨by simp only;omega,by simp only;omega⟩,by decide,?_⟩
  have he:(((i,j).fst:Int)+((i,j).snd:Int)).fdiv (2 ^ min (Int.toNat 1) IntKind.u64.bits)=(((i+j) / 2:Nat):Int):=by
   rw[Int.fdiv_eq_ediv_of_nonneg _ (by decide)];show ((i:Int)+(j:Int)) / 2=_;omega
  obtain⟨k,hk⟩:∃k,k=(i+j) / 2:=⟨_,rfl⟩
  rw[←hk]at he hlt
  have hg:(sRows l)[((((i,j).fst:Int)+((i,j).snd:Int)).fdiv (2 ^ min (Int.toNat 1) IntKind.u64.bits)).toNat]?=some [.string (bs l[k])]:=by
   rw[he,Int.toNat_natCast,List.getElem?_map,List.getElem?_eq_getElem hlt];rfl
  refine⟨⟨by rw[he];omega,by rw[he];omega⟩,?_⟩;refine⟨⟨by rw[he];omega,by rw[he,List.length_map];omega⟩,?_⟩;refine⟨_,hg,?_⟩;refine less_spec ?_;refine⟨fun h=>?_,fun h=>?_⟩
  ·refine⟨⟨by rw[he];omega,by rw[he];omega⟩,(k+1,j),[(0,0)],?_,⟨rfl,by dsimp only;omega,h2,take_lt hl hlt (dt h),h4⟩,by dsimp only;omega⟩;exact⟨⟨rfl,rfl,rfl,congrArg (fun n=>SV.v (.int .i64 n)) (by rw[he];rfl),rfl,trivial⟩,⟨rfl,trivial⟩⟩
  ·refine⟨(i,k),[(0,0)],?_,⟨rfl,by dsimp only;omega,by dsimp only;omega,h3,drop_ge hl hlt (df h)⟩,by dsimp only;omega⟩;exact⟨⟨rfl,rfl,rfl,rfl,congrArg (fun n=>SV.v (.int .i64 n)) he,trivial⟩,⟨rfl,trivial⟩⟩
 ·have hij:i=j:=by have:=df h;simp only at this;omega
  subst hij;have h9:=hK i h2 h3 h4;refine⟨fun h=>?_,fun h=>?_⟩
  ·have hlt:i<l.length:=by have:=dt h;rw[List.length_map]at this;simp only at this;omega
   rw[List.getElem?_eq_getElem hlt]at h9;refine⟨⟨by simp only;omega,by rw[List.length_map];simp only;omega⟩,?_⟩;refine⟨[.string (bs l[i])],by show (sRows l)[((i:Nat):Int).toNat]?=_;rw[Int.toNat_natCast,List.getElem?_map,List.getElem?_eq_getElem hlt];rfl,?_⟩
   have hg:(sRows l)[(((i,i).fst:Int)).toNat]?=some [.string (bs l[i])]:=by
    show (sRows l)[((i:Nat):Int).toNat]?=_
    rw[Int.toNat_natCast,List.getElem?_map,List.getElem?_eq_getElem hlt];rfl
   refine⟨fun h=>?_,fun h=>?_⟩
   ·refine⟨⟨by simp only;omega,by rw[List.length_map];simp only;omega⟩,?_⟩;refine⟨_,hg,?_⟩;refine nan2_spec ?_;refine⟨(fun h=>by cases h),fun _=>?_⟩;have hne:l[i]≠t:=df h;exact⟨.tup [.v (.int .i64 i),.kb false],[(0,.row 9 1 (sRows l))],1,[(0,0)],⟨⟨⟨rfl,rfl⟩,trivial⟩,⟨rfl,trivial⟩⟩,h9.2 (by simpa using hne)⟩
   ·have he:l[i]=t:=by
     have h:decide (sl (bs l[i])=sl (bs t))=true:=by cases hh:decide (sl (bs l[i])=sl (bs t))<;>simp_all
     exact dt h
    exact⟨.tup [.v (.int .i64 i),.kb true],[(0,.row 9 1 (sRows l))],1,[(0,0)],⟨⟨⟨rfl,rfl⟩,trivial⟩,⟨rfl,trivial⟩⟩,h9.1 (by rw[he])⟩
  ·have hil:i=l.length:=by have:=df h;rw[List.length_map]at this;simp only at this;omega
   rw[List.getElem?_eq_none (by omega)]at h9;exact⟨.tup [.v (.int .i64 i),.kb false],[(0,.row 9 1 (sRows l))],1,[(0,0)],⟨⟨⟨rfl,rfl⟩,trivial⟩,⟨rfl,trivial⟩⟩,h9.2 (by simp)⟩
abbrev cellOf (l:List Bs8):List (Nat×Bx):=[(0,.cells 36 [.own 1]),(1,.row 9 1 (sRows l))]
abbrev putAll (vs out:List Bs8):List Bs8:=vs.foldl (fun o v=>putS v o) out
theorem putAll_sorted:∀(vs:List Bs8) {l:List Bs8},SortedS l→SortedS (putAll vs l)
 | [],_,h=>h
 | v::r,_,h=>putAll_sorted r (putS_sorted h v)
theorem putAll_len:∀(vs l:List Bs8),(putAll vs l).length≤l.length+vs.length
 | [],l=>by simp [putAll]
 | v::r,l=>by
  have h1:=putAll_len r (putS v l);have h2:=putS_len v l;simp only[putAll,List.foldl_cons,List.length_cons]at h1 ⊢;omega
theorem putc_spec {vs:List Str} {a:Option Addr} {n c:Nat} {l:List Bs8} {H:Hp} {K:SV→St→Hp→Prop} (ha:RL H a n c vs) (hl:SortedS l) (hn:l.length+vs.length<1000000)
  (hK:K (.tup []) ⟨[],[(0,.cells 36 [.own 2]),(1,.dead),(2,.row 9 1 (sRows (putAll (uns vs) l)))],3⟩ H):
  DoesG Tryz.prog 61 [.v (.slice a n c),.ptr 0 0] (cellOf l) 2 H K:=by
 have hn1:=ha.n_eq;refine spec_ofG cx_ok cx_mix Tryz.func61 Tryz.call61 Tryz.ntmps61 Tryz.results61 rfl rfl ?_
 refine⟨Nat,fun i=>⟨[(1,.ptr 0 0),(7,.v (.slice a n c)),(8,.v (.int .i64 n)),(9,.v (.int .i64 i))],[(0,.cells 36 [.own 2]),(1,.dead),(2,.row 9 1 (sRows (putAll (uns (vs.take i)) l)))],3⟩,
  fun i H'=>H'=H∧i≤vs.length,fun i=>vs.length - i,⟨0,[(0,0),(2,1)],?_,rfl,by omega⟩,?_⟩
 ·exact⟨⟨⟨rfl,rfl⟩,rfl,rfl,rfl,trivial⟩,⟨⟨rfl,trivial⟩,trivial,rfl,trivial⟩⟩
 rintro i H1 _ ⟨rfl,hi⟩;refine⟨fun h=>?_,fun h=>?_⟩
 ·have hlt:i<vs.length:=by have:=dt h;omega
  have hx:=List.getElem?_eq_getElem hlt;obtain⟨ad,cs,e1,hh,rfl,hl2⟩:=ha.elem hx;refine⟨ad,⟨by omega,by omega,e1⟩,?_⟩;refine⟨_,hh,?_⟩;refine⟨[2],rfl,?_⟩
  refine search_spec (putAll_sorted _ hl) (by have:=putAll_len (uns (vs.take i)) l;simp only[List.length_map,List.length_take]at this;omega) fun k h1 h2 h3=>?_
  obtain⟨o,ho⟩:∃o,o=putAll (uns (vs.take i)) l:=⟨_,rfl⟩
  rw[←ho]at h1 h2 h3
  have hol:o.length≤l.length+i:=by
   have:=putAll_len (uns (vs.take i)) l;rw[←ho,List.length_map,List.length_take]at this;omega
  have hnext:putAll (uns (vs.take (i+1))) l=putS vs[i].l o:=by
   rw[ho];unfold putAll uns;rw[List.map_take,List.map_take,take_step _ _ (by rw[List.getElem?_map,hx];rfl)]
  have h4:∀x,o[k]?=some x→¬x<vs[i].l:=fun x hx=>h3 x (by
   obtain⟨hlt,e⟩:=List.getElem?_eq_some_iff.1 hx;rw[List.drop_eq_getElem_cons hlt]
   exact e▸List.mem_cons_self)
  refine⟨fun hf=>?_,fun hf=>?_⟩
  ·rw[←ho]at hf
   have e:putS vs[i].l o=o:=by
    by_cases hv:vs[i].l=[]
    ·rw[hv,putS_nil]
    ·rw[putS_at hv h1 h2 h4,if_pos hf]
   have e5:sRows (putAll (uns (vs.take i)) l)=sRows (putAll (uns (vs.take (i+1))) l):=by rw[hnext,e,ho]
   refine⟨⟨by omega,by omega⟩,i+1,[(0,0),(2,2)],?_,⟨rfl,by omega⟩,by dsimp only;omega⟩;exact⟨⟨⟨rfl,rfl⟩,rfl,rfl,rfl,trivial⟩,⟨⟨rfl,trivial⟩,trivial,e5,trivial⟩⟩
  ·rw[←ho]at hf;refine⟨fun h=>?_,fun h=>?_⟩
   ·have hv:vs[i].l≠[]:=nt h;refine⟨[2,3],rfl,?_⟩;rw[←ho];refine insert_spec h1 (by omega) ?_
    have e5:sRows (insAt k vs[i].l o)=sRows (putAll (uns (vs.take (i+1))) l):=by rw[hnext,putS_at hv h1 h2 h4,if_neg hf]
    refine⟨⟨by omega,by omega⟩,i+1,[(0,0),(2,4)],?_,⟨rfl,by omega⟩,by dsimp only;omega⟩;exact⟨⟨⟨rfl,rfl⟩,rfl,rfl,rfl,trivial⟩,⟨⟨rfl,trivial⟩,trivial,e5,trivial⟩⟩
   ·have hv:vs[i].l=[]:=nf h
    have e5:sRows (putAll (uns (vs.take i)) l)=sRows (putAll (uns (vs.take (i+1))) l):=by rw[hnext,hv,putS_nil,ho]
    refine⟨⟨by omega,by omega⟩,i+1,[(0,0),(2,2)],?_,⟨rfl,by omega⟩,by dsimp only;omega⟩;exact⟨⟨⟨rfl,rfl⟩,rfl,rfl,rfl,trivial⟩,⟨⟨rfl,trivial⟩,trivial,e5,trivial⟩⟩
 ·have hil:i=vs.length:=by have:=df h;omega
  rw[hil,List.take_length];exact⟨.tup [],[(0,.cells 36 [.own 2]),(1,.dead),(2,.row 9 1 (sRows (putAll (uns vs) l)))],3,[(0,0),(2,2)],⟨⟨⟨rfl,rfl⟩,trivial⟩,⟨⟨rfl,trivial⟩,trivial,rfl,trivial⟩⟩,hK⟩
end Go.Proofs
end
section
namespace Go.Proofs
open Go.Sy
set_option maxRecDepth 20000
abbrev sVars (s:Stmt):List Bs8:=[s.2.1.l,s.2.2.2.1.1.l,s.2.2.2.2.1.l]
abbrev bVars (o:List Bs8) (l:List Stmt):List Bs8:=l.foldl (fun o s=>putAll (sVars s) o) o
abbrev blkVars (o:List Bs8) (b:Block):List Bs8:=putAll [b.2.2.2.1.1.l] (bVars o b.2.1)
def varsOf (p:Prog):List Bs8:=p.foldl blkVars []
theorem bVars_sorted:∀(l:List Stmt) {o:List Bs8},SortedS o→SortedS (bVars o l)
 | [],_,h=>h
 | s::r,_,h=>bVars_sorted r (putAll_sorted (sVars s) h)
theorem bVars_len:∀(l:List Stmt) (o:List Bs8),(bVars o l).length≤o.length+3*l.length
 | [],o=>by simp [bVars]
 | s::r,o=>by
  have h1:=bVars_len r (putAll (sVars s) o);have h2:=putAll_len (sVars s) o;simp only[bVars,List.foldl_cons,List.length_cons,List.length_nil]at h1 h2 ⊢;omega
def cnt (p:Prog):Nat:=(p.map fun b=>3*b.2.1.length+1).sum
theorem blk_len (o:List Bs8) (b:Block):(blkVars o b).length≤o.length+(3*b.2.1.length+1):=by
 have h1:=putAll_len [b.2.2.2.1.1.l] (bVars o b.2.1);have h2:=bVars_len b.2.1 o;simp only[List.length_singleton]at h1;unfold blkVars;omega
theorem vars_len:∀(p:Prog) (o:List Bs8),(p.foldl blkVars o).length≤o.length+cnt p
 | [],o=>by simp [cnt]
 | b::r,o=>by
  have h1:=vars_len r (blkVars o b);have h2:=blk_len o b;simp only[cnt,List.foldl_cons,List.map_cons,List.sum_cons]at h1 h2 ⊢;omega
theorem vars_sorted:∀(p:Prog) {o:List Bs8},SortedS o→SortedS (p.foldl blkVars o)
 | [],_,h=>h
 | b::r,_,h=>vars_sorted r (putAll_sorted _ (bVars_sorted b.2.1 h))
theorem cnt_take:∀(p:Prog) {i:Nat} {b:Block},p[i]?=some b→cnt (p.take i)+(3*b.2.1.length+1)≤cnt p
 | [],i,b,h=>by simp at h
 | x::r,0,b,h=>by
  simp only[List.getElem?_cons_zero,Option.some.injEq]at h;subst h;simp [cnt]
 | x::r,i+1,b,h=>by
  rw[List.getElem?_cons_succ]at h;have:=cnt_take r h;simp only[cnt,List.take_succ_cons,List.map_cons,List.sum_cons]at this ⊢;omega
theorem putAll_mem:∀(vs:List Bs8) {o:List Bs8} {t:Bs8},t∈putAll vs o→t∈o∨t∈vs
 | [],_,_,h=>.inl h
 | v::r,o,t,h=>by
  rcases putAll_mem r h with h | h
  ·rcases putS_mem h with h | h
   ·exact .inl h
   ·exact .inr (h▸List.mem_cons_self)
  ·exact .inr (List.mem_cons_of_mem _ h)
theorem bVars_mem:∀(l:List Stmt) {o:List Bs8} {t:Bs8},t∈bVars o l→t∈o∨∃s∈l,t∈sVars s
 | [],_,_,h=>.inl h
 | s::r,o,t,h=>by
  rcases bVars_mem r h with h | ⟨s',h1,h2⟩
  ·rcases putAll_mem _ h with h | h
   ·exact .inl h
   ·exact .inr ⟨s,List.mem_cons_self,h⟩
  ·exact .inr ⟨s',List.mem_cons_of_mem _ h1,h2⟩
theorem vars_mem:∀(p:Prog) {o:List Bs8} {t:Bs8},t∈p.foldl blkVars o→t∈o∨∃b∈p,t=b.2.2.2.1.1.l∨∃s∈b.2.1,t∈sVars s
 | [],_,_,h=>.inl h
 | b::r,o,t,h=>by
  rcases vars_mem r h with h | ⟨b',h1,h2⟩
  ·rcases putAll_mem _ h with h | h
   ·rcases bVars_mem _ h with h | h
    ·exact .inl h
    ·exact .inr ⟨b,List.mem_cons_self,.inr h⟩
   ·exact .inr ⟨b,List.mem_cons_self,.inl (List.mem_singleton.1 h)⟩
  ·exact .inr ⟨b',List.mem_cons_of_mem _ h1,h2⟩
theorem vars_all {p:Prog} {a:Option Addr} {n c:Nat} {H:Hp} (ha:RL H a n c p):∀t∈varsOf p,t.length≤9223372036854775807:=by
 intro t ht
 rcases vars_mem p ht with h | ⟨b,hb,h⟩
 ·cases h
 ·obtain⟨cs,hr⟩:=rl_mem ha hb;obtain⟨a2,n2,c2,_,hl,_,htm⟩:=block_open hr
  rcases h with rfl | ⟨s,hs,h⟩
  ·exact htm.2.1.1
  ·obtain⟨cs,hr⟩:=rl_mem hl hs;obtain⟨_,hsr⟩:=stmt_open hr;simp only[sVars,List.mem_cons,List.not_mem_nil,or_false]at h
   rcases h with rfl | rfl | rfl
   ·exact hsr.2.1
   ·exact hsr.2.2.2.1.1
   ·exact hsr.2.2.2.2.1
theorem pvars_spec {p:Prog} {a:Option Addr} {n c:Nat} {H:Hp} {K:Value→Hp→Prop} (ha:RL H a n c p) (hc:cnt p<400000)
  (hK:∀a' n' c' H',Le H H'→RL H' a' n' c' (ens (varsOf p))→K (.slice a' n' c') H'):Does Tryz.prog 21 [.agg #[.slice a n c]] H K:=by
 have hn1:=ha.n_eq;have hmx:=ha.le;refine spec_of cx_ok cx_mix rfl Tryz.func21 Tryz.call21 Tryz.ntmps21 Tryz.results21 rfl rfl ?_
 refine⟨Nat,fun i=>⟨[(3,.ptr 1 0),(4,.fn 61 [.ptr 1 0]),(11,.v (.slice a n c)),(12,.v (.int .i64 n)),(13,.v (.int .i64 i))],[(1,.cells 36 [.own 2]),(2,.row 9 1 (sRows (varsOf (p.take i))))],3⟩,
  fun i H'=>Le H H'∧i≤p.length,fun i=>p.length - i,⟨0,[(1,1)],?_,Le.refl H,by omega⟩,?_⟩
 ·exact⟨⟨⟨rfl,rfl⟩,⟨rfl,rfl⟩,rfl,rfl,rfl,trivial⟩,⟨⟨⟨rfl,rfl,rfl⟩,trivial⟩,rfl,trivial⟩⟩
 rintro i H1 _ ⟨hle1,hi⟩;refine⟨fun h=>?_,fun h=>?_⟩
 ·have hlt:i<p.length:=by have:=dt h;omega
  have hx:=List.getElem?_eq_getElem hlt
  obtain⟨b,hb⟩:∃b,b=p[i]:=⟨_,rfl⟩
  rw[←hb]at hx;obtain⟨ad,cs,e1,hh,r1⟩:=(ha.up hle1).elem hx;obtain⟨a2,n2,c2,rfl,hr2,hnm,htm⟩:=block_open r1;refine⟨ad,⟨by omega,by omega,e1⟩,?_⟩;refine⟨_,hh,?_⟩;have hn2:=hr2.n_eq;have hmx2:=hr2.le
  obtain⟨o,ho⟩:∃o,o=varsOf (p.take i):=⟨_,rfl⟩
  have hos:SortedS o:=by rw[ho];exact vars_sorted _ List.Pairwise.nil
  have hol:o.length+(3*b.2.1.length+1)<400000:=by
   have h1:=vars_len (p.take i) [];have h2:=cnt_take p hx
   rw[ho];unfold varsOf
   simp only[List.length_nil]at h1;omega
  refine⟨Nat,fun j=>⟨[(3,.ptr 1 0),(4,.fn 61 [.ptr 1 0]),(6,.ptr 3 0),(11,.v (.slice a n c)),(12,.v (.int .i64 n)),(13,.v (.int .i64 i)),(18,.v (.slice a2 n2 c2)),(19,.v (.int .i64 n2)),(20,.v (.int .i64 j))],
    [(1,.cells 36 [.own 2]),(2,.row 9 1 (sRows (bVars o (b.2.1.take j)))),(3,.cells 53 ((Value.string (bs b.1.l) :: .slice a2 n2 c2::termV b.2.2).map .v))],4⟩,
   fun j H'=>Le H1 H'∧j≤b.2.1.length,fun j=>b.2.1.length - j,⟨0,[(1,1),(2,2),(3,3)],?_,Le.refl _,by omega⟩,?_⟩
  ·exact⟨⟨⟨rfl,rfl⟩,⟨rfl,rfl⟩,⟨rfl,rfl⟩,rfl,rfl,rfl,rfl,rfl,rfl,trivial⟩,⟨⟨rfl,trivial⟩,congrArg sRows ho.symm,⟨rfl,rfl,rfl,rfl,rfl,rfl,rfl,rfl,trivial⟩,trivial⟩⟩
  rintro j H2 _ ⟨hle2,hj⟩;have hbl:=bVars_len (b.2.1.take j) o;rw[List.length_take]at hbl;refine⟨fun h=>?_,fun h=>?_⟩
  ·have hltj:j<b.2.1.length:=by have:=dt h;omega
   have hxj:=List.getElem?_eq_getElem hltj;have hel:=(hr2.up hle2).elem hxj;obtain⟨ad2,cs2,e2,hh2,r2⟩:=hel;have hst:=stmt_open r2;obtain⟨ecs,hsr⟩:=hst;rw[ecs]at hh2;refine⟨ad2,⟨by omega,by omega,e2⟩,?_⟩;refine⟨_,hh2,?_⟩;refine⟨[1,2],rfl,?_⟩;intro x H3 hle3 hx3;have hx4:RowAt H3 x 1 (sRows (sVars b.2.1[j])):=hx3
   have hr3:=RL.of_row (α:=Str) hx4 (rc_sRows (l:=sVars b.2.1[j]) (fun t ht=>by
    simp only[sVars,List.mem_cons,List.not_mem_nil,or_false]at ht
    rcases ht with rfl | rfl | rfl
    ·exact hsr.2.1
    ·exact hsr.2.2.2.1.1
    ·exact hsr.2.2.2.2.1))
   obtain⟨a3,n3,c3,e3,hr3⟩:=hr3;rw[e3];refine putc_spec hr3 (bVars_sorted _ hos) (by simp only[List.length_map,List.length_cons,List.length_nil];omega) ?_
   have e5:sRows (putAll (uns (ens (sVars b.2.1[j]))) (bVars o (b.2.1.take j)))=sRows (bVars o (b.2.1.take (j+1))):=by
    rw[uns_ens];unfold bVars;rw[take_step _ _ hxj]
   refine⟨⟨by omega,by omega⟩,j+1,[(1,1),(2,6),(3,3)],?_,⟨hle2.trans hle3,by omega⟩,by dsimp only;omega⟩;exact⟨⟨⟨rfl,rfl⟩,⟨rfl,rfl⟩,⟨rfl,rfl⟩,rfl,rfl,rfl,rfl,rfl,rfl,trivial⟩,⟨⟨rfl,trivial⟩,e5,⟨rfl,rfl,rfl,rfl,rfl,rfl,rfl,rfl,trivial⟩,trivial⟩⟩
  ·have hjl:j=b.2.1.length:=by have:=df h;omega
   refine⟨[1,2],rfl,?_⟩;intro x H3 hle3 hx3;have hx4:RowAt H3 x 1 (sRows [b.2.2.2.1.1.l]):=hx3
   have hr3:=RL.of_row (α:=Str) hx4 (rc_sRows (l:=[b.2.2.2.1.1.l]) (fun t ht=>by
    rw[List.mem_singleton.1 ht];exact htm.2.1.1))
   obtain⟨a3,n3,c3,e3,hr3⟩:=hr3;rw[e3];refine putc_spec hr3 (bVars_sorted _ hos) (by simp only[List.length_map,List.length_cons,List.length_nil];omega) ?_
   have e5:sRows (putAll (uns (ens [b.2.2.2.1.1.l])) (bVars o (b.2.1.take j)))=sRows (varsOf (p.take (i+1))):=by
    rw[uns_ens,hjl,List.take_length];unfold varsOf;rw[take_step _ _ hx,ho]
    rfl
   refine⟨⟨by omega,by omega⟩,i+1,[(1,1),(2,5)],?_,⟨hle1.trans (hle2.trans hle3),by omega⟩,by dsimp only;omega⟩;exact⟨⟨⟨rfl,rfl⟩,⟨rfl,rfl⟩,rfl,rfl,rfl,trivial⟩,⟨⟨rfl,trivial⟩,e5,trivial⟩⟩
 ·have hil:i=p.length:=by have:=df h;omega
  intro x H2 hle2 hx
  have e:varsOf (p.take i)=varsOf p:=by rw[hil,List.take_length]
  have hx4:RowAt H2 x 1 (sRows (varsOf (p.take i))):=hx;rw[e]at hx4;have hr3:=RL.of_row (α:=Str) hx4 (rc_sRows (l:=varsOf p) (vars_all ha));obtain⟨a3,n3,c3,e3,hr3⟩:=hr3;rw[e3];exact hK _ _ _ _ (hle1.trans hle2) hr3
theorem rvars_spec {p:Prog} {a:Option Addr} {n c:Nat} {H:Hp} {K:Value→Hp→Prop} (ha:RL H a n c p) (hc:cnt p<400000)
  (hK:∀a' n' c' H',Le H H'→RL H' a' n' c' (ens (varsOf p))→K (.slice a' n' c') H'):Does Tryz.prog 35 [.agg #[.slice a n c]] H K:=by
 have hn1:=ha.n_eq;have hmx:=ha.le;refine spec_of cx_ok cx_mix rfl Tryz.func35 Tryz.call35 Tryz.ntmps35 Tryz.results35 rfl rfl ?_
 refine⟨Nat×(Option Addr×Nat×Nat),fun q=>⟨[(3,.v (.slice q.2.1 q.2.2.1 q.2.2.2)),(9,.v (.slice a n c)),(10,.v (.int .i64 n)),(11,.v (.int .i64 q.1))],[],0⟩,
  fun q H'=>Le H H'∧q.1≤p.length∧RL H' q.2.1 q.2.2.1 q.2.2.2 (ens (varsOf (p.take q.1))),fun q=>p.length - q.1,⟨(0,none,0,0),[],?_,Le.refl H,Nat.zero_le _,⟨rfl,Nat.le_refl _,Nat.zero_le _,.inl rfl⟩⟩,?_⟩
 ·exact⟨⟨rfl,rfl,rfl,rfl,trivial⟩,trivial⟩
 rintro⟨i,a1,n1,c1⟩ H1 _ ⟨hle1,hi,hr1⟩;simp only at hi hr1;refine⟨fun h=>?_,fun h=>?_⟩
 ·have hlt:i<p.length:=by have:=dt h;simp only at this;omega
  have hx:=List.getElem?_eq_getElem hlt
  obtain⟨b,hb⟩:∃b,b=p[i]:=⟨_,rfl⟩
  rw[←hb]at hx;obtain⟨ad,cs,e1,hh,r1⟩:=(ha.up hle1).elem hx;obtain⟨a2,n2,c2,rfl,hr2,hnm,htm⟩:=block_open r1;refine⟨ad,⟨by simp only;omega,by simp only;omega,e1⟩,?_⟩;refine⟨_,hh,?_⟩;have hn2:=hr2.n_eq;have hmx2:=hr2.le
  obtain⟨o,ho⟩:∃o,o=varsOf (p.take i):=⟨_,rfl⟩
  have hol:o.length+(3*b.2.1.length+1)<400000:=by
   have h1:=vars_len (p.take i) [];have h2:=cnt_take p hx
   rw[ho];unfold varsOf
   simp only[List.length_nil]at h1;omega
  rw[←ho]at hr1
  refine⟨Nat×(Option Addr×Nat×Nat),fun q=>⟨[(3,.v (.slice q.2.1 q.2.2.1 q.2.2.2)),(5,.ptr 0 0),(9,.v (.slice a n c)),(10,.v (.int .i64 n)),(11,.v (.int .i64 i)),(16,.v (.slice a2 n2 c2)),(17,.v (.int .i64 n2)),(18,.v (.int .i64 q.1))],
    [(0,.cells 53 ((Value.string (bs b.1.l) :: .slice a2 n2 c2::termV b.2.2).map .v))],1⟩,
   fun q H'=>Le H1 H'∧q.1≤b.2.1.length∧RL H' q.2.1 q.2.2.1 q.2.2.2 (ens (bVars o (b.2.1.take q.1))),fun q=>b.2.1.length - q.1,⟨(0,a1,n1,c1),[(0,0)],?_,Le.refl _,by omega,hr1⟩,?_⟩
  ·exact⟨⟨rfl,⟨rfl,rfl⟩,rfl,rfl,rfl,rfl,rfl,rfl,trivial⟩,⟨⟨rfl,rfl,rfl,rfl,rfl,rfl,rfl,rfl,trivial⟩,trivial⟩⟩
  rintro⟨j,a3,n3,c3⟩ H2 _ ⟨hle2,hj,hr3⟩;simp only at hj hr3;have hbl:=bVars_len (b.2.1.take j) o;rw[List.length_take]at hbl;refine⟨fun h=>?_,fun h=>?_⟩
  ·have hltj:j<b.2.1.length:=by have:=dt h;simp only at this;omega
   have hxj:=List.getElem?_eq_getElem hltj;have hel:=(hr2.up hle2).elem hxj;obtain⟨ad2,cs2,e2,hh2,r2⟩:=hel;have hst:=stmt_open r2;obtain⟨ecs,hsr⟩:=hst;rw[ecs]at hh2;refine⟨ad2,⟨by simp only;omega,by simp only;omega,e2⟩,?_⟩;refine⟨_,hh2,?_⟩;refine⟨some ([],[0,1,2,4,5,6,7,9,10,11,12,3,8,13,14]),by kernel_rfl,?_⟩
   have hlen:∀ {l:List Bs8} {m:Nat},l.length≤m→m<1000000→(ens l).length<1000000:=fun h1 h2=>by rw[List.length_map];omega
   refine put_spec hr3 hsr.2.1 (hlen hbl (by omega)) fun a4 n4 c4 H3 hle3 hr4=>?_
   rw[uns_ens]at hr4;have l4:=putS_len b.2.1[j].2.1.l (bVars o (b.2.1.take j))
   refine put_spec hr4 hsr.2.2.2.1.1 (hlen l4 (by omega)) fun a5 n5 c5 H4 hle4 hr5=>?_
   rw[uns_ens]at hr5;have l5:=putS_len b.2.1[j].2.2.2.1.1.l (putS b.2.1[j].2.1.l (bVars o (b.2.1.take j)))
   refine put_spec hr5 hsr.2.2.2.2.1 (hlen l5 (by omega)) fun a6 n6 c6 H5 hle5 hr6=>?_
   rw[uns_ens]at hr6
   have e5:bVars o (b.2.1.take (j+1))=putS b.2.1[j].2.2.2.2.1.l (putS b.2.1[j].2.2.2.1.1.l (putS b.2.1[j].2.1.l (bVars o (b.2.1.take j)))):=by
    unfold bVars;rw[take_step _ _ hxj]
    rfl
   rw[←e5]at hr6;refine⟨⟨by simp only;omega,by simp only;omega⟩,(j+1,a6,n6,c6),[(0,0)],?_,⟨hle2.trans (hle3.trans (hle4.trans hle5)),by simp only;omega,hr6⟩,by dsimp only;omega⟩;exact⟨⟨rfl,⟨rfl,rfl⟩,rfl,rfl,rfl,rfl,rfl,rfl,trivial⟩,⟨⟨rfl,rfl,rfl,rfl,rfl,rfl,rfl,rfl,trivial⟩,trivial⟩⟩
  ·have hjl:j=b.2.1.length:=by have:=df h;simp only at this;omega
   refine put_spec hr3 htm.2.1.1 (by rw[List.length_map];omega) fun a4 n4 c4 H3 hle3 hr4=>?_
   rw[uns_ens]at hr4
   have e5:varsOf (p.take (i+1))=putS b.2.2.2.1.1.l (bVars o (b.2.1.take j)):=by
    rw[hjl,List.take_length];unfold varsOf;rw[take_step _ _ hx,ho]
    rfl
   rw[←e5]at hr4;refine⟨⟨by omega,by omega⟩,(i+1,a4,n4,c4),[],?_,⟨hle1.trans (hle2.trans hle3),by omega,hr4⟩,by dsimp only;omega⟩;exact⟨⟨rfl,rfl,rfl,rfl,trivial⟩,trivial⟩
 ·have hil:i=p.length:=by have:=df h;simp only at this;omega
  have e:varsOf (p.take i)=varsOf p:=by rw[hil,List.take_length]
  rw[e]at hr1;exact hK _ _ _ _ hle1 hr1
end Go.Proofs
end
section
namespace Go.Proofs
open Go.Sy
set_option maxRecDepth 20000
theorem var_spec {p:Prog} {t:Bs8} {a:Option Addr} {n c:Nat} {H:Hp} {K:Value→Hp→Prop} (ha:RL H a n c p) (hc:cnt p<400000)
  (hK:∀H',Le H H'→K (.tuple #[.int .i64 (max (idxS t (varsOf p) 0) 0),.bool (decide (0≤idxS t (varsOf p) 0))]) H'):Does Tryz.prog 113 [.agg #[.slice a n c],.string (bs t)] H K:=by
 refine spec_of cx_ok cx_mix rfl Tryz.func113 Tryz.call113 Tryz.ntmps113 Tryz.results113 rfl rfl ?_
 refine pvars_spec ha hc fun a1 n1 c1 H1 hle1 hr1=>?_
 refine place_spec hr1 ?_;exact hK _ hle1
theorem rvar_spec {p:Prog} {t:Bs8} {a:Option Addr} {n c:Nat} {H:Hp} {K:Value→Hp→Prop} (ha:RL H a n c p) (hc:cnt p<400000)
  (hK:∀H',Le H H'→K (.int .i64 (idxS t (varsOf p) 0)) H'):Does Tryz.prog 135 [.agg #[.slice a n c],.string (bs t)] H K:=by
 refine spec_of cx_ok cx_mix rfl Tryz.func135 Tryz.call135 Tryz.ntmps135 Tryz.results135 rfl rfl ?_
 refine rvars_spec ha hc fun a1 n1 c1 H1 hle1 hr1=>?_
 obtain⟨l,hl⟩:∃l,l=varsOf p:=⟨_,rfl⟩
 rw[←hl]at hr1 hK;have hn1:=hr1.n_eq;rw[List.length_map]at hn1;have hmx:=hr1.le;refine⟨Nat,fun i=>⟨[(1,.v (.string (bs t))),(8,.v (.slice a1 n1 c1)),(9,.v (.int .i64 n1)),(10,.v (.int .i64 i))],[],0⟩,fun i H'=>H'=H1∧i≤l.length∧idxS t l 0=idxS t (l.drop i) i,fun i=>l.length - i,⟨0,[],?_,rfl,by omega,rfl⟩,?_⟩
 ·exact⟨⟨rfl,rfl,rfl,rfl,trivial⟩,trivial⟩
 rintro i H2 _ ⟨rfl,hi,hx⟩;have hK:=hK _ hle1;refine⟨fun h=>?_,fun h=>?_⟩
 ·have hlt:i<l.length:=by have:=dt h;omega
  obtain⟨ad,cs,e1,hh,rfl,hl2⟩:=hr1.elem (ens_get hlt);rw[idxS_step hlt]at hx;refine⟨ad,⟨by omega,by omega,e1⟩,?_⟩;refine⟨_,hh,?_⟩;refine⟨fun h=>?_,fun h=>?_⟩
  ·have he:l[i]=t:=dt h;rw[if_pos he]at hx;rw[hx]at hK;exact hK
  ·have he:¬l[i]=t:=df h;rw[if_neg he]at hx;refine⟨⟨by omega,by omega⟩,i+1,[],?_,⟨rfl,by omega,hx⟩,by dsimp only;omega⟩;exact⟨⟨rfl,rfl,rfl,rfl,trivial⟩,trivial⟩
 ·have hil:i=l.length:=by have:=df h;omega
  rw[hil,List.drop_length,idxS]at hx;rw[hx]at hK;exact hK
end Go.Proofs
end
section
namespace Go.Proofs
open Go.Sy
set_option maxRecDepth 20000
theorem mask_eq {w:Nat} (k:Nat) (hk:k≤64) (hw:w<18446744073709551616):IntKind.u64.wrap ((BitVec.ofInt IntKind.u64.bits (w:Int) &&& BitVec.ofInt IntKind.u64.bits ((2 ^ k - 1:Nat):Int)).toNat:Int)=((w % 2 ^ k:Nat):Int):=by
 show IntKind.u64.wrap ((BitVec.ofInt 64 (w:Int) &&& BitVec.ofInt 64 ((2 ^ k - 1:Nat):Int)).toNat:Int)=_;rw[BitVec.toNat_and,BitVec.ofInt_natCast,BitVec.ofInt_natCast,BitVec.toNat_ofNat,BitVec.toNat_ofNat,Nat.mod_eq_of_lt (by simpa using hw)]
 rw[Nat.mod_eq_of_lt (by
  have:=Nat.pow_le_pow_right (show 0<2 by omega) hk;have:=Nat.two_pow_pos k
  omega),Nat.and_two_pow_sub_one_eq_mod]
 have hlt:w % 2 ^ k≤w:=Nat.mod_le _ _;rw[IntKind.wrap_u64];omega
theorem shr_eq {w:Nat} (k:Nat) (hk:k≤64):((w:Int)).fdiv (2 ^ min (Int.toNat (k:Int)) IntKind.u64.bits)=((w / 2 ^ k:Nat):Int):=by
 show ((w:Int)).fdiv (2 ^ min (Int.toNat (k:Int)) 64)=_;rw[Int.toNat_natCast,Nat.min_eq_left hk,Int.fdiv_eq_ediv_of_nonneg _ (Int.le_of_lt (Int.pow_pos (by decide)))]
 norm_cast
def kNum (w:Nat):Option Nm:=if w % 4=2∧w / 4<4294967296 then some (wrp ((w / 4 % 65536:Nat):Int),wrp ((w / 4 / 65536:Nat):Int)) else none
abbrev numO (o:Option Nm):Value:=.tuple #[numV (o.getD (0,0)),.bool o.isSome]
theorem unword_spec {w:Nat} (hw:w<18446744073709551616) {H:Hp} {K:Value→Hp→Prop} (hK:K (numO (if w<4294967296 then some (wrp ((w % 65536:Nat):Int),wrp ((w / 65536:Nat):Int)) else none)) H):Does Tryz.prog 120 [.int .u64 w] H K:=by
 refine spec_of cx_ok cx_mix rfl Tryz.func120 Tryz.call120 Tryz.ntmps120 Tryz.results120 rfl rfl ?_;have h32:=shr_eq (w:=w) 32 (by omega);have h16:=shr_eq (w:=w) 16 (by omega);have hm:=mask_eq (w:=w) 16 (by omega) hw;refine⟨by decide,?_⟩;refine⟨fun h=>?_,fun h=>?_⟩
 ·have h:¬((w:Int)).fdiv (2 ^ min (Int.toNat (32:Nat)) IntKind.u64.bits)=0:=nt h;rw[h32]at h;rw[if_neg (by omega)]at hK;exact hK
 ·have h:((w:Int)).fdiv (2 ^ min (Int.toNat (32:Nat)) IntKind.u64.bits)=0:=nf h;rw[h32]at h
  have hlt:w<4294967296:=by omega
  rw[if_pos hlt]at hK;have e1:IntKind.u64.wrap ((BitVec.ofInt IntKind.u64.bits (w:Int) &&& BitVec.ofInt IntKind.u64.bits 65535).toNat:Int)=((w % 65536:Nat):Int):=hm;have e2:((w:Int)).fdiv (2 ^ min (Int.toNat 16) IntKind.u64.bits)=((w / 65536:Nat):Int):=h16;refine⟨⟨by rw[e1];omega,by rw[e1];omega⟩,?_⟩;refine⟨by decide,?_⟩;refine⟨⟨by rw[e2];omega,by rw[e2];omega⟩,?_⟩;rw[←e1,←e2]at hK;refine gof_spec ?_;exact hK
theorem unword_spec' {x:Int} {w:Nat} (hx:x=w) (hw:w<18446744073709551616) {H:Hp} {K:Value→Hp→Prop} (hK:K (numO (if w<4294967296 then some (wrp ((w % 65536:Nat):Int),wrp ((w / 65536:Nat):Int)) else none)) H):Does Tryz.prog 120 [.int .u64 x] H K:=by
 subst hx;exact unword_spec hw hK
theorem knum_spec {w:Nat} (hw:w<18446744073709551616) {H:Hp} {K:Value→Hp→Prop} (hK:K (numO (kNum w)) H):Does Tryz.prog 67 [.int .u64 w] H K:=by
 refine spec_of cx_ok cx_mix rfl Tryz.func67 Tryz.call67 Tryz.ntmps67 Tryz.results67 rfl rfl ?_;have hm:IntKind.u64.wrap ((BitVec.ofInt IntKind.u64.bits (w:Int) &&& BitVec.ofInt IntKind.u64.bits 3).toNat:Int)=((w % 4:Nat):Int):=mask_eq (w:=w) 2 (by omega) hw;have hs:((w:Int)).fdiv (2 ^ min (Int.toNat 2) IntKind.u64.bits)=((w / 4:Nat):Int):=shr_eq (w:=w) 2 (by omega);refine⟨fun h=>?_,fun h=>?_⟩
 ·have h:¬IntKind.u64.wrap ((BitVec.ofInt IntKind.u64.bits (w:Int) &&& BitVec.ofInt IntKind.u64.bits 3).toNat:Int)=2:=nt h;rw[hm]at h;rw[kNum,if_neg (by omega)]at hK;exact hK
 ·have h:IntKind.u64.wrap ((BitVec.ofInt IntKind.u64.bits (w:Int) &&& BitVec.ofInt IntKind.u64.bits 3).toNat:Int)=2:=nf h;rw[hm]at h
  have h:w % 4=2:=by omega
  refine⟨by decide,?_⟩;refine unword_spec' hs (by omega) ?_;unfold kNum at hK;simp only[h,true_and]at hK;exact hK
theorem rnum_spec {w:Nat} (hw:w<18446744073709551616) {H:Hp} {K:Value→Hp→Prop} (hK:K (numO (kNum w)) H):Does Tryz.prog 75 [.int .u64 w] H K:=by
 refine spec_of cx_ok cx_mix rfl Tryz.func75 Tryz.call75 Tryz.ntmps75 Tryz.results75 rfl rfl ?_
 have e4:((w:Int)).tmod 4=((w % 4:Nat):Int):=by rw[Int.tmod_eq_emod_of_nonneg (by omega)];rfl
 have e5:((w:Int)).tdiv 4=((w / 4:Nat):Int):=by rw[Int.tdiv_eq_ediv_of_nonneg (by omega)];rfl
 refine⟨by decide,?_⟩;refine⟨fun h=>?_,fun h=>?_⟩
 ·have h:((w:Int)).tmod 4=2:=nf h;rw[e4]at h
  have h:w % 4=2:=by omega
  refine⟨by decide,⟨by rw[e5];omega,by rw[e5];omega⟩,?_⟩;refine⟨fun h2=>?_,fun h2=>?_⟩
  ·have h2:=dt h2;rw[e5]at h2;rw[kNum,if_neg (by omega)]at hK;exact hK
  ·have h2:=df h2;rw[e5]at h2
   have hlt:w / 4<4294967296:=by omega
   rw[kNum,if_pos ⟨h,hlt⟩]at hK
   have e6:(((w / 4:Nat):Int)).tmod 65536=((w / 4 % 65536:Nat):Int):=by rw[Int.tmod_eq_emod_of_nonneg (by omega)];rfl
   have e7:(((w / 4:Nat):Int)).tdiv 65536=((w / 4 / 65536:Nat):Int):=by rw[Int.tdiv_eq_ediv_of_nonneg (by omega)];rfl
   refine⟨by decide,⟨by rw[e5];omega,by rw[e5];omega⟩,⟨by rw[e5];omega,by rw[e5];omega⟩,by decide,by decide,⟨by rw[e5,e7];omega,by rw[e5,e7];omega⟩,?_⟩;rw[←e6,←e7,←e5]at hK;refine rof_spec ?_;exact hK
 ·have h:¬((w:Int)).tmod 4=2:=nt (by cases hh:(!decide (((w:Int)).tmod 4=2))<;>simp_all)
  rw[e4]at h;rw[kNum,if_neg (by omega)]at hK;exact hK
end Go.Proofs
end
section
/- Plain words: plain laws of digits and of numbers' texts. -/
namespace Go.Proofs
open Go.Sy
def dg (n:Nat):List UInt8:=if n<10 then [UInt8.ofNat (48+n)] else dg (n / 10)++[UInt8.ofNat (48+n % 10)]
decreasing_by omega
def dgS (n:Int):List UInt8:=if n<0 then 45::dg (0 - n).toNat else dg n.toNat
def chrA (n:Nat):UInt8:=UInt8.ofNat (48+n % 10)
theorem dg_one {n:Nat} (h:n<10):dg n=[chrA n]:=by rw[dg,if_pos h,chrA,Nat.mod_eq_of_lt h]
theorem dg_big {n:Nat} (h:¬n<10):dg n=dg (n / 10)++[chrA n]:=by rw[dg,if_neg h,chrA]
theorem dg_len:∀k n:Nat,n<10 ^ (k+1)→(dg n).length≤k+1
 | 0,n,h=>by rw[dg_one (by simpa using h)];simp
 | k+1,n,h=>by
  by_cases h1:n<10
  ·rw[dg_one h1];simp
  ·have:=dg_len k (n / 10) (by rw[Nat.div_lt_iff_lt_mul (by decide)];rw[Nat.pow_succ]at h;exact h);rw[dg_big h1,List.length_append,List.length_singleton];omega
theorem dg_len20 {n:Nat} (h:n<18446744073709551616):(dg n).length≤20:=dg_len 19 n (by omega)
theorem dgS_len {n:Int} (h : -9223372036854775808≤n∧n≤9223372036854775807):(dgS n).length≤21:=by
 rw[dgS];split
 ·have:=dg_len20 (n:=(0 - n).toNat) (by omega)
  rw[List.length_cons];omega
 ·have:=dg_len20 (n:=n.toNat) (by omega);omega
theorem chr_row (n:Nat):[[Value.int .u8 ((48+n % 10:Nat):Int)]]=byteRows [chrA n]:=by
 have e:(chrA n).toNat=48+n % 10:=by rw[chrA,UInt8.toNat_ofNat'];omega
 simp only[byteRows,List.map_cons,List.map_nil,e]
def nTx (a:Nm):List UInt8:=if wrp a.2=0 then dgS (wrp a.1) else [40]++dgS (wrp a.1)++[44]++dgS (wrp a.2)++[41]
def kTx (w:Nat):List UInt8:=match kNum w with
 | some a=>nTx a
 | none=>if w=0 then [33] else [63]
def aTx (a:Atm):List UInt8:=if a.1.l=[] then nTx a.2 else a.1.l
def xTx (x:Expr):List UInt8:=if x.1=0 then aTx x.2.1 else if x.1=1 then aTx x.2.1++[32,43,32]++aTx x.2.2 else if x.1=2 then aTx x.2.1++[32,45,32]++aTx x.2.2
 else if x.1=3 then aTx x.2.1++[32,42,32]++aTx x.2.2 else if x.1=4 then [99,111,110,106,32]++aTx x.2.1 else []
theorem wrp_dg (n:Int):(dgS (wrp n)).length≤21:=dgS_len (by have:=wrp_le n;omega)
theorem nTx_len (a:Nm):(nTx a).length≤45:=by
 have h1:=wrp_dg a.1;have h2:=wrp_dg a.2;rw[nTx];split
 ·omega
 ·simp only[List.length_append,List.length_singleton];omega
theorem kTx_len (w:Nat):(kTx w).length≤45:=by
 rw[kTx];split
 ·exact nTx_len _
 ·split<;>simp
end Go.Proofs
end
section
/- Plain words: the digits of numbers, as gauss and tables write them: regions in which the call and the sign's own row come in any order. -/
namespace Go.Proofs
open Go.Sy
set_option maxRecDepth 20000
set_option maxHeartbeats 4000000
inductive PA
 | a | b | c | d
inductive PB
 | a | b | c | d | e | f | g
abbrev XA:=(PA×PB) ⊕ Bool
def dA:PA→List Bool
 | .a=>[false,false,false]
 | .b=>[true,false,false]
 | .c=>[true,true,false]
 | .d=>[true,true,true]
def dB:PB→List Bool
 | .a=>[false,false,false,false,false,false,false,false]
 | .b=>[true,false,false,false,false,false,false,false]
 | .c=>[true,true,false,false,false,false,false,false]
 | .d=>[true,true,true,false,false,false,false,false]
 | .e=>[true,true,true,true,false,false,false,false]
 | .f=>[true,true,true,true,true,false,false,false]
 | .g=>[true,true,true,true,true,true,false,false]
def LA:XA→Array Bool
 | .inl (p,q)=>(dA p++dB q).toArray
 | .inr false=>#[true,true,true,true,true,true,true,true,true,true,false]
 | .inr true=>#[true,true,true,true,true,true,true,true,true,true,true]
def nA:PA→List Nat
 | .a=>[0]
 | .b=>[1]
 | .c=>[2]
 | .d=>[]
def nB:PB→List Nat
 | .a=>[3]
 | .b=>[4]
 | .c=>[5]
 | .d=>[6]
 | .e=>[7]
 | .f=>[8]
 | .g=>[]
def RA:XA→List Nat
 | .inl (.d,.g)=>[9]
 | .inl (p,q)=>nA p++nB q
 | .inr false=>[10]
 | .inr true=>[]
theorem quo_in {n:Nat} (hn:n<9223372036854775808) : -9223372036854775808≤(n:Int).tdiv 10∧(n:Int).tdiv 10≤9223372036854775807:=by
 show -9223372036854775808≤((n / 10:Nat):Int)∧((n / 10:Nat):Int)≤9223372036854775807;omega
def opsTD:Array Oper:=#[
 {dst := some 10, op := .move (.tmp 0), type := 3, pos := "tables.go:75", after := #[], guard := none },
 {dst := some 11, op := .binOp .quo 3 (.tmp 10) (.const (.int .i64 10)) 3, type := 3, pos := "tables.go:75", after := #[{ on := 0, ground := .data }], guard := none },
 {dst := some 12, op := .call { callee := .value (.func 70), args := #[.tmp 11], argTypes := #[3] }, type := 9, pos := "tables.go:75", after := #[{ on := 1, ground := .data }], guard := none },
 {dst := some 13, op := .move (.tmp 0), type := 3, pos := "tables.go:75", after := #[], guard := none },
 {dst := some 14, op := .binOp .rem 3 (.tmp 13) (.const (.int .i64 10)) 3, type := 3, pos := "tables.go:75", after := #[{ on := 3, ground := .data }], guard := none },
 {dst := some 15, op := .binOp .add 3 (.const (.int .i64 48)) (.tmp 14) 3, type := 3, pos := "tables.go:75", after := #[{ on := 4, ground := .data }], guard := none },
 {dst := some 16, op := .convert 3 5 (.tmp 15), type := 5, pos := "tables.go:75", after := #[{ on := 5, ground := .data }], guard := none },
 {dst := some 17, op := .buildSlice 153 1 #[(0, .tmp 16)], type := 153, pos := "tables.go:75", after := #[{ on := 6, ground := .data }], guard := none },
 {dst := some 18, op := .convert 153 9 (.tmp 17), type := 9, pos := "tables.go:75", after := #[{ on := 7, ground := .data }], guard := none },
 {dst := some 19, op := .binOp .add 9 (.tmp 12) (.tmp 18) 9, type := 9, pos := "tables.go:75", after := #[{ on := 2, ground := .data }, { on := 8, ground := .data }], guard := none },
 {dst := some 2, op := .assign (.tmp 19), type := 9, pos := "tables.go:75", after := #[{ on := 9, ground := .data }, { on := 2, ground := .chain }, { on := 0, ground := .phase }, { on := 1, ground := .phase }, { on := 2, ground := .phase }, { on := 3, ground := .phase }, { on := 4, ground := .phase }, { on := 5, ground := .phase }, { on := 6, ground := .phase }, { on := 7, ground := .phase }, { on := 8, ground := .phase }, { on := 9, ground := .phase }], guard := none }]
noncomputable abbrev cxTD:Cx:={ P:=cx.P,tt:=cx.tt,n:=20,wrap:=cx.wrap,base:=cx.base,gf:=cx.gf,eqs:=cx.eqs,xf:=cx.xf,rg:=cx.rg }
theorem cxTD_ok:TOK cxTD:=⟨cx_ok.tt,cx_ok.eqs⟩
def envATD (n:Nat):PA→List (Nat×SV)
 | .a=>[]
 | .b=>[(10,.v (.int .i64 n))]
 | .c=>[(11,.v (.int .i64 ((n / 10:Nat):Int)))]
 | .d=>[(12,.v (.string (bs (dg (n / 10)))))]
def envBTD (n:Nat):PB→List (Nat×SV)
 | .a=>[]
 | .b=>[(13,.v (.int .i64 n))]
 | .c=>[(14,.v (.int .i64 ((n % 10:Nat):Int)))]
 | .d=>[(15,.v (.int .i64 ((48+n % 10:Nat):Int)))]
 | .e=>[(16,.v (.int .u8 ((48+n % 10:Nat):Int)))]
 | .f=>[(17,.own 0)]
 | .g=>[(18,.v (.string (bs [chrA n])))]
def bxBTD (n:Nat):PB→List (Nat×Bx)
 | .f=>[(0,.row 5 1 [[.int .u8 ((48+n % 10:Nat):Int)]])]
 | _=>[]
def TTD (n:Nat):XA→St
 | .inl (p,q)=>⟨[(0,.v (.int .i64 n))]++envATD n p++envBTD n q,bxBTD n q,1⟩
 | .inr false=>⟨[(19,.v (.string (bs (dg (n / 10)++[chrA n]))))],[],1⟩
 | .inr true=>⟨[(2,.v (.string (bs (dg (n / 10)++[chrA n]))))],[],1⟩
theorem readyTD:∀x,Region.ready .any opsTD (LA x)=RA x
 | .inl (p,q)=>by cases p<;>cases q<;>decide +kernel
 | .inr false=>by decide +kernel
 | .inr true=>by decide +kernel
def NextTD (n:Nat) (H:Hp) (x:XA) (i:Nat):Prop:=∃o,opsTD[i]?=some o∧o.guard=none∧opE cxTD (TTD n x) o.op o.type H fun v' s' H'=>H'=H∧∃y mm,LA y=(LA x).setIfInBounds i true∧Sub cxTD mm (s'.put cxTD.n o.dst v') (TTD n y)
theorem nA0TD {n:Nat} {H:Hp}:∀q,NextTD n H (.inl (.a,q)) 0
 | .a=>⟨_,rfl,rfl,by
  refine⟨rfl,.inl (.b,.a),[(0,0)],rfl,?_⟩
  (repeat' (first|exact trivial|refine⟨?_,?_⟩|exact rfl|assumption))⟩
 | .b=>⟨_,rfl,rfl,by
  refine⟨rfl,.inl (.b,.b),[(0,0)],rfl,?_⟩
  (repeat' (first|exact trivial|refine⟨?_,?_⟩|exact rfl|assumption))⟩
 | .c=>⟨_,rfl,rfl,by
  refine⟨rfl,.inl (.b,.c),[(0,0)],rfl,?_⟩
  (repeat' (first|exact trivial|refine⟨?_,?_⟩|exact rfl|assumption))⟩
 | .d=>⟨_,rfl,rfl,by
  refine⟨rfl,.inl (.b,.d),[(0,0)],rfl,?_⟩
  (repeat' (first|exact trivial|refine⟨?_,?_⟩|exact rfl|assumption))⟩
 | .e=>⟨_,rfl,rfl,by
  refine⟨rfl,.inl (.b,.e),[(0,0)],rfl,?_⟩
  (repeat' (first|exact trivial|refine⟨?_,?_⟩|exact rfl|assumption))⟩
 | .f=>⟨_,rfl,rfl,by
  refine⟨rfl,.inl (.b,.f),[(0,0)],rfl,?_⟩
  (repeat' (first|exact trivial|refine⟨?_,?_⟩|exact rfl|assumption))⟩
 | .g=>⟨_,rfl,rfl,by
  refine⟨rfl,.inl (.b,.g),[(0,0)],rfl,?_⟩
  (repeat' (first|exact trivial|refine⟨?_,?_⟩|exact rfl|assumption))⟩
theorem nA1TD {n:Nat} {H:Hp} (hn:n<9223372036854775808):∀q,NextTD n H (.inl (.b,q)) 1
 | .a=>⟨_,rfl,rfl,by
  refine⟨by decide,quo_in hn,rfl,.inl (.c,.a),[(0,0)],rfl,?_⟩
  (repeat' (first|exact trivial|refine⟨?_,?_⟩|exact rfl|assumption))⟩
 | .b=>⟨_,rfl,rfl,by
  refine⟨by decide,quo_in hn,rfl,.inl (.c,.b),[(0,0)],rfl,?_⟩
  (repeat' (first|exact trivial|refine⟨?_,?_⟩|exact rfl|assumption))⟩
 | .c=>⟨_,rfl,rfl,by
  refine⟨by decide,quo_in hn,rfl,.inl (.c,.c),[(0,0)],rfl,?_⟩
  (repeat' (first|exact trivial|refine⟨?_,?_⟩|exact rfl|assumption))⟩
 | .d=>⟨_,rfl,rfl,by
  refine⟨by decide,quo_in hn,rfl,.inl (.c,.d),[(0,0)],rfl,?_⟩
  (repeat' (first|exact trivial|refine⟨?_,?_⟩|exact rfl|assumption))⟩
 | .e=>⟨_,rfl,rfl,by
  refine⟨by decide,quo_in hn,rfl,.inl (.c,.e),[(0,0)],rfl,?_⟩
  (repeat' (first|exact trivial|refine⟨?_,?_⟩|exact rfl|assumption))⟩
 | .f=>⟨_,rfl,rfl,by
  refine⟨by decide,quo_in hn,rfl,.inl (.c,.f),[(0,0)],rfl,?_⟩
  (repeat' (first|exact trivial|refine⟨?_,?_⟩|exact rfl|assumption))⟩
 | .g=>⟨_,rfl,rfl,by
  refine⟨by decide,quo_in hn,rfl,.inl (.c,.g),[(0,0)],rfl,?_⟩
  (repeat' (first|exact trivial|refine⟨?_,?_⟩|exact rfl|assumption))⟩
theorem nA2TD {n:Nat} {H:Hp} (hc:∀(K:Value→Hp→Prop),K (.string (bs (dg (n / 10)))) H→Does Tryz.prog 70 [.int .i64 ((n / 10:Nat):Int)] H K):∀q,NextTD n H (.inl (.c,q)) 2
 | .a=>⟨_,rfl,rfl,by
  refine hc _ ?_;refine⟨rfl,.inl (.d,.a),[(0,0)],rfl,?_⟩
  (repeat' (first|exact trivial|refine⟨?_,?_⟩|exact rfl|assumption))⟩
 | .b=>⟨_,rfl,rfl,by
  refine hc _ ?_;refine⟨rfl,.inl (.d,.b),[(0,0)],rfl,?_⟩
  (repeat' (first|exact trivial|refine⟨?_,?_⟩|exact rfl|assumption))⟩
 | .c=>⟨_,rfl,rfl,by
  refine hc _ ?_;refine⟨rfl,.inl (.d,.c),[(0,0)],rfl,?_⟩
  (repeat' (first|exact trivial|refine⟨?_,?_⟩|exact rfl|assumption))⟩
 | .d=>⟨_,rfl,rfl,by
  refine hc _ ?_;refine⟨rfl,.inl (.d,.d),[(0,0)],rfl,?_⟩
  (repeat' (first|exact trivial|refine⟨?_,?_⟩|exact rfl|assumption))⟩
 | .e=>⟨_,rfl,rfl,by
  refine hc _ ?_;refine⟨rfl,.inl (.d,.e),[(0,0)],rfl,?_⟩
  (repeat' (first|exact trivial|refine⟨?_,?_⟩|exact rfl|assumption))⟩
 | .f=>⟨_,rfl,rfl,by
  refine hc _ ?_;refine⟨rfl,.inl (.d,.f),[(0,0)],rfl,?_⟩
  (repeat' (first|exact trivial|refine⟨?_,?_⟩|exact rfl|assumption))⟩
 | .g=>⟨_,rfl,rfl,by
  refine hc _ ?_;refine⟨rfl,.inl (.d,.g),[(0,0)],rfl,?_⟩
  (repeat' (first|exact trivial|refine⟨?_,?_⟩|exact rfl|assumption))⟩
theorem nB0TD {n:Nat} {H:Hp}:∀p,NextTD n H (.inl (p,.a)) 3
 | .a=>⟨_,rfl,rfl,by
  refine⟨rfl,.inl (.a,.b),[(0,0)],rfl,?_⟩
  (repeat' (first|exact trivial|refine⟨?_,?_⟩|exact rfl|assumption))⟩
 | .b=>⟨_,rfl,rfl,by
  refine⟨rfl,.inl (.b,.b),[(0,0)],rfl,?_⟩
  (repeat' (first|exact trivial|refine⟨?_,?_⟩|exact rfl|assumption))⟩
 | .c=>⟨_,rfl,rfl,by
  refine⟨rfl,.inl (.c,.b),[(0,0)],rfl,?_⟩
  (repeat' (first|exact trivial|refine⟨?_,?_⟩|exact rfl|assumption))⟩
 | .d=>⟨_,rfl,rfl,by
  refine⟨rfl,.inl (.d,.b),[(0,0)],rfl,?_⟩
  (repeat' (first|exact trivial|refine⟨?_,?_⟩|exact rfl|assumption))⟩
theorem nB1TD {n:Nat} {H:Hp}:∀p,NextTD n H (.inl (p,.b)) 4
 | .a=>⟨_,rfl,rfl,by
  refine⟨by decide,rfl,.inl (.a,.c),[(0,0)],rfl,?_⟩
  (repeat' (first|exact trivial|refine⟨?_,?_⟩|exact rfl|assumption))⟩
 | .b=>⟨_,rfl,rfl,by
  refine⟨by decide,rfl,.inl (.b,.c),[(0,0)],rfl,?_⟩
  (repeat' (first|exact trivial|refine⟨?_,?_⟩|exact rfl|assumption))⟩
 | .c=>⟨_,rfl,rfl,by
  refine⟨by decide,rfl,.inl (.c,.c),[(0,0)],rfl,?_⟩
  (repeat' (first|exact trivial|refine⟨?_,?_⟩|exact rfl|assumption))⟩
 | .d=>⟨_,rfl,rfl,by
  refine⟨by decide,rfl,.inl (.d,.c),[(0,0)],rfl,?_⟩
  (repeat' (first|exact trivial|refine⟨?_,?_⟩|exact rfl|assumption))⟩
theorem nB2TD {n:Nat} {H:Hp}:∀p,NextTD n H (.inl (p,.c)) 5
 | .a=>⟨_,rfl,rfl,by
  refine⟨⟨by omega,by omega⟩,rfl,.inl (.a,.d),[(0,0)],rfl,?_⟩
  (repeat' (first|exact trivial|refine⟨?_,?_⟩|exact rfl|assumption))⟩
 | .b=>⟨_,rfl,rfl,by
  refine⟨⟨by omega,by omega⟩,rfl,.inl (.b,.d),[(0,0)],rfl,?_⟩
  (repeat' (first|exact trivial|refine⟨?_,?_⟩|exact rfl|assumption))⟩
 | .c=>⟨_,rfl,rfl,by
  refine⟨⟨by omega,by omega⟩,rfl,.inl (.c,.d),[(0,0)],rfl,?_⟩
  (repeat' (first|exact trivial|refine⟨?_,?_⟩|exact rfl|assumption))⟩
 | .d=>⟨_,rfl,rfl,by
  refine⟨⟨by omega,by omega⟩,rfl,.inl (.d,.d),[(0,0)],rfl,?_⟩
  (repeat' (first|exact trivial|refine⟨?_,?_⟩|exact rfl|assumption))⟩
theorem nB3TD {n:Nat} {H:Hp}:∀p,NextTD n H (.inl (p,.d)) 6
 | .a=>⟨_,rfl,rfl,by
  refine⟨⟨by omega,by omega⟩,rfl,.inl (.a,.e),[(0,0)],rfl,?_⟩
  (repeat' (first|exact trivial|refine⟨?_,?_⟩|exact rfl|assumption))⟩
 | .b=>⟨_,rfl,rfl,by
  refine⟨⟨by omega,by omega⟩,rfl,.inl (.b,.e),[(0,0)],rfl,?_⟩
  (repeat' (first|exact trivial|refine⟨?_,?_⟩|exact rfl|assumption))⟩
 | .c=>⟨_,rfl,rfl,by
  refine⟨⟨by omega,by omega⟩,rfl,.inl (.c,.e),[(0,0)],rfl,?_⟩
  (repeat' (first|exact trivial|refine⟨?_,?_⟩|exact rfl|assumption))⟩
 | .d=>⟨_,rfl,rfl,by
  refine⟨⟨by omega,by omega⟩,rfl,.inl (.d,.e),[(0,0)],rfl,?_⟩
  (repeat' (first|exact trivial|refine⟨?_,?_⟩|exact rfl|assumption))⟩
theorem nB4TD {n:Nat} {H:Hp}:∀p,NextTD n H (.inl (p,.e)) 7
 | .a=>⟨_,rfl,rfl,by
  refine⟨rfl,.inl (.a,.f),[(0,1)],rfl,?_⟩
  (repeat' (first|exact trivial|refine⟨?_,?_⟩|exact rfl|assumption))⟩
 | .b=>⟨_,rfl,rfl,by
  refine⟨rfl,.inl (.b,.f),[(0,1)],rfl,?_⟩
  (repeat' (first|exact trivial|refine⟨?_,?_⟩|exact rfl|assumption))⟩
 | .c=>⟨_,rfl,rfl,by
  refine⟨rfl,.inl (.c,.f),[(0,1)],rfl,?_⟩
  (repeat' (first|exact trivial|refine⟨?_,?_⟩|exact rfl|assumption))⟩
 | .d=>⟨_,rfl,rfl,by
  refine⟨rfl,.inl (.d,.f),[(0,1)],rfl,?_⟩
  (repeat' (first|exact trivial|refine⟨?_,?_⟩|exact rfl|assumption))⟩
theorem nB5TD {n:Nat} {H:Hp}:∀p,NextTD n H (.inl (p,.f)) 8
 | .a=>⟨_,rfl,rfl,by
  refine⟨[chrA n],chr_row n,rfl,.inl (.a,.g),[(0,0)],rfl,?_⟩
  (repeat' (first|exact trivial|refine⟨?_,?_⟩|exact rfl|assumption))⟩
 | .b=>⟨_,rfl,rfl,by
  refine⟨[chrA n],chr_row n,rfl,.inl (.b,.g),[(0,0)],rfl,?_⟩
  (repeat' (first|exact trivial|refine⟨?_,?_⟩|exact rfl|assumption))⟩
 | .c=>⟨_,rfl,rfl,by
  refine⟨[chrA n],chr_row n,rfl,.inl (.c,.g),[(0,0)],rfl,?_⟩
  (repeat' (first|exact trivial|refine⟨?_,?_⟩|exact rfl|assumption))⟩
 | .d=>⟨_,rfl,rfl,by
  refine⟨[chrA n],chr_row n,rfl,.inl (.d,.g),[(0,0)],rfl,?_⟩
  (repeat' (first|exact trivial|refine⟨?_,?_⟩|exact rfl|assumption))⟩
theorem nETD {n:Nat} (hn:n<9223372036854775808) {H:Hp}:NextTD n H (.inl (.d,.g)) 9:=⟨_,rfl,rfl,by
  have h1:=dg_len20 (n:=n / 10) (by omega);refine⟨by show (dg (n / 10)).length+1≤_;omega,rfl,.inr false,[(0,0)],rfl,?_⟩
  (repeat' (first|exact trivial|refine⟨?_,?_⟩|exact rfl|assumption))⟩
theorem nFTD {n:Nat} {H:Hp}:NextTD n H (.inr false) 10:=⟨_,rfl,rfl,by
  refine⟨rfl,.inr true,[(0,0)],rfl,?_⟩
  (repeat' (first|exact trivial|refine⟨?_,?_⟩|exact rfl|assumption))⟩
theorem stepTD {n:Nat} (hn:n<9223372036854775808) {H:Hp} (hc:∀(K:Value→Hp→Prop),K (.string (bs (dg (n / 10)))) H→Does Tryz.prog 70 [.int .i64 ((n / 10:Nat):Int)] H K):
  ∀x,∀i∈Region.ready .any opsTD (LA x),NextTD n H x i:=by
 have ha:∀(p:PA) (q:PB),∀i∈nA p++nB q,NextTD n H (.inl (p,q)) i:=by
  intro p q i hi
  rcases List.mem_append.1 hi with hi | hi
  ·cases p
   ·rw[List.mem_singleton.1 hi];exact nA0TD q
   ·rw[List.mem_singleton.1 hi];exact nA1TD hn q
   ·rw[List.mem_singleton.1 hi];exact nA2TD hc q
   ·cases hi
  ·cases q
   ·rw[List.mem_singleton.1 hi];exact nB0TD p
   ·rw[List.mem_singleton.1 hi];exact nB1TD p
   ·rw[List.mem_singleton.1 hi];exact nB2TD p
   ·rw[List.mem_singleton.1 hi];exact nB3TD p
   ·rw[List.mem_singleton.1 hi];exact nB4TD p
   ·rw[List.mem_singleton.1 hi];exact nB5TD p
   ·cases hi
 intro x i hi;rw[readyTD x]at hi
 match x,hi with
 | .inl (.d,.g),hi=>rw[List.mem_singleton.1 hi];exact nETD hn
 | .inl (.a,.a),hi=>exact ha _ _ i hi
 | .inl (.a,.b),hi=>exact ha _ _ i hi
 | .inl (.a,.c),hi=>exact ha _ _ i hi
 | .inl (.a,.d),hi=>exact ha _ _ i hi
 | .inl (.a,.e),hi=>exact ha _ _ i hi
 | .inl (.a,.f),hi=>exact ha _ _ i hi
 | .inl (.a,.g),hi=>exact ha _ _ i hi
 | .inl (.b,.a),hi=>exact ha _ _ i hi
 | .inl (.b,.b),hi=>exact ha _ _ i hi
 | .inl (.b,.c),hi=>exact ha _ _ i hi
 | .inl (.b,.d),hi=>exact ha _ _ i hi
 | .inl (.b,.e),hi=>exact ha _ _ i hi
 | .inl (.b,.f),hi=>exact ha _ _ i hi
 | .inl (.b,.g),hi=>exact ha _ _ i hi
 | .inl (.c,.a),hi=>exact ha _ _ i hi
 | .inl (.c,.b),hi=>exact ha _ _ i hi
 | .inl (.c,.c),hi=>exact ha _ _ i hi
 | .inl (.c,.d),hi=>exact ha _ _ i hi
 | .inl (.c,.e),hi=>exact ha _ _ i hi
 | .inl (.c,.f),hi=>exact ha _ _ i hi
 | .inl (.c,.g),hi=>exact ha _ _ i hi
 | .inl (.d,.a),hi=>exact ha _ _ i hi
 | .inl (.d,.b),hi=>exact ha _ _ i hi
 | .inl (.d,.c),hi=>exact ha _ _ i hi
 | .inl (.d,.d),hi=>exact ha _ _ i hi
 | .inl (.d,.e),hi=>exact ha _ _ i hi
 | .inl (.d,.f),hi=>exact ha _ _ i hi
 | .inr false,hi=>rw[List.mem_singleton.1 hi];exact nFTD
theorem endTD:∀x,Region.ready .any opsTD (LA x)=[]→x = .inr true
 | .inr true,_=>rfl
 | .inr false,h=>by rw[readyTD]at h;cases h
 | .inl (p,q),h=>by rw[readyTD]at h;cases p<;>cases q<;>cases h
theorem regionTD {n:Nat} (hn:n<9223372036854775808) {H:Hp} (hc:∀(K:Value→Hp→Prop),K (.string (bs (dg (n / 10)))) H→Does Tryz.prog 70 [.int .i64 ((n / 10:Nat):Int)] H K)
  {id:Nat} {Q:Ex→St→Hp→Prop} {s:St} (hs:∃mm,Sub cxTD mm s (TTD n (.inl (.a,.a)))) (hQ:Q .normal (TTD n (.inr true)) H):RawCode cxTD (.region id opsTD true) Q s H :=
 region_tree cxTD_ok cx_mix (TTD n) LA (.inl (.a,.a)) hs rfl (fun x=>by match x with | .inl (p,q)=>cases p<;>cases q<;>rfl | .inr true=>rfl | .inr false=>rfl) (fun x i hi=>stepTD hn hc x i hi) (fun x hx=>by rw[endTD x hx];exact hQ)
def opsGD:Array Oper:=#[
 {dst := some 16, op := .move (.tmp 0), type := 3, pos := "gauss.go:84", after := #[], guard := none },
 {dst := some 17, op := .binOp .quo 3 (.tmp 16) (.const (.int .i64 10)) 3, type := 3, pos := "gauss.go:84", after := #[{ on := 0, ground := .data }], guard := none },
 {dst := some 18, op := .call { callee := .value (.func 121), args := #[.tmp 17], argTypes := #[3] }, type := 9, pos := "gauss.go:84", after := #[{ on := 1, ground := .data }], guard := none },
 {dst := some 19, op := .move (.tmp 0), type := 3, pos := "gauss.go:84", after := #[], guard := none },
 {dst := some 20, op := .binOp .rem 3 (.tmp 19) (.const (.int .i64 10)) 3, type := 3, pos := "gauss.go:84", after := #[{ on := 3, ground := .data }], guard := none },
 {dst := some 21, op := .binOp .add 3 (.const (.int .i64 48)) (.tmp 20) 3, type := 3, pos := "gauss.go:84", after := #[{ on := 4, ground := .data }], guard := none },
 {dst := some 22, op := .convert 3 5 (.tmp 21), type := 5, pos := "gauss.go:84", after := #[{ on := 5, ground := .data }], guard := none },
 {dst := some 23, op := .buildSlice 153 1 #[(0, .tmp 22)], type := 153, pos := "gauss.go:84", after := #[{ on := 6, ground := .data }], guard := none },
 {dst := some 24, op := .convert 153 9 (.tmp 23), type := 9, pos := "gauss.go:84", after := #[{ on := 7, ground := .data }], guard := none },
 {dst := some 25, op := .binOp .add 9 (.tmp 18) (.tmp 24) 9, type := 9, pos := "gauss.go:84", after := #[{ on := 2, ground := .data }, { on := 8, ground := .data }], guard := none },
 {dst := some 2, op := .assign (.tmp 25), type := 9, pos := "gauss.go:84", after := #[{ on := 9, ground := .data }, { on := 2, ground := .chain }, { on := 0, ground := .phase }, { on := 1, ground := .phase }, { on := 2, ground := .phase }, { on := 3, ground := .phase }, { on := 4, ground := .phase }, { on := 5, ground := .phase }, { on := 6, ground := .phase }, { on := 7, ground := .phase }, { on := 8, ground := .phase }, { on := 9, ground := .phase }], guard := none }]
noncomputable abbrev cxGD:Cx:={ P:=cx.P,tt:=cx.tt,n:=26,wrap:=cx.wrap,base:=cx.base,gf:=cx.gf,eqs:=cx.eqs,xf:=cx.xf,rg:=cx.rg }
theorem cxGD_ok:TOK cxGD:=⟨cx_ok.tt,cx_ok.eqs⟩
def envAGD (n:Nat):PA→List (Nat×SV)
 | .a=>[]
 | .b=>[(16,.v (.int .i64 n))]
 | .c=>[(17,.v (.int .i64 ((n / 10:Nat):Int)))]
 | .d=>[(18,.v (.string (bs (dg (n / 10)))))]
def envBGD (n:Nat):PB→List (Nat×SV)
 | .a=>[]
 | .b=>[(19,.v (.int .i64 n))]
 | .c=>[(20,.v (.int .i64 ((n % 10:Nat):Int)))]
 | .d=>[(21,.v (.int .i64 ((48+n % 10:Nat):Int)))]
 | .e=>[(22,.v (.int .u8 ((48+n % 10:Nat):Int)))]
 | .f=>[(23,.own 0)]
 | .g=>[(24,.v (.string (bs [chrA n])))]
def bxBGD (n:Nat):PB→List (Nat×Bx)
 | .f=>[(0,.row 5 1 [[.int .u8 ((48+n % 10:Nat):Int)]])]
 | _=>[]
def TGD (n:Nat):XA→St
 | .inl (p,q)=>⟨[(0,.v (.int .i64 n))]++envAGD n p++envBGD n q,bxBGD n q,1⟩
 | .inr false=>⟨[(25,.v (.string (bs (dg (n / 10)++[chrA n]))))],[],1⟩
 | .inr true=>⟨[(2,.v (.string (bs (dg (n / 10)++[chrA n]))))],[],1⟩
theorem readyGD:∀x,Region.ready .any opsGD (LA x)=RA x
 | .inl (p,q)=>by cases p<;>cases q<;>decide +kernel
 | .inr false=>by decide +kernel
 | .inr true=>by decide +kernel
def NextGD (n:Nat) (H:Hp) (x:XA) (i:Nat):Prop:=∃o,opsGD[i]?=some o∧o.guard=none∧opE cxGD (TGD n x) o.op o.type H fun v' s' H'=>H'=H∧∃y mm,LA y=(LA x).setIfInBounds i true∧Sub cxGD mm (s'.put cxGD.n o.dst v') (TGD n y)
theorem nA0GD {n:Nat} {H:Hp}:∀q,NextGD n H (.inl (.a,q)) 0
 | .a=>⟨_,rfl,rfl,by
  refine⟨rfl,.inl (.b,.a),[(0,0)],rfl,?_⟩
  (repeat' (first|exact trivial|refine⟨?_,?_⟩|exact rfl|assumption))⟩
 | .b=>⟨_,rfl,rfl,by
  refine⟨rfl,.inl (.b,.b),[(0,0)],rfl,?_⟩
  (repeat' (first|exact trivial|refine⟨?_,?_⟩|exact rfl|assumption))⟩
 | .c=>⟨_,rfl,rfl,by
  refine⟨rfl,.inl (.b,.c),[(0,0)],rfl,?_⟩
  (repeat' (first|exact trivial|refine⟨?_,?_⟩|exact rfl|assumption))⟩
 | .d=>⟨_,rfl,rfl,by
  refine⟨rfl,.inl (.b,.d),[(0,0)],rfl,?_⟩
  (repeat' (first|exact trivial|refine⟨?_,?_⟩|exact rfl|assumption))⟩
 | .e=>⟨_,rfl,rfl,by
  refine⟨rfl,.inl (.b,.e),[(0,0)],rfl,?_⟩
  (repeat' (first|exact trivial|refine⟨?_,?_⟩|exact rfl|assumption))⟩
 | .f=>⟨_,rfl,rfl,by
  refine⟨rfl,.inl (.b,.f),[(0,0)],rfl,?_⟩
  (repeat' (first|exact trivial|refine⟨?_,?_⟩|exact rfl|assumption))⟩
 | .g=>⟨_,rfl,rfl,by
  refine⟨rfl,.inl (.b,.g),[(0,0)],rfl,?_⟩
  (repeat' (first|exact trivial|refine⟨?_,?_⟩|exact rfl|assumption))⟩
theorem nA1GD {n:Nat} {H:Hp} (hn:n<9223372036854775808):∀q,NextGD n H (.inl (.b,q)) 1
 | .a=>⟨_,rfl,rfl,by
  refine⟨by decide,quo_in hn,rfl,.inl (.c,.a),[(0,0)],rfl,?_⟩
  (repeat' (first|exact trivial|refine⟨?_,?_⟩|exact rfl|assumption))⟩
 | .b=>⟨_,rfl,rfl,by
  refine⟨by decide,quo_in hn,rfl,.inl (.c,.b),[(0,0)],rfl,?_⟩
  (repeat' (first|exact trivial|refine⟨?_,?_⟩|exact rfl|assumption))⟩
 | .c=>⟨_,rfl,rfl,by
  refine⟨by decide,quo_in hn,rfl,.inl (.c,.c),[(0,0)],rfl,?_⟩
  (repeat' (first|exact trivial|refine⟨?_,?_⟩|exact rfl|assumption))⟩
 | .d=>⟨_,rfl,rfl,by
  refine⟨by decide,quo_in hn,rfl,.inl (.c,.d),[(0,0)],rfl,?_⟩
  (repeat' (first|exact trivial|refine⟨?_,?_⟩|exact rfl|assumption))⟩
 | .e=>⟨_,rfl,rfl,by
  refine⟨by decide,quo_in hn,rfl,.inl (.c,.e),[(0,0)],rfl,?_⟩
  (repeat' (first|exact trivial|refine⟨?_,?_⟩|exact rfl|assumption))⟩
 | .f=>⟨_,rfl,rfl,by
  refine⟨by decide,quo_in hn,rfl,.inl (.c,.f),[(0,0)],rfl,?_⟩
  (repeat' (first|exact trivial|refine⟨?_,?_⟩|exact rfl|assumption))⟩
 | .g=>⟨_,rfl,rfl,by
  refine⟨by decide,quo_in hn,rfl,.inl (.c,.g),[(0,0)],rfl,?_⟩
  (repeat' (first|exact trivial|refine⟨?_,?_⟩|exact rfl|assumption))⟩
theorem nA2GD {n:Nat} {H:Hp} (hc:∀(K:Value→Hp→Prop),K (.string (bs (dg (n / 10)))) H→Does Tryz.prog 121 [.int .i64 ((n / 10:Nat):Int)] H K):∀q,NextGD n H (.inl (.c,q)) 2
 | .a=>⟨_,rfl,rfl,by
  refine hc _ ?_;refine⟨rfl,.inl (.d,.a),[(0,0)],rfl,?_⟩
  (repeat' (first|exact trivial|refine⟨?_,?_⟩|exact rfl|assumption))⟩
 | .b=>⟨_,rfl,rfl,by
  refine hc _ ?_;refine⟨rfl,.inl (.d,.b),[(0,0)],rfl,?_⟩
  (repeat' (first|exact trivial|refine⟨?_,?_⟩|exact rfl|assumption))⟩
 | .c=>⟨_,rfl,rfl,by
  refine hc _ ?_;refine⟨rfl,.inl (.d,.c),[(0,0)],rfl,?_⟩
  (repeat' (first|exact trivial|refine⟨?_,?_⟩|exact rfl|assumption))⟩
 | .d=>⟨_,rfl,rfl,by
  refine hc _ ?_;refine⟨rfl,.inl (.d,.d),[(0,0)],rfl,?_⟩
  (repeat' (first|exact trivial|refine⟨?_,?_⟩|exact rfl|assumption))⟩
 | .e=>⟨_,rfl,rfl,by
  refine hc _ ?_;refine⟨rfl,.inl (.d,.e),[(0,0)],rfl,?_⟩
  (repeat' (first|exact trivial|refine⟨?_,?_⟩|exact rfl|assumption))⟩
 | .f=>⟨_,rfl,rfl,by
  refine hc _ ?_;refine⟨rfl,.inl (.d,.f),[(0,0)],rfl,?_⟩
  (repeat' (first|exact trivial|refine⟨?_,?_⟩|exact rfl|assumption))⟩
 | .g=>⟨_,rfl,rfl,by
  refine hc _ ?_;refine⟨rfl,.inl (.d,.g),[(0,0)],rfl,?_⟩
  (repeat' (first|exact trivial|refine⟨?_,?_⟩|exact rfl|assumption))⟩
theorem nB0GD {n:Nat} {H:Hp}:∀p,NextGD n H (.inl (p,.a)) 3
 | .a=>⟨_,rfl,rfl,by
  refine⟨rfl,.inl (.a,.b),[(0,0)],rfl,?_⟩
  (repeat' (first|exact trivial|refine⟨?_,?_⟩|exact rfl|assumption))⟩
 | .b=>⟨_,rfl,rfl,by
  refine⟨rfl,.inl (.b,.b),[(0,0)],rfl,?_⟩
  (repeat' (first|exact trivial|refine⟨?_,?_⟩|exact rfl|assumption))⟩
 | .c=>⟨_,rfl,rfl,by
  refine⟨rfl,.inl (.c,.b),[(0,0)],rfl,?_⟩
  (repeat' (first|exact trivial|refine⟨?_,?_⟩|exact rfl|assumption))⟩
 | .d=>⟨_,rfl,rfl,by
  refine⟨rfl,.inl (.d,.b),[(0,0)],rfl,?_⟩
  (repeat' (first|exact trivial|refine⟨?_,?_⟩|exact rfl|assumption))⟩
theorem nB1GD {n:Nat} {H:Hp}:∀p,NextGD n H (.inl (p,.b)) 4
 | .a=>⟨_,rfl,rfl,by
  refine⟨by decide,rfl,.inl (.a,.c),[(0,0)],rfl,?_⟩
  (repeat' (first|exact trivial|refine⟨?_,?_⟩|exact rfl|assumption))⟩
 | .b=>⟨_,rfl,rfl,by
  refine⟨by decide,rfl,.inl (.b,.c),[(0,0)],rfl,?_⟩
  (repeat' (first|exact trivial|refine⟨?_,?_⟩|exact rfl|assumption))⟩
 | .c=>⟨_,rfl,rfl,by
  refine⟨by decide,rfl,.inl (.c,.c),[(0,0)],rfl,?_⟩
  (repeat' (first|exact trivial|refine⟨?_,?_⟩|exact rfl|assumption))⟩
 | .d=>⟨_,rfl,rfl,by
  refine⟨by decide,rfl,.inl (.d,.c),[(0,0)],rfl,?_⟩
  (repeat' (first|exact trivial|refine⟨?_,?_⟩|exact rfl|assumption))⟩
theorem nB2GD {n:Nat} {H:Hp}:∀p,NextGD n H (.inl (p,.c)) 5
 | .a=>⟨_,rfl,rfl,by
  refine⟨⟨by omega,by omega⟩,rfl,.inl (.a,.d),[(0,0)],rfl,?_⟩
  (repeat' (first|exact trivial|refine⟨?_,?_⟩|exact rfl|assumption))⟩
 | .b=>⟨_,rfl,rfl,by
  refine⟨⟨by omega,by omega⟩,rfl,.inl (.b,.d),[(0,0)],rfl,?_⟩
  (repeat' (first|exact trivial|refine⟨?_,?_⟩|exact rfl|assumption))⟩
 | .c=>⟨_,rfl,rfl,by
  refine⟨⟨by omega,by omega⟩,rfl,.inl (.c,.d),[(0,0)],rfl,?_⟩
  (repeat' (first|exact trivial|refine⟨?_,?_⟩|exact rfl|assumption))⟩
 | .d=>⟨_,rfl,rfl,by
  refine⟨⟨by omega,by omega⟩,rfl,.inl (.d,.d),[(0,0)],rfl,?_⟩
  (repeat' (first|exact trivial|refine⟨?_,?_⟩|exact rfl|assumption))⟩
theorem nB3GD {n:Nat} {H:Hp}:∀p,NextGD n H (.inl (p,.d)) 6
 | .a=>⟨_,rfl,rfl,by
  refine⟨⟨by omega,by omega⟩,rfl,.inl (.a,.e),[(0,0)],rfl,?_⟩
  (repeat' (first|exact trivial|refine⟨?_,?_⟩|exact rfl|assumption))⟩
 | .b=>⟨_,rfl,rfl,by
  refine⟨⟨by omega,by omega⟩,rfl,.inl (.b,.e),[(0,0)],rfl,?_⟩
  (repeat' (first|exact trivial|refine⟨?_,?_⟩|exact rfl|assumption))⟩
 | .c=>⟨_,rfl,rfl,by
  refine⟨⟨by omega,by omega⟩,rfl,.inl (.c,.e),[(0,0)],rfl,?_⟩
  (repeat' (first|exact trivial|refine⟨?_,?_⟩|exact rfl|assumption))⟩
 | .d=>⟨_,rfl,rfl,by
  refine⟨⟨by omega,by omega⟩,rfl,.inl (.d,.e),[(0,0)],rfl,?_⟩
  (repeat' (first|exact trivial|refine⟨?_,?_⟩|exact rfl|assumption))⟩
theorem nB4GD {n:Nat} {H:Hp}:∀p,NextGD n H (.inl (p,.e)) 7
 | .a=>⟨_,rfl,rfl,by
  refine⟨rfl,.inl (.a,.f),[(0,1)],rfl,?_⟩
  (repeat' (first|exact trivial|refine⟨?_,?_⟩|exact rfl|assumption))⟩
 | .b=>⟨_,rfl,rfl,by
  refine⟨rfl,.inl (.b,.f),[(0,1)],rfl,?_⟩
  (repeat' (first|exact trivial|refine⟨?_,?_⟩|exact rfl|assumption))⟩
 | .c=>⟨_,rfl,rfl,by
  refine⟨rfl,.inl (.c,.f),[(0,1)],rfl,?_⟩
  (repeat' (first|exact trivial|refine⟨?_,?_⟩|exact rfl|assumption))⟩
 | .d=>⟨_,rfl,rfl,by
  refine⟨rfl,.inl (.d,.f),[(0,1)],rfl,?_⟩
  (repeat' (first|exact trivial|refine⟨?_,?_⟩|exact rfl|assumption))⟩
theorem nB5GD {n:Nat} {H:Hp}:∀p,NextGD n H (.inl (p,.f)) 8
 | .a=>⟨_,rfl,rfl,by
  refine⟨[chrA n],chr_row n,rfl,.inl (.a,.g),[(0,0)],rfl,?_⟩
  (repeat' (first|exact trivial|refine⟨?_,?_⟩|exact rfl|assumption))⟩
 | .b=>⟨_,rfl,rfl,by
  refine⟨[chrA n],chr_row n,rfl,.inl (.b,.g),[(0,0)],rfl,?_⟩
  (repeat' (first|exact trivial|refine⟨?_,?_⟩|exact rfl|assumption))⟩
 | .c=>⟨_,rfl,rfl,by
  refine⟨[chrA n],chr_row n,rfl,.inl (.c,.g),[(0,0)],rfl,?_⟩
  (repeat' (first|exact trivial|refine⟨?_,?_⟩|exact rfl|assumption))⟩
 | .d=>⟨_,rfl,rfl,by
  refine⟨[chrA n],chr_row n,rfl,.inl (.d,.g),[(0,0)],rfl,?_⟩
  (repeat' (first|exact trivial|refine⟨?_,?_⟩|exact rfl|assumption))⟩
theorem nEGD {n:Nat} (hn:n<9223372036854775808) {H:Hp}:NextGD n H (.inl (.d,.g)) 9:=⟨_,rfl,rfl,by
  have h1:=dg_len20 (n:=n / 10) (by omega);refine⟨by show (dg (n / 10)).length+1≤_;omega,rfl,.inr false,[(0,0)],rfl,?_⟩
  (repeat' (first|exact trivial|refine⟨?_,?_⟩|exact rfl|assumption))⟩
theorem nFGD {n:Nat} {H:Hp}:NextGD n H (.inr false) 10:=⟨_,rfl,rfl,by
  refine⟨rfl,.inr true,[(0,0)],rfl,?_⟩
  (repeat' (first|exact trivial|refine⟨?_,?_⟩|exact rfl|assumption))⟩
theorem stepGD {n:Nat} (hn:n<9223372036854775808) {H:Hp} (hc:∀(K:Value→Hp→Prop),K (.string (bs (dg (n / 10)))) H→Does Tryz.prog 121 [.int .i64 ((n / 10:Nat):Int)] H K):
  ∀x,∀i∈Region.ready .any opsGD (LA x),NextGD n H x i:=by
 have ha:∀(p:PA) (q:PB),∀i∈nA p++nB q,NextGD n H (.inl (p,q)) i:=by
  intro p q i hi
  rcases List.mem_append.1 hi with hi | hi
  ·cases p
   ·rw[List.mem_singleton.1 hi];exact nA0GD q
   ·rw[List.mem_singleton.1 hi];exact nA1GD hn q
   ·rw[List.mem_singleton.1 hi];exact nA2GD hc q
   ·cases hi
  ·cases q
   ·rw[List.mem_singleton.1 hi];exact nB0GD p
   ·rw[List.mem_singleton.1 hi];exact nB1GD p
   ·rw[List.mem_singleton.1 hi];exact nB2GD p
   ·rw[List.mem_singleton.1 hi];exact nB3GD p
   ·rw[List.mem_singleton.1 hi];exact nB4GD p
   ·rw[List.mem_singleton.1 hi];exact nB5GD p
   ·cases hi
 intro x i hi;rw[readyGD x]at hi
 match x,hi with
 | .inl (.d,.g),hi=>rw[List.mem_singleton.1 hi];exact nEGD hn
 | .inl (.a,.a),hi=>exact ha _ _ i hi
 | .inl (.a,.b),hi=>exact ha _ _ i hi
 | .inl (.a,.c),hi=>exact ha _ _ i hi
 | .inl (.a,.d),hi=>exact ha _ _ i hi
 | .inl (.a,.e),hi=>exact ha _ _ i hi
 | .inl (.a,.f),hi=>exact ha _ _ i hi
 | .inl (.a,.g),hi=>exact ha _ _ i hi
 | .inl (.b,.a),hi=>exact ha _ _ i hi
 | .inl (.b,.b),hi=>exact ha _ _ i hi
 | .inl (.b,.c),hi=>exact ha _ _ i hi
 | .inl (.b,.d),hi=>exact ha _ _ i hi
 | .inl (.b,.e),hi=>exact ha _ _ i hi
 | .inl (.b,.f),hi=>exact ha _ _ i hi
 | .inl (.b,.g),hi=>exact ha _ _ i hi
 | .inl (.c,.a),hi=>exact ha _ _ i hi
 | .inl (.c,.b),hi=>exact ha _ _ i hi
 | .inl (.c,.c),hi=>exact ha _ _ i hi
 | .inl (.c,.d),hi=>exact ha _ _ i hi
 | .inl (.c,.e),hi=>exact ha _ _ i hi
 | .inl (.c,.f),hi=>exact ha _ _ i hi
 | .inl (.c,.g),hi=>exact ha _ _ i hi
 | .inl (.d,.a),hi=>exact ha _ _ i hi
 | .inl (.d,.b),hi=>exact ha _ _ i hi
 | .inl (.d,.c),hi=>exact ha _ _ i hi
 | .inl (.d,.d),hi=>exact ha _ _ i hi
 | .inl (.d,.e),hi=>exact ha _ _ i hi
 | .inl (.d,.f),hi=>exact ha _ _ i hi
 | .inr false,hi=>rw[List.mem_singleton.1 hi];exact nFGD
theorem endGD:∀x,Region.ready .any opsGD (LA x)=[]→x = .inr true
 | .inr true,_=>rfl
 | .inr false,h=>by rw[readyGD]at h;cases h
 | .inl (p,q),h=>by rw[readyGD]at h;cases p<;>cases q<;>cases h
theorem regionGD {n:Nat} (hn:n<9223372036854775808) {H:Hp} (hc:∀(K:Value→Hp→Prop),K (.string (bs (dg (n / 10)))) H→Does Tryz.prog 121 [.int .i64 ((n / 10:Nat):Int)] H K)
  {id:Nat} {Q:Ex→St→Hp→Prop} {s:St} (hs:∃mm,Sub cxGD mm s (TGD n (.inl (.a,.a)))) (hQ:Q .normal (TGD n (.inr true)) H):RawCode cxGD (.region id opsGD true) Q s H :=
 region_tree cxGD_ok cx_mix (TGD n) LA (.inl (.a,.a)) hs rfl (fun x=>by match x with | .inl (p,q)=>cases p<;>cases q<;>rfl | .inr true=>rfl | .inr false=>rfl) (fun x i hi=>stepGD hn hc x i hi) (fun x hx=>by rw[endGD x hx];exact hQ)
theorem tdig_spec:∀ {n:Nat},n<9223372036854775808→∀ {H:Hp} {K:Value→Hp→Prop},K (.string (bs (dg n))) H→Does Tryz.prog 70 [.int .i64 n] H K:=by
 intro n
 induction n using Nat.strongRecOn with
 | _ n ih =>
  intro hn H K hK;refine spec_of cx_ok cx_mix rfl Tryz.func70 Tryz.call70 Tryz.ntmps70 Tryz.results70 rfl rfl ?_;refine⟨fun h=>?_,fun h=>?_⟩
  ·have h1:n<10:=by have:=dt h;omega
   rw[dg_one h1]at hK;refine⟨⟨by omega,by omega⟩,⟨by omega,by omega⟩,[chrA n],?_,hK⟩;have e:=chr_row n;rw[Nat.mod_eq_of_lt h1]at e;exact e
  ·have h1:¬n<10:=by have:=df h;omega
   rw[dg_big h1]at hK;refine⟨none,regionTD hn (fun K' hk=>ih (n / 10) (by omega) (by omega) hk) ⟨[],?_⟩ ?_⟩
   ·(repeat' (first|exact trivial|refine⟨?_,?_⟩|exact rfl|assumption))
   ·exact hK
theorem gdig_nat:∀ {n:Nat},n<9223372036854775808→∀ {H:Hp} {K:Value→Hp→Prop},K (.string (bs (dg n))) H→Does Tryz.prog 121 [.int .i64 n] H K:=by
 intro n
 induction n using Nat.strongRecOn with
 | _ n ih =>
  intro hn H K hK;refine spec_of cx_ok cx_mix rfl Tryz.func121 Tryz.call121 Tryz.ntmps121 Tryz.results121 rfl rfl ?_;refine⟨fun h=>absurd (dt h) (by omega),fun _=>?_⟩;refine⟨fun h=>?_,fun h=>?_⟩
  ·have h1:n<10:=by have:=dt h;omega
   rw[dg_one h1]at hK;refine⟨⟨by omega,by omega⟩,⟨by omega,by omega⟩,[chrA n],?_,hK⟩;have e:=chr_row n;rw[Nat.mod_eq_of_lt h1]at e;exact e
  ·have h1:¬n<10:=by have:=df h;omega
   rw[dg_big h1]at hK;refine⟨none,regionGD hn (fun K' hk=>ih (n / 10) (by omega) (by omega) hk) ⟨[],?_⟩ ?_⟩
   ·(repeat' (first|exact trivial|refine⟨?_,?_⟩|exact rfl|assumption))
   ·exact hK
theorem gdig_nat' {x:Int} {n:Nat} (hx:x=n) (hn:n<9223372036854775808) {H:Hp} {K:Value→Hp→Prop} (hK:K (.string (bs (dg n))) H):Does Tryz.prog 121 [.int .i64 x] H K:=by
 subst hx;exact gdig_nat hn hK
theorem gdig_spec {n:Int} (hn : -9223372036854775807≤n∧n≤9223372036854775807) {H:Hp} {K:Value→Hp→Prop} (hK:K (.string (bs (dgS n))) H):Does Tryz.prog 121 [.int .i64 n] H K:=by
 by_cases h0:n<0
 ·rw[dgS,if_pos h0]at hK
  obtain⟨m,hm⟩:∃m:Nat,m=(0 - n).toNat:=⟨_,rfl⟩
  have h1:=dg_len20 (n:=m) (by omega);rw[←hm]at hK;refine spec_of cx_ok cx_mix rfl Tryz.func121 Tryz.call121 Tryz.ntmps121 Tryz.results121 rfl rfl ?_;refine⟨fun _=>?_,fun h=>absurd (df h) (by omega)⟩;refine⟨⟨by omega,by omega⟩,?_⟩;refine gdig_nat' (n:=m) (by omega) (by omega) ?_;exact⟨by show 1+(dg m).length≤_;omega,hK⟩
 ·rw[dgS,if_neg h0]at hK;exact gdig_nat' (n:=n.toNat) (by omega) (by omega) hK
theorem rdig_nat:∀ {n:Nat},n<9223372036854775808→∀ {H:Hp} {K:Value→Hp→Prop},K (.string (bs (dg n))) H→Does Tryz.prog 77 [.int .i64 n] H K:=by
 intro n
 induction n using Nat.strongRecOn with
 | _ n ih =>
  intro hn H K hK;have h1:=dg_len20 (n:=n / 10) (by omega);refine spec_of cx_ok cx_mix rfl Tryz.func77 Tryz.call77 Tryz.ntmps77 Tryz.results77 rfl rfl ?_;refine⟨fun h=>absurd (dt h) (by omega),fun _=>?_⟩;refine⟨by decide,?_⟩;refine⟨⟨by show _≤48+((n % 10:Nat):Int);omega,by show 48+((n % 10:Nat):Int)≤_;omega⟩,?_⟩;refine⟨⟨by show 0≤48+((n % 10:Nat):Int);omega,by show 48+((n % 10:Nat):Int)≤_;omega⟩,?_⟩;refine⟨[chrA n],chr_row n,?_⟩;refine⟨fun h=>?_,fun h=>?_⟩
  ·have h:=dt h;rw[dg_one (by omega)]at hK;exact hK
  ·have h:=df h;refine⟨by decide,quo_in hn,?_⟩;refine ih (n / 10) (by omega) (by omega) ?_;refine⟨by show (dg (n / 10)).length+1≤_;omega,?_⟩;rw[dg_big (by omega)]at hK;exact hK
theorem rdig_nat' {x:Int} {n:Nat} (hx:x=n) (hn:n<9223372036854775808) {H:Hp} {K:Value→Hp→Prop} (hK:K (.string (bs (dg n))) H):Does Tryz.prog 77 [.int .i64 x] H K:=by
 subst hx;exact rdig_nat hn hK
theorem rdig_spec {n:Int} (hn : -9223372036854775807≤n∧n≤9223372036854775807) {H:Hp} {K:Value→Hp→Prop} (hK:K (.string (bs (dgS n))) H):Does Tryz.prog 77 [.int .i64 n] H K:=by
 by_cases h0:n<0
 ·rw[dgS,if_pos h0]at hK
  obtain⟨m,hm⟩:∃m:Nat,m=(0 - n).toNat:=⟨_,rfl⟩
  have h1:=dg_len20 (n:=m) (by omega);rw[←hm]at hK;refine spec_of cx_ok cx_mix rfl Tryz.func77 Tryz.call77 Tryz.ntmps77 Tryz.results77 rfl rfl ?_;refine⟨fun _=>?_,fun h=>absurd (df h) (by omega)⟩;refine⟨⟨by omega,by omega⟩,?_⟩;refine rdig_nat' (n:=m) (by omega) (by omega) ?_;exact⟨by show 1+(dg m).length≤_;omega,hK⟩
 ·rw[dgS,if_neg h0]at hK;exact rdig_nat' (n:=n.toNat) (by omega) (by omega) hK
end Go.Proofs
end
section
/- Plain words: which programs may be. No program in sight. -/
namespace Go.Proofs
open Go.Sy
def za:Atm:=(⟨[]⟩,0,0)
def ze:Expr:=(0,za,za)
def isN (a:Nm):Bool:=decide (a=nOf a)
def atmB (a:Atm):Bool:=if a.1.l=[] then isN a.2 else nmB a.1.l&&decide (a.2=(0,0))
def op1 (k:Int):Bool:=decide (k=0)||decide (k=4)
def op2 (k:Int):Bool:=decide (k=1)||decide (k=2)||decide (k=3)
def atomsOf (x:Expr):List Atm:=if op1 x.1 then [x.2.1] else if op2 x.1 then [x.2.1,x.2.2] else []
def exprB (x:Expr):Bool:=if op1 x.1 then atmB x.2.1&&decide (x.2.2=za) else if op2 x.1 then atmB x.2.1&&atmB x.2.2 else false
def stmtB (s:Stmt):Bool:=if s.1=1 then nmB s.2.1.l&&exprB s.2.2 else if s.1=2 then nmB s.2.1.l&&decide (s.2.2=ze) else if s.1=3 then decide (s.2.1.l=[])&&decide (s.2.2.1=0)&&exprB s.2.2 else false
def termB (t:Term):Bool:=if t.1=1 then nmB t.2.2.1.l&&(decide (t.2.2.2.l=[])&&decide (t.2.1=za)) else if t.1=2 then nmB t.2.2.1.l&&nmB t.2.2.2.l&&atmB t.2.1 else if t.1=3 then decide (t.2.2.1.l=[])&&decide (t.2.2.2.l=[])&&decide (t.2.1=za) else false
def blockB (b:Block):Bool:=nmB b.1.l&&termB b.2.2&&b.2.1.all stmtB
def stmtsN (p:Prog):Nat:=(p.map fun b=>b.2.1.length).sum
def bnames (p:Prog):List Bs8:=p.map fun b=>b.1.l
def goes (t:Term):List Bs8:=if t.1=1 then [t.2.2.1.l] else if t.1=2 then [t.2.2.1.l,t.2.2.2.l] else []
def checkE (p:Prog):Int :=
 if p.length=0∨128<p.length∨512<stmtsN p then 6
 else if p.all blockB then
  if 64<(varsOf p).length then 6
  else if (bnames p).Nodup then
   if p.all fun b=>(goes b.2.2).all fun n=>decide (n∈bnames p) then 0 else 4
  else 5
 else 12
end Go.Proofs
end
section
namespace Go.Proofs
open Go.Sy
set_option maxRecDepth 20000
set_option maxHeartbeats 2000000
abbrev atmA (a:Atm):Value:=.agg #[.string (bs a.1.l),.int .i64 a.2.1,.int .i64 a.2.2]
abbrev exprA (x:Expr):Value:=.agg #[.int .i64 x.1,.string (bs x.2.1.1.l),.int .i64 x.2.1.2.1,.int .i64 x.2.1.2.2,.string (bs x.2.2.1.l),.int .i64 x.2.2.2.1,.int .i64 x.2.2.2.2]
theorem name_k {α:Type} {P:Prop} (x:α) (k:∀z,z=x→P):P:=k x rfl
theorem elem_k {α:Type} [Enc α] {P:Prop} {H:Hp} {a:Option Addr} {n c:Nat} {xs:List α} (h:RL H a n c xs) {i:Nat} {x:α} (hi:xs[i]?=some x) (k:∀ad cs,a=some ad→ElemH H ad (i:Int) (Enc.sz α) cs→Enc.R H cs x→P):P:=by
 obtain⟨ad,cs,h1,h2,h3⟩:=h.elem hi;exact k ad cs h1 h2 h3
theorem atom_k {P:Prop} {H:Hp} {a:Option Addr} {n c:Nat} {xs:List Atm} (h:RL H a n c xs) {i:Nat} {x:Atm} (hi:xs[i]?=some x) (k:∀ad,a=some ad→ElemH H ad (i:Int) 3 [.string (bs x.1.l),.int .i64 x.2.1,.int .i64 x.2.2]→atmR x→P):P :=
 elem_k h hi fun ad cs h1 h2 h3=>by
  obtain⟨rfl,h4⟩:=atm_open h3;exact k ad h1 h2 h4
theorem nnT {b:Bool} (h:(!b)=true):b=false:=by simpa using h
theorem nnF {b:Bool} (h:(!b)=false):b=true:=by simpa using h
theorem eqnil {s:List UInt8} (h:decide (sl (bs s)=sl (bs []))=true):s=[]:=dt h
theorem nenil {s:List UInt8} (h:decide (sl (bs s)=sl (bs []))=false):s≠[]:=df h
theorem gis_spec {a:Nm} {H:Hp} {K:Value→Hp→Prop} (hK:K (.bool (isN a)) H):Does Tryz.prog 174 [numV a] H K:=by
 refine spec_of cx_ok cx_mix rfl Tryz.func174 Tryz.call174 Tryz.ntmps174 Tryz.results174 rfl rfl ?_;refine⟨some ([1000000],[0,1,2,3,4,5,6,7]),by kernel_rfl,?_⟩;refine gof_spec ?_;exact kbool hK (by rw[isN,nOf,Bool.eq_iff_iff];simp [Prod.ext_iff])
theorem ratom_spec {a:Atm} (ha:atmR a) {H:Hp} {K:Value→Hp→Prop} (hK:K (.bool (atmB a)) H):Does Tryz.prog 83 [atmA a] H K:=by
 refine spec_of cx_ok cx_mix rfl Tryz.func83 Tryz.call83 Tryz.ntmps83 Tryz.results83 rfl rfl ?_;refine⟨fun h=>?_,fun h=>?_⟩
 ·have h1:a.1.l=[]:=eqnil h;refine⟨some ([1000000],[0,1,2,3,4,5,6,7,8,9,10]),by kernel_rfl,?_⟩;refine rof_spec ?_;exact kbool hK (by rw[atmB,if_pos h1,isN,nOf,Bool.eq_iff_iff];simp [Prod.ext_iff])
 ·have h1:a.1.l≠[]:=nenil h;refine refname2_spec ?_ ha.1;have e1:atmB a=(nmB a.1.l&&decide (a.2=(0,0))):=if_neg h1;refine⟨fun h=>?_,fun h=>?_⟩
  ·exact kbool hK (by rw[e1,h,Bool.eq_iff_iff];simp [Prod.ext_iff])
  ·exact kbool hK (by rw[e1,h];rfl)
theorem fine_spec {l:List Atm} {a:Option Addr} {n c:Nat} {H:Hp} {K:Value→Hp→Prop} (ha:RL H a n c l) (hK:K (.bool (l.all atmB)) H):Does Tryz.prog 166 [.slice a n c] H K:=by
 have hn:=ha.n_eq;have hmx:=ha.le;refine spec_of cx_ok cx_mix rfl Tryz.func166 Tryz.call166 Tryz.ntmps166 Tryz.results166 rfl rfl ?_
 refine⟨Nat,fun i=>⟨[(5,.v (.slice a n c)),(6,.v (.int .i64 n)),(7,.v (.int .i64 i))],[],0⟩,
  fun i H'=>H'=H∧i≤l.length∧(l.take i).all atmB=true,fun i=>l.length - i,⟨0,[],?_,rfl,Nat.zero_le _,rfl⟩,?_⟩
 ·(repeat' (first|exact trivial|refine⟨?_,?_⟩|exact rfl|assumption))
 rintro i H1 _ ⟨rfl,hi,hal⟩;refine⟨fun h=>?_,fun h=>?_⟩
 ·have hlt:i<l.length:=by have:=dt h;omega
  refine name_k l[i] fun x hx=>?_
  have hxx:l[i]?=some x:=by rw[hx];exact List.getElem?_eq_getElem hlt
  refine atom_k ha hxx fun ad q1 hh hr=>?_
  refine⟨ad,⟨by omega,by omega,q1⟩,?_⟩;refine⟨_,hh,?_⟩
  have hend:atmB x=false→K (.bool false) H1:=fun h=>by
   refine kbool hK ?_;rw[Bool.eq_false_iff];intro h2;rw[List.all_eq_true]at h2;rw[h2 x (List.mem_of_getElem? hxx)]at h;cases h
  have hgo:atmB x=true→(l.take (i+1)).all atmB=true:=fun h=>by
   rw[List.take_add_one,hxx,Option.toList_some,List.all_append,hal];simp [h]
  refine⟨fun h=>?_,fun h=>?_⟩
  ·have h1:x.1.l=[]:=eqnil h;have e1:atmB x=isN x.2:=if_pos h1;refine gis_spec ?_;refine⟨fun h=>?_,fun h=>?_⟩
   ·have hx2:atmB x=true:=by rw[e1];simpa using h
    refine⟨fun h=>absurd h1 (nenil (nnT h)),fun _=>?_⟩;refine⟨⟨by omega,by omega⟩,i+1,[],?_,⟨rfl,hlt,hgo hx2⟩,by dsimp only;omega⟩
    (repeat' (first|exact trivial|refine⟨?_,?_⟩|exact rfl|assumption))
   ·have hx2:atmB x=false:=by rw[e1];simpa using h
    exact hend hx2
  ·have h1:x.1.l≠[]:=nenil h;have e1:atmB x=(nmB x.1.l&&decide (x.2=(0,0))):=if_neg h1;refine⟨fun _=>?_,fun h=>absurd (eqnil (nnF h)) h1⟩;refine name2_spec ?_ hr.1;refine⟨fun h=>?_,fun h=>?_⟩
   ·have hnm:nmB x.1.l=true:=nnF (by assumption);refine⟨fun h=>?_,fun h=>?_⟩
    ·refine hend ?_;have h2:=h;rw[e1,hnm,Bool.true_and]
     refine decide_eq_false fun h3=>?_
     rw[h3]at h2;simp at h2
    ·have hx2:atmB x=true:=by
      have h2:=nnF h;rw[e1,hnm,Bool.true_and];refine decide_eq_true ?_
      simpa [Prod.ext_iff] using h2
     refine⟨⟨by omega,by omega⟩,i+1,[],?_,⟨rfl,hlt,hgo hx2⟩,by dsimp only;omega⟩
     (repeat' (first|exact trivial|refine⟨?_,?_⟩|exact rfl|assumption))
   ·have hnm:nmB x.1.l=false:=nnT h;exact hend (by rw[e1,hnm];rfl)
 ·have hil:i=l.length:=by have:=df h;omega
  refine kbool hK ?_;rw[←hal,hil,List.take_length]
end Go.Proofs
end
section
namespace Go.Proofs
open Go.Sy
set_option maxRecDepth 20000
set_option maxHeartbeats 2000000
theorem atm_mk {H:Hp} {a:Atm} (h:atmR a):Enc.R H (atmV a) a:=⟨[.string (bs a.1.l)],[.int .i64 a.2.1,.int .i64 a.2.2],rfl,⟨rfl,h.1⟩,[.int .i64 a.2.1],[.int .i64 a.2.2],rfl,⟨rfl,h.2.1⟩,⟨rfl,h.2.2⟩⟩
abbrev aRows (l:List Atm):List (List Value):=l.map atmV
theorem rc_aRows {H:Hp} {l:List Atm} (h:∀x∈l,atmR x):RC (α:=Atm) H (aRows l) l:=by
 refine⟨List.length_map _,fun i cs x h1 h2=>?_⟩;rw[List.getElem?_map,h2]at h1;simp only[Option.map_some,Option.some.injEq]at h1;rw[←h1];exact atm_mk (h x (List.mem_of_getElem? h2))
theorem atoms_row {H:Hp} {v:Value} {l:List Atm} (h:∀x∈l,atmR x) (hr:RowAt H v 3 (aRows l)):∃a n c,v = .slice a n c∧RL H a n c l:=RL.of_row (α:=Atm) hr (rc_aRows h)
theorem atomsOf_R {x:Expr} (h:exprR x):∀y∈atomsOf x,atmR y:=by
 intro y hy;rw[atomsOf]at hy;split at hy
 ·rw[List.mem_singleton]at hy;rw[hy];exact h.2.1
 ·split at hy
  ·rcases List.mem_cons.1 hy with rfl | hy
   ·exact h.2.1
   ·rw[List.mem_singleton]at hy;rw[hy];exact h.2.2
  ·cases hy
theorem rl_nil {α:Type} [Enc α] {H:Hp}:RL (α:=α) H none 0 0 []:=by
 obtain⟨a,n,c,e,h⟩:=RL.of_row (α:=α) (v:=.slice none 0 0) (css:=[]) (xs:=[]) (H:=H) ⟨none,0,rfl,⟨Nat.le_refl _,by omega⟩,by simp,.inl ⟨rfl,rfl⟩⟩ RC.nil;simp only[Value.slice.injEq]at e;obtain⟨rfl,rfl,rfl⟩:=e;exact h
theorem patoms_spec {x:Expr} (hx:exprR x) {H:Hp} {K:Value→Hp→Prop} (hK:∀a n c H',Le H H'→RL H' a n c (atomsOf x)→K (.slice a n c) H'):Does Tryz.prog 65 [exprA x] H K:=by
 refine spec_of cx_ok cx_mix rfl Tryz.func65 Tryz.call65 Tryz.ntmps65 Tryz.results65 rfl rfl ?_
 have hone:op1 x.1=true→atomsOf x=[x.2.1]:=fun h=>by rw[atomsOf,if_pos h]
 have htwo:op1 x.1=false→op2 x.1=true→atomsOf x=[x.2.1,x.2.2]:=fun h h2=>by rw[atomsOf,if_neg (by rw[h];decide),if_pos h2]
 have k1:op1 x.1=true→∀v H',Le H H'→RowAt H' v 3 [atmV x.2.1]→K v H':=fun h v H' hle hv=>by
  obtain⟨a,n,c,rfl,hr⟩:=atoms_row (l:=atomsOf x) (atomsOf_R hx) (by rw[hone h];exact hv);exact hK _ _ _ _ hle hr
 have k2:op1 x.1=false→op2 x.1=true→∀v H',Le H H'→RowAt H' v 3 [atmV x.2.1,atmV x.2.2]→K v H':=fun h h2 v H' hle hv=>by
  obtain⟨a,n,c,rfl,hr⟩:=atoms_row (l:=atomsOf x) (atomsOf_R hx) (by rw[htwo h h2];exact hv);exact hK _ _ _ _ hle hr
 refine⟨fun h=>?_,fun h=>?_⟩
 ·refine⟨fun _=>?_,fun h2=>(by rw[h]at h2;cases h2)⟩;intro v H' hle hv;exact k1 (by rw[op1,h];rfl) v H' hle.le hv
 ·have n0:=h;refine⟨fun h=>?_,fun h=>?_⟩
  ·intro v H' hle hv;exact k1 (by rw[op1,h,n0];rfl) v H' hle.le hv
  ·have n4:=h
   have no:op1 x.1=false:=by rw[op1,n0,n4];rfl
   refine⟨fun h=>?_,fun h=>?_⟩
   ·refine⟨fun _=>?_,fun h2=>(by rw[h]at h2;cases h2)⟩;intro v H' hle hv;exact k2 no (by rw[op2,h];rfl) v H' hle.le hv
   ·have n1:=h;refine⟨fun h=>?_,fun h=>?_⟩
    ·refine⟨fun _=>?_,fun h2=>(by rw[h]at h2;cases h2)⟩;intro v H' hle hv;exact k2 no (by rw[op2,h,n1];rfl) v H' hle.le hv
    ·have n2:=h;refine⟨fun h=>?_,fun h=>?_⟩
     ·intro v H' hle hv;exact k2 no (by rw[op2,h,n1,n2];rfl) v H' hle.le hv
     ·have nn:op2 x.1=false:=by rw[op2,n1,n2,h];rfl
      refine hK none 0 0 H (Le.refl H) ?_;rw[atomsOf,if_neg (by rw[no];decide),if_neg (by rw[nn];decide)];exact rl_nil
theorem ratoms_spec {x:Expr} (hx:exprR x) {H:Hp} {K:Value→Hp→Prop} (hK:∀a n c H',Le H H'→RL H' a n c (atomsOf x)→K (.slice a n c) H'):Does Tryz.prog 78 [exprA x] H K:=by
 refine spec_of cx_ok cx_mix rfl Tryz.func78 Tryz.call78 Tryz.ntmps78 Tryz.results78 rfl rfl ?_
 have hone:op1 x.1=true→atomsOf x=[x.2.1]:=fun h=>by rw[atomsOf,if_pos h]
 have htwo:op1 x.1=false→op2 x.1=true→atomsOf x=[x.2.1,x.2.2]:=fun h h2=>by rw[atomsOf,if_neg (by rw[h];decide),if_pos h2]
 have k1:op1 x.1=true→∀v H',Le H H'→RowAt H' v 3 [atmV x.2.1]→K v H':=fun h v H' hle hv=>by
  obtain⟨a,n,c,rfl,hr⟩:=atoms_row (l:=atomsOf x) (atomsOf_R hx) (by rw[hone h];exact hv);exact hK _ _ _ _ hle hr
 have k2:op1 x.1=false→op2 x.1=true→∀v H',Le H H'→RowAt H' v 3 [atmV x.2.1,atmV x.2.2]→K v H':=fun h h2 v H' hle hv=>by
  obtain⟨a,n,c,rfl,hr⟩:=atoms_row (l:=atomsOf x) (atomsOf_R hx) (by rw[htwo h h2];exact hv);exact hK _ _ _ _ hle hr
 refine⟨fun h=>?_,fun h=>?_⟩
 ·have n0:=h;refine⟨fun h=>?_,fun h=>?_⟩
  ·intro v H' hle hv;exact k1 (by rw[op1,h,n0];rfl) v H' hle.le hv
  ·have n4:=h
   have no:op1 x.1=false:=by rw[op1,n0,n4];rfl
   refine⟨fun h=>?_,fun h=>?_⟩
   ·have n1:=h;refine⟨fun h=>?_,fun h=>?_⟩
    ·have n2:=h;refine⟨fun h=>?_,fun h=>?_⟩
     ·intro v H' hle hv;exact k2 no (by rw[op2,h,n1,n2];rfl) v H' hle.le hv
     ·have nn:op2 x.1=false:=by rw[op2,n1,n2,h];rfl
      refine hK none 0 0 H (Le.refl H) ?_;rw[atomsOf,if_neg (by rw[no];decide),if_neg (by rw[nn];decide)];exact rl_nil
    ·intro v H' hle hv;exact k2 no (by rw[op2,h,n1];rfl) v H' hle.le hv
   ·intro v H' hle hv;exact k2 no (by rw[op2,h];rfl) v H' hle.le hv
 ·intro v H' hle hv;exact k1 (by rw[op1,h];rfl) v H' hle.le hv
end Go.Proofs
end
section
namespace Go.Proofs
open Go.Sy
set_option maxRecDepth 20000
set_option maxHeartbeats 2000000
theorem exprB_eq (x:Expr):exprB x=(decide (0<(atomsOf x).length)&&(atomsOf x).all atmB&&(decide ((atomsOf x).length=2)||decide (x.2.2=za))):=by
 rw[exprB,atomsOf]
 cases h1:op1 x.1 with
 | true=>simp
 | false =>
  cases h2:op2 x.1 with
  | true=>simp
  | false=>simp
theorem za_iff (a:Atm):(decide (sl (bs a.1.l)=sl (bs []))&&(decide (a.2.1=0)&&(decide (a.2.2=0)&&true)&&true))=decide (a=za):=by
 rw[Bool.eq_iff_iff];obtain⟨⟨s⟩,p,q⟩:=a;have:sl (bs [])=[]:=rfl;simp [za,sl_bs,this]
theorem pexpr_spec {x:Expr} (hx:exprR x) {H:Hp} {K:Value→Hp→Prop} (hK:∀H',Le H H'→K (.bool (exprB x)) H'):Does Tryz.prog 168 [exprA x] H K:=by
 have e:=exprB_eq x;refine spec_of cx_ok cx_mix rfl Tryz.func168 Tryz.call168 Tryz.ntmps168 Tryz.results168 rfl rfl ?_
 refine patoms_spec hx fun a n c H1 hle hr=>?_
 have hn:=hr.n_eq;have hK:=hK H1 hle;refine⟨fun h=>?_,fun h=>?_⟩
 ·have hpos:0<(atomsOf x).length:=by have:=dt h;omega
  refine fine_spec hr ?_;refine⟨fun h=>?_,fun h=>?_⟩
  ·have hf:(atomsOf x).all atmB=true:=h;refine⟨fun h=>?_,fun h=>?_⟩
   ·have h2:¬(atomsOf x).length=2:=by have:=df h;omega
    refine kbool hK ?_;rw[e,decide_eq_true hpos,hf,decide_eq_false h2];exact (za_iff x.2.2).symm
   ·have h2:(atomsOf x).length=2:=by have:=dt h;omega
    refine kbool hK ?_
    rw[e,decide_eq_true hpos,hf,h2];rfl
  ·have hf:(atomsOf x).all atmB=false:=h;refine kbool hK ?_
   rw[e,hf];simp
 ·have hz:(atomsOf x).length=0:=by have:=df h;omega
  refine kbool hK ?_
  rw[e,hz];rfl
theorem rexpr_spec {x:Expr} (hx:exprR x) {H:Hp} {K:Value→Hp→Prop} (hK:∀H',Le H H'→K (.bool (exprB x)) H'):Does Tryz.prog 84 [exprA x] H K:=by
 have e:=exprB_eq x;refine spec_of cx_ok cx_mix rfl Tryz.func84 Tryz.call84 Tryz.ntmps84 Tryz.results84 rfl rfl ?_
 refine ratoms_spec hx fun a n c H1 hle hr=>?_
 have hn:=hr.n_eq;have hmx:=hr.le;have hR:=atomsOf_R hx
 refine⟨Nat,fun i=>⟨[(1,.ptr 0 0),(3,.v (.slice a n c)),(8,.v (.slice a n c)),(9,.v (.int .i64 n)),(10,.v (.int .i64 i))],[(0,.cells 55 ([.int .i64 x.1,.string (bs x.2.1.1.l),.int .i64 x.2.1.2.1,.int .i64 x.2.1.2.2,.string (bs x.2.2.1.l),.int .i64 x.2.2.2.1,.int .i64 x.2.2.2.2].map .v))],1⟩,
  fun i H'=>H'=H1∧i≤(atomsOf x).length∧((atomsOf x).take i).all atmB=true,fun i=>(atomsOf x).length - i,⟨0,[(0,0)],?_,rfl,Nat.zero_le _,rfl⟩,?_⟩
 ·(repeat' (first|exact trivial|refine⟨?_,?_⟩|exact rfl|assumption))
 rintro i H2 _ ⟨rfl,hi,hal⟩;have hK:=hK H2 hle;refine⟨fun h=>?_,fun h=>?_⟩
 ·have hlt:i<(atomsOf x).length:=by have:=dt h;omega
  refine name_k (atomsOf x)[i] fun y hy=>?_
  have hyy:(atomsOf x)[i]?=some y:=by rw[hy];exact List.getElem?_eq_getElem hlt
  refine atom_k hr hyy fun ad q1 hh hry=>?_
  refine⟨ad,⟨by omega,by omega,q1⟩,?_⟩;refine⟨_,hh,?_⟩;refine ratom_spec hry ?_;refine⟨fun h=>?_,fun h=>?_⟩
  ·have hf:atmB y=false:=nnT h;refine kbool hK ?_
   have:(atomsOf x).all atmB=false:=by
    rw[Bool.eq_false_iff];intro h2;rw[List.all_eq_true]at h2;rw[h2 y (List.mem_of_getElem? hyy)]at hf;cases hf
   rw[e,this];simp
  ·have ht:atmB y=true:=nnF h
   have hgo:((atomsOf x).take (i+1)).all atmB=true:=by
    rw[List.take_add_one,hyy,Option.toList_some,List.all_append,hal];simp [ht]
   refine⟨⟨by omega,by omega⟩,i+1,[(0,0)],?_,⟨rfl,hlt,hgo⟩,by dsimp only;omega⟩
   (repeat' (first|exact trivial|refine⟨?_,?_⟩|exact rfl|assumption))
 ·have hil:i=(atomsOf x).length:=by have:=df h;omega
  have hf:(atomsOf x).all atmB=true:=by rw[←hal,hil,List.take_length]
  refine⟨fun h=>?_,fun h=>?_⟩
  ·have h2:¬(atomsOf x).length=2:=by have:=df h;omega
   refine⟨fun h=>?_,fun h=>?_⟩
   ·have hpos:0<(atomsOf x).length:=by have:=dt h;omega
    refine kbool hK ?_;rw[e,decide_eq_true hpos,hf,decide_eq_false h2];exact (za_iff x.2.2).symm
   ·have h1:¬(atomsOf x).length=1:=by have:=df h;omega
    have h3:(atomsOf x).length≤2:=by
     rw[atomsOf];split
     ·simp
     ·split<;>simp
    have hz:(atomsOf x).length=0:=by omega
    refine kbool hK ?_
    rw[e,hz];rfl
  ·have h2:(atomsOf x).length=2:=by have:=dt h;omega
   refine kbool hK ?_
   rw[e,hf,h2];rfl
end Go.Proofs
end
section
namespace Go.Proofs
open Go.Sy
set_option maxRecDepth 20000
set_option maxHeartbeats 2000000
abbrev stmtA (s:Stmt):Value:=.agg #[.int .i64 s.1,.string (bs s.2.1.l),.int .i64 s.2.2.1,.string (bs s.2.2.2.1.1.l),.int .i64 s.2.2.2.1.2.1,.int .i64 s.2.2.2.1.2.2,.string (bs s.2.2.2.2.1.l),.int .i64 s.2.2.2.2.2.1,.int .i64 s.2.2.2.2.2.2]
abbrev termA (t:Term):Value:=.agg #[.int .i64 t.1,.string (bs t.2.1.1.l),.int .i64 t.2.1.2.1,.int .i64 t.2.1.2.2,.string (bs t.2.2.1.l),.string (bs t.2.2.2.l)]
theorem k_ne {k j:Int} {α:Sort _} {x y:α} (h:decide (k=j)=false):(if k=j then x else y)=y:=if_neg (df h)
theorem k_eq {k j:Int} {α:Sort _} {x y:α} (h:decide (k=j)=true):(if k=j then x else y)=x:=if_pos (dt h)
theorem ze_iff (x:Expr):(decide (x.1=0)&&((decide (sl (bs x.2.1.1.l)=sl (bs []))&&(decide (x.2.1.2.1=0)&&(decide (x.2.1.2.2=0)&&true)&&true))&&((decide (sl (bs x.2.2.1.l)=sl (bs []))&&(decide (x.2.2.2.1=0)&&(decide (x.2.2.2.2=0)&&true)&&true))&&true)))=decide (x=ze):=by
 rw[za_iff,za_iff,Bool.eq_iff_iff];obtain⟨k,a,b⟩:=x;simp [ze]
theorem pstmt_spec {s:Stmt} (hs:stmtR s) {H:Hp} {K:Value→Hp→Prop} (hK:K (.bool (stmtB s)) H):Does Tryz.prog 141 [stmtA s] H K:=by
 refine spec_of cx_ok cx_mix rfl Tryz.func141 Tryz.call141 Tryz.ntmps141 Tryz.results141 rfl rfl ?_;refine⟨fun h=>?_,fun h=>?_⟩
 ·have e1:stmtB s=(nmB s.2.1.l&&exprB s.2.2):=k_eq h;refine name2_spec ?_ hs.2.1;refine⟨fun h=>?_,fun h=>?_⟩
  ·have hn:=h
   refine pexpr_spec hs.2.2 fun _ _=>?_
   exact kbool hK (by rw[e1,hn];rfl)
  ·exact kbool hK (by rw[e1,h];rfl)
 ·have n1:=h;refine⟨fun h=>?_,fun h=>?_⟩
  ·have e1:stmtB s=(nmB s.2.1.l&&decide (s.2.2=ze)):=(k_ne n1).trans (k_eq h);refine name2_spec ?_ hs.2.1;refine⟨fun h=>?_,fun h=>?_⟩
   ·exact kbool hK (by rw[e1,h,←ze_iff];rfl)
   ·exact kbool hK (by rw[e1,h];rfl)
  ·have n2:=h;refine⟨fun h=>?_,fun h=>?_⟩
   ·have e1:stmtB s=(decide (s.2.1.l=[])&&decide (s.2.2.1=0)&&exprB s.2.2):=(k_ne n1).trans ((k_ne n2).trans (k_eq h));refine⟨fun h=>?_,fun h=>?_⟩
    ·have m1:=eqnil h;refine⟨fun h=>?_,fun h=>?_⟩
     ·have m2:=h
      refine pexpr_spec hs.2.2 fun _ _=>?_
      exact kbool hK (by rw[e1,m2,m1];rfl)
     ·exact kbool hK (by rw[e1,h];simp)
    ·exact kbool hK (by rw[e1,decide_eq_false (nenil h)];rfl)
   ·exact kbool hK ((k_ne n1).trans ((k_ne n2).trans (k_ne h)))
theorem rstmt_spec {s:Stmt} (hs:stmtR s) {H:Hp} {K:Value→Hp→Prop} (hK:K (.bool (stmtB s)) H):Does Tryz.prog 45 [stmtA s] H K:=by
 refine spec_of cx_ok cx_mix rfl Tryz.func45 Tryz.call45 Tryz.ntmps45 Tryz.results45 rfl rfl ?_;refine⟨fun h=>?_,fun h=>?_⟩
 ·have e1:stmtB s=(nmB s.2.1.l&&exprB s.2.2):=k_eq h;refine refname2_spec ?_ hs.2.1;refine⟨fun h=>?_,fun h=>?_⟩
  ·have hn:=h
   refine rexpr_spec hs.2.2 fun _ _=>?_
   exact kbool hK (by rw[e1,hn];rfl)
  ·exact kbool hK (by rw[e1,h];rfl)
 ·have n1:=h;refine⟨fun h=>?_,fun h=>?_⟩
  ·have e1:stmtB s=(nmB s.2.1.l&&decide (s.2.2=ze)):=(k_ne n1).trans (k_eq h);refine refname2_spec ?_ hs.2.1;refine⟨fun h=>?_,fun h=>?_⟩
   ·exact kbool hK (by rw[e1,h,←ze_iff];rfl)
   ·exact kbool hK (by rw[e1,h];rfl)
  ·have n2:=h;refine⟨fun h=>?_,fun h=>?_⟩
   ·have e1:stmtB s=(decide (s.2.1.l=[])&&decide (s.2.2.1=0)&&exprB s.2.2):=(k_ne n1).trans ((k_ne n2).trans (k_eq h));refine⟨fun h=>?_,fun h=>?_⟩
    ·have m1:=eqnil h;refine⟨fun h=>?_,fun h=>?_⟩
     ·have m2:=h
      refine rexpr_spec hs.2.2 fun _ _=>?_
      exact kbool hK (by rw[e1,m2,m1];rfl)
     ·exact kbool hK (by rw[e1,h];simp)
    ·exact kbool hK (by rw[e1,decide_eq_false (nenil h)];rfl)
   ·exact kbool hK ((k_ne n1).trans ((k_ne n2).trans (k_ne h)))
end Go.Proofs
end
section
namespace Go.Proofs
open Go.Sy
set_option maxRecDepth 20000
set_option maxHeartbeats 2000000
theorem nil_iff (s:List UInt8):decide (sl (bs s)=sl (bs []))=decide (s=[]):=rfl
theorem t1_iff (t:Term):(decide (t.1=t.1)&&((decide (sl (bs t.2.1.1.l)=sl (bs []))&&(decide (t.2.1.2.1=0)&&(decide (t.2.1.2.2=0)&&true)&&true))&&(decide (sl (bs t.2.2.1.l)=sl (bs t.2.2.1.l))&&(decide (sl (bs t.2.2.2.l)=sl (bs []))&&true))))=(decide (t.2.2.2.l=[])&&decide (t.2.1=za)):=by
 rw[za_iff,nil_iff];simp [Bool.and_comm]
theorem t3_iff (t:Term):(decide (t.1=t.1)&&((decide (sl (bs t.2.1.1.l)=sl (bs []))&&(decide (t.2.1.2.1=0)&&(decide (t.2.1.2.2=0)&&true)&&true))&&(decide (sl (bs t.2.2.1.l)=sl (bs []))&&(decide (sl (bs t.2.2.2.l)=sl (bs []))&&true))))=(decide (t.2.2.1.l=[])&&decide (t.2.2.2.l=[])&&decide (t.2.1=za)):=by
 rw[za_iff,nil_iff,nil_iff,decide_eq_true (rfl:t.1=t.1),Bool.true_and,Bool.and_true,Bool.and_comm]
theorem pterm_spec {t:Term} (ht:termR t) {H:Hp} {K:Value→Hp→Prop} (hK:K (.bool (termB t)) H):Does Tryz.prog 138 [termA t] H K:=by
 refine spec_of cx_ok cx_mix rfl Tryz.func138 Tryz.call138 Tryz.ntmps138 Tryz.results138 rfl rfl ?_;refine⟨fun h=>?_,fun h=>?_⟩
 ·have e1:termB t=(nmB t.2.2.1.l&&(decide (t.2.2.2.l=[])&&decide (t.2.1=za))):=k_eq h;refine name2_spec ?_ ht.2.2.1;refine⟨fun h=>?_,fun h=>?_⟩
  ·exact kbool hK (by rw[e1,h,←t1_iff];rfl)
  ·exact kbool hK (by rw[e1,h];rfl)
 ·have n1:=h;refine⟨fun h=>?_,fun h=>?_⟩
  ·have e1:termB t=(nmB t.2.2.1.l&&nmB t.2.2.2.l&&atmB t.2.1):=(k_ne n1).trans (k_eq h);refine name2_spec ?_ ht.2.2.1;refine⟨fun h=>?_,fun h=>?_⟩
   ·have m1:=h;refine name2_spec ?_ ht.2.2.2;refine⟨fun h=>?_,fun h=>?_⟩
    ·have m2:=h;intro v H' hle hv;obtain⟨a,n,c,rfl,hr⟩:=atoms_row (l:=[t.2.1]) (fun x hx=>by rw[List.mem_singleton]at hx;rw[hx];exact ht.2.1) hv;refine fine_spec hr ?_;exact kbool hK (by rw[e1,m1,m2];simp)
    ·exact kbool hK (by rw[e1,h];simp)
   ·exact kbool hK (by rw[e1,h];rfl)
  ·have n2:=h;refine⟨fun h=>?_,fun h=>?_⟩
   ·have e1:termB t=(decide (t.2.2.1.l=[])&&decide (t.2.2.2.l=[])&&decide (t.2.1=za)):=(k_ne n1).trans ((k_ne n2).trans (k_eq h));exact kbool hK (by rw[e1,←t3_iff];rfl)
   ·exact kbool hK ((k_ne n1).trans ((k_ne n2).trans (k_ne h)))
theorem rterm_spec {t:Term} (ht:termR t) {H:Hp} {K:Value→Hp→Prop} (hK:K (.bool (termB t)) H):Does Tryz.prog 44 [termA t] H K:=by
 refine spec_of cx_ok cx_mix rfl Tryz.func44 Tryz.call44 Tryz.ntmps44 Tryz.results44 rfl rfl ?_;refine⟨fun h=>?_,fun h=>?_⟩
 ·have e1:termB t=(nmB t.2.2.1.l&&(decide (t.2.2.2.l=[])&&decide (t.2.1=za))):=k_eq h;refine refname2_spec ?_ ht.2.2.1;refine⟨fun h=>?_,fun h=>?_⟩
  ·have m1:=h;refine⟨fun h=>?_,fun h=>?_⟩
   ·have m2:=eqnil h;exact kbool hK (by rw[e1,m1,m2,←za_iff];rfl)
   ·exact kbool hK (by rw[e1,decide_eq_false (nenil h)];simp)
  ·exact kbool hK (by rw[e1,h];rfl)
 ·have n1:=h;refine⟨fun h=>?_,fun h=>?_⟩
  ·have e1:termB t=(nmB t.2.2.1.l&&nmB t.2.2.2.l&&atmB t.2.1):=(k_ne n1).trans (k_eq h);refine refname2_spec ?_ ht.2.2.1;refine⟨fun h=>?_,fun h=>?_⟩
   ·have m1:=h;refine refname2_spec ?_ ht.2.2.2;refine⟨fun h=>?_,fun h=>?_⟩
    ·have m2:=h;refine ratom_spec ht.2.1 ?_;exact kbool hK (by rw[e1,m1,m2];rfl)
    ·exact kbool hK (by rw[e1,h];simp)
   ·exact kbool hK (by rw[e1,h];rfl)
  ·have n2:=h;refine⟨fun h=>?_,fun h=>?_⟩
   ·have e1:termB t=(decide (t.2.2.1.l=[])&&decide (t.2.2.2.l=[])&&decide (t.2.1=za)):=(k_ne n1).trans ((k_ne n2).trans (k_eq h));refine⟨fun h=>?_,fun h=>?_⟩
    ·have m1:=eqnil h;refine⟨fun h=>?_,fun h=>?_⟩
     ·have m2:=eqnil h;exact kbool hK (by rw[e1,m1,m2,←za_iff];rfl)
     ·exact kbool hK (by rw[e1,decide_eq_false (nenil h)];simp)
    ·exact kbool hK (by rw[e1,decide_eq_false (nenil h)];rfl)
   ·exact kbool hK ((k_ne n1).trans ((k_ne n2).trans (k_ne h)))
end Go.Proofs
end
section
namespace Go.Proofs
open Go.Sy
set_option maxRecDepth 20000
set_option maxHeartbeats 2000000
def idxG {α:Type} (f:α→Bool):List α→Int→Int
 | [],_=>-1
 | x::r,i=>if f x then i else idxG f r (i+1)
theorem idxG_step {α:Type} {f:α→Bool} {l:List α} {i:Nat} (h:i<l.length):idxG f (l.drop i) i=if f l[i] then (i:Int) else idxG f (l.drop (i+1)) (i+1:Nat):=by
 rw[List.drop_eq_getElem_cons h,idxG];rfl
theorem idxG_any {α:Type} {f:α→Bool}:∀(l:List α) (i:Int),0≤i→decide (0≤idxG f l i)=l.any f
 | [],i,_=>by simp [idxG]
 | x::r,i,h=>by
  rw[idxG,List.any_cons];split
  ·rename_i h1;rw[h1,Bool.true_or,decide_eq_true h]
  ·rename_i h1;rw[idxG_any r (i+1) (by omega),Bool.eq_false_iff.2 h1,Bool.false_or]
theorem stmt_k {P:Prop} {H:Hp} {a:Option Addr} {n c:Nat} {xs:List Stmt} (h:RL H a n c xs) {i:Nat} {x:Stmt} (hi:xs[i]?=some x) (k:∀ad,a=some ad→ElemH H ad (i:Int) 9 [.int .i64 x.1,.string (bs x.2.1.l),.int .i64 x.2.2.1,.string (bs x.2.2.2.1.1.l),.int .i64 x.2.2.2.1.2.1,.int .i64 x.2.2.2.1.2.2,.string (bs x.2.2.2.2.1.l),.int .i64 x.2.2.2.2.2.1,.int .i64 x.2.2.2.2.2.2]→stmtR x→P):P :=
 elem_k h hi fun ad cs h1 h2 h3=>by
  obtain⟨rfl,h4⟩:=stmt_open h3;exact k ad h1 h2 h4
theorem badS_spec {s:Stmt} (hs:stmtR s) {H:Hp} {K:Value→Hp→Prop} (hK:K (.bool (!stmtB s)) H):Does Tryz.prog 140 [stmtA s] H K:=by
 refine spec_of cx_ok cx_mix rfl Tryz.func140 Tryz.call140 Tryz.ntmps140 Tryz.results140 rfl rfl ?_;refine pstmt_spec hs ?_;exact hK
theorem indexS_spec {l:List Stmt} {a:Option Addr} {n c:Nat} {H:Hp} {K:SV→St→Hp→Prop} (ha:RL H a n c l) (hK:K (.v (.int .i64 (idxG (fun s=>!stmtB s) l 0))) ⟨[],[],0⟩ H):DoesG Tryz.prog 167 [.v (.slice a n c),.fn 140 []] [] 0 H K:=by
 have hn1:=ha.n_eq;have hmx:=ha.le;refine spec_ofG cx_ok cx_mix Tryz.func167 Tryz.call167 Tryz.ntmps167 Tryz.results167 rfl rfl ?_
 refine⟨Nat,fun j=>⟨[(0,.v (.slice a n c)),(1,.fn 140 []),(7,.v (.int .i64 n)),(8,.v (.int .i64 j))],[],0⟩,
  fun j H'=>H'=H∧j≤l.length∧idxG (fun s=>!stmtB s) l 0=idxG (fun s=>!stmtB s) (l.drop j) j,fun j=>l.length - j,⟨0,[],?_,rfl,by omega,rfl⟩,?_⟩
 ·(repeat' (first|exact trivial|refine⟨?_,?_⟩|exact rfl|assumption))
 rintro j H1 _ ⟨rfl,hi,hx⟩;refine⟨fun h=>?_,fun h=>?_⟩
 ·have hlt:j<l.length:=by have:=dt h;omega
  rw[idxG_step hlt]at hx
  refine name_k l[j] fun x hxe=>?_
  have hxx:l[j]?=some x:=by rw[hxe];exact List.getElem?_eq_getElem hlt
  rw[←hxe]at hx
  refine stmt_k ha hxx fun ad q1 hh hr=>?_
  refine⟨ad,⟨by omega,by omega,q1⟩,?_⟩;refine⟨_,hh,?_⟩;refine badS_spec (s:=x) hr ?_;refine⟨fun h=>?_,fun h=>?_⟩
  ·rw[if_pos h]at hx;rw[hx]at hK;exact⟨.v (.int .i64 (j:Int)),[],0,[],by (repeat' (first|exact trivial|refine⟨?_,?_⟩|exact rfl|assumption)),hK⟩
  ·rw[if_neg (by rw[h];decide)]at hx;refine⟨⟨by omega,by omega⟩,j+1,[],?_,⟨rfl,by omega,hx⟩,by dsimp only;omega⟩
   (repeat' (first|exact trivial|refine⟨?_,?_⟩|exact rfl|assumption))
 ·have hil:j=l.length:=by have:=df h;omega
  rw[hil,List.drop_length,idxG]at hx;rw[hx]at hK;exact⟨.v (.int .i64 (-1)),[],0,[],by (repeat' (first|exact trivial|refine⟨?_,?_⟩|exact rfl|assumption)),hK⟩
theorem contS_spec {l:List Stmt} {a:Option Addr} {n c:Nat} {H:Hp} {K:SV→St→Hp→Prop} (ha:RL H a n c l) (hK:K (.v (.bool (l.any fun s=>!stmtB s))) ⟨[],[],0⟩ H):DoesG Tryz.prog 139 [.v (.slice a n c),.fn 140 []] [] 0 H K:=by
 rw[←idxG_any l 0 (Int.le_refl 0)]at hK;refine spec_ofG cx_ok cx_mix Tryz.func139 Tryz.call139 Tryz.ntmps139 Tryz.results139 rfl rfl ?_;refine⟨[],rfl,indexS_spec ha ?_⟩;exact⟨.v (.bool (decide (0≤idxG (fun s=>!stmtB s) l 0))),[],0,[],by (repeat' (first|exact trivial|refine⟨?_,?_⟩|exact rfl|assumption)),hK⟩
theorem not_any (l:List Stmt):(!(l.any fun s=>!stmtB s))=l.all stmtB:=by
 induction l with
 | nil=>rfl
 | cons x r ih=>rw[List.any_cons,List.all_cons,←ih];cases stmtB x<;>simp
abbrev blockA (b:Block) (a:Option Addr) (n c:Nat):Value:=.agg #[.string (bs b.1.l),.slice a n c,.int .i64 b.2.2.1,.string (bs b.2.2.2.1.1.l),.int .i64 b.2.2.2.1.2.1,.int .i64 b.2.2.2.1.2.2,.string (bs b.2.2.2.2.1.l),.string (bs b.2.2.2.2.2.l)]
theorem pblock_spec {b:Block} {a:Option Addr} {n c:Nat} {H:Hp} {K:Value→Hp→Prop} (hb:sR b.1) (ht:termR b.2.2) (hl:RL H a n c b.2.1) (hK:K (.bool (blockB b)) H):Does Tryz.prog 94 [blockA b a n c] H K:=by
 refine spec_of cx_ok cx_mix rfl Tryz.func94 Tryz.call94 Tryz.ntmps94 Tryz.results94 rfl rfl ?_;refine name2_spec ?_ hb;refine⟨fun h=>?_,fun h=>?_⟩
 ·have h1:=h;refine pterm_spec ht ?_;refine⟨fun h=>?_,fun h=>?_⟩
  ·have h2:=h;refine⟨[],rfl,contS_spec hl ?_⟩;exact kbool hK (by rw[blockB,h1,h2,←not_any];rfl)
  ·exact kbool hK (by rw[blockB,h];simp)
 ·exact kbool hK (by rw[blockB,h];rfl)
end Go.Proofs
end
section
namespace Go.Proofs
open Go.Sy
set_option maxRecDepth 20000
set_option maxHeartbeats 2000000
theorem block_k {P:Prop} {H:Hp} {a:Option Addr} {n c:Nat} {xs:Prog} (h:RL H a n c xs) {i:Nat} {x:Block} (hi:xs[i]?=some x) (k:∀ad a1 n1 c1,a=some ad→ElemH H ad (i:Int) 8 [.string (bs x.1.l),.slice a1 n1 c1,.int .i64 x.2.2.1,.string (bs x.2.2.2.1.1.l),.int .i64 x.2.2.2.1.2.1,.int .i64 x.2.2.2.1.2.2,.string (bs x.2.2.2.2.1.l),.string (bs x.2.2.2.2.2.l)]→RL H a1 n1 c1 x.2.1→sR x.1→termR x.2.2→P):P :=
 elem_k h hi fun ad cs h1 h2 h3=>by
  obtain⟨a1,n1,c1,rfl,h4,h5,h6⟩:=block_open h3;exact k ad a1 n1 c1 h1 h2 h4 h5 h6
theorem stmtsN_take {p:Prog} {i:Nat} {b:Block} (h:p[i]?=some b):stmtsN (p.take (i+1))=stmtsN (p.take i)+b.2.1.length:=by
 rw[stmtsN,List.take_add_one,h,Option.toList_some,List.map_append,List.sum_append];simp [stmtsN]
theorem stmtsN_le (p:Prog) (i:Nat):stmtsN (p.take i)≤stmtsN p:=by
 have h:p=p.take i++p.drop i:=(List.take_append_drop i p).symm;rw[stmtsN,stmtsN]
 conv=>rhs;rw[h,List.map_append,List.sum_append]
 omega
theorem stmts_spec {p:Prog} {a:Option Addr} {n c:Nat} {H:Hp} {K:Value→Hp→Prop} (ha:RL H a n c p) (hc:stmtsN p≤1000000) (hK:K (.int .i64 (stmtsN p)) H):Does Tryz.prog 93 [.agg #[.slice a n c]] H K:=by
 have hn:=ha.n_eq;have hmx:=ha.le;refine spec_of cx_ok cx_mix rfl Tryz.func93 Tryz.call93 Tryz.ntmps93 Tryz.results93 rfl rfl ?_
 refine⟨Nat,fun i=>⟨[(3,.v (.int .i64 (stmtsN (p.take i)))),(7,.v (.slice a n c)),(8,.v (.int .i64 n)),(9,.v (.int .i64 i))],[],0⟩,
  fun i H'=>H'=H∧i≤p.length,fun i=>p.length - i,⟨0,[],?_,rfl,Nat.zero_le _⟩,?_⟩
 ·(repeat' (first|exact trivial|refine⟨?_,?_⟩|exact rfl|assumption))
 rintro i H1 _ ⟨rfl,hi⟩;have hle:=stmtsN_le p i;refine⟨fun h=>?_,fun h=>?_⟩
 ·have hlt:i<p.length:=by have:=dt h;omega
  refine name_k p[i] fun b hbe=>?_
  have hbb:p[i]?=some b:=by rw[hbe];exact List.getElem?_eq_getElem hlt
  have hs:=stmtsN_take hbb;have hle2:=stmtsN_le p (i+1)
  refine block_k ha hbb fun ad a1 n1 c1 q1 hh hr1 _ _=>?_
  have hn1:=hr1.n_eq;refine⟨ad,⟨by omega,by omega,q1⟩,?_⟩;refine⟨_,hh,?_⟩;refine⟨⟨by omega,by omega⟩,?_⟩
  have e1:SV.v (.int .i64 ((stmtsN (p.take i):Int)+(n1:Int)))=SV.v (.int .i64 (stmtsN (p.take (i+1)):Int)):=by rw[hs,hn1];simp
  refine⟨⟨by omega,by omega⟩,i+1,[],?_,⟨rfl,hlt⟩,by dsimp only;omega⟩
  (repeat' (first|exact trivial|refine⟨?_,?_⟩|exact rfl|assumption))
 ·have hil:i=p.length:=by have:=df h;omega
  rw[hil,List.take_length];exact hK
theorem rstmts_spec {p:Prog} {a:Option Addr} {n c:Nat} {H:Hp} {K:Value→Hp→Prop} (ha:RL H a n c p) (hc:stmtsN p≤1000000) (hK:K (.int .i64 (stmtsN p)) H):Does Tryz.prog 42 [.agg #[.slice a n c]] H K:=by
 have hn:=ha.n_eq;have hmx:=ha.le;refine spec_of cx_ok cx_mix rfl Tryz.func42 Tryz.call42 Tryz.ntmps42 Tryz.results42 rfl rfl ?_
 refine⟨Nat,fun i=>⟨[(3,.v (.int .i64 (stmtsN (p.take i)))),(7,.v (.slice a n c)),(8,.v (.int .i64 n)),(9,.v (.int .i64 i))],[],0⟩,
  fun i H'=>H'=H∧i≤p.length,fun i=>p.length - i,⟨0,[],?_,rfl,Nat.zero_le _⟩,?_⟩
 ·(repeat' (first|exact trivial|refine⟨?_,?_⟩|exact rfl|assumption))
 rintro i H1 _ ⟨rfl,hi⟩;have hle:=stmtsN_le p i;refine⟨fun h=>?_,fun h=>?_⟩
 ·have hlt:i<p.length:=by have:=dt h;omega
  refine name_k p[i] fun b hbe=>?_
  have hbb:p[i]?=some b:=by rw[hbe];exact List.getElem?_eq_getElem hlt
  have hs:=stmtsN_take hbb;have hle2:=stmtsN_le p (i+1)
  refine block_k ha hbb fun ad a1 n1 c1 q1 hh hr1 _ _=>?_
  have hn1:=hr1.n_eq;refine⟨ad,⟨by omega,by omega,q1⟩,?_⟩;refine⟨_,hh,?_⟩;refine⟨⟨by omega,by omega⟩,?_⟩
  have e1:SV.v (.int .i64 ((stmtsN (p.take i):Int)+(n1:Int)))=SV.v (.int .i64 (stmtsN (p.take (i+1)):Int)):=by rw[hs,hn1];simp
  refine⟨⟨by omega,by omega⟩,i+1,[],?_,⟨rfl,hlt⟩,by dsimp only;omega⟩
  (repeat' (first|exact trivial|refine⟨?_,?_⟩|exact rfl|assumption))
 ·have hil:i=p.length:=by have:=df h;omega
  rw[hil,List.take_length];exact hK
theorem idxS_mem (t:Bs8):∀(l:List Bs8) (i:Int),0≤i→decide (0≤idxS t l i)=decide (t∈l)
 | [],i,_=>by simp [idxS]
 | x::r,i,h=>by
  rw[idxS];split
  ·rename_i h1;rw[decide_eq_true h,decide_eq_true (by rw[h1];exact List.mem_cons_self)]
  ·rename_i h1;rw[idxS_mem t r (i+1) (by omega),decide_eq_decide,List.mem_cons];exact⟨.inr,fun h2=>h2.resolve_left fun e=>h1 e.symm⟩
theorem contains_spec {l:List Bs8} {t:Bs8} {a:Option Addr} {n c:Nat} {H:Hp} {K:Value→Hp→Prop} (ha:RL H a n c (ens l)) (hK:K (.bool (decide (t∈l))) H):Does Tryz.prog 95 [.slice a n c,.string (bs t)] H K:=by
 refine spec_of cx_ok cx_mix rfl Tryz.func95 Tryz.call95 Tryz.ntmps95 Tryz.results95 rfl rfl ?_;refine index_spec ha ?_;exact kbool hK (idxS_mem t l 0 (Int.le_refl 0)).symm
theorem names_spec {t:Term} (ht:termR t) {H:Hp} {K:Value→Hp→Prop} (hK:∀a n c H',Le H H'→RL H' a n c (ens (goes t))→K (.slice a n c) H'):Does Tryz.prog 96 [termA t] H K:=by
 refine spec_of cx_ok cx_mix rfl Tryz.func96 Tryz.call96 Tryz.ntmps96 Tryz.results96 rfl rfl ?_
 have hin:∀s∈goes t,s.length≤9223372036854775807:=fun s hs=>by
  rw[goes]at hs;split at hs
  ·rw[List.mem_singleton]at hs;rw[hs];exact ht.2.2.1
  ·split at hs
   ·rcases List.mem_cons.1 hs with rfl | hs
    ·exact ht.2.2.1
    ·rw[List.mem_singleton]at hs;rw[hs];exact ht.2.2.2
   ·cases hs
 have hrow:∀v H',Le H H'→RowAt H' v 1 (sRows (goes t))→K v H':=fun v H' hle hv=>by
  obtain⟨a,n,c,rfl,hr⟩:=RL.of_row (α:=Str) hv (rc_sRows hin);exact hK _ _ _ _ hle hr
 refine⟨fun h=>?_,fun h=>?_⟩
 ·intro v H' hle hv;refine hrow v H' hle.le ?_
  rw[goes,k_eq h];exact hv
 ·have n1:=h;refine⟨fun h=>?_,fun h=>?_⟩
  ·intro v H' hle hv;refine hrow v H' hle.le ?_
   rw[goes,k_ne n1,k_eq h];exact hv
  ·refine hK none 0 0 H (Le.refl H) ?_;rw[goes,k_ne n1,k_ne h];exact rl_nil
end Go.Proofs
end
section
namespace Go.Proofs
open Go.Sy
set_option maxRecDepth 20000
set_option maxHeartbeats 4000000
theorem kint2 {K:Value→Hp→Prop} {H:Hp} {a b:Int} (h:K (.int .i64 a) H) (e:a=b):K (.int .i64 b) H:=e▸h
theorem contains_row {l:List Bs8} {t:Bs8} {v:Value} {H:Hp} {K:Value→Hp→Prop} (hx:RowAt H v 1 (sRows l)) (hl:∀s∈l,s.length≤9223372036854775807) (hK:K (.bool (decide (t∈l))) H):Does Tryz.prog 95 [v,.string (bs t)] H K:=by
 obtain⟨a,n,c,rfl,hr⟩:=RL.of_row (α:=Str) hx (rc_sRows hl);exact contains_spec hr hK
theorem pcheck_spec {p:Prog} {a:Option Addr} {n c:Nat} {H:Hp} {K:Value→Hp→Prop} (ha:RL H a n c p) (hc:stmtsN p≤1000000) (hv:cnt p<400000) (hK:∀H',Le H H'→K (.int .i64 (checkE p)) H'):Does Tryz.prog 51 [.agg #[.slice a n c]] H K:=by
 have hn:=ha.n_eq;have hmx:=ha.le
 have hin:∀s∈bnames p,s.length≤9223372036854775807:=fun s hs=>by
  obtain⟨b,hb,rfl⟩:=List.mem_map.1 hs;obtain⟨cs,hr⟩:=rl_mem ha hb;obtain⟨_,_,_,_,_,h,_⟩:=block_open hr;exact h
 have hbl:(bnames p).length=p.length:=List.length_map _;refine spec_of cx_ok cx_mix rfl Tryz.func51 Tryz.call51 Tryz.ntmps51 Tryz.results51 rfl rfl ?_;refine .inl ⟨1,?_⟩
 have h6:p.length=0∨128<p.length∨512<stmtsN p→checkE p=6:=fun h=>by rw[checkE,if_pos h]
 refine⟨fun h=>?_,fun h=>?_⟩
 ·have h1:¬p.length=0:=by have:=df h;omega
  refine⟨fun h=>?_,fun h=>?_⟩
  ·have h2:¬128<p.length:=by have:=df h;omega
   refine stmts_spec ha hc ?_;refine⟨fun h=>?_,fun h=>?_⟩
   ·exact kint2 (hK _ (Le.refl H)) (h6 (.inr (.inr (by have:=dt h;omega))))
   ·have h3:¬512<stmtsN p:=by have:=df h;omega
    have e1:checkE p=(if p.all blockB then (if 64<(varsOf p).length then 6 else if (bnames p).Nodup then (if p.all fun b=>(goes b.2.2).all fun n=>decide (n∈bnames p) then 0 else 4) else 5) else 12):=if_neg (fun h=>by rcases h with h | h | h<;>omega)
    have e12:∀b∈p,blockB b=false→checkE p=12:=fun b hb hf=>by
     rw[e1,if_neg];intro h;rw[List.all_eq_true]at h;rw[h b hb]at hf;cases hf
    refine⟨Nat,fun i=>⟨[(1,.ptr 0 0),(3,.v (.int .i64 12)),(4,.own 1),(29,.v (.slice a n c)),(30,.v (.int .i64 n)),(31,.v (.int .i64 i))],
      [(0,.cells 24 [.v (.slice a n c)]),(1,.row 9 1 (sRows ((bnames p).take i)))],2⟩,
     fun i H'=>H'=H∧i≤p.length∧(p.take i).all blockB=true,fun i=>p.length - i,⟨0,[(0,0)],?_,rfl,Nat.zero_le _,rfl⟩,?_⟩
    ·have e0:sRows ((bnames p).take 0)=[]:=rfl
     (repeat' (first|exact trivial|refine⟨?_,?_⟩|exact rfl|assumption))
    rintro i H1 _ ⟨rfl,hi,hal⟩;refine⟨fun h=>?_,fun h=>?_⟩
    ·have hlt:i<p.length:=by have:=dt h;omega
     refine name_k p[i] fun b hbe=>?_
     have hbb:p[i]?=some b:=by rw[hbe];exact List.getElem?_eq_getElem hlt
     refine block_k ha hbb fun ad a1 n1 c1 q1 hh hr1 hs1 ht1=>?_
     refine⟨ad,⟨by omega,by omega,q1⟩,?_⟩;refine⟨_,hh,?_⟩;refine pblock_spec hs1 ht1 hr1 ?_;refine⟨fun h=>?_,fun h=>?_⟩
     ·exact kint2 (hK _ (Le.refl _)) (e12 b (List.mem_of_getElem? hbb) (nnT h))
     ·have hbB:=nnF h
      have hgo:(p.take (i+1)).all blockB=true:=by
       rw[List.take_add_one,hbb,Option.toList_some,List.all_append,hal];simp [hbB]
      have hsl:(sRows ((bnames p).take i)).length≤1000:=by
       rw[List.length_map,List.length_take];omega
      have e2:sRows ((bnames p).take i)++[[Value.string (bs b.1.l)]]=sRows ((bnames p).take (i+1)):=by
       have h3:(bnames p)[i]?=some b.1.l:=by rw[bnames,List.getElem?_map,hbb];rfl
       rw[List.take_add_one,h3];simp
      refine⟨⟨by show ((sRows _).length+1)*16≤140737488355328;omega,by show (sRows _).length+1≤9223372036854775807;omega⟩,?_⟩;refine⟨⟨by omega,by omega⟩,i+1,[(0,0),(1,4)],?_,⟨rfl,hlt,hgo⟩,by dsimp only;omega⟩
      (repeat' (first|exact trivial|refine⟨?_,?_⟩|exact rfl|assumption))
    ·have hil:i=p.length:=by have:=df h;omega
     have hall:p.all blockB=true:=by rw[←hal,hil,List.take_length]
     have e3:checkE p=(if 64<(varsOf p).length then 6 else if (bnames p).Nodup then (if p.all fun b=>(goes b.2.2).all fun n=>decide (n∈bnames p) then 0 else 4) else 5):=by rw[e1,if_pos hall]
     refine pvars_spec ha hv fun a2 n2 c2 H2 hle2 hr2=>?_
     have hn2:=hr2.n_eq;rw[List.length_map]at hn2;refine⟨fun h=>?_,fun h=>?_⟩
     ·exact kint2 (hK _ hle2) (by rw[e3,if_pos (by have:=dt h;omega)])
     ·have h64:¬64<(varsOf p).length:=by have:=df h;omega
      have e4:checkE p=(if (bnames p).Nodup then (if p.all fun b=>(goes b.2.2).all fun n=>decide (n∈bnames p) then 0 else 4) else 5):=by rw[e3,if_neg h64]
      refine name_k (bnames p) fun N hN=>?_
      rw[←hN]at hin hbl e4;have hsl:(sRows N).length=N.length:=List.length_map _
      refine⟨Nat,fun j=>⟨[(1,.ptr 0 0),(3,.v (.int .i64 5)),(4,.own 1),(48,.own 1),(49,.v (.int .i64 (N.length:Nat))),(50,.v (.int .i64 j))],
        [(0,.cells 24 [.v (.slice a n c)]),(1,.row 9 1 (sRows N))],2⟩,
       fun j H'=>Le H2 H'∧j≤N.length∧(N.take j).Nodup,fun j=>N.length - j,⟨0,[(0,0),(1,1)],?_,Le.refl _,Nat.zero_le _,by simp⟩,?_⟩
      ·have e5:sRows ((bnames p).take i)=sRows N:=by rw[←hN,hil,←hbl,List.take_length]
       have e6:SV.v (.int .i64 (((sRows ((bnames p).take i)).length:Nat):Int))=SV.v (.int .i64 (N.length:Nat)):=by rw[e5,hsl]
       (repeat' (first|exact trivial|refine⟨?_,?_⟩|exact rfl|assumption))
      rintro j H3 hle3 ⟨_,hj,hnd⟩;refine⟨fun h=>?_,fun h=>?_⟩
      ·have hjl:j<N.length:=by have:=dt h;omega
       refine name_k N[j] fun t ht=>?_
       have hgt:(sRows N)[(j:Int).toNat]?=some [.string (bs t)]:=by rw[Int.toNat_natCast,List.getElem?_map,List.getElem?_eq_getElem hjl,ht];rfl
       refine⟨⟨by omega,by rw[hsl];omega⟩,?_⟩;refine⟨_,hgt,?_⟩;refine .inr ?_
       refine⟨by refine⟨?_,?_⟩<;>first | omega | (rw[hsl];omega) | (refine⟨by omega,?_⟩;rw[hsl];omega),?_⟩
       refine⟨by rw[hsl];omega,?_⟩;intro v w H4 hle4 hv4 hw4
       have hw5:RowAt H4 w 1 (sRows (N.take j)):=by
        have e7:List.take ((j:Int).toNat - Int.toNat 0) (List.drop (Int.toNat 0) (sRows N))=sRows (N.take j):=by
         rw[Int.toNat_natCast,show Int.toNat 0=0 from rfl,Nat.sub_zero,List.drop_zero,←List.map_take]
        rw[←e7];exact hw4
       refine contains_row hw5 (fun s hs=>hin s (List.mem_of_mem_take hs)) ?_;refine⟨fun h=>?_,fun h=>?_⟩
       ·have hmem:t∈N.take j:=dt h
        have hno:¬N.Nodup:=fun h2=>by
         obtain⟨k,hk,hkt⟩:=List.getElem_of_mem hmem;rw[List.length_take]at hk;rw[List.getElem_take,ht]at hkt;have:=(List.getElem_inj h2).1 hkt;omega
        exact kint2 (hK _ (hle2.trans hle3)) (by rw[e4,if_neg hno])
       ·have hmem:t ∉ N.take j:=df h
        have hnd2:(N.take (j+1)).Nodup:=by
         rw[List.take_succ_eq_append_getElem hjl,←ht,List.nodup_append];exact⟨hnd,by simp,fun x hx y hy e=>hmem (by rw[List.mem_singleton]at hy;rw[←hy,←e];exact hx)⟩
        refine⟨⟨by omega,by omega⟩,j+1,[(0,0),(1,1)],?_,⟨hle3,hjl,hnd2⟩,by dsimp only;omega⟩
        (repeat' (first|exact trivial|refine⟨?_,?_⟩|exact rfl|assumption))
      ·have hjl:j=N.length:=by have:=df h;omega
       rw[hjl,List.take_length]at hnd
       have e5:checkE p=(if p.all fun b=>(goes b.2.2).all fun n=>decide (n∈N) then 0 else 4):=by rw[e4,if_pos hnd]
       have e44:∀b∈p,(∃x∈goes b.2.2,x ∉ N)→checkE p=4:=fun b hb ⟨x,hx,hxn⟩=>by
        rw[e5,if_neg];intro h;rw[List.all_eq_true]at h;have h2:=h b hb;rw[List.all_eq_true]at h2;exact hxn (dt (h2 x hx))
       have hle03:=hle2.trans hle3
       refine⟨Nat,fun k=>⟨[(3,.v (.int .i64 4)),(4,.own 0),(62,.v (.slice a n c)),(63,.v (.int .i64 n)),(64,.v (.int .i64 k))],[(0,.row 9 1 (sRows N))],1⟩,
        fun k H'=>Le H3 H'∧k≤p.length∧((p.take k).all fun b=>(goes b.2.2).all fun n=>decide (n∈N))=true,fun k=>p.length - k,⟨0,[(0,1)],?_,Le.refl _,Nat.zero_le _,rfl⟩,?_⟩
       ·(repeat' (first|exact trivial|refine⟨?_,?_⟩|exact rfl|assumption))
       rintro k H4 hle4 ⟨_,hk,hal4⟩;refine⟨fun h=>?_,fun h=>?_⟩
       ·have hkl:k<p.length:=by have:=dt h;omega
        refine name_k p[k] fun b hbe=>?_
        have hbb:p[k]?=some b:=by rw[hbe];exact List.getElem?_eq_getElem hkl
        refine block_k (ha.up (hle03.trans hle4)) hbb fun ad a1 n1 c1 q1 hh hr1 hs1 ht1=>?_
        refine⟨ad,⟨by omega,by omega,q1⟩,?_⟩;refine⟨_,hh,?_⟩
        refine names_spec ht1 fun a5 n5 c5 H5 hle5 hr5=>?_
        have hn5:=hr5.n_eq;rw[List.length_map]at hn5;have hmx5:=hr5.le
        refine name_k (goes b.2.2) fun G hG=>?_
        rw[←hG]at hr5 hn5
        refine⟨Nat,fun q=>⟨[(3,.v (.int .i64 4)),(4,.own 0),(62,.v (.slice a n c)),(63,.v (.int .i64 n)),(64,.v (.int .i64 k)),(70,.v (.slice a5 n5 c5)),(71,.v (.int .i64 n5)),(72,.v (.int .i64 q))],[(0,.row 9 1 (sRows N))],1⟩,
         fun q H'=>Le H5 H'∧q≤G.length∧∀x∈G.take q,x∈N,fun q=>G.length - q,⟨0,[(0,0)],?_,Le.refl _,Nat.zero_le _,by simp⟩,?_⟩
        ·(repeat' (first|exact trivial|refine⟨?_,?_⟩|exact rfl|assumption))
        rintro q H6 hle6 ⟨_,hq,hal6⟩;refine⟨fun h=>?_,fun h=>?_⟩
        ·have hql:q<G.length:=by have:=dt h;omega
         refine name_k G[q] fun x hx=>?_
         have hxx:(ens G)[q]?=some ⟨x⟩:=by rw[ens_get hql,hx]
         refine elem_k (hr5.up hle6) hxx fun ad2 cs2 q2 hh2 hr2=>?_
         have hcs:cs2=[.string (bs x)]:=hr2.1;rw[hcs]at hh2;refine⟨ad2,⟨by omega,by omega,q2⟩,?_⟩;refine⟨_,hh2,?_⟩;intro v H7 hle7 hv7;refine contains_row hv7 hin ?_;have hle06:=((hle03.trans hle4).trans hle5).trans hle6;refine⟨fun h=>?_,fun h=>?_⟩
         ·have hxn:x ∉ N:=df (nnT h);exact kint2 (hK _ hle06) (e44 b (List.mem_of_getElem? hbb) ⟨x,by rw[←hG,hx];exact List.getElem_mem hql,hxn⟩)
         ·have hxn:x∈N:=dt (nnF h)
          have hgo:∀y∈G.take (q+1),y∈N:=fun y hy=>by
           rw[List.take_succ_eq_append_getElem hql,←hx]at hy
           rcases List.mem_append.1 hy with hy | hy
           ·exact hal6 y hy
           ·rw[List.mem_singleton]at hy;rw[hy];exact hxn
          refine⟨⟨by omega,by omega⟩,q+1,[(0,0)],?_,⟨hle6,hql,hgo⟩,by dsimp only;omega⟩
          (repeat' (first|exact trivial|refine⟨?_,?_⟩|exact rfl|assumption))
        ·have hql:q=G.length:=by have:=df h;omega
         rw[hql,List.take_length]at hal6
         have hgo:((p.take (k+1)).all fun b=>(goes b.2.2).all fun n=>decide (n∈N))=true:=by
          rw[List.take_add_one,hbb,Option.toList_some,List.all_append,hal4,Bool.true_and,List.all_cons,List.all_nil,Bool.and_true,List.all_eq_true]
          exact fun y hy=>decide_eq_true (hal6 y (by rw[hG];exact hy))
         refine⟨⟨by omega,by omega⟩,k+1,[(0,0)],?_,⟨(hle4.trans hle5).trans hle6,hkl,hgo⟩,by dsimp only;omega⟩
         (repeat' (first|exact trivial|refine⟨?_,?_⟩|exact rfl|assumption))
       ·have hkl:k=p.length:=by have:=df h;omega
        rw[hkl,List.take_length]at hal4;exact kint2 (hK _ (hle03.trans hle4)) (by rw[e5,if_pos hal4])
  ·have h2:128<p.length:=by have:=dt h;omega
   exact kint2 (hK _ (Le.refl H)) (h6 (.inr (.inl h2)))
 ·exact kint2 (hK _ (Le.refl H)) (h6 (.inl (by have:=dt h;omega)))
end Go.Proofs
end
section
namespace Go.Proofs
open Go.Sy
set_option maxRecDepth 20000
set_option maxHeartbeats 4000000
theorem has_spec {p:Prog} {a:Option Addr} {n c:Nat} {k:Nat} {s:Bs8} {H:Hp} {K:Value→Hp→Prop} (ha:RL H a n c p) (hk:k≤p.length) (hK:K (.bool (decide (s∈(bnames p).take k))) H):Does Tryz.prog 46 [.agg #[.slice a n c],.int .i64 k,.string (bs s)] H K:=by
 have hn:=ha.n_eq;have hmx:=ha.le;refine spec_of cx_ok cx_mix rfl Tryz.func46 Tryz.call46 Tryz.ntmps46 Tryz.results46 rfl rfl ?_;refine⟨⟨by omega,by omega,by omega,ha.2.1⟩,?_⟩;have hr:RL H (cutA a 0 c 8) (k - 0) (c - 0) ((p.take k).drop 0):=ha.cut (Nat.zero_le k) (by omega);rw[List.drop_zero]at hr
 refine⟨Nat,fun i=>⟨[(2,.v (.string (bs s))),(12,.v (.slice (cutA a 0 c 8) (k - 0) (c - 0))),(13,.v (.int .i64 k)),(14,.v (.int .i64 i))],[],0⟩,
  fun i H'=>H'=H∧i≤k∧s ∉ (bnames p).take i,fun i=>k - i,⟨0,[],?_,rfl,Nat.zero_le _,by simp⟩,?_⟩
 ·have e1:SV.v (.int .i64 (((k:Int).toNat - Int.toNat 0:Nat):Int))=SV.v (.int .i64 k):=by simp
  (repeat' (first|exact trivial|refine⟨?_,?_⟩|exact rfl|assumption))
 rintro i H1 _ ⟨rfl,hi,hno⟩;have hbl:(bnames p).length=p.length:=List.length_map _;refine⟨fun h=>?_,fun h=>?_⟩
 ·have hlt:i<k:=by have:=dt h;omega
  have hlp:i<p.length:=by omega
  refine name_k p[i] fun b hbe=>?_
  have hbb:(p.take k)[i]?=some b:=by rw[List.getElem?_take_of_lt hlt,hbe];exact List.getElem?_eq_getElem hlp
  have hnb:(bnames p)[i]?=some b.1.l:=by rw[bnames,List.getElem?_map,List.getElem?_eq_getElem hlp,←hbe];rfl
  refine block_k hr hbb fun ad a1 n1 c1 q1 hh hr1 hs1 ht1=>?_
  refine⟨ad,⟨by omega,by omega,q1⟩,?_⟩;refine⟨_,hh,?_⟩
  have hsn:(bnames p).take (i+1)=(bnames p).take i++[b.1.l]:=by rw[List.take_add_one,hnb];rfl
  refine⟨fun h=>?_,fun h=>?_⟩
  ·have he:b.1.l=s:=(sl_bs _).symm.trans ((dt h).trans (sl_bs _));refine kbool hK ?_;refine decide_eq_true ?_;rw[←he];exact List.mem_of_getElem? (by rw[List.getElem?_take_of_lt hlt];exact hnb)
  ·have he:b.1.l≠s:=fun e=>by
    have h2:=df h;rw[e]at h2;exact h2 rfl
   refine⟨⟨by omega,by omega⟩,i+1,[],?_,⟨rfl,hlt,?_⟩,by dsimp only;omega⟩
   ·(repeat' (first|exact trivial|refine⟨?_,?_⟩|exact rfl|assumption))
   ·rw[hsn,List.mem_append,List.mem_singleton];rintro (h1 | h1)
    ·exact hno h1
    ·exact he h1.symm
 ·have hik:i=k:=by have:=df h;omega
  rw[hik]at hno;exact kbool hK (decide_eq_false hno)
end Go.Proofs
end
section
namespace Go.Proofs
open Go.Sy
set_option maxRecDepth 20000
set_option maxHeartbeats 4000000
theorem rcheck_spec {p:Prog} {a:Option Addr} {n c:Nat} {H:Hp} {K:Value→Hp→Prop} (ha:RL H a n c p) (hc:stmtsN p≤1000000) (hv:cnt p<400000) (hK:∀H',Le H H'→K (.int .i64 (checkE p)) H'):Does Tryz.prog 12 [.agg #[.slice a n c]] H K:=by
 have hn:=ha.n_eq;have hmx:=ha.le;have hbl:(bnames p).length=p.length:=List.length_map _;refine spec_of cx_ok cx_mix rfl Tryz.func12 Tryz.call12 Tryz.ntmps12 Tryz.results12 rfl rfl ?_
 have h6:p.length=0∨128<p.length∨512<stmtsN p→checkE p=6:=fun h=>by rw[checkE,if_pos h]
 refine⟨fun h=>?_,fun h=>?_⟩
 ·have h1:¬p.length=0:=by have:=df h;omega
  refine⟨fun h=>?_,fun h=>?_⟩
  ·have h2:¬128<p.length:=by have:=df h;omega
   refine rstmts_spec ha hc ?_;refine⟨fun h=>?_,fun h=>?_⟩
   ·exact kint2 (hK _ (Le.refl H)) (h6 (.inr (.inr (by have:=dt h;omega))))
   ·have h3:¬512<stmtsN p:=by have:=df h;omega
    have e1:checkE p=(if p.all blockB then (if 64<(varsOf p).length then 6 else if (bnames p).Nodup then (if p.all fun b=>(goes b.2.2).all fun n=>decide (n∈bnames p) then 0 else 4) else 5) else 12):=if_neg (fun h=>by rcases h with h | h | h<;>omega)
    have e12:∀b∈p,blockB b=false→checkE p=12:=fun b hb hf=>by
     rw[e1,if_neg];intro h;rw[List.all_eq_true]at h;rw[h b hb]at hf;cases hf
    refine⟨Nat,fun i=>⟨[(1,.ptr 0 0),(27,.v (.slice a n c)),(28,.v (.int .i64 n)),(29,.v (.int .i64 i))],[(0,.cells 24 [.v (.slice a n c)])],1⟩,
     fun i H'=>H'=H∧i≤p.length∧(p.take i).all blockB=true,fun i=>p.length - i,⟨0,[(0,0)],?_,rfl,Nat.zero_le _,rfl⟩,?_⟩
    ·(repeat' (first|exact trivial|refine⟨?_,?_⟩|exact rfl|assumption))
    rintro i H1 _ ⟨rfl,hi,hal⟩;refine⟨fun h=>?_,fun h=>?_⟩
    ·have hlt:i<p.length:=by have:=dt h;omega
     refine name_k p[i] fun b hbe=>?_
     have hbb:p[i]?=some b:=by rw[hbe];exact List.getElem?_eq_getElem hlt
     have hbm:=List.mem_of_getElem? hbb
     refine block_k ha hbb fun ad a1 n1 c1 q1 hh hr1 hs1 ht1=>?_
     have hn1:=hr1.n_eq;have hmx1:=hr1.le;refine⟨ad,⟨by omega,by omega,q1⟩,?_⟩;refine⟨_,hh,?_⟩;refine refname2_spec ?_ hs1;refine⟨fun h=>?_,fun h=>?_⟩
     ·have hnm:=nnF h;refine rterm_spec ht1 ?_;refine⟨fun h=>?_,fun h=>?_⟩
      ·exact kint2 (hK _ (Le.refl _)) (e12 b hbm (by rw[blockB,nnT h];simp))
      ·have htm:=nnF h
       refine⟨Nat,fun j=>⟨[(1,.ptr 0 0),(27,.v (.slice a n c)),(28,.v (.int .i64 n)),(29,.v (.int .i64 i)),(44,.v (.slice a1 n1 c1)),(45,.v (.int .i64 n1)),(46,.v (.int .i64 j))],[(0,.cells 24 [.v (.slice a n c)])],1⟩,
        fun j H'=>H'=H1∧j≤b.2.1.length∧(b.2.1.take j).all stmtB=true,fun j=>b.2.1.length - j,⟨0,[(0,0)],?_,rfl,Nat.zero_le _,rfl⟩,?_⟩
       ·(repeat' (first|exact trivial|refine⟨?_,?_⟩|exact rfl|assumption))
       rintro j H2 _ ⟨rfl,hj,hal2⟩;refine⟨fun h=>?_,fun h=>?_⟩
       ·have hjl:j<b.2.1.length:=by have:=dt h;omega
        refine name_k b.2.1[j] fun s hse=>?_
        have hss:b.2.1[j]?=some s:=by rw[hse];exact List.getElem?_eq_getElem hjl
        refine stmt_k hr1 hss fun ad2 q2 hh2 hr2=>?_
        refine⟨ad2,⟨by omega,by omega,q2⟩,?_⟩;refine⟨_,hh2,?_⟩;refine rstmt_spec hr2 ?_;refine⟨fun h=>?_,fun h=>?_⟩
        ·refine kint2 (hK _ (Le.refl _)) (e12 b hbm ?_)
         have:b.2.1.all stmtB=false:=by
          rw[Bool.eq_false_iff];intro h4;rw[List.all_eq_true]at h4;have h5:=nnT h;rw[h4 s (List.mem_of_getElem? hss)]at h5;cases h5
         rw[blockB,this];simp
        ·have hgo:(b.2.1.take (j+1)).all stmtB=true:=by
          rw[List.take_add_one,hss,Option.toList_some,List.all_append,hal2];simp [nnF h]
         refine⟨⟨by omega,by omega⟩,j+1,[(0,0)],?_,⟨rfl,hjl,hgo⟩,by dsimp only;omega⟩
         (repeat' (first|exact trivial|refine⟨?_,?_⟩|exact rfl|assumption))
       ·have hjl:j=b.2.1.length:=by have:=df h;omega
        rw[hjl,List.take_length]at hal2
        have hgo:(p.take (i+1)).all blockB=true:=by
         rw[List.take_add_one,hbb,Option.toList_some,List.all_append,hal];simp [blockB,hnm,htm,hal2]
        refine⟨⟨by omega,by omega⟩,i+1,[(0,0)],?_,⟨rfl,hlt,hgo⟩,by dsimp only;omega⟩
        (repeat' (first|exact trivial|refine⟨?_,?_⟩|exact rfl|assumption))
     ·exact kint2 (hK _ (Le.refl _)) (e12 b hbm (by rw[blockB,nnT h];rfl))
    ·have hil:i=p.length:=by have:=df h;omega
     have hall:p.all blockB=true:=by rw[←hal,hil,List.take_length]
     have e3:checkE p=(if 64<(varsOf p).length then 6 else if (bnames p).Nodup then (if p.all fun b=>(goes b.2.2).all fun n=>decide (n∈bnames p) then 0 else 4) else 5):=by rw[e1,if_pos hall]
     refine rvars_spec ha hv fun a2 n2 c2 H2 hle2 hr2=>?_
     have hn2:=hr2.n_eq;rw[List.length_map]at hn2;refine⟨fun h=>?_,fun h=>?_⟩
     ·exact kint2 (hK _ hle2) (by rw[e3,if_pos (by have:=dt h;omega)])
     ·have h64:¬64<(varsOf p).length:=by have:=df h;omega
      have e4:checkE p=(if (bnames p).Nodup then (if p.all fun b=>(goes b.2.2).all fun n=>decide (n∈bnames p) then 0 else 4) else 5):=by rw[e3,if_neg h64]
      refine⟨Nat,fun j=>⟨[(1,.ptr 0 0),(60,.v (.slice a n c)),(61,.v (.int .i64 n)),(62,.v (.int .i64 j))],[(0,.cells 24 [.v (.slice a n c)])],1⟩,
       fun j H'=>Le H2 H'∧j≤p.length∧((bnames p).take j).Nodup,fun j=>p.length - j,⟨0,[(0,0)],?_,Le.refl _,Nat.zero_le _,by simp⟩,?_⟩
      ·(repeat' (first|exact trivial|refine⟨?_,?_⟩|exact rfl|assumption))
      rintro j H3 hle3 ⟨_,hj,hnd⟩;have hle03:=hle2.trans hle3;refine⟨fun h=>?_,fun h=>?_⟩
      ·have hjl:j<p.length:=by have:=dt h;omega
       refine name_k p[j] fun b hbe=>?_
       have hbb:p[j]?=some b:=by rw[hbe];exact List.getElem?_eq_getElem hjl
       have hnb:(bnames p)[j]?=some b.1.l:=by rw[bnames,List.getElem?_map,hbb];rfl
       refine block_k (ha.up hle03) hbb fun ad a1 n1 c1 q1 hh hr1 hs1 ht1=>?_
       refine⟨ad,⟨by omega,by omega,q1⟩,?_⟩;refine⟨_,hh,?_⟩;refine has_spec (k:=j) (ha.up hle03) (by omega) ?_;refine⟨fun h=>?_,fun h=>?_⟩
       ·have hmem:b.1.l∈(bnames p).take j:=dt h
        have hno:¬(bnames p).Nodup:=fun h2=>by
         obtain⟨k,hk,hkt⟩:=List.getElem_of_mem hmem;rw[List.length_take]at hk;rw[List.getElem_take]at hkt
         have hjb:j<(bnames p).length:=by omega
         have hje:(bnames p)[j]=b.1.l:=by
          rw[List.getElem?_eq_getElem hjb]at hnb
          simpa using hnb
         have:=(List.getElem_inj h2).1 (hkt.trans hje.symm);omega
        exact kint2 (hK _ hle03) (by rw[e4,if_neg hno])
       ·have hmem:b.1.l ∉ (bnames p).take j:=df h
        have hnd2:((bnames p).take (j+1)).Nodup:=by
         rw[List.take_add_one,hnb,Option.toList_some,List.nodup_append];exact⟨hnd,by simp,fun x hx y hy e=>hmem (by rw[List.mem_singleton]at hy;rw[←hy,←e];exact hx)⟩
        refine⟨⟨by omega,by omega⟩,j+1,[(0,0)],?_,⟨hle3,hjl,hnd2⟩,by dsimp only;omega⟩
        (repeat' (first|exact trivial|refine⟨?_,?_⟩|exact rfl|assumption))
      ·have hjl:j=p.length:=by have:=df h;omega
       rw[hjl,←hbl,List.take_length]at hnd
       have hNt:(bnames p).take n=bnames p:=by rw[hn,←hbl,List.take_length]
       have e5:checkE p=(if p.all fun b=>(goes b.2.2).all fun n=>decide (n∈bnames p) then 0 else 4):=by rw[e4,if_pos hnd]
       have e44:∀b∈p,(∃x∈goes b.2.2,x ∉ bnames p)→checkE p=4:=fun b hb ⟨x,hx,hxn⟩=>by
        rw[e5,if_neg];intro h;rw[List.all_eq_true]at h;have h2:=h b hb;rw[List.all_eq_true]at h2;exact hxn (dt (h2 x hx))
       refine⟨Nat,fun k=>⟨[(1,.ptr 0 0),(74,.v (.slice a n c)),(75,.v (.int .i64 n)),(76,.v (.int .i64 k))],[(0,.cells 24 [.v (.slice a n c)])],1⟩,
        fun k H'=>Le H3 H'∧k≤p.length∧((p.take k).all fun b=>(goes b.2.2).all fun n=>decide (n∈bnames p))=true,fun k=>p.length - k,⟨0,[(0,0)],?_,Le.refl _,Nat.zero_le _,rfl⟩,?_⟩
       ·(repeat' (first|exact trivial|refine⟨?_,?_⟩|exact rfl|assumption))
       rintro k H4 hle4 ⟨_,hk,hal4⟩;have hle04:=hle03.trans hle4;refine⟨fun h=>?_,fun h=>?_⟩
       ·have hkl:k<p.length:=by have:=dt h;omega
        refine name_k p[k] fun b hbe=>?_
        have hbb:p[k]?=some b:=by rw[hbe];exact List.getElem?_eq_getElem hkl
        have hbm:=List.mem_of_getElem? hbb
        have htm:termB b.2.2=true:=by
         rw[List.all_eq_true]at hall;have h5:=hall b hbm;rw[blockB,Bool.and_eq_true,Bool.and_eq_true]at h5;exact h5.1.2
        have hgo:(∀x∈goes b.2.2,x∈bnames p)→((p.take (k+1)).all fun b=>(goes b.2.2).all fun n=>decide (n∈bnames p))=true:=fun h5=>by
         rw[List.take_add_one,hbb,Option.toList_some,List.all_append,hal4,Bool.true_and,List.all_cons,List.all_nil,Bool.and_true,List.all_eq_true]
         exact fun y hy=>decide_eq_true (h5 y hy)
        refine block_k (ha.up hle04) hbb fun ad a1 n1 c1 q1 hh hr1 hs1 ht1=>?_
        refine⟨ad,⟨by omega,by omega,q1⟩,?_⟩;refine⟨_,hh,?_⟩;refine⟨fun h=>?_,fun h=>?_⟩
        ·have hk3:b.2.2.1≠3:=df (nnT h)
         have hto:b.2.2.2.2.1.l∈goes b.2.2:=by
          rw[goes]
          by_cases h1:b.2.2.1=1
          ·rw[if_pos h1];exact List.mem_cons_self
          ·rw[if_neg h1]
           by_cases h2:b.2.2.1=2
           ·rw[if_pos h2];exact List.mem_cons_self
           ·exfalso;rw[termB,if_neg h1,if_neg h2,if_neg hk3]at htm;cases htm
         refine has_spec (k:=n) (ha.up hle04) (by omega) ?_;rw[hNt];refine⟨fun h=>?_,fun h=>?_⟩
         ·have hm1:b.2.2.2.2.1.l∈bnames p:=dt (nnF h);refine⟨fun h=>?_,fun h=>?_⟩
          ·have hk2:b.2.2.1=2:=dt h
           have hg:goes b.2.2=[b.2.2.2.2.1.l,b.2.2.2.2.2.l]:=by rw[goes,if_neg (by rw[hk2];decide),if_pos hk2]
           refine has_spec (k:=n) (ha.up hle04) (by omega) ?_;rw[hNt];refine⟨fun h=>?_,fun h=>?_⟩
           ·have hm2:b.2.2.2.2.2.l ∉ bnames p:=df (nnT h);exact kint2 (hK _ hle04) (e44 b hbm ⟨_,by rw[hg];simp,hm2⟩)
           ·have hm2:b.2.2.2.2.2.l∈bnames p:=dt (nnF h)
            have hgo2:=hgo fun x hx=>by
             rw[hg]at hx
             rcases List.mem_cons.1 hx with rfl | hx
             ·exact hm1
             ·rw[List.mem_singleton]at hx;rw[hx];exact hm2
            refine⟨⟨by omega,by omega⟩,k+1,[(0,0)],?_,⟨hle4,hkl,hgo2⟩,by dsimp only;omega⟩
            (repeat' (first|exact trivial|refine⟨?_,?_⟩|exact rfl|assumption))
          ·have hk2:¬b.2.2.1=2:=df h
           have hgo2:=hgo fun x hx=>by
            rw[goes]at hx;split at hx
            ·rw[List.mem_singleton]at hx;rw[hx];exact hm1
            ·first | cases hx | (rw[if_neg hk2]at hx;cases hx)
           refine⟨⟨by omega,by omega⟩,k+1,[(0,0)],?_,⟨hle4,hkl,hgo2⟩,by dsimp only;omega⟩
           (repeat' (first|exact trivial|refine⟨?_,?_⟩|exact rfl|assumption))
         ·have hm1:b.2.2.2.2.1.l ∉ bnames p:=df (nnT h);exact kint2 (hK _ hle04) (e44 b hbm ⟨_,hto,hm1⟩)
        ·have hk3:b.2.2.1=3:=dt (nnF h)
         have hgo2:=hgo fun x hx=>by
          rw[goes,if_neg (by rw[hk3];decide),if_neg (by rw[hk3];decide)]at hx;cases hx
         refine⟨fun h=>absurd (dt h) (by rw[hk3];decide),fun _=>?_⟩;refine⟨⟨by omega,by omega⟩,k+1,[(0,0)],?_,⟨hle4,hkl,hgo2⟩,by dsimp only;omega⟩
         (repeat' (first|exact trivial|refine⟨?_,?_⟩|exact rfl|assumption))
       ·have hkl:k=p.length:=by have:=df h;omega
        rw[hkl,List.take_length]at hal4;exact kint2 (hK _ hle04) (by rw[e5,if_pos hal4])
  ·have h2:128<p.length:=by have:=dt h;omega
   exact kint2 (hK _ (Le.refl H)) (h6 (.inr (.inl h2)))
 ·exact kint2 (hK _ (Le.refl H)) (h6 (.inl (by have:=dt h;omega)))
end Go.Proofs
end
section
namespace Go.Proofs
open Go.Sy
set_option maxRecDepth 20000
set_option maxHeartbeats 4000000
end Go.Proofs
end
section
namespace Go.Proofs
open Go.Sy
set_option maxRecDepth 20000
set_option maxHeartbeats 4000000
theorem LeN.base {e:TypeId} {sz:Nat} {xs:List (List Value)} {H H1 H':Hp} {x:Value} (hle:Le H H1) (h:LeN e sz xs H1 x H'):LeN e sz xs H x H':=by
 refine⟨hle.trans h.le,?_⟩
 rcases h.new with h1 | ⟨g,cap,c,h1,h2,h3⟩
 ·exact .inl h1
 ·refine .inr ⟨g,cap,c,h1,?_,h3⟩
  cases hg:H g with
  | none=>rfl
  | some o=>rw[hle _ _ hg]at h2;cases h2
theorem term_mk {H:Hp} {t:Term} (h:termR t):Enc.R H (termV t) t :=
 ⟨[.int .i64 t.1],atmV t.2.1++[.string (bs t.2.2.1.l),.string (bs t.2.2.2.l)],rfl,⟨rfl,h.1⟩,atmV t.2.1,[.string (bs t.2.2.1.l),.string (bs t.2.2.2.l)],rfl,atm_mk h.2.1,[.string (bs t.2.2.1.l)],[.string (bs t.2.2.2.l)],rfl,⟨rfl,h.2.2.1⟩,⟨rfl,h.2.2.2⟩⟩
theorem block_mk {H:Hp} {b:Block} {a:Option Addr} {n c:Nat} (hl:RL H a n c b.2.1) (hs:sR b.1) (ht:termR b.2.2):Enc.R H (.string (bs b.1.l) :: .slice a n c::termV b.2.2) b :=
 ⟨[.string (bs b.1.l)],.slice a n c::termV b.2.2,rfl,⟨rfl,hs⟩,[.slice a n c],termV b.2.2,rfl,⟨a,n,c,rfl,hl⟩,term_mk ht⟩
end Go.Proofs
end
section
namespace Go.Proofs
open Go.Sy
set_option maxRecDepth 20000
set_option maxHeartbeats 4000000
end Go.Proofs
end
section
namespace Go.Proofs
open Go.Sy
set_option maxRecDepth 20000
set_option maxHeartbeats 4000000
end Go.Proofs
end
section
namespace Go.Proofs
open Go.Sy
set_option maxRecDepth 20000
set_option maxHeartbeats 4000000
theorem int_k {P:Prop} {H:Hp} {a:Option Addr} {n c:Nat} {xs:List Int} (h:RL H a n c xs) {i:Nat} {x:Int} (hi:xs[i]?=some x) (k:∀ad,a=some ad→ElemH H ad (i:Int) 1 [.int .i64 x]→P):P:=by
 obtain⟨ad,cs,h1,h2,rfl,_⟩:=h.elem hi;exact k ad h1 h2
end Go.Proofs
end
