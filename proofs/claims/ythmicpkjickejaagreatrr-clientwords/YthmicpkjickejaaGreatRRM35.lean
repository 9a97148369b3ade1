/- Part 'M35' of the proof (Lv6, Lv7, Lv8, Lv9, Lv10, Lv11, Lv12, Lr1): lemmas, each with its own conditions in its own statement. -/
import Derived.Test.YthmicpkjickejaaGreatRRM28
import Derived.Test.YthmicpkjickejaaGreatRRM29
import Derived.Test.YthmicpkjickejaaGreatRRM31
import Derived.Test.YthmicpkjickejaaGreatRRM33
import Derived.Test.YthmicpkjickejaaGreatRRM34
section
namespace Go.Proofs
open Go.Sy
set_option maxRecDepth 20000
set_option maxHeartbeats 4000000
end Go.Proofs
end
section
namespace Go.Proofs
open Go.Sy
set_option maxRecDepth 20000
set_option maxHeartbeats 4000000
end Go.Proofs
end
section
namespace Go.Proofs
open Go.Sy
set_option maxRecDepth 20000
set_option maxHeartbeats 4000000
def firstS (v:Bs8) (t:Term):List Stmt→Int
 | []=>if t.1=2∧t.2.1.1.l=v then 1 else 0
 | s::r=>if v∈usesS s then 1 else if s.1≠3∧s.2.1.l=v then 2 else firstS v t r
def genL (V:List Bs8) (b:Block) (i:Nat):List Int:=((List.range i).filter fun k=>decide (firstS (V[k]?.getD []) b.2.2 b.2.1=1)).map fun k:Nat=>(k:Int)
def killK (V:List Bs8) (l:List Stmt) (k:Nat):List Int:=(l.filter fun x=>decide (x.1≠3∧x.2.1.l=V[k]?.getD [])).map fun _=>(k:Int)
def killL (V:List Bs8) (b:Block) (i:Nat):List Int:=(List.range i).flatMap (killK V b.2.1)
def rtrF (V:List Bs8) (b:Block):Wd×Wd:=(ofB V.length (genL V b V.length),ofB V.length (killL V b V.length))
theorem idxS_is {V:List Bs8} (hV:SortedS V) {m:Nat} {v:Bs8} (hm:V[m]?=some v) (t:Bs8):idxS t V 0=(m:Int)↔t=v:=by
 have hnd:∀(i j:Nat) (x:Bs8),V[i]?=some x→V[j]?=some x→i=j:=fun i j x hi hj=>by
  obtain⟨h1,rfl⟩:=List.getElem?_eq_some_iff.1 hi;obtain⟨h2,h3⟩:=List.getElem?_eq_some_iff.1 hj
  rcases Nat.lt_trichotomy i j with h | h | h
  ·have:=List.pairwise_iff_getElem.1 hV i j h1 h2 h;rw[h3]at this;exact absurd this (slt_irrefl _)
  ·exact h
  ·have:=List.pairwise_iff_getElem.1 hV j i h2 h1 h;rw[h3]at this;exact absurd this (slt_irrefl _)
 constructor
 ·intro h;have hin:t∈V:=idxS_some (Int.le_refl 0) (by omega);have h2:=(idxS_at t V 0 (Int.le_refl 0) hin).2.2;rw[h,show ((m:Int) - 0).toNat=m by omega,hm]at h2;exact (Option.some.inj h2).symm
 ·rintro rfl;have hin:t∈V:=List.mem_of_getElem? hm;have h1:=idxS_at t V 0 (Int.le_refl 0) hin;have:=hnd _ _ _ h1.2.2 hm;omega
theorem bit_one1 {V:List Bs8} (hV:SortedS V) {m:Nat} {v:Bs8} (hm:V[m]?=some v) (t:Bs8):bitAt (oneV V t) m=decide (t=v):=by
 have hlt:=(List.getElem?_eq_some_iff.1 hm).1;rw[oneV,bit_of]
 by_cases h:t=v
 ·rw[decide_eq_true h];refine decide_eq_true ⟨hlt,?_⟩;rw[List.mem_singleton];exact ((idxS_is hV hm t).2 h).symm
 ·rw[decide_eq_false h]
  refine decide_eq_false fun h2=>h ((idxS_is hV hm t).1 ?_)
  exact (List.mem_singleton.1 h2.2).symm
theorem bit_use {V:List Bs8} (hV:SortedS V) {m:Nat} {v:Bs8} (hm:V[m]?=some v) {k:Wd} (hk:okB V.length k):∀(l:List Bs8) {g:Wd},okB V.length g→bitAt (useF V k g l) m=(bitAt g m||(decide (v∈l)&&!bitAt k m))
 | [],g,_=>by simp [useF]
 | t::r,g,hg=>by
  have hd:=bDiff_ok (oneV_ok V t) hk;have ih:=bit_use hV hm hk r (g:=bOr g (bDiff (oneV V t) k)) (bOr_ok hg hd);rw[show useF V k g (t::r)=useF V k (bOr g (bDiff (oneV V t) k)) r from rfl,ih,bit_bOr (hg.1.trans hd.1.symm),bit_bDiff ((oneV_ok V t).1.trans hk.1.symm),bit_one1 hV hm]
  by_cases h1:t=v
  ·by_cases h2:v∈r<;>cases bitAt g m<;>cases bitAt k m<;>simp [h1,h2]
  ·have h3:¬v=t:=fun e=>h1 e.symm
   by_cases h2:v∈r<;>cases bitAt g m<;>cases bitAt k m<;>simp [h1,h2,h3]
theorem bit_trF {V:List Bs8} (hV:SortedS V) {m:Nat} {v:Bs8} (hm:V[m]?=some v) (hv:v≠[]) {t:Term} (ht:t.1≠2→t.2.1.1.l=[]):∀(l:List Stmt) {z:Wd×Wd},okB V.length z.1∧okB V.length z.2 →
  bitAt (useF V (l.foldl (stmF V) z).2 (l.foldl (stmF V) z).1 (nmsOf [t.2.1.1.l])) m=(bitAt z.1 m||(!bitAt z.2 m&&decide (firstS v t l=1)))∧bitAt (l.foldl (stmF V) z).2 m=(bitAt z.2 m||decide (∃s∈l,s.1≠3∧s.2.1.l=v))
 | [],z,hz=>by
  refine⟨?_,by simp⟩;rw[List.foldl_nil,bit_use hV hm hz.2 _ hz.1]
  have e:decide (v∈nmsOf [t.2.1.1.l])=decide (firstS v t []=1):=by
   rw[decide_eq_decide,nmsOf_mem,List.mem_singleton,firstS];constructor
   ·rintro⟨h1,h2⟩;rw[if_pos];refine⟨?_,h1.symm⟩
    by_cases h:t.1=2
    ·exact h
    ·rw[ht h]at h1;exact absurd h1 h2
   ·intro h;split at h
    ·rename_i h2;exact⟨h2.2.symm,hv⟩
    ·cases h
  rw[e]
  cases bitAt z.1 m<;>cases bitAt z.2 m<;>simp
 | s::r,z,hz=>by
  have hz1:=stmF_ok hz s;obtain⟨h1,h2⟩:=bit_trF hV hm hv ht r (z:=stmF V z s) hz1;rw[List.foldl_cons];have e1:bitAt (stmF V z s).1 m=(bitAt z.1 m||(decide (v∈usesS s)&&!bitAt z.2 m)):=bit_use hV hm hz.2 _ hz.1
  have e2:bitAt (stmF V z s).2 m=(bitAt z.2 m||decide (s.1≠3∧s.2.1.l=v)):=by
   show bitAt (if s.1=3 then z.2 else bOr z.2 (oneV V s.2.1.l)) m=_;split
   ·rename_i h;simp [h]
   ·rename_i h;rw[bit_bOr (hz.2.1.trans (oneV_ok V _).1.symm),bit_one1 hV hm];simp [h]
  refine⟨?_,?_⟩
  ·rw[h1,e1,e2,firstS]
   by_cases a1:v∈usesS s<;>by_cases a2:s.1≠3∧s.2.1.l=v<;>cases bitAt z.1 m<;>cases bitAt z.2 m<;>simp [a1,a2]
  ·rw[h2,e2,Bool.or_assoc]
   congr 1
   by_cases a2:s.1≠3∧s.2.1.l=v
   ·simp [a2]
   ·by_cases a3:∃x∈r,x.1≠3∧x.2.1.l=v<;>simp [a2,a3]
theorem trF_eq {V:List Bs8} (hV:SortedS V) (hne:¬[]∈V) {b:Block} (ht:b.2.2.1≠2→b.2.2.2.1.1.l=[]):trF V b=rtrF V b:=by
 have hok:=trF_ok V b
 have key:∀m v,V[m]?=some v→_:=fun m v hm=>bit_trF hV hm (fun e=>hne (e▸List.mem_of_getElem? hm)) ht b.2.1 (z:=(nilB V.length,nilB V.length)) ⟨nilB_ok _,nilB_ok _⟩
 have hg:∀k:Nat,(k:Int)∈genL V b V.length↔k<V.length∧firstS (V[k]?.getD []) b.2.2 b.2.1=1:=fun k=>by
  rw[genL,List.mem_map];constructor
  ·rintro⟨j,hj,e⟩
   have:j=k:=by omega
   subst this;obtain⟨h1,h2⟩:=List.mem_filter.1 hj;exact⟨List.mem_range.1 h1,dt h2⟩
  ·rintro⟨h1,h2⟩;exact⟨k,List.mem_filter.2 ⟨List.mem_range.2 h1,decide_eq_true h2⟩,rfl⟩
 have hk:∀k:Nat,(k:Int)∈killL V b V.length↔k<V.length∧∃s∈b.2.1,s.1≠3∧s.2.1.l=V[k]?.getD []:=fun k=>by
  rw[killL,List.mem_flatMap];constructor
  ·rintro⟨j,hj,h⟩;obtain⟨s,hs,e⟩:=List.mem_map.1 h
   have:j=k:=by omega
   subst this;obtain⟨h1,h2⟩:=List.mem_filter.1 hs;exact⟨List.mem_range.1 hj,s,h1,dt h2⟩
  ·rintro⟨h1,s,hs,h2⟩;exact⟨k,List.mem_range.2 h1,List.mem_map.2 ⟨s,List.mem_filter.2 ⟨hs,decide_eq_true h2⟩,rfl⟩⟩
 refine Prod.ext ?_ ?_
 ·refine bits_ext (by rw[hok.1.1];exact (ofB_len _ _).symm) fun m=>?_
  show bitAt (trF V b).1 m=bitAt (ofB V.length (genL V b V.length)) m;rw[bit_of]
  by_cases hm:m<V.length
  ·have h:=(key m V[m] (List.getElem?_eq_getElem hm)).1;show bitAt (useF V _ _ _) m=_;rw[h,nilB,bit_nil,Bool.false_or,Bool.not_false,Bool.true_and,decide_eq_decide,hg,List.getElem?_eq_getElem hm];simp [hm]
  ·rw[hok.1.2 m (by omega)];exact (decide_eq_false fun h=>hm h.1).symm
 ·refine bits_ext (by rw[hok.2.1];exact (ofB_len _ _).symm) fun m=>?_
  show bitAt (trF V b).2 m=bitAt (ofB V.length (killL V b V.length)) m;rw[bit_of]
  by_cases hm:m<V.length
  ·have h:=(key m V[m] (List.getElem?_eq_getElem hm)).2;show bitAt (b.2.1.foldl (stmF V) (nilB V.length,nilB V.length)).2 m=_;rw[h,nilB,bit_nil,Bool.false_or,decide_eq_decide,hk,List.getElem?_eq_getElem hm];simp [hm]
  ·rw[hok.2.2 m (by omega)];exact (decide_eq_false fun h=>hm h.1).symm
end Go.Proofs
end
section
namespace Go.Proofs
open Go.Sy
set_option maxRecDepth 20000
set_option maxHeartbeats 4000000
theorem rhas38_spec {l:List Bs8} {s:Bs8} {a:Option Addr} {n c:Nat} {H:Hp} {K:Value→Hp→Prop} (ha:RL H a n c (ens l)) (hK:K (.bool (decide (s∈l))) H):Does Tryz.prog 131 [.slice a n c,.string (bs s)] H K:=by
 have hn1:=ha.n_eq;rw[List.length_map]at hn1;have hmx:=ha.le;refine spec_of cx_ok cx_mix rfl Tryz.func131 Tryz.call131 Tryz.ntmps131 Tryz.results131 rfl rfl ?_
 refine⟨Nat,fun i=>⟨[(1,.v (.string (bs s))),(7,.v (.slice a n c)),(8,.v (.int .i64 n)),(9,.v (.int .i64 i))],[],0⟩,
  fun i H'=>H'=H∧i≤l.length∧¬s∈l.take i,fun i=>l.length - i,⟨0,[],?_,rfl,Nat.zero_le _,by simp⟩,?_⟩
 ·(repeat' (first|exact trivial|refine⟨?_,?_⟩|exact rfl|assumption))
 rintro i H1 _ ⟨rfl,hi,hx⟩;refine⟨fun h=>?_,fun h=>?_⟩
 ·have hlt:i<l.length:=by have:=dt h;omega
  refine str_k ha (List.getElem?_eq_getElem hlt) fun ad e1 hh _=>?_
  refine⟨ad,⟨by omega,by omega,e1⟩,?_⟩;refine⟨_,hh,?_⟩;refine⟨fun h=>?_,fun h=>?_⟩
  ·have he:l[i]=s:=dt h;refine kbool hK (decide_eq_true ?_)
   rw[←he];exact List.getElem_mem hlt
  ·have he:¬l[i]=s:=df h;refine⟨⟨by omega,by omega⟩,i+1,[],?_,⟨rfl,hlt,fun hm=>?_⟩,by dsimp only;omega⟩
   ·(repeat' (first|exact trivial|refine⟨?_,?_⟩|exact rfl|assumption))
   ·rw[List.take_add_one,List.getElem?_eq_getElem hlt,Option.toList_some,List.mem_append,List.mem_singleton]at hm
    rcases hm with hm | hm
    ·exact hx hm
    ·exact he hm.symm
 ·have hil:i=l.length:=by have:=df h;omega
  rw[hil,List.take_length]at hx;exact kbool hK (decide_eq_false hx)
theorem rfirst_spec {b:Block} (hb:b.2.1.length≤100000) {v:Bs8} {la:Option Addr} {ln lc:Nat} {H:Hp} {K:Value→Hp→Prop} (hl:RL H la ln lc b.2.1) (hK:∀H',Le H H'→K (.int .i64 (firstS v b.2.2 b.2.1)) H'):
  Does Tryz.prog 88 [blkA (.slice la ln lc) b,.int .i64 0,.string (bs v)] H K:=by
 have hln:=hl.n_eq;have hmx:=hl.le;have hcut:=hl.cut (l:=0) (k:=ln) (Nat.zero_le _) (Nat.le_refl _);rw[List.drop_zero,hln,List.take_length]at hcut;rw[←hln]at hcut;refine spec_of cx_ok cx_mix rfl Tryz.func88 Tryz.call88 Tryz.ntmps88 Tryz.results88 rfl rfl ?_;refine⟨⟨by omega,by omega,by have:=hl.2.1;omega⟩,?_⟩;have hcut:RL H (cutA la 0 lc 9) (ln - 0) (lc - 0) b.2.1:=hcut;have hcn:=hcut.n_eq
 refine⟨Nat,fun i=>⟨[(2,.v (.string (bs v))),(3,.ptr 0 0),(12,.v (.slice (cutA la 0 lc 9) (ln - 0) (lc - 0))),(13,.v (.int .i64 ((ln - 0:Nat)))),(14,.v (.int .i64 i))],[(0,.cells 53 (vL (blkL (.slice la ln lc) b)))],1⟩,
  fun i H'=>Le H H'∧i≤b.2.1.length∧firstS v b.2.2 b.2.1=firstS v b.2.2 (b.2.1.drop i),fun i=>b.2.1.length - i,⟨0,[(0,0)],?_,Le.refl H,Nat.zero_le _,rfl⟩,?_⟩
 ·(repeat' (first|exact trivial|refine⟨?_,?_⟩|exact rfl|assumption))
 rintro i H1 _ ⟨hle,hi,hx⟩;refine⟨fun h=>?_,fun h=>?_⟩
 ·have hlt:i<b.2.1.length:=by have:=dt h;omega
  refine name_k b.2.1[i] fun s hs=>?_
  have hss:b.2.1[i]?=some s:=by rw[hs];exact List.getElem?_eq_getElem hlt
  rw[List.drop_eq_getElem_cons hlt,←hs,firstS]at hx
  refine stmt_k (hcut.up hle) hss fun ad e1 hh hsR=>?_
  refine⟨ad,⟨by omega,by omega,e1⟩,?_⟩;refine⟨_,hh,?_⟩
  refine ruses_spec hsR fun u1 u2 u3 H3 hle3 hu3=>?_
  refine rhas38_spec hu3 ?_;refine⟨fun h=>?_,fun h=>?_⟩
  ·have hm:v∈usesS s:=dt h;rw[if_pos hm]at hx;rw[hx]at hK;exact hK _ (hle.trans hle3)
  ·have hm:¬v∈usesS s:=df h;rw[if_neg hm]at hx;refine⟨fun h=>?_,fun h=>?_⟩
   ·have hk3:¬s.1=3:=nt h;refine⟨fun h=>?_,fun h=>?_⟩
    ·have he:s.2.1.l=v:=dt h;rw[if_pos ⟨hk3,he⟩]at hx;rw[hx]at hK;exact hK _ (hle.trans hle3)
    ·have he:¬s.2.1.l=v:=df h;rw[if_neg (fun h=>he h.2)]at hx;refine⟨⟨by omega,by omega⟩,i+1,[(0,0)],?_,⟨hle.trans hle3,hlt,hx⟩,by dsimp only;omega⟩
     (repeat' (first|exact trivial|refine⟨?_,?_⟩|exact rfl|assumption))
   ·have hk3:s.1=3:=nf h;rw[if_neg (fun h=>h.1 hk3)]at hx;refine⟨⟨by omega,by omega⟩,i+1,[(0,0)],?_,⟨hle.trans hle3,hlt,hx⟩,by dsimp only;omega⟩
    (repeat' (first|exact trivial|refine⟨?_,?_⟩|exact rfl|assumption))
 ·have hil:i=b.2.1.length:=by have:=df h;omega
  rw[hil,List.drop_length,firstS]at hx;refine⟨fun h=>?_,fun h=>?_⟩
  ·have hk2:b.2.2.1=2:=dt h;refine⟨fun h=>?_,fun h=>?_⟩
   ·have he:b.2.2.2.1.1.l=v:=dt h;rw[if_pos ⟨hk2,he⟩]at hx;rw[hx]at hK;exact hK _ hle
   ·have he:¬b.2.2.2.1.1.l=v:=df h;rw[if_neg (fun h=>he h.2)]at hx;rw[hx]at hK;exact hK _ hle
  ·have hk2:¬b.2.2.1=2:=df h;rw[if_neg (fun h=>hk2 h.1)]at hx;rw[hx]at hK;exact hK _ hle
end Go.Proofs
end
section
namespace Go.Proofs
open Go.Sy
set_option maxRecDepth 20000
set_option maxHeartbeats 4000000
theorem killL_succ (V:List Bs8) (b:Block) (i:Nat):killL V b (i+1)=killL V b i++killK V b.2.1 i:=by
 rw[killL,List.range_succ,List.flatMap_append];simp [killL]
theorem killK_len (V:List Bs8) (l:List Stmt) (k:Nat):(killK V l k).length≤l.length:=by
 rw[killK,List.length_map];exact List.length_filter_le _ _
theorem killL_len (V:List Bs8) (b:Block):∀i,(killL V b i).length≤i*b.2.1.length
 | 0=>by simp [killL]
 | i+1=>by
  have h1:=killL_len V b i;have h2:=killK_len V b.2.1 i;rw[killL_succ,List.length_append,Nat.succ_mul];omega
theorem genL_len (V:List Bs8) (b:Block) (i:Nat):(genL V b i).length≤i:=by
 rw[genL,List.length_map];exact Nat.le_trans (List.length_filter_le _ _) (by rw[List.length_range];exact Nat.le_refl _)
theorem genL_in (V:List Bs8) (b:Block) {i:Nat} (hi:i≤1000):∀x∈genL V b i,inI x:=fun x hx=>by
 obtain⟨k,hk,rfl⟩:=List.mem_map.1 hx;have:=List.mem_range.1 (List.mem_filter.1 hk).1;exact⟨by omega,by omega⟩
theorem killL_in (V:List Bs8) (b:Block) {i:Nat} (hi:i≤1000):∀x∈killL V b i,inI x:=fun x hx=>by
 obtain⟨k,hk,h⟩:=List.mem_flatMap.1 hx;obtain⟨_,_,rfl⟩:=List.mem_map.1 h;have:=List.mem_range.1 hk;exact⟨by omega,by omega⟩
theorem genL_succ (V:List Bs8) (b:Block) (i:Nat):genL V b (i+1)=genL V b i++(if firstS (V[i]?.getD []) b.2.2 b.2.1=1 then [(i:Int)] else []):=by
 rw[genL,List.range_succ,List.filter_append,List.map_append]
 by_cases h:firstS (V[i]?.getD []) b.2.2 b.2.1=1
 ·simp [genL,h]
 ·simp [genL,h]
theorem killK_take {V:List Bs8} {l:List Stmt} {j:Nat} {s:Stmt} (h:l[j]?=some s) (k:Nat):killK V (l.take (j+1)) k=killK V (l.take j) k++(if s.1≠3∧s.2.1.l=V[k]?.getD [] then [(k:Int)] else []):=by
 rw[killK,List.take_add_one,h,Option.toList_some,List.filter_append,List.map_append]
 by_cases h2:s.1≠3∧s.2.1.l=V[k]?.getD []
 ·simp only[List.filter_cons,decide_eq_true h2,if_pos h2];rfl
 ·simp only[List.filter_cons,decide_eq_false h2,if_neg h2];rfl
theorem vars_some (p:Prog):¬[]∈varsOf p:=by
 have hB:∀(l:List Stmt) {o:List Bs8},¬[]∈o→¬[]∈bVars o l:=fun l=>by
  induction l with
  | nil=>exact fun h=>h
  | cons s r ih=>exact fun h=>ih (putAll_some (sVars s) h)
 have:∀(q:Prog) {o:List Bs8},¬[]∈o→¬[]∈q.foldl blkVars o:=fun q=>by
  induction q with
  | nil=>exact fun h=>h
  | cons b r ih=>exact fun h=>ih (putAll_some _ (hB b.2.1 h))
 exact this p (by simp)
theorem if_nil {p:Prog} (he:checkE p=0) {b:Block} (hb:b∈p):b.2.2.1≠2→b.2.2.2.1.1.l=[]:=fun h2=>by
 have hB:=(check_facts he).2.2.2 b hb;rw[blockB,Bool.and_eq_true,Bool.and_eq_true]at hB;have ht:=hB.1.2;unfold termB at ht;split at ht
 ·simp only[Bool.and_eq_true,decide_eq_true_eq]at ht
  rw[ht.2.2];rfl
 ·split at ht
  ·simp only[Bool.and_eq_true,decide_eq_true_eq]at ht
   rw[ht.2];rfl
  ·cases ht
theorem fam_k {α β:Type} {P:Prop} (f:α→β) (k:∀g:α→β,(∀x,g x=f x)→P):P:=k f fun _=>rfl
theorem rlsys_spec {p:Prog} (he:checkE p=0) (hp:p.length≤12) (hl:∀b∈p,b.2.1.length≤100000) (hv:cnt p<400000) {a:Option Addr} {n c:Nat} {H:Hp} {K:Value→Hp→Prop} (ha:RL H a n c p)
  (hK:∀z H',Le H H'→Bt.SysR H' (lsysOf p) z→K (Bt.sysA (lsysOf p) z) H'):Does Tryz.prog 47 [.agg #[.slice a n c]] H K:=by
 have hn:=ha.n_eq;have hmx:=ha.le;have hv64:=vars64 he;refine spec_of cx_ok cx_mix rfl Tryz.func47 Tryz.call47 Tryz.ntmps47 Tryz.results47 rfl rfl ?_
 refine rvars_spec ha hv fun av nv cv H1 hle1 hrv=>?_
 have hnv:=hrv.n_eq;rw[List.length_map]at hnv;subst hnv;refine⟨none,?_⟩
 refine region_plan (α:=(Option Addr×Nat×Nat)×(Option Addr×Nat×Nat)) ?_ ?_
  (.two 5 10 (.two 6 10 (.two 8 10 (.two 9 10 (.one [2] [0,1,2,3,4,7,5,6,8,9,10,11]) (.one [2] [0,1,2,3,4,7,5,6,8,10,9,11])) (.one [2] [0,1,2,3,4,7,5,6,10,8,9,11])) (.one [2] [0,1,2,3,4,7,5,10,6,8,9,11])) (.one [2] [0,1,2,3,4,7,10,5,6,8,9,11]))
  (fun z=>⟨[(1,.ptr 0 0),(2,.ptr 1 0),(3,.v (.slice av (varsOf p).length cv)),(4,.v (.int .i64 ((varsOf p).length:Nat))),(5,.ptr 2 0)],
   [(0,.cells 24 [.v (.slice a n c)]),(1,.cells 32 (vL zSys)),(2,.cells 32 [.v (.int .i64 (1:Nat)),.v (.int .i64 ((varsOf p).length:Nat)),.v (.int .i64 n),.v (.slice z.1.1 z.1.2.1 z.1.2.2),.v (.slice none 0 0),.v (.slice z.2.1 z.2.2.1 z.2.2.2),.v (.slice none 0 0)])],3⟩)
  (fun z H'=>Le H1 H'∧RL H' z.1.1 z.1.2.1 z.1.2.2 (gSort (revL (gSort (edgesOf p))))∧RL H' z.2.1 z.2.2.1 z.2.2.2 (nilB (varsOf p).length)) (by kernel_rfl) ?_ ?_
 ·exact⟨cx_ok.tt,cx_ok.eqs⟩
 ·exact cx_mix
 ·refine⟨?_,?_⟩
  ·refine⟨?_,?_⟩
   ·refine⟨?_,?_⟩
    ·refine⟨?_,?_⟩
     ·refine redges_spec hp (ha.up hle1) fun e1 e2 e3 H2 hle2 hr2=>?_
      refine rreverse_spec (edges_few hp) hr2 fun f1 f2 f3 H3 hle3 hr3=>?_
      refine r10of_spec (w:=(varsOf p).length) (l:=[]) (by omega) rl_nil fun w1 w2 w3 H5 hle5 hr5=>?_
      exact⟨((f1,f2,f3),(w1,w2,w3)),[(0,0),(1,1),(2,2)],by (repeat' (first|exact trivial|refine⟨?_,?_⟩|exact rfl|assumption)),(hle2.trans hle3).trans hle5,hr3.up hle5,hr5⟩
     ·refine redges_spec hp (ha.up hle1) fun e1 e2 e3 H2 hle2 hr2=>?_
      refine rreverse_spec (edges_few hp) hr2 fun f1 f2 f3 H3 hle3 hr3=>?_
      refine r10of_spec (w:=(varsOf p).length) (l:=[]) (by omega) rl_nil fun w1 w2 w3 H5 hle5 hr5=>?_
      exact⟨((f1,f2,f3),(w1,w2,w3)),[(0,0),(1,1),(2,2)],by (repeat' (first|exact trivial|refine⟨?_,?_⟩|exact rfl|assumption)),(hle2.trans hle3).trans hle5,hr3.up hle5,hr5⟩
    ·refine redges_spec hp (ha.up hle1) fun e1 e2 e3 H2 hle2 hr2=>?_
     refine rreverse_spec (edges_few hp) hr2 fun f1 f2 f3 H3 hle3 hr3=>?_
     refine r10of_spec (w:=(varsOf p).length) (l:=[]) (by omega) rl_nil fun w1 w2 w3 H5 hle5 hr5=>?_
     exact⟨((f1,f2,f3),(w1,w2,w3)),[(0,0),(1,1),(2,2)],by (repeat' (first|exact trivial|refine⟨?_,?_⟩|exact rfl|assumption)),(hle2.trans hle3).trans hle5,hr3.up hle5,hr5⟩
   ·refine redges_spec hp (ha.up hle1) fun e1 e2 e3 H2 hle2 hr2=>?_
    refine rreverse_spec (edges_few hp) hr2 fun f1 f2 f3 H3 hle3 hr3=>?_
    refine r10of_spec (w:=(varsOf p).length) (l:=[]) (by omega) rl_nil fun w1 w2 w3 H5 hle5 hr5=>?_
    exact⟨((f1,f2,f3),(w1,w2,w3)),[(0,0),(1,1),(2,2)],by (repeat' (first|exact trivial|refine⟨?_,?_⟩|exact rfl|assumption)),(hle2.trans hle3).trans hle5,hr3.up hle5,hr5⟩
  ·refine redges_spec hp (ha.up hle1) fun e1 e2 e3 H2 hle2 hr2=>?_
   refine rreverse_spec (edges_few hp) hr2 fun f1 f2 f3 H3 hle3 hr3=>?_
   refine r10of_spec (w:=(varsOf p).length) (l:=[]) (by omega) rl_nil fun w1 w2 w3 H5 hle5 hr5=>?_
   exact⟨((f1,f2,f3),(w1,w2,w3)),[(0,0),(1,1),(2,2)],by (repeat' (first|exact trivial|refine⟨?_,?_⟩|exact rfl|assumption)),(hle2.trans hle3).trans hle5,hr3.up hle5,hr5⟩
 rintro⟨⟨ea,en,ec⟩,⟨ia,ni,ic⟩⟩ H2 _ ⟨hle2,hze,hzi⟩;dsimp only at hze hzi
 refine⟨Nat×List (List Value),fun q=>⟨[(1,.ptr 0 0),(2,.ptr 1 0),(3,.v (.slice av (varsOf p).length cv)),(4,.v (.int .i64 ((varsOf p).length:Nat))),(5,.ptr 2 0),(29,.v (.slice a n c)),(30,.v (.int .i64 n)),(31,.v (.int .i64 q.1))],
   [(0,.cells 24 [.v (.slice a n c)]),(1,.cells 32 (vL zSys)),(2,.cells 32 [.v (.int .i64 (1:Nat)),.v (.int .i64 ((varsOf p).length:Nat)),.v (.int .i64 n),.v (.slice ea en ec),.own 3,.v (.slice ia ni ic),.own 4]),(3,.row 3 1 (iRows (idxP isExit (p.take q.1) 0))),(4,.row 78 3 q.2)],5⟩,
  fun q H'=>Le H2 H'∧q.1≤p.length∧RC (α:=Bt.TrB) H' q.2 (((lsysOf p).T.map Bt.TrB.mk).take q.1),fun q=>p.length - q.1,⟨(0,[]),[(0,0),(1,1),(2,2)],?_,Le.refl _,Nat.zero_le _,RC.nil⟩,?_⟩
 ·(repeat' (first|exact trivial|refine⟨?_,?_⟩|exact rfl|assumption))
 rintro⟨j,css⟩ H4 _ ⟨hle4,hj,hrc⟩;dsimp only at hj hrc;have hle:Le H H4:=(hle1.trans hle2).trans hle4
 have hTl:((lsysOf p).T.map Bt.TrB.mk).length=p.length:=by simp [lsysOf]
 have hcl:css.length=j:=by have h1:=hrc.1;rw[List.length_take]at h1;omega
 refine⟨fun h=>?_,fun h=>?_⟩
 ·have hlt:j<p.length:=by have:=dt h;dsimp only at this;omega
  refine name_k p[j] fun b hbe=>?_
  have hbb:p[j]?=some b:=by rw[hbe];exact List.getElem?_eq_getElem hlt
  have hbl:=hl b (by rw[hbe];exact List.getElem_mem hlt);have htF:trF (varsOf p) b=rtrF (varsOf p) b:=trF_eq (vars_sorted p nil_sortedS) (vars_some p) (if_nil he (List.mem_of_getElem? hbb));have hex:=idxP_take isExit hlt;have hexl:=idxP_len isExit (p.take j) 0;rw[List.length_take,Nat.min_eq_left (by omega)]at hexl;have hel:(iRows (idxP isExit (p.take j) 0)).length=(idxP isExit (p.take j) 0).length:=List.length_map _
  refine fam_k (fun k=>iRows (genL (varsOf p) b k)) fun G hG=>?_
  refine fam_k (fun k=>iRows (killL (varsOf p) b k)) fun KL hKL=>?_
  refine fam_k (fun k i=>iRows (killL (varsOf p) b k++killK (varsOf p) (b.2.1.take i) k)) fun KK hKK=>?_
  have hKK:∀k i,KK k i=iRows (killL (varsOf p) b k++killK (varsOf p) (b.2.1.take i) k):=fun k i=>congrFun (hKK k) i
  have g0:G 0=[]:=by rw[hG];rfl
  have l0:KL 0=[]:=by rw[hKL];rfl
  have hGl:∀k,(G k).length≤k:=fun k=>by rw[hG,List.length_map];exact genL_len _ _ k
  have hG1:∀k v,(varsOf p)[k]?.getD []=v→firstS v b.2.2 b.2.1=1→G k++[[.int .i64 (k:Nat)]]=G (k+1):=fun k v hvv hf1=>by
   have hgs:=genL_succ (varsOf p) b k;rw[hvv,if_pos hf1]at hgs
   rw[hG,hG,hgs,iRows,iRows,List.map_append];rfl
  have hG2:∀k v,(varsOf p)[k]?.getD []=v→¬firstS v b.2.2 b.2.1=1→G k=G (k+1):=fun k v hvv hf1=>by
   have hgs:=genL_succ (varsOf p) b k;rw[hvv,if_neg hf1,List.append_nil]at hgs;rw[hG,hG,hgs]
  have hKK0:∀k,KL k=KK k 0:=fun k=>by rw[hKL,hKK];simp [killK]
  have hKKl:∀k i,k≤64→i≤b.2.1.length→(KK k i).length≤6500000:=fun k i hk hi=>by
   have h1:=killL_len (varsOf p) b k;have h2:=killK_len (varsOf p) (b.2.1.take i) k;rw[List.length_take]at h2;rw[hKK,List.length_map,List.length_append];have h3:k*b.2.1.length≤64*100000:=Nat.mul_le_mul hk hbl;omega
  have hKK1:∀(k i:Nat) (s:Stmt) (v:Bs8),b.2.1[i]?=some s→(varsOf p)[k]?.getD []=v→¬s.1=3→s.2.1.l=v→KK k i++[[.int .i64 (k:Nat)]]=KK k (i+1):=fun k i s v hss hvv h3 h4=>by
   have hkt:=killK_take (V:=varsOf p) hss k;rw[hvv,if_pos ⟨h3,h4⟩]at hkt
   rw[hKK,hKK,hkt,←List.append_assoc,iRows,iRows,List.map_append (l₂:=[(k:Int)])];rfl
  have hKK2:∀(k i:Nat) (s:Stmt) (v:Bs8),b.2.1[i]?=some s→(varsOf p)[k]?.getD []=v→¬(s.1≠3∧s.2.1.l=v)→KK k i=KK k (i+1):=fun k i s v hss hvv h3=>by
   have hkt:=killK_take (V:=varsOf p) hss k;rw[hvv,if_neg h3,List.append_nil]at hkt;rw[hKK,hKK,hkt]
  have hKKn:∀k,KK k b.2.1.length=KL (k+1):=fun k=>by rw[hKK,hKL,List.take_length,killL_succ]
  refine block_k (ha.up hle) hbb fun ad a5 n5 c5 q1 hh hr5 hs5 ht5=>?_
  have hn5:n5=b.2.1.length:=hr5.n_eq;refine⟨ad,⟨by dsimp only;omega,by dsimp only;omega,q1⟩,?_⟩;refine⟨_,hh,?_⟩;refine⟨fun h=>?_,fun h=>?_⟩
  ·have hx3:isExit b=true:=h;rw[←hbe,hx3,if_pos rfl]at hex;refine⟨⟨by show ((iRows (idxP isExit (p.take j) 0)).length+1)*8≤140737488355328;omega,by show (iRows (idxP isExit (p.take j) 0)).length+1≤9223372036854775807;omega⟩,?_⟩
   have erow:iRows (idxP isExit (p.take j) 0)++[[.int .i64 (j:Int)]]=iRows (idxP isExit (p.take (j+1)) 0):=by rw[hex];simp
   refine⟨Nat,fun k=>⟨[(1,.ptr 0 0),(2,.ptr 1 0),(3,.v (.slice av (varsOf p).length cv)),(4,.v (.int .i64 ((varsOf p).length:Nat))),(5,.ptr 2 0),(6,.v (.int .i64 j)),(7,.ptr 5 0),(8,.own 6),(9,.own 7),(29,.v (.slice a n c)),(30,.v (.int .i64 n)),(31,.v (.int .i64 j)),(46,.v (.slice av (varsOf p).length cv)),(47,.v (.int .i64 ((varsOf p).length:Nat))),(48,.v (.int .i64 k))],
     [(0,.cells 24 [.v (.slice a n c)]),(1,.cells 32 (vL zSys)),(2,.cells 32 [.v (.int .i64 (1:Nat)),.v (.int .i64 ((varsOf p).length:Nat)),.v (.int .i64 n),.v (.slice ea en ec),.own 3,.v (.slice ia ni ic),.own 4]),(3,.row 3 1 (iRows (idxP isExit (p.take (j+1)) 0))),(4,.row 78 3 css),(5,.cells 53 (vL (blkL (.slice a5 n5 c5) b))),(6,.row 3 1 (G k)),(7,.row 3 1 (KL k))],8⟩,
    fun k H'=>Le H4 H'∧k≤(varsOf p).length,fun k=>(varsOf p).length - k,⟨0,[(0,0),(1,1),(2,2),(3,7),(4,4),(5,5)],?_,Le.refl H4,Nat.zero_le _⟩,?_⟩
   ·(repeat' (first|exact trivial|refine⟨?_,?_⟩|exact rfl|assumption))
   rintro k H5 _ ⟨hle5,hkl⟩;have hgl:=hGl k;refine⟨fun h=>?_,fun h=>?_⟩
   ·have hkl:k<(varsOf p).length:=by have:=dt h;omega
    refine name_k (varsOf p)[k] fun v hve=>?_
    have hvk:(varsOf p)[k]?=some v:=by rw[hve];exact List.getElem?_eq_getElem hkl
    have hvv:(varsOf p)[k]?.getD []=v:=by rw[hvk];rfl
    have hle5':=(hle2.trans hle4).trans hle5
    refine str_k (hrv.up hle5') hvk fun ad2 q2 hh2 _=>?_
    refine⟨ad2,⟨by omega,by omega,q2⟩,?_⟩;refine⟨_,hh2,?_⟩
    refine rfirst_spec (b:=b) hbl (hr5.up hle5) fun H6 hle6=>?_
    refine⟨fun h=>?_,fun h=>?_⟩
    ·have hf1:firstS v b.2.2 b.2.1=1:=dt h;have eg:=hG1 k v hvv hf1;refine⟨⟨by show (_+1)*8≤140737488355328;omega,by show _+1≤9223372036854775807;omega⟩,?_⟩
     refine⟨Nat,fun i=>⟨[(1,.ptr 0 0),(2,.ptr 1 0),(3,.v (.slice av (varsOf p).length cv)),(4,.v (.int .i64 ((varsOf p).length:Nat))),(5,.ptr 2 0),(6,.v (.int .i64 j)),(7,.ptr 5 0),(8,.own 6),(9,.own 7),(10,.v (.int .i64 k)),(11,.v (.string (bs v))),(29,.v (.slice a n c)),(30,.v (.int .i64 n)),(31,.v (.int .i64 j)),(46,.v (.slice av (varsOf p).length cv)),(47,.v (.int .i64 ((varsOf p).length:Nat))),(48,.v (.int .i64 k)),(62,.v (.slice a5 n5 c5)),(63,.v (.int .i64 n5)),(64,.v (.int .i64 i))],
       [(0,.cells 24 [.v (.slice a n c)]),(1,.cells 32 (vL zSys)),(2,.cells 32 [.v (.int .i64 (1:Nat)),.v (.int .i64 ((varsOf p).length:Nat)),.v (.int .i64 n),.v (.slice ea en ec),.own 3,.v (.slice ia ni ic),.own 4]),(3,.row 3 1 (iRows (idxP isExit (p.take (j+1)) 0))),(4,.row 78 3 css),(5,.cells 53 (vL (blkL (.slice a5 n5 c5) b))),(6,.row 3 1 (G (k+1))),(7,.row 3 1 (KK k i))],8⟩,
      fun i H'=>H'=H5∧i≤b.2.1.length,fun i=>b.2.1.length - i,⟨0,[(0,0),(1,1),(2,2),(3,3),(4,4),(5,5),(6,9),(7,7)],?_,rfl,Nat.zero_le _⟩,?_⟩
     ·have e0:=hKK0 k
      (repeat' (first|exact trivial|refine⟨?_,?_⟩|exact rfl|assumption))
     rintro i H7 _ ⟨rfl,hi⟩;have hrl3:=hKKl k i (by omega) hi;refine⟨fun h=>?_,fun h=>?_⟩
     ·have hil:i<b.2.1.length:=by have:=dt h;omega
      refine name_k b.2.1[i] fun s hs=>?_
      have hss:b.2.1[i]?=some s:=by rw[hs];exact List.getElem?_eq_getElem hil
      refine stmt_k (hr5.up hle5) hss fun ad3 q3 hh3 _=>?_
      refine⟨ad3,⟨by omega,by omega,q3⟩,?_⟩;refine⟨_,hh3,?_⟩;refine⟨fun h=>?_,fun h=>?_⟩
      ·have hk3:¬s.1=3:=nt h;refine⟨fun h=>?_,fun h=>?_⟩
       ·have hsv:s.2.1.l=v:=dt h;have e:=hKK1 k i s v hss hvv hk3 hsv;refine⟨⟨by show (_+1)*8≤140737488355328;omega,by show _+1≤9223372036854775807;omega⟩,?_⟩;refine⟨⟨by omega,by omega⟩,i+1,[(0,0),(1,1),(2,2),(3,3),(4,4),(5,5),(6,6),(7,10)],?_,⟨rfl,hil⟩,by dsimp only;omega⟩
        (repeat' (first|exact trivial|refine⟨?_,?_⟩|exact rfl|assumption))
       ·have hsv:¬s.2.1.l=v:=df h;have e:=hKK2 k i s v hss hvv (fun h=>hsv h.2);refine⟨⟨by omega,by omega⟩,i+1,[(0,0),(1,1),(2,2),(3,3),(4,4),(5,5),(6,6),(7,7)],?_,⟨rfl,hil⟩,by dsimp only;omega⟩
        (repeat' (first|exact trivial|refine⟨?_,?_⟩|exact rfl|assumption))
      ·have hk3:s.1=3:=nf h;have e:=hKK2 k i s v hss hvv (fun h=>h.1 hk3);refine⟨⟨by omega,by omega⟩,i+1,[(0,0),(1,1),(2,2),(3,3),(4,4),(5,5),(6,6),(7,7)],?_,⟨rfl,hil⟩,by dsimp only;omega⟩
       (repeat' (first|exact trivial|refine⟨?_,?_⟩|exact rfl|assumption))
     ·have hil:i=b.2.1.length:=by have:=df h;omega
      subst hil;have e2:=hKKn k;refine⟨⟨by omega,by omega⟩,k+1,[(0,0),(1,1),(2,2),(3,3),(4,4),(5,5),(6,6),(7,7)],?_,⟨hle5,hkl⟩,by dsimp only;omega⟩
      (repeat' (first|exact trivial|refine⟨?_,?_⟩|exact rfl|assumption))
    ·have hf1:¬firstS v b.2.2 b.2.1=1:=df h;have eg:=hG2 k v hvv hf1
     refine⟨Nat,fun i=>⟨[(1,.ptr 0 0),(2,.ptr 1 0),(3,.v (.slice av (varsOf p).length cv)),(4,.v (.int .i64 ((varsOf p).length:Nat))),(5,.ptr 2 0),(6,.v (.int .i64 j)),(7,.ptr 5 0),(8,.own 6),(9,.own 7),(10,.v (.int .i64 k)),(11,.v (.string (bs v))),(29,.v (.slice a n c)),(30,.v (.int .i64 n)),(31,.v (.int .i64 j)),(46,.v (.slice av (varsOf p).length cv)),(47,.v (.int .i64 ((varsOf p).length:Nat))),(48,.v (.int .i64 k)),(62,.v (.slice a5 n5 c5)),(63,.v (.int .i64 n5)),(64,.v (.int .i64 i))],
       [(0,.cells 24 [.v (.slice a n c)]),(1,.cells 32 (vL zSys)),(2,.cells 32 [.v (.int .i64 (1:Nat)),.v (.int .i64 ((varsOf p).length:Nat)),.v (.int .i64 n),.v (.slice ea en ec),.own 3,.v (.slice ia ni ic),.own 4]),(3,.row 3 1 (iRows (idxP isExit (p.take (j+1)) 0))),(4,.row 78 3 css),(5,.cells 53 (vL (blkL (.slice a5 n5 c5) b))),(6,.row 3 1 (G (k+1))),(7,.row 3 1 (KK k i))],8⟩,
      fun i H'=>H'=H5∧i≤b.2.1.length,fun i=>b.2.1.length - i,⟨0,[(0,0),(1,1),(2,2),(3,3),(4,4),(5,5),(6,6),(7,7)],?_,rfl,Nat.zero_le _⟩,?_⟩
     ·have e0:=hKK0 k
      (repeat' (first|exact trivial|refine⟨?_,?_⟩|exact rfl|assumption))
     rintro i H7 _ ⟨rfl,hi⟩;have hrl3:=hKKl k i (by omega) hi;refine⟨fun h=>?_,fun h=>?_⟩
     ·have hil:i<b.2.1.length:=by have:=dt h;omega
      refine name_k b.2.1[i] fun s hs=>?_
      have hss:b.2.1[i]?=some s:=by rw[hs];exact List.getElem?_eq_getElem hil
      refine stmt_k (hr5.up hle5) hss fun ad3 q3 hh3 _=>?_
      refine⟨ad3,⟨by omega,by omega,q3⟩,?_⟩;refine⟨_,hh3,?_⟩;refine⟨fun h=>?_,fun h=>?_⟩
      ·have hk3:¬s.1=3:=nt h;refine⟨fun h=>?_,fun h=>?_⟩
       ·have hsv:s.2.1.l=v:=dt h;have e:=hKK1 k i s v hss hvv hk3 hsv;refine⟨⟨by show (_+1)*8≤140737488355328;omega,by show _+1≤9223372036854775807;omega⟩,?_⟩;refine⟨⟨by omega,by omega⟩,i+1,[(0,0),(1,1),(2,2),(3,3),(4,4),(5,5),(6,6),(7,10)],?_,⟨rfl,hil⟩,by dsimp only;omega⟩
        (repeat' (first|exact trivial|refine⟨?_,?_⟩|exact rfl|assumption))
       ·have hsv:¬s.2.1.l=v:=df h;have e:=hKK2 k i s v hss hvv (fun h=>hsv h.2);refine⟨⟨by omega,by omega⟩,i+1,[(0,0),(1,1),(2,2),(3,3),(4,4),(5,5),(6,6),(7,7)],?_,⟨rfl,hil⟩,by dsimp only;omega⟩
        (repeat' (first|exact trivial|refine⟨?_,?_⟩|exact rfl|assumption))
      ·have hk3:s.1=3:=nf h;have e:=hKK2 k i s v hss hvv (fun h=>h.1 hk3);refine⟨⟨by omega,by omega⟩,i+1,[(0,0),(1,1),(2,2),(3,3),(4,4),(5,5),(6,6),(7,7)],?_,⟨rfl,hil⟩,by dsimp only;omega⟩
       (repeat' (first|exact trivial|refine⟨?_,?_⟩|exact rfl|assumption))
     ·have hil:i=b.2.1.length:=by have:=df h;omega
      subst hil;have e2:=hKKn k;refine⟨⟨by omega,by omega⟩,k+1,[(0,0),(1,1),(2,2),(3,3),(4,4),(5,5),(6,6),(7,7)],?_,⟨hle5,hkl⟩,by dsimp only;omega⟩
      (repeat' (first|exact trivial|refine⟨?_,?_⟩|exact rfl|assumption))
   ·have hkl2:k=(varsOf p).length:=by have:=df h;omega
    subst hkl2;refine⟨none,?_⟩
    refine region_plan (α:=List (List Value)) ?_ ?_
     (.two 1 4 (.one [2,4,6,7,8,9] [0,2,3,5,6,1,4,7,8,9,10,11,12]) (.two 1 7 (.one [2,4,6,7,8,9] [0,2,3,5,6,4,1,7,8,9,10,11,12]) (.two 1 9 (.one [2,4,6,7,8,9] [0,2,3,5,6,4,7,8,1,9,10,11,12]) (.one [2,4,6,7,8,9] [0,2,3,5,6,4,7,8,9,1,10,11,12]))))
     (fun c'=>⟨[(1,.ptr 0 0),(2,.ptr 1 0),(3,.v (.slice av (varsOf p).length cv)),(4,.v (.int .i64 ((varsOf p).length:Nat))),(5,.ptr 2 0),(29,.v (.slice a n c)),(30,.v (.int .i64 n)),(31,.v (.int .i64 j))],
      [(0,.cells 24 [.v (.slice a n c)]),(1,.cells 32 (vL zSys)),(2,.cells 32 [.v (.int .i64 (1:Nat)),.v (.int .i64 ((varsOf p).length:Nat)),.v (.int .i64 n),.v (.slice ea en ec),.own 3,.v (.slice ia ni ic),.own 4]),(3,.row 3 1 (iRows (idxP isExit (p.take (j+1)) 0))),(4,.row 78 3 c')],5⟩)
     (fun c' H'=>Le H5 H'∧RC (α:=Bt.TrB) H' c' (((lsysOf p).T.map Bt.TrB.mk).take (j+1))) (by kernel_rfl) ?_ ?_
    ·exact⟨cx_ok.tt,cx_ok.eqs⟩
    ·exact cx_mix
    ·refine⟨?_,?_⟩
     ·intro v6 H6 hle6 hv6
      have hv6:RowAt H6 v6 1 (iRows (genL (varsOf p) b (varsOf p).length)):=by rw[←hG];exact hv6
      obtain⟨a7,n7,c7,rfl,hr7⟩:=RL.of_row (α:=Int) hv6 (rc_iRows (genL_in (varsOf p) b (by omega)))
      refine r10of_spec (w:=(varsOf p).length) (by omega) hr7 fun g1 g2 g3 H7 hle7 hg7=>?_
      intro v8 H8 hle8 hv8
      have hv8:RowAt H8 v8 1 (iRows (killL (varsOf p) b (varsOf p).length)):=by rw[←hKL];exact hv8
      obtain⟨a8,n8,c8,rfl,hr8⟩:=RL.of_row (α:=Int) hv8 (rc_iRows (killL_in (varsOf p) b (by omega)))
      refine r10of_spec (w:=(varsOf p).length) (by omega) hr8 fun k1 k2 k3 H9 hle9 hk9=>?_
      refine⟨⟨by show (css.length+1)*72≤140737488355328;omega,by show css.length+1≤9223372036854775807;omega⟩,?_⟩;have hl9:=((hle6.le.trans hle7).trans hle8.le).trans hle9
      have htr:Bt.TrR H9 (trF (varsOf p) b) ⟨g1,g2,g3,k1,k2,k3⟩:=by rw[htF];exact⟨hg7.up (hle8.le.trans hle9),hk9⟩
      exact⟨css++[Bt.trV ⟨g1,g2,g3,k1,k2,k3⟩],[(0,0),(1,1),(2,2),(3,3),(4,9)],by (repeat' (first|exact trivial|refine⟨?_,?_⟩|exact rfl|assumption)),hl9,by rw[lsysT_take hbb];exact trb_snoc (RC.up hrc (hle5.trans hl9)) htr⟩
     ·refine⟨?_,?_⟩
      ·intro v6 H6 hle6 hv6
       have hv6:RowAt H6 v6 1 (iRows (genL (varsOf p) b (varsOf p).length)):=by rw[←hG];exact hv6
       obtain⟨a7,n7,c7,rfl,hr7⟩:=RL.of_row (α:=Int) hv6 (rc_iRows (genL_in (varsOf p) b (by omega)))
       refine r10of_spec (w:=(varsOf p).length) (by omega) hr7 fun g1 g2 g3 H7 hle7 hg7=>?_
       intro v8 H8 hle8 hv8
       have hv8:RowAt H8 v8 1 (iRows (killL (varsOf p) b (varsOf p).length)):=by rw[←hKL];exact hv8
       obtain⟨a8,n8,c8,rfl,hr8⟩:=RL.of_row (α:=Int) hv8 (rc_iRows (killL_in (varsOf p) b (by omega)))
       refine r10of_spec (w:=(varsOf p).length) (by omega) hr8 fun k1 k2 k3 H9 hle9 hk9=>?_
       refine⟨⟨by show (css.length+1)*72≤140737488355328;omega,by show css.length+1≤9223372036854775807;omega⟩,?_⟩;have hl9:=((hle6.le.trans hle7).trans hle8.le).trans hle9
       have htr:Bt.TrR H9 (trF (varsOf p) b) ⟨g1,g2,g3,k1,k2,k3⟩:=by rw[htF];exact⟨hg7.up (hle8.le.trans hle9),hk9⟩
       exact⟨css++[Bt.trV ⟨g1,g2,g3,k1,k2,k3⟩],[(0,0),(1,1),(2,2),(3,3),(4,9)],by (repeat' (first|exact trivial|refine⟨?_,?_⟩|exact rfl|assumption)),hl9,by rw[lsysT_take hbb];exact trb_snoc (RC.up hrc (hle5.trans hl9)) htr⟩
      ·refine⟨?_,?_⟩
       ·intro v6 H6 hle6 hv6
        have hv6:RowAt H6 v6 1 (iRows (genL (varsOf p) b (varsOf p).length)):=by rw[←hG];exact hv6
        obtain⟨a7,n7,c7,rfl,hr7⟩:=RL.of_row (α:=Int) hv6 (rc_iRows (genL_in (varsOf p) b (by omega)))
        refine r10of_spec (w:=(varsOf p).length) (by omega) hr7 fun g1 g2 g3 H7 hle7 hg7=>?_
        intro v8 H8 hle8 hv8
        have hv8:RowAt H8 v8 1 (iRows (killL (varsOf p) b (varsOf p).length)):=by rw[←hKL];exact hv8
        obtain⟨a8,n8,c8,rfl,hr8⟩:=RL.of_row (α:=Int) hv8 (rc_iRows (killL_in (varsOf p) b (by omega)))
        refine r10of_spec (w:=(varsOf p).length) (by omega) hr8 fun k1 k2 k3 H9 hle9 hk9=>?_
        refine⟨⟨by show (css.length+1)*72≤140737488355328;omega,by show css.length+1≤9223372036854775807;omega⟩,?_⟩;have hl9:=((hle6.le.trans hle7).trans hle8.le).trans hle9
        have htr:Bt.TrR H9 (trF (varsOf p) b) ⟨g1,g2,g3,k1,k2,k3⟩:=by rw[htF];exact⟨hg7.up (hle8.le.trans hle9),hk9⟩
        exact⟨css++[Bt.trV ⟨g1,g2,g3,k1,k2,k3⟩],[(0,0),(1,1),(2,2),(3,3),(4,9)],by (repeat' (first|exact trivial|refine⟨?_,?_⟩|exact rfl|assumption)),hl9,by rw[lsysT_take hbb];exact trb_snoc (RC.up hrc (hle5.trans hl9)) htr⟩
       ·intro v6 H6 hle6 hv6
        have hv6:RowAt H6 v6 1 (iRows (genL (varsOf p) b (varsOf p).length)):=by rw[←hG];exact hv6
        obtain⟨a7,n7,c7,rfl,hr7⟩:=RL.of_row (α:=Int) hv6 (rc_iRows (genL_in (varsOf p) b (by omega)))
        refine r10of_spec (w:=(varsOf p).length) (by omega) hr7 fun g1 g2 g3 H7 hle7 hg7=>?_
        intro v8 H8 hle8 hv8
        have hv8:RowAt H8 v8 1 (iRows (killL (varsOf p) b (varsOf p).length)):=by rw[←hKL];exact hv8
        obtain⟨a8,n8,c8,rfl,hr8⟩:=RL.of_row (α:=Int) hv8 (rc_iRows (killL_in (varsOf p) b (by omega)))
        refine r10of_spec (w:=(varsOf p).length) (by omega) hr8 fun k1 k2 k3 H9 hle9 hk9=>?_
        refine⟨⟨by show (css.length+1)*72≤140737488355328;omega,by show css.length+1≤9223372036854775807;omega⟩,?_⟩;have hl9:=((hle6.le.trans hle7).trans hle8.le).trans hle9
        have htr:Bt.TrR H9 (trF (varsOf p) b) ⟨g1,g2,g3,k1,k2,k3⟩:=by rw[htF];exact⟨hg7.up (hle8.le.trans hle9),hk9⟩
        exact⟨css++[Bt.trV ⟨g1,g2,g3,k1,k2,k3⟩],[(0,0),(1,1),(2,2),(3,3),(4,9)],by (repeat' (first|exact trivial|refine⟨?_,?_⟩|exact rfl|assumption)),hl9,by rw[lsysT_take hbb];exact trb_snoc (RC.up hrc (hle5.trans hl9)) htr⟩
    rintro c' H9 _ ⟨hle9,hrc9⟩;refine⟨⟨by omega,by omega⟩,(j+1,c'),[(0,0),(1,1),(2,2),(3,3),(4,4)],?_,⟨(hle4.trans hle5).trans hle9,hlt,hrc9⟩,by dsimp only;omega⟩
    (repeat' (first|exact trivial|refine⟨?_,?_⟩|exact rfl|assumption))
  ·have hx3:isExit b=false:=h;rw[←hbe,hx3]at hex
   have erow:iRows (idxP isExit (p.take j) 0)=iRows (idxP isExit (p.take (j+1)) 0):=by rw[hex];simp
   refine⟨Nat,fun k=>⟨[(1,.ptr 0 0),(2,.ptr 1 0),(3,.v (.slice av (varsOf p).length cv)),(4,.v (.int .i64 ((varsOf p).length:Nat))),(5,.ptr 2 0),(6,.v (.int .i64 j)),(7,.ptr 5 0),(8,.own 6),(9,.own 7),(29,.v (.slice a n c)),(30,.v (.int .i64 n)),(31,.v (.int .i64 j)),(46,.v (.slice av (varsOf p).length cv)),(47,.v (.int .i64 ((varsOf p).length:Nat))),(48,.v (.int .i64 k))],
     [(0,.cells 24 [.v (.slice a n c)]),(1,.cells 32 (vL zSys)),(2,.cells 32 [.v (.int .i64 (1:Nat)),.v (.int .i64 ((varsOf p).length:Nat)),.v (.int .i64 n),.v (.slice ea en ec),.own 3,.v (.slice ia ni ic),.own 4]),(3,.row 3 1 (iRows (idxP isExit (p.take (j+1)) 0))),(4,.row 78 3 css),(5,.cells 53 (vL (blkL (.slice a5 n5 c5) b))),(6,.row 3 1 (G k)),(7,.row 3 1 (KL k))],8⟩,
    fun k H'=>Le H4 H'∧k≤(varsOf p).length,fun k=>(varsOf p).length - k,⟨0,[(0,0),(1,1),(2,2),(3,3),(4,4),(5,5)],?_,Le.refl H4,Nat.zero_le _⟩,?_⟩
   ·(repeat' (first|exact trivial|refine⟨?_,?_⟩|exact rfl|assumption))
   rintro k H5 _ ⟨hle5,hkl⟩;have hgl:=hGl k;refine⟨fun h=>?_,fun h=>?_⟩
   ·have hkl:k<(varsOf p).length:=by have:=dt h;omega
    refine name_k (varsOf p)[k] fun v hve=>?_
    have hvk:(varsOf p)[k]?=some v:=by rw[hve];exact List.getElem?_eq_getElem hkl
    have hvv:(varsOf p)[k]?.getD []=v:=by rw[hvk];rfl
    have hle5':=(hle2.trans hle4).trans hle5
    refine str_k (hrv.up hle5') hvk fun ad2 q2 hh2 _=>?_
    refine⟨ad2,⟨by omega,by omega,q2⟩,?_⟩;refine⟨_,hh2,?_⟩
    refine rfirst_spec (b:=b) hbl (hr5.up hle5) fun H6 hle6=>?_
    refine⟨fun h=>?_,fun h=>?_⟩
    ·have hf1:firstS v b.2.2 b.2.1=1:=dt h;have eg:=hG1 k v hvv hf1;refine⟨⟨by show (_+1)*8≤140737488355328;omega,by show _+1≤9223372036854775807;omega⟩,?_⟩
     refine⟨Nat,fun i=>⟨[(1,.ptr 0 0),(2,.ptr 1 0),(3,.v (.slice av (varsOf p).length cv)),(4,.v (.int .i64 ((varsOf p).length:Nat))),(5,.ptr 2 0),(6,.v (.int .i64 j)),(7,.ptr 5 0),(8,.own 6),(9,.own 7),(10,.v (.int .i64 k)),(11,.v (.string (bs v))),(29,.v (.slice a n c)),(30,.v (.int .i64 n)),(31,.v (.int .i64 j)),(46,.v (.slice av (varsOf p).length cv)),(47,.v (.int .i64 ((varsOf p).length:Nat))),(48,.v (.int .i64 k)),(62,.v (.slice a5 n5 c5)),(63,.v (.int .i64 n5)),(64,.v (.int .i64 i))],
       [(0,.cells 24 [.v (.slice a n c)]),(1,.cells 32 (vL zSys)),(2,.cells 32 [.v (.int .i64 (1:Nat)),.v (.int .i64 ((varsOf p).length:Nat)),.v (.int .i64 n),.v (.slice ea en ec),.own 3,.v (.slice ia ni ic),.own 4]),(3,.row 3 1 (iRows (idxP isExit (p.take (j+1)) 0))),(4,.row 78 3 css),(5,.cells 53 (vL (blkL (.slice a5 n5 c5) b))),(6,.row 3 1 (G (k+1))),(7,.row 3 1 (KK k i))],8⟩,
      fun i H'=>H'=H5∧i≤b.2.1.length,fun i=>b.2.1.length - i,⟨0,[(0,0),(1,1),(2,2),(3,3),(4,4),(5,5),(6,9),(7,7)],?_,rfl,Nat.zero_le _⟩,?_⟩
     ·have e0:=hKK0 k
      (repeat' (first|exact trivial|refine⟨?_,?_⟩|exact rfl|assumption))
     rintro i H7 _ ⟨rfl,hi⟩;have hrl3:=hKKl k i (by omega) hi;refine⟨fun h=>?_,fun h=>?_⟩
     ·have hil:i<b.2.1.length:=by have:=dt h;omega
      refine name_k b.2.1[i] fun s hs=>?_
      have hss:b.2.1[i]?=some s:=by rw[hs];exact List.getElem?_eq_getElem hil
      refine stmt_k (hr5.up hle5) hss fun ad3 q3 hh3 _=>?_
      refine⟨ad3,⟨by omega,by omega,q3⟩,?_⟩;refine⟨_,hh3,?_⟩;refine⟨fun h=>?_,fun h=>?_⟩
      ·have hk3:¬s.1=3:=nt h;refine⟨fun h=>?_,fun h=>?_⟩
       ·have hsv:s.2.1.l=v:=dt h;have e:=hKK1 k i s v hss hvv hk3 hsv;refine⟨⟨by show (_+1)*8≤140737488355328;omega,by show _+1≤9223372036854775807;omega⟩,?_⟩;refine⟨⟨by omega,by omega⟩,i+1,[(0,0),(1,1),(2,2),(3,3),(4,4),(5,5),(6,6),(7,10)],?_,⟨rfl,hil⟩,by dsimp only;omega⟩
        (repeat' (first|exact trivial|refine⟨?_,?_⟩|exact rfl|assumption))
       ·have hsv:¬s.2.1.l=v:=df h;have e:=hKK2 k i s v hss hvv (fun h=>hsv h.2);refine⟨⟨by omega,by omega⟩,i+1,[(0,0),(1,1),(2,2),(3,3),(4,4),(5,5),(6,6),(7,7)],?_,⟨rfl,hil⟩,by dsimp only;omega⟩
        (repeat' (first|exact trivial|refine⟨?_,?_⟩|exact rfl|assumption))
      ·have hk3:s.1=3:=nf h;have e:=hKK2 k i s v hss hvv (fun h=>h.1 hk3);refine⟨⟨by omega,by omega⟩,i+1,[(0,0),(1,1),(2,2),(3,3),(4,4),(5,5),(6,6),(7,7)],?_,⟨rfl,hil⟩,by dsimp only;omega⟩
       (repeat' (first|exact trivial|refine⟨?_,?_⟩|exact rfl|assumption))
     ·have hil:i=b.2.1.length:=by have:=df h;omega
      subst hil;have e2:=hKKn k;refine⟨⟨by omega,by omega⟩,k+1,[(0,0),(1,1),(2,2),(3,3),(4,4),(5,5),(6,6),(7,7)],?_,⟨hle5,hkl⟩,by dsimp only;omega⟩
      (repeat' (first|exact trivial|refine⟨?_,?_⟩|exact rfl|assumption))
    ·have hf1:¬firstS v b.2.2 b.2.1=1:=df h;have eg:=hG2 k v hvv hf1
     refine⟨Nat,fun i=>⟨[(1,.ptr 0 0),(2,.ptr 1 0),(3,.v (.slice av (varsOf p).length cv)),(4,.v (.int .i64 ((varsOf p).length:Nat))),(5,.ptr 2 0),(6,.v (.int .i64 j)),(7,.ptr 5 0),(8,.own 6),(9,.own 7),(10,.v (.int .i64 k)),(11,.v (.string (bs v))),(29,.v (.slice a n c)),(30,.v (.int .i64 n)),(31,.v (.int .i64 j)),(46,.v (.slice av (varsOf p).length cv)),(47,.v (.int .i64 ((varsOf p).length:Nat))),(48,.v (.int .i64 k)),(62,.v (.slice a5 n5 c5)),(63,.v (.int .i64 n5)),(64,.v (.int .i64 i))],
       [(0,.cells 24 [.v (.slice a n c)]),(1,.cells 32 (vL zSys)),(2,.cells 32 [.v (.int .i64 (1:Nat)),.v (.int .i64 ((varsOf p).length:Nat)),.v (.int .i64 n),.v (.slice ea en ec),.own 3,.v (.slice ia ni ic),.own 4]),(3,.row 3 1 (iRows (idxP isExit (p.take (j+1)) 0))),(4,.row 78 3 css),(5,.cells 53 (vL (blkL (.slice a5 n5 c5) b))),(6,.row 3 1 (G (k+1))),(7,.row 3 1 (KK k i))],8⟩,
      fun i H'=>H'=H5∧i≤b.2.1.length,fun i=>b.2.1.length - i,⟨0,[(0,0),(1,1),(2,2),(3,3),(4,4),(5,5),(6,6),(7,7)],?_,rfl,Nat.zero_le _⟩,?_⟩
     ·have e0:=hKK0 k
      (repeat' (first|exact trivial|refine⟨?_,?_⟩|exact rfl|assumption))
     rintro i H7 _ ⟨rfl,hi⟩;have hrl3:=hKKl k i (by omega) hi;refine⟨fun h=>?_,fun h=>?_⟩
     ·have hil:i<b.2.1.length:=by have:=dt h;omega
      refine name_k b.2.1[i] fun s hs=>?_
      have hss:b.2.1[i]?=some s:=by rw[hs];exact List.getElem?_eq_getElem hil
      refine stmt_k (hr5.up hle5) hss fun ad3 q3 hh3 _=>?_
      refine⟨ad3,⟨by omega,by omega,q3⟩,?_⟩;refine⟨_,hh3,?_⟩;refine⟨fun h=>?_,fun h=>?_⟩
      ·have hk3:¬s.1=3:=nt h;refine⟨fun h=>?_,fun h=>?_⟩
       ·have hsv:s.2.1.l=v:=dt h;have e:=hKK1 k i s v hss hvv hk3 hsv;refine⟨⟨by show (_+1)*8≤140737488355328;omega,by show _+1≤9223372036854775807;omega⟩,?_⟩;refine⟨⟨by omega,by omega⟩,i+1,[(0,0),(1,1),(2,2),(3,3),(4,4),(5,5),(6,6),(7,10)],?_,⟨rfl,hil⟩,by dsimp only;omega⟩
        (repeat' (first|exact trivial|refine⟨?_,?_⟩|exact rfl|assumption))
       ·have hsv:¬s.2.1.l=v:=df h;have e:=hKK2 k i s v hss hvv (fun h=>hsv h.2);refine⟨⟨by omega,by omega⟩,i+1,[(0,0),(1,1),(2,2),(3,3),(4,4),(5,5),(6,6),(7,7)],?_,⟨rfl,hil⟩,by dsimp only;omega⟩
        (repeat' (first|exact trivial|refine⟨?_,?_⟩|exact rfl|assumption))
      ·have hk3:s.1=3:=nf h;have e:=hKK2 k i s v hss hvv (fun h=>h.1 hk3);refine⟨⟨by omega,by omega⟩,i+1,[(0,0),(1,1),(2,2),(3,3),(4,4),(5,5),(6,6),(7,7)],?_,⟨rfl,hil⟩,by dsimp only;omega⟩
       (repeat' (first|exact trivial|refine⟨?_,?_⟩|exact rfl|assumption))
     ·have hil:i=b.2.1.length:=by have:=df h;omega
      subst hil;have e2:=hKKn k;refine⟨⟨by omega,by omega⟩,k+1,[(0,0),(1,1),(2,2),(3,3),(4,4),(5,5),(6,6),(7,7)],?_,⟨hle5,hkl⟩,by dsimp only;omega⟩
      (repeat' (first|exact trivial|refine⟨?_,?_⟩|exact rfl|assumption))
   ·have hkl2:k=(varsOf p).length:=by have:=df h;omega
    subst hkl2;refine⟨none,?_⟩
    refine region_plan (α:=List (List Value)) ?_ ?_
     (.two 1 4 (.one [2,4,6,7,8,9] [0,2,3,5,6,1,4,7,8,9,10,11,12]) (.two 1 7 (.one [2,4,6,7,8,9] [0,2,3,5,6,4,1,7,8,9,10,11,12]) (.two 1 9 (.one [2,4,6,7,8,9] [0,2,3,5,6,4,7,8,1,9,10,11,12]) (.one [2,4,6,7,8,9] [0,2,3,5,6,4,7,8,9,1,10,11,12]))))
     (fun c'=>⟨[(1,.ptr 0 0),(2,.ptr 1 0),(3,.v (.slice av (varsOf p).length cv)),(4,.v (.int .i64 ((varsOf p).length:Nat))),(5,.ptr 2 0),(29,.v (.slice a n c)),(30,.v (.int .i64 n)),(31,.v (.int .i64 j))],
      [(0,.cells 24 [.v (.slice a n c)]),(1,.cells 32 (vL zSys)),(2,.cells 32 [.v (.int .i64 (1:Nat)),.v (.int .i64 ((varsOf p).length:Nat)),.v (.int .i64 n),.v (.slice ea en ec),.own 3,.v (.slice ia ni ic),.own 4]),(3,.row 3 1 (iRows (idxP isExit (p.take (j+1)) 0))),(4,.row 78 3 c')],5⟩)
     (fun c' H'=>Le H5 H'∧RC (α:=Bt.TrB) H' c' (((lsysOf p).T.map Bt.TrB.mk).take (j+1))) (by kernel_rfl) ?_ ?_
    ·exact⟨cx_ok.tt,cx_ok.eqs⟩
    ·exact cx_mix
    ·refine⟨?_,?_⟩
     ·intro v6 H6 hle6 hv6
      have hv6:RowAt H6 v6 1 (iRows (genL (varsOf p) b (varsOf p).length)):=by rw[←hG];exact hv6
      obtain⟨a7,n7,c7,rfl,hr7⟩:=RL.of_row (α:=Int) hv6 (rc_iRows (genL_in (varsOf p) b (by omega)))
      refine r10of_spec (w:=(varsOf p).length) (by omega) hr7 fun g1 g2 g3 H7 hle7 hg7=>?_
      intro v8 H8 hle8 hv8
      have hv8:RowAt H8 v8 1 (iRows (killL (varsOf p) b (varsOf p).length)):=by rw[←hKL];exact hv8
      obtain⟨a8,n8,c8,rfl,hr8⟩:=RL.of_row (α:=Int) hv8 (rc_iRows (killL_in (varsOf p) b (by omega)))
      refine r10of_spec (w:=(varsOf p).length) (by omega) hr8 fun k1 k2 k3 H9 hle9 hk9=>?_
      refine⟨⟨by show (css.length+1)*72≤140737488355328;omega,by show css.length+1≤9223372036854775807;omega⟩,?_⟩;have hl9:=((hle6.le.trans hle7).trans hle8.le).trans hle9
      have htr:Bt.TrR H9 (trF (varsOf p) b) ⟨g1,g2,g3,k1,k2,k3⟩:=by rw[htF];exact⟨hg7.up (hle8.le.trans hle9),hk9⟩
      exact⟨css++[Bt.trV ⟨g1,g2,g3,k1,k2,k3⟩],[(0,0),(1,1),(2,2),(3,3),(4,9)],by (repeat' (first|exact trivial|refine⟨?_,?_⟩|exact rfl|assumption)),hl9,by rw[lsysT_take hbb];exact trb_snoc (RC.up hrc (hle5.trans hl9)) htr⟩
     ·refine⟨?_,?_⟩
      ·intro v6 H6 hle6 hv6
       have hv6:RowAt H6 v6 1 (iRows (genL (varsOf p) b (varsOf p).length)):=by rw[←hG];exact hv6
       obtain⟨a7,n7,c7,rfl,hr7⟩:=RL.of_row (α:=Int) hv6 (rc_iRows (genL_in (varsOf p) b (by omega)))
       refine r10of_spec (w:=(varsOf p).length) (by omega) hr7 fun g1 g2 g3 H7 hle7 hg7=>?_
       intro v8 H8 hle8 hv8
       have hv8:RowAt H8 v8 1 (iRows (killL (varsOf p) b (varsOf p).length)):=by rw[←hKL];exact hv8
       obtain⟨a8,n8,c8,rfl,hr8⟩:=RL.of_row (α:=Int) hv8 (rc_iRows (killL_in (varsOf p) b (by omega)))
       refine r10of_spec (w:=(varsOf p).length) (by omega) hr8 fun k1 k2 k3 H9 hle9 hk9=>?_
       refine⟨⟨by show (css.length+1)*72≤140737488355328;omega,by show css.length+1≤9223372036854775807;omega⟩,?_⟩;have hl9:=((hle6.le.trans hle7).trans hle8.le).trans hle9
       have htr:Bt.TrR H9 (trF (varsOf p) b) ⟨g1,g2,g3,k1,k2,k3⟩:=by rw[htF];exact⟨hg7.up (hle8.le.trans hle9),hk9⟩
       exact⟨css++[Bt.trV ⟨g1,g2,g3,k1,k2,k3⟩],[(0,0),(1,1),(2,2),(3,3),(4,9)],by (repeat' (first|exact trivial|refine⟨?_,?_⟩|exact rfl|assumption)),hl9,by rw[lsysT_take hbb];exact trb_snoc (RC.up hrc (hle5.trans hl9)) htr⟩
      ·refine⟨?_,?_⟩
       ·intro v6 H6 hle6 hv6
        have hv6:RowAt H6 v6 1 (iRows (genL (varsOf p) b (varsOf p).length)):=by rw[←hG];exact hv6
        obtain⟨a7,n7,c7,rfl,hr7⟩:=RL.of_row (α:=Int) hv6 (rc_iRows (genL_in (varsOf p) b (by omega)))
        refine r10of_spec (w:=(varsOf p).length) (by omega) hr7 fun g1 g2 g3 H7 hle7 hg7=>?_
        intro v8 H8 hle8 hv8
        have hv8:RowAt H8 v8 1 (iRows (killL (varsOf p) b (varsOf p).length)):=by rw[←hKL];exact hv8
        obtain⟨a8,n8,c8,rfl,hr8⟩:=RL.of_row (α:=Int) hv8 (rc_iRows (killL_in (varsOf p) b (by omega)))
        refine r10of_spec (w:=(varsOf p).length) (by omega) hr8 fun k1 k2 k3 H9 hle9 hk9=>?_
        refine⟨⟨by show (css.length+1)*72≤140737488355328;omega,by show css.length+1≤9223372036854775807;omega⟩,?_⟩;have hl9:=((hle6.le.trans hle7).trans hle8.le).trans hle9
        have htr:Bt.TrR H9 (trF (varsOf p) b) ⟨g1,g2,g3,k1,k2,k3⟩:=by rw[htF];exact⟨hg7.up (hle8.le.trans hle9),hk9⟩
        exact⟨css++[Bt.trV ⟨g1,g2,g3,k1,k2,k3⟩],[(0,0),(1,1),(2,2),(3,3),(4,9)],by (repeat' (first|exact trivial|refine⟨?_,?_⟩|exact rfl|assumption)),hl9,by rw[lsysT_take hbb];exact trb_snoc (RC.up hrc (hle5.trans hl9)) htr⟩
       ·intro v6 H6 hle6 hv6
        have hv6:RowAt H6 v6 1 (iRows (genL (varsOf p) b (varsOf p).length)):=by rw[←hG];exact hv6
        obtain⟨a7,n7,c7,rfl,hr7⟩:=RL.of_row (α:=Int) hv6 (rc_iRows (genL_in (varsOf p) b (by omega)))
        refine r10of_spec (w:=(varsOf p).length) (by omega) hr7 fun g1 g2 g3 H7 hle7 hg7=>?_
        intro v8 H8 hle8 hv8
        have hv8:RowAt H8 v8 1 (iRows (killL (varsOf p) b (varsOf p).length)):=by rw[←hKL];exact hv8
        obtain⟨a8,n8,c8,rfl,hr8⟩:=RL.of_row (α:=Int) hv8 (rc_iRows (killL_in (varsOf p) b (by omega)))
        refine r10of_spec (w:=(varsOf p).length) (by omega) hr8 fun k1 k2 k3 H9 hle9 hk9=>?_
        refine⟨⟨by show (css.length+1)*72≤140737488355328;omega,by show css.length+1≤9223372036854775807;omega⟩,?_⟩;have hl9:=((hle6.le.trans hle7).trans hle8.le).trans hle9
        have htr:Bt.TrR H9 (trF (varsOf p) b) ⟨g1,g2,g3,k1,k2,k3⟩:=by rw[htF];exact⟨hg7.up (hle8.le.trans hle9),hk9⟩
        exact⟨css++[Bt.trV ⟨g1,g2,g3,k1,k2,k3⟩],[(0,0),(1,1),(2,2),(3,3),(4,9)],by (repeat' (first|exact trivial|refine⟨?_,?_⟩|exact rfl|assumption)),hl9,by rw[lsysT_take hbb];exact trb_snoc (RC.up hrc (hle5.trans hl9)) htr⟩
    rintro c' H9 _ ⟨hle9,hrc9⟩;refine⟨⟨by omega,by omega⟩,(j+1,c'),[(0,0),(1,1),(2,2),(3,3),(4,4)],?_,⟨(hle4.trans hle5).trans hle9,hlt,hrc9⟩,by dsimp only;omega⟩
    (repeat' (first|exact trivial|refine⟨?_,?_⟩|exact rfl|assumption))
 ·have hjl:j=p.length:=by have:=df h;dsimp only at this;omega
  rw[hjl,List.take_of_length_le (by omega)]at hrc;rw[hjl,List.take_length];intro v1 H5 hle5 hv1;obtain⟨na,nn,nc,rfl,hr1⟩:=rI_all hv1 (idxP_in _ _ _ (by omega));intro v3 H7 hle7 hv3
  refine of_row_k (α:=Bt.TrB) hv3 (RC.up hrc (hle5.le.trans hle7.le)) fun ta tn tc ev3 hr3=>?_
  subst ev3;have h57:=hle5.le.trans hle7.le
  have hsys:Bt.SysR H7 (lsysOf p) ⟨ea,en,ec,na,nn,nc,ia,ni,ic,ta,tn,tc⟩ :=
   ⟨hze.up (hle4.trans h57),hr1.up hle7.le,hzi.up (hle4.trans h57),hr3⟩
  have hK:=hK ⟨ea,en,ec,na,nn,nc,ia,ni,ic,ta,tn,tc⟩ H7 (hle.trans h57) hsys;have e2:(lsysOf p).m=n:=hn.symm;rw[Bt.sysA,Bt.sysV,e2]at hK;exact hK
end Go.Proofs
end
section
namespace Go.Proofs
open Go.Sy
set_option maxRecDepth 20000
set_option maxHeartbeats 4000000
end Go.Proofs
end
section
namespace Go.Proofs
open Go.Sy
set_option maxRecDepth 20000
set_option maxHeartbeats 4000000
theorem texts4_spec {l:List Bs8} {a a2:Option Addr} {n c n2 k2:Nat} {H:Hp} {K:Value→Hp→Prop} (ha:RL H a n c (ens l)) (hb:RL H a2 n2 k2 (ens l)) (hK:K (.bool true) H):Does Tryz.prog 10 [.slice a n c,.slice a2 n2 k2] H K:=by
 have hn:=ha.n_eq;have hn2:=hb.n_eq;have hmx:=ha.le;rw[List.length_map]at hn hn2;refine spec_of cx_ok cx_mix rfl Tryz.func10 Tryz.call10 Tryz.ntmps10 Tryz.results10 rfl rfl ?_;refine⟨(fun h=>absurd (nt h) (by omega)),fun _=>?_⟩
 refine⟨Nat,fun i=>⟨[(0,.v (.slice a n c)),(1,.v (.slice a2 n2 k2)),(12,.v (.int .i64 n)),(13,.v (.int .i64 i))],[],0⟩,
  fun i H'=>H'=H∧i≤l.length,fun i=>l.length - i,⟨0,[],?_,rfl,Nat.zero_le _⟩,?_⟩
 ·(repeat' (first|exact trivial|refine⟨?_,?_⟩|exact rfl|assumption))
 rintro i H1 _ ⟨rfl,hi⟩;refine⟨fun h=>?_,fun h=>?_⟩
 ·have hlt:i<l.length:=by have:=dt h;omega
  have ex:=List.getElem?_eq_getElem hlt
  refine str_k ha ex fun ad q1 hh _=>?_
  refine str_k hb ex fun ad2 q2 hh2 _=>?_
  refine⟨some ([],[0,1,2,3,4,5,6,7,8]),by kernel_rfl,?_⟩;refine⟨ad,⟨by omega,by omega,q1⟩,?_⟩;refine⟨_,hh,?_⟩;refine⟨ad2,⟨by omega,by omega,q2⟩,?_⟩;refine⟨_,hh2,?_⟩;refine⟨(fun h=>absurd h (by simp)),fun _=>?_⟩;refine⟨⟨by omega,by omega⟩,i+1,[],?_,⟨rfl,hlt⟩,by dsimp only;omega⟩
  (repeat' (first|exact trivial|refine⟨?_,?_⟩|exact rfl|assumption))
 ·exact hK
namespace Bt
theorem same16_spec {t:Wd×Wd} {z y:TA} {H:Hp} {K:Value→Hp→Prop} (hz:TrR H t z) (hy:TrR H t y) (hK:K (.bool true) H):Does Tryz.prog 34 [trA z,trA y] H K:=by
 refine spec_of cx_ok cx_mix rfl Tryz.func34 Tryz.call34 Tryz.ntmps34 Tryz.results34 rfl rfl ?_;refine⟨(fun h=>absurd rfl (nt h)),fun _=>?_⟩
 refine⟨Nat,fun i=>⟨[(2,.ptr 0 0),(3,.ptr 1 0),(15,.v (.int .i64 (0:Nat))),(16,.v (.int .i64 i))],[(0,.cells 78 (vL (trV z))),(1,.cells 78 (vL (trV y)))],2⟩,
  fun i H'=>H'=H∧i≤0,fun i=>0,⟨0,[(0,0),(1,1)],?_,rfl,Nat.zero_le _⟩,?_⟩
 ·(repeat' (first|exact trivial|refine⟨?_,?_⟩|exact rfl|assumption))
 rintro i H1 _ ⟨rfl,hi⟩;refine⟨fun h=>?_,fun h=>?_⟩
 ·have:=dt h;omega
 ·refine same10_spec hz.g hy.g ?_;refine⟨fun _=>?_,(fun h=>by simp at h)⟩;refine same10_spec hz.k hy.k ?_;exact kbool hK (by simp)
theorem alike_spec {s:SyB} {z y:SA} {H:Hp} {K:Value→Hp→Prop} (hz:SysR H s z) (hy:SysR H s y) (hK:K (.bool true) H):Does Tryz.prog 9 [sysA s z,sysA s y] H K:=by
 have hn:=hz.t.n_eq;have hn2:=hy.t.n_eq;have hmx:=hz.t.le;rw[List.length_map]at hn hn2;refine spec_of cx_ok cx_mix rfl Tryz.func9 Tryz.call9 Tryz.ntmps9 Tryz.results9 rfl rfl ?_;refine⟨fun _=>?_,(fun h=>by simp at h)⟩;refine⟨fun _=>?_,(fun h=>by simp at h)⟩;refine⟨fun _=>?_,(fun h=>by simp at h)⟩;refine same_spec hz.e hy.e ?_;refine⟨fun _=>?_,(fun h=>by simp at h)⟩;refine ints_spec hz.n hy.n ?_;refine⟨fun _=>?_,(fun h=>by simp at h)⟩;refine same10_spec hz.i hy.i ?_;refine⟨fun _=>?_,(fun h=>by simp at h)⟩;refine⟨(fun h=>absurd (nt h) (by omega)),fun _=>?_⟩
 refine⟨Nat,fun i=>⟨[(2,.ptr 0 0),(3,.ptr 1 0),(60,.v (.int .i64 z.tn)),(61,.v (.int .i64 i))],[(0,.cells 32 (vL (sysV s z))),(1,.cells 32 (vL (sysV s y)))],2⟩,
  fun i H'=>H'=H∧i≤s.T.length,fun i=>s.T.length - i,⟨0,[(0,0),(1,1)],?_,rfl,Nat.zero_le _⟩,?_⟩
 ·(repeat' (first|exact trivial|refine⟨?_,?_⟩|exact rfl|assumption))
 rintro i H1 _ ⟨rfl,hi⟩;refine⟨fun h=>?_,fun h=>?_⟩
 ·have hlt:i<s.T.length:=by have:=dt h;omega
  have ex:=List.getElem?_eq_getElem hlt
  refine trans_k hz.t ex fun ad z1 q1 hh hr=>?_
  refine trans_k hy.t ex fun ad2 z2 q2 hh2 hr2=>?_
  refine⟨some ([],[0,1,2,3,4,5,6,7,8,9,10,11]),by kernel_rfl,?_⟩;refine⟨ad,⟨by omega,by omega,q1⟩,?_⟩;refine⟨_,hh,?_⟩;refine⟨ad2,⟨by omega,by omega,q2⟩,?_⟩;refine⟨_,hh2,?_⟩;refine same16_spec hr hr2 ?_;refine⟨(fun h=>by cases h),fun _=>?_⟩;refine⟨⟨by omega,by omega⟩,i+1,[(0,0),(1,1)],?_,⟨rfl,hlt⟩,by dsimp only;omega⟩
  (repeat' (first|exact trivial|refine⟨?_,?_⟩|exact rfl|assumption))
 ·exact hK
end Bt
end Go.Proofs
end
section
namespace Go.Proofs
open Go.Sy
set_option maxRecDepth 20000
set_option maxHeartbeats 4000000
def agree (V:List Bs8) (P:Nat→Bs8→Prop) (e1 e2:List Nm):Prop :=
 e1.length=V.length∧e2.length=V.length∧∀(m:Nat) (v:Bs8),V[m]?=some v→P m v→e1[m]?=e2[m]?
end Go.Proofs
end
