/- Part 'M27' of the proof (Sf1, P3, Q1, Q2, Q3, Q4, Q5, P4, P5, Q6, R1, R2, R3): lemmas, each with its own conditions in its own statement. -/
import Derived.Test.YthmicpkjickejaaGreatRRM14
import Derived.Test.YthmicpkjickejaaGreatRRM17
section
namespace Go.Proofs
open Go.Sy Go.Sort Go.Shelf
set_option maxRecDepth 20000
theorem flat_get {k:Nat}:∀(l:List (List Value)),(∀x∈l,x.length=k)→∀i j,i<l.length→j<k→l.flatten[i*k+j]?=(l[i]?.bind fun x=>x[j]?)
 | [],_,i,j,hi,_=>absurd hi (Nat.not_lt_zero i)
 | x::r,h,i,j,hi,hj=>by
  have hx:=h x List.mem_cons_self;rw[List.flatten_cons]
  match i with
  | 0=>rw[Nat.zero_mul,Nat.zero_add,List.getElem?_append_left (by omega)];rfl
  | i+1 =>
   have e:(i+1)*k+j=k+(i*k+j):=by rw[Nat.add_mul,Nat.one_mul];omega
   rw[e,List.getElem?_append_right (by omega),hx,Nat.add_sub_cancel_left];simp only[List.length_cons]at hi;rw[flat_get r (fun y hy=>h y (List.mem_cons_of_mem _ hy)) i j (by omega) hj]
   rfl
theorem flat_len {k:Nat}:∀(l:List (List Value)),(∀x∈l,x.length=k)→l.flatten.length=l.length*k
 | [],_=>by simp
 | x::r,h=>by
  rw[List.flatten_cons,List.length_append,h x List.mem_cons_self,flat_len r (fun y hy=>h y (List.mem_cons_of_mem _ hy)),List.length_cons,Nat.add_mul,Nat.one_mul];omega
theorem flatK_eq {α:Type} [Inhabited α] (enc:α→List Value) {k:Nat} (hk:∀x,(enc x).length=k) (l:List α):(flatK enc k l.toArray).toList=(l.map enc).flatten:=by
 have hl:∀x∈l.map enc,x.length=k:=fun x hx=>by
  obtain⟨y,_,rfl⟩:=List.mem_map.1 hx;exact hk y
 have hlen:=flat_len _ hl;rw[List.length_map]at hlen
 have hs:(flatK enc k l.toArray).toList.length=l.length*k:=by rw[Array.length_toList,size_flatK];simp
 apply List.ext_getElem?;intro t
 by_cases ht:t<l.length*k
 ·have hk0:0<k:=by
   rcases Nat.eq_zero_or_pos k with h | h
   ·subst h;omega
   ·exact h
  have hdm:t / k*k+t % k=t:=by rw[Nat.mul_comm];exact Nat.div_add_mod t k
  have hi:t / k<l.length:=Nat.div_lt_of_lt_mul (by rw[Nat.mul_comm];exact ht);have hj:t % k<k:=Nat.mod_lt _ hk0;have h1:=flat_get (l.map enc) hl (t / k) (t % k) (by rw[List.length_map];exact hi) hj;rw[hdm]at h1;rw[h1,List.getElem?_map,List.getElem?_eq_getElem hi];have h2:=get_flatK enc k l.toArray t (by simpa using ht)
  have h3:t<(flatK enc k l.toArray).size:=by rw[size_flatK];simpa using ht
  rw[Array.getElem?_toList,Array.getElem?_eq_getElem h3,←getElem!_pos (flatK enc k l.toArray) t h3,h2]
  have h4:l.toArray[t / k]! = l[t / k]:=by rw[getElem!_pos l.toArray (t / k) (by simpa using hi)];simp
  have h5:t % k<(enc l[t / k]).length:=by rw[hk];exact hj
  rw[h4,getElem!_pos (enc l[t / k]) (t % k) h5,Option.map_some,Option.bind_some,List.getElem?_eq_getElem h5]
 ·rw[List.getElem?_eq_none (by omega),List.getElem?_eq_none (by omega)]
theorem get!_toList {a:Array Value} {j:Nat} (h:j<a.size):a.toList[j]?=some a[j]!:=by
 rw[Array.getElem?_toList,Array.getElem?_eq_getElem h,getElem!_pos a j h]
theorem sort_spec {α:Type} [Inhabited α] {ρr:Ren} {f g:FuncId} {e:TypeId} {k:Nat} (L:SlLaysF0.n6 Tryz.prog ρr) (ef:ρr.f 6=f) (hc:∀args w,(callFunc f args).run Tryz.prog w = .ok (.enter f args) w)
  (aE:∀w,(isAgg (ρr.t 24)).run Tryz.prog w = .ok true w) (zE:∀w,(Go.sizeOf (ρr.t 24)).run Tryz.prog w = .ok k w) (enc:α→List Value) (hk:∀x,(enc x).length=k) (h1:∀x,∀v∈enc x,v.oneCell'=true)
  (cf:α→α→Int) (hO:SWO (ltOf cf)) (hT:∀x y,(ltOf cf) x y=false→(ltOf cf) y x=false→x=y) (hcmp:∀x y:α,Does Tryz.prog g [.agg (enc x).toArray,.agg (enc y).toArray] (fun _=>none) fun v _=>v = .int .i64 (cf x y))
  {l:List α} (hl:l.length<4611686018427387904) {bx:List (Nat×Bx)} {nx b:Nat} (hb:lk bx b=some (.row e k (l.map enc))) {H:Hp} {K:SV→St→Hp→Prop}
  (hK:K (.tup []) ⟨[],(b,.row e k ((l.mergeSort fun x y=>!(ltOf cf) y x).map enc))::bx,nx⟩ H):DoesG Tryz.prog f [.own b,.fn g []] bx nx H K:=by
 subst ef;have hperm:=List.mergeSort_perm l (fun x y=>!(ltOf cf) y x);have hsl:(l.mergeSort fun x y=>!(ltOf cf) y x).length=l.length:=hperm.length_eq;refine doesG_turn hc hb (by rw[List.length_map,List.length_map,hsl]) (fun x hx=>?_) (fun w ρ hm=>?_) hK
 ·obtain⟨y,_,rfl⟩:=List.mem_map.1 hx;exact⟨hk y,h1 y⟩
 have hbox:=(hm.ok _ _ hb).2.1;obtain⟨⟨hfl,hv⟩,hall,hvb⟩:=hbox;rw[List.length_map]at hv
 rcases hv with ⟨hv,h0⟩ | ⟨q,cap,cur,hv,_,hcell,hcap,hmax,hsz,hcur⟩
 ·have hnil:l=[]:=List.eq_nil_of_length_eq_zero h0;subst hnil;have hh:=AnyF.slices_SortFunc_none L none 0 (.func (.func g) #[] #[]) w;show Calls Tryz.prog (ρr.f 6) #[ρ.val b,.func (.func g) #[] #[]] w _;rw[hv]
  refine hh.mono fun ev w' ⟨e1,e2⟩=>?_
  subst e2;refine⟨e1,rfl,rfl,OD.refl _,Nat.le_refl _,fun _ _ _=>rfl,?_⟩;exact⟨by simp,.inl ⟨rfl,by simp⟩⟩
 ·have hqs:q<w.heap.size:=(Array.getElem?_eq_some_iff.1 hcell).1;show Calls Tryz.prog (ρr.f 6) #[ρ.val b,.func (.func g) #[] #[]] w _;have hfk:=flatK_eq enc hk l
  have hfs:(flatK enc k l.toArray).size=l.length*k:=by rw[size_flatK];simp
  have hlk:l.length*k≤cur.size:=by rw[hsz];exact Nat.mul_le_mul_right _ hcap
  have hH:HoldsK enc k w q 0 l.toArray:=by
   intro j hj;rw[hfs]at hj
   have hj2:j<cur.size:=by omega
   constructor
   ·have e1:cur.toList[j]?=some (flatK enc k l.toArray)[j]!:=by
     rw[←get!_toList (by rw[hfs];exact hj),hfk,←hcur,List.getElem?_take_of_lt hj]
    rw[Nat.zero_add];simp only[World.cell?,hcell];rw[←Array.getElem?_toList];exact e1
   ·simp only[World.frozen?,hcell];simp
  have hcl:CmpLays Tryz.prog g #[] enc k cf q 0 l.toArray.size w:=by
   intro m os dk _ x y;have:=(hcmp x y).2 (sortWorldK enc k w q 0 m dk os) (fun _ _ h=>by cases h)
   refine this.mono fun ev w' ⟨v,H',e1,e2,_,_,_,e6⟩=>⟨by rw[e1,e2],grow_of e6⟩
  have hlsz:l.toArray.size=l.length:=by simp
  have hmain:=AnyQ.slices_SortFunc_total L k aE zE enc hk h1 cf hO g #[] q 0 cap l.toArray w (hcmp default default).1 hcl hH hqs (by rw[hlsz];exact hl) hT;rw[hlsz]at hmain;rw[hv]
  refine hmain.mono fun ev w' ⟨e1,n,os,e2⟩=>?_
  subst e2
  obtain⟨sl,hsle⟩:∃sl,sl=l.mergeSort fun x y=>!(ltOf cf) y x:=⟨_,rfl⟩
  have hlist:l.toArray.toList=l:=by simp
  rw[hlist,←hsle];rw[←hsle]at hsl;have hsf:=flatK_eq enc hk sl
  have hss:(flatK enc k sl.toArray).size=l.length*k:=by rw[size_flatK];simp [hsl]
  have hheap:∀b',b'<w.heap.size→(sortWorldK enc k w q 0 n sl.toArray os).heap[b']?=if b'=q then some (.cells (putCells id 0 (flatK enc k sl.toArray) cur) e (0,0)) else w.heap[b']?:=by
   intro b' hb';show ((w.heap.modify q _)++os)[b']?=_;rw[Array.getElem?_append_left (by simpa using hb'),Array.getElem?_modify]
   by_cases hq:q=b'
   ·subst hq
    rw[if_pos rfl,if_pos rfl,hcell];rfl
   ·rw[if_neg hq,if_neg (fun h=>hq h.symm)]
  refine⟨e1,rfl,rfl,⟨rfl,Nat.le_add_right _ _⟩,?_,fun b' hb' hn=>?_,?_⟩
  ·show w.heap.size≤((w.heap.modify q _)++os).size;simp
  ·rw[hheap b' hb',if_neg];rintro rfl;exact hn (by show (ρ.val b).ownBlock=some b';rw[hv];rfl)
  ·refine⟨?_,.inr ⟨q,cap,putCells id 0 (flatK enc k sl.toArray) cur,?_,Nat.zero_le _,?_,?_,hmax,?_,?_⟩⟩
   ·rw[flat_len (k:=k) _ (fun x hx=>by obtain⟨y,_,rfl⟩:=List.mem_map.1 hx;exact hk y)]
   ·rw[List.length_map,hsl]
   ·rw[hheap q hqs,if_pos rfl]
   ·rw[List.length_map,hsl];exact hcap
   ·simp [putCells,hsz]
   ·rw[List.length_map,hsl,←hsf];apply List.ext_getElem?;intro j
    by_cases hj:j<l.length*k
    ·have hj2:j<cur.size:=by omega
     rw[List.getElem?_take_of_lt hj,get!_toList (a:=flatK enc k sl.toArray) (by rw[hss];exact hj)];simp only[putCells,Array.getElem?_toList,Array.getElem?_mapIdx,Array.getElem?_eq_getElem hj2,Option.map_some];rw[if_pos ⟨Nat.zero_le _,by rw[hss];omega⟩]
     rfl
    ·rw[List.getElem?_eq_none (by rw[List.length_take];omega),List.getElem?_eq_none (by rw[Array.length_toList,hss];omega)]
theorem orI_neg {a b:Int}:orI a b<0↔a<0∨(a=0∧b<0):=by
 unfold orI;split
 ·constructor
  ·exact .inl
  ·rintro (h | ⟨h,_⟩)
   ·exact h
   ·contradiction
 ·rename_i h
  have h0:a=0:=by omega
  constructor
  ·exact fun h'=>.inr ⟨h0,h'⟩
  ·rintro (h' | ⟨_,h'⟩)
   ·omega
   ·exact h'
theorem cmpI_neg {x y:Int}:cmpI x y<0↔x<y:=by
 unfold cmpI;split
 ·omega
 ·split<;>omega
theorem cmpI_zero {x y:Int}:cmpI x y=0↔x=y:=by
 unfold cmpI;split
 ·omega
 ·split<;>omega
theorem cmpE_neg {a b:Edg}:cmpE a b<0↔LO.lt a b:=by
 rw[cmpE,orI_neg,cmpI_neg,cmpI_zero,cmpI_neg];exact Iff.rfl
theorem ltE_true {a b:Edg}:ltOf cmpE a b=true↔LO.lt a b:=by rw[ltOf,decide_eq_true_eq,cmpE_neg]
theorem ltE_false {a b:Edg}:ltOf cmpE a b=false↔¬LO.lt a b:=by rw[←ltE_true];simp
theorem swoE:SWO (ltOf cmpE):=⟨fun x=>ltE_false.2 (LO.irrefl x),fun x y z h1 h2=>ltE_true.2 (LO.trans (ltE_true.1 h1) (ltE_true.1 h2)),fun x y z h1 h2=>by
 rw[ltE_false]at *;intro h3
 rcases LO.tri x y with h | h | h
 ·exact h1 h
 ·subst h;exact h2 h3
 ·rcases LO.tri y z with h' | h' | h'
  ·exact h2 h'
  ·subst h';exact h1 h3
  ·exact LO.irrefl _ (LO.trans h3 (LO.trans h' h))⟩
abbrev eEnc (x:Edg):List Value:=[.int .i64 x.1,.int .i64 x.2]
theorem sortE_spec {l:List Edg} (hl:l.length<8000000000000) {H:Hp} {K:SV→St→Hp→Prop}
  (hK:∀l':List Edg,l'.length=l.length→gComp l'=gSort l→K (.tup []) ⟨[],[(0,.row 113 2 (eRows l')),(0,.row 113 2 (eRows l))],1⟩ H):DoesG Tryz.prog 143 [.own 0,.fn 144 []] [(0,.row 113 2 (eRows l))] 1 H K:=by
 refine sort_spec (e:=113) (k:=2) Tryz.laysSf75 rfl Tryz.call143 Tryz.isAgg113 Tryz.sizeOf113 eEnc (fun _=>rfl) (fun x v hv=>?_) cmpE swoE (fun x y h1 h2=>?_) (fun x y=>cmpE_spec fun _ _=>rfl) (l:=l) (by omega) rfl ?_
 ·simp only[List.mem_cons,List.not_mem_nil,or_false]at hv
  rcases hv with rfl | rfl<;>rfl
 ·rw[ltE_false]at h1 h2
  rcases LO.tri x y with h | h | h
  ·exact absurd h h1
  ·exact h
  ·exact absurd h h2
 ·have hp:=List.mergeSort_perm l (fun x y=>!(ltOf cmpE) y x);refine hK _ hp.length_eq (gComp_sort (fun t=>hp.mem_iff) ?_);have:=List.pairwise_mergeSort (le:=fun x y=>!(ltOf cmpE) y x) (fun a b c h1 h2=>?_) (fun a b=>?_) l
  ·exact this.imp fun h=>by
    simp only[Bool.not_eq_eq_eq_not,Bool.not_true]at h;exact ltE_false.1 h
  ·simp only[Bool.not_eq_eq_eq_not,Bool.not_true]at h1 h2 ⊢;exact swoE.ntrans _ _ _ h2 h1
  ·cases h:ltOf cmpE b a with
   | false=>rfl
   | true =>
    have:ltOf cmpE a b=false:=ltE_false.2 (LO.asymm (ltE_true.1 h))
    rw[this];rfl
end Go.Proofs
end
section
namespace Go.Proofs
open Go.Sy
set_option maxRecDepth 20000
theorem rE_all {x:Value} {H:Hp} {l:List Edg} (h:RowAt H x 2 (eRows l)) (hl:∀e∈l,inI e.1∧inI e.2):∃a n c,x = .slice a n c∧RL H a n c l:=RL.of_row (α:=Edg) h (rc_eRows hl)
theorem sorted_spec {l:List Edg} (hl:l.length<8000000000000) {a:Option Addr} {n c:Nat} {H:Hp} {K:Value→Hp→Prop} (ha:RL H a n c l)
  (hK:∀a1 n1 c1 H',Le H H'→RL H' a1 n1 c1 (gSort l)→K (.slice a1 n1 c1) H'):Does Tryz.prog 97 [.slice a n c] H K:=by
 refine spec_of cx_ok cx_mix rfl Tryz.func97 Tryz.call97 Tryz.ntmps97 Tryz.results97 rfl rfl ?_;refine⟨[],rfl,cloneE_spec ha hl ?_⟩;refine⟨[0],rfl,sortE_spec hl fun l' hl' hg=>?_⟩;refine⟨[0],rfl,compE_spec (l:=l') (by omega) ?_⟩;intro x H1 hle hx;rw[hg]at hx;obtain⟨a1,n1,c1,rfl,hr⟩:=rE_all hx (fun e he=>RLe_all ha e ((gSort_mem l e).1 he));exact hK _ _ _ _ hle hr
theorem eRows_snoc (m:List Edg) (x:Edg):eRows m++[[.int .i64 x.1,.int .i64 x.2]]=eRows (m++[x]):=by simp
theorem refSorted_spec {l:List Edg} (hl:l.length<8000000) {a:Option Addr} {n c:Nat} {H:Hp} {K:Value→Hp→Prop} (ha:RL H a n c l)
  (hK:∀a1 n1 c1 H',Le H H'→RL H' a1 n1 c1 (gSort l)→K (.slice a1 n1 c1) H'):Does Tryz.prog 126 [.slice a n c] H K:=by
 have hn1:=ha.n_eq;refine spec_of cx_ok cx_mix rfl Tryz.func126 Tryz.call126 Tryz.ntmps126 Tryz.results126 rfl rfl ?_
 refine⟨Nat,fun i=>⟨[(3,.own 0),(10,.v (.slice a n c)),(11,.v (.int .i64 n)),(12,.v (.int .i64 i))],[(0,.row 113 2 (eRows ((l.take i).foldl (fun o x=>gIns x o) [])))],1⟩,
  fun i H'=>H'=H∧i≤l.length,fun i=>l.length - i,⟨0,[],?_,rfl,by omega⟩,?_⟩
 ·exact⟨⟨⟨rfl,rfl,rfl⟩,rfl,rfl,rfl,trivial⟩,⟨rfl,trivial⟩⟩
 rintro i H1 _ ⟨rfl,hi⟩;refine⟨fun h=>?_,fun h=>?_⟩
 ·have hlt:i<l.length:=by have:=dt h;omega
  obtain⟨ad,cs,q1,hh,r1⟩:=ha.elem (List.getElem?_eq_getElem hlt);obtain⟨rfl,hr1,hr2⟩:=edge_open r1
  obtain⟨s,hs⟩:∃s,s=l[i]:=⟨_,rfl⟩
  rw[←hs]at hh hr1 hr2
  obtain⟨o,ho⟩:∃o,o=(l.take i).foldl (fun o x=>gIns x o) []:=⟨_,rfl⟩
  rw[←ho];refine⟨ad,⟨by omega,by omega,q1⟩,?_⟩;refine⟨_,hh,?_⟩
  have hol:o.length≤i:=by
   have:=gSort_len (l.take i);rw[List.length_take,Nat.min_eq_left (by omega)]at this
   rw[ho];exact this
  have heo:(eRows o).length=o.length:=List.length_map _
  obtain⟨q,hq⟩:∃q:Nat→List Edg×Bool,∀j,q j=(o.take j).foldl (gStep s) ([],false):=⟨_,fun _=>rfl⟩
  have hq0:q 0=([],false):=hq 0
  refine⟨Nat,fun j=>⟨[(3,.own 0),(5,.ptr 1 0),(6,.own 2),(7,.v (.bool (q j).2)),(10,.v (.slice a n c)),(11,.v (.int .i64 n)),(12,.v (.int .i64 i)),(16,.own 0),(17,.v (.int .i64 o.length)),(18,.v (.int .i64 j))],
    [(0,.row 113 2 (eRows o)),(1,.cells 113 [.v (.int .i64 s.1),.v (.int .i64 s.2)]),(2,.row 113 2 (eRows (q j).1))],3⟩,
   fun j H'=>H'=H1∧j≤o.length∧(q j).1.length≤2*j,fun j=>o.length - j,⟨0,[(0,0),(1,1)],?_,rfl,by omega,by rw[hq0];simp⟩,?_⟩
  ·have e17:SV.v (.int .i64 ((eRows o).length:Nat))=SV.v (.int .i64 (o.length:Nat)):=by rw[heo]
   have e7:Value.bool (q 0).2 = .bool false:=by rw[hq0]
   have e2:eRows (q 0).1=[]:=by rw[hq0];rfl
   exact⟨⟨rfl,⟨rfl,rfl⟩,⟨rfl,rfl,e2⟩,e7,rfl,rfl,rfl,rfl,e17,rfl,trivial⟩,⟨rfl,⟨rfl,rfl,trivial⟩,e2,trivial⟩⟩
  rintro j H2 _ ⟨rfl,hj,hol2⟩;refine⟨fun h=>?_,fun h=>?_⟩
  ·have hltj:j<o.length:=by have:=dt h;omega
   have hgj:(eRows o)[((j:Int)).toNat]?=some [.int .i64 o[j].1,.int .i64 o[j].2]:=by rw[Int.toNat_natCast];exact eRows_get hltj
   have hstep:=take_step (gStep s) ([],false) (List.getElem?_eq_getElem hltj);rw[←hq,←hq]at hstep;refine⟨⟨by omega,by rw[heo];omega⟩,?_⟩;refine⟨_,hgj,?_⟩;have hel:(eRows (q j).1).length=(q j).1.length:=List.length_map _;refine⟨fun h=>?_,fun h=>?_⟩
   ·have hd:(q j).2=false:=by simpa using h
    refine⟨fun h=>?_,fun h=>?_⟩
    ·have h1:¬s.1<o[j].1:=df h;refine⟨fun h=>?_,fun h=>?_⟩
     ·have h2:s.1=o[j].1:=dt h;refine⟨fun h=>?_,fun h=>?_⟩
      ·have h3:s.2≤o[j].2:=dt h
       have hle:LO.lt s o[j]∨s=o[j]:=by
               rcases Int.lt_or_eq_of_le h3 with h4 | h4
               ·exact .inl (.inr ⟨h2,h4⟩)
               ·exact .inr (Prod.ext h2 h4)
       refine⟨fun h=>?_,fun h=>?_⟩
       ·have hne:s≠o[j]:=fun e=>by rw[←e]at h;simp at h
        refine⟨⟨by show ((eRows (q j).1).length+1)*16≤_;omega,by show (eRows (q j).1).length+1≤_;omega⟩,?_⟩;refine⟨⟨by show ((eRows (q j).1++[[Value.int .i64 s.1,Value.int .i64 s.2]]).length+1)*16≤_;rw[List.length_append,List.length_singleton];omega,by show (eRows (q j).1++[[Value.int .i64 s.1,Value.int .i64 s.2]]).length+1≤_;rw[List.length_append,List.length_singleton];omega⟩,?_⟩
        have hst:q (j+1)=((q j).1++[s]++[o[j]],true):=by rw[hstep,gStep,if_pos ⟨hd,hle⟩,if_neg hne]
        have erow:eRows (q j).1++[[.int .i64 s.1,.int .i64 s.2]]++[[.int .i64 o[j].1,.int .i64 o[j].2]]=eRows (q (j+1)).1:=by rw[hst,eRows_snoc];exact eRows_snoc _ _
        have ed:Value.bool (q (j+1)).2 = .bool true:=by rw[hst]
        refine⟨⟨by omega,by omega⟩,j+1,[(0,0),(1,1),(2,7)],?_,⟨rfl,by omega,by rw[hst,List.length_append,List.length_append];simp only[List.length_cons,List.length_nil];omega⟩,by dsimp only;omega⟩;exact⟨⟨rfl,⟨rfl,rfl⟩,rfl,ed,rfl,rfl,rfl,rfl,rfl,rfl,trivial⟩,⟨rfl,⟨rfl,rfl,trivial⟩,erow,trivial⟩⟩
       ·have he:s=o[j]:=by
         rw[Prod.ext_iff]
         simpa using h
        refine⟨⟨by show ((eRows (q j).1).length+1)*16≤_;omega,by show (eRows (q j).1).length+1≤_;omega⟩,?_⟩
        have hst:q (j+1)=((q j).1++[o[j]],true):=by rw[hstep,gStep,if_pos ⟨hd,hle⟩,if_pos he]
        have erow:eRows (q j).1++[[.int .i64 o[j].1,.int .i64 o[j].2]]=eRows (q (j+1)).1:=by rw[hst];exact eRows_snoc _ _
        have ed:Value.bool (q (j+1)).2 = .bool true:=by rw[hst]
        refine⟨⟨by omega,by omega⟩,j+1,[(0,0),(1,1),(2,5)],?_,⟨rfl,by omega,by rw[hst,List.length_append];simp only[List.length_cons,List.length_nil];omega⟩,by dsimp only;omega⟩;exact⟨⟨rfl,⟨rfl,rfl⟩,rfl,ed,rfl,rfl,rfl,rfl,rfl,rfl,trivial⟩,⟨rfl,⟨rfl,rfl,trivial⟩,erow,trivial⟩⟩
      ·have h3:¬s.2≤o[j].2:=df h
       have hn:¬(LO.lt s o[j]∨s=o[j]):=by
        rintro ((h4 | ⟨_,h4⟩) | h4)
        ·exact h1 h4
        ·exact h3 (Int.le_of_lt h4)
        ·rw[←h4]at h3;exact h3 (Int.le_refl _)
       refine⟨⟨by show ((eRows (q j).1).length+1)*16≤_;omega,by show (eRows (q j).1).length+1≤_;omega⟩,?_⟩
       have hst:q (j+1)=((q j).1++[o[j]],(q j).2):=by rw[hstep,gStep,if_neg (fun hh=>hn hh.2)]
       have erow:eRows (q j).1++[[.int .i64 o[j].1,.int .i64 o[j].2]]=eRows (q (j+1)).1:=by rw[hst];exact eRows_snoc _ _
       have ed:SV.v (.bool (q j).2)=SV.v (.bool (q (j+1)).2):=by rw[hst]
       refine⟨⟨by omega,by omega⟩,j+1,[(0,0),(1,1),(2,5)],?_,⟨rfl,by omega,by rw[hst,List.length_append];simp only[List.length_cons,List.length_nil];omega⟩,by dsimp only;omega⟩;exact⟨⟨rfl,⟨rfl,rfl⟩,rfl,ed,rfl,rfl,rfl,rfl,rfl,rfl,trivial⟩,⟨rfl,⟨rfl,rfl,trivial⟩,erow,trivial⟩⟩
     ·have h2:¬s.1=o[j].1:=df h
      have hn:¬(LO.lt s o[j]∨s=o[j]):=by
       rintro ((h4 | ⟨h4,_⟩) | h4)
       ·exact h1 h4
       ·exact h2 h4
       ·exact h2 (by rw[←h4])
      refine⟨⟨by show ((eRows (q j).1).length+1)*16≤_;omega,by show (eRows (q j).1).length+1≤_;omega⟩,?_⟩
      have hst:q (j+1)=((q j).1++[o[j]],(q j).2):=by rw[hstep,gStep,if_neg (fun hh=>hn hh.2)]
      have erow:eRows (q j).1++[[.int .i64 o[j].1,.int .i64 o[j].2]]=eRows (q (j+1)).1:=by rw[hst];exact eRows_snoc _ _
      have ed:SV.v (.bool (q j).2)=SV.v (.bool (q (j+1)).2):=by rw[hst]
      refine⟨⟨by omega,by omega⟩,j+1,[(0,0),(1,1),(2,5)],?_,⟨rfl,by omega,by rw[hst,List.length_append];simp only[List.length_cons,List.length_nil];omega⟩,by dsimp only;omega⟩;exact⟨⟨rfl,⟨rfl,rfl⟩,rfl,ed,rfl,rfl,rfl,rfl,rfl,rfl,trivial⟩,⟨rfl,⟨rfl,rfl,trivial⟩,erow,trivial⟩⟩
    ·have h1:s.1<o[j].1:=dt h;have hle:LO.lt s o[j]∨s=o[j]:=.inl (.inl h1);refine⟨fun h=>?_,fun h=>?_⟩
     ·have hne:s≠o[j]:=fun e=>by rw[←e]at h;simp at h
      refine⟨⟨by show ((eRows (q j).1).length+1)*16≤_;omega,by show (eRows (q j).1).length+1≤_;omega⟩,?_⟩;refine⟨⟨by show ((eRows (q j).1++[[Value.int .i64 s.1,Value.int .i64 s.2]]).length+1)*16≤_;rw[List.length_append,List.length_singleton];omega,by show (eRows (q j).1++[[Value.int .i64 s.1,Value.int .i64 s.2]]).length+1≤_;rw[List.length_append,List.length_singleton];omega⟩,?_⟩
      have hst:q (j+1)=((q j).1++[s]++[o[j]],true):=by rw[hstep,gStep,if_pos ⟨hd,hle⟩,if_neg hne]
      have erow:eRows (q j).1++[[.int .i64 s.1,.int .i64 s.2]]++[[.int .i64 o[j].1,.int .i64 o[j].2]]=eRows (q (j+1)).1:=by rw[hst,eRows_snoc];exact eRows_snoc _ _
      have ed:Value.bool (q (j+1)).2 = .bool true:=by rw[hst]
      refine⟨⟨by omega,by omega⟩,j+1,[(0,0),(1,1),(2,7)],?_,⟨rfl,by omega,by rw[hst,List.length_append,List.length_append];simp only[List.length_cons,List.length_nil];omega⟩,by dsimp only;omega⟩;exact⟨⟨rfl,⟨rfl,rfl⟩,rfl,ed,rfl,rfl,rfl,rfl,rfl,rfl,trivial⟩,⟨rfl,⟨rfl,rfl,trivial⟩,erow,trivial⟩⟩
     ·have he:s=o[j]:=by
       rw[Prod.ext_iff]
       simpa using h
      refine⟨⟨by show ((eRows (q j).1).length+1)*16≤_;omega,by show (eRows (q j).1).length+1≤_;omega⟩,?_⟩
      have hst:q (j+1)=((q j).1++[o[j]],true):=by rw[hstep,gStep,if_pos ⟨hd,hle⟩,if_pos he]
      have erow:eRows (q j).1++[[.int .i64 o[j].1,.int .i64 o[j].2]]=eRows (q (j+1)).1:=by rw[hst];exact eRows_snoc _ _
      have ed:Value.bool (q (j+1)).2 = .bool true:=by rw[hst]
      refine⟨⟨by omega,by omega⟩,j+1,[(0,0),(1,1),(2,5)],?_,⟨rfl,by omega,by rw[hst,List.length_append];simp only[List.length_cons,List.length_nil];omega⟩,by dsimp only;omega⟩;exact⟨⟨rfl,⟨rfl,rfl⟩,rfl,ed,rfl,rfl,rfl,rfl,rfl,rfl,trivial⟩,⟨rfl,⟨rfl,rfl,trivial⟩,erow,trivial⟩⟩
   ·have hd:(q j).2=true:=by simpa using h
    refine⟨⟨by show ((eRows (q j).1).length+1)*16≤_;omega,by show (eRows (q j).1).length+1≤_;omega⟩,?_⟩
    have hst:q (j+1)=((q j).1++[o[j]],(q j).2):=by rw[hstep,gStep,if_neg (fun hh=>by rw[hd]at hh;cases hh.1)]
    have erow:eRows (q j).1++[[.int .i64 o[j].1,.int .i64 o[j].2]]=eRows (q (j+1)).1:=by rw[hst];exact eRows_snoc _ _
    have ed:SV.v (.bool (q j).2)=SV.v (.bool (q (j+1)).2):=by rw[hst]
    refine⟨⟨by omega,by omega⟩,j+1,[(0,0),(1,1),(2,5)],?_,⟨rfl,by omega,by rw[hst,List.length_append];simp only[List.length_cons,List.length_nil];omega⟩,by dsimp only;omega⟩;exact⟨⟨rfl,⟨rfl,rfl⟩,rfl,ed,rfl,rfl,rfl,rfl,rfl,rfl,trivial⟩,⟨rfl,⟨rfl,rfl,trivial⟩,erow,trivial⟩⟩
  ·have hjl:j=o.length:=by have:=df h;omega
   have hput:(l.take (i+1)).foldl (fun o x=>gIns x o) []=gIns s o:=by rw[take_step _ _ (List.getElem?_eq_getElem hlt),←hs,←ho]
   have hfin:gIns s o=if (q j).2 then (q j).1 else (q j).1++[s]:=by rw[←gPut_ins,gPut,gFold,hq j,hjl,List.take_length]
   have hel:(eRows (q j).1).length=(q j).1.length:=List.length_map _;refine⟨fun h=>?_,fun h=>?_⟩
   ·have hd:(q j).2=false:=by simpa using h
    rw[hd]at hfin;refine⟨⟨by show ((eRows (q j).1).length+1)*16≤_;omega,by show (eRows (q j).1).length+1≤_;omega⟩,?_⟩
    have erow:eRows (q j).1++[[.int .i64 s.1,.int .i64 s.2]]=eRows ((l.take (i+1)).foldl (fun o x=>gIns x o) []):=by rw[hput,hfin];exact eRows_snoc _ _
    refine⟨⟨by omega,by omega⟩,i+1,[(0,4)],?_,⟨rfl,by omega⟩,by dsimp only;omega⟩;exact⟨⟨rfl,rfl,rfl,rfl,trivial⟩,⟨erow,trivial⟩⟩
   ·have hd:(q j).2=true:=by simpa using h
    rw[hd]at hfin
    have erow:eRows (q j).1=eRows ((l.take (i+1)).foldl (fun o x=>gIns x o) []):=by rw[hput,hfin];rfl
    refine⟨⟨by omega,by omega⟩,i+1,[(0,2)],?_,⟨rfl,by omega⟩,by dsimp only;omega⟩;exact⟨⟨rfl,rfl,rfl,rfl,trivial⟩,⟨erow,trivial⟩⟩
 ·have hil:i=l.length:=by have:=df h;omega
  intro x H2 hle2 hx;rw[hil,List.take_length]at hx;obtain⟨a1,n1,c1,rfl,hr⟩:=rE_all hx (fun e he=>RLe_all ha e ((gSort_mem l e).1 he));exact hK _ _ _ _ hle2 hr
end Go.Proofs
end
section
namespace Go.Proofs
open Go.Sy
set_option maxRecDepth 20000
def nodeI (m x:Int):Bool:=decide (0≤x∧x<m)
def goesE (m x:Int) (e:Edg):Bool:=decide (e.1=x)&&nodeI m x&&nodeI m e.2
def nxt (m x:Int) (l:List Edg):List Int:=(l.filter (goesE m x)).map (·.2)
theorem nxt_mem {m x:Int} {l:List Edg} {y:Int}:y∈nxt m x l↔(x,y)∈l∧nodeI m x=true∧nodeI m y=true:=by
 simp only[nxt,List.mem_map,List.mem_filter,goesE,Bool.and_eq_true,decide_eq_true_eq];constructor
 ·rintro⟨⟨a,b⟩,⟨h1,⟨rfl,h2⟩,h3⟩,rfl⟩;exact⟨h1,h2,h3⟩
 ·rintro⟨h1,h2,h3⟩;exact⟨(x,y),⟨h1,⟨rfl,h2⟩,h3⟩,rfl⟩
end Go.Proofs
end
section
namespace Go.Proofs
open Go.Sy
set_option maxRecDepth 20000
abbrev swp (e:Edg):Edg:=(e.2,e.1)
abbrev revL (l:List Edg):List Edg:=l.map swp
theorem revL_snoc (m:List Edg) (x:Edg):revL (m++[x])=revL m++[swp x]:=List.map_append
theorem reverse_spec {l:List Edg} (hl:l.length≤1000000) {a:Option Addr} {n c:Nat} {H:Hp} {K:Value→Hp→Prop} (ha:RL H a n c l)
  (hK:∀a1 n1 c1 H',Le H H'→RL H' a1 n1 c1 (gSort (revL l))→K (.slice a1 n1 c1) H'):Does Tryz.prog 52 [.slice a n c] H K:=by
 have hn1:=ha.n_eq;refine spec_of cx_ok cx_mix rfl Tryz.func52 Tryz.call52 Tryz.ntmps52 Tryz.results52 rfl rfl ?_
 refine⟨Nat,fun i=>⟨[(3,.own 0),(6,.v (.slice a n c)),(7,.v (.int .i64 n)),(8,.v (.int .i64 i))],[(0,.row 113 2 (eRows (revL (l.take i))))],1⟩,
  fun i H'=>H'=H∧i≤l.length,fun i=>l.length - i,⟨0,[],?_,rfl,by omega⟩,?_⟩
 ·exact⟨⟨⟨rfl,rfl,rfl⟩,rfl,rfl,rfl,trivial⟩,⟨rfl,trivial⟩⟩
 rintro i H1 _ ⟨rfl,hi⟩;refine⟨fun h=>?_,fun h=>?_⟩
 ·have hlt:i<l.length:=by have:=dt h;omega
  obtain⟨ad,cs,q1,hh,r1⟩:=ha.elem (List.getElem?_eq_getElem hlt);obtain⟨rfl,hr1,hr2⟩:=edge_open r1
  have hel:(eRows (revL (l.take i))).length=i:=by rw[List.length_map,List.length_map,List.length_take];omega
  refine⟨ad,⟨by omega,by omega,q1⟩,?_⟩;refine⟨_,hh,?_⟩;refine⟨⟨by show ((eRows (revL (l.take i))).length+1)*16≤_;omega,by show (eRows (revL (l.take i))).length+1≤_;omega⟩,?_⟩
  have erow:eRows (revL (l.take i))++[[.int .i64 l[i].2,.int .i64 l[i].1]]=eRows (revL (l.take (i+1))):=by rw[List.take_add_one,List.getElem?_eq_getElem hlt,Option.toList_some,revL_snoc];exact eRows_snoc (revL (l.take i)) (swp l[i])
  refine⟨⟨by omega,by omega⟩,i+1,[(0,3)],?_,⟨rfl,by omega⟩,by dsimp only;omega⟩;exact⟨⟨rfl,rfl,rfl,rfl,trivial⟩,⟨erow,trivial⟩⟩
 ·have hil:i=l.length:=by have:=df h;omega
  intro x H2 hle2 hx;rw[hil,List.take_length]at hx
  obtain⟨a1,n1,c1,rfl,hr⟩:=rE_all hx (fun e he=>by
   obtain⟨e',he',rfl⟩:=List.mem_map.1 he
   exact⟨(RLe_all ha e' he').2,(RLe_all ha e' he').1⟩)
  refine sorted_spec (by rw[List.length_map];omega) hr ?_;intro a3 n3 c3 H3 hle3 hr3;exact hK _ _ _ _ (hle2.trans hle3) hr3
theorem rreverse_spec {l:List Edg} (hl:l.length≤1000000) {a:Option Addr} {n c:Nat} {H:Hp} {K:Value→Hp→Prop} (ha:RL H a n c l)
  (hK:∀a1 n1 c1 H',Le H H'→RL H' a1 n1 c1 (gSort (revL l))→K (.slice a1 n1 c1) H'):Does Tryz.prog 85 [.slice a n c] H K:=by
 have hn1:=ha.n_eq;refine spec_of cx_ok cx_mix rfl Tryz.func85 Tryz.call85 Tryz.ntmps85 Tryz.results85 rfl rfl ?_
 refine⟨Nat,fun i=>⟨[(3,.own 0),(6,.v (.slice a n c)),(7,.v (.int .i64 n)),(8,.v (.int .i64 i))],[(0,.row 113 2 (eRows (revL (l.take i))))],1⟩,
  fun i H'=>H'=H∧i≤l.length,fun i=>l.length - i,⟨0,[],?_,rfl,by omega⟩,?_⟩
 ·exact⟨⟨⟨rfl,rfl,rfl⟩,rfl,rfl,rfl,trivial⟩,⟨rfl,trivial⟩⟩
 rintro i H1 _ ⟨rfl,hi⟩;refine⟨fun h=>?_,fun h=>?_⟩
 ·have hlt:i<l.length:=by have:=dt h;omega
  obtain⟨ad,cs,q1,hh,r1⟩:=ha.elem (List.getElem?_eq_getElem hlt);obtain⟨rfl,hr1,hr2⟩:=edge_open r1
  have hel:(eRows (revL (l.take i))).length=i:=by rw[List.length_map,List.length_map,List.length_take];omega
  refine⟨ad,⟨by omega,by omega,q1⟩,?_⟩;refine⟨_,hh,?_⟩;refine⟨⟨by show ((eRows (revL (l.take i))).length+1)*16≤_;omega,by show (eRows (revL (l.take i))).length+1≤_;omega⟩,?_⟩
  have erow:eRows (revL (l.take i))++[[.int .i64 l[i].2,.int .i64 l[i].1]]=eRows (revL (l.take (i+1))):=by rw[List.take_add_one,List.getElem?_eq_getElem hlt,Option.toList_some,revL_snoc];exact eRows_snoc (revL (l.take i)) (swp l[i])
  refine⟨⟨by omega,by omega⟩,i+1,[(0,3)],?_,⟨rfl,by omega⟩,by dsimp only;omega⟩;exact⟨⟨rfl,rfl,rfl,rfl,trivial⟩,⟨erow,trivial⟩⟩
 ·have hil:i=l.length:=by have:=df h;omega
  intro x H2 hle2 hx;rw[hil,List.take_length]at hx
  obtain⟨a1,n1,c1,rfl,hr⟩:=rE_all hx (fun e he=>by
   obtain⟨e',he',rfl⟩:=List.mem_map.1 he
   exact⟨(RLe_all ha e' he').2,(RLe_all ha e' he').1⟩)
  refine refSorted_spec (by rw[List.length_map];omega) hr ?_;intro a3 n3 c3 H3 hle3 hr3;exact hK _ _ _ _ (hle2.trans hle3) hr3
end Go.Proofs
end
section
namespace Go.Proofs
open Go.Sy
set_option maxRecDepth 20000
theorem mapOK3:MapOK Tryz.prog 3 3:=⟨Maps.int_keyed (tt_ok 3 _ _ rfl).2,(tt_ok 3 _ _ rfl).2,Tryz.zeroValue3⟩
end Go.Proofs
end
section
namespace Go.Proofs
open Go.Sy
structure IsReach (m:Int) (l:List Edg) (f R:List Int):Prop where
 from':∀x∈f,nodeI m x=true→x∈R
 closed:∀x∈R,∀y∈nxt m x l,y∈R
 least:∀S:Int→Prop,(∀x∈f,nodeI m x=true→S x)→(∀x,S x→∀y∈nxt m x l,S y)→∀x∈R,S x
theorem IsReach.mem {m:Int} {l:List Edg} {f R R':List Int} (h:IsReach m l f R) (h':IsReach m l f R') (x:Int):x∈R↔x∈R' :=
 ⟨h.least (·∈R') h'.from' h'.closed x,h'.least (·∈R) h.from' h.closed x⟩
theorem IsReach.node {m:Int} {l:List Edg} {f R:List Int} (h:IsReach m l f R):∀x∈R,nodeI m x=true :=
 h.least (fun x=>nodeI m x=true) (fun _ _ h=>h) (fun _ _ _ hy=>(nxt_mem.1 hy).2.2)
theorem IsReach.again {m:Int} {l:List Edg} {f R R':List Int} (h:IsReach m l f R) (h':IsReach m l R R') (x:Int):x∈R'↔x∈R :=
 ⟨h'.least (·∈R) (fun _ hx _=>hx) h.closed x,fun hx=>h'.from' x hx (h.node x hx)⟩
end Go.Proofs
end
section
namespace Go.Proofs
open Go.Sy
set_option maxRecDepth 20000
end Go.Proofs
end
section
namespace Go.Proofs
open Go.Sy
set_option maxRecDepth 20000
abbrev nms (p:Prog):List Bs8:=p.map (·.1.l)
def eN (p:Prog) (i:Nat) (t:Bs8):List Edg:=if 0≤idxS t (nms p) 0 then [((i:Int),idxS t (nms p) 0)] else []
def eB (p:Prog) (i:Nat) (b:Block):List Edg:=(if b.2.2.1=1∨b.2.2.1=2 then eN p i b.2.2.2.2.1.l else [])++(if b.2.2.1=2 then eN p i b.2.2.2.2.2.l else [])
def eAll (p:Prog):List Block→Nat→List Edg
 | [],_=>[]
 | b::r,i=>eB p i b++eAll p r (i+1)
def edgesOf (p:Prog):List Edg:=eAll p p 0
theorem eAll_snoc (p:Prog):∀(l:List Block) (x:Block) (i:Nat),eAll p (l++[x]) i=eAll p l i++eB p (i+l.length) x
 | [],x,i=>by simp [eAll]
 | y::r,x,i=>by
  rw[List.cons_append,eAll,eAll,eAll_snoc p r x (i+1),List.length_cons,show i+1+r.length=i+(r.length+1) by omega,List.append_assoc]
theorem eAll_take {p:Prog} {i:Nat} (h:i<p.length):eAll p (p.take (i+1)) 0=eAll p (p.take i) 0++eB p i p[i]:=by
 rw[List.take_add_one,List.getElem?_eq_getElem h,Option.toList_some,eAll_snoc,Nat.zero_add,List.length_take,Nat.min_eq_left (by omega)]
theorem eN_len (p:Prog) (i:Nat) (t:Bs8):(eN p i t).length≤1:=by unfold eN;split<;>simp
theorem eB_len (p:Prog) (i:Nat) (b:Block):(eB p i b).length≤2:=by
 have h1:=eN_len p i b.2.2.2.2.1.l;have h2:=eN_len p i b.2.2.2.2.2.l;unfold eB;rw[List.length_append]
 split<;>split<;>simp<;>omega
theorem eAll_len (p:Prog):∀(l:List Block) (i:Nat),(eAll p l i).length≤2*l.length
 | [],_=>by simp [eAll]
 | b::r,i=>by
  have h1:=eB_len p i b;have h2:=eAll_len p r (i+1)
  rw[eAll,List.length_append,List.length_cons];omega
theorem eN_in {p:Prog} (hp:p.length≤12) {i:Nat} (hi:i≤12) {t:Bs8}:∀e∈eN p i t,inI e.1∧inI e.2:=by
 intro e he;unfold eN at he;have hr:=idxS_range t (nms p) 0 (by omega);rw[List.length_map]at hr;split at he
 ·simp only[List.mem_cons,List.not_mem_nil,or_false]at he;subst he;exact⟨⟨by simp only;omega,by simp only;omega⟩,by simp only;omega,by simp only;omega⟩
 ·simp at he
theorem eB_in {p:Prog} (hp:p.length≤12) {i:Nat} (hi:i≤12) {b:Block}:∀e∈eB p i b,inI e.1∧inI e.2:=by
 intro e he;unfold eB at he
 rcases List.mem_append.1 he with he | he
 ·split at he
  ·exact eN_in hp hi e he
  ·simp at he
 ·split at he
  ·exact eN_in hp hi e he
  ·simp at he
theorem eAll_in {p:Prog} (hp:p.length≤12):∀(l:List Block) (i:Nat),i+l.length≤12→∀e∈eAll p l i,inI e.1∧inI e.2
 | [],_,_,e,he=>by simp [eAll]at he
 | b::r,i,h,e,he=>by
  rw[List.length_cons]at h;rw[eAll]at he
  rcases List.mem_append.1 he with he | he
  ·exact eB_in hp (by omega) e he
  ·exact eAll_in hp r (i+1) (by omega) e he
abbrev cBlk (b:Block) (a2:Option Addr) (n2 c2:Nat):List SV:=[.v (.string (bs b.1.l)),.v (.slice a2 n2 c2),.v (.int .i64 b.2.2.1),.v (.string (bs b.2.2.2.1.1.l)),.v (.int .i64 b.2.2.2.1.2.1),.v (.int .i64 b.2.2.2.1.2.2),.v (.string (bs b.2.2.2.2.1.l)),.v (.string (bs b.2.2.2.2.2.l))]
theorem redges_spec {p:Prog} (hp:p.length≤12) {a:Option Addr} {n c:Nat} {H:Hp} {K:Value→Hp→Prop} (ha:RL H a n c p)
 (hK:∀a1 n1 c1 H',Le H H'→RL H' a1 n1 c1 (gSort (edgesOf p))→K (.slice a1 n1 c1) H'):Does Tryz.prog 86 [.agg #[.slice a n c]] H K:=by
 have hn1:=ha.n_eq;have hmx:=ha.le;refine spec_of cx_ok cx_mix rfl Tryz.func86 Tryz.call86 Tryz.ntmps86 Tryz.results86 rfl rfl ?_
 refine⟨Nat,fun i=>⟨[(1,.ptr 0 0),(3,.own 1),(9,.v (.slice a n c)),(10,.v (.int .i64 n)),(11,.v (.int .i64 i))],[(0,.cells 24 [.v (.slice a n c)]),(1,.row 113 2 (eRows (eAll p (p.take i) 0)))],2⟩,
  fun i H'=>H'=H∧i≤p.length,fun i=>p.length - i,⟨0,[(0,0)],?_,rfl,by omega⟩,?_⟩
 ·exact⟨⟨⟨rfl,rfl⟩,⟨rfl,rfl,rfl⟩,rfl,rfl,rfl,trivial⟩,⟨⟨rfl,trivial⟩,rfl,trivial⟩⟩
 rintro i H1 _ ⟨rfl,hi⟩;refine⟨fun h=>?_,fun h=>?_⟩
 ·have hlt:i<p.length:=by have:=dt h;omega
  obtain⟨ad,cs,q1,hh,r1⟩:=ha.elem (List.getElem?_eq_getElem hlt);obtain⟨a2,n2,c2,rfl,hr2,hnm,htm⟩:=block_open r1;have hst:=eAll_take hlt;have hlen:=eAll_len p (p.take i) 0;rw[List.length_take,Nat.min_eq_left (by omega)]at hlen;have hel:(eRows (eAll p (p.take i) 0)).length=(eAll p (p.take i) 0).length:=List.length_map _;refine⟨ad,⟨by omega,by omega,q1⟩,?_⟩;refine⟨_,hh,?_⟩;refine⟨fun h=>?_,fun h=>?_⟩
  ·have h1:¬p[i].2.2.1=1:=df h;refine⟨fun h=>?_,fun h=>?_⟩
   ·have h2:p[i].2.2.1=2:=dt h;refine block6_spec hp ha ?_;refine⟨fun h=>?_,fun h=>?_⟩
    ·have hx:0≤idxS p[i].2.2.2.2.1.l (nms p) 0:=dt h;refine⟨⟨by show ((eRows (eAll p (p.take i) 0)).length+1)*16≤_;omega,by show (eRows (eAll p (p.take i) 0)).length+1≤_;omega⟩,?_⟩;refine⟨fun h=>?_,fun h=>absurd h2 (df h)⟩;refine block6_spec hp ha ?_;refine⟨fun h=>?_,fun h=>?_⟩
     ·have hy:0≤idxS p[i].2.2.2.2.2.l (nms p) 0:=dt h;refine⟨⟨by show ((eRows (eAll p (p.take i) 0)++[[Value.int .i64 (i:Int),Value.int .i64 (idxS p[i].2.2.2.2.1.l (nms p) 0)]]).length+1)*16≤_;rw[List.length_append,List.length_singleton];omega,by show (eRows (eAll p (p.take i) 0)++[[Value.int .i64 (i:Int),Value.int .i64 (idxS p[i].2.2.2.2.1.l (nms p) 0)]]).length+1≤_;rw[List.length_append,List.length_singleton];omega⟩,?_⟩
      have hB:eB p i p[i]=[((i:Int),idxS p[i].2.2.2.2.1.l (nms p) 0),((i:Int),idxS p[i].2.2.2.2.2.l (nms p) 0)]:=by rw[eB,if_pos (.inr h2),if_pos h2,eN,eN,if_pos hx,if_pos hy];rfl
      have erow:eRows (eAll p (p.take i) 0)++[[.int .i64 (i:Int),.int .i64 (idxS p[i].2.2.2.2.1.l (nms p) 0)]]++[[.int .i64 (i:Int),.int .i64 (idxS p[i].2.2.2.2.2.l (nms p) 0)]]=eRows (eAll p (p.take (i+1)) 0):=by rw[hst,hB];simp
      refine⟨⟨by omega,by omega⟩,i+1,[(0,0),(1,6)],?_,⟨rfl,by omega⟩,by dsimp only;omega⟩;exact⟨⟨⟨rfl,rfl⟩,rfl,rfl,rfl,rfl,trivial⟩,⟨⟨rfl,trivial⟩,erow,trivial⟩⟩
     ·have hy:¬0≤idxS p[i].2.2.2.2.2.l (nms p) 0:=df h
      have hB:eB p i p[i]=[((i:Int),idxS p[i].2.2.2.2.1.l (nms p) 0)]:=by rw[eB,if_pos (.inr h2),if_pos h2,eN,eN,if_pos hx,if_neg hy];rfl
      have erow:eRows (eAll p (p.take i) 0)++[[.int .i64 (i:Int),.int .i64 (idxS p[i].2.2.2.2.1.l (nms p) 0)]]=eRows (eAll p (p.take (i+1)) 0):=by rw[hst,hB];simp
      refine⟨⟨by omega,by omega⟩,i+1,[(0,0),(1,4)],?_,⟨rfl,by omega⟩,by dsimp only;omega⟩;exact⟨⟨⟨rfl,rfl⟩,rfl,rfl,rfl,rfl,trivial⟩,⟨⟨rfl,trivial⟩,erow,trivial⟩⟩
    ·have hx:¬0≤idxS p[i].2.2.2.2.1.l (nms p) 0:=df h;refine⟨fun h=>?_,fun h=>absurd h2 (df h)⟩;refine block6_spec hp ha ?_;refine⟨fun h=>?_,fun h=>?_⟩
     ·have hy:0≤idxS p[i].2.2.2.2.2.l (nms p) 0:=dt h;refine⟨⟨by show ((eRows (eAll p (p.take i) 0)).length+1)*16≤_;omega,by show (eRows (eAll p (p.take i) 0)).length+1≤_;omega⟩,?_⟩
      have hB:eB p i p[i]=[((i:Int),idxS p[i].2.2.2.2.2.l (nms p) 0)]:=by rw[eB,if_pos (.inr h2),if_pos h2,eN,eN,if_neg hx,if_pos hy];rfl
      have erow:eRows (eAll p (p.take i) 0)++[[.int .i64 (i:Int),.int .i64 (idxS p[i].2.2.2.2.2.l (nms p) 0)]]=eRows (eAll p (p.take (i+1)) 0):=by rw[hst,hB];simp
      refine⟨⟨by omega,by omega⟩,i+1,[(0,0),(1,4)],?_,⟨rfl,by omega⟩,by dsimp only;omega⟩;exact⟨⟨⟨rfl,rfl⟩,rfl,rfl,rfl,rfl,trivial⟩,⟨⟨rfl,trivial⟩,erow,trivial⟩⟩
     ·have hy:¬0≤idxS p[i].2.2.2.2.2.l (nms p) 0:=df h
      have hB:eB p i p[i]=[]:=by rw[eB,if_pos (.inr h2),if_pos h2,eN,eN,if_neg hx,if_neg hy];rfl
      have erow:eRows (eAll p (p.take i) 0)=eRows (eAll p (p.take (i+1)) 0):=by rw[hst,hB];simp
      refine⟨⟨by omega,by omega⟩,i+1,[(0,0),(1,1)],?_,⟨rfl,by omega⟩,by dsimp only;omega⟩;exact⟨⟨⟨rfl,rfl⟩,rfl,rfl,rfl,rfl,trivial⟩,⟨⟨rfl,trivial⟩,erow,trivial⟩⟩
   ·have h2:¬p[i].2.2.1=2:=df h;refine⟨fun h=>absurd (dt h) h2,fun _=>?_⟩
    have hB:eB p i p[i]=[]:=by rw[eB,if_neg (fun h=>h.elim h1 h2),if_neg h2];rfl
    have erow:eRows (eAll p (p.take i) 0)=eRows (eAll p (p.take (i+1)) 0):=by rw[hst,hB];simp
    refine⟨⟨by omega,by omega⟩,i+1,[(0,0),(1,1)],?_,⟨rfl,by omega⟩,by dsimp only;omega⟩;exact⟨⟨⟨rfl,rfl⟩,rfl,rfl,rfl,rfl,trivial⟩,⟨⟨rfl,trivial⟩,erow,trivial⟩⟩
  ·have h1:p[i].2.2.1=1:=dt h
   have h2:¬p[i].2.2.1=2:=by omega
   refine block6_spec hp ha ?_;refine⟨fun h=>?_,fun h=>?_⟩
   ·have hx:0≤idxS p[i].2.2.2.2.1.l (nms p) 0:=dt h;refine⟨⟨by show ((eRows (eAll p (p.take i) 0)).length+1)*16≤_;omega,by show (eRows (eAll p (p.take i) 0)).length+1≤_;omega⟩,?_⟩;refine⟨fun h=>absurd (dt h) h2,fun _=>?_⟩
    have hB:eB p i p[i]=[((i:Int),idxS p[i].2.2.2.2.1.l (nms p) 0)]:=by rw[eB,if_pos (.inl h1),if_neg h2,eN,if_pos hx];rfl
    have erow:eRows (eAll p (p.take i) 0)++[[.int .i64 (i:Int),.int .i64 (idxS p[i].2.2.2.2.1.l (nms p) 0)]]=eRows (eAll p (p.take (i+1)) 0):=by rw[hst,hB];simp
    refine⟨⟨by omega,by omega⟩,i+1,[(0,0),(1,4)],?_,⟨rfl,by omega⟩,by dsimp only;omega⟩;exact⟨⟨⟨rfl,rfl⟩,rfl,rfl,rfl,rfl,trivial⟩,⟨⟨rfl,trivial⟩,erow,trivial⟩⟩
   ·have hx:¬0≤idxS p[i].2.2.2.2.1.l (nms p) 0:=df h;refine⟨fun h=>absurd (dt h) h2,fun _=>?_⟩
    have hB:eB p i p[i]=[]:=by rw[eB,if_pos (.inl h1),if_neg h2,eN,if_neg hx];rfl
    have erow:eRows (eAll p (p.take i) 0)=eRows (eAll p (p.take (i+1)) 0):=by rw[hst,hB];simp
    refine⟨⟨by omega,by omega⟩,i+1,[(0,0),(1,1)],?_,⟨rfl,by omega⟩,by dsimp only;omega⟩;exact⟨⟨⟨rfl,rfl⟩,rfl,rfl,rfl,rfl,trivial⟩,⟨⟨rfl,trivial⟩,erow,trivial⟩⟩
 ·have hil:i=p.length:=by have:=df h;omega
  intro x H2 hle2 hx;rw[hil,List.take_length]at hx;obtain⟨a1,n1,c1,rfl,hr⟩:=rE_all hx (eAll_in hp p 0 (by omega));refine refSorted_spec (by have:=eAll_len p p 0;omega) hr ?_;intro a3 n3 c3 H3 hle3 hr3;exact hK _ _ _ _ (hle2.trans hle3) hr3
end Go.Proofs
end
section
namespace Go.Proofs
open Go.Sy
set_option maxRecDepth 20000
def eK (p:Prog) (i:Nat) (b:Block):Nat→List Edg
 | 0=>if b.2.2.1=1∨b.2.2.1=2 then eN p i b.2.2.2.2.1.l else []
 | 1=>if b.2.2.1=2 then eN p i b.2.2.2.2.2.l else []
 | _=>[]
theorem edges_spec {p:Prog} (hp:p.length≤12) {a:Option Addr} {n c:Nat} {H:Hp} {K:Value→Hp→Prop} (ha:RL H a n c p)
 (hK:∀a1 n1 c1 H',Le H H'→RL H' a1 n1 c1 (gSort (edgesOf p))→K (.slice a1 n1 c1) H'):Does Tryz.prog 53 [.agg #[.slice a n c]] H K:=by
 have hn1:=ha.n_eq;have hmx:=ha.le;refine spec_of cx_ok cx_mix rfl Tryz.func53 Tryz.call53 Tryz.ntmps53 Tryz.results53 rfl rfl ?_
 refine⟨Nat,fun i=>⟨[(1,.ptr 0 0),(3,.own 1),(12,.v (.slice a n c)),(13,.v (.int .i64 n)),(14,.v (.int .i64 i))],[(0,.cells 24 [.v (.slice a n c)]),(1,.row 113 2 (eRows (eAll p (p.take i) 0)))],2⟩,
  fun i H'=>H'=H∧i≤p.length,fun i=>p.length - i,⟨0,[(0,0)],?_,rfl,by omega⟩,?_⟩
 ·exact⟨⟨⟨rfl,rfl⟩,⟨rfl,rfl,rfl⟩,rfl,rfl,rfl,trivial⟩,⟨⟨rfl,trivial⟩,rfl,trivial⟩⟩
 rintro i H1 _ ⟨rfl,hi⟩;refine⟨fun h=>?_,fun h=>?_⟩
 ·have hlt:i<p.length:=by have:=dt h;omega
  obtain⟨ad,cs,q1,hh,r1⟩:=ha.elem (List.getElem?_eq_getElem hlt);obtain⟨a2,n2,c2,rfl,hr2,hnm,htm⟩:=block_open r1;have hst:=eAll_take hlt;have hlen:=eAll_len p (p.take i) 0;rw[List.length_take,Nat.min_eq_left (by omega)]at hlen
  obtain⟨b,hb⟩:∃b,b=p[i]:=⟨_,rfl⟩
  rw[←hb]at hh hst;refine⟨ad,⟨by omega,by omega,q1⟩,?_⟩;refine⟨_,hh,?_⟩
  obtain⟨R,hR⟩:∃R:Nat→List Edg,∀k,R k=eAll p (p.take i) 0++((if 0<k then eK p i b 0 else [])++(if 1<k then eK p i b 1 else [])):=⟨_,fun _=>rfl⟩
  refine⟨Nat,fun k=>⟨[(1,.ptr 0 0),(3,.own 1),(4,.v (.int .i64 i)),(5,.ptr 2 0),(12,.v (.slice a n c)),(13,.v (.int .i64 n)),(14,.v (.int .i64 i)),(25,.agg [.v (.string (bs b.2.2.2.2.1.l)),.v (.string (bs b.2.2.2.2.2.l))]),(26,.v (.int .i64 k))],[(0,.cells 24 [.v (.slice a n c)]),(1,.row 113 2 (eRows (R k))),(2,.cells 53 (cBlk b a2 n2 c2))],3⟩,
   fun k H'=>H'=H1∧k≤2,fun k=>2 - k,⟨0,[(0,0),(1,1),(2,2)],?_,rfl,by omega⟩,?_⟩
  ·have e1:eRows (eAll p (p.take i) 0)=eRows (R 0):=by rw[hR];simp
   exact⟨⟨⟨rfl,rfl⟩,rfl,rfl,⟨rfl,rfl⟩,rfl,rfl,rfl,⟨rfl,rfl⟩,rfl,trivial⟩,⟨⟨rfl,trivial⟩,e1,⟨rfl,rfl,rfl,rfl,rfl,rfl,rfl,rfl,trivial⟩,trivial⟩⟩
  rintro k H2 _ ⟨rfl,hk⟩;refine⟨fun h=>?_,fun h=>?_⟩
  ·have hk2:k<2:=by have:=dt h;omega
   obtain⟨t,ht⟩:∃t:Bs8,t=if k=0 then b.2.2.2.2.1.l else b.2.2.2.2.2.l:=⟨_,rfl⟩
   have hgt:([SV.v (.string (bs b.2.2.2.2.1.l)),.v (.string (bs b.2.2.2.2.2.l))]:List SV)[((k:Int)).toNat]?=some (.v (.string (bs t))):=by
    rw[Int.toNat_natCast,ht]
    match k,hk2 with
    | 0,_=>rfl
    | 1,_=>rfl
   refine⟨.v (.string (bs t)),⟨by omega,by omega,hgt⟩,?_⟩
   have hRs:R (k+1)=R k++eK p i b k:=by
    rw[hR,hR]
    match k,hk2 with
    | 0,_=>simp
    | 1,_=>simp
   have hRl:(eRows (R k)).length≤2*i+2:=by
    have e0:=eN_len p i b.2.2.2.2.1.l;have e1:=eN_len p i b.2.2.2.2.2.l;rw[List.length_map,hR,List.length_append,List.length_append]
    match k,hk2 with
    | 0,_=>simp;omega
    | 1,_ =>
     simp only[eK]
     split<;>split<;>simp<;>omega
   refine⟨fun h=>?_,fun h=>?_⟩
   ·have h2:¬b.2.2.1=2:=df h;refine⟨fun h=>?_,fun h=>?_⟩
    ·have h1:b.2.2.1=1:=dt h
     refine block_spec hp ha fun _ _=>?_
     refine⟨fun h=>?_,fun h=>?_⟩
     ·have hk0:k=0:=by have:=dt h;omega
      rw[if_pos hk0]at ht
      have hek:eK p i b k=eN p i t:=by rw[hk0,eK,if_pos (.inl h1),ht]
      refine⟨fun h=>?_,fun h=>?_⟩
      ·have hx:0≤idxS t (nms p) 0:=dt h
       have he:eK p i b k=[((i:Int),max (idxS t (nms p) 0) 0)]:=by rw[hek,eN,if_pos hx,Int.max_eq_left hx]
       refine⟨⟨by show ((eRows (R k)).length+1)*16≤_;omega,by show (eRows (R k)).length+1≤_;omega⟩,?_⟩
       have erow:eRows (R k)++[[.int .i64 (i:Int),.int .i64 (max (idxS t (nms p) 0) 0)]]=eRows (R (k+1)):=by rw[hRs,he];simp
       refine⟨⟨by omega,by omega⟩,k+1,[(0,0),(1,4),(2,2)],?_,⟨rfl,by omega⟩,by dsimp only;omega⟩;exact⟨⟨⟨rfl,rfl⟩,rfl,rfl,⟨rfl,rfl⟩,rfl,rfl,rfl,⟨rfl,rfl⟩,rfl,trivial⟩,⟨⟨rfl,trivial⟩,erow,⟨rfl,rfl,rfl,rfl,rfl,rfl,rfl,rfl,trivial⟩,trivial⟩⟩
      ·have hx:¬0≤idxS t (nms p) 0:=df h
       have he:eK p i b k=[]:=by rw[hek,eN,if_neg hx]
       have erow:eRows (R k)=eRows (R (k+1)):=by rw[hRs,he,List.append_nil]
       refine⟨⟨by omega,by omega⟩,k+1,[(0,0),(1,1),(2,2)],?_,⟨rfl,by omega⟩,by dsimp only;omega⟩;exact⟨⟨⟨rfl,rfl⟩,rfl,rfl,⟨rfl,rfl⟩,rfl,rfl,rfl,⟨rfl,rfl⟩,rfl,trivial⟩,⟨⟨rfl,trivial⟩,erow,⟨rfl,rfl,rfl,rfl,rfl,rfl,rfl,rfl,trivial⟩,trivial⟩⟩
     ·have hk1:k=1:=by have:=df h;omega
      have he:eK p i b k=[]:=by rw[hk1];exact if_neg h2
      have erow:eRows (R k)=eRows (R (k+1)):=by rw[hRs,he,List.append_nil]
      refine⟨⟨by omega,by omega⟩,k+1,[(0,0),(1,1),(2,2)],?_,⟨rfl,by omega⟩,by dsimp only;omega⟩;exact⟨⟨⟨rfl,rfl⟩,rfl,rfl,⟨rfl,rfl⟩,rfl,rfl,rfl,⟨rfl,rfl⟩,rfl,trivial⟩,⟨⟨rfl,trivial⟩,erow,⟨rfl,rfl,rfl,rfl,rfl,rfl,rfl,rfl,trivial⟩,trivial⟩⟩
    ·have h1:¬b.2.2.1=1:=df h
     refine block_spec hp ha fun _ _=>?_
     have he:eK p i b k=[]:=by
           match k,hk2 with
           | 0,_=>exact if_neg (fun h=>h.elim h1 h2)
           | 1,_=>exact if_neg h2
     have erow:eRows (R k)=eRows (R (k+1)):=by rw[hRs,he,List.append_nil]
     refine⟨⟨by omega,by omega⟩,k+1,[(0,0),(1,1),(2,2)],?_,⟨rfl,by omega⟩,by dsimp only;omega⟩;exact⟨⟨⟨rfl,rfl⟩,rfl,rfl,⟨rfl,rfl⟩,rfl,rfl,rfl,⟨rfl,rfl⟩,rfl,trivial⟩,⟨⟨rfl,trivial⟩,erow,⟨rfl,rfl,rfl,rfl,rfl,rfl,rfl,rfl,trivial⟩,trivial⟩⟩
   ·have h2:b.2.2.1=2:=dt h
    have hek:eK p i b k=eN p i t:=by
     match k,hk2,ht with
     | 0,_,ht=>rw[ht,eK,if_pos (.inr h2)];rfl
     | 1,_,ht=>rw[ht,eK,if_pos h2];rfl
    refine block_spec hp ha fun _ _=>?_
    refine⟨fun h=>?_,fun h=>?_⟩
    ·have hx:0≤idxS t (nms p) 0:=dt h
     have he:eK p i b k=[((i:Int),max (idxS t (nms p) 0) 0)]:=by rw[hek,eN,if_pos hx,Int.max_eq_left hx]
     refine⟨⟨by show ((eRows (R k)).length+1)*16≤_;omega,by show (eRows (R k)).length+1≤_;omega⟩,?_⟩
     have erow:eRows (R k)++[[.int .i64 (i:Int),.int .i64 (max (idxS t (nms p) 0) 0)]]=eRows (R (k+1)):=by rw[hRs,he];simp
     refine⟨⟨by omega,by omega⟩,k+1,[(0,0),(1,4),(2,2)],?_,⟨rfl,by omega⟩,by dsimp only;omega⟩;exact⟨⟨⟨rfl,rfl⟩,rfl,rfl,⟨rfl,rfl⟩,rfl,rfl,rfl,⟨rfl,rfl⟩,rfl,trivial⟩,⟨⟨rfl,trivial⟩,erow,⟨rfl,rfl,rfl,rfl,rfl,rfl,rfl,rfl,trivial⟩,trivial⟩⟩
    ·have hx:¬0≤idxS t (nms p) 0:=df h
     have he:eK p i b k=[]:=by rw[hek,eN,if_neg hx]
     have erow:eRows (R k)=eRows (R (k+1)):=by rw[hRs,he,List.append_nil]
     refine⟨⟨by omega,by omega⟩,k+1,[(0,0),(1,1),(2,2)],?_,⟨rfl,by omega⟩,by dsimp only;omega⟩;exact⟨⟨⟨rfl,rfl⟩,rfl,rfl,⟨rfl,rfl⟩,rfl,rfl,rfl,⟨rfl,rfl⟩,rfl,trivial⟩,⟨⟨rfl,trivial⟩,erow,⟨rfl,rfl,rfl,rfl,rfl,rfl,rfl,rfl,trivial⟩,trivial⟩⟩
  ·have hk2:k=2:=by have:=df h;omega
   have e1:eRows (R k)=eRows (eAll p (p.take (i+1)) 0):=by rw[hR,hst,hk2];rfl
   refine⟨⟨by omega,by omega⟩,i+1,[(0,0),(1,1)],?_,⟨rfl,by omega⟩,by dsimp only;omega⟩;exact⟨⟨⟨rfl,rfl⟩,rfl,rfl,rfl,rfl,trivial⟩,⟨⟨rfl,trivial⟩,e1,trivial⟩⟩
 ·have hil:i=p.length:=by have:=df h;omega
  intro x H2 hle2 hx;rw[hil,List.take_length]at hx;obtain⟨a1,n1,c1,rfl,hr⟩:=rE_all hx (eAll_in hp p 0 (by omega));refine sorted_spec (by have:=eAll_len p p 0;omega) hr ?_;intro a3 n3 c3 H3 hle3 hr3;exact hK _ _ _ _ (hle2.trans hle3) hr3
end Go.Proofs
end
section
namespace Go.Proofs
open Go.Sy
set_option maxRecDepth 20000
end Go.Proofs
end
section
namespace Go.Proofs
open Go.Sy
set_option maxRecDepth 20000
theorem room {n k:Nat} (h:n≤1000000000000:=by omega) (hk:k≤64:=by decide):(n+1)*k≤140737488355328∧n+1≤9223372036854775807:=by
 have:=Nat.mul_le_mul_left (n+1) hk;omega
end Go.Proofs
end
section
namespace Go.Proofs
open Go.Sy
def bget (M:List Bool) (x:Int):Bool:=M[x.toNat]?.getD false
def relax (m:Int) (M:List Bool) (e:Edg):List Bool:=if nodeI m e.1&&nodeI m e.2&&bget M e.1 then M.set e.2.toNat true else M
def round (m:Int) (l:List Edg) (M:List Bool):List Bool:=l.foldl (relax m) M
def LeM (M M':List Bool):Prop:=M.length=M'.length∧∀i:Nat,M[i]?=some true→M'[i]?=some true
theorem LeM.refl (M:List Bool):LeM M M:=⟨rfl,fun _ h=>h⟩
theorem LeM.trans {A B C:List Bool} (h:LeM A B) (h':LeM B C):LeM A C:=⟨h.1.trans h'.1,fun i hi=>h'.2 i (h.2 i hi)⟩
theorem bget_true {M:List Bool} {x:Int}:bget M x=true↔M[x.toNat]?=some true:=by
 rw[bget]
 cases M[x.toNat]? with
 | none=>simp
 | some b=>cases b<;>simp
theorem LeM.get {M M':List Bool} (h:LeM M M') {x:Int} (hx:bget M x=true):bget M' x=true:=bget_true.2 (h.2 _ (bget_true.1 hx))
theorem LeM.set (M:List Bool) (k:Nat):LeM M (M.set k true):=by
 refine⟨(List.length_set).symm,fun i hi=>?_⟩;rw[List.getElem?_set];split
 ·rename_i e;subst e;rw[if_pos (List.getElem?_eq_some_iff.1 hi).1]
 ·exact hi
def rounds (m:Int) (l:List Edg) (M:List Bool):Nat→List Bool
 | 0=>M
 | k+1=>round m l (rounds m l M k)
def mark (m:Int) (M:List Bool) (x:Int):List Bool:=if nodeI m x then M.set x.toNat true else M
def marks (m:Int) (f:List Int) (M:List Bool):List Bool:=f.foldl (mark m) M
def told (M:List Bool) (k:Nat):List Int:=((List.range k).filter fun (j:Nat)=>bget M (j:Int)).map fun (j:Nat)=>(j:Int)
end Go.Proofs
end
section
namespace Go.Proofs
open Go.Sy
set_option maxRecDepth 20000
set_option maxHeartbeats 4000000
end Go.Proofs
end
