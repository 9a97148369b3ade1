/- Part 'M26' of the proof (Sf1, P3, P4, P5): lemmas, each with its own conditions in its own statement. -/
import Derived.Test.YtheokcjommfopaaGreatDoorM17
import Derived.Test.YtheokcjommfopaaGreatDoorM19
set_option maxRecDepth 20000
set_option maxHeartbeats 4000000
section
namespace Go.Proofs
open Go.Sy Go.Sort Go.Shelf
open Tryz
theorem gD {k:Nat}:∀(l:List (List Value)),(∀x∈l,x.length=k)→∀i j,i<l.length→j<k→l.flatten[i*k+j]?=(l[i]?.bind fun x=>x[j]?)
 | [],_,i,j,hi,_=>absurd hi (Nat.not_lt_zero i)
 | x::r,h,i,j,hi,hj=>by
  have hx:=h x List.mem_cons_self;rw[List.flatten_cons]
  match i with
  | 0=>rw[Nat.zero_mul,Nat.zero_add,List.getElem?_append_left (by omega)];rfl
  | i+1 =>
   have e:(i+1)*k+j=k+(i*k+j):=by rw[Nat.add_mul,Nat.one_mul];omega
   rw[e,List.getElem?_append_right (by omega),hx,Nat.add_sub_cancel_left];simp only[List.length_cons]at hi;rw[gD r (fun y hy=>h y (List.mem_cons_of_mem _ hy)) i j (by omega) hj]
   rfl
theorem iI {k:Nat}:∀(l:List (List Value)),(∀x∈l,x.length=k)→l.flatten.length=l.length*k
 | [],_=>by simp
 | x::r,h=>by
  rw[List.flatten_cons,List.length_append,h x List.mem_cons_self,iI r (fun y hy=>h y (List.mem_cons_of_mem _ hy)),List.length_cons,Nat.add_mul,Nat.one_mul];omega
theorem Dz {α:Type} [Inhabited α] (enc:α→List Value) {k:Nat} (hk:∀x,(enc x).length=k) (l:List α):(flatK enc k l.toArray).toList=(l.map enc).flatten:=by
 have hl:∀x∈l.map enc,x.length=k:=fun x hx=>by
  obtain⟨y,_,rfl⟩:=List.mem_map.1 hx;exact hk y
 have hlen:=iI _ hl;rw[List.length_map]at hlen
 have hs:(flatK enc k l.toArray).toList.length=l.length*k:=by rw[Array.length_toList,size_flatK];simp
 apply List.ext_getElem?;intro t
 by_cases ht:t<l.length*k
 ·have Ie:0<k:=by
   rcases Nat.eq_zero_or_pos k with h | h
   ·subst h;omega
   ·exact h
  have YY:t / k*k+t % k=t:=by rw[Nat.mul_comm];exact Nat.div_add_mod t k
  have hi:t / k<l.length:=Nat.div_lt_of_lt_mul (by rw[Nat.mul_comm];exact ht);have hj:t % k<k:=Nat.mod_lt _ Ie;have h1:=gD (l.map enc) hl (t / k) (t % k) (by rw[List.length_map];exact hi) hj;rw[YY]at h1;rw[h1,List.getElem?_map,aL hi];have h2:=get_flatK enc k l.toArray t (by simpa using ht)
  have h3:t<(flatK enc k l.toArray).size:=by rw[size_flatK];simpa using ht
  rw[Array.getElem?_toList,Array.getElem?_eq_getElem h3,←getElem!_pos (flatK enc k l.toArray) t h3,h2]
  have h4:l.toArray[t / k]! = l[t / k]:=by rw[getElem!_pos l.toArray (t / k) (by simpa using hi)];simp
  have h5:t % k<(enc l[t / k]).length:=by rw[hk];exact hj
  rw[h4,getElem!_pos (enc l[t / k]) (t % k) h5,Option.map_some,Option.bind_some,aL h5]
 ·rw[List.getElem?_eq_none (by omega),List.getElem?_eq_none (by omega)]
theorem uD {a:Array Value} {j:Nat} (h:j<a.size):a.toList[j]?=some a[j]!:=by
 rw[Array.getElem?_toList,Array.getElem?_eq_getElem h,getElem!_pos a j h]
theorem JQ {α:Type} [Inhabited α] {ρr:Ren} {f g:FuncId} {e:TypeId} {k:Nat} (L:SlLaysF0.n6 prog ρr) (ef:ρr.f 6=f) (hc:∀args w,(callFunc f args).run prog w = .ok (.enter f args) w)
  (aE:∀w,(isAgg (ρr.t 24)).run prog w = .ok true w) (zE:∀w,(Go.sizeOf (ρr.t 24)).run prog w = .ok k w) (enc:α→List Value) (hk:∀x,(enc x).length=k) (h1:∀x,∀v∈enc x,v.oneCell'=true)
  (cf:α→α→Int) (hO:SWO (ltOf cf)) (hT:∀x y,(ltOf cf) x y=false→(ltOf cf) y x=false→x=y) (OP:∀x y:α,aq prog g [.agg (enc x).toArray,.agg (enc y).toArray] (fun _=>none) fun v _=>v = .int .i64 (cf x y))
  {l:List α} (hl:l.length<4611686018427387904) {bx:List (Nat×Bx)} {nx b:Nat} (hb:lk bx b=some (.row e k (l.map enc))) {H:Hp} {K:SV→St→Hp→Prop}
  (hK:K (.eo []) ⟨[],(b,.row e k ((l.mergeSort fun x y=>!(ltOf cf) y x).map enc))::bx,nx⟩ H):aY prog f [.own b,.fn g []] bx nx H K:=by
 subst ef;have sh:=List.mergeSort_perm l (fun x y=>!(ltOf cf) y x);have j1:(l.mergeSort fun x y=>!(ltOf cf) y x).length=l.length:=sh.length_eq;refine qN hc hb (by rw[List.length_map,List.length_map,j1]) (fun x hx=>?_) (fun w ρ hm=>?_) hK
 ·obtain⟨y,_,rfl⟩:=List.mem_map.1 hx;exact⟨hk y,h1 y⟩
 have vj:=(hm.ok _ _ hb).2.1;obtain⟨⟨yk,hv⟩,dm,XE⟩:=vj;rw[List.length_map]at hv
 rcases hv with ⟨hv,h0⟩ | ⟨q,cap,cur,hv,_,fD,iY,vl,cN,Bg⟩
 ·have qM:l=[]:=List.eq_nil_of_length_eq_zero h0;subst qM;have hh:=AnyF.slices_SortFunc_none L none 0 (.func (.func g) #[] #[]) w;show Calls prog (ρr.f 6) #[ρ.val b,.func (.func g) #[] #[]] w _;rw[hv]
  refine hh.mono fun ev w' ⟨e1,e2⟩=>?_
  subst e2;refine⟨e1,rfl,rfl,OD.refl _,Nat.le_refl _,fun _ _ _=>rfl,?_⟩;exact⟨by simp,.inl ⟨rfl,by simp⟩⟩
 ·have QA:q<w.heap.size:=(Array.getElem?_eq_some_iff.1 fD).1;show Calls prog (ρr.f 6) #[ρ.val b,.func (.func g) #[] #[]] w _;have U1:=Dz enc hk l
  have Qk:(flatK enc k l.toArray).size=l.length*k:=by rw[size_flatK];simp
  have Tv:l.length*k≤cur.size:=by rw[cN];exact Nat.mul_le_mul_right _ iY
  have hH:HoldsK enc k w q 0 l.toArray:=by
   intro j hj;rw[Qk]at hj
   have O9:j<cur.size:=by omega
   constructor
   ·have e1:cur.toList[j]?=some (flatK enc k l.toArray)[j]!:=by
     rw[←uD (by rw[Qk];exact hj),U1,←Bg,List.getElem?_take_of_lt hj]
    rw[Nat.zero_add];simp only[World.cell?,fD];rw[←Array.getElem?_toList];exact e1
   ·simp only[World.frozen?,fD];simp
  have fC:CmpLays prog g #[] enc k cf q 0 l.toArray.size w:=by
   intro m os dk _ x y;have:=(OP x y).2 (sortWorldK enc k w q 0 m dk os) (fun _ _ h=>by cases h)
   refine this.mono fun ev w' ⟨v,H',e1,e2,_,_,_,e6⟩=>⟨by rw[e1,e2],OU e6⟩
  have T9:l.toArray.size=l.length:=by simp
  have zA:=AnyQ.slices_SortFunc_total L k aE zE enc hk h1 cf hO g #[] q 0 cap l.toArray w (OP default default).1 fC hH QA (by rw[T9];exact hl) hT;rw[T9]at zA;rw[hv]
  refine zA.mono fun ev w' ⟨e1,n,os,e2⟩=>?_
  subst e2
  obtain⟨sl,yA⟩:∃sl,sl=l.mergeSort fun x y=>!(ltOf cf) y x:=⟨_,rfl⟩
  have Ua:l.toArray.toList=l:=by simp
  rw[Ua,←yA];rw[←yA]at j1;have VX:=Dz enc hk sl
  have dy:(flatK enc k sl.toArray).size=l.length*k:=by rw[size_flatK];simp [j1]
  have uC:∀b',b'<w.heap.size→(sortWorldK enc k w q 0 n sl.toArray os).heap[b']?=if b'=q then some (.cells (putCells id 0 (flatK enc k sl.toArray) cur) e (0,0)) else w.heap[b']?:=by
   intro b' gr;show ((w.heap.modify q _)++os)[b']?=_;rw[Array.getElem?_append_left (by simpa using gr),Array.getElem?_modify]
   by_cases hq:q=b'
   ·subst hq
    rw[if_pos rfl,if_pos rfl,fD];rfl
   ·rw[if_neg hq,if_neg (fun h=>hq h.symm)]
  refine⟨e1,rfl,rfl,⟨rfl,Nat.le_add_right _ _⟩,?_,fun b' gr hn=>?_,?_⟩
  ·show w.heap.size≤((w.heap.modify q _)++os).size;simp
  ·rw[uC b' gr,if_neg];rintro rfl;exact hn (by show (ρ.val b).ownBlock=some b';rw[hv];rfl)
  ·refine⟨?_,.inr ⟨q,cap,putCells id 0 (flatK enc k sl.toArray) cur,?_,Nat.zero_le _,?_,?_,vl,?_,?_⟩⟩
   ·rw[iI (k:=k) _ (fun x hx=>by obtain⟨y,_,rfl⟩:=List.mem_map.1 hx;exact hk y)]
   ·rw[List.length_map,j1]
   ·rw[uC q QA,if_pos rfl]
   ·rw[List.length_map,j1];exact iY
   ·simp [putCells,cN]
   ·rw[List.length_map,j1,←VX];apply List.ext_getElem?;intro j
    by_cases hj:j<l.length*k
    ·have O9:j<cur.size:=by omega
     rw[List.getElem?_take_of_lt hj,uD (a:=flatK enc k sl.toArray) (by rw[dy];exact hj)];simp only[putCells,Array.getElem?_toList,Array.getElem?_mapIdx,Array.getElem?_eq_getElem O9,Option.map_some];rw[if_pos ⟨Nat.zero_le _,by rw[dy];omega⟩]
     rfl
    ·rw[List.getElem?_eq_none (by rw[List.length_take];omega),List.getElem?_eq_none (by rw[Array.length_toList,dy];omega)]
theorem Pc {a b:Int}:RB a b<0↔a<0∨(a=0∧b<0):=by
 unfold RB;split
 ·constructor
  ·exact .inl
  ·rintro (h | ⟨h,_⟩)
   ·exact h
   ·contradiction
 ·rename_i h
  have h0:a=0:=by omega
  constructor
  ·exact fun h'=>.inr ⟨h0,h'⟩
  ·rintro (h' | ⟨_,h'⟩)
   ·omega
   ·exact h'
theorem DA {x y:Int}:tv x y<0↔x<y:=by
 unfold tv;split
 ·omega
 ·split<;>omega
theorem JR {x y:Int}:tv x y=0↔x=y:=by
 unfold tv;split
 ·omega
 ·split<;>omega
theorem MI {a b:cV}:wZ a b<0↔LO.lt a b:=by
 rw[wZ,Pc,DA,JR,DA];exact Iff.rfl
theorem oW {a b:cV}:ltOf wZ a b=true↔LO.lt a b:=by rw[ltOf,decide_eq_true_eq,MI]
theorem mE {a b:cV}:ltOf wZ a b=false↔¬LO.lt a b:=by rw[←oW];simp
theorem Ub:SWO (ltOf wZ):=⟨fun x=>mE.2 (LO.irrefl x),fun x y z h1 h2=>oW.2 (LO.trans (oW.1 h1) (oW.1 h2)),fun x y z h1 h2=>by
 rw[mE]at *;intro h3
 rcases LO.NU x y with h | h | h
 ·exact h1 h
 ·subst h;exact h2 h3
 ·rcases LO.NU y z with h' | h' | h'
  ·exact h2 h'
  ·subst h';exact h1 h3
  ·exact LO.irrefl _ (LO.trans h3 (LO.trans h' h))⟩
abbrev Wm (x:cV):List Value:=[.int .i64 x.1,.int .i64 x.2]
theorem Gg {l:List cV} (hl:l.length<8000000000000) {H:Hp} {K:SV→St→Hp→Prop}
  (hK:∀l':List cV,l'.length=l.length→bm l'=aR l→K (.eo []) ⟨[],[(0,.row 172 2 (ao l')),(0,.row 172 2 (ao l))],1⟩ H):aY prog 201 [.own 0,.fn 202 []] [(0,.row 172 2 (ao l))] 1 H K:=by
 refine JQ (e:=172) (k:=2) Ml rfl call201 isAgg172 sizeOf172 Wm (fun _=>rfl) (fun x v hv=>?_) wZ Ub (fun x y h1 h2=>?_) (fun x y=>Jw fun _ _=>rfl) (l:=l) (by omega) rfl ?_
 ·simp only[List.mem_cons,List.not_mem_nil,or_false]at hv
  rcases hv with rfl | rfl<;>rfl
 ·rw[mE]at h1 h2
  rcases LO.NU x y with h | h | h
  ·exact absurd h h1
  ·exact h
  ·exact absurd h h2
 ·have hp:=List.mergeSort_perm l (fun x y=>!(ltOf wZ) y x);refine hK _ hp.length_eq (qF (fun t=>hp.mem_iff) ?_);have:=List.pairwise_mergeSort (le:=fun x y=>!(ltOf wZ) y x) (fun a b c h1 h2=>?_) (fun a b=>?_) l
  ·exact this.imp fun h=>by
    simp only[Bool.not_eq_eq_eq_not,Bool.not_true]at h;exact mE.1 h
  ·simp only[Bool.not_eq_eq_eq_not,Bool.not_true]at h1 h2 ⊢;exact Ub.ntrans _ _ _ h2 h1
  ·cases h:ltOf wZ b a with
   | false=>rfl
   | true =>
    have:ltOf wZ a b=false:=mE.2 (LO.asymm (oW.1 h))
    rw[this];rfl
end Go.Proofs
end
section
namespace Go.Proofs
open Go.Sy
open Tryz
variable {H:Hp} {K:Value→Hp→Prop}
theorem tE {x:Value} {H:Hp} {l:List cV} (h:aW H x 2 (ao l)) (hl:∀e∈l,oh e.1∧oh e.2):∃a n c,x = .slice a n c∧RL H a n c l:=RL.aC (α:=cV) h (wV hl)
theorem uE {l:List cV} (hl:l.length<8000000000000) {a:Option Addr} {n c:Nat} (ha:RL H a n c l)
  (hK:∀a1 n1 c1 H',Le H H'→RL H' a1 n1 c1 (aR l)→K (.slice a1 n1 c1) H'):aq prog 147 [.slice a n c] H K:=by
 refine ab af aa rfl func147 call147 ntmps147 results147 rfl rfl ?_;refine⟨[],rfl,Dg ha hl ?_⟩;refine⟨[0],rfl,Gg hl fun l' th hg=>?_⟩;refine⟨[0],rfl,FT (l:=l') (by omega) ?_⟩;intro x H1 hle hx;rw[hg]at hx;obtain⟨a1,n1,c1,rfl,hr⟩:=tE hx (fun e he=>nw ha e ((bJ l e).1 he));exact hK _ _ _ _ hle hr
theorem dv (m:List cV) (x:cV):ao m++[[.int .i64 x.1,.int .i64 x.2]]=ao (m++[x]):=by simp
theorem oX {l:List cV} (hl:l.length<8000000) {a:Option Addr} {n c:Nat} (ha:RL H a n c l)
  (hK:∀a1 n1 c1 H',Le H H'→RL H' a1 n1 c1 (aR l)→K (.slice a1 n1 c1) H'):aq prog 127 [.slice a n c] H K:=by
 have dd:=ha.aB;refine ab af aa rfl func127 call127 ntmps127 results127 rfl rfl ?_
 refine⟨Nat,fun i=>⟨[(3,.own 0),(10,.v (.slice a n c)),(11,.v (.int .i64 n)),(12,.v (.int .i64 i))],[(0,.row 172 2 (ao ((l.take i).foldl (fun o x=>jy x o) [])))],1⟩,
  fun i H'=>H'=H∧i≤l.length,fun i=>l.length - i,⟨0,[],?_,rfl,by omega⟩,?_⟩
 ·exact⟨⟨⟨rfl,rfl,rfl⟩,rfl,rfl,rfl,trivial⟩,⟨rfl,trivial⟩⟩
 rintro i H1 _ ⟨rfl,hi⟩;refine⟨fun h=>?_,fun h=>?_⟩
 ·have aj:i<l.length:=by have:=dt h;omega
  obtain⟨ad,cs,q1,hh,r1⟩:=ha.elem (aL aj);obtain⟨rfl,bh,bj⟩:=fX r1
  obtain⟨s,hs⟩:∃s,s=l[i]:=⟨_,rfl⟩
  rw[←hs]at hh bh bj
  obtain⟨o,ho⟩:∃o,o=(l.take i).foldl (fun o x=>jy x o) []:=⟨_,rfl⟩
  rw[←ho];refine⟨ad,⟨by omega,by omega,q1⟩,?_⟩;refine⟨_,hh,?_⟩
  have Tb:o.length≤i:=by
   have:=dP (l.take i);rw[List.length_take,Nat.min_eq_left (by omega)]at this
   rw[ho];exact this
  have Wn:(ao o).length=o.length:=List.length_map _
  obtain⟨q,hq⟩:∃q:Nat→List cV×Bool,∀j,q j=(o.take j).foldl (gC s) ([],false):=⟨_,fun _=>rfl⟩
  have KT:q 0=([],false):=hq 0
  refine⟨Nat,fun j=>⟨[(3,.own 0),(5,.ptr 1 0),(6,.own 2),(7,.v (.bool (q j).2)),(10,.v (.slice a n c)),(11,.v (.int .i64 n)),(12,.v (.int .i64 i)),(16,.own 0),(17,.v (.int .i64 o.length)),(18,.v (.int .i64 j))],
    [(0,.row 172 2 (ao o)),(1,.cells 172 [.v (.int .i64 s.1),.v (.int .i64 s.2)]),(2,.row 172 2 (ao (q j).1))],3⟩,
   fun j H'=>H'=H1∧j≤o.length∧(q j).1.length≤2*j,fun j=>o.length - j,⟨0,[(0,0),(1,1)],?_,rfl,by omega,by rw[KT];simp⟩,?_⟩
  ·have YZ:SV.v (.int .i64 ((ao o).length:Nat))=SV.v (.int .i64 (o.length:Nat)):=by rw[Wn]
   have e7:Value.bool (q 0).2 = .bool false:=by rw[KT]
   have e2:ao (q 0).1=[]:=by rw[KT];rfl
   exact⟨⟨rfl,⟨rfl,rfl⟩,⟨rfl,rfl,e2⟩,e7,rfl,rfl,rfl,rfl,YZ,rfl,trivial⟩,⟨rfl,⟨rfl,rfl,trivial⟩,e2,trivial⟩⟩
  rintro j H2 _ ⟨rfl,hj,Y0⟩;refine⟨fun h=>?_,fun h=>?_⟩
  ·have Dd:j<o.length:=by have:=dt h;omega
   have Y1:(ao o)[((j:Int)).toNat]?=some [.int .i64 o[j].1,.int .i64 o[j].2]:=by rw[Int.toNat_natCast];exact pV Dd
   have dL:=eC (gC s) ([],false) (aL Dd);rw[←hq,←hq]at dL;refine⟨⟨by omega,by rw[Wn];omega⟩,?_⟩;refine⟨_,Y1,?_⟩;have gq:(ao (q j).1).length=(q j).1.length:=List.length_map _;refine⟨fun h=>?_,fun h=>?_⟩
   ·have hd:(q j).2=false:=by simpa using h
    refine⟨fun h=>?_,fun h=>?_⟩
    ·have h1:¬s.1<o[j].1:=df h;refine⟨fun h=>?_,fun h=>?_⟩
     ·have h2:s.1=o[j].1:=dt h;refine⟨fun h=>?_,fun h=>?_⟩
      ·have h3:s.2≤o[j].2:=dt h
       have hle:LO.lt s o[j]∨s=o[j]:=by
               rcases Int.lt_or_eq_of_le h3 with h4 | h4
               ·exact .inl (.inr ⟨h2,h4⟩)
               ·exact .inr (Prod.ext h2 h4)
       refine⟨fun h=>?_,fun h=>?_⟩
       ·have cu:s≠o[j]:=fun e=>by rw[←e]at h;simp at h
        refine⟨⟨by show ((ao (q j).1).length+1)*16≤_;omega,by show (ao (q j).1).length+1≤_;omega⟩,?_⟩;refine⟨⟨by show ((ao (q j).1++[[Value.int .i64 s.1,Value.int .i64 s.2]]).length+1)*16≤_;rw[List.length_append,List.length_singleton];omega,by show (ao (q j).1++[[Value.int .i64 s.1,Value.int .i64 s.2]]).length+1≤_;rw[List.length_append,List.length_singleton];omega⟩,?_⟩
        have bc:q (j+1)=((q j).1++[s]++[o[j]],true):=by rw[dL,gC,if_pos ⟨hd,hle⟩,if_neg cu]
        have bL:ao (q j).1++[[.int .i64 s.1,.int .i64 s.2]]++[[.int .i64 o[j].1,.int .i64 o[j].2]]=ao (q (j+1)).1:=by rw[bc,dv];exact dv _ _
        have ed:Value.bool (q (j+1)).2 = .bool true:=by rw[bc]
        refine⟨⟨by omega,by omega⟩,j+1,[(0,0),(1,1),(2,7)],?_,⟨rfl,by omega,by rw[bc,List.length_append,List.length_append];simp only[List.length_cons,List.length_nil];omega⟩,by dsimp only;omega⟩;exact⟨⟨rfl,⟨rfl,rfl⟩,rfl,ed,rfl,rfl,rfl,rfl,rfl,rfl,trivial⟩,⟨rfl,⟨rfl,rfl,trivial⟩,bL,trivial⟩⟩
       ·have he:s=o[j]:=by
         rw[Prod.ext_iff]
         simpa using h
        refine⟨⟨by show ((ao (q j).1).length+1)*16≤_;omega,by show (ao (q j).1).length+1≤_;omega⟩,?_⟩
        have bc:q (j+1)=((q j).1++[o[j]],true):=by rw[dL,gC,if_pos ⟨hd,hle⟩,if_pos he]
        have bL:ao (q j).1++[[.int .i64 o[j].1,.int .i64 o[j].2]]=ao (q (j+1)).1:=by rw[bc];exact dv _ _
        have ed:Value.bool (q (j+1)).2 = .bool true:=by rw[bc]
        refine⟨⟨by omega,by omega⟩,j+1,[(0,0),(1,1),(2,5)],?_,⟨rfl,by omega,by rw[bc,List.length_append];simp only[List.length_cons,List.length_nil];omega⟩,by dsimp only;omega⟩;exact⟨⟨rfl,⟨rfl,rfl⟩,rfl,ed,rfl,rfl,rfl,rfl,rfl,rfl,trivial⟩,⟨rfl,⟨rfl,rfl,trivial⟩,bL,trivial⟩⟩
      ·have h3:¬s.2≤o[j].2:=df h
       have hn:¬(LO.lt s o[j]∨s=o[j]):=by
        rintro ((h4 | ⟨_,h4⟩) | h4)
        ·exact h1 h4
        ·exact h3 (Int.le_of_lt h4)
        ·rw[←h4]at h3;exact h3 (Int.le_refl _)
       refine⟨⟨by show ((ao (q j).1).length+1)*16≤_;omega,by show (ao (q j).1).length+1≤_;omega⟩,?_⟩
       have bc:q (j+1)=((q j).1++[o[j]],(q j).2):=by rw[dL,gC,if_neg (fun hh=>hn hh.2)]
       have bL:ao (q j).1++[[.int .i64 o[j].1,.int .i64 o[j].2]]=ao (q (j+1)).1:=by rw[bc];exact dv _ _
       have ed:SV.v (.bool (q j).2)=SV.v (.bool (q (j+1)).2):=by rw[bc]
       refine⟨⟨by omega,by omega⟩,j+1,[(0,0),(1,1),(2,5)],?_,⟨rfl,by omega,by rw[bc,List.length_append];simp only[List.length_cons,List.length_nil];omega⟩,by dsimp only;omega⟩;exact⟨⟨rfl,⟨rfl,rfl⟩,rfl,ed,rfl,rfl,rfl,rfl,rfl,rfl,trivial⟩,⟨rfl,⟨rfl,rfl,trivial⟩,bL,trivial⟩⟩
     ·have h2:¬s.1=o[j].1:=df h
      have hn:¬(LO.lt s o[j]∨s=o[j]):=by
       rintro ((h4 | ⟨h4,_⟩) | h4)
       ·exact h1 h4
       ·exact h2 h4
       ·exact h2 (by rw[←h4])
      refine⟨⟨by show ((ao (q j).1).length+1)*16≤_;omega,by show (ao (q j).1).length+1≤_;omega⟩,?_⟩
      have bc:q (j+1)=((q j).1++[o[j]],(q j).2):=by rw[dL,gC,if_neg (fun hh=>hn hh.2)]
      have bL:ao (q j).1++[[.int .i64 o[j].1,.int .i64 o[j].2]]=ao (q (j+1)).1:=by rw[bc];exact dv _ _
      have ed:SV.v (.bool (q j).2)=SV.v (.bool (q (j+1)).2):=by rw[bc]
      refine⟨⟨by omega,by omega⟩,j+1,[(0,0),(1,1),(2,5)],?_,⟨rfl,by omega,by rw[bc,List.length_append];simp only[List.length_cons,List.length_nil];omega⟩,by dsimp only;omega⟩;exact⟨⟨rfl,⟨rfl,rfl⟩,rfl,ed,rfl,rfl,rfl,rfl,rfl,rfl,trivial⟩,⟨rfl,⟨rfl,rfl,trivial⟩,bL,trivial⟩⟩
    ·have h1:s.1<o[j].1:=dt h;have hle:LO.lt s o[j]∨s=o[j]:=.inl (.inl h1);refine⟨fun h=>?_,fun h=>?_⟩
     ·have cu:s≠o[j]:=fun e=>by rw[←e]at h;simp at h
      refine⟨⟨by show ((ao (q j).1).length+1)*16≤_;omega,by show (ao (q j).1).length+1≤_;omega⟩,?_⟩;refine⟨⟨by show ((ao (q j).1++[[Value.int .i64 s.1,Value.int .i64 s.2]]).length+1)*16≤_;rw[List.length_append,List.length_singleton];omega,by show (ao (q j).1++[[Value.int .i64 s.1,Value.int .i64 s.2]]).length+1≤_;rw[List.length_append,List.length_singleton];omega⟩,?_⟩
      have bc:q (j+1)=((q j).1++[s]++[o[j]],true):=by rw[dL,gC,if_pos ⟨hd,hle⟩,if_neg cu]
      have bL:ao (q j).1++[[.int .i64 s.1,.int .i64 s.2]]++[[.int .i64 o[j].1,.int .i64 o[j].2]]=ao (q (j+1)).1:=by rw[bc,dv];exact dv _ _
      have ed:Value.bool (q (j+1)).2 = .bool true:=by rw[bc]
      refine⟨⟨by omega,by omega⟩,j+1,[(0,0),(1,1),(2,7)],?_,⟨rfl,by omega,by rw[bc,List.length_append,List.length_append];simp only[List.length_cons,List.length_nil];omega⟩,by dsimp only;omega⟩;exact⟨⟨rfl,⟨rfl,rfl⟩,rfl,ed,rfl,rfl,rfl,rfl,rfl,rfl,trivial⟩,⟨rfl,⟨rfl,rfl,trivial⟩,bL,trivial⟩⟩
     ·have he:s=o[j]:=by
       rw[Prod.ext_iff]
       simpa using h
      refine⟨⟨by show ((ao (q j).1).length+1)*16≤_;omega,by show (ao (q j).1).length+1≤_;omega⟩,?_⟩
      have bc:q (j+1)=((q j).1++[o[j]],true):=by rw[dL,gC,if_pos ⟨hd,hle⟩,if_pos he]
      have bL:ao (q j).1++[[.int .i64 o[j].1,.int .i64 o[j].2]]=ao (q (j+1)).1:=by rw[bc];exact dv _ _
      have ed:Value.bool (q (j+1)).2 = .bool true:=by rw[bc]
      refine⟨⟨by omega,by omega⟩,j+1,[(0,0),(1,1),(2,5)],?_,⟨rfl,by omega,by rw[bc,List.length_append];simp only[List.length_cons,List.length_nil];omega⟩,by dsimp only;omega⟩;exact⟨⟨rfl,⟨rfl,rfl⟩,rfl,ed,rfl,rfl,rfl,rfl,rfl,rfl,trivial⟩,⟨rfl,⟨rfl,rfl,trivial⟩,bL,trivial⟩⟩
   ·have hd:(q j).2=true:=by simpa using h
    refine⟨⟨by show ((ao (q j).1).length+1)*16≤_;omega,by show (ao (q j).1).length+1≤_;omega⟩,?_⟩
    have bc:q (j+1)=((q j).1++[o[j]],(q j).2):=by rw[dL,gC,if_neg (fun hh=>by rw[hd]at hh;cases hh.1)]
    have bL:ao (q j).1++[[.int .i64 o[j].1,.int .i64 o[j].2]]=ao (q (j+1)).1:=by rw[bc];exact dv _ _
    have ed:SV.v (.bool (q j).2)=SV.v (.bool (q (j+1)).2):=by rw[bc]
    refine⟨⟨by omega,by omega⟩,j+1,[(0,0),(1,1),(2,5)],?_,⟨rfl,by omega,by rw[bc,List.length_append];simp only[List.length_cons,List.length_nil];omega⟩,by dsimp only;omega⟩;exact⟨⟨rfl,⟨rfl,rfl⟩,rfl,ed,rfl,rfl,rfl,rfl,rfl,rfl,trivial⟩,⟨rfl,⟨rfl,rfl,trivial⟩,bL,trivial⟩⟩
  ·have eD:j=o.length:=by have:=df h;omega
   have Mb:(l.take (i+1)).foldl (fun o x=>jy x o) []=jy s o:=by rw[eC _ _ (aL aj),←hs,←ho]
   have Pd:jy s o=if (q j).2 then (q j).1 else (q j).1++[s]:=by rw[←KW,Ti,Hz,hq j,eD,List.take_length]
   have gq:(ao (q j).1).length=(q j).1.length:=List.length_map _;refine⟨fun h=>?_,fun h=>?_⟩
   ·have hd:(q j).2=false:=by simpa using h
    rw[hd]at Pd;refine⟨⟨by show ((ao (q j).1).length+1)*16≤_;omega,by show (ao (q j).1).length+1≤_;omega⟩,?_⟩
    have bL:ao (q j).1++[[.int .i64 s.1,.int .i64 s.2]]=ao ((l.take (i+1)).foldl (fun o x=>jy x o) []):=by rw[Mb,Pd];exact dv _ _
    refine⟨⟨by omega,by omega⟩,i+1,[(0,4)],?_,⟨rfl,by omega⟩,by dsimp only;omega⟩;exact⟨⟨rfl,rfl,rfl,rfl,trivial⟩,⟨bL,trivial⟩⟩
   ·have hd:(q j).2=true:=by simpa using h
    rw[hd]at Pd
    have bL:ao (q j).1=ao ((l.take (i+1)).foldl (fun o x=>jy x o) []):=by rw[Mb,Pd];rfl
    refine⟨⟨by omega,by omega⟩,i+1,[(0,2)],?_,⟨rfl,by omega⟩,by dsimp only;omega⟩;exact⟨⟨rfl,rfl,rfl,rfl,trivial⟩,⟨bL,trivial⟩⟩
 ·have aX:i=l.length:=by have:=df h;omega
  intro x H2 ah hx;rw[aX,List.take_length]at hx;obtain⟨a1,n1,c1,rfl,hr⟩:=tE hx (fun e he=>nw ha e ((bJ l e).1 he));exact hK _ _ _ _ ah hr
end Go.Proofs
end
section
namespace Go.Proofs
open Go.Sy
open Tryz
abbrev lE (p:Prog):List aQ:=p.map (·.1.l)
def eN (p:Prog) (i:Nat) (t:aQ):List cV:=if 0≤bw t (lE p) 0 then [((i:Int),bw t (lE p) 0)] else []
def eB (p:Prog) (i:Nat) (b:Block):List cV:=(if b.2.2.1=1∨b.2.2.1=2 then eN p i b.2.2.2.2.1.l else [])++(if b.2.2.1=2 then eN p i b.2.2.2.2.2.l else [])
def cO (p:Prog):List Block→Nat→List cV
 | [],_=>[]
 | b::r,i=>eB p i b++cO p r (i+1)
def aG (p:Prog):List cV:=cO p p 0
theorem zB (p:Prog):∀(l:List Block) (x:Block) (i:Nat),cO p (l++[x]) i=cO p l i++eB p (i+l.length) x
 | [],x,i=>by simp [cO]
 | y::r,x,i=>by
  rw[List.cons_append,cO,cO,zB p r x (i+1),List.length_cons,show i+1+r.length=i+(r.length+1) by omega,List.append_assoc]
theorem zC {p:Prog} {i:Nat} (h:i<p.length):cO p (p.take (i+1)) 0=cO p (p.take i) 0++eB p i p[i]:=by
 rw[List.take_add_one,aL h,Option.toList_some,zB,Nat.zero_add,List.length_take,Nat.min_eq_left (by omega)]
theorem Bh (p:Prog) (i:Nat) (t:aQ):(eN p i t).length≤1:=by unfold eN;split<;>simp
theorem RU (p:Prog) (i:Nat) (b:Block):(eB p i b).length≤2:=by
 have h1:=Bh p i b.2.2.2.2.1.l;have h2:=Bh p i b.2.2.2.2.2.l;unfold eB;rw[List.length_append]
 split<;>split<;>simp<;>omega
theorem fa (p:Prog):∀(l:List Block) (i:Nat),(cO p l i).length≤2*l.length
 | [],_=>by simp [cO]
 | b::r,i=>by
  have h1:=RU p i b;have h2:=fa p r (i+1)
  rw[cO,List.length_append,List.length_cons];omega
theorem QB {p:Prog} (hp:p.length≤12) {i:Nat} (hi:i≤12) {t:aQ}:∀e∈eN p i t,oh e.1∧oh e.2:=by
 intro e he;unfold eN at he;have hr:=fG t (lE p) 0 (by omega);rw[List.length_map]at hr;split at he
 ·simp only[List.mem_cons,List.not_mem_nil,or_false]at he;subst he;exact⟨⟨by simp only;omega,by simp only;omega⟩,by simp only;omega,by simp only;omega⟩
 ·simp at he
theorem Uc {p:Prog} (hp:p.length≤12) {i:Nat} (hi:i≤12) {b:Block}:∀e∈eB p i b,oh e.1∧oh e.2:=by
 intro e he;unfold eB at he
 rcases List.mem_append.1 he with he | he
 ·split at he
  ·exact QB hp hi e he
  ·simp at he
 ·split at he
  ·exact QB hp hi e he
  ·simp at he
theorem Bi {p:Prog} (hp:p.length≤12):∀(l:List Block) (i:Nat),i+l.length≤12→∀e∈cO p l i,oh e.1∧oh e.2
 | [],_,_,e,he=>by simp [cO]at he
 | b::r,i,h,e,he=>by
  rw[List.length_cons]at h;rw[cO]at he
  rcases List.mem_append.1 he with he | he
  ·exact Uc hp (by omega) e he
  ·exact Bi hp r (i+1) (by omega) e he
abbrev Wo (b:Block) (a2:Option Addr) (n2 c2:Nat):List SV:=[.v (.string (bs b.1.l)),.v (.slice a2 n2 c2),.v (.int .i64 b.2.2.1),.v (.string (bs b.2.2.2.1.1.l)),.v (.int .i64 b.2.2.2.1.2.1),.v (.int .i64 b.2.2.2.1.2.2),.v (.string (bs b.2.2.2.2.1.l)),.v (.string (bs b.2.2.2.2.2.l))]
theorem cw {p:Prog} (hp:p.length≤12) {a:Option Addr} {n c:Nat} {H:Hp} {K:Value→Hp→Prop} (ha:RL H a n c p)
 (hK:∀a1 n1 c1 H',Le H H'→RL H' a1 n1 c1 (aR (aG p))→K (.slice a1 n1 c1) H'):aq prog 80 [.agg #[.slice a n c]] H K:=by
 have dd:=ha.aB;have eI:=ha.le;refine ab af aa rfl func80 call80 ntmps80 results80 rfl rfl ?_
 refine⟨Nat,fun i=>⟨[(1,.ptr 0 0),(3,.own 1),(9,.v (.slice a n c)),(10,.v (.int .i64 n)),(11,.v (.int .i64 i))],[(0,.cells 24 [.v (.slice a n c)]),(1,.row 172 2 (ao (cO p (p.take i) 0)))],2⟩,
  fun i H'=>H'=H∧i≤p.length,fun i=>p.length - i,⟨0,[(0,0)],?_,rfl,by omega⟩,?_⟩
 ·exact⟨⟨⟨rfl,rfl⟩,⟨rfl,rfl,rfl⟩,rfl,rfl,rfl,trivial⟩,⟨⟨rfl,trivial⟩,rfl,trivial⟩⟩
 rintro i H1 _ ⟨rfl,hi⟩;refine⟨fun h=>?_,fun h=>?_⟩
 ·have aj:i<p.length:=by have:=dt h;omega
  obtain⟨ad,cs,q1,hh,r1⟩:=ha.elem (aL aj);obtain⟨a2,n2,c2,rfl,bj,Ii,wM⟩:=cX r1;have bc:=zC aj;have hlen:=fa p (p.take i) 0;rw[List.length_take,Nat.min_eq_left (by omega)]at hlen;have gq:(ao (cO p (p.take i) 0)).length=(cO p (p.take i) 0).length:=List.length_map _;refine⟨ad,⟨by omega,by omega,q1⟩,?_⟩;refine⟨_,hh,?_⟩;refine⟨fun h=>?_,fun h=>?_⟩
  ·have h1:¬p[i].2.2.1=1:=df h;refine⟨fun h=>?_,fun h=>?_⟩
   ·have h2:p[i].2.2.1=2:=dt h;refine jG hp ha ?_;refine⟨fun h=>?_,fun h=>?_⟩
    ·have hx:0≤bw p[i].2.2.2.2.1.l (lE p) 0:=dt h;refine⟨⟨by show ((ao (cO p (p.take i) 0)).length+1)*16≤_;omega,by show (ao (cO p (p.take i) 0)).length+1≤_;omega⟩,?_⟩;refine⟨fun h=>?_,fun h=>absurd h2 (df h)⟩;refine jG hp ha ?_;refine⟨fun h=>?_,fun h=>?_⟩
     ·have hy:0≤bw p[i].2.2.2.2.2.l (lE p) 0:=dt h;refine⟨⟨by show ((ao (cO p (p.take i) 0)++[[Value.int .i64 (i:Int),Value.int .i64 (bw p[i].2.2.2.2.1.l (lE p) 0)]]).length+1)*16≤_;rw[List.length_append,List.length_singleton];omega,by show (ao (cO p (p.take i) 0)++[[Value.int .i64 (i:Int),Value.int .i64 (bw p[i].2.2.2.2.1.l (lE p) 0)]]).length+1≤_;rw[List.length_append,List.length_singleton];omega⟩,?_⟩
      have hB:eB p i p[i]=[((i:Int),bw p[i].2.2.2.2.1.l (lE p) 0),((i:Int),bw p[i].2.2.2.2.2.l (lE p) 0)]:=by rw[eB,if_pos (.inr h2),if_pos h2,eN,eN,if_pos hx,if_pos hy];rfl
      have bL:ao (cO p (p.take i) 0)++[[.int .i64 (i:Int),.int .i64 (bw p[i].2.2.2.2.1.l (lE p) 0)]]++[[.int .i64 (i:Int),.int .i64 (bw p[i].2.2.2.2.2.l (lE p) 0)]]=ao (cO p (p.take (i+1)) 0):=by rw[bc,hB];simp
      refine⟨⟨by omega,by omega⟩,i+1,[(0,0),(1,6)],?_,⟨rfl,by omega⟩,by dsimp only;omega⟩;exact⟨⟨⟨rfl,rfl⟩,rfl,rfl,rfl,rfl,trivial⟩,⟨⟨rfl,trivial⟩,bL,trivial⟩⟩
     ·have hy:¬0≤bw p[i].2.2.2.2.2.l (lE p) 0:=df h
      have hB:eB p i p[i]=[((i:Int),bw p[i].2.2.2.2.1.l (lE p) 0)]:=by rw[eB,if_pos (.inr h2),if_pos h2,eN,eN,if_pos hx,if_neg hy];rfl
      have bL:ao (cO p (p.take i) 0)++[[.int .i64 (i:Int),.int .i64 (bw p[i].2.2.2.2.1.l (lE p) 0)]]=ao (cO p (p.take (i+1)) 0):=by rw[bc,hB];simp
      refine⟨⟨by omega,by omega⟩,i+1,[(0,0),(1,4)],?_,⟨rfl,by omega⟩,by dsimp only;omega⟩;exact⟨⟨⟨rfl,rfl⟩,rfl,rfl,rfl,rfl,trivial⟩,⟨⟨rfl,trivial⟩,bL,trivial⟩⟩
    ·have hx:¬0≤bw p[i].2.2.2.2.1.l (lE p) 0:=df h;refine⟨fun h=>?_,fun h=>absurd h2 (df h)⟩;refine jG hp ha ?_;refine⟨fun h=>?_,fun h=>?_⟩
     ·have hy:0≤bw p[i].2.2.2.2.2.l (lE p) 0:=dt h;refine⟨⟨by show ((ao (cO p (p.take i) 0)).length+1)*16≤_;omega,by show (ao (cO p (p.take i) 0)).length+1≤_;omega⟩,?_⟩
      have hB:eB p i p[i]=[((i:Int),bw p[i].2.2.2.2.2.l (lE p) 0)]:=by rw[eB,if_pos (.inr h2),if_pos h2,eN,eN,if_neg hx,if_pos hy];rfl
      have bL:ao (cO p (p.take i) 0)++[[.int .i64 (i:Int),.int .i64 (bw p[i].2.2.2.2.2.l (lE p) 0)]]=ao (cO p (p.take (i+1)) 0):=by rw[bc,hB];simp
      refine⟨⟨by omega,by omega⟩,i+1,[(0,0),(1,4)],?_,⟨rfl,by omega⟩,by dsimp only;omega⟩;exact⟨⟨⟨rfl,rfl⟩,rfl,rfl,rfl,rfl,trivial⟩,⟨⟨rfl,trivial⟩,bL,trivial⟩⟩
     ·have hy:¬0≤bw p[i].2.2.2.2.2.l (lE p) 0:=df h
      have hB:eB p i p[i]=[]:=by rw[eB,if_pos (.inr h2),if_pos h2,eN,eN,if_neg hx,if_neg hy];rfl
      have bL:ao (cO p (p.take i) 0)=ao (cO p (p.take (i+1)) 0):=by rw[bc,hB];simp
      refine⟨⟨by omega,by omega⟩,i+1,[(0,0),(1,1)],?_,⟨rfl,by omega⟩,by dsimp only;omega⟩;exact⟨⟨⟨rfl,rfl⟩,rfl,rfl,rfl,rfl,trivial⟩,⟨⟨rfl,trivial⟩,bL,trivial⟩⟩
   ·have h2:¬p[i].2.2.1=2:=df h;refine⟨fun h=>absurd (dt h) h2,fun _=>?_⟩
    have hB:eB p i p[i]=[]:=by rw[eB,if_neg (fun h=>h.elim h1 h2),if_neg h2];rfl
    have bL:ao (cO p (p.take i) 0)=ao (cO p (p.take (i+1)) 0):=by rw[bc,hB];simp
    refine⟨⟨by omega,by omega⟩,i+1,[(0,0),(1,1)],?_,⟨rfl,by omega⟩,by dsimp only;omega⟩;exact⟨⟨⟨rfl,rfl⟩,rfl,rfl,rfl,rfl,trivial⟩,⟨⟨rfl,trivial⟩,bL,trivial⟩⟩
  ·have h1:p[i].2.2.1=1:=dt h
   have h2:¬p[i].2.2.1=2:=by omega
   refine jG hp ha ?_;refine⟨fun h=>?_,fun h=>?_⟩
   ·have hx:0≤bw p[i].2.2.2.2.1.l (lE p) 0:=dt h;refine⟨⟨by show ((ao (cO p (p.take i) 0)).length+1)*16≤_;omega,by show (ao (cO p (p.take i) 0)).length+1≤_;omega⟩,?_⟩;refine⟨fun h=>absurd (dt h) h2,fun _=>?_⟩
    have hB:eB p i p[i]=[((i:Int),bw p[i].2.2.2.2.1.l (lE p) 0)]:=by rw[eB,if_pos (.inl h1),if_neg h2,eN,if_pos hx];rfl
    have bL:ao (cO p (p.take i) 0)++[[.int .i64 (i:Int),.int .i64 (bw p[i].2.2.2.2.1.l (lE p) 0)]]=ao (cO p (p.take (i+1)) 0):=by rw[bc,hB];simp
    refine⟨⟨by omega,by omega⟩,i+1,[(0,0),(1,4)],?_,⟨rfl,by omega⟩,by dsimp only;omega⟩;exact⟨⟨⟨rfl,rfl⟩,rfl,rfl,rfl,rfl,trivial⟩,⟨⟨rfl,trivial⟩,bL,trivial⟩⟩
   ·have hx:¬0≤bw p[i].2.2.2.2.1.l (lE p) 0:=df h;refine⟨fun h=>absurd (dt h) h2,fun _=>?_⟩
    have hB:eB p i p[i]=[]:=by rw[eB,if_pos (.inl h1),if_neg h2,eN,if_neg hx];rfl
    have bL:ao (cO p (p.take i) 0)=ao (cO p (p.take (i+1)) 0):=by rw[bc,hB];simp
    refine⟨⟨by omega,by omega⟩,i+1,[(0,0),(1,1)],?_,⟨rfl,by omega⟩,by dsimp only;omega⟩;exact⟨⟨⟨rfl,rfl⟩,rfl,rfl,rfl,rfl,trivial⟩,⟨⟨rfl,trivial⟩,bL,trivial⟩⟩
 ·have aX:i=p.length:=by have:=df h;omega
  intro x H2 ah hx;rw[aX,List.take_length]at hx;obtain⟨a1,n1,c1,rfl,hr⟩:=tE hx (Bi hp p 0 (by omega));refine oX (by have:=fa p p 0;omega) hr ?_;intro a3 n3 c3 H3 az db;exact hK _ _ _ _ (ah.trans az) db
end Go.Proofs
end
section
namespace Go.Proofs
open Go.Sy
open Tryz
def eK (p:Prog) (i:Nat) (b:Block):Nat→List cV
 | 0=>if b.2.2.1=1∨b.2.2.1=2 then eN p i b.2.2.2.2.1.l else []
 | 1=>if b.2.2.1=2 then eN p i b.2.2.2.2.2.l else []
 | _=>[]
theorem cI {p:Prog} (hp:p.length≤12) {a:Option Addr} {n c:Nat} {H:Hp} {K:Value→Hp→Prop} (ha:RL H a n c p)
 (hK:∀a1 n1 c1 H',Le H H'→RL H' a1 n1 c1 (aR (aG p))→K (.slice a1 n1 c1) H'):aq prog 97 [.agg #[.slice a n c]] H K:=by
 have dd:=ha.aB;have eI:=ha.le;refine ab af aa rfl func97 call97 ntmps97 results97 rfl rfl ?_
 refine⟨Nat,fun i=>⟨[(1,.ptr 0 0),(3,.own 1),(12,.v (.slice a n c)),(13,.v (.int .i64 n)),(14,.v (.int .i64 i))],[(0,.cells 24 [.v (.slice a n c)]),(1,.row 172 2 (ao (cO p (p.take i) 0)))],2⟩,
  fun i H'=>H'=H∧i≤p.length,fun i=>p.length - i,⟨0,[(0,0)],?_,rfl,by omega⟩,?_⟩
 ·exact⟨⟨⟨rfl,rfl⟩,⟨rfl,rfl,rfl⟩,rfl,rfl,rfl,trivial⟩,⟨⟨rfl,trivial⟩,rfl,trivial⟩⟩
 rintro i H1 _ ⟨rfl,hi⟩;refine⟨fun h=>?_,fun h=>?_⟩
 ·have aj:i<p.length:=by have:=dt h;omega
  obtain⟨ad,cs,q1,hh,r1⟩:=ha.elem (aL aj);obtain⟨a2,n2,c2,rfl,bj,Ii,wM⟩:=cX r1;have bc:=zC aj;have hlen:=fa p (p.take i) 0;rw[List.length_take,Nat.min_eq_left (by omega)]at hlen
  obtain⟨b,hb⟩:∃b,b=p[i]:=⟨_,rfl⟩
  rw[←hb]at hh bc;refine⟨ad,⟨by omega,by omega,q1⟩,?_⟩;refine⟨_,hh,?_⟩
  obtain⟨R,hR⟩:∃R:Nat→List cV,∀k,R k=cO p (p.take i) 0++((if 0<k then eK p i b 0 else [])++(if 1<k then eK p i b 1 else [])):=⟨_,fun _=>rfl⟩
  refine⟨Nat,fun k=>⟨[(1,.ptr 0 0),(3,.own 1),(4,.v (.int .i64 i)),(5,.ptr 2 0),(12,.v (.slice a n c)),(13,.v (.int .i64 n)),(14,.v (.int .i64 i)),(25,.agg [.v (.string (bs b.2.2.2.2.1.l)),.v (.string (bs b.2.2.2.2.2.l))]),(26,.v (.int .i64 k))],[(0,.cells 24 [.v (.slice a n c)]),(1,.row 172 2 (ao (R k))),(2,.cells 66 (Wo b a2 n2 c2))],3⟩,
   fun k H'=>H'=H1∧k≤2,fun k=>2 - k,⟨0,[(0,0),(1,1),(2,2)],?_,rfl,by omega⟩,?_⟩
  ·have e1:ao (cO p (p.take i) 0)=ao (R 0):=by rw[hR];simp
   exact⟨⟨⟨rfl,rfl⟩,rfl,rfl,⟨rfl,rfl⟩,rfl,rfl,rfl,⟨rfl,rfl⟩,rfl,trivial⟩,⟨⟨rfl,trivial⟩,e1,⟨rfl,rfl,rfl,rfl,rfl,rfl,rfl,rfl,trivial⟩,trivial⟩⟩
  rintro k H2 _ ⟨rfl,hk⟩;refine⟨fun h=>?_,fun h=>?_⟩
  ·have kY:k<2:=by have:=dt h;omega
   obtain⟨t,ht⟩:∃t:aQ,t=if k=0 then b.2.2.2.2.1.l else b.2.2.2.2.2.l:=⟨_,rfl⟩
   have zq:([SV.v (.string (bs b.2.2.2.2.1.l)),.v (.string (bs b.2.2.2.2.2.l))]:List SV)[((k:Int)).toNat]?=some (.v (.string (bs t))):=by
    rw[Int.toNat_natCast,ht]
    match k,kY with
    | 0,_=>rfl
    | 1,_=>rfl
   refine⟨.v (.string (bs t)),⟨by omega,by omega,zq⟩,?_⟩
   have Td:R (k+1)=R k++eK p i b k:=by
    rw[hR,hR]
    match k,kY with
    | 0,_=>simp
    | 1,_=>simp
   have Y2:(ao (R k)).length≤2*i+2:=by
    have e0:=Bh p i b.2.2.2.2.1.l;have e1:=Bh p i b.2.2.2.2.2.l;rw[List.length_map,hR,List.length_append,List.length_append]
    match k,kY with
    | 0,_=>simp;omega
    | 1,_ =>
     simp only[eK]
     split<;>split<;>simp<;>omega
   refine⟨fun h=>?_,fun h=>?_⟩
   ·have h2:¬b.2.2.1=2:=df h;refine⟨fun h=>?_,fun h=>?_⟩
    ·have h1:b.2.2.1=1:=dt h
     refine nA hp ha fun _ _=>?_
     refine⟨fun h=>?_,fun h=>?_⟩
     ·have Ie:k=0:=by have:=dt h;omega
      rw[if_pos Ie]at ht
      have Ud:eK p i b k=eN p i t:=by rw[Ie,eK,if_pos (.inl h1),ht]
      refine⟨fun h=>?_,fun h=>?_⟩
      ·have hx:0≤bw t (lE p) 0:=dt h
       have he:eK p i b k=[((i:Int),max (bw t (lE p) 0) 0)]:=by rw[Ud,eN,if_pos hx,Int.max_eq_left hx]
       refine⟨⟨by show ((ao (R k)).length+1)*16≤_;omega,by show (ao (R k)).length+1≤_;omega⟩,?_⟩
       have bL:ao (R k)++[[.int .i64 (i:Int),.int .i64 (max (bw t (lE p) 0) 0)]]=ao (R (k+1)):=by rw[Td,he];simp
       refine⟨⟨by omega,by omega⟩,k+1,[(0,0),(1,4),(2,2)],?_,⟨rfl,by omega⟩,by dsimp only;omega⟩;exact⟨⟨⟨rfl,rfl⟩,rfl,rfl,⟨rfl,rfl⟩,rfl,rfl,rfl,⟨rfl,rfl⟩,rfl,trivial⟩,⟨⟨rfl,trivial⟩,bL,⟨rfl,rfl,rfl,rfl,rfl,rfl,rfl,rfl,trivial⟩,trivial⟩⟩
      ·have hx:¬0≤bw t (lE p) 0:=df h
       have he:eK p i b k=[]:=by rw[Ud,eN,if_neg hx]
       have bL:ao (R k)=ao (R (k+1)):=by rw[Td,he,List.append_nil]
       refine⟨⟨by omega,by omega⟩,k+1,[(0,0),(1,1),(2,2)],?_,⟨rfl,by omega⟩,by dsimp only;omega⟩;exact⟨⟨⟨rfl,rfl⟩,rfl,rfl,⟨rfl,rfl⟩,rfl,rfl,rfl,⟨rfl,rfl⟩,rfl,trivial⟩,⟨⟨rfl,trivial⟩,bL,⟨rfl,rfl,rfl,rfl,rfl,rfl,rfl,rfl,trivial⟩,trivial⟩⟩
     ·have og:k=1:=by have:=df h;omega
      have he:eK p i b k=[]:=by rw[og];exact if_neg h2
      have bL:ao (R k)=ao (R (k+1)):=by rw[Td,he,List.append_nil]
      refine⟨⟨by omega,by omega⟩,k+1,[(0,0),(1,1),(2,2)],?_,⟨rfl,by omega⟩,by dsimp only;omega⟩;exact⟨⟨⟨rfl,rfl⟩,rfl,rfl,⟨rfl,rfl⟩,rfl,rfl,rfl,⟨rfl,rfl⟩,rfl,trivial⟩,⟨⟨rfl,trivial⟩,bL,⟨rfl,rfl,rfl,rfl,rfl,rfl,rfl,rfl,trivial⟩,trivial⟩⟩
    ·have h1:¬b.2.2.1=1:=df h
     refine nA hp ha fun _ _=>?_
     have he:eK p i b k=[]:=by
           match k,kY with
           | 0,_=>exact if_neg (fun h=>h.elim h1 h2)
           | 1,_=>exact if_neg h2
     have bL:ao (R k)=ao (R (k+1)):=by rw[Td,he,List.append_nil]
     refine⟨⟨by omega,by omega⟩,k+1,[(0,0),(1,1),(2,2)],?_,⟨rfl,by omega⟩,by dsimp only;omega⟩;exact⟨⟨⟨rfl,rfl⟩,rfl,rfl,⟨rfl,rfl⟩,rfl,rfl,rfl,⟨rfl,rfl⟩,rfl,trivial⟩,⟨⟨rfl,trivial⟩,bL,⟨rfl,rfl,rfl,rfl,rfl,rfl,rfl,rfl,trivial⟩,trivial⟩⟩
   ·have h2:b.2.2.1=2:=dt h
    have Ud:eK p i b k=eN p i t:=by
     match k,kY,ht with
     | 0,_,ht=>rw[ht,eK,if_pos (.inr h2)];rfl
     | 1,_,ht=>rw[ht,eK,if_pos h2];rfl
    refine nA hp ha fun _ _=>?_
    refine⟨fun h=>?_,fun h=>?_⟩
    ·have hx:0≤bw t (lE p) 0:=dt h
     have he:eK p i b k=[((i:Int),max (bw t (lE p) 0) 0)]:=by rw[Ud,eN,if_pos hx,Int.max_eq_left hx]
     refine⟨⟨by show ((ao (R k)).length+1)*16≤_;omega,by show (ao (R k)).length+1≤_;omega⟩,?_⟩
     have bL:ao (R k)++[[.int .i64 (i:Int),.int .i64 (max (bw t (lE p) 0) 0)]]=ao (R (k+1)):=by rw[Td,he];simp
     refine⟨⟨by omega,by omega⟩,k+1,[(0,0),(1,4),(2,2)],?_,⟨rfl,by omega⟩,by dsimp only;omega⟩;exact⟨⟨⟨rfl,rfl⟩,rfl,rfl,⟨rfl,rfl⟩,rfl,rfl,rfl,⟨rfl,rfl⟩,rfl,trivial⟩,⟨⟨rfl,trivial⟩,bL,⟨rfl,rfl,rfl,rfl,rfl,rfl,rfl,rfl,trivial⟩,trivial⟩⟩
    ·have hx:¬0≤bw t (lE p) 0:=df h
     have he:eK p i b k=[]:=by rw[Ud,eN,if_neg hx]
     have bL:ao (R k)=ao (R (k+1)):=by rw[Td,he,List.append_nil]
     refine⟨⟨by omega,by omega⟩,k+1,[(0,0),(1,1),(2,2)],?_,⟨rfl,by omega⟩,by dsimp only;omega⟩;exact⟨⟨⟨rfl,rfl⟩,rfl,rfl,⟨rfl,rfl⟩,rfl,rfl,rfl,⟨rfl,rfl⟩,rfl,trivial⟩,⟨⟨rfl,trivial⟩,bL,⟨rfl,rfl,rfl,rfl,rfl,rfl,rfl,rfl,trivial⟩,trivial⟩⟩
  ·have kY:k=2:=by have:=df h;omega
   have e1:ao (R k)=ao (cO p (p.take (i+1)) 0):=by rw[hR,bc,kY];rfl
   refine⟨⟨by omega,by omega⟩,i+1,[(0,0),(1,1)],?_,⟨rfl,by omega⟩,by dsimp only;omega⟩;exact⟨⟨⟨rfl,rfl⟩,rfl,rfl,rfl,rfl,trivial⟩,⟨⟨rfl,trivial⟩,e1,trivial⟩⟩
 ·have aX:i=p.length:=by have:=df h;omega
  intro x H2 ah hx;rw[aX,List.take_length]at hx;obtain⟨a1,n1,c1,rfl,hr⟩:=tE hx (Bi hp p 0 (by omega));refine uE (by have:=fa p p 0;omega) hr ?_;intro a3 n3 c3 H3 az db;exact hK _ _ _ _ (ah.trans az) db
end Go.Proofs
end
