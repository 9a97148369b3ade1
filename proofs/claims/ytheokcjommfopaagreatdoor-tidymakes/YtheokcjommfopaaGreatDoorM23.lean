/- Part 'M23' of the proof (Si1, Si2): lemmas, each with its own conditions in its own statement. -/
import Derived.Test.YtheokcjommfopaaGreatDoorM19
import Derived.Test.YtheokcjommfopaaGreatDoorM8
set_option maxRecDepth 20000
set_option maxHeartbeats 4000000
section
namespace Go.Proofs
open Go.Sy Go.Sort Go.Shelf
open Tryz
theorem l7 (l:List Int):(au l).flatten=l.map (Value.int .i64):=FP l
theorem xq {l:List Int} (hl:l.length<8000000000000) {H:Hp} {K:SV→St→Hp→Prop}
  (hK:∀l':List Int,l'.length=l.length→l'.Perm l→bm l'=aR l→K (.eo []) ⟨[],[(0,.row 3 1 (au l')),(0,.row 3 1 (au l))],1⟩ H):aY prog 181 [.own 0] [(0,.row 3 1 (au l))] 1 H K:=by
 obtain⟨sl,yA⟩:∃sl,sl=l.mergeSort fun x y=>decide (x≤y):=⟨_,rfl⟩
 have sh:sl.Perm l:=by rw[yA];exact List.mergeSort_perm l _
 have j1:=sh.length_eq
 have pQ:sl.Pairwise fun x y=>¬LO.lt y x:=by
  have:=List.pairwise_mergeSort (le:=fun (x y:Int)=>decide (x≤y)) (fun a b c h1 h2=>by
   have:=dt h1;have:=dt h2;exact decide_eq_true (by omega)) (fun a b=>by
   rcases Int.le_total a b with h | h
   ·rw[decide_eq_true h];rfl
   ·rw[decide_eq_true h];simp) l
  rw[yA]
  exact this.imp fun h h'=>by
   have h1:=dt h;have h2:_<_:=h';omega
 refine qN (e:=3) (sz:=1) (xs:=au l) (ys:=au sl) call181 rfl (by rw[List.length_map,List.length_map,j1]) (fun x hx=>zm sl x hx) (fun w ρ hm=>?_) (hK sl j1 sh (qF (fun t=>sh.mem_iff) pQ));have vj:=(hm.ok 0 (.row 3 1 (au l)) rfl).2.1;obtain⟨⟨yk,hv⟩,dm,XE⟩:=vj;rw[List.length_map]at hv
 rcases hv with ⟨hv,h0⟩ | ⟨q,cap,cur,hv,_,fD,iY,vl,cN,Bg⟩
 ·have qM:l=[]:=List.eq_nil_of_length_eq_zero h0;have uB:sl=[]:=List.eq_nil_of_length_eq_zero (by omega);have hh:=Any.slices_Sort_int_none AF none 0 w;show Calls prog 181 #[ρ.val 0] w _;rw[hv]
  refine hh.mono fun ev w' ⟨e1,e2⟩=>?_
  rw[e2];refine⟨e1,rfl,rfl,OD.refl _,Nat.le_refl _,fun _ _ _=>rfl,?_⟩;rw[uB];exact⟨by simp,.inl ⟨rfl,by simp⟩⟩
 ·have QA:q<w.heap.size:=(Array.getElem?_eq_some_iff.1 fD).1;rw[Nat.mul_one]at cN Bg;rw[l7]at Bg;show Calls prog 181 #[ρ.val 0] w _
  have Tv:l.length≤cur.size:=by rw[cN];exact iY
  have hH:Holds (Value.int .i64) w q 0 l.toArray:=by
   intro j hj
   have T4:j<l.length:=by simpa using hj
   have O9:j<cur.size:=by omega
   constructor
   ·have e1:cur.toList[j]?=some (.int .i64 l.toArray[j]!):=by
     rw[←List.getElem?_take_of_lt T4,Bg,List.getElem?_map,aL T4,getElem!_pos l.toArray j hj]
     rfl
    rw[Nat.zero_add];simp only[World.cell?,fD];rw[←Array.getElem?_toList];exact e1
   ·simp only[World.frozen?,fD];simp
  have zA:=Any.slices_Sort_int AF q 0 cap l w hH QA (by omega);rw[hv]
  refine zA.mono fun ev w' ⟨e1,n,os,e2⟩=>?_
  rw[e2,←yA]
  have dy:sl.toArray.size=l.length:=by simp [j1]
  have uC:∀b',b'<w.heap.size→(grow (putRow (Value.int .i64) (Sort.ahead w n) q 0 sl.toArray) os).heap[b']?=if b'=q then some (.cells (putCells (Value.int .i64) 0 sl.toArray cur) 3 (0,0)) else w.heap[b']?:=by
   intro b' gr;show ((w.heap.modify q _)++os)[b']?=_;rw[Array.getElem?_append_left (by simpa using gr),Array.getElem?_modify]
   by_cases hq:q=b'
   ·subst hq
    rw[if_pos rfl,if_pos rfl,fD];rfl
   ·rw[if_neg hq,if_neg (fun h=>hq h.symm)]
  refine⟨e1,rfl,rfl,⟨rfl,Nat.le_add_right _ _⟩,?_,fun b' gr hn=>?_,?_⟩
  ·show w.heap.size≤((w.heap.modify q _)++os).size;simp
  ·rw[uC b' gr,if_neg];rintro rfl;exact hn (by show (ρ.val 0).ownBlock=some b';rw[hv];rfl)
  ·refine⟨?_,.inr ⟨q,cap,putCells (Value.int .i64) 0 sl.toArray cur,?_,Nat.zero_le _,?_,?_,vl,?_,?_⟩⟩
   ·rw[l7];simp
   ·rw[List.length_map,j1]
   ·rw[uC q QA,if_pos rfl]
   ·rw[List.length_map,j1];exact iY
   ·simp [putCells,cN]
   ·rw[List.length_map,j1,Nat.mul_one,l7];apply List.ext_getElem?;intro j
    by_cases hj:j<l.length
    ·have O9:j<cur.size:=by omega
     have Wk:j<sl.length:=by omega
     rw[List.getElem?_take_of_lt hj];simp only[putCells,Array.getElem?_toList,Array.getElem?_mapIdx,Array.getElem?_eq_getElem O9,Option.map_some];rw[if_pos ⟨Nat.zero_le _,by rw[dy];omega⟩,List.getElem?_map,aL Wk,Nat.sub_zero,getElem!_pos sl.toArray j (by rw[dy];exact hj)]
     rfl
    ·rw[List.getElem?_eq_none (by rw[List.length_take];omega),List.getElem?_eq_none (by rw[List.length_map];omega)]
end Go.Proofs
end
section
namespace Go.Proofs
open Go.Sy
open Tryz
theorem tC {l:List Int} {i:Nat} (h:i<l.length):(au l)[i]?=some [.int .i64 l[i]]:=by rw[List.getElem?_map,aL h];rfl
theorem JO (l:List Int) (i:Nat) (x:Int):(au l).set i [.int .i64 x]=au (l.set i x):=(List.map_set).symm
theorem Gd {l:List Int} (hn:l.length<8000000000000) {H:Hp} {K:SV→St→Hp→Prop}
  (hK:K (.own 1) ⟨[],[(0,.dead),(1,.row 3 1 (au (bm l)))],2⟩ H):aY prog 233 [.own 0] [(0,.row 3 1 (au l))] 1 H K:=by
 refine aJ af aa func233 call233 ntmps233 results233 rfl rfl ?_;have gq:(au l).length=l.length:=List.length_map _;refine⟨fun h=>?_,fun h=>?_⟩
 ·have h2:l.length<2:=by have:=dt h;rw[gq]at this;omega
  have e:bm l=l:=by
   match l,h2 with
   | [],_=>rfl
   | [_],_=>rfl
  rw[e]at hK;exact⟨.own 1,[(0,.dead),(1,.row 3 1 (au l))],2,[(1,0)],⟨⟨rfl,trivial⟩,⟨trivial,rfl,trivial⟩⟩,hK⟩
 ·have h2:2≤l.length:=by have:=df h;rw[gq]at this;omega
  refine⟨Nat,fun k=>⟨[(0,.own 0),(3,.v (.int .i64 k))],[(0,.row 3 1 (au l))],1⟩,fun k H'=>H'=H∧1≤k∧k≤l.length∧bm (l.take k)=l.take k,fun k=>l.length - k,⟨1,[(0,0)],?_,rfl,by omega,by omega,?_⟩,?_⟩
  ·exact⟨⟨rfl,rfl,trivial⟩,⟨rfl,trivial⟩⟩
  ·match l,h2 with
   | x::r,_=>simp [bm]
  rintro k H1 _ ⟨rfl,og,hk,hg⟩;refine⟨fun h=>?_,fun h=>?_⟩
  ·have aj:k<l.length:=by have:=dt h;rw[gq]at this;omega
   refine⟨some ([],[0,1,2,3,4,5,6,7,8,9]),by kernel_rfl,?_⟩
   have g1:(au l)[((k:Int)).toNat]?=some [.int .i64 l[k]]:=by rw[Int.toNat_natCast];exact tC aj
   have kY:k - 1<l.length:=by omega
   have g2:(au l)[((k:Int) - 1).toNat]?=some [.int .i64 l[k - 1]]:=by
    rw[show ((k:Int) - 1).toNat=k - 1 by omega];exact tC kY
   refine⟨⟨by omega,by rw[gq];omega⟩,?_⟩;refine⟨_,g1,?_⟩;refine⟨⟨by omega,by omega⟩,?_⟩;refine⟨⟨by omega,by rw[gq];omega⟩,?_⟩;refine⟨_,g2,?_⟩
   obtain⟨j,hj⟩:∃j,k=j+1:=⟨k - 1,by omega⟩
   have zq:bm (l.take (k+1))=if l[k - 1]=l[k] then bm (l.take k) else bm (l.take k)++[l[k]]:=by
    subst hj;exact jj aj
   refine⟨fun h=>?_,fun h=>?_⟩
   ·have he:l[k]=l[k - 1]:=dt h;rw[if_pos he.symm,hg]at zq;refine .inr ?_;refine⟨⟨by omega,by rw[gq];omega,by omega⟩,?_⟩;refine .inl ?_
    have wS:(((au l).length:Int)).toNat - ((k:Int)).toNat=l.length - k:=by rw[gq];rfl
    refine⟨Nat×Nat×List Int,fun q=>⟨[(0,.own 0),(3,.v (.int .i64 q.1)),(4,.sub 0 1 k (l.length - k)),(5,.v (.int .i64 q.2.1))],[(0,.row 3 1 (au q.2.2))],1⟩,
     fun q H'=>H'=H1∧q.2.2.length=l.length∧1≤q.2.1∧k+q.2.1≤l.length∧1≤q.1∧q.1+1≤k+q.2.1∧q.2.2.take q.1=bm (l.take (k+q.2.1))∧∀j,k+q.2.1≤j+1→q.2.2[j]?=l[j]?,
     fun q=>l.length - (k+q.2.1),⟨(k,1,l),[(0,0)],?_,rfl,rfl,Nat.le_refl _,aj,og,Nat.le_refl _,zq.symm,fun _ _=>rfl⟩,?_⟩
    ·exact⟨⟨rfl,rfl,⟨rfl,rfl,rfl,wS⟩,rfl,trivial⟩,⟨rfl,trivial⟩⟩
    rintro⟨k',k2,cur⟩ H2 _ ⟨rfl,c1,c2,c3,c4,c5,c6,c7⟩;simp only at c1 c2 c3 c4 c5 c6 c7
    have Dh:(au cur).length=l.length:=by rw[List.length_map,c1]
    refine .inl ?_;refine⟨fun h=>?_,fun h=>?_⟩
    ·have dK:k+k2<l.length:=by have:=dt h;simp only at this;omega
     refine⟨some ([],[0,1,2,3,4,5,6,7,8,9]),by kernel_rfl,?_⟩;have hA:=c7 (k+k2) (by omega);rw[aL dK]at hA;have hB:=c7 (k+k2 - 1) (by omega);rw[aL (by omega:k+k2 - 1<l.length)]at hB
     have gA:(au cur)[((k:Int)+((k',k2,cur).snd.fst:Int)).toNat]?=some [.int .i64 l[k+k2]]:=by
      rw[show ((k:Int)+((k',k2,cur).snd.fst:Int)).toNat=k+k2 by simp only;omega,List.getElem?_map,hA];rfl
     have gB:(au cur)[((k:Int)+(((k',k2,cur).snd.fst:Int) - 1)).toNat]?=some [.int .i64 l[k+k2 - 1]]:=by
      rw[show ((k:Int)+(((k',k2,cur).snd.fst:Int) - 1)).toNat=k+k2 - 1 by simp only;omega,List.getElem?_map,hB];rfl
     refine⟨⟨by simp only;omega,by simp only;omega,by simp only;omega⟩,?_⟩;refine⟨_,gA,?_⟩;refine⟨⟨by simp only;omega,by simp only;omega⟩,?_⟩;refine⟨⟨by simp only;omega,by simp only;omega,by simp only;omega⟩,?_⟩;refine⟨_,gB,?_⟩
     have hE:bm (l.take (k+(k2+1)))=if l[k+k2 - 1]=l[k+k2] then bm (l.take (k+k2)) else bm (l.take (k+k2))++[l[k+k2]]:=by
      obtain⟨j,hj⟩:∃j,k+k2=j+1:=⟨k+k2 - 1,by omega⟩
      have:=jj (l:=l) (j:=j) (by omega);rw[show k+(k2+1)=j+2 by omega];simp only[hj,Nat.add_sub_cancel];exact this
     refine⟨fun h=>?_,fun h=>?_⟩
     ·have cu:¬l[k+k2]=l[k+k2 - 1]:=by
       intro e;rw[decide_eq_true e]at h;cases h
      rw[if_neg (fun e=>cu e.symm)]at hE;refine .inl ?_;refine⟨⟨by simp only;omega,by simp only;omega,by simp only;omega⟩,?_⟩;refine⟨_,gA,?_⟩;refine⟨⟨by simp only;omega,by simp only;rw[Dh];omega⟩,?_⟩
      have lQ:k'<cur.length:=by omega
      refine⟨[.int .i64 cur[k']],by show (au cur)[((k':Nat):Int).toNat]?=_;rw[Int.toNat_natCast];exact tC lQ,?_⟩
      have e5:(au cur).set ((k':Int)).toNat [.int .i64 l[k+k2]]=au (cur.set k' l[k+k2]):=by
       rw[Int.toNat_natCast];exact JO cur k' _
      refine⟨⟨by simp only;omega,by simp only;omega⟩,?_⟩;refine⟨⟨by simp only;omega,by simp only;omega⟩,(k'+1,k2+1,cur.set k' l[k+k2]),[(0,0)],?_,⟨rfl,by simp only[List.length_set];exact c1,by simp only;omega,by simp only;omega,by simp only;omega,by simp only;omega,?_,fun j hj=>?_⟩,by simp only;omega⟩
      ·exact⟨⟨rfl,rfl,⟨rfl,rfl,rfl,rfl⟩,rfl,trivial⟩,⟨e5,trivial⟩⟩
      ·simp only;rw[hE,←c6,List.take_add_one,List.getElem?_set_self lQ,Option.toList_some,List.take_set_of_le (Nat.le_refl _)]
      ·simp only at hj ⊢;rw[List.getElem?_set_ne (by omega)];exact c7 j (by omega)
     ·have he:l[k+k2]=l[k+k2 - 1]:=by
       cases hh:decide (l[k+k2]=l[k+k2 - 1]) with
       | true=>exact dt hh
       | false=>rw[hh]at h;cases h
      rw[if_pos he.symm]at hE;refine⟨⟨by simp only;omega,by simp only;omega⟩,(k',k2+1,cur),[(0,0)],?_,⟨rfl,c1,by simp only;omega,by simp only;omega,c4,by simp only;omega,?_,fun j hj=>c7 j (by simp only at hj;omega)⟩,by simp only;omega⟩
      ·exact⟨⟨rfl,rfl,⟨rfl,rfl,rfl,rfl⟩,rfl,trivial⟩,⟨rfl,trivial⟩⟩
      ·simp only;rw[hE,←c6]
    ·have Mo:k+k2=l.length:=by have:=df h;simp only at this;omega
     rw[Mo,List.take_length]at c6
     have lQ:k'≤cur.length:=by omega
     refine .inr ?_;refine⟨⟨by simp only;omega,by simp only;rw[Dh];omega,by simp only;rw[Dh];omega⟩,?_⟩;refine⟨by show ((k':Nat):Int).toNat+(((au cur).length:Int).toNat - ((k':Nat):Int).toNat)≤(au cur).length;simp only[Int.toNat_natCast];rw[Dh];omega,?_⟩
     have fC:∀(z:List (List Value)),((au cur).take ((k':Nat):Int).toNat++z).take ((k':Nat):Int).toNat=au (bm l):=fun z=>by
      rw[Int.toNat_natCast,List.take_append_of_le_length (by rw[List.length_take];omega),List.take_take,Nat.min_self,←List.map_take,c6]
     refine .inl ⟨⟨by simp only;omega,?_⟩,?_⟩
     ·show ((k':Nat):Int)≤((((au cur).take ((k':Nat):Int).toNat++List.replicate _ _++_:List (List Value)).length:Nat):Int);rw[List.length_append,List.length_append,List.length_take,Int.toNat_natCast,Dh];omega
     ·refine⟨.own 1,[(0,.dead),(1,.row 3 1 (au (bm l)))],2,[(1,1)],⟨⟨rfl,trivial⟩,⟨trivial,?_,trivial⟩⟩,hK⟩;have:=fC (List.replicate (((au cur).length:Int).toNat - ((k':Nat):Int).toNat) [.int .i64 0]++(au cur).drop (((k':Nat):Int).toNat+(((au cur).length:Int).toNat - ((k':Nat):Int).toNat)));rw[←List.append_assoc]at this;exact this
   ·have he:¬l[k]=l[k - 1]:=df h;rw[if_neg (fun e=>he e.symm),hg]at zq;refine⟨⟨by omega,by omega⟩,k+1,[(0,0)],?_,⟨rfl,by omega,by omega,?_⟩,by dsimp only;omega⟩
    ·exact⟨⟨rfl,rfl,trivial⟩,⟨rfl,trivial⟩⟩
    ·rw[zq,List.take_add_one,aL aj];rfl
  ·have e8:k=l.length:=by have:=df h;rw[gq]at this;omega
   rw[e8,List.take_length]at hg;rw[hg]at hK;exact⟨.own 1,[(0,.dead),(1,.row 3 1 (au l))],2,[(1,0)],⟨⟨rfl,trivial⟩,⟨trivial,rfl,trivial⟩⟩,hK⟩
end Go.Proofs
end
