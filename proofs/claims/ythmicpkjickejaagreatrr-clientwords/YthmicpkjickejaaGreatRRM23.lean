/- Part 'M23' of the proof (Ss1, Ss2): lemmas, each with its own conditions in its own statement. -/
import Derived.Test.YthmicpkjickejaaGreatRRM17
import Derived.Test.YthmicpkjickejaaGreatRRM22
import Derived.Test.YthmicpkjickejaaGreatRRM6
section
namespace Go.Proofs
open Go.Sy Go.Sort Go.Shelf
set_option maxRecDepth 20000
instance:LO Bs8 where
 lt a b:=a<b
 dec a b:=inferInstanceAs (Decidable (a<b))
 deq:=inferInstance
 irrefl:=slt_irrefl
 trans:=slt_trans
 tri:=slt_tri
theorem sRows_flat (l:List Bs8):(sRows l).flatten=l.map encStr:=by
 induction l with
 | nil=>rfl
 | cons x r ih=>show Value.string (bs x)::(sRows r).flatten=_;rw[ih];rfl
theorem sortS_spec {l:List Bs8} (hl:l.length<8000000000000) {H:Hp} {K:SV→St→Hp→Prop}
  (hK:∀l':List Bs8,l'.length=l.length→l'.Perm l→gComp l'=gSort l→K (.tup []) ⟨[],[(0,.row 9 1 (sRows l')),(0,.row 9 1 (sRows l))],1⟩ H):DoesG Tryz.prog 155 [.own 0] [(0,.row 9 1 (sRows l))] 1 H K:=by
 obtain⟨sl,hsle⟩:∃sl,sl=l.mergeSort fun x y=>decide (x≤y):=⟨_,rfl⟩
 have hperm:sl.Perm l:=by rw[hsle];exact List.mergeSort_perm l _
 have hsl:=hperm.length_eq
 have hpw:sl.Pairwise fun x y=>¬LO.lt y x:=by
  have:=List.pairwise_mergeSort (le:=fun (x y:Bs8)=>decide (x≤y)) (fun a b c h1 h2=>by
   have:=dt h1;have:=dt h2;exact decide_eq_true (List.le_trans ‹_› ‹_›)) (fun a b=>by
   rcases List.le_total a b with h | h
   ·rw[decide_eq_true h];rfl
   ·rw[decide_eq_true h];simp) l
  rw[hsle]
  exact this.imp fun h h'=>List.not_lt.2 (dt h) h'
 refine doesG_turn (e:=9) (sz:=1) (xs:=sRows l) (ys:=sRows sl) Tryz.call155 rfl (by rw[List.length_map,List.length_map,hsl]) (fun x hx=>sRows_one sl x hx) (fun w ρ hm=>?_) (hK sl hsl hperm (gComp_sort (fun t=>hperm.mem_iff) hpw));have hbox:=(hm.ok 0 (.row 9 1 (sRows l)) rfl).2.1;obtain⟨⟨hfl,hv⟩,hall,hvb⟩:=hbox;rw[List.length_map]at hv
 rcases hv with ⟨hv,h0⟩ | ⟨q,cap,cur,hv,_,hcell,hcap,hmax,hsz,hcur⟩
 ·have hnil:l=[]:=List.eq_nil_of_length_eq_zero h0;have hnil2:sl=[]:=List.eq_nil_of_length_eq_zero (by omega);have hh:=Any.slices_Sort_string_none Tryz.lays190 none 0 w;show Calls Tryz.prog 155 #[ρ.val 0] w _;rw[hv]
  refine hh.mono fun ev w' ⟨e1,e2⟩=>?_
  rw[e2];refine⟨e1,rfl,rfl,OD.refl _,Nat.le_refl _,fun _ _ _=>rfl,?_⟩;rw[hnil2];exact⟨by simp,.inl ⟨rfl,by simp⟩⟩
 ·have hqs:q<w.heap.size:=(Array.getElem?_eq_some_iff.1 hcell).1;rw[Nat.mul_one]at hsz hcur;rw[sRows_flat]at hcur;show Calls Tryz.prog 155 #[ρ.val 0] w _
  have hlk:l.length≤cur.size:=by rw[hsz];exact hcap
  have hH:Holds encStr w q 0 l.toArray:=by
   intro j hj
   have hj1:j<l.length:=by simpa using hj
   have hj2:j<cur.size:=by omega
   constructor
   ·have e1:cur.toList[j]?=some (encStr l.toArray[j]!):=by
     rw[←List.getElem?_take_of_lt hj1,hcur,List.getElem?_map,List.getElem?_eq_getElem hj1,getElem!_pos l.toArray j hj]
     rfl
    rw[Nat.zero_add];simp only[World.cell?,hcell];rw[←Array.getElem?_toList];exact e1
   ·simp only[World.frozen?,hcell];simp
  have hmain:=Any.slices_Sort_string Tryz.lays190 q 0 cap l w hH hqs (by omega);rw[hv]
  refine hmain.mono fun ev w' ⟨e1,n,os,e2⟩=>?_
  rw[e2,←hsle]
  have hss:sl.toArray.size=l.length:=by simp [hsl]
  have hheap:∀b',b'<w.heap.size→(grow (putRow encStr (Sort.ahead w n) q 0 sl.toArray) os).heap[b']?=if b'=q then some (.cells (putCells encStr 0 sl.toArray cur) 9 (0,0)) else w.heap[b']?:=by
   intro b' hb';show ((w.heap.modify q _)++os)[b']?=_;rw[Array.getElem?_append_left (by simpa using hb'),Array.getElem?_modify]
   by_cases hq:q=b'
   ·subst hq
    rw[if_pos rfl,if_pos rfl,hcell];rfl
   ·rw[if_neg hq,if_neg (fun h=>hq h.symm)]
  refine⟨e1,rfl,rfl,⟨rfl,Nat.le_add_right _ _⟩,?_,fun b' hb' hn=>?_,?_⟩
  ·show w.heap.size≤((w.heap.modify q _)++os).size;simp
  ·rw[hheap b' hb',if_neg];rintro rfl;exact hn (by show (ρ.val 0).ownBlock=some b';rw[hv];rfl)
  ·refine⟨?_,.inr ⟨q,cap,putCells encStr 0 sl.toArray cur,?_,Nat.zero_le _,?_,?_,hmax,?_,?_⟩⟩
   ·rw[sRows_flat];simp
   ·rw[List.length_map,hsl]
   ·rw[hheap q hqs,if_pos rfl]
   ·rw[List.length_map,hsl];exact hcap
   ·simp [putCells,hsz]
   ·rw[List.length_map,hsl,Nat.mul_one,sRows_flat];apply List.ext_getElem?;intro j
    by_cases hj:j<l.length
    ·have hj2:j<cur.size:=by omega
     have hj3:j<sl.length:=by omega
     rw[List.getElem?_take_of_lt hj];simp only[putCells,Array.getElem?_toList,Array.getElem?_mapIdx,Array.getElem?_eq_getElem hj2,Option.map_some];rw[if_pos ⟨Nat.zero_le _,by rw[hss];omega⟩,List.getElem?_map,List.getElem?_eq_getElem hj3,Nat.sub_zero,getElem!_pos sl.toArray j (by rw[hss];exact hj)]
     rfl
    ·rw[List.getElem?_eq_none (by rw[List.length_take];omega),List.getElem?_eq_none (by rw[List.length_map];omega)]
end Go.Proofs
end
section
namespace Go.Proofs
open Go.Sy
set_option maxRecDepth 20000
theorem sRows_get {l:List Bs8} {i:Nat} (h:i<l.length):(sRows l)[i]?=some [.string (bs l[i])]:=by rw[List.getElem?_map,List.getElem?_eq_getElem h];rfl
theorem sRows_set (l:List Bs8) (i:Nat) (x:Bs8):(sRows l).set i [.string (bs x)]=sRows (l.set i x):=(List.map_set).symm
theorem compS_spec {l:List Bs8} (hn:l.length<8000000000000) {H:Hp} {K:SV→St→Hp→Prop}
  (hK:K (.own 1) ⟨[],[(0,.dead),(1,.row 9 1 (sRows (gComp l)))],2⟩ H):DoesG Tryz.prog 156 [.own 0] [(0,.row 9 1 (sRows l))] 1 H K:=by
 refine spec_ofG cx_ok cx_mix Tryz.func156 Tryz.call156 Tryz.ntmps156 Tryz.results156 rfl rfl ?_;have hel:(sRows l).length=l.length:=List.length_map _;refine⟨fun h=>?_,fun h=>?_⟩
 ·have h2:l.length<2:=by have:=dt h;rw[hel]at this;omega
  have e:gComp l=l:=by
   match l,h2 with
   | [],_=>rfl
   | [_],_=>rfl
  rw[e]at hK;exact⟨.own 1,[(0,.dead),(1,.row 9 1 (sRows l))],2,[(1,0)],⟨⟨rfl,trivial⟩,⟨trivial,rfl,trivial⟩⟩,hK⟩
 ·have h2:2≤l.length:=by have:=df h;rw[hel]at this;omega
  refine⟨Nat,fun k=>⟨[(0,.own 0),(3,.v (.int .i64 k))],[(0,.row 9 1 (sRows l))],1⟩,fun k H'=>H'=H∧1≤k∧k≤l.length∧gComp (l.take k)=l.take k,fun k=>l.length - k,⟨1,[(0,0)],?_,rfl,by omega,by omega,?_⟩,?_⟩
  ·exact⟨⟨rfl,rfl,trivial⟩,⟨rfl,trivial⟩⟩
  ·match l,h2 with
   | x::r,_=>simp [gComp]
  rintro k H1 _ ⟨rfl,hk1,hk,hg⟩;refine⟨fun h=>?_,fun h=>?_⟩
  ·have hlt:k<l.length:=by have:=dt h;rw[hel]at this;omega
   refine⟨some ([],[0,1,2,3,4,5,6,7,8,9]),by kernel_rfl,?_⟩
   have g1:(sRows l)[((k:Int)).toNat]?=some [.string (bs l[k])]:=by rw[Int.toNat_natCast];exact sRows_get hlt
   have hk2:k - 1<l.length:=by omega
   have g2:(sRows l)[((k:Int) - 1).toNat]?=some [.string (bs l[k - 1])]:=by
    rw[show ((k:Int) - 1).toNat=k - 1 by omega];exact sRows_get hk2
   refine⟨⟨by omega,by rw[hel];omega⟩,?_⟩;refine⟨_,g1,?_⟩;refine⟨⟨by omega,by omega⟩,?_⟩;refine⟨⟨by omega,by rw[hel];omega⟩,?_⟩;refine⟨_,g2,?_⟩
   obtain⟨j,hj⟩:∃j,k=j+1:=⟨k - 1,by omega⟩
   have hgt:gComp (l.take (k+1))=if l[k - 1]=l[k] then gComp (l.take k) else gComp (l.take k)++[l[k]]:=by
    subst hj;exact gComp_take hlt
   refine⟨fun h=>?_,fun h=>?_⟩
   ·have he:l[k]=l[k - 1]:=dt h;rw[if_pos he.symm,hg]at hgt;refine .inr ?_;refine⟨⟨by omega,by rw[hel];omega,by omega⟩,?_⟩;refine .inl ?_
    have hsub:(((sRows l).length:Int)).toNat - ((k:Int)).toNat=l.length - k:=by rw[hel];rfl
    refine⟨Nat×Nat×List Bs8,fun q=>⟨[(0,.own 0),(3,.v (.int .i64 q.1)),(4,.sub 0 1 k (l.length - k)),(5,.v (.int .i64 q.2.1))],[(0,.row 9 1 (sRows q.2.2))],1⟩,
     fun q H'=>H'=H1∧q.2.2.length=l.length∧1≤q.2.1∧k+q.2.1≤l.length∧1≤q.1∧q.1+1≤k+q.2.1∧q.2.2.take q.1=gComp (l.take (k+q.2.1))∧∀j,k+q.2.1≤j+1→q.2.2[j]?=l[j]?,
     fun q=>l.length - (k+q.2.1),⟨(k,1,l),[(0,0)],?_,rfl,rfl,Nat.le_refl _,hlt,hk1,Nat.le_refl _,hgt.symm,fun _ _=>rfl⟩,?_⟩
    ·exact⟨⟨rfl,rfl,⟨rfl,rfl,rfl,hsub⟩,rfl,trivial⟩,⟨rfl,trivial⟩⟩
    rintro⟨k',k2,cur⟩ H2 _ ⟨rfl,c1,c2,c3,c4,c5,c6,c7⟩;simp only at c1 c2 c3 c4 c5 c6 c7
    have hec:(sRows cur).length=l.length:=by rw[List.length_map,c1]
    refine .inl ?_;refine⟨fun h=>?_,fun h=>?_⟩
    ·have hlt2:k+k2<l.length:=by have:=dt h;simp only at this;omega
     refine⟨some ([],[0,1,2,3,4,5,6,7,8,9]),by kernel_rfl,?_⟩;have hA:=c7 (k+k2) (by omega);rw[List.getElem?_eq_getElem hlt2]at hA;have hB:=c7 (k+k2 - 1) (by omega);rw[List.getElem?_eq_getElem (by omega:k+k2 - 1<l.length)]at hB
     have gA:(sRows cur)[((k:Int)+((k',k2,cur).snd.fst:Int)).toNat]?=some [.string (bs l[k+k2])]:=by
      rw[show ((k:Int)+((k',k2,cur).snd.fst:Int)).toNat=k+k2 by simp only;omega,List.getElem?_map,hA];rfl
     have gB:(sRows cur)[((k:Int)+(((k',k2,cur).snd.fst:Int) - 1)).toNat]?=some [.string (bs l[k+k2 - 1])]:=by
      rw[show ((k:Int)+(((k',k2,cur).snd.fst:Int) - 1)).toNat=k+k2 - 1 by simp only;omega,List.getElem?_map,hB];rfl
     refine⟨⟨by simp only;omega,by simp only;omega,by simp only;omega⟩,?_⟩;refine⟨_,gA,?_⟩;refine⟨⟨by simp only;omega,by simp only;omega⟩,?_⟩;refine⟨⟨by simp only;omega,by simp only;omega,by simp only;omega⟩,?_⟩;refine⟨_,gB,?_⟩
     have hE:gComp (l.take (k+(k2+1)))=if l[k+k2 - 1]=l[k+k2] then gComp (l.take (k+k2)) else gComp (l.take (k+k2))++[l[k+k2]]:=by
      obtain⟨j,hj⟩:∃j,k+k2=j+1:=⟨k+k2 - 1,by omega⟩
      have:=gComp_take (l:=l) (j:=j) (by omega);rw[show k+(k2+1)=j+2 by omega];simp only[hj,Nat.add_sub_cancel];exact this
     refine⟨fun h=>?_,fun h=>?_⟩
     ·have hne:¬l[k+k2]=l[k+k2 - 1]:=nt h;rw[if_neg (fun e=>hne e.symm)]at hE;refine .inl ?_;refine⟨⟨by simp only;omega,by simp only;omega,by simp only;omega⟩,?_⟩;refine⟨_,gA,?_⟩;refine⟨⟨by simp only;omega,by simp only;rw[hec];omega⟩,?_⟩
      have hk':k'<cur.length:=by omega
      refine⟨[.string (bs cur[k'])],by show (sRows cur)[((k':Nat):Int).toNat]?=_;rw[Int.toNat_natCast];exact sRows_get hk',?_⟩
      have e5:(sRows cur).set ((k':Int)).toNat [.string (bs l[k+k2])]=sRows (cur.set k' l[k+k2]):=by
       rw[Int.toNat_natCast];exact sRows_set cur k' _
      refine⟨⟨by simp only;omega,by simp only;omega⟩,?_⟩;refine⟨⟨by simp only;omega,by simp only;omega⟩,(k'+1,k2+1,cur.set k' l[k+k2]),[(0,0)],?_,⟨rfl,by simp only[List.length_set];exact c1,by simp only;omega,by simp only;omega,by simp only;omega,by simp only;omega,?_,fun j hj=>?_⟩,by simp only;omega⟩
      ·exact⟨⟨rfl,rfl,⟨rfl,rfl,rfl,rfl⟩,rfl,trivial⟩,⟨e5,trivial⟩⟩
      ·simp only;rw[hE,←c6,List.take_add_one,List.getElem?_set_self hk',Option.toList_some,List.take_set_of_le (Nat.le_refl _)]
      ·simp only at hj ⊢;rw[List.getElem?_set_ne (by omega)];exact c7 j (by omega)
     ·have he:l[k+k2]=l[k+k2 - 1]:=nf h;rw[if_pos he.symm]at hE;refine⟨⟨by simp only;omega,by simp only;omega⟩,(k',k2+1,cur),[(0,0)],?_,⟨rfl,c1,by simp only;omega,by simp only;omega,c4,by simp only;omega,?_,fun j hj=>c7 j (by simp only at hj;omega)⟩,by simp only;omega⟩
      ·exact⟨⟨rfl,rfl,⟨rfl,rfl,rfl,rfl⟩,rfl,trivial⟩,⟨rfl,trivial⟩⟩
      ·simp only;rw[hE,←c6]
    ·have hk2l:k+k2=l.length:=by have:=df h;simp only at this;omega
     rw[hk2l,List.take_length]at c6
     have hk':k'≤cur.length:=by omega
     refine .inr ?_;refine⟨⟨by simp only;omega,by simp only;rw[hec];omega,by simp only;rw[hec];omega⟩,?_⟩;refine⟨by show ((k':Nat):Int).toNat+(((sRows cur).length:Int).toNat - ((k':Nat):Int).toNat)≤(sRows cur).length;simp only[Int.toNat_natCast];rw[hec];omega,?_⟩
     have hcl:∀(z:List (List Value)),((sRows cur).take ((k':Nat):Int).toNat++z).take ((k':Nat):Int).toNat=sRows (gComp l):=fun z=>by
      rw[Int.toNat_natCast,List.take_append_of_le_length (by rw[List.length_take];omega),List.take_take,Nat.min_self,←List.map_take,c6]
     refine .inl ⟨⟨by simp only;omega,?_⟩,?_⟩
     ·show ((k':Nat):Int)≤((((sRows cur).take ((k':Nat):Int).toNat++List.replicate _ _++_:List (List Value)).length:Nat):Int);rw[List.length_append,List.length_append,List.length_take,Int.toNat_natCast,hec];omega
     ·refine⟨.own 1,[(0,.dead),(1,.row 9 1 (sRows (gComp l)))],2,[(1,1)],⟨⟨rfl,trivial⟩,⟨trivial,?_,trivial⟩⟩,hK⟩;have:=hcl (List.replicate (((sRows cur).length:Int).toNat - ((k':Nat):Int).toNat) [.string ⟨#[]⟩]++(sRows cur).drop (((k':Nat):Int).toNat+(((sRows cur).length:Int).toNat - ((k':Nat):Int).toNat)));rw[←List.append_assoc]at this;exact this
   ·have he:¬l[k]=l[k - 1]:=df h;rw[if_neg (fun e=>he e.symm),hg]at hgt;refine⟨⟨by omega,by omega⟩,k+1,[(0,0)],?_,⟨rfl,by omega,by omega,?_⟩,by dsimp only;omega⟩
    ·exact⟨⟨rfl,rfl,trivial⟩,⟨rfl,trivial⟩⟩
    ·rw[hgt,List.take_add_one,List.getElem?_eq_getElem hlt];rfl
  ·have hkl:k=l.length:=by have:=df h;rw[hel]at this;omega
   rw[hkl,List.take_length]at hg;rw[hg]at hK;exact⟨.own 1,[(0,.dead),(1,.row 9 1 (sRows l))],2,[(1,0)],⟨⟨rfl,trivial⟩,⟨trivial,rfl,trivial⟩⟩,hK⟩
end Go.Proofs
end
