/- Part 'M19' of the proof (Ins): lemmas, each with its own conditions in its own statement. -/
import Derived.Test.YthmicpkjickejaaGreatRRM13
import Derived.Test.YthmicpkjickejaaGreatRRM15
import Derived.Test.YthmicpkjickejaaGreatRRM4
namespace Go.Proofs
open Go.Sy Go.Shelf Go.RowKit Go.Lib
set_option maxRecDepth 20000
def insAt {α:Type} (i:Nat) (x:α) (l:List α):List α:=l.take i++x::l.drop i
theorem strRows_flat (l:List (List UInt8)):(l.map fun s=>[Value.string (bs s)]).flatten=l.map fun s=>Value.string (bs s):=by
 induction l with
 | nil=>rfl
 | cons x r ih=>simp [ih]
theorem sRows_one (l:List (List UInt8)):∀x∈sRows l,x.length=1∧∀u∈x,u.oneCell'=true:=by
 intro x hx;obtain⟨s,_,rfl⟩:=List.mem_map.1 hx;exact⟨rfl,fun u hu=>by simp at hu;subst hu;rfl⟩
section
variable {α:Type} {cur cs:List α} {n i:Nat}
theorem take_of_take (h:cur.take n=cs) (hi:i≤n):cur.take i=cs.take i:=by
 rw[←h,List.take_take,Nat.min_eq_left hi]
theorem take_all {a b:List α} {m:Nat} (h:a.length=m):(a++b).take m=a:=by
 rw[←h,List.take_left'];rfl
theorem shift_list (x:α) (h:cur.take n=cs) (hcs:cs.length=n) (hi:i≤n) (hn:n+1≤cur.length):
  ((cur.take (i+1)++cs.drop i++cur.drop (i+1+(cs.drop i).length)).take i++[x]++(cur.take (i+1)++cs.drop i++cur.drop (i+1+(cs.drop i).length)).drop (i+1)).take (n+1)=cs.take i++[x]++cs.drop i:=by
 have e1:(cur.take (i+1)++cs.drop i++cur.drop (i+1+(cs.drop i).length)).take i=cs.take i:=by
  rw[List.append_assoc,List.take_append_of_le_length (by rw[List.length_take];omega),List.take_take,Nat.min_eq_left (by omega),take_of_take h hi]
 have e2:(cur.take (i+1)++cs.drop i++cur.drop (i+1+(cs.drop i).length)).drop (i+1)=cs.drop i++cur.drop (i+1+(cs.drop i).length):=by
  rw[List.append_assoc,List.drop_left' (by rw[List.length_take];omega)]
 rw[e1,e2,←List.append_assoc,take_all];simp only[List.length_append,List.length_take,List.length_drop,List.length_singleton];omega
theorem end_list (x:α) (h:cur.take n=cs) (hcs:cs.length=n):(cur.take n++[x]++cur.drop (n+1)).take (n+1)=cs.take n++[x]++cs.drop n:=by
 rw[h,take_all (by simp;omega),List.take_of_length_le (by omega),List.drop_of_length_le (by omega),List.append_nil]
theorem grow_list (x:α) {a0 c1:List α} (h0:a0.take i=cs.take i) (h1:c1=a0.take i++[x]++a0.drop (i+1)) (hcs:cs.length=n) (hi:i≤n) {r:List α}:
  (c1.take (i+1)++cs.drop i++r).take (n+1)=cs.take i++[x]++cs.drop i:=by
 have e1:c1.take (i+1)=cs.take i++[x]:=by
  rw[h1,h0,take_all];simp only[List.length_append,List.length_take,List.length_singleton];omega
 rw[e1,take_all];simp only[List.length_append,List.length_take,List.length_drop,List.length_singleton];omega
end
theorem od_drew (w:World):OD w w.drew:=⟨rfl,Nat.le_succ _⟩
theorem insert_spec {l:List (List UInt8)} {s:List UInt8} {i:Nat} (hi:i≤l.length) (hb:l.length<8000000000000) {H:Hp} {K:SV→St→Hp→Prop}
  (hK:K (.own 2) ⟨[],[(2,.row 9 1 (sRows (insAt i s l))),(0,.dead),(0,.row 9 1 (sRows l)),(1,.row 9 1 (sRows [s]))],3⟩ H):
  DoesG Tryz.prog 63 [.own 0,.v (.int .i64 i),.own 1] [(0,.row 9 1 (sRows l)),(1,.row 9 1 (sRows [s]))] 2 H K:=by
 refine doesG_move (k:=0) Tryz.call63 rfl (sRows_one _) ?_ hK;intro w ρ hm;have b0:=(hm.ok 0 _ rfl).2.1;have b1:=(hm.ok 1 _ rfl).2.1
 have hne:∀g g',Owns ρ 0 (.row 9 1 (sRows l)) g→Owns ρ 1 (.row 9 1 (sRows [s])) g'→g≠g':=fun g g' h h' e=>by
  subst e;have:=hm.disj 0 1 _ _ g rfl rfl h h';omega
 rcases row_arr b1 with ⟨_,h⟩ | ⟨vc,vcur,v1,v2,v3,v4,v5,v6⟩
 ·cases h
 have hvs:∀j v,[Value.string (bs s)][j]?=some v→w.cell? ⟨ρ.b 1,0+j,none⟩=some v:=fun j v hj=>by
  rw[cell_of _ _ v2,Nat.zero_add,←Array.getElem?_toList];have h:=congrArg (fun l=>l[j]?) v6;simp only[sRows,List.map_cons,List.map_nil,List.flatten_cons,List.flatten_nil,List.append_nil,List.length_cons,List.length_nil]at h;rw[hj]at h;rw[List.getElem?_take]at h;split at h
  ·exact h
  ·cases h
 have h1v:∀v∈[Value.string (bs s)],v.oneCell'=true:=fun v hv=>by simp at hv;subst hv;rfl
 have hargs:(gas ρ [.own 0,.v (.int .i64 i),.own 1]).toArray=#[ρ.val 0,.int .i64 i,.slice (some ⟨ρ.b 1,0,none⟩) 1 vc]:=by
  simp only[gas,ga,Rho.val,v1]
  rfl
 rw[hargs]
 have hlen:(sRows l).length=l.length:=by simp
 have hfl:(sRows l).flatten=l.map fun s=>Value.string (bs s):=strRows_flat l
 have hfi:(sRows (insAt i s l)).flatten=(l.map fun s=>Value.string (bs s)).take i++[Value.string (bs s)]++(l.map fun s=>Value.string (bs s)).drop i:=by
  rw[strRows_flat,insAt,List.map_append,List.map_cons,List.map_take,List.map_drop];simp
 have hli:(sRows (insAt i s l)).length=l.length+1:=by
  simp only[List.length_map,insAt,List.length_append,List.length_cons,List.length_take,List.length_drop];omega
 obtain⟨cs,hcs⟩:∃cs,cs=l.map fun s=>Value.string (bs s):=⟨_,rfl⟩
 have hcl:cs.length=l.length:=by rw[hcs,List.length_map]
 rw[←hcs]at hfl hfi
 have h1c:∀v∈cs,v.oneCell'=true:=fun v hv=>by
  rw[hcs]at hv;obtain⟨_,_,rfl⟩:=List.mem_map.1 hv
  rfl
 rw[hfi,hli];have hmax:maxLen=9223372036854775807:=rfl
 have hgc:∀c,grownCap w (l.length+1) c (Tryz.laysI_ren.t 9)≤maxLen:=fun c=>grownCap_le_maxLen w _ _ _ (by rw[hmax];omega)
 have hgg:∀c,l.length+1≤grownCap w (l.length+1) c (Tryz.laysI_ren.t 9):=fun c=>grownCap_ge w _ _ _
 have hz:∀n,(Builtin.zeroCells (Value.string ⟨#[]⟩).cells n).size=n:=fun n=>by simp [Builtin.zeroCells,Value.cells]
 rcases row_arr b0 with ⟨u1,u2⟩ | ⟨cap,cur,u1,u2,u3,u4,u5,u6⟩
 ·have hl0:l=[]:=List.map_eq_nil_iff.1 u2;subst hl0
  have hi0:i=0:=by simpa using hi
  subst hi0;have hcs0:cs=[]:=hcs;subst hcs0
  have hv0:ρ.val 0 = .slice none 0 0:=by rw[Rho.val,u1]
  rw[hv0]
  refine (Any2.slices_Insert_string_end_grow Tryz.laysI none 0 0 (ρ.b 1) 0 1 vc [] [Value.string (bs s)] w (by omega) (by omega) (by omega) (by omega) rfl rfl (fun _=>rfl) (fun a ha=>by cases ha) hvs h1v).mono fun ev w' ⟨e1,e2⟩=>?_
  refine⟨(some ⟨w.heap.size,0,none⟩,1,grownCap w (0+1) 0 (Tryz.laysI_ren.t 9)),e1,?_⟩;subst e2;refine⟨rfl,rfl,⟨rfl,Nat.le_succ _⟩,by show _≤(w.heap.push _).size;simp,fun g hg _=>_root_.Go.heap_alloc_old w.drew _ hg,?_,fun g hg=>.inr (by simp only[Value.ownBlock,Option.some.injEq]at hg;omega)⟩;refine⟨by simp,.inr ⟨w.heap.size,_,_,rfl,Nat.zero_le _,_root_.Go.heap_alloc_new w.drew _,hgg 0,hgc 0,?_,?_⟩⟩
  ·have:=hgg 0;simp only[List.length_nil]at this;simp only[Array.size_append,hz,List.nil_append,List.size_toArray,List.length_singleton,Nat.mul_one];omega
  ·simp
 ·have hv0:ρ.val 0 = .slice (some ⟨ρ.b 0,0,none⟩) l.length cap:=by rw[Rho.val,u1,hlen]
  have ho0:Owns ρ 0 (.row 9 1 (sRows l)) (ρ.b 0):=by simp only[Owns,hv0];rfl
  have ho1:Owns ρ 1 (.row 9 1 (sRows [s])) (ρ.b 1):=by simp only[Owns,Rho.val,v1];rfl
  have hbb:ρ.b 1≠ρ.b 0:=fun e=>hne _ _ ho0 ho1 e.symm
  have hb0:ρ.b 0<w.heap.size:=(Array.getElem?_eq_some_iff.1 u2).1;rw[hlen,Nat.mul_one,hfl]at u6;rw[hlen]at u3;rw[Nat.mul_one]at u5
  have hcells:∀j v,cs[j]?=some v→w.cell? ⟨ρ.b 0,0+j,none⟩=some v:=fun j v hj=>by
   rw[cell_of _ _ u2,Nat.zero_add,←Array.getElem?_toList];have h:=congrArg (fun l=>l[j]?) u6;rw[hj,List.getElem?_take]at h;split at h
   ·exact h
   ·cases h
  rw[hv0]
  have hkeep:∀w':World,(∀g,g≠ρ.b 0→w'.heap[g]?=w.heap[g]?)→∀g,g<w.heap.size→¬Owns ρ 0 (.row 9 1 (sRows l)) g→w'.heap[g]?=w.heap[g]?:=fun w' h g _ hn=>h g (fun e=>hn (e▸ho0))
  by_cases hroom:l.length+1≤cap
  ·by_cases hin:i<l.length
   ·refine (Any2.slices_Insert_string_shift Tryz.laysI (ρ.b 0) 0 l.length cap i (ρ.b 1) 0 1 vc cs [Value.string (bs s)] w hin (by omega) hroom (by rw[hmax]at u4;exact u4) hbb hcl rfl hcells
     (fun j hj=>by rw[cell_of _ _ u2,Array.getElem?_eq_getElem (by omega)];rfl) (fun j hj=>by simp [World.frozen?,u2]) hvs h1c h1v 9 9 vcur.size cur.size (by simp [World.shape?,v2]) (by simp [World.shape?,u2]) (by omega)
     (by simp [World.frozen?,v2]) (by simp [World.frozen?,v2])).mono fun ev w' ⟨e1,e2⟩=>?_
    obtain⟨c1,k1,k2,k3,k4,k5,k6,k7⟩:=setCells_heap (ρ.b 0) (cs.drop i) (0+(i+1)) w.drew cur u2 (by rw[List.length_drop];omega)
    have hc1:c1.size=cur.size:=by
     have:=congrArg List.length k2;simp only[List.length_append,List.length_take,List.length_drop,Array.length_toList]at this;omega
    obtain⟨c2,m1,m2,m3,m4,m5,m6,m7⟩:=setCells_heap (ρ.b 0) [Value.string (bs s)] (0+i) _ c1 k1 (by simp;omega)
    have hc2:c2.size=cur.size:=by
     have:=congrArg List.length m2;simp only[List.length_append,List.length_take,List.length_drop,Array.length_toList,List.length_singleton]at this;omega
    refine⟨(some ⟨ρ.b 0,0,none⟩,l.length+1,cap),e1,?_⟩;subst e2;refine⟨m5.trans k5,m6.trans k6,OD.trans (w':=w.drew) ⟨rfl,Nat.le_succ _⟩ (k7.trans m7),by rw[m4,k4];exact Nat.le_refl _,hkeep _ fun g hg=>(m3 g hg).trans (k3 g hg),?_,fun g hg=>.inl (by simp only[Value.ownBlock,Option.some.injEq]at hg;rw[←hg];exact ho0)⟩;refine⟨by simp only[List.length_append,List.length_take,List.length_drop,List.length_singleton];omega,.inr ⟨ρ.b 0,cap,c2,rfl,Nat.zero_le _,m1,hroom,u4,by rw[hc2,u5,Nat.mul_one],?_⟩⟩;rw[m2,k2,Nat.mul_one,Nat.zero_add,Nat.zero_add,List.length_singleton];exact shift_list _ u6 hcl hi (by have h:cur.toList.length=cur.size:=Array.length_toList;omega)
   ·have hil:i=l.length:=by omega
    subst hil
    refine (Any2.slices_Insert_string_end_room Tryz.laysI (ρ.b 0) 0 l.length cap (ρ.b 1) 0 1 vc [Value.string (bs s)] w (by omega) hroom (by rw[hmax]at u4;exact u4) rfl
     (fun j hj=>by rw[cell_of _ _ u2,Array.getElem?_eq_getElem (by omega)];rfl) (fun j hj=>by simp [World.frozen?,u2]) hvs h1v).mono fun ev w' ⟨e1,e2⟩=>?_
    obtain⟨c1,k1,k2,k3,k4,k5,k6,k7⟩:=setCells_heap (ρ.b 0) [Value.string (bs s)] (0+l.length) w cur u2 (by simp;omega)
    have hc1:c1.size=cur.size:=by
     have:=congrArg List.length k2;simp only[List.length_append,List.length_take,List.length_drop,Array.length_toList,List.length_singleton]at this;omega
    refine⟨(some ⟨ρ.b 0,0,none⟩,l.length+1,cap),e1,?_⟩;subst e2;refine⟨k5,k6,k7,by rw[k4];exact Nat.le_refl _,hkeep _ k3,?_,fun g hg=>.inl (by simp only[Value.ownBlock,Option.some.injEq]at hg;rw[←hg];exact ho0)⟩;refine⟨by simp only[List.length_append,List.length_take,List.length_drop,List.length_singleton];omega,.inr ⟨ρ.b 0,cap,c1,rfl,Nat.zero_le _,k1,hroom,u4,by rw[hc1,u5,Nat.mul_one],?_⟩⟩;rw[k2,Nat.mul_one,Nat.zero_add,List.length_singleton];exact end_list _ u6 hcl
  ·by_cases hin:i<l.length
   ·refine (Any2.slices_Insert_string_grow Tryz.laysI (ρ.b 0) 0 l.length cap i (ρ.b 1) 0 1 vc cs [Value.string (bs s)] w hin (by omega) u3 (by omega) (by omega) hcl rfl hcells hvs h1c h1v).mono fun ev w' ⟨e1,e2⟩=>?_
    have ha:=_root_.Go.heap_alloc_new w (.cells ((cs.take i).toArray++Builtin.zeroCells (Value.string ⟨#[]⟩).cells (l.length+1 - i)++Builtin.zeroCells (Value.string ⟨#[]⟩).cells (grownCap w (l.length+1) cap (Tryz.laysI_ren.t 9) - (l.length+1))) (Tryz.laysI_ren.t 9));have hg0:=hgg cap;obtain⟨c1,k1,k2,k3,k4,k5,k6,k7⟩:=setCells_heap w.heap.size [Value.string (bs s)] i (w.alloc _).drew _ ha (by simp only[Array.size_append,hz,List.size_toArray,List.length_take,List.length_singleton];omega)
    have hc1:c1.size=grownCap w (l.length+1) cap (Tryz.laysI_ren.t 9):=by
     have:=congrArg List.length k2;simp only[List.length_append,List.length_take,List.length_drop,Array.length_toList,List.length_singleton,Array.size_append,hz,List.size_toArray]at this;omega
    have q:∀W:World,W.drew.heap=W.heap:=fun _=>rfl
    have k1':=k1;rw[←q]at k1';obtain⟨c2,m1,m2,m3,m4,m5,m6,m7⟩:=setCells_heap w.heap.size (cs.drop i) (i+1) _ c1 k1' (by rw[List.length_drop];omega)
    have hc2:c2.size=c1.size:=by
     have:=congrArg List.length m2;simp only[List.length_append,List.length_take,List.length_drop,Array.length_toList]at this;omega
    refine⟨(some ⟨w.heap.size,0,none⟩,l.length+1,grownCap w (l.length+1) cap (Tryz.laysI_ren.t 9)),e1,?_⟩;subst e2;refine⟨m5.trans k5,m6.trans k6,OD.trans (w':=(w.alloc _).drew) ⟨rfl,Nat.le_succ _⟩ (k7.trans ((od_drew _).trans m7)),?_,?_,?_,fun g hg=>.inr (by simp only[Value.ownBlock,Option.some.injEq]at hg;omega)⟩
    ·rw[m4];show _≤(World.heap (World.setCells _ _ _ _)).size;rw[k4];show _≤(w.heap.push _).size;simp
    ·intro g hg _;exact (m3 g (by omega)).trans ((k3 g (by omega)).trans (_root_.Go.heap_alloc_old w _ hg))
    ·refine⟨by simp only[List.length_append,List.length_take,List.length_drop,List.length_singleton];omega,.inr ⟨w.heap.size,_,c2,rfl,Nat.zero_le _,m1,hg0,hgc cap,by rw[hc2,hc1,Nat.mul_one],?_⟩⟩;rw[m2,Nat.mul_one];refine grow_list _ ?_ k2 hcl hi;simp only[Array.toList_append,List.append_assoc];exact take_all (by rw[List.length_take];omega)
   ·have hil:i=l.length:=by omega
    subst hil
    refine (Any2.slices_Insert_string_end_grow Tryz.laysI (some ⟨ρ.b 0,0,none⟩) l.length cap (ρ.b 1) 0 1 vc cs [Value.string (bs s)] w (by omega) u3 (by omega) (by omega) hcl rfl (fun h=>by cases h) (fun a ha j v hj=>by cases ha;rw[Addr.at_];exact hcells j v hj) hvs h1v).mono fun ev w' ⟨e1,e2⟩=>?_
    refine⟨(some ⟨w.heap.size,0,none⟩,l.length+1,grownCap w (l.length+1) cap (Tryz.laysI_ren.t 9)),e1,?_⟩;subst e2;refine⟨rfl,rfl,⟨rfl,Nat.le_succ _⟩,by show _≤(w.heap.push _).size;simp,fun g hg _=>_root_.Go.heap_alloc_old w.drew _ hg,?_,fun g hg=>.inr (by simp only[Value.ownBlock,Option.some.injEq]at hg;omega)⟩;have hg0:=hgg cap;refine⟨by simp only[List.length_append,List.length_take,List.length_drop,List.length_singleton];omega,.inr ⟨w.heap.size,_,_,rfl,Nat.zero_le _,_root_.Go.heap_alloc_new w.drew _,hgg cap,hgc cap,?_,?_⟩⟩
    ·simp only[Array.size_append,hz,List.size_toArray,List.length_append,List.length_singleton,Nat.mul_one];omega
    ·rw[Array.toList_append,Nat.mul_one];refine (take_all (by simp;omega)).trans ?_;rw[List.take_of_length_le (by omega),List.drop_of_length_le (by omega),List.append_nil]
end Go.Proofs
