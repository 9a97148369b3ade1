/- Part 'M38' of the proof (Rt4, Rt5, Rl0, Rt6, Rt7, Cw7, Cw9): lemmas, each with its own conditions in its own statement. -/
import Derived.LoopIn
import Derived.LoopNIn
import Derived.OwnWalkIn
import Derived.RangeFuncBound
import Derived.RangeFuncCalls
import Derived.RangeFuncLeaves
import Derived.RangeFuncNested
import Derived.Shelf.Abstract
import Derived.Shelf.RegionOpen
import Derived.TacticsInMore
import Derived.WalkKit
import Derived.Test.YthmicpkjickejaaGreatRRM12
import Derived.Test.YthmicpkjickejaaGreatRRM20
import Derived.Test.YthmicpkjickejaaGreatRRM28
import Derived.Test.YthmicpkjickejaaGreatRRM29
import Derived.Test.YthmicpkjickejaaGreatRRM33
import Derived.Test.YthmicpkjickejaaGreatRRM35
import Derived.Test.YthmicpkjickejaaGreatRRM36
import Derived.Test.YthmicpkjickejaaGreatRRM37
section
namespace Go.Proofs
open Go.RowKit Go.Shelf Go.Sy
attribute [local go_sem] Oper.semAt_some
theorem calm_alloc {N:Nat} {F:Nat→Prop} {W:World} {o:Obj} (hN:N≤W.heap.size) (hF:∀b,F b→b<W.heap.size):RCalm N F W (W.alloc o) :=
 ⟨rfl,rfl,⟨rfl,Nat.le_refl _⟩,by simp,fun b hb=>Below.heap_alloc _ _ _ (hb.elim (fun h=>Nat.lt_of_lt_of_le h hN) (hF b))⟩
structure ItW (H:Hp) (N:Nat) (W:World) (F:Nat→Prop):Prop where
 hp:∀b o,H b=some o→W.heap[b]?=some o
 big:N≤W.heap.size
 f:∀b,F b→H b=none∧b<W.heap.size
theorem ItW.alloc {H:Hp} {N:Nat} {W:World} {F:Nat→Prop} (h:ItW H N W F) (o:Obj):ItW H N (W.alloc o) F :=
 ⟨fun b o' hb=>by
  have e:=h.hp b o' hb
  rw[←e];exact Below.heap_alloc _ _ _ (Array.getElem?_eq_some_iff.1 e).1,Nat.le_trans h.big (by simp),fun b hb=>⟨(h.f b hb).1,Nat.lt_of_lt_of_le (h.f b hb).2 (by simp)⟩⟩
theorem ItW.kept {H:Hp} {N:Nat} {W W':World} {F F':Nat→Prop} (h:ItW H N W F) (hk:RKept F W W') (hF:∀b,F' b→(F b∨W.heap.size≤b)∧b<W'.heap.size):ItW H N W' F' :=
 ⟨fun b o hb=>by
  have e:=h.hp b o hb
  rw[hk.heap b (Array.getElem?_eq_some_iff.1 e).1 (fun hf=>by rw[(h.f b hf).1]at hb;cases hb)];exact e,Nat.le_trans h.big hk.size,fun b hb=>⟨by
  rcases (hF b hb).1 with h1 | h1
  ·exact (h.f b h1).1
  ·cases hh:H b with
   | none=>rfl
   | some o=>have:=(Array.getElem?_eq_some_iff.1 (h.hp b o hh)).1;omega,(hF b hb).2⟩⟩
theorem cell_hp {H:Hp} {W:World} (h:∀b o,H b=some o→W.heap[b]?=some o) {b:Nat} {v:Value} {T:TypeId} {f:Nat×Nat} (hb:H b=some (.cells #[v] T f)):W.cell? ⟨b,0,none⟩=some v:=by
 simp [World.cell?,h b _ hb]
theorem rl_cells {α:Type} [Enc α] {H:Hp} {a:Option Addr} {n c:Nat} {l:List α} (ha:RL H a n c l) {k:Nat} {x:α} (hx:l[k]?=some x):∃b off cs,a=some ⟨b,off,none⟩∧Enc.R H cs x ∧
  ∀ {W:World},(∀b o,H b=some o→W.heap[b]?=some o)→∀j v,j<Enc.sz α→cs[j]?=some v→W.cell? ⟨b,off+k*Enc.sz α+j,none⟩=some v:=by
 obtain⟨h1,h2,_,h4⟩:=ha
 rcases h4 with h4 | ⟨ad,e,hsp,cells,T,fr,hH,hcs,hx2⟩
 ·have:=(List.getElem?_eq_some_iff.1 hx).1;omega
 ·obtain⟨b,off,sp⟩:=ad;dsimp only at hsp hH hx2 hcs;subst hsp;obtain⟨cs,h5,h6⟩:=hx2 k x hx;refine⟨b,off,cs,e,h5,fun {W} hw j v hj hv=>?_⟩;have h7:=h6 j hj;simp only[World.cell?,hw _ _ hH];rw[hv]at h7;exact h7
theorem rl_left {α:Type} [Enc α] {H Hm:Hp} {a:Option Addr} {n c:Nat} {xs:List α} (h:RL H a n c xs) (hc:CellsLe H Hm) (hR:∀ {cs:List Value} {x:α},Enc.R H cs x→Enc.R Hm cs x):RL Hm a n c xs:=by
 obtain⟨h1,h2,h3,h4⟩:=h;refine⟨h1,h2,h3,?_⟩
 rcases h4 with h4 | ⟨ad,e,hs,cells,T,fr,hH,hb,hx⟩
 ·exact .inl h4
 ·refine .inr ⟨ad,e,hs,cells,T,fr,hc _ _ _ _ hH,hb,fun i x hi=>?_⟩;obtain⟨cs,h5,h6⟩:=hx i x hi;exact⟨cs,hR h5,h6⟩
def ofL (v:Bs8):List Site→Nat→List Int
 | [],_=>[]
 | x::r,i=>(if x.2.2.l=v then [(i:Int)] else [])++ofL v r (i+1)
set_option maxRecDepth 100000 in
set_option maxHeartbeats 4000000 in
theorem of_iter {Z:List Site} (hreach:Z.length≤100000) {v:Bs8} {a:Option Addr} {n c Zs Vs:Nat} {H:Hp} (ha:RL (α:=Site) H a n c Z) (hZ:H Zs=some (.cells #[.slice a n c] 61 (0,0))) (hV:H Vs=some (.cells #[.string (bs v)] 9 (0,0))):
  IterH Tryz.prog 157 #[.pointer (some ⟨Zs,0,none⟩),.pointer (some ⟨Vs,0,none⟩)] (fun x:Int=>Value.int .i64 x) (ofL v Z 0) H:=by
 intro l J W1 F0 hH hJ0 hF0 hcalm hY;have hn:=ha.n_eq;have hmx:=ha.le;subst hn;have hZc:=cell_hp hH hZ;refine callsIn_of_wp Tryz.func157 rfl trivial ?_ rfl;simp only[Tryz.ntmps157,List.size_toArray,List.length_cons,List.length_nil,Nat.reduceAdd,Nat.reduceSub,Array.replicate_succ,Array.replicate_zero,List.push_toArray,List.append_toArray,List.nil_append,List.cons_append];gi_wp2
 gi_loopw [8] (fun i wr=>∃(k:Nat) (pre:List Int) (F:Nat→Prop),k≤Z.length∧i = .int .i64 k∧pre++ofL v (Z.drop k) k=ofL v Z 0∧J pre wr F∧ItW H W1.heap.size wr F)
  (fun i _=>Z.length - (intOf i).toNat)
 case atStart=>exact⟨0,[],F0,Nat.zero_le _,rfl,rfl,hJ0,hH,Nat.le_refl _,hF0⟩
 case round =>
  obtain⟨k,pre,F,hk,rfl,hpre,hJs,hnx⟩:=hrel
  by_cases hlt:k<Z.length
  ·have hkx:Z[k]?=some (Z[k]'(by omega)):=List.getElem?_eq_getElem (by omega);generalize (Z[k]'(by omega))=x at hkx;obtain⟨b,off,cs,rfl,hR,hcell⟩:=rl_cells ha hkx;obtain⟨rfl,_⟩:=site_open hR;have hc1:=hcell hnx.hp 0 (.int .i64 x.1) (by decide) rfl;have hc2:=hcell hnx.hp 1 (.int .i64 x.2.1) (by decide) rfl;have hc3:=hcell hnx.hp 2 (.string (bs x.2.2.l)) (by decide) rfl;have esz:Enc.sz Site=3:=rfl;rw[esz]at hc1 hc2 hc3;rw[Nat.add_zero]at hc1
   have hstep:pre++((if x.2.2.l=v then [(k:Int)] else [])++ofL v (Z.drop (k+1)) (k+1))=ofL v Z 0:=by
    rw[←hpre,List.drop_eq_getElem_cons (by omega:k<Z.length)]
    have e:Z[k]'(by omega)=x:=by
     have:=List.getElem?_eq_getElem (show k<Z.length by omega);rw[hkx]at this;exact (Option.some.inj this).symm
    rw[e,ofL]
   have hx2:ItW H W1.heap.size (wr.alloc (Obj.cells #[Value.int IntKind.i64 x.1,Value.int IntKind.i64 x.2.1,Value.string (bs x.2.2.l)] 69)) F:=hnx.alloc _;have hV2:=cell_hp hx2.hp hV;have hJa:=hcalm _ _ _ _ hJs (calm_alloc (o:=Obj.cells #[Value.int IntKind.i64 x.1,Value.int IntKind.i64 x.2.1,Value.string (bs x.2.2.l)] 69) hnx.big fun b hb=>(hnx.f b hb).2)
   by_cases hv:x.2.2.l=v
   ·rw[if_pos hv]at hstep;subst hv;have hbq:((bs x.2.2.l).toList == (bs x.2.2.l).toList)=true:=beq_self_eq_true _;obtain⟨fn,tmps,assign,body,hy,hR⟩:=hY pre (k:Int) _ F hJa ⟨_,by rw[←hstep];simp;rfl⟩;gi_wp2;refine hR.mono ?_;rintro e W3 ⟨rfl,F',hJ3,hk3,hF3⟩;gi_wp2
    go_roundw
    case rel =>
     repeat' (first | exact⟨k+1,_,F',by omega,rfl,by rw[←hstep];simp,hJ3,hx2.kept hk3 hF3⟩ | rfl | (rw[decide_eq_true (show k<Z.length by omega)];done) | refine⟨_,?_⟩ | refine⟨?_,?_⟩)
    case measure =>
     show Z.length - (intOf (.int .i64 ((k:Int)+1))).toNat<Z.length - (intOf (.int .i64 (k:Int))).toNat
     simp only[intOf];omega
   ·rw[if_neg hv,List.nil_append]at hstep
    have hbq:((bs x.2.2.l).toList == (bs v).toList)=false:=by
     have e1:(bs x.2.2.l).toList=x.2.2.l:=(toList_sl _).trans (sl_bs _);have e2:(bs v).toList=v:=(toList_sl _).trans (sl_bs _)
     rw[e1,e2];exact beq_eq_false_iff_ne.2 hv
    gi_wp2;refine⟨(fun _ h=>by cases h),?_⟩;gi_wp2
    go_roundw
    case rel =>
     repeat' (first | exact⟨k+1,pre,F,by omega,rfl,hstep,hJa,hx2⟩ | rfl | (rw[decide_eq_true (show k<Z.length by omega)];done) | refine⟨_,?_⟩ | refine⟨?_,?_⟩)
    case measure =>
     show Z.length - (intOf (.int .i64 ((k:Int)+1))).toNat<Z.length - (intOf (.int .i64 (k:Int))).toNat
     simp only[intOf];omega
  ·obtain rfl:k=Z.length:=by omega
   gi_wp2
   go_end0
   refine⟨⟨_,rfl⟩,F,?_⟩
   have e:pre=ofL v Z 0:=by rw[←hpre,List.drop_length];simp [ofL]
   rw[←e];exact hJs
end Go.Proofs
end
section
namespace Go.Proofs
open Go.Sy
set_option maxRecDepth 20000
set_option maxHeartbeats 4000000
theorem crof_spec {v:Bs8} {a:Option Addr} {n c:Nat} {H:Hp} {K:SV→St→Hp→Prop} (hK:K (.fn 157 [.ptr 0 0,.ptr 1 0]) ⟨[],[(0,.cells 61 [.v (.slice a n c)]),(1,.cells 9 [.v (.string (bs v))])],2⟩ H):
  DoesG Tryz.prog 109 [.v (.slice a n c),.v (.string (bs v))] [] 0 H K:=by
 refine spec_ofG cx_ok cx_mix Tryz.func109 Tryz.call109 Tryz.ntmps109 Tryz.results109 rfl rfl ?_;exact⟨.fn 157 [.ptr 0 0,.ptr 1 0],[(0,.cells 61 [.v (.slice a n c)]),(1,.cells 9 [.v (.string (bs v))])],2,[(0,0),(1,1)],by (repeat' (first|exact trivial|refine⟨?_,?_⟩|exact rfl|assumption)),hK⟩
theorem ofL_mem {v:Bs8}:∀(l:List Site) (i:Nat) (x:Int),x∈ofL v l i→∃k s,x=((i+k:Nat):Int)∧l[k]?=some s∧s.2.2.l=v
 | [],_,_,h=>by cases h
 | s::r,i,x,h=>by
  rw[ofL]at h
  rcases List.mem_append.1 h with h | h
  ·split at h
   ·rename_i hv;rw[List.mem_singleton]at h;exact⟨0,s,h,rfl,hv⟩
   ·cases h
  ·obtain⟨k,t,h1,h2,h3⟩:=ofL_mem r (i+1) x h;exact⟨k+1,t,by rw[h1];congr 1;omega,h2,h3⟩
theorem ofL_at {v:Bs8}:∀(l:List Site) (i k:Nat) (s:Site),l[k]?=some s→s.2.2.l=v→((i+k:Nat):Int)∈ofL v l i
 | [],i,k,s,h,_=>by simp at h
 | t::r,i,0,s,h,hv=>by
  rw[List.getElem?_cons_zero]at h;cases h
  rw[ofL,if_pos hv];simp
 | t::r,i,k+1,s,h,hv=>by
  rw[List.getElem?_cons_succ]at h;have:=ofL_at r (i+1) k s h hv;rw[show i+1+k=i+(k+1) by omega]at this;rw[ofL];exact List.mem_append_right _ this
theorem ofL_len (v:Bs8):∀(l:List Site) (i:Nat),(ofL v l i).length≤l.length
 | [],_=>Nat.le_refl _
 | s::r,i=>by
  have h:=ofL_len v r (i+1)
  have h2:(if s.2.2.l=v then [(i:Int)] else []).length≤1:=by split<;>simp
  rw[ofL,List.length_append,List.length_cons];omega
def stepL (Z:List Site) (b k o x:Int):Int:=if (Z[x.toNat]?.getD siteN).1=b∧(Z[x.toNat]?.getD siteN).2.1<k then x else o
theorem lastG_of (Z:List Site) (b k:Int) (v:Bs8):∀(l:List Site) (i:Nat) (o:Int),l=Z.drop i→lastG b k v l i o=(ofL v l i).foldl (stepL Z b k) o
 | [],_,_,_=>rfl
 | x::r,i,o,h=>by
  have hi:Z[i]?=some x:=by
   have e:(x::r)[0]?=(Z.drop i)[0]?:=by rw[h]
   rw[List.getElem?_cons_zero,List.getElem?_drop]at e;exact e.symm
  have hr:r=Z.drop (i+1):=by
   have e:(x::r).drop 1=(Z.drop i).drop 1:=by rw[h]
   rw[List.drop_drop]at e;exact e
  rw[lastG,lastG_of Z b k v r (i+1) _ hr,ofL,List.foldl_append]
  congr 1
  by_cases hv:x.2.2.l=v
  ·rw[if_pos hv,List.foldl_cons,List.foldl_nil,stepL,Int.toNat_natCast,hi,Option.getD_some]
   by_cases h1:x.1=b<;>by_cases h2:x.2.1<k<;>simp [hitS,hv,h1,h2]
  ·rw[if_neg hv,List.foldl_nil,if_neg];simp [hitS,hv]
theorem lastS_of (Z:List Site) (b k:Int) (v:Bs8):lastS Z b k v=(ofL v Z 0).foldl (stepL Z b k) (-1):=lastG_of Z b k v Z 0 (-1) rfl
def lastV (o:Int):Int×Bool:=(if 0≤o then o else 0,decide (0≤o))
theorem clast_spec {Z:List Site} (hreach:Z.length≤100000) {b k:Int} {v:Bs8} {a:Option Addr} {n c:Nat} {H:Hp} {K:Value→Hp→Prop} (ha:RL (α:=Site) H a n c Z)
  (hK:∀H',Le H H'→K (.tuple #[.int .i64 (lastV (lastS Z b k v)).1,.bool (lastV (lastS Z b k v)).2]) H'):Does Tryz.prog 108 [.slice a n c,.int .i64 b,.int .i64 k,.string (bs v)] H K:=by
 have hn:=ha.n_eq;subst hn;refine spec_ofM cx_ok cx_mix rfl Tryz.func108 Tryz.call108 Tryz.ntmps108 Tryz.results108 rfl rfl ?_;refine .inl ⟨0,?_⟩;refine⟨[],rfl,crof_spec ?_⟩
 refine range_raw ?_ ?_ rfl [(5,61,[.slice a Z.length c]),(6,9,[.string (bs v)])] (ofL v Z 0) (fun x:Int=>Value.int .i64 x) rfl Tryz.call157 ?_ (show [5,6].Nodup by decide) ?_ (by kernel_rfl)
  5 [(3,.v (.string (bs v))),(4,.ptr 0 0),(5,.ptr 1 0),(6,.ptr 2 0),(10,.ptr 3 0),(11,.ptr 4 0)]
  (fun y:Int=>[(0,.cells 61 [.v (.slice a Z.length c)]),(1,.cells 3 [.v (.int .i64 b)]),(2,.cells 3 [.v (.int .i64 k)]),(3,.cells 3 [.v (.int .i64 (lastV y).1)]),(4,.cells 4 [.v (.bool (lastV y).2)])]) 5
  (fun pre y H'=>Le H H'∧y=pre.foldl (stepL Z b k) (-1)) rfl ?_ ?_ ?_ ?_
 ·exact⟨cx_ok.tt,cx_ok.eqs⟩
 ·exact cx_mix
 ·intro q hq
  rcases List.mem_cons.1 hq with rfl | hq
  ·rfl
  ·rw[List.mem_singleton]at hq;subst hq;rfl
 ·intro g H1 hle h1;exact of_iter hreach (ha.up hle) (h1 _ (List.mem_cons_self)) (h1 _ (List.mem_cons_of_mem _ List.mem_cons_self))
 ·rintro pre y H1 H2 hle ⟨h1,h2⟩;exact⟨h1.trans hle,h2⟩
 ·refine⟨-1,[(0,0),(1,1),(2,2),(3,3),(4,4)],?_,fun H' hle=>⟨hle,rfl⟩⟩
  (repeat' (first|exact trivial|refine⟨?_,?_⟩|exact rfl|assumption))
 ·rintro pre x y H1 hle1 ⟨_,hy⟩ hpre;obtain⟨j,s,rfl,hj,hv⟩:=ofL_mem Z 0 x (hpre.subset (by simp));rw[Nat.zero_add]at hpre ⊢;have hjl:=(List.getElem?_eq_some_iff.1 hj).1
  have hst:(pre++[((j:Nat):Int)]).foldl (stepL Z b k) (-1)=if s.1=b∧s.2.1<k then (j:Int) else y:=by
   rw[List.foldl_append,←hy,List.foldl_cons,List.foldl_nil,stepL,Int.toNat_natCast,hj,Option.getD_some]
  refine site_k (ha.up hle1) hj fun ad q1 hh _=>?_
  refine⟨some ([],[0,1,2,3,4,5,6,7,8,9,10,11,12,13,14,15]),by kernel_rfl,?_⟩;refine⟨ad,⟨by omega,by omega,q1⟩,?_⟩;refine⟨_,hh,?_⟩;refine⟨fun h1=>?_,fun h1=>?_⟩
  ·have h1:s.1=b:=nf h1;refine⟨ad,⟨by omega,by omega,q1⟩,?_⟩;refine⟨_,hh,?_⟩;refine⟨fun h2=>?_,fun h2=>?_⟩
   ·have h2:¬s.2.1<k:=by have:=dt h2;omega
    refine⟨rfl,y,[(0,0),(1,1),(2,2),(3,3),(4,4)],?_,hle1,by rw[hst,if_neg (fun h=>h2 h.2)]⟩
    (repeat' (first|exact trivial|refine⟨?_,?_⟩|exact rfl|assumption))
   ·have h2:s.2.1<k:=by have:=df h2;omega
    have e1:(lastV (j:Nat)).1=(j:Nat):=by rw[lastV,if_pos (by omega)]
    have e2:(lastV (j:Nat)).2=true:=decide_eq_true (p:=(0:Int)≤(j:Nat)) (Int.natCast_nonneg j);refine⟨rfl,(j:Nat),[(0,0),(1,1),(2,2),(3,3),(4,4)],?_,hle1,by rw[hst,if_pos ⟨h1,h2⟩]⟩;rw[e1,e2]
    (repeat' (first|exact trivial|refine⟨?_,?_⟩|exact rfl|assumption))
  ·have h1:¬s.1=b:=nt h1;refine⟨rfl,y,[(0,0),(1,1),(2,2),(3,3),(4,4)],?_,hle1,by rw[hst,if_neg (fun h=>h1 h.1)]⟩
   (repeat' (first|exact trivial|refine⟨?_,?_⟩|exact rfl|assumption))
 ·rintro y H1 hle1 ⟨_,hy⟩;refine⟨some ([],[0,1,2,3]),by kernel_rfl,?_⟩;intro Hm hle2 hcl;rw[hy,←lastS_of];exact hK Hm hle2
end Go.Proofs
end
section
namespace Go.Proofs
open Go.Sy
set_option maxRecDepth 20000
theorem lastG_ge (b k:Int) (v:Bs8):∀(l:List Site) (i:Nat) (o:Int),lastG b k v l i o=o∨∃j x,lastG b k v l i o=((i+j:Nat):Int)∧l[j]?=some x∧hitS b k v x=true
 | [],_,_=>.inl rfl
 | x::r,i,o=>by
  rw[lastG]
  rcases lastG_ge b k v r (i+1) (if hitS b k v x=true then (i:Int) else o) with h | ⟨j,y,h1,h2,h3⟩
  ·rw[h]
   by_cases hx:hitS b k v x=true
   ·rw[if_pos hx];exact .inr ⟨0,x,rfl,rfl,hx⟩
   ·rw[if_neg hx];exact .inl rfl
  ·exact .inr ⟨j+1,y,by rw[h1];congr 1;omega,h2,h3⟩
theorem lastS_hit {Z:List Site} {b k:Int} {v:Bs8} (h:0≤lastS Z b k v):∃j x,lastS Z b k v=(j:Nat)∧Z[j]?=some x∧hitS b k v x=true:=by
 rcases lastG_ge b k v Z 0 (-1) with h1 | ⟨j,x,h1,h2,h3⟩
 ·have h1:lastS Z b k v = -1:=h1;omega
 ·exact⟨j,x,by rw[lastS,h1,Nat.zero_add],h2,h3⟩
theorem hitS_is {b k:Int} {v:Bs8} {x:Site}:hitS b k v x=true↔x.1=b∧x.2.1<k∧x.2.2.l=v:=by
 unfold hitS;simp only[Bool.and_eq_true,decide_eq_true_eq,and_assoc]
theorem siteL_mem (i:Nat):∀(l:List Stmt) (k:Nat) (x:Site),x∈siteL i l k→x.1=(i:Int)∧∃j s,x.2.1=((k+j:Nat):Int)∧l[j]?=some s∧defS s=true∧x.2.2=s.2.1
 | [],_,_,h=>by cases h
 | s::r,k,x,h=>by
  rw[siteL]at h
  rcases List.mem_append.1 h with h | h
  ·unfold siteK at h;split at h
   ·rename_i hd;rw[List.mem_singleton]at h;subst h;exact⟨rfl,0,s,rfl,rfl,hd,rfl⟩
   ·cases h
  ·obtain⟨h1,j,t,h2,h3,h4,h5⟩:=siteL_mem i r (k+1) x h;exact⟨h1,j+1,t,by rw[h2];congr 1;omega,h3,h4,h5⟩
theorem siteP_mem:∀(p:Prog) (i:Nat) (x:Site),x∈siteP p i→∃m b j s,x.1=((i+m:Nat):Int)∧p[m]?=some b∧x.2.1=(j:Nat)∧b.2.1[j]?=some s∧defS s=true∧x.2.2=s.2.1
 | [],_,_,h=>by cases h
 | b::r,i,x,h=>by
  rw[siteP]at h
  rcases List.mem_append.1 h with h | h
  ·obtain⟨h1,j,s,h2,h3,h4,h5⟩:=siteL_mem i b.2.1 0 x h;rw[Nat.zero_add]at h2;exact⟨0,b,j,s,h1,rfl,h2,h3,h4,h5⟩
  ·obtain⟨m,c,j,s,h1,h2,h3⟩:=siteP_mem r (i+1) x h;exact⟨m+1,c,j,s,by rw[h1];congr 1;omega,h2,h3⟩
theorem sites_at {p:Prog} {j:Nat} {x:Site} (h:(sitesOf p)[j]?=some x):(j<(varsOf p).length∧x=(-1,0,⟨x.2.2.l⟩)∧(varsOf p)[j]?=some x.2.2.l) ∨
  ((varsOf p).length≤j∧∃m b k s,x.1=(m:Nat)∧p[m]?=some b∧x.2.1=(k:Nat)∧b.2.1[k]?=some s∧defS s=true∧x.2.2=s.2.1):=by
 rw[sitesOf]at h
 by_cases hj:j<(varsOf p).length
 ·rw[List.getElem?_append_left (by rw[site0,List.length_map];exact hj),site0,List.getElem?_map]at h;obtain⟨v,hv,rfl⟩:=Option.map_eq_some_iff.1 h;exact .inl ⟨hj,rfl,hv⟩
 ·rw[List.getElem?_append_right (by rw[site0,List.length_map];omega)]at h;obtain⟨m,b,k,s,h1,h2⟩:=siteP_mem p 0 x (List.mem_of_getElem? h);rw[Nat.zero_add]at h1;exact .inr ⟨by omega,m,b,k,s,h1,h2⟩
theorem def_var {s:Stmt} (h:stmtB s=true) (hd:defS s=true):s.2.1.l≠[]:=by
 rcases stmtB_var h with h1 | h1 | h1
 ·exact h1.2.2.2
 ·exact h1.2
 ·unfold defS at hd;rw[decide_eq_false (by omega:¬s.1=1),decide_eq_false (by omega:¬s.1=2)]at hd;cases hd
theorem def_vars {p:Prog} (he:checkE p=0) {b:Block} (hb:b∈p) {s:Stmt} (hs:s∈b.2.1) (hd:defS s=true):s.2.1.l∈varsOf p:=by
 have hB:=(check_facts he).2.2.2 b hb;rw[blockB,Bool.and_eq_true]at hB;exact ((vars_has p nil_sorted).1 b hb).1 s hs s.2.1.l (by simp [sVars]) (def_var (List.all_eq_true.1 hB.2 s hs) hd)
def genP (Z:List Site) (b nB:Int) (l:List Stmt):List Int:=l.flatMap fun s=>if 0≤lastS Z b nB s.2.1.l then [lastS Z b nB s.2.1.l] else []
def killP (Z:List Site) (b nB:Int) (l:List Stmt):List Int:=l.flatMap fun s=>if 0≤lastS Z b nB s.2.1.l then ofL s.2.1.l Z 0 else []
def ctrF (Z:List Site) (i:Nat) (b:Block):Wd×Wd:=(ofB Z.length (genP Z i b.2.1.length b.2.1),bDiff (ofB Z.length (killP Z i b.2.1.length b.2.1)) (ofB Z.length (genP Z i b.2.1.length b.2.1)))
theorem ofB_ext {w:Nat} {l l':List Int} (h:∀x,x∈l↔x∈l'):ofB w l=ofB w l':=by
 refine bits_ext (by rw[ofB_len,ofB_len]) fun m=>?_
 rw[bit_of,bit_of]
 congr 1
 rw[h]
theorem mem_genP {Z:List Site} {b nB x:Int} {l:List Stmt}:x∈genP Z b nB l↔∃s∈l,0≤lastS Z b nB s.2.1.l∧x=lastS Z b nB s.2.1.l:=by
 rw[genP,List.mem_flatMap];constructor
 ·rintro⟨s,hs,h⟩;split at h
  ·rename_i h0;exact⟨s,hs,h0,List.mem_singleton.1 h⟩
  ·cases h
 ·rintro⟨s,hs,h0,h⟩;exact⟨s,hs,by rw[if_pos h0];exact List.mem_singleton.2 h⟩
theorem mem_killP {Z:List Site} {b nB x:Int} {l:List Stmt}:x∈killP Z b nB l↔∃s∈l,0≤lastS Z b nB s.2.1.l∧x∈ofL s.2.1.l Z 0:=by
 rw[killP,List.mem_flatMap];constructor
 ·rintro⟨s,hs,h⟩;split at h
  ·rename_i h0;exact⟨s,hs,h0,h⟩
  ·cases h
 ·rintro⟨s,hs,h0,h⟩;exact⟨s,hs,by rw[if_pos h0];exact h⟩
theorem mem_genV {Z:List Site} {b nB x:Int} {V:List Bs8}:x∈genV Z b nB V↔∃v∈V,0≤lastS Z b nB v∧x=lastS Z b nB v:=by
 rw[genV,List.mem_flatMap];constructor
 ·rintro⟨v,hv,h⟩;split at h
  ·cases h
  ·rename_i h0;exact⟨v,hv,by omega,List.mem_singleton.1 h⟩
 ·rintro⟨v,hv,h0,h⟩;exact⟨v,hv,by rw[if_neg (by omega)];exact List.mem_singleton.2 h⟩
theorem mem_killV {Z:List Site} {b nB x:Int} {V:List Bs8}:x∈killV Z b nB V↔∃v∈V,0≤lastS Z b nB v∧x≠lastS Z b nB v∧x∈ofL v Z 0:=by
 have hk:∀v at',x∈killO Z v at' Z.length↔x≠at'∧x∈ofL v Z 0:=fun v at'=>by
  rw[killO,List.mem_map];constructor
  ·rintro⟨j,hj,rfl⟩;rw[List.mem_filter,List.mem_range,Bool.and_eq_true,decide_eq_true_eq,Bool.not_eq_true',decide_eq_false_iff_not]at hj;obtain⟨h1,h2,h3⟩:=hj;rw[List.getElem?_eq_getElem h1,Option.getD_some]at h2;refine⟨h3,?_⟩;have:=ofL_at Z 0 j _ (List.getElem?_eq_getElem h1) h2;rwa[Nat.zero_add]at this
  ·rintro⟨h1,h2⟩;obtain⟨j,s,rfl,h3,h4⟩:=ofL_mem Z 0 x h2;rw[Nat.zero_add]at h1 ⊢;have hlt:=(List.getElem?_eq_some_iff.1 h3).1;refine⟨j,?_,rfl⟩;rw[List.mem_filter,List.mem_range,Bool.and_eq_true,decide_eq_true_eq,Bool.not_eq_true',decide_eq_false_iff_not];exact⟨hlt,by rw[h3];exact h4,h1⟩
 rw[killV,List.mem_flatMap];constructor
 ·rintro⟨v,hv,h⟩;split at h
  ·cases h
  ·rename_i h0;obtain⟨h1,h2⟩:=(hk v _).1 h;exact⟨v,hv,by omega,h1,h2⟩
 ·rintro⟨v,hv,h0,h1,h2⟩;exact⟨v,hv,by rw[if_neg (by omega)];exact (hk v _).2 ⟨h1,h2⟩⟩
theorem ofL_var {v w:Bs8} {Z:List Site} {x:Int} (h:x∈ofL v Z 0) (h':x∈ofL w Z 0):v=w:=by
 obtain⟨j,s,h1,h2,h3⟩:=ofL_mem Z 0 x h;obtain⟨j',s',h1',h2',h3'⟩:=ofL_mem Z 0 x h'
 have e:j=j':=by omega
 subst e;rw[h2]at h2';cases h2';rw[←h3,←h3']
theorem lastS_in_of {Z:List Site} {b k:Int} {v:Bs8} (h:0≤lastS Z b k v):lastS Z b k v∈ofL v Z 0:=by
 obtain⟨j,x,h1,h2,h3⟩:=lastS_hit h;have:=ofL_at Z 0 j x h2 (hitS_is.1 h3).2.2;rw[Nat.zero_add]at this
 rw[h1];exact this
theorem last_who {p:Prog} (he:checkE p=0) {i:Nat} {b:Block} (hb:p[i]?=some b) {v:Bs8} {k:Int} (h:0≤lastS (sitesOf p) i k v):v∈varsOf p∧∃s∈b.2.1,s.2.1.l=v:=by
 obtain⟨j,x,h1,h2,h3⟩:=lastS_hit h;obtain⟨g1,g2,g3⟩:=hitS_is.1 h3
 rcases sites_at h2 with ⟨_,h4,_⟩ | ⟨_,m,c,k',s,h4,h5,_,h6,h7,h8⟩
 ·rw[h4]at g1;have g1:(-1:Int)=(i:Nat):=g1;omega
 ·have e:m=i:=by omega
  subst e;rw[hb]at h5;cases h5;have hs:=List.mem_of_getElem? h6;rw[h8]at g3;exact⟨g3▸def_vars he (List.mem_of_getElem? hb) hs h7,s,hs,g3⟩
theorem ctrF_eq {p:Prog} (he:checkE p=0) {i:Nat} {b:Block} (hb:p[i]?=some b):ctrF (sitesOf p) i b=rchF (sitesOf p) (varsOf p) i b:=by
 have hg:∀x,x∈genP (sitesOf p) i b.2.1.length b.2.1↔x∈genV (sitesOf p) i b.2.1.length (varsOf p):=fun x=>by
  rw[mem_genP,mem_genV];constructor
  ·rintro⟨s,_,h0,h⟩;exact⟨_,(last_who he hb h0).1,h0,h⟩
  ·rintro⟨v,_,h0,h⟩;obtain⟨s,hs,rfl⟩:=(last_who he hb h0).2;exact⟨s,hs,h0,h⟩
 have hge:=ofB_ext (w:=(sitesOf p).length) hg;rw[ctrF,rchF,hge]
 congr 1
 refine bits_ext (by rw[(bDiff_ok (ofB_ok _ _) (ofB_ok _ _)).1,ofB_len]) fun m=>?_
 rw[bit_bDiff (by rw[ofB_len,ofB_len]),bit_of,bit_of,bit_of]
 by_cases hm:m<(sitesOf p).length
 ·simp only[hm,true_and]
  have key:((m:Int)∈killP (sitesOf p) i b.2.1.length b.2.1∧¬(m:Int)∈genV (sitesOf p) i b.2.1.length (varsOf p))↔(m:Int)∈killV (sitesOf p) i b.2.1.length (varsOf p):=by
   rw[mem_killP,mem_genV,mem_killV];constructor
   ·rintro⟨⟨s,hs,h0,h⟩,h2⟩;have hv:=(last_who he hb h0).1;exact⟨_,hv,h0,fun e=>h2 ⟨_,hv,h0,e⟩,h⟩
   ·rintro⟨v,hv,h0,h1,h2⟩;obtain⟨s,hs,rfl⟩:=(last_who he hb h0).2;refine⟨⟨s,hs,h0,h2⟩,?_⟩;rintro⟨v',_,h0',e⟩;have:=lastS_in_of h0';rw[←e]at this;have:=ofL_var this h2;subst this;exact h1 e
  by_cases h1:(m:Int)∈killP (sitesOf p) i b.2.1.length b.2.1<;>by_cases h2:(m:Int)∈genV (sitesOf p) i b.2.1.length (varsOf p)<;>by_cases h3:(m:Int)∈killV (sitesOf p) i b.2.1.length (varsOf p)<;>simp [h1,h2,h3]at key ⊢
 ·simp [hm]
end Go.Proofs
end
section
namespace Go.Proofs
open Go.Sy
set_option maxRecDepth 20000
set_option maxHeartbeats 4000000
structure FamG (Z:List Site) (i:Nat) (l:List Stmt) (A B:Nat→List Int):Prop where
 a0:A 0=[]
 b0:B 0=[]
 an:∀k s,l[k]?=some s→¬0≤lastS Z i l.length s.2.1.l→A (k+1)=A k∧B (k+1)=B k
 ay:∀k s,l[k]?=some s→0≤lastS Z i l.length s.2.1.l→A (k+1)=A k++[lastS Z i l.length s.2.1.l]∧B (k+1)=B k++ofL s.2.1.l Z 0
 ae:A l.length=genP Z i l.length l
 be:B l.length=killP Z i l.length l
 al:∀k,(A k).length≤k
 bl:∀k,(B k).length≤k*Z.length
theorem famG_k {P:Prop} (Z:List Site) (i:Nat) (l:List Stmt) (kk:∀A B,FamG Z i l A B→P):P:=by
 have hf:∀ {f:Stmt→List Int} {k:Nat} {s:Stmt},l[k]?=some s→(l.take (k+1)).flatMap f=(l.take k).flatMap f++f s:=fun h=>by
  rw[List.take_add_one,h,Option.toList_some,List.flatMap_append,List.flatMap_singleton]
 have hlen:∀ {f:Stmt→List Int} {c:Nat},(∀s,(f s).length≤c)→∀r:List Stmt,(r.flatMap f).length≤r.length*c:=fun {f c} hc r=>by
  induction r with
  | nil=>simp
  | cons s r ih =>
   have:=hc s;rw[List.flatMap_cons,List.length_append,List.length_cons,Nat.succ_mul];omega
 refine kk (fun k=>genP Z i l.length (l.take k)) (fun k=>killP Z i l.length (l.take k)) ⟨rfl,rfl,fun k s hs h=>?_,fun k s hs h=>?_,?_,?_,fun k=>?_,fun k=>?_⟩
 ·constructor
  ·rw[genP,genP,hf hs,if_neg h,List.append_nil]
  ·rw[killP,killP,hf hs,if_neg h,List.append_nil]
 ·constructor
  ·rw[genP,genP,hf hs,if_pos h]
  ·rw[killP,killP,hf hs,if_pos h]
 ·rw[List.take_length]
 ·rw[List.take_length]
 ·have h:=hlen (f:=fun s:Stmt=>if 0≤lastS Z i l.length s.2.1.l then [lastS Z i l.length s.2.1.l] else []) (c:=1) (fun s=>by split<;>simp) (l.take k)
  rw[List.length_take]at h;show (genP Z i l.length (l.take k)).length≤k;rw[genP];omega
 ·have h:=hlen (f:=fun s:Stmt=>if 0≤lastS Z i l.length s.2.1.l then ofL s.2.1.l Z 0 else []) (c:=Z.length) (fun s=>by
   split
   ·exact ofL_len _ _ _
   ·simp) (l.take k)
  show (killP Z i l.length (l.take k)).length≤k*Z.length;rw[killP];refine Nat.le_trans h (Nat.mul_le_mul_right _ ?_)
  rw[List.length_take];omega
theorem ctrans_spec {Z:List Site} (hZ:Z.length≤576) {i:Nat} {b:Block} (hb:b.2.1.length≤512) {a la:Option Addr} {n c ln lc:Nat} {H:Hp} {K:Value→Hp→Prop} (ha:RL (α:=Site) H a n c Z) (hl:RL H la ln lc b.2.1)
  (hK:∀z H',Le H H'→Bt.TrR H' (ctrF Z i b) z→K (Bt.trA z) H'):Does Tryz.prog 57 [.slice a n c,.int .i64 (i:Nat),blkA (.slice la ln lc) b] H K:=by
 have hn:=ha.n_eq;subst hn;have hln:=hl.n_eq;subst hln
 refine famG_k Z i b.2.1 fun A B hF=>?_
 have hAl:=hF.al;have hBl:=hF.bl;refine spec_ofM cx_ok cx_mix rfl Tryz.func57 Tryz.call57 Tryz.ntmps57 Tryz.results57 rfl rfl ?_
 refine⟨Nat,fun k=>⟨[(0,.v (.slice a Z.length c)),(1,.v (.int .i64 (i:Nat))),(5,.ptr 0 0),(6,.ptr 1 0),(7,.own 3),(8,.ptr 2 0),(16,.v (.slice la b.2.1.length lc)),(17,.v (.int .i64 (b.2.1.length:Nat))),(18,.v (.int .i64 k))],
   [(0,.cells 53 (vL (blkL (.slice la b.2.1.length lc) b))),(1,.cells 78 [.v (.slice none 0 0),.v (.slice none 0 0),.v (.slice none 0 0)]),(2,.cells 29 [.own 4]),(3,.row 3 1 (iRows (A k))),(4,.row 3 1 (iRows (B k)))],5⟩,
  fun k H'=>Le H H'∧k≤b.2.1.length,fun k=>b.2.1.length - k,⟨0,[(0,0),(1,1),(2,2)],?_,Le.refl _,Nat.zero_le _⟩,?_⟩
 ·have e1:iRows (A 0)=[]:=by rw[hF.a0];rfl
  have e2:iRows (B 0)=[]:=by rw[hF.b0];rfl
  (repeat' (first|exact trivial|refine⟨?_,?_⟩|exact rfl|assumption))
 rintro k H1 _ ⟨hle1,hk⟩;refine⟨fun h=>?_,fun h=>?_⟩
 ·have hlt:k<b.2.1.length:=by have:=dt h;omega
  refine name_k b.2.1[k] fun s hs=>?_
  have hss:b.2.1[k]?=some s:=by rw[hs];exact List.getElem?_eq_getElem hlt
  refine stmt_k (hl.up hle1) hss fun ad e1 hh hsR=>?_
  refine⟨ad,⟨by omega,by omega,e1⟩,?_⟩;refine⟨_,hh,?_⟩
  refine clast_spec (by omega) (ha.up hle1) fun _ _=>?_
  refine⟨fun h=>?_,fun h=>?_⟩
  ·have h0:¬0≤lastS Z i b.2.1.length s.2.1.l:=by have:=nt h;exact this
   obtain⟨eA,eB⟩:=hF.an k s hss h0
   have e1:iRows (A k)=iRows (A (k+1)):=by rw[eA]
   have e2:iRows (B k)=iRows (B (k+1)):=by rw[eB]
   refine⟨⟨by omega,by omega⟩,k+1,[(0,0),(1,1),(2,2),(3,3),(4,4)],?_,⟨hle1,hlt⟩,by dsimp only;omega⟩
   (repeat' (first|exact trivial|refine⟨?_,?_⟩|exact rfl|assumption))
  ·have h0:0≤lastS Z i b.2.1.length s.2.1.l:=by have:=nf h;exact this
   obtain⟨eA,eB⟩:=hF.ay k s hss h0;have hin:=lastS_in Z i b.2.1.length s.2.1.l;have hAk:=hAl k;have hBk:(B k).length≤294912:=Nat.le_trans (hBl k) (Nat.le_trans (Nat.mul_le_mul (show k≤512 by omega) hZ) (by decide));have hAl1:(iRows (A k)).length=(A k).length:=List.length_map _;refine⟨⟨by show (_+1)*8≤140737488355328;omega,by show _+1≤9223372036854775807;omega⟩,?_⟩;refine⟨[],rfl,crof_spec ?_⟩
   have eR:iRows (A k)++[[Value.int .i64 (lastV (lastS Z i b.2.1.length s.2.1.l)).1]]=iRows (A (k+1)):=by
    rw[eA,lastV,if_pos h0,iRows,iRows,List.map_append];rfl
   refine range_raw ?_ ?_ rfl [(8,61,[.slice a Z.length c]),(9,9,[.string (bs s.2.1.l)])] (ofL s.2.1.l Z 0) (fun x:Int=>Value.int .i64 x) rfl Tryz.call157 ?_ (show [8,9].Nodup by decide) ?_ (by kernel_rfl)
    4 [(0,.v (.slice a Z.length c)),(1,.v (.int .i64 (i:Nat))),(5,.ptr 0 0),(6,.ptr 1 0),(7,.own 3),(8,.ptr 2 0),(16,.v (.slice la b.2.1.length lc)),(17,.v (.int .i64 (b.2.1.length:Nat))),(18,.v (.int .i64 k))]
    (fun y:List Int=>[(0,.cells 53 (vL (blkL (.slice la b.2.1.length lc) b))),(1,.cells 78 [.v (.slice none 0 0),.v (.slice none 0 0),.v (.slice none 0 0)]),(2,.cells 29 [.own 4]),(3,.row 3 1 (iRows (A (k+1)))),(4,.row 3 1 (iRows (B k++y)))]) 5
    (fun pre y H'=>Le H1 H'∧y=pre) rfl ?_ ?_ ?_ ?_
   ·exact⟨cx_ok.tt,cx_ok.eqs⟩
   ·exact cx_mix
   ·intro q hq
    rcases List.mem_cons.1 hq with rfl | hq
    ·rfl
    ·rw[List.mem_singleton]at hq;subst hq;rfl
   ·intro g H3 hle h1;exact of_iter (by omega) (ha.up (hle1.trans hle)) (h1 _ (List.mem_cons_self)) (h1 _ (List.mem_cons_of_mem _ List.mem_cons_self))
   ·rintro pre y H3 H4 hle ⟨h1,h2⟩;exact⟨h1.trans hle,h2⟩
   ·refine⟨[],[(0,0),(1,1),(2,2),(3,7),(4,4)],?_,fun H' hle=>⟨hle,rfl⟩⟩;rw[List.append_nil,←eR]
    (repeat' (first|exact trivial|refine⟨?_,?_⟩|exact rfl|assumption))
   ·rintro pre x y H3 hle3 ⟨_,rfl⟩ hpre
    have hpl:y.length+1≤576:=by
     have h1:=hpre.length_le;have h2:=ofL_len s.2.1.l Z 0;rw[List.length_append,List.length_singleton]at h1;omega
    have hBl1:(iRows (B k++y)).length=(B k).length+y.length:=by rw[iRows,List.length_map,List.length_append]
    have eB2:iRows (B k++y)++[[Value.int .i64 x]]=iRows (B k++(y++[x])):=by
     rw[←List.append_assoc];exact (List.map_append (l₁:=B k++y) (l₂:=[x])).symm
    refine⟨⟨by show (_+1)*8≤140737488355328;omega,by show _+1≤9223372036854775807;omega⟩,?_⟩;refine⟨rfl,y++[x],[(0,0),(1,1),(2,2),(3,3),(4,6)],?_,hle3,rfl⟩;rw[←eB2]
    (repeat' (first|exact trivial|refine⟨?_,?_⟩|exact rfl|assumption))
   ·rintro y H3 hle3 ⟨_,rfl⟩;refine⟨⟨by omega,by omega⟩,k+1,[(0,0),(1,1),(2,2),(3,3),(4,4)],?_,⟨hle1.trans hle3,hlt⟩,by dsimp only;omega⟩
    have e2:iRows (B k++ofL s.2.1.l Z 0)=iRows (B (k+1)):=by rw[eB]
    (repeat' (first|exact trivial|refine⟨?_,?_⟩|exact rfl|assumption))
 ·have hkl:k=b.2.1.length:=by have:=df h;omega
  subst hkl;rw[hF.ae,hF.be]
  have hBk:(killP Z i b.2.1.length b.2.1).length≤294912:=by
   rw[←hF.be];exact Nat.le_trans (hBl _) (Nat.le_trans (Nat.mul_le_mul hb hZ) (by decide))
  have hAk:(genP Z i b.2.1.length b.2.1).length≤512:=by
   rw[←hF.ae];exact Nat.le_trans (hAl _) hb
  have gI:∀x∈genP Z i b.2.1.length b.2.1,inI x:=fun x hx=>by
   obtain⟨s,_,h0,rfl⟩:=mem_genP.1 hx;have:=lastS_in Z i b.2.1.length s.2.1.l;exact⟨by omega,by omega⟩
  have kI:∀x∈killP Z i b.2.1.length b.2.1,inI x:=fun x hx=>by
   obtain⟨s,_,h0,h2⟩:=mem_killP.1 hx;obtain⟨j,s',rfl,h3,_⟩:=ofL_mem Z 0 x h2;have:=(List.getElem?_eq_some_iff.1 h3).1;exact⟨by omega,by omega⟩
  refine⟨some ([1,3,4],[0,1,3,4,6,7,2,5,8,9,10,11]),by kernel_rfl,?_⟩;intro v H6 hle6 hv6
  refine of_row_k (α:=Int) hv6 (rc_iRows gI) fun d1 d2 d3 e1 hr1=>?_
  subst e1
  refine wof_spec (by omega) hr1 fun g1 g2 g3 H7 hle7 hg7=>?_
  intro v8 H8 hle8 hv8
  refine of_row_k (α:=Int) hv8 (rc_iRows kI) fun k1 k2 k3 e2 hr2=>?_
  subst e2
  refine wof_spec (by omega) hr2 fun q1 q2 q3 H9 hle9 hq9=>?_
  have hle79:=(hle7.trans hle8.le).trans hle9
  refine wof_spec (by omega) (hr1.up hle79) fun m1 m2 m3 H10 hle10 hm10=>?_
  refine wminus_spec (by omega) (ofB_len _ _) (ofB_len _ _) (hq9.up hle10) hm10 fun r1 r2 r3 H11 hle11 hr11=>?_
  intro Hm hlem hcl;refine hK ⟨g1,g2,g3,r1,r2,r3⟩ Hm hlem ⟨?_,?_⟩
  ·exact rl_left (hg7.up (((hle8.le.trans hle9).trans hle10).trans hle11)) hcl fun h=>h
  ·exact rl_left hr11 hcl fun h=>h
end Go.Proofs
end
section
namespace Go.Proofs
open Go.Sy
set_option maxRecDepth 20000
set_option maxHeartbeats 4000000
theorem stmtsN_mem:∀ {p:Prog} {b:Block},b∈p→b.2.1.length≤stmtsN p
 | [],_,h=>by cases h
 | c::r,b,h=>by
  have e:stmtsN (c::r)=c.2.1.length+stmtsN r:=by simp [stmtsN]
  rw[e]
  rcases List.mem_cons.1 h with rfl | h
  ·omega
  ·have:=stmtsN_mem h;omega
theorem blk512 {p:Prog} (he:checkE p=0) {i:Nat} {b:Block} (hb:p[i]?=some b):b.2.1.length≤512:=by
 have h:=stmts512 he
 have h2:b.2.1.length≤stmtsN p:=by
  have:=stmtsN_mem (List.mem_of_getElem? hb);exact this
 omega
theorem csys_spec {p:Prog} (hp:p.length≤12) (hl:∀b∈p,b.2.1.length≤100000) (hc:stmtsN p≤1000000) (hv:cnt p<400000) {a:Option Addr} {n c:Nat} {H:Hp} {K:Value→Hp→Prop} (ha:RL H a n c p)
  (hbad:checkE p≠0→∀H',Le H H'→K (.tuple #[.agg zSys.toArray,.int .i64 (checkE p)]) H')
  (hK:checkE p=0→∀z H',Le H H'→Bt.SysR H' (csysOf p) z→K (.tuple #[Bt.sysA (csysOf p) z,.int .i64 0]) H'):Does Tryz.prog 17 [.agg #[.slice a n c]] H K:=by
 have hn:=ha.n_eq;have hmx:=ha.le;refine spec_of cx_ok cx_mix rfl Tryz.func17 Tryz.call17 Tryz.ntmps17 Tryz.results17 rfl rfl ?_
 refine pcheck_spec ha hc hv fun H00 hle00=>?_
 refine⟨fun h=>?_,fun h=>?_⟩
 ·exact hbad (nt h) _ (Le.refl H)
 have he:checkE p=0:=nf h;have hK:=hK he;have hv64:=vars64 he;have hz5:=sites_len he
 refine tsites_spec hp hl hc hv hv64 ha fun az nz cz H0 hle0 hrz=>?_
 have hnz:=hrz.n_eq;subst hnz
 refine pvars_spec (ha.up hle0) hv fun av nv cv H1 hle1 hrv=>?_
 have hnv:=hrv.n_eq;rw[List.length_map]at hnv;subst hnv;have hle01:=hle0.trans hle1
 refine⟨Nat,fun i=>⟨[(1,.ptr 0 0),(2,.ptr 1 0),(5,.v (.slice az (sitesOf p).length cz)),(6,.own 2),(22,.v (.int .i64 ((varsOf p).length:Nat))),(23,.v (.int .i64 i))],
   [(0,.cells 24 [.v (.slice a n c)]),(1,.cells 32 (vL zSys)),(2,.row 3 1 (iRows (cntL i)))],3⟩,
  fun i H'=>H'=H1∧i≤(varsOf p).length,fun i=>(varsOf p).length - i,⟨0,[(0,0),(1,1)],?_,rfl,Nat.zero_le _⟩,?_⟩
 ·(repeat' (first|exact trivial|refine⟨?_,?_⟩|exact rfl|assumption))
 rintro i H2 _ ⟨rfl,hi⟩
 have hcl:(iRows (cntL i)).length=i:=by rw[List.length_map,cntL,List.length_map,List.length_range]
 refine⟨fun h=>?_,fun h=>?_⟩
 ·have hlt:i<(varsOf p).length:=by have:=dt h;omega
  have e1:=cnt_snoc i;refine⟨⟨by show (_+1)*8≤140737488355328;omega,by show _+1≤9223372036854775807;omega⟩,?_⟩;refine⟨⟨by omega,by omega⟩,i+1,[(0,0),(1,1),(2,4)],?_,⟨rfl,hlt⟩,by dsimp only;omega⟩
  (repeat' (first|exact trivial|refine⟨?_,?_⟩|exact rfl|assumption))
 have hil:i=(varsOf p).length:=by have:=df h;omega
 rw[hil];refine⟨none,?_⟩
 refine region_plan (α:=SA) ?_ ?_
  (.two 5 6 (.two 5 11 (.two 6 9 (.two 6 11 (.two 9 11 (.one [2,3,4] [0,1,2,3,4,7,8,5,6,9,10,11,12]) (.one [2,3,4] [0,1,2,3,4,7,8,5,6,11,9,10,12])) (.one [2,3,4] [0,1,2,3,4,7,8,5,11,6,9,10,12])) (.two 6 11 (.one [2,3,4] [0,1,2,3,4,7,8,5,9,6,10,11,12]) (.two 9 11 (.one [2,3,4] [0,1,2,3,4,7,8,5,9,11,6,10,12]) (.one [2,3,4] [0,1,2,3,4,7,8,5,11,9,6,10,12])))) (.two 6 9 (.one [2,3,4] [0,1,2,3,4,7,8,11,5,6,9,10,12]) (.one [2,3,4] [0,1,2,3,4,7,8,11,5,9,6,10,12]))) (.two 5 11 (.two 9 11 (.one [2,3,4] [0,1,2,3,4,7,8,6,5,9,10,11,12]) (.one [2,3,4] [0,1,2,3,4,7,8,6,5,11,9,10,12])) (.two 6 11 (.one [2,3,4] [0,1,2,3,4,7,8,6,11,5,9,10,12]) (.one [2,3,4] [0,1,2,3,4,7,8,11,6,5,9,10,12]))))
  (fun z=>⟨[(1,.ptr 0 0),(2,.ptr 1 0),(5,.v (.slice az (sitesOf p).length cz)),(9,.ptr 2 0)],
   [(0,.cells 24 [.v (.slice a n c)]),(1,.cells 32 (vL zSys)),(2,.cells 32 [.v (.int .i64 (1:Nat)),.v (.int .i64 ((sitesOf p).length:Nat)),.v (.int .i64 n),.v (.slice z.ea z.en z.ec),.own 3,.v (.slice z.ia z.ni z.ic),.v (.slice none 0 0)]),(3,.row 3 1 iRow0)],4⟩)
  (fun z H'=>Le H2 H'∧RL H' z.ea z.en z.ec (gSort (edgesOf p))∧RL H' z.ia z.ni z.ic (csysOf p).ini) (by kernel_rfl) ⟨⟨⟨⟨⟨?_,?_⟩,?_⟩,⟨?_,⟨?_,?_⟩⟩⟩,⟨?_,?_⟩⟩,⟨⟨?_,?_⟩,⟨?_,?_⟩⟩⟩ ?_
 ·exact⟨cx_ok.tt,cx_ok.eqs⟩
 ·exact cx_mix
 ·refine edges_spec hp (ha.up hle01) fun e1 e2 e3 H3 hle3 hr3=>?_
  intro v1 H4 hle4 hv4
  refine of_row_k (α:=Int) hv4 (rc_iRows (cnt_in (by omega))) fun d1 d2 d3 ev1 hr4=>?_
  subst ev1
  refine wof_spec (w:=(sitesOf p).length) (by omega) hr4 fun w1 w2 w3 H5 hle5 hr5=>?_
  exact⟨⟨e1,e2,e3,none,0,0,w1,w2,w3,none,0,0⟩,[(0,0),(1,1),(2,4),(3,3)],by (repeat' (first|exact trivial|refine⟨?_,?_⟩|exact rfl|assumption)),(hle3.trans hle4.le).trans hle5,hr3.up (hle4.le.trans hle5),hr5⟩
 ·refine edges_spec hp (ha.up hle01) fun e1 e2 e3 H3 hle3 hr3=>?_
  intro v1 H4 hle4 hv4
  refine of_row_k (α:=Int) hv4 (rc_iRows (cnt_in (by omega))) fun d1 d2 d3 ev1 hr4=>?_
  subst ev1
  refine wof_spec (w:=(sitesOf p).length) (by omega) hr4 fun w1 w2 w3 H5 hle5 hr5=>?_
  exact⟨⟨e1,e2,e3,none,0,0,w1,w2,w3,none,0,0⟩,[(0,0),(1,1),(2,4),(3,3)],by (repeat' (first|exact trivial|refine⟨?_,?_⟩|exact rfl|assumption)),(hle3.trans hle4.le).trans hle5,hr3.up (hle4.le.trans hle5),hr5⟩
 ·refine edges_spec hp (ha.up hle01) fun e1 e2 e3 H3 hle3 hr3=>?_
  intro v1 H4 hle4 hv4
  refine of_row_k (α:=Int) hv4 (rc_iRows (cnt_in (by omega))) fun d1 d2 d3 ev1 hr4=>?_
  subst ev1
  refine wof_spec (w:=(sitesOf p).length) (by omega) hr4 fun w1 w2 w3 H5 hle5 hr5=>?_
  exact⟨⟨e1,e2,e3,none,0,0,w1,w2,w3,none,0,0⟩,[(0,0),(1,1),(2,3),(3,4)],by (repeat' (first|exact trivial|refine⟨?_,?_⟩|exact rfl|assumption)),(hle3.trans hle4.le).trans hle5,hr3.up (hle4.le.trans hle5),hr5⟩
 ·refine edges_spec hp (ha.up hle01) fun e1 e2 e3 H3 hle3 hr3=>?_
  intro v1 H4 hle4 hv4
  refine of_row_k (α:=Int) hv4 (rc_iRows (cnt_in (by omega))) fun d1 d2 d3 ev1 hr4=>?_
  subst ev1
  refine wof_spec (w:=(sitesOf p).length) (by omega) hr4 fun w1 w2 w3 H5 hle5 hr5=>?_
  exact⟨⟨e1,e2,e3,none,0,0,w1,w2,w3,none,0,0⟩,[(0,0),(1,1),(2,4),(3,3)],by (repeat' (first|exact trivial|refine⟨?_,?_⟩|exact rfl|assumption)),(hle3.trans hle4.le).trans hle5,hr3.up (hle4.le.trans hle5),hr5⟩
 ·refine edges_spec hp (ha.up hle01) fun e1 e2 e3 H3 hle3 hr3=>?_
  intro v1 H4 hle4 hv4
  refine of_row_k (α:=Int) hv4 (rc_iRows (cnt_in (by omega))) fun d1 d2 d3 ev1 hr4=>?_
  subst ev1
  refine wof_spec (w:=(sitesOf p).length) (by omega) hr4 fun w1 w2 w3 H5 hle5 hr5=>?_
  exact⟨⟨e1,e2,e3,none,0,0,w1,w2,w3,none,0,0⟩,[(0,0),(1,1),(2,3),(3,4)],by (repeat' (first|exact trivial|refine⟨?_,?_⟩|exact rfl|assumption)),(hle3.trans hle4.le).trans hle5,hr3.up (hle4.le.trans hle5),hr5⟩
 ·refine edges_spec hp (ha.up hle01) fun e1 e2 e3 H3 hle3 hr3=>?_
  intro v1 H4 hle4 hv4
  refine of_row_k (α:=Int) hv4 (rc_iRows (cnt_in (by omega))) fun d1 d2 d3 ev1 hr4=>?_
  subst ev1
  refine wof_spec (w:=(sitesOf p).length) (by omega) hr4 fun w1 w2 w3 H5 hle5 hr5=>?_
  exact⟨⟨e1,e2,e3,none,0,0,w1,w2,w3,none,0,0⟩,[(0,0),(1,1),(2,3),(3,4)],by (repeat' (first|exact trivial|refine⟨?_,?_⟩|exact rfl|assumption)),(hle3.trans hle4.le).trans hle5,hr3.up (hle4.le.trans hle5),hr5⟩
 ·refine edges_spec hp (ha.up hle01) fun e1 e2 e3 H3 hle3 hr3=>?_
  intro v1 H4 hle4 hv4
  refine of_row_k (α:=Int) hv4 (rc_iRows (cnt_in (by omega))) fun d1 d2 d3 ev1 hr4=>?_
  subst ev1
  refine wof_spec (w:=(sitesOf p).length) (by omega) hr4 fun w1 w2 w3 H5 hle5 hr5=>?_
  exact⟨⟨e1,e2,e3,none,0,0,w1,w2,w3,none,0,0⟩,[(0,0),(1,1),(2,3),(3,4)],by (repeat' (first|exact trivial|refine⟨?_,?_⟩|exact rfl|assumption)),(hle3.trans hle4.le).trans hle5,hr3.up (hle4.le.trans hle5),hr5⟩
 ·refine edges_spec hp (ha.up hle01) fun e1 e2 e3 H3 hle3 hr3=>?_
  intro v1 H4 hle4 hv4
  refine of_row_k (α:=Int) hv4 (rc_iRows (cnt_in (by omega))) fun d1 d2 d3 ev1 hr4=>?_
  subst ev1
  refine wof_spec (w:=(sitesOf p).length) (by omega) hr4 fun w1 w2 w3 H5 hle5 hr5=>?_
  exact⟨⟨e1,e2,e3,none,0,0,w1,w2,w3,none,0,0⟩,[(0,0),(1,1),(2,3),(3,4)],by (repeat' (first|exact trivial|refine⟨?_,?_⟩|exact rfl|assumption)),(hle3.trans hle4.le).trans hle5,hr3.up (hle4.le.trans hle5),hr5⟩
 ·refine edges_spec hp (ha.up hle01) fun e1 e2 e3 H3 hle3 hr3=>?_
  intro v1 H4 hle4 hv4
  refine of_row_k (α:=Int) hv4 (rc_iRows (cnt_in (by omega))) fun d1 d2 d3 ev1 hr4=>?_
  subst ev1
  refine wof_spec (w:=(sitesOf p).length) (by omega) hr4 fun w1 w2 w3 H5 hle5 hr5=>?_
  exact⟨⟨e1,e2,e3,none,0,0,w1,w2,w3,none,0,0⟩,[(0,0),(1,1),(2,4),(3,3)],by (repeat' (first|exact trivial|refine⟨?_,?_⟩|exact rfl|assumption)),(hle3.trans hle4.le).trans hle5,hr3.up (hle4.le.trans hle5),hr5⟩
 ·refine edges_spec hp (ha.up hle01) fun e1 e2 e3 H3 hle3 hr3=>?_
  intro v1 H4 hle4 hv4
  refine of_row_k (α:=Int) hv4 (rc_iRows (cnt_in (by omega))) fun d1 d2 d3 ev1 hr4=>?_
  subst ev1
  refine wof_spec (w:=(sitesOf p).length) (by omega) hr4 fun w1 w2 w3 H5 hle5 hr5=>?_
  exact⟨⟨e1,e2,e3,none,0,0,w1,w2,w3,none,0,0⟩,[(0,0),(1,1),(2,4),(3,3)],by (repeat' (first|exact trivial|refine⟨?_,?_⟩|exact rfl|assumption)),(hle3.trans hle4.le).trans hle5,hr3.up (hle4.le.trans hle5),hr5⟩
 ·refine edges_spec hp (ha.up hle01) fun e1 e2 e3 H3 hle3 hr3=>?_
  intro v1 H4 hle4 hv4
  refine of_row_k (α:=Int) hv4 (rc_iRows (cnt_in (by omega))) fun d1 d2 d3 ev1 hr4=>?_
  subst ev1
  refine wof_spec (w:=(sitesOf p).length) (by omega) hr4 fun w1 w2 w3 H5 hle5 hr5=>?_
  exact⟨⟨e1,e2,e3,none,0,0,w1,w2,w3,none,0,0⟩,[(0,0),(1,1),(2,4),(3,3)],by (repeat' (first|exact trivial|refine⟨?_,?_⟩|exact rfl|assumption)),(hle3.trans hle4.le).trans hle5,hr3.up (hle4.le.trans hle5),hr5⟩
 ·refine edges_spec hp (ha.up hle01) fun e1 e2 e3 H3 hle3 hr3=>?_
  intro v1 H4 hle4 hv4
  refine of_row_k (α:=Int) hv4 (rc_iRows (cnt_in (by omega))) fun d1 d2 d3 ev1 hr4=>?_
  subst ev1
  refine wof_spec (w:=(sitesOf p).length) (by omega) hr4 fun w1 w2 w3 H5 hle5 hr5=>?_
  exact⟨⟨e1,e2,e3,none,0,0,w1,w2,w3,none,0,0⟩,[(0,0),(1,1),(2,3),(3,4)],by (repeat' (first|exact trivial|refine⟨?_,?_⟩|exact rfl|assumption)),(hle3.trans hle4.le).trans hle5,hr3.up (hle4.le.trans hle5),hr5⟩
 rintro⟨ea,en,ec,na,nn,nc,ia,ni,ic,ta,tn,tc⟩ H3 _ ⟨hle3,hze,hzi⟩;dsimp only at hze hzi
 refine⟨Nat×List (List Value),fun q=>⟨[(1,.ptr 0 0),(2,.ptr 1 0),(5,.v (.slice az (sitesOf p).length cz)),(9,.ptr 2 0),(45,.v (.slice a n c)),(46,.v (.int .i64 n)),(47,.v (.int .i64 q.1))],
   [(0,.cells 24 [.v (.slice a n c)]),(1,.cells 32 (vL zSys)),(2,.cells 32 [.v (.int .i64 (1:Nat)),.v (.int .i64 ((sitesOf p).length:Nat)),.v (.int .i64 n),.v (.slice ea en ec),.own 3,.v (.slice ia ni ic),.own 4]),(3,.row 3 1 iRow0),(4,.row 78 3 q.2)],5⟩,
  fun q H'=>Le H3 H'∧q.1≤p.length∧RC (α:=Bt.TrB) H' q.2 (((csysOf p).T.map Bt.TrB.mk).take q.1),fun q=>p.length - q.1,⟨(0,[]),[(0,0),(1,1),(2,2),(3,3)],?_,Le.refl _,Nat.zero_le _,RC.nil⟩,?_⟩
 ·(repeat' (first|exact trivial|refine⟨?_,?_⟩|exact rfl|assumption))
 rintro⟨j,css⟩ H4 _ ⟨hle4,hj,hrc⟩;dsimp only at hj hrc;have hle:Le H H4:=(hle01.trans hle3).trans hle4
 have hTl:((csysOf p).T.map Bt.TrB.mk).length=p.length:=by rw[List.length_map];exact rchT_len _ _ p 0
 have hcl:css.length=j:=by have h1:=hrc.1;rw[List.length_take]at h1;omega
 refine⟨fun h=>?_,fun h=>?_⟩
 ·have hlt:j<p.length:=by have:=dt h;dsimp only at this;omega
  refine name_k p[j] fun b hbe=>?_
  have hbb:p[j]?=some b:=by rw[hbe];exact List.getElem?_eq_getElem hlt
  refine block_k (ha.up hle) hbb fun ad a5 n5 c5 q1 hh hr5 hs5 ht5=>?_
  refine⟨ad,⟨by dsimp only;omega,by dsimp only;omega,q1⟩,?_⟩;refine⟨_,hh,?_⟩;refine⟨some ([1000000,2,4,6],[0,1,2,3,4,5,6,7,8,9]),by kernel_rfl,?_⟩
  refine ctrans_spec hz5 (i:=j) (b:=b) (blk512 he hbb) (hrz.up ((hle1.trans hle3).trans hle4)) hr5 fun zt H5 hle5 hr6=>?_
  refine⟨⟨by show (css.length+1)*72≤140737488355328;omega,by show css.length+1≤9223372036854775807;omega⟩,?_⟩
  have hrc2:RC (α:=Bt.TrB) H5 (css++[Bt.trV zt]) (((csysOf p).T.map Bt.TrB.mk).take (j+1)):=by
   rw[csysT_take hbb,←ctrF_eq he hbb];exact trb_snoc (RC.up hrc hle5) hr6
  refine⟨⟨by omega,by omega⟩,(j+1,css++[Bt.trV zt]),[(0,0),(1,1),(2,2),(3,3),(4,7)],?_,⟨hle4.trans hle5,hlt,hrc2⟩,by dsimp only;omega⟩
  (repeat' (first|exact trivial|refine⟨?_,?_⟩|exact rfl|assumption))
 ·have hjl:j=p.length:=by have:=df h;dsimp only at this;omega
  rw[hjl,List.take_of_length_le (by omega)]at hrc;intro v1 H5 hle5 hv1
  refine ints_k hv1 fun na nn nc ev1 hr1=>?_
  subst ev1;intro v3 H7 hle7 hv3
  refine of_row_k (α:=Bt.TrB) hv3 (RC.up hrc (hle5.le.trans hle7.le)) fun ta tn tc ev3 hr3=>?_
  subst ev3;have h57:=hle5.le.trans hle7.le
  have hsys:Bt.SysR H7 (csysOf p) ⟨ea,en,ec,na,nn,nc,ia,ni,ic,ta,tn,tc⟩ :=
   ⟨hze.up (hle4.trans h57),hr1.up hle7.le,hzi.up (hle4.trans h57),hr3⟩
  have hK:=hK ⟨ea,en,ec,na,nn,nc,ia,ni,ic,ta,tn,tc⟩ H7 (hle.trans h57) hsys;have e2:(csysOf p).m=n:=hn.symm;rw[Bt.sysA,Bt.sysV,e2]at hK;exact hK
end Go.Proofs
end
section
/- Plain words: client.System and the document's; the names of the clients, and their example. -/
namespace Go.Proofs
open Go.Sy
set_option maxRecDepth 20000
set_option maxHeartbeats 4000000
def nameOf (k:Int):List UInt8:=if k=1 then [108,105,118,101] else if k=2 then [114,101,97,99,104] else if k=3 then [97,118,97,105,108] else if k=4 then [99,111,110,115,116] else []
theorem name_spec {k:Int} {H:Hp} {K:Value→Hp→Prop} (hK:K (.string (bs (nameOf k))) H):Does Tryz.prog 14 [.int .i64 k] H K:=by
 refine spec_of cx_ok cx_mix rfl Tryz.func14 Tryz.call14 Tryz.ntmps14 Tryz.results14 rfl rfl ?_;refine⟨fun h=>?_,fun h=>⟨fun h2=>?_,fun h2=>⟨fun h3=>?_,fun h3=>⟨fun h4=>?_,fun h4=>?_⟩⟩⟩⟩
 all_goals simp only[decide_eq_true_eq,decide_eq_false_iff_not]at *
 ·subst h;exact hK
 ·subst h2;exact hK
 ·subst h3;exact hK
 ·subst h4;exact hK
 ·rw[show nameOf k=[] by simp [nameOf, *]]at hK;exact hK
theorem refname_spec {k:Int} {H:Hp} {K:Value→Hp→Prop} (hK:K (.string (bs (nameOf k))) H):Does Tryz.prog 8 [.int .i64 k] H K:=by
 refine spec_of cx_ok cx_mix rfl Tryz.func8 Tryz.call8 Tryz.ntmps8 Tryz.results8 rfl rfl ?_;refine⟨fun h=>⟨fun h2=>?_,fun h2=>?_⟩,fun h=>?_⟩
 ·rw[show nameOf k=[] by simp only[nameOf];repeat (rw[if_neg (by simp at h h2;omega)])]at hK;exact hK
 ·simp only[decide_eq_false_iff_not]at h h2
  have h5:k - 1<((4:Nat):Int):=by omega
  refine⟨⟨by omega,by omega⟩,⟨by omega,h5⟩,[.string (bs (nameOf k))],?_,hK⟩
  obtain rfl | rfl | rfl | rfl:k=1∨k=2∨k=3∨k=4:=by omega
  all_goals rfl
 ·rw[show nameOf k=[] by simp only[nameOf];repeat (rw[if_neg (by simp at h;omega)])]at hK;exact hK
def kindOf (l:List UInt8):Int:=if l=nameOf 1 then 1 else if l=nameOf 2 then 2 else if l=nameOf 3 then 3 else if l=nameOf 4 then 4 else 0
theorem kindOf_found {l:List UInt8} {k:Int} (h1:1≤k) (h4:k≤4) (h:nameOf k=l):kindOf l=k:=by
 subst h
 obtain rfl | rfl | rfl | rfl:k=1∨k=2∨k=3∨k=4:=by omega
 all_goals rfl
theorem kindOf_none {l:List UInt8} (h:∀k:Int,1≤k→k≤4→nameOf k≠l):kindOf l=0:=by
 unfold kindOf;rw[if_neg (fun e=>h 1 (by omega) (by omega) e.symm),if_neg (fun e=>h 2 (by omega) (by omega) e.symm),if_neg (fun e=>h 3 (by omega) (by omega) e.symm),if_neg (fun e=>h 4 (by omega) (by omega) e.symm)]
theorem kind_spec {l:List UInt8} {H:Hp} {K:Value→Hp→Prop} (hK:∀H',Le H H'→K (.int .i64 (kindOf l)) H'):Does Tryz.prog 15 [.string (bs l)] H K:=by
 refine spec_of cx_ok cx_mix rfl Tryz.func15 Tryz.call15 Tryz.ntmps15 Tryz.results15 rfl rfl ?_;refine⟨Nat,fun k=>⟨[(0,.v (.string (bs l))),(3,.v (.int .i64 (k+1)))],[],0⟩,fun k H'=>Le H H'∧k≤4∧∀i:Int,1≤i→i≤k→nameOf i≠l,fun k=>5 - k,⟨0,[],?_,Le.refl H,by omega,by intros;omega⟩,?_⟩
 ·exact⟨⟨rfl,rfl,trivial⟩,trivial⟩
 rintro k H' _ ⟨hle,hk,hne⟩;refine⟨fun h=>?_,fun h=>?_⟩
 ·have h:=of_decide_eq_true h;refine name_spec ?_;refine⟨fun h2=>?_,fun h2=>?_⟩
  ·have h2:nameOf (k+1)=l:=of_decide_eq_true h2;have:=hK H' hle;rw[kindOf_found (by omega) h h2]at this;exact this
  ·have h2:nameOf (k+1)≠l:=of_decide_eq_false h2;refine⟨⟨by omega,by omega⟩,k+1,[],?_,⟨hle,by omega,fun i h3 h4=>?_⟩,by dsimp only;omega⟩
   ·exact⟨⟨rfl,rfl,trivial⟩,trivial⟩
   by_cases e:i=k+1
   ·subst e;exact h2
   ·exact hne i h3 (by omega)
 ·have h:=of_decide_eq_false h;have:=hK H' hle;rw[kindOf_none (fun i h1 h2=>hne i h1 (by omega))]at this;exact this
theorem awake42_spec {H:Hp} {K:Value→Hp→Prop} (hK:∀H',Le H H'→K (.bool true) H'):Does Tryz.prog 4 [] H K:=by
 refine spec_of cx_ok cx_mix rfl Tryz.func4 Tryz.call4 Tryz.ntmps4 Tryz.results4 rfl rfl ?_;refine name_spec (k:=4) ?_;refine⟨fun _=>?_,fun h=>absurd rfl (df h)⟩
 refine kind_spec (l:=[114,101,97,99,104]) fun H1 hle1=>?_
 exact hK _ (by first | exact hle1 | exact Le.refl H)
theorem csystem_none {kind:Int} (hk:¬(1≤kind∧kind≤4)) {a:Option Addr} {n c:Nat} {H:Hp} {K:Value→Hp→Prop} (hK:K (.tuple #[.agg zSys.toArray,.int .i64 10]) H):Does Tryz.prog 6 [.int .i64 kind,.agg #[.slice a n c]] H K:=by
 refine spec_of cx_ok cx_mix rfl Tryz.func6 Tryz.call6 Tryz.ntmps6 Tryz.results6 rfl rfl ?_;refine⟨fun h=>absurd (dt h) (by omega),fun _=>?_⟩;refine⟨fun h=>absurd (dt h) (by omega),fun _=>?_⟩;refine⟨fun h=>absurd (dt h) (by omega),fun _=>?_⟩;refine⟨fun h=>absurd (dt h) (by omega),fun _=>?_⟩;exact hK
theorem csystem1 {p:Prog} (hp:p.length≤12) (hl:∀b∈p,b.2.1.length≤100000) (hc:stmtsN p≤1000000) (hv:cnt p<400000) {a:Option Addr} {n c:Nat} {H:Hp} {K:Value→Hp→Prop} (ha:RL H a n c p)
  (hbad:checkE p≠0→∀H',Le H H'→K (.tuple #[.agg zSys.toArray,.int .i64 (checkE p)]) H')
  (hK:checkE p=0→∀z H',Le H H'→Bt.SysR H' (lsysOf p) z→K (.tuple #[Bt.sysA (lsysOf p) z,.int .i64 0]) H'):Does Tryz.prog 6 [.int .i64 1,.agg #[.slice a n c]] H K:=by
 refine spec_of cx_ok cx_mix rfl Tryz.func6 Tryz.call6 Tryz.ntmps6 Tryz.results6 rfl rfl ?_
 skip
 refine⟨fun _=>?_,fun h=>absurd rfl (df h)⟩;refine lsys_spec hp (fun b hb=>Nat.le_trans (hl b hb) (by decide)) hc hv ha (fun he H2 hle2=>?_) (fun he z H2 hle2 hs=>?_)
 ·exact hbad he _ (by first | exact hle2 | exact Le.refl H)
 ·exact hK he z _ (by first | exact hle2 | exact Le.refl H) hs
theorem csystem2 {p:Prog} (hp:p.length≤12) (hl:∀b∈p,b.2.1.length≤100000) (hc:stmtsN p≤1000000) (hv:cnt p<400000) {a:Option Addr} {n c:Nat} {H:Hp} {K:Value→Hp→Prop} (ha:RL H a n c p)
  (hbad:checkE p≠0→∀H',Le H H'→K (.tuple #[.agg zSys.toArray,.int .i64 (checkE p)]) H')
  (hK:checkE p=0→∀z H',Le H H'→Bt.SysR H' (csysOf p) z→K (.tuple #[Bt.sysA (csysOf p) z,.int .i64 0]) H'):Does Tryz.prog 6 [.int .i64 2,.agg #[.slice a n c]] H K:=by
 refine spec_of cx_ok cx_mix rfl Tryz.func6 Tryz.call6 Tryz.ntmps6 Tryz.results6 rfl rfl ?_
 (refine⟨fun h=>absurd (show (2:Int)=1 from dt h) (by decide),fun _=>?_⟩)
 refine⟨fun _=>?_,fun h=>absurd rfl (df h)⟩;refine csys_spec hp (fun b hb=>Nat.le_trans (hl b hb) (by decide)) hc hv ha (fun he H2 hle2=>?_) (fun he z H2 hle2 hs=>?_)
 ·exact hbad he _ (by first | exact hle2 | exact Le.refl H)
 ·exact hK he z _ (by first | exact hle2 | exact Le.refl H) hs
theorem csystem3 {p:Prog} (hp:p.length≤12) (hl:∀b∈p,b.2.1.length≤100000) (hc:stmtsN p≤1000000) (hv:cnt p<400000) {a:Option Addr} {n c:Nat} {H:Hp} {K:Value→Hp→Prop} (ha:RL H a n c p)
  (hbad:checkE p≠0→∀H',Le H H'→K (.tuple #[.agg zSys.toArray,.int .i64 (checkE p)]) H')
  (hK:checkE p=0→∀z H',Le H H'→Bt.SysR H' (asysOf p) z→K (.tuple #[Bt.sysA (asysOf p) z,.int .i64 0]) H'):Does Tryz.prog 6 [.int .i64 3,.agg #[.slice a n c]] H K:=by
 refine spec_of cx_ok cx_mix rfl Tryz.func6 Tryz.call6 Tryz.ntmps6 Tryz.results6 rfl rfl ?_
 (refine⟨fun h=>absurd (show (3:Int)=1 from dt h) (by decide),fun _=>?_⟩;refine⟨fun h=>absurd (show (3:Int)=2 from dt h) (by decide),fun _=>?_⟩)
 refine⟨fun _=>?_,fun h=>absurd rfl (df h)⟩;refine asys_spec hp (fun b hb=>Nat.le_trans (hl b hb) (by decide)) hc hv ha (fun he H2 hle2=>?_) (fun he z H2 hle2 hs=>?_)
 ·exact hbad he _ (by first | exact hle2 | exact Le.refl H)
 ·exact hK he z _ (by first | exact hle2 | exact Le.refl H) hs
theorem csystem4 {p:Prog} (hp:p.length≤12) (hl:∀b∈p,b.2.1.length≤100000) (hc:stmtsN p≤1000000) (hv:cnt p<400000) {a:Option Addr} {n c:Nat} {H:Hp} {K:Value→Hp→Prop} (ha:RL H a n c p)
  (hbad:checkE p≠0→∀H',Le H H'→K (.tuple #[.agg zSys.toArray,.int .i64 (checkE p)]) H')
  (hK:checkE p=0→∀z H',Le H H'→SysR H' (sysOf p) z→K (.tuple #[sysA (sysOf p) z,.int .i64 0]) H'):Does Tryz.prog 6 [.int .i64 4,.agg #[.slice a n c]] H K:=by
 refine spec_of cx_ok cx_mix rfl Tryz.func6 Tryz.call6 Tryz.ntmps6 Tryz.results6 rfl rfl ?_
 (refine⟨fun h=>absurd (show (4:Int)=1 from dt h) (by decide),fun _=>?_⟩;refine⟨fun h=>absurd (show (4:Int)=2 from dt h) (by decide),fun _=>?_⟩;refine⟨fun h=>absurd (show (4:Int)=3 from dt h) (by decide),fun _=>?_⟩)
 refine⟨fun _=>?_,fun h=>absurd rfl (df h)⟩;refine psys_spec hp (fun b hb=>Nat.le_trans (hl b hb) (by decide)) hc hv ha (fun he H2 hle2=>?_) (fun he z H2 hle2 hs=>?_)
 ·exact hbad he _ (by first | exact hle2 | exact Le.refl H)
 ·exact hK he z _ (by first | exact hle2 | exact Le.refl H) hs
theorem rsystem1 {p:Prog} (he:checkE p=0) (hp:p.length≤12) (hl:∀b∈p,b.2.1.length≤100000) (hc:stmtsN p≤1000000) (hv:cnt p<400000) {a:Option Addr} {n c:Nat} {H:Hp} {K:Value→Hp→Prop} (ha:RL H a n c p)
  (hK:∀z H',Le H H'→Bt.SysR H' (lsysOf p) z→K (Bt.sysA (lsysOf p) z) H'):Does Tryz.prog 13 [.int .i64 1,.agg #[.slice a n c]] H K:=by
 have _:=hc;have _:=hv;refine spec_of cx_ok cx_mix rfl Tryz.func13 Tryz.call13 Tryz.ntmps13 Tryz.results13 rfl rfl ?_
 (refine⟨fun _=>?_,fun h=>absurd rfl (df h)⟩)
 refine rlsys_spec he hp hl hv ha (fun z H2 hle2 hs=>?_);exact hK z _ (by first | exact hle2 | exact Le.refl H) hs
theorem rsystem2 {p:Prog} (he:checkE p=0) (hp:p.length≤12) (hl:∀b∈p,b.2.1.length≤100000) (hc:stmtsN p≤1000000) (hv:cnt p<400000) {a:Option Addr} {n c:Nat} {H:Hp} {K:Value→Hp→Prop} (ha:RL H a n c p)
  (hK:∀z H',Le H H'→Bt.SysR H' (csysOf p) z→K (Bt.sysA (csysOf p) z) H'):Does Tryz.prog 13 [.int .i64 2,.agg #[.slice a n c]] H K:=by
 have _:=hc;have _:=hv;refine spec_of cx_ok cx_mix rfl Tryz.func13 Tryz.call13 Tryz.ntmps13 Tryz.results13 rfl rfl ?_
 (refine⟨fun h=>absurd (show (2:Int)=1 from dt h) (by decide),fun _=>?_⟩;refine⟨fun _=>?_,fun h=>absurd rfl (df h)⟩)
 refine rchs_spec he hp hl hc hv ha (fun z H2 hle2 hs=>?_);exact hK z _ (by first | exact hle2 | exact Le.refl H) hs
theorem rsystem3 {p:Prog} (he:checkE p=0) (hp:p.length≤12) (hl:∀b∈p,b.2.1.length≤100000) (hc:stmtsN p≤1000000) (hv:cnt p<400000) {a:Option Addr} {n c:Nat} {H:Hp} {K:Value→Hp→Prop} (ha:RL H a n c p)
  (hK:∀z H',Le H H'→Bt.SysR H' (asysOf p) z→K (Bt.sysA (asysOf p) z) H'):Does Tryz.prog 13 [.int .i64 3,.agg #[.slice a n c]] H K:=by
 have _:=hc;have _:=hv;refine spec_of cx_ok cx_mix rfl Tryz.func13 Tryz.call13 Tryz.ntmps13 Tryz.results13 rfl rfl ?_
 (refine⟨fun h=>absurd (show (3:Int)=1 from dt h) (by decide),fun _=>?_⟩;refine⟨fun h=>absurd (show (3:Int)=2 from dt h) (by decide),fun _=>?_⟩;refine⟨fun _=>?_,fun h=>absurd rfl (df h)⟩)
 refine rasys_spec he hp hl ha (fun z H2 hle2 hs=>?_);exact hK z _ (by first | exact hle2 | exact Le.refl H) hs
theorem rsystem4 {p:Prog} (he:checkE p=0) (hp:p.length≤12) (hl:∀b∈p,b.2.1.length≤100000) (hc:stmtsN p≤1000000) (hv:cnt p<400000) {a:Option Addr} {n c:Nat} {H:Hp} {K:Value→Hp→Prop} (ha:RL H a n c p)
  (hK:∀z H',Le H H'→SysR H' (sysOf p) z→K (sysA (sysOf p) z) H'):Does Tryz.prog 13 [.int .i64 4,.agg #[.slice a n c]] H K:=by
 have _:=hc;have _:=hv;refine spec_of cx_ok cx_mix rfl Tryz.func13 Tryz.call13 Tryz.ntmps13 Tryz.results13 rfl rfl ?_
 (refine⟨fun h=>absurd (show (4:Int)=1 from dt h) (by decide),fun _=>?_⟩;refine⟨fun h=>absurd (show (4:Int)=2 from dt h) (by decide),fun _=>?_⟩;refine⟨fun h=>absurd (show (4:Int)=3 from dt h) (by decide),fun _=>?_⟩)
 refine rsys_spec hp (fun b hb=>Nat.le_trans (hl b hb) (by decide)) hv ha he (fun z H2 hle2 hs=>?_);exact hK z _ (by first | exact hle2 | exact Le.refl H) hs
end Go.Proofs
end
section
/- Plain words: the law of ClientWords returns true. -/
namespace Go.Proofs
open Go.Sy
set_option maxRecDepth 20000
set_option maxHeartbeats 4000000
theorem siteL_var (i:Nat):∀(l:List Stmt) (k:Nat) (x:Site),x∈siteL i l k→∃s∈l,x.2.2=s.2.1
 | [],_,x,h=>by cases h
 | s::r,k,x,h=>by
  rw[siteL]at h
  rcases List.mem_append.1 h with h | h
  ·unfold siteK at h;split at h
   ·rw[List.mem_singleton]at h;subst h;exact⟨s,List.mem_cons_self,rfl⟩
   ·cases h
  ·obtain⟨t,h1,h2⟩:=siteL_var i r (k+1) x h;exact⟨t,List.mem_cons_of_mem _ h1,h2⟩
theorem siteP_var:∀(p:Prog) (i:Nat) (x:Site),x∈siteP p i→∃b∈p,∃s∈b.2.1,x.2.2=s.2.1
 | [],_,x,h=>by cases h
 | b::r,i,x,h=>by
  rw[siteP]at h
  rcases List.mem_append.1 h with h | h
  ·obtain⟨s,h1,h2⟩:=siteL_var i b.2.1 0 x h;exact⟨b,List.mem_cons_self,s,h1,h2⟩
  ·obtain⟨c,h1,h2⟩:=siteP_var r (i+1) x h;exact⟨c,List.mem_cons_of_mem _ h1,h2⟩
theorem exprsB_mem:∀(l:List Stmt) (out:List Expr) (y:Expr),y∈exprsB out l→y∈out∨∃s∈l,y=s.2.2
 | [],out,y,h=>.inl h
 | s::r,out,y,h=>by
  rcases exprsB_mem r (addE out s) y h with h | ⟨t,h1,h2⟩
  ·unfold addE at h;split at h
   ·rcases List.mem_append.1 h with h | h
    ·exact .inl h
    ·exact .inr ⟨s,List.mem_cons_self,List.mem_singleton.1 h⟩
   ·exact .inl h
  ·exact .inr ⟨t,List.mem_cons_of_mem _ h1,h2⟩
theorem exprsP_mem:∀(p:Prog) (out:List Expr) (y:Expr),y∈p.foldl (fun o b=>exprsB o b.2.1) out→y∈out∨∃b∈p,∃s∈b.2.1,y=s.2.2
 | [],out,y,h=>.inl h
 | b::r,out,y,h=>by
  rcases exprsP_mem r (exprsB out b.2.1) y h with h | ⟨c,h1,h2⟩
  ·rcases exprsB_mem b.2.1 out y h with h | h
   ·exact .inl h
   ·exact .inr ⟨b,List.mem_cons_self,h⟩
  ·exact .inr ⟨c,List.mem_cons_of_mem _ h1,h2⟩
theorem psml_of {p:Prog} (h:small4 p):PSml p:=by
 have hV:∀v∈varsOf p,v.length≤1000000:=fun v hv=>by
  rcases vars_mem p hv with h1 | ⟨b,h1,h2⟩
  ·cases h1
  ·have h3:=h.2 b h1
   rcases h2 with rfl | ⟨s,h4,h5⟩
   ·have:=h3.1.2.2.2.2;omega
   ·have h6:=h3.2 s h4;simp only[sVars,List.mem_cons,List.not_mem_nil,or_false]at h5;have h7:=h6.1;have h8:=h6.2.1;have h9:=h6.2.2
    rcases h5 with rfl | rfl | rfl<;>omega
 refine⟨h.1,fun b hb=>by have:=(h.2 b hb).1.1;omega,small_stmts h,?_,small_cnt h,fun b hb=>by have:=(h.2 b hb).1.2.1;omega,fun x hx=>?_,hV,fun x hx=>?_⟩
 ·have h1:∀q:Prog,q.length≤12→(∀b∈q,b.2.1.length≤12)→stmtsN q≤12*q.length:=by
   intro q
   induction q with
   | nil=>intro _ _;exact Nat.zero_le _
   | cons b r ih =>
    intro h1 h2;rw[List.length_cons]at h1
    have h3:=ih (by omega) fun c hc=>h2 c (List.mem_cons_of_mem _ hc)
    have h4:=h2 b List.mem_cons_self;simp only[stmtsN,List.map_cons,List.sum_cons,List.length_cons]at h3 ⊢;omega
  have:=h1 p h.1 fun b hb=>(h.2 b hb).1.1
  have:=h.1;omega
 ·rw[sitesOf]at hx
  rcases List.mem_append.1 hx with hx | hx
  ·obtain⟨v,hv,rfl⟩:=List.mem_map.1 hx;exact hV v hv
  ·obtain⟨b,h1,s,h2,h3⟩:=siteP_var p 0 x hx;have:=(h.2 b h1).2 s h2;rw[h3];have h7:=this.1;omega
 ·rcases exprsP_mem p [] x hx with h1 | ⟨b,h1,s,h2,rfl⟩
  ·cases h1
  ·have:=(h.2 b h1).2 s h2;have h8:=this.2.1;have h9:=this.2.2;exact⟨by omega,by omega⟩
theorem ClientWords_spec {p:Prog} {x:Wd} {kind:Int} {a b:Option Addr} {n c m k:Nat} {H:Hp} {K:Value→Hp→Prop} (ha:RL H a n c p) (hb:RL H b m k x) (hK:∀H',Le H H'→K (.bool true) H'):Does Tryz.prog 3 [.int .i64 kind,.agg #[.slice a n c],.slice b m k] H K:=by
 have hm:=hb.n_eq;refine spec_of cx_ok cx_mix rfl Tryz.func3 Tryz.call3 Tryz.ntmps3 Tryz.results3 rfl rfl ?_
 refine awake42_spec fun _ _=>?_
 refine⟨(fun h=>by cases h),fun _=>?_⟩
 refine small4_spec ha fun t ht=>?_
 refine⟨fun h1=>?_,fun h1=>?_⟩
 case refine_2=>exact hK _ (Le.refl H)
 refine⟨fun h2=>?_,fun h2=>?_⟩
 ·exact hK _ (Le.refl H)
 have hx:x.length≤20:=by have:=df h2;omega
 have hb4:=ht (by simpa using h1);have hP:=psml_of hb4;have hp:=hP.hp;have hl:=hP.hl;have hc:=hP.hc;have hv:=hP.hv
 have hz:(sitesOf p).length≤1000000:=by
  have h1:=siteP_len p 0;have h2:=hP.hc5;have h3:(varsOf p).length≤[].length+cnt p:=vars_len p [];have h4:=hP.hv;rw[List.length_nil]at h3;rw[sitesOf,List.length_append,site0,List.length_map];omega
 have hxz:=exprs_sz hP
 by_cases hk:1≤kind∧kind≤4
 case neg =>
  refine csystem_none hk ?_
  refine cwords_spec hP (by omega) ha hb fun a3 n3 c3 H3 hle3 hr3=>?_
  refine refname_spec ?_
  have e0:nameOf kind=[]:=by
   unfold nameOf;rw[if_neg (by omega),if_neg (by omega),if_neg (by omega),if_neg (by omega)]
  have e1:wordsOf kind p x=[]:=by
   unfold wordsOf;rw[if_neg (by omega),if_neg (by omega),if_neg (by omega),if_neg (by omega)]
  rw[e0];rw[e1]at hr3;have hn3:n3=0:=hr3.n_eq;subst hn3;refine⟨fun _=>?_,fun h=>absurd rfl (df h)⟩;refine⟨fun _=>?_,fun h=>absurd rfl (df h)⟩;refine alike0_spec ?_;refine⟨fun _=>?_,fun h=>by cases h⟩;exact hK _ (by first | exact hle3 | exact Le.refl H)
 case pos =>
  have hWL:=words_len hP kind x
  have h4:kind=1∨kind=2∨kind=3∨kind=4:=by omega
  rcases h4 with rfl | rfl | rfl | rfl
  ·clear hk;refine csystem1 hp hl hc hv ha (fun he H2 hle2=>?_) (fun he z H2 hle2 hs=>?_)
   ·skip
    refine cwords_spec hP (by omega) (ha.up hle2) (hb.up hle2) fun a3 n3 c3 H3 hle3 hr3=>?_
    refine refname_spec ?_;refine⟨fun h=>absurd (show nameOf 1=[] from dt h) (by decide),fun _=>?_⟩;have hle13:=hle2.trans hle3
    refine rwords_spec hP (by omega) (ha.up hle13) (hb.up hle13) hz hxz hWL fun a4 n4 c4 H4 hle4 hr4=>?_
    have hle14:=hle13.trans hle4;refine texts4_spec (hr3.up hle4) hr4 ?_;refine⟨fun h=>(by cases h),fun _=>?_⟩
    refine rcheck_spec (ha.up hle14) hc hv fun H5 hle5=>?_
    refine⟨fun _=>?_,fun h=>absurd (nf h) he⟩;refine⟨fun _=>?_,fun h=>absurd rfl (df h)⟩;refine alike0_spec ?_;exact hK _ (by first | exact hle14 | exact hle14.trans hle5)
   ·skip
    refine cwords_spec hP (by omega) (ha.up hle2) (hb.up hle2) fun a3 n3 c3 H3 hle3 hr3=>?_
    refine refname_spec ?_;refine⟨fun h=>absurd (show nameOf 1=[] from dt h) (by decide),fun _=>?_⟩;have hle13:=hle2.trans hle3
    refine rwords_spec hP (by omega) (ha.up hle13) (hb.up hle13) hz hxz hWL fun a4 n4 c4 H4 hle4 hr4=>?_
    have hle14:=hle13.trans hle4;refine texts4_spec (hr3.up hle4) hr4 ?_;refine⟨fun h=>(by cases h),fun _=>?_⟩
    refine rcheck_spec (ha.up hle14) hc hv fun H5 hle5=>?_
    refine⟨fun h=>absurd he (nt h),fun _=>?_⟩;refine⟨some ([],[0,1,2,3,4,5,6,7,8,9]),by kernel_rfl,?_⟩;refine⟨fun _=>?_,fun h=>absurd rfl (df h)⟩
    refine rsystem1 he hp hl hc hv (ha.up (by first | exact hle14 | exact hle14.trans hle5)) fun y H6 hle6 hs6=>?_
    refine Bt.alike_spec (hs.up (by first | exact (hle3.trans hle4).trans hle6 | exact ((hle3.trans hle4).trans hle5).trans hle6)) hs6 ?_;exact hK _ (by first | exact hle14.trans hle6 | exact (hle14.trans hle5).trans hle6)
  ·clear hk;refine csystem2 hp hl hc hv ha (fun he H2 hle2=>?_) (fun he z H2 hle2 hs=>?_)
   ·skip
    refine cwords_spec hP (by omega) (ha.up hle2) (hb.up hle2) fun a3 n3 c3 H3 hle3 hr3=>?_
    refine refname_spec ?_;refine⟨fun h=>absurd (show nameOf 2=[] from dt h) (by decide),fun _=>?_⟩;have hle13:=hle2.trans hle3
    refine rwords_spec hP (by omega) (ha.up hle13) (hb.up hle13) hz hxz hWL fun a4 n4 c4 H4 hle4 hr4=>?_
    have hle14:=hle13.trans hle4;refine texts4_spec (hr3.up hle4) hr4 ?_;refine⟨fun h=>(by cases h),fun _=>?_⟩
    refine rcheck_spec (ha.up hle14) hc hv fun H5 hle5=>?_
    refine⟨fun _=>?_,fun h=>absurd (nf h) he⟩;refine⟨fun _=>?_,fun h=>absurd rfl (df h)⟩;refine alike0_spec ?_;exact hK _ (by first | exact hle14 | exact hle14.trans hle5)
   ·skip
    refine cwords_spec hP (by omega) (ha.up hle2) (hb.up hle2) fun a3 n3 c3 H3 hle3 hr3=>?_
    refine refname_spec ?_;refine⟨fun h=>absurd (show nameOf 2=[] from dt h) (by decide),fun _=>?_⟩;have hle13:=hle2.trans hle3
    refine rwords_spec hP (by omega) (ha.up hle13) (hb.up hle13) hz hxz hWL fun a4 n4 c4 H4 hle4 hr4=>?_
    have hle14:=hle13.trans hle4;refine texts4_spec (hr3.up hle4) hr4 ?_;refine⟨fun h=>(by cases h),fun _=>?_⟩
    refine rcheck_spec (ha.up hle14) hc hv fun H5 hle5=>?_
    refine⟨fun h=>absurd he (nt h),fun _=>?_⟩;refine⟨some ([],[0,1,2,3,4,5,6,7,8,9]),by kernel_rfl,?_⟩;refine⟨fun _=>?_,fun h=>absurd rfl (df h)⟩
    refine rsystem2 he hp hl hc hv (ha.up (by first | exact hle14 | exact hle14.trans hle5)) fun y H6 hle6 hs6=>?_
    refine Bt.alike_spec (hs.up (by first | exact (hle3.trans hle4).trans hle6 | exact ((hle3.trans hle4).trans hle5).trans hle6)) hs6 ?_;exact hK _ (by first | exact hle14.trans hle6 | exact (hle14.trans hle5).trans hle6)
  ·clear hk;refine csystem3 hp hl hc hv ha (fun he H2 hle2=>?_) (fun he z H2 hle2 hs=>?_)
   ·skip
    refine cwords_spec hP (by omega) (ha.up hle2) (hb.up hle2) fun a3 n3 c3 H3 hle3 hr3=>?_
    refine refname_spec ?_;refine⟨fun h=>absurd (show nameOf 3=[] from dt h) (by decide),fun _=>?_⟩;have hle13:=hle2.trans hle3
    refine rwords_spec hP (by omega) (ha.up hle13) (hb.up hle13) hz hxz hWL fun a4 n4 c4 H4 hle4 hr4=>?_
    have hle14:=hle13.trans hle4;refine texts4_spec (hr3.up hle4) hr4 ?_;refine⟨fun h=>(by cases h),fun _=>?_⟩
    refine rcheck_spec (ha.up hle14) hc hv fun H5 hle5=>?_
    refine⟨fun _=>?_,fun h=>absurd (nf h) he⟩;refine⟨fun _=>?_,fun h=>absurd rfl (df h)⟩;refine alike0_spec ?_;exact hK _ (by first | exact hle14 | exact hle14.trans hle5)
   ·skip
    refine cwords_spec hP (by omega) (ha.up hle2) (hb.up hle2) fun a3 n3 c3 H3 hle3 hr3=>?_
    refine refname_spec ?_;refine⟨fun h=>absurd (show nameOf 3=[] from dt h) (by decide),fun _=>?_⟩;have hle13:=hle2.trans hle3
    refine rwords_spec hP (by omega) (ha.up hle13) (hb.up hle13) hz hxz hWL fun a4 n4 c4 H4 hle4 hr4=>?_
    have hle14:=hle13.trans hle4;refine texts4_spec (hr3.up hle4) hr4 ?_;refine⟨fun h=>(by cases h),fun _=>?_⟩
    refine rcheck_spec (ha.up hle14) hc hv fun H5 hle5=>?_
    refine⟨fun h=>absurd he (nt h),fun _=>?_⟩;refine⟨some ([],[0,1,2,3,4,5,6,7,8,9]),by kernel_rfl,?_⟩;refine⟨fun _=>?_,fun h=>absurd rfl (df h)⟩
    refine rsystem3 he hp hl hc hv (ha.up (by first | exact hle14 | exact hle14.trans hle5)) fun y H6 hle6 hs6=>?_
    refine Bt.alike_spec (hs.up (by first | exact (hle3.trans hle4).trans hle6 | exact ((hle3.trans hle4).trans hle5).trans hle6)) hs6 ?_;exact hK _ (by first | exact hle14.trans hle6 | exact (hle14.trans hle5).trans hle6)
  ·clear hk;refine csystem4 hp hl hc hv ha (fun he H2 hle2=>?_) (fun he z H2 hle2 hs=>?_)
   ·skip
    refine cwords_spec hP (by omega) (ha.up hle2) (hb.up hle2) fun a3 n3 c3 H3 hle3 hr3=>?_
    refine refname_spec ?_;refine⟨fun h=>absurd (show nameOf 4=[] from dt h) (by decide),fun _=>?_⟩;have hle13:=hle2.trans hle3
    refine rwords_spec hP (by omega) (ha.up hle13) (hb.up hle13) hz hxz hWL fun a4 n4 c4 H4 hle4 hr4=>?_
    have hle14:=hle13.trans hle4;refine texts4_spec (hr3.up hle4) hr4 ?_;refine⟨fun h=>(by cases h),fun _=>?_⟩
    refine rcheck_spec (ha.up hle14) hc hv fun H5 hle5=>?_
    refine⟨fun _=>?_,fun h=>absurd (nf h) he⟩;refine⟨fun _=>?_,fun h=>absurd rfl (df h)⟩;refine alike0_spec ?_;exact hK _ (by first | exact hle14 | exact hle14.trans hle5)
   ·skip
    refine cwords_spec hP (by omega) (ha.up hle2) (hb.up hle2) fun a3 n3 c3 H3 hle3 hr3=>?_
    refine refname_spec ?_;refine⟨fun h=>absurd (show nameOf 4=[] from dt h) (by decide),fun _=>?_⟩;have hle13:=hle2.trans hle3
    refine rwords_spec hP (by omega) (ha.up hle13) (hb.up hle13) hz hxz hWL fun a4 n4 c4 H4 hle4 hr4=>?_
    have hle14:=hle13.trans hle4;refine texts4_spec (hr3.up hle4) hr4 ?_;refine⟨fun h=>(by cases h),fun _=>?_⟩
    refine rcheck_spec (ha.up hle14) hc hv fun H5 hle5=>?_
    refine⟨fun h=>absurd he (nt h),fun _=>?_⟩;refine⟨some ([],[0,1,2,3,4,5,6,7,8,9]),by kernel_rfl,?_⟩;refine⟨fun _=>?_,fun h=>absurd rfl (df h)⟩
    refine rsystem4 he hp hl hc hv (ha.up (by first | exact hle14 | exact hle14.trans hle5)) fun y H6 hle6 hs6=>?_
    refine alike_spec (hs.up (by first | exact (hle3.trans hle4).trans hle6 | exact ((hle3.trans hle4).trans hle5).trans hle6)) hs6 ?_;exact hK _ (by first | exact hle14.trans hle6 | exact (hle14.trans hle5).trans hle6)
end Go.Proofs
end
