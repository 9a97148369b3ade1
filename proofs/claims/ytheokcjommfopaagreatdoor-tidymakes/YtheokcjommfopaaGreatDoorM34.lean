/- Part 'M34' of the proof (Td5, Td6, Td8, Td9): lemmas, each with its own conditions in its own statement. -/
import Derived.Handy
import Derived.LoopIn
import Derived.LoopNIn
import Derived.OwnWalkIn
import Derived.RangeFuncBound
import Derived.RangeFuncCalls
import Derived.RangeFuncLeaves
import Derived.RangeFuncNested
import Derived.Shelf.Abstract
import Derived.Shelf.RegionOpen
import Derived.TacticsInMore
import Derived.WalkKit
import Derived.Test.YtheokcjommfopaaGreatDoorM22
import Derived.Test.YtheokcjommfopaaGreatDoorM30
import Derived.Test.YtheokcjommfopaaGreatDoorM31
import Derived.Test.YtheokcjommfopaaGreatDoorM33
set_option maxRecDepth 20000
set_option maxHeartbeats 4000000
section
namespace Go.Proofs
open Go.RowKit Go.Shelf Go.Sy
open Tryz
attribute [local go_sem] Oper.semAt_some
theorem sX {p:Prog} {a:Option Addr} {n c:Nat} {H:Hp} (ha:RL H a n c p) (hc:aw p≤1000000) (hv:iE p<400000) {w:World} (hp:∀b o,H b=some o→w.heap[b]?=some o):
  Calls prog 23 #[.agg #[.slice a n c]] w fun e w'=>∃H',e = .returned (.int .i64 (al p))∧Le H H'∧(∀b o,H' b=some o→w'.heap[b]?=some o) ∧
   (∀b,H b=none→b<w.heap.size→H' b=none)∧fx w.heap.size w w':=by
 have h:aq prog 23 [.agg #[.slice a n c]] H (fun v H'=>v = .int .i64 (al p)):=eL ha hc hv fun H' _=>rfl
 refine (h.2 w hp).mono ?_;rintro e w' ⟨v,H',rfl,rfl,h3,h4,h5,h6⟩;exact⟨H',rfl,h3,h4,h5,h6⟩
theorem sY {H:Hp} {W:World} (h:∀b o,H b=some o→W.heap[b]?=some o) {b:Nat} {cs:Array Value} {T:TypeId} {f:Nat×Nat} (hb:H b=some (.cells cs T f)) (j:Nat) (v:Value) (hj:cs[j]?=some v):W.cell? ⟨b,j,none⟩=some v:=by
 simp [World.cell?,h b _ hb,hj]
def j8 (p:Prog):Nat→Prog→Prop
 | 0,q=>q=p
 | 1,q=>q=bQ p
 | 2,q=>yb (bQ p) q
 | 3,q=>∃r,yb (bQ p) r∧q=(cJ r).1
 | _,q=>mZ p q
theorem oc {p:Prog} {q r:Prog}:(j8 p 0 q→r=bQ q→j8 p 1 r)∧(j8 p 1 q→yb q r→j8 p 2 r)∧(j8 p 2 q→r=(cJ q).1→j8 p 3 r)∧(j8 p 3 q→KG q r→j8 p 4 r) :=
 ⟨fun h1 h2=>by
  have h1:q=p:=h1
  rw[h2,h1];rfl,fun h1 h2=>by
  have h1:q=bQ p:=h1
  rw[h1]at h2;exact h2,fun h1 h2=>⟨q,h1,h2⟩,fun h1 h2=>by
  obtain⟨x,hx,e⟩:=h1;rw[e]at h2
  exact⟨x,hx,h2⟩⟩
theorem Hv {p:Prog} (he:al p=0) {q:Prog}:∀ {k:Nat},j8 p k q→al q=0∧q.length≤p.length
 | 0,h=>by
  have h:q=p:=h
  rw[h];exact⟨he,Nat.le_refl _⟩
 | 1,h=>by
  have h:q=bQ p:=h
  rw[h];exact⟨(jT he).vq,(jT he).len⟩
 | 2,h=>by
  have h1:=(sV (jT he).vq h).1;exact⟨h1.vq,Nat.le_trans h1.len (jT he).len⟩
 | 3,h=>by
  obtain⟨r,hr,e⟩:=h;have h1:=(sV (jT he).vq hr).1;have h2:=ue h1.vq;rw[e];exact⟨h2.vq,Nat.le_trans h2.len (Nat.le_trans h1.len (jT he).len)⟩
 | k+4,h=>by
  have h1:=sW he (show mZ p q from h);exact⟨h1.vq,h1.len⟩
structure UR (H1 H':Hp) (w6 w8 wr:World):Prop where
 hp:∀b o,H' b=some o→wr.heap[b]?=some o
 own:H' w6.heap.size=none
 new:∀b,H1 b=none→b<w6.heap.size→H' b=none
 frame:∀b,b<w6.heap.size+2→b≠w6.heap.size→wr.heap[b]?=w8.heap[b]?
 size:w6.heap.size+2≤wr.heap.size
 os:wr.os=w6.os
 tape:wr.tape=w6.tape
 od:OD w6 wr
set_option maxRecDepth 100000 in
set_option maxHeartbeats 2000000 in
theorem NQ {p:Prog} (hc:aw p≤1000000) (hv:iE p<400000) (he:al p≠0) {a:Option Addr} {n c:Nat} {H:Hp} (ha:RL H a n c p) {w:World} (hp:∀b o,H b=some o→w.heap[b]?=some o):
  CallsIn Fence.wide 4 prog 15 #[.agg #[.slice a n c]] w fun e w'=>∃H',e = .returned (.tuple #[.agg #[.slice none 0 0],.int .i64 (al p)])∧Le H H'∧(∀b o,H' b=some o→w'.heap[b]?=some o)∧(∀b,H b=none→b<w.heap.size→H' b=none)∧fx w.heap.size w w':=by
 refine callsIn_of_wp func15 rfl trivial ?_ rfl;simp only[ntmps15,List.size_toArray,List.length_cons,List.length_nil,Nat.reduceAdd,Nat.reduceSub,Array.replicate_succ,Array.replicate_zero,List.push_toArray,List.append_toArray,List.nil_append,List.cons_append]
 have qo:∀b o,H b=some o→((w.alloc (.cells #[.slice a n c] 24)).alloc (.cells #[.slice none 0 0] 24)).heap[b]?=some o:=fun b o hb=>by
  have e:=hp b o hb;have aj:=(Array.getElem?_eq_some_iff.1 e).1
  rw[Below.heap_alloc _ _ _ (by simp;omega),Below.heap_alloc _ _ _ aj];exact e
 have bR:=Boxed.new (w.alloc (.cells #[.slice a n c] 24)) 24 (.slice none 0 0);rw[World.size_alloc]at bR
 have yB:fx w.heap.size w ((w.alloc (.cells #[.slice a n c] 24)).alloc (.cells #[.slice none 0 0] 24)):=⟨((Below.refl _ w).alloc (Nat.le_refl _) _).alloc (by simp) _,Nat.le_refl _⟩
 gi_wp2_with (refine⟨trivial,?_⟩;gi_at_call 23;refine (callsIn_wide.2 (sX ha hc hv qo)).mono ?_;rintro e w6 ⟨H1,rfl,ak,Vp,E8,KV⟩;have US:Boxed w6 (w.heap.size+1) 24 (.slice none 0 0):=(KV.block _ (by simp)).trans bR;have ZV:=US.cell;have hf6:=US.frozen)
 have fB:=(US.set (.slice none 0 0)).cell;refine bodyPost_ret (by simp [results,results15,go_sem,fB];rfl) rfl ?_
 have ZW:H1 (w.heap.size+1)=none:=E8 _ (by
  cases hh:H (w.heap.size+1) with
  | none=>rfl
  | some o=>have:=(Array.getElem?_eq_some_iff.1 (hp _ _ hh)).1;omega) (by simp)
 refine⟨H1,rfl,ak,fun b o hb=>?_,fun b h1 h2=>E8 b h1 (by simp;omega),⟨((yB.toBelow.trans (KV.toBelow.mono (by simp;omega))).setCell (by simp) _),Nat.le_trans yB.drawn KV.drawn⟩⟩
 have SN:b≠w.heap.size+1:=fun e=>by rw[e,ZW]at hb;cases hb
 exact (Below.heap_setCell _ _ _ _ SN).trans (Vp b o hb)
set_option maxRecDepth 100000 in
set_option maxHeartbeats 4000000 in
theorem P4 {p:Prog} (SO:p.length≤12) (he:al p=0) {a:Option Addr} {n c:Nat} {H:Hp} (ha:RL H a n c p) (hT:pC H) {w:World} (hp:∀b o,H b=some o→w.heap[b]?=some o):
  CallsIn Fence.wide 4 prog 15 #[.agg #[.slice a n c]] w fun e w'=>∃m a1 n1 c1 H',e = .returned (.tuple #[.agg #[.slice a1 n1 c1],.int .i64 0])∧mZ p m∧RL H' a1 n1 c1 m∧Le H H'∧(∀b o,H' b=some o→w'.heap[b]?=some o)∧(∀b,H b=none→b<w.heap.size→H' b=none)∧fx w.heap.size w w':=by
 obtain⟨hc,hv,hl⟩:=eG he SO;refine callsIn_of_wp func15 rfl trivial ?_ rfl;simp only[ntmps15,List.size_toArray,List.length_cons,List.length_nil,Nat.reduceAdd,Nat.reduceSub,Array.replicate_succ,Array.replicate_zero,List.push_toArray,List.append_toArray,List.nil_append,List.cons_append]
 have qo:∀b o,H b=some o→((w.alloc (.cells #[.slice a n c] 24)).alloc (.cells #[.slice none 0 0] 24)).heap[b]?=some o:=fun b o hb=>by
  have e:=hp b o hb;have aj:=(Array.getElem?_eq_some_iff.1 e).1
  rw[Below.heap_alloc _ _ _ (by simp;omega),Below.heap_alloc _ _ _ aj];exact e
 have bP:=(Boxed.new w 24 (.slice a n c)).alloc (.cells #[.slice none 0 0] 24);have bR:=Boxed.new (w.alloc (.cells #[.slice a n c] 24)) 24 (.slice none 0 0);rw[World.size_alloc]at bR
 have yB:fx w.heap.size w ((w.alloc (.cells #[.slice a n c] 24)).alloc (.cells #[.slice none 0 0] 24)):=⟨((Below.refl _ w).alloc (Nat.le_refl _) _).alloc (by simp) _,Nat.le_refl _⟩
 have X2:=sX ha hc hv qo;rw[he]at X2
 gi_wp2_with (refine⟨trivial,?_⟩;gi_at_call 23;refine (callsIn_wide.2 X2).mono ?_;rintro e w6 ⟨H1,rfl,ak,Vp,E8,KV⟩;have US:Boxed w6 (w.heap.size+1) 24 (.slice none 0 0):=(KV.block _ (by simp)).trans bR;have ZX:Boxed w6 w.heap.size 24 (.slice a n c):=(KV.block _ (by simp;omega)).trans bP;have ZV:=ZX.cell)
 have ZY:∀b,w.heap.size≤b→b<w.heap.size+2→H1 b=none:=fun b h1 h2=>E8 b (by
  cases hh:H b with
  | none=>rfl
  | some o=>have:=(Array.getElem?_eq_some_iff.1 (hp _ _ hh)).1;omega) (by simp;omega)
 have ZZ:w.heap.size+2≤w6.heap.size:=by have:=KV.size;simpa using this
 have Z0:∀b,w6.heap.size≤b→H1 b=none:=fun b h1=>by
  cases hh:H1 b with
  | none=>rfl
  | some o=>have:=(Array.getElem?_eq_some_iff.1 (Vp _ _ hh)).1;omega
 generalize QL:(w6.alloc (Obj.cells #[Value.slice a n c] 84)).alloc (Obj.cells
    #[Value.func (Fn.func 38) #[Value.pointer (some { block:=w6.heap.size,off:=0 })] #[],
     Value.func (Fn.func 39) #[Value.pointer (some { block:=w6.heap.size,off:=0 })] #[],
     Value.func (Fn.func 40) #[Value.pointer (some { block:=w6.heap.size,off:=0 })] #[],
     Value.func (Fn.func 41) #[Value.pointer (some { block:=w6.heap.size,off:=0 })] #[]]
    1)=w8
 gi_loopw [27] (fun i wr=>∃(k:Nat) (q:Prog) (a1:Option Addr) (n1 c1:Nat) (H':Hp),k≤4∧i = .int .i64 k∧j8 p k q∧RL H' a1 n1 c1 q∧Le H1 H'∧wr.heap[w6.heap.size]?=some (.cells #[.slice a1 n1 c1] 84)∧UR H1 H' w6 w8 wr)
  (fun i _=>4 - (intOf i).toNat)
 case atStart =>
  have Z1:w8.heap.size=w6.heap.size+2:=by rw[←QL];simp
  have P5:∀b,b<w6.heap.size→w8.heap[b]?=w6.heap[b]?:=fun b hb=>by rw[←QL,Below.heap_alloc _ _ _ (by simp;omega),Below.heap_alloc _ _ _ hb]
  refine⟨0,p,a,n,c,H1,Nat.zero_le _,rfl,rfl,ha.up ak,Le.refl H1,?_,fun b o hb=>?_,Z0 _ (Nat.le_refl _),fun b h1 _=>h1,fun _ _ _=>rfl,Nat.le_of_eq Z1.symm,by rw[←QL];rfl,by rw[←QL];rfl,by rw[←QL];exact⟨rfl,Nat.le_refl _⟩⟩
  ·rw[←QL];exact ((Boxed.new w6 84 (.slice a n c)).alloc _)
  ·have h1:=Vp b o hb;rw[P5 b (Array.getElem?_eq_some_iff.1 h1).1];exact h1
 case round =>
  obtain⟨k,q,a1,n1,c1,H2,hk,rfl,hQ,hr,ah,tm,hh⟩:=hrel
  have Z2:w8.heap[w6.heap.size+1]?=some (Obj.cells
    #[Value.func (Fn.func 38) #[Value.pointer (some { block:=w6.heap.size,off:=0 })] #[],
     Value.func (Fn.func 39) #[Value.pointer (some { block:=w6.heap.size,off:=0 })] #[],
     Value.func (Fn.func 40) #[Value.pointer (some { block:=w6.heap.size,off:=0 })] #[],
     Value.func (Fn.func 41) #[Value.pointer (some { block:=w6.heap.size,off:=0 })] #[]]
    1):=by
   rw[←QL]
   have:=World.alloc_heap_new (w6.alloc (Obj.cells #[Value.slice a n c] 84)) (Obj.cells
    #[Value.func (Fn.func 38) #[Value.pointer (some { block:=w6.heap.size,off:=0 })] #[],
     Value.func (Fn.func 39) #[Value.pointer (some { block:=w6.heap.size,off:=0 })] #[],
     Value.func (Fn.func 40) #[Value.pointer (some { block:=w6.heap.size,off:=0 })] #[],
     Value.func (Fn.func 41) #[Value.pointer (some { block:=w6.heap.size,off:=0 })] #[]]
    1)
   rw[World.size_alloc]at this;exact this
  have Vq:=(hh.frame (w6.heap.size+1) (by omega) (by omega)).trans Z2;have hg:=Hv he hQ
  have P6:q.length≤12:=by omega
  have Z3:=hT.up (ak.trans ah)
  have Z4:w6.heap.size<wr.heap.size:=by have:=hh.size;omega
  have next:∀ {f:FuncId} {Q:Prog→Prop},me f H2 a1 n1 c1 Q→k<4→(∀q2,Q q2→j8 p (k+1) q2)→Calls prog f #[.pointer (some ⟨w6.heap.size,0,none⟩)] wr fun e w9=>e = .returned (.tuple #[])∧∃q2 a2 n2 c2 H3,k+1≤4∧j8 p (k+1) q2∧RL H3 a2 n2 c2 q2∧Le H1 H3∧w9.heap[w6.heap.size]?=some (.cells #[.slice a2 n2 c2] 84)∧UR H1 H3 w6 w8 w9:=fun {f Q} hs Z5 Z6=>by
   refine (ES hs hh.hp tm hh.own).mono ?_;rintro e w9 ⟨e1,q2,a2,n2,c2,H3,g1,g2,g3,g4,g5,g6,g7,g8,g9,g10,g11,g12⟩;refine⟨e1,q2,a2,n2,c2,H3,Z5,Z6 q2 g1,g2,ah.trans g3,g6,g4,g5,fun b h1 h2=>g7 b (hh.new b h1 h2) (by omega),fun b h1 h2=>(g8 b (by have:=hh.size;omega) h2).trans (hh.frame b h1 h2),Nat.le_trans hh.size g9,g10.trans hh.os,g11.trans hh.tape,hh.od.trans g12⟩
  rcases k with _ | _ | _ | _ | _ | k
  ·have hc:=sY (H:=fun b=>if b=w6.heap.size+1 then wr.heap[b]? else none) (W:=wr) (fun b o hb=>by split at hb;exact hb;cases hb) (b:=w6.heap.size+1) (by rw[if_pos rfl];exact Vq) 0 _ rfl
   gi_wp2_with (refine⟨trivial,?_⟩;gi_at_call 38;refine (callsIn_wide.2 (next (ER P6 hg.1 hr) (by omega) fun q2 h=>oc.1 hQ h)).mono ?_;rintro e w9 ⟨rfl,q2,a2,n2,c2,H3,g0,g1,g2,g3,g4,g5⟩)
   exact⟨⟨1,q2,a2,n2,c2,H3,g0,rfl,g1,g2,g3,g4,g5⟩,by simp only[intOf];omega⟩
  ·have hc:=sY (H:=fun b=>if b=w6.heap.size+1 then wr.heap[b]? else none) (W:=wr) (fun b o hb=>by split at hb;exact hb;cases hb) (b:=w6.heap.size+1) (by rw[if_pos rfl];exact Vq) 1 _ rfl
   gi_wp2_with (refine⟨trivial,?_⟩;gi_at_call 39;refine (callsIn_wide.2 (next (BU P6 hg.1 hr) (by omega) fun q2 h=>oc.2.1 hQ h)).mono ?_;rintro e w9 ⟨rfl,q2,a2,n2,c2,H3,g0,g1,g2,g3,g4,g5⟩)
   exact⟨⟨2,q2,a2,n2,c2,H3,g0,rfl,g1,g2,g3,g4,g5⟩,by simp only[intOf];omega⟩
  ·have hc:=sY (H:=fun b=>if b=w6.heap.size+1 then wr.heap[b]? else none) (W:=wr) (fun b o hb=>by split at hb;exact hb;cases hb) (b:=w6.heap.size+1) (by rw[if_pos rfl];exact Vq) 2 _ rfl
   gi_wp2_with (refine⟨trivial,?_⟩;gi_at_call 40;refine (callsIn_wide.2 (next (BV P6 hg.1 hr Z3) (by omega) fun q2 h=>oc.2.2.1 hQ h)).mono ?_;rintro e w9 ⟨rfl,q2,a2,n2,c2,H3,g0,g1,g2,g3,g4,g5⟩)
   exact⟨⟨3,q2,a2,n2,c2,H3,g0,rfl,g1,g2,g3,g4,g5⟩,by simp only[intOf];omega⟩
  ·have hc:=sY (H:=fun b=>if b=w6.heap.size+1 then wr.heap[b]? else none) (W:=wr) (fun b o hb=>by split at hb;exact hb;cases hb) (b:=w6.heap.size+1) (by rw[if_pos rfl];exact Vq) 3 _ rfl
   gi_wp2_with (refine⟨trivial,?_⟩;gi_at_call 41;refine (callsIn_wide.2 (next (BW P6 hg.1 hr) (by omega) fun q2 h=>oc.2.2.2 hQ h)).mono ?_;rintro e w9 ⟨rfl,q2,a2,n2,c2,H3,g0,g1,g2,g3,g4,g5⟩)
   exact⟨⟨4,q2,a2,n2,c2,H3,g0,rfl,g1,g2,g3,g4,g5⟩,by simp only[intOf];omega⟩
  ·have bX:Boxed wr w6.heap.size 84 (.slice a1 n1 c1):=tm;have hcX:=bX.cell
   have P5:∀b,b<w6.heap.size→w8.heap[b]?=w6.heap[b]?:=fun b hb=>by rw[←QL,Below.heap_alloc _ _ _ (by simp;omega),Below.heap_alloc _ _ _ hb]
   have Xa:Boxed wr (w.heap.size+1) 24 (.slice none 0 0):=((hh.frame (w.heap.size+1) (by omega) (by omega)).trans (P5 _ (by omega))).trans US;have hcR:=Xa.cell;have hfR:=Xa.frozen;gi_wp2;have fB:=(Xa.set (.slice a1 n1 c1)).cell;refine bodyPost_ret (by simp [results,results15,go_sem,fB];rfl) rfl ?_;have hO:mZ p q:=hQ;have Z7:H2 (w.heap.size+1)=none:=hh.new _ (ZY _ (by omega) (by omega)) (by omega);refine⟨q,a1,n1,c1,H2,rfl,hO,hr,ak.trans ah,fun b o hb=>?_,fun b h1 h2=>hh.new b (E8 b h1 (by simp;omega)) (by omega),⟨Below.setCell ⟨hh.os.trans (KV.os.trans yB.os),hh.tape.trans (KV.tape.trans yB.tape),hh.od.1.trans (KV.output.trans yB.output),by have:=hh.size;omega,fun b hb=>?_⟩ (by simp) _,Nat.le_trans (Nat.le_trans yB.drawn KV.drawn) hh.od.2⟩⟩
   ·have SN:b≠w.heap.size+1:=fun e=>by rw[e,Z7]at hb;cases hb
    exact (Below.heap_setCell _ _ _ _ SN).trans (hh.hp b o hb)
   ·rw[hh.frame b (by omega) (by omega),P5 b (by omega),KV.block b (by simp;omega)];exact yB.block b hb
  ·omega
theorem oe {p:Prog} (SO:p.length≤12) (hc:aw p≤1000000) (hv:iE p<400000) {a:Option Addr} {n c:Nat} {H:Hp} {K:Value→Hp→Prop} (ha:RL H a n c p) (hT:pC H)
  (fK:al p≠0→∀H',Le H H'→K (.tuple #[.agg #[.slice none 0 0],.int .i64 (al p)]) H')
  (hK:al p=0→∀m a1 n1 c1 H',Le H H'→mZ p m→RL H' a1 n1 c1 m→K (.tuple #[.agg #[.slice a1 n1 c1],.int .i64 0]) H'):aq prog 15 [.agg #[.slice a n c]] H K:=by
 refine⟨call15,fun w hp=>?_⟩
 by_cases he:al p=0
 ·refine (callsIn_wide.1 (P4 SO he ha hT hp)).mono ?_;rintro e w' ⟨m,a1,n1,c1,H',rfl,h1,h2,h3,h4,h5,h6⟩;exact⟨_,H',rfl,hK he m a1 n1 c1 H' h3 h1 h2,h3,h4,h5,h6⟩
 ·refine (callsIn_wide.1 (NQ hc hv he ha hp)).mono ?_;rintro e w' ⟨H',rfl,h3,h4,h5,h6⟩;exact⟨_,H',rfl,fK he H' h3,h3,h4,h5,h6⟩
end Go.Proofs
end
section
namespace Go.Proofs
open Go.Sy
open Tryz
theorem uf {k:Nat} {p q w:Prog} {n:Nat} (h:mZ p q) (cu:¬p=q) (hT:kg k q w n):kg (k+1) p w (n+1):=.step h cu hT
theorem yg {p:Prog} (hp:p.length≤12) (hl:∀b∈p,b.2.1.length≤100000) (hc:aw p≤1000000) (hv:iE p<400000) {most:Int} (Ut:most≤1000) {a:Option Addr} {n c:Nat} {H:Hp} {K:Value→Hp→Prop} (ha:RL H a n c p) (hT:pC H)
  (fK:al p≠0→∀H',Le H H'→K (.tuple #[.agg #[.slice none 0 0],.int .i64 0,.int .i64 (al p)]) H')
  (hK:al p=0→∀w x a1 n1 c1 H',Le H H'→kg most.toNat p w x→RL H' a1 n1 c1 w→K (.tuple #[.agg #[.slice a1 n1 c1],.int .i64 (x:Nat),.int .i64 0]) H'):aq prog 16 [.agg #[.slice a n c],.int .i64 most] H K:=by
 have vi:∀b∈p,b.2.1.length≤1000000:=fun b hb=>Nat.le_trans (hl b hb) (by decide)
 obtain⟨M,hM⟩:∃M:Nat,M=most.toNat:=⟨_,rfl⟩
 rw[←hM]at hK
 have U4:min (max most 0) 4096=(M:Int):=by omega
 have Wr:M≤1000:=by omega
 refine ab af aa rfl func16 call16 ntmps16 results16 rfl rfl ?_
 by_cases he:al p=0
 ·refine .inr ⟨Prog×(Option Addr×Nat×Nat)×Nat,fun _=>0,fun z=>⟨[(1,.v (.int .i64 (min (max most 0) 4096))),(2,.ptr 0 0),(4,.ptr 1 0),(8,.v (.int .i64 z.2.2))],[(0,.cells 24 [.v (.slice z.2.1.1 z.2.1.2.1 z.2.1.2.2)]),(1,.cells 24 [.v (.slice none 0 0)])],2⟩,
   fun z H'=>Le H H'∧RL H' z.2.1.1 z.2.1.2.1 z.2.1.2.2 z.1∧al z.1=0∧z.1.length≤12∧z.2.2≤M∧∀w x,kg (M - z.2.2) z.1 w x→kg M p w (x+z.2.2),fun z=>M - z.2.2,?_,?_⟩
  ·refine eL ha hc hv fun _ _=>?_
   refine⟨fun h=>absurd he (nt h),fun _=>?_⟩
   refine oV (by omega) vi ha fun v css H3 H1 az bf ak B3=>?_
   obtain⟨a1,n1,c1,rfl,hr⟩:=RL.aC (α:=Block) B3 (bf.up ak.le);have hle:Le H H1:=az.trans ak.le;have heq:=he;have hq:=hp;have LN:=hc;have PX:=hv
   have hW:∀w x,kg (M - 0) p w x→kg M p w (x+0):=fun w x h=>h
   refine oe hq LN PX hr (hT.up hle) (fun hb=>absurd heq hb) fun _ m a2 n2 c2 H2 ah hO bj=>?_
   have QM:=sW heq hO;have NR:m.length≤12:=Nat.le_trans QM.len hq;have jV:=hle.trans ah;refine⟨fun h=>?_,fun h=>?_⟩
   ·have aj:0<M:=by have:=dt h; omega
    refine lL (hr.up ah) bj ?_;refine⟨fun h=>?_,fun h=>?_⟩
    ·have cu:¬p=m:=nt h;refine⟨⟨by  omega,by  omega⟩,?_⟩;refine⟨(m,(a2,n2,c2),0+1),[(0,0),(1,1)],rfl,?_,⟨jV,bj,QM.vq,NR,aj,fun w x hx=>?_⟩⟩
     ·(repeat' first|exact trivial|refine⟨?_,?_⟩|exact rfl|assumption)
     ·have e:M - 0=M - (0+1)+1:=by omega
      have hx:=hW w (x+1) (by rw[e];exact uf hO cu hx);rwa[Nat.add_assoc,Nat.add_comm 1]at hx
    ·have yc:p=m:=nf h
     have e:M - 0=M - (0+1)+1:=by omega
     have hx:=hW p 0 (by rw[e];exact .same (by rw[←yc]at hO;exact hO));rw[Nat.zero_add]at hx;exact hK he _ _ _ _ _ _ jV hx (hr.up ah)
   ·have vu:¬0<M:=by have:=df h; omega
    have hx:=hW p 0 (by rw[show M - 0=0 by omega];exact .out _);rw[Nat.zero_add]at hx;exact hK he _ _ _ _ _ _ jV hx (hr.up ah)
  ·rintro⟨q,⟨a1,n1,c1⟩,k⟩ H1 _ ⟨hle,hr,heq,hq,vz,hW⟩;dsimp only at hr heq hq vz hW;obtain⟨LN,PX,F9⟩:=eG heq hq
   refine oe hq LN PX hr (hT.up hle) (fun hb=>absurd heq hb) fun _ m a2 n2 c2 H2 ah hO bj=>?_
   have QM:=sW heq hO;have NR:m.length≤12:=Nat.le_trans QM.len hq;have jV:=hle.trans ah;refine⟨fun h=>?_,fun h=>?_⟩
   ·have aj:k<M:=by have:=dt h;dsimp only at this;omega
    refine lL (hr.up ah) bj ?_;refine⟨fun h=>?_,fun h=>?_⟩
    ·have cu:¬q=m:=nt h;refine⟨⟨by dsimp only;omega,by dsimp only;omega⟩,?_⟩;refine⟨(m,(a2,n2,c2),k+1),[(0,0),(1,1)],rfl,?_,⟨jV,bj,QM.vq,NR,aj,fun w x hx=>?_⟩,by dsimp only;omega⟩
     ·(repeat' first|exact trivial|refine⟨?_,?_⟩|exact rfl|assumption)
     ·have e:M - k=M - (k+1)+1:=by omega
      have hx:=hW w (x+1) (by rw[e];exact uf hO cu hx);rwa[Nat.add_assoc,Nat.add_comm 1]at hx
    ·have yc:q=m:=nf h
     have e:M - k=M - (k+1)+1:=by omega
     have hx:=hW q 0 (by rw[e];exact .same (by rw[←yc]at hO;exact hO));rw[Nat.zero_add]at hx;exact hK he _ _ _ _ _ _ jV hx (hr.up ah)
   ·have vu:¬k<M:=by have:=df h;dsimp only at this;omega
    have hx:=hW q 0 (by rw[show M - k=0 by omega];exact .out _);rw[Nat.zero_add]at hx;exact hK he _ _ _ _ _ _ jV hx (hr.up ah)
 ·refine .inl ⟨0,?_⟩
  refine eL ha hc hv fun _ _=>?_
  refine⟨fun _=>?_,fun h=>absurd (nf h) he⟩;exact fK he H (Le.refl H)
end Go.Proofs
end
section
namespace Go.Proofs
open Go.Sy
open Tryz
def KN:Stmt:=(1,⟨[120]⟩,(0,(⟨[]⟩,1,0),(⟨[]⟩,0,0)))
def P7:Stmt:=(1,⟨[121]⟩,(0,(⟨[120]⟩,0,0),(⟨[]⟩,0,0)))
def P8:Stmt:=(3,⟨[]⟩,(0,(⟨[121]⟩,0,0),(⟨[]⟩,0,0)))
def Hw:Stmt:=(3,⟨[]⟩,(0,(⟨[]⟩,1,0),(⟨[]⟩,0,0)))
def N7 (l:List Stmt):Block:=(⟨[97]⟩,l,(3,za,⟨[]⟩,⟨[]⟩))
def EX:Prog:=[N7 [KN,P7,P8]]
theorem P9:al EX=0:=by decide +kernel
def UT:Stmt:=(1,⟨[121]⟩,(0,(⟨[]⟩,1,0),(⟨[]⟩,0,0)))
theorem SP:bQ EX=[N7 [KN,UT,Hw]]:=by decide +kernel
theorem Qa:(cJ [N7 [KN,UT,Hw]]).1=[N7 [Hw]]:=by decide +kernel
theorem SQ:ja [N7 [Hw]]=none:=by decide +kernel
theorem yh {b:Block} {r:Prog} (he:mD b=b) (h:yb [b] r):r=[b]:=by
 obtain⟨R,_,hR,rfl⟩:=h;have h0:(0:Int)∈R:=hR.sj 0 (by simp) (decide_eq_true (by simp))
 have e:aP [b]=[b]:=by show [mD b]=[b];rw[he]
 rw[e]
 exact Ku fun k hk=>by
  have:k=0:=by simpa using hk
  rw[this];exact h0
theorem NS (l:List Stmt):mD (N7 l)=N7 l:=rfl
theorem SR {m:Prog} (h:mZ EX m):m=[N7 [Hw]]:=by
 obtain⟨q,hq,hm⟩:=h;rw[SP]at hq;rw[yh (NS _) hq,Qa]at hm;obtain⟨q2,E0,hM⟩:=hm;rw[yh (NS _) E0]at hM;exact (hM.one (.stop SQ))
theorem SS:fl KN:=⟨⟨by decide,by decide⟩,Nat.le_of_lt_succ (by decide),⟨by decide,by decide⟩,⟨Nat.zero_le _,⟨by decide,by decide⟩,iV⟩,⟨Nat.zero_le _,iV,iV⟩⟩
theorem SU:fl P7:=⟨⟨by decide,by decide⟩,Nat.le_of_lt_succ (by decide),⟨by decide,by decide⟩,⟨Nat.le_of_lt_succ (by decide),iV,iV⟩,⟨Nat.zero_le _,iV,iV⟩⟩
theorem SX:fl P8:=⟨⟨by decide,by decide⟩,Nat.zero_le _,⟨by decide,by decide⟩,⟨Nat.le_of_lt_succ (by decide),iV,iV⟩,⟨Nat.zero_le _,iV,iV⟩⟩
theorem BZ {H:Hp} {K:Value→Hp→Prop} (hT:pC H) (hK:∀H',Le H H'→K (.bool true) H'):aq prog 14 [] H K:=by
 refine ab af aa rfl func14 call14 ntmps14 results14 rfl rfl ?_;intro x2 H2 ah L4
 refine bZ (α:=Stmt) L4 (show RC (α:=Stmt) H2 _ [KN,P7,P8] from ((RC.nil.snoc (yf SS)).snoc (yf SU)).snoc (yf SX)) fun sb sm sd Z8 bj=>?_
 subst Z8;intro y H3 az hy
 refine bZ (α:=Block) hy (show RC (α:=Block) H3 _ EX from RC.nil.snoc (dD (b:=N7 [KN,P7,P8]) (bj.up az.le) (Nat.le_of_lt_succ (by decide)) ⟨⟨by decide,by decide⟩,RR,Nat.zero_le _,Nat.zero_le _⟩)) fun a n c ey hr=>?_
 subst ey;have hle:=ah.le.trans az.le
 refine oe (p:=EX) (by decide) (by decide) (by decide) hr (hT.up hle) (fun he=>absurd P9 he) fun he m a1 n1 c1 H4 aN hO fm=>?_
 rw[SR hO]at fm;have dd:=fm.aB;have dd:n1=1:=dd;subst dd;refine⟨fun _=>?_,fun h=>absurd rfl (df h)⟩;refine⟨fun _=>?_,fun h=>absurd rfl (df h)⟩
 refine bF fm (i:=0) (x:=N7 [Hw]) rfl fun ad a5 n5 c5 q1 hh ct xw vR=>?_
 have xl:=ct.aB;have xl:n5=1:=xl;subst xl;refine⟨ad,⟨by omega,by omega,q1⟩,?_⟩;refine⟨_,hh,?_⟩;refine⟨fun _=>?_,fun h=>absurd rfl (df h)⟩
 refine du ct (i:=0) (x:=Hw) rfl fun iy q2 gj _=>?_
 refine⟨ad,⟨by omega,by omega,q1⟩,?_⟩;refine⟨_,hh,?_⟩;refine⟨iy,⟨by omega,by omega,q2⟩,?_⟩;refine⟨_,gj,?_⟩;exact aA (hK _ (hle.trans aN)) (by decide)
end Go.Proofs
end
section
namespace Go.Proofs
open Go.Sy
open Tryz
variable {H:Hp} {K:Value→Hp→Prop}
theorem EY {p:Prog} (he:al p=0) (hp:p.length≤12) {a:Option Addr} {n c:Nat} (ha:RL H a n c p)
  (hK:∀a1 n1 c1 H',Le H H'→RL H' a1 n1 c1 (cJ p).1→K (.tuple #[.agg #[.slice a1 n1 c1],.int .i64 ((cJ p).2:Nat)]) H'):aq prog 42 [.agg #[.slice a n c]] H K:=by
 have h5:=fR he;refine ab af aa rfl func42 call42 ntmps42 results42 rfl rfl ?_
 refine⟨Prog×(Option Addr×Nat×Nat)×Nat,fun z=>⟨[(1,.ptr 0 0),(2,.ptr 1 0),(4,.v (.int .i64 z.2.2)),(5,.v (.int .i64 z.2.2))],[(0,.cells 24 [.v (.slice z.2.1.1 z.2.1.2.1 z.2.1.2.2)]),(1,.cells 24 [.v (.slice none 0 0)])],2⟩,
  fun z H'=>Le H H'∧RL H' z.2.1.1 z.2.1.2.1 z.2.1.2.2 z.1∧al z.1=0∧z.1.length≤12∧z.2.2+aw z.1≤aw p∧cJ p=((cJ z.1).1,(cJ z.1).2+z.2.2),fun z=>aw z.1,⟨(p,(a,n,c),0),[(0,0),(1,1)],?_,Le.refl H,ha,he,hp,by dsimp only;omega,rfl⟩,?_⟩
 ·(repeat' first|exact trivial|refine⟨?_,?_⟩|exact rfl|assumption)
 rintro⟨q,⟨a1,n1,c1⟩,k⟩ H1 _ ⟨hle,hr,heq,hq,vz,hW⟩;dsimp only at hr heq hq vz hW;obtain⟨LN,PX,F9⟩:=eG heq hq;refine⟨fun h=>?_,fun h=>?_⟩
 ·refine EW heq hq F9 PX hr fun a2 n2 c2 H2 ah bj=>?_
  have Tg:=lM heq
  have E0:(aS q).length≤12:=by rw[dJ];exact hq
  obtain⟨Xb,_,_⟩:=eG Tg E0;refine⟨some ([],[0,2,1,3,4]),by kernel_rfl,?_⟩;refine oU bj Xb ?_;refine oU (hr.up ah) LN ?_;refine⟨fun h=>?_,fun h=>?_⟩
  ·have yc:aS q=q:=(nZ q).2 (by have:=dt h;omega)
   have e:cJ p=(q,k):=by rw[hW,jS yc];first | done | exact Prod.ext rfl (Nat.zero_add _)
   rw[e]at hK;exact hK _ _ _ _ (hle.trans ah) (hr.up ah)
  ·have cu:¬aS q=q:=fun e=>df h (by rw[e])
   have aj:=fS cu;have bc:=lN cu;refine⟨⟨by dsimp only;omega,by dsimp only;omega⟩,?_⟩;refine⟨⟨by dsimp only;omega,by dsimp only;omega⟩,(aS q,(a2,n2,c2),k+1),[(0,0),(1,1)],?_,⟨hle.trans ah,bj,Tg,E0,by dsimp only;omega,by rw[hW,bc];exact Prod.ext rfl (by dsimp only;try omega)⟩,by dsimp only;omega⟩
   (repeat' first|exact trivial|refine⟨?_,?_⟩|exact rfl|assumption)
 ·have:=df h;dsimp only at this;omega
theorem KO {p:Prog} (hp:p.length≤12) {a:Option Addr} {n c:Nat} (ha:RL H a n c p)
  (hK:∀q a1 n1 c1 H',Le H H'→yb p q→RL H' a1 n1 c1 q→K (.agg #[.slice a1 n1 c1]) H'):aq prog 43 [.agg #[.slice a n c]] H K:=by
 refine xx hp ha fun a1 n1 c1 R H1 ak hS hR bh=>?_
 have e2:cm (aP p) R p.length=mG (aP p) R:=by
  have:=DI (q:=aP p) hS (fun x hx=>by rw[cB];exact dt (hR.node x hx));rwa[cB]at this
 rw[←e2]at bh;exact hK _ _ _ _ _ ak ⟨R,hS,hR,rfl⟩ bh
theorem yi {p:Prog} (he:al p=0) (hp:p.length≤12) {a:Option Addr} {n c:Nat} (ha:RL H a n c p)
  (hK:∀m a1 n1 c1 H',Le H H'→mZ p m→RL H' a1 n1 c1 m→K (.agg #[.slice a1 n1 c1]) H'):aq prog 19 [.agg #[.slice a n c]] H K:=by
 obtain⟨hc,hv,hl⟩:=eG he hp;refine ab af aa rfl func19 call19 ntmps19 results19 rfl rfl ?_
 refine GN hp (fun b hb=>Nat.le_trans (hl b hb) (by decide)) hv he ha fun a1 n1 c1 H1 ak bh=>?_
 have rC:=jT he;have qo:(bQ p).length≤12:=Nat.le_trans rC.len hp
 refine KO qo bh fun q a2 n2 c2 H2 ah hP bj=>?_
 have rB:=(sV rC.vq hP).1;have UW:q.length≤12:=Nat.le_trans rB.len qo
 refine EY rB.vq UW bj fun a3 n3 c3 H3 az db=>?_
 have S5:=ue rB.vq;have X3:(cJ q).1.length≤12:=Nat.le_trans S5.len UW;obtain⟨VW,yl,Ts⟩:=eG S5.vq X3
 refine DS X3 VW db fun a4 n4 c4 R r H4 aN hS hR hM fm=>?_
 exact hK r _ _ _ _ (ak.trans (ah.trans (az.trans aN))) ⟨q,hP,_,⟨R,hS,hR,rfl⟩,hM⟩ fm
theorem Hy {p:Prog} (he:al p=0) (hp:p.length≤12) {most:Int} (Ut:most≤1000) {a:Option Addr} {n c:Nat} (ha:RL H a n c p)
  (hK:∀w x a1 n1 c1 H',Le H H'→kg most.toNat p w x→RL H' a1 n1 c1 w→K (.tuple #[.agg #[.slice a1 n1 c1],.int .i64 (x:Nat)]) H'):aq prog 17 [.agg #[.slice a n c],.int .i64 most] H K:=by
 obtain⟨M,hM⟩:∃M:Nat,M=most.toNat:=⟨_,rfl⟩
 rw[←hM]at hK
 have U4:max most 0=(M:Int):=by omega
 refine ab af aa rfl func17 call17 ntmps17 results17 rfl rfl ?_
 refine⟨Prog×(Option Addr×Nat×Nat)×Nat,fun z=>⟨[(1,.v (.int .i64 most)),(2,.ptr 0 0),(4,.ptr 1 0),(6,.v (.int .i64 z.2.2))],[(0,.cells 24 [.v (.slice z.2.1.1 z.2.1.2.1 z.2.1.2.2)]),(1,.cells 24 [.v (.slice none 0 0)])],2⟩,
  fun z H'=>Le H H'∧RL H' z.2.1.1 z.2.1.2.1 z.2.1.2.2 z.1∧al z.1=0∧z.1.length≤12∧z.2.2≤M∧∀w x,kg (M - z.2.2) z.1 w x→kg M p w (x+z.2.2),fun z=>M - z.2.2,⟨(p,(a,n,c),0),[(0,0),(1,1)],?_,Le.refl H,ha,he,hp,Nat.zero_le _,fun w x h=>h⟩,?_⟩
 ·(repeat' first|exact trivial|refine⟨?_,?_⟩|exact rfl|assumption)
 rintro⟨q,⟨a1,n1,c1⟩,k⟩ H1 _ ⟨hle,hr,heq,hq,vz,hW⟩;dsimp only at hr heq hq vz hW;refine⟨fun h=>?_,fun h=>?_⟩
 ·have aj:k<M:=by have:=dt h;dsimp only at this;omega
  refine yi heq hq hr fun m a2 n2 c2 H2 ah hO bj=>?_
  have QM:=sW heq hO;have NR:m.length≤12:=Nat.le_trans QM.len hq;have jV:=hle.trans ah;refine rl (hr.up ah) bj ?_;refine⟨fun h=>?_,fun h=>?_⟩
  ·have yc:q=m:=dt h
   have e:M - k=M - (k+1)+1:=by omega
   have hx:=hW q 0 (by rw[e];exact .same (by rw[←yc]at hO;exact hO));rw[Nat.zero_add]at hx;exact hK _ _ _ _ _ _ jV hx (hr.up ah)
  ·have cu:¬q=m:=df h;refine⟨⟨by dsimp only;omega,by dsimp only;omega⟩,(m,(a2,n2,c2),k+1),[(0,0),(1,1)],?_,⟨jV,bj,QM.vq,NR,aj,fun w x hx=>?_⟩,by dsimp only;omega⟩
   ·(repeat' first|exact trivial|refine⟨?_,?_⟩|exact rfl|assumption)
   ·have e:M - k=M - (k+1)+1:=by omega
    have hx:=hW w (x+1) (by rw[e];exact uf hO cu hx);rwa[Nat.add_assoc,Nat.add_comm 1]at hx
 ·have vu:¬(k:Int)<most:=by have:=df h;dsimp only at this;exact this
  have hx:=hW q 0 (by rw[show M - k=0 by omega];exact .out _);rw[Nat.zero_add]at hx
  have e:SV.v (.int .i64 (max most 0))=SV.v (.int .i64 (k:Nat)):=by rw[U4];congr 2;omega
  have hf:=hK _ _ _ _ _ _ hle hx hr
  have e2:(k:Int)=max most 0:=by omega
  rw[e2]at hf;exact hf
theorem yj {p:Prog} {most:Int} {a:Option Addr} {n c:Nat} (ha:RL H a n c p) (hT:pC H) (hK:∀H',Le H H'→K (.bool true) H'):aq prog 4 [.agg #[.slice a n c],.int .i64 most] H K:=by
 have hn:=ha.aB;refine ab af aa rfl func4 call4 ntmps4 results4 rfl rfl ?_
 refine BZ hT fun _ _=>?_
 have X4:=hK _ (Le.refl H);refine⟨(fun h=>by cases h),fun _=>?_⟩
 refine Dc ha fun t ht=>?_
 refine⟨fun h=>?f0,fun h=>?t0⟩
 case t0=>exact X4
 have Vr:=ht (by simpa using h);have hp:=Vr.1
 have hl:∀b∈p,b.2.1.length≤100000:=fun b h=>by have:=(Vr.2 b h).1.1;omega
 have hc:aw p≤1000000:=DJ Vr;have hv:iE p<400000:=J4 Vr;refine⟨fun h=>?_,fun h=>?_⟩
 ·exact X4
 refine oe hp hc hv ha hT (fun he H1 ak=>?_) (fun he m a1 n1 c1 H1 ak hO bh=>?_)
 ·refine yg hp hl hc hv (most:=min most 6) (by omega) (ha.up ak) (hT.up ak) (fun _ H2 ah=>?_) (fun y9=>absurd y9 he);have jV:=ak.trans ah
  refine uA (ha.up jV) hc hv fun _ _=>?_
  refine⟨fun _=>?_,fun h=>absurd (nf h) he⟩;refine⟨fun _=>?_,fun h=>absurd rfl (df h)⟩;refine⟨fun _=>?_,fun h=>absurd rfl (df h)⟩;refine⟨⟨by decide,by decide⟩,?_⟩;refine⟨⟨by decide,by decide⟩,?_⟩;exact aA (hK _ jV) rfl
 ·refine yg hp hl hc hv (most:=min most 6) (by omega) (ha.up ak) (hT.up ak) (fun y9=>absurd he y9) fun _ w x a2 n2 c2 H2 ah hN bj=>?_
  have jV:=ak.trans ah
  refine uA (ha.up jV) hc hv fun _ _=>?_
  refine⟨fun h=>absurd he (nt h),fun _=>?_⟩
  refine Hy he hp (most:=min most 6) (by omega) (ha.up jV) fun w2 x2 a3 n3 c3 H3 az Z9 db=>?_
  obtain⟨e1,e2⟩:=KI hN Z9;subst e1;subst e2;have QN:=jV.trans az;refine⟨some ([],[0,1,2,3,4,5,6,7,8,9,10,11,12,13,14,15,16,17,18,19,20,21,22]),by kernel_rfl,?_⟩;refine⟨fun _=>?_,fun h=>absurd rfl (df h)⟩;refine⟨fun _=>?_,fun h=>absurd rfl (df h)⟩;refine⟨fun _=>?_,fun h=>absurd rfl (df h)⟩
  refine yi he hp (ha.up QN) fun m2 a4 n4 c4 H4 aN hO2 fm=>?_
  have e3:=sU hO hO2;subst e3;have X5:=az.trans aN;refine rl (bh.up (ah.trans X5)) fm ?_;refine⟨fun _=>?_,fun h=>absurd rfl (df h)⟩;refine rl (bj.up X5) (db.up aN) ?_;exact aA (hK _ (QN.trans aN)) (decide_eq_true rfl).symm
end Go.Proofs
end
