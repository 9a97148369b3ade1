/- Part 'M34' of the proof (Td5, Td6, Td8): lemmas, each with its own conditions in its own statement. -/
import Derived.Handy
import Derived.LoopIn
import Derived.LoopNIn
import Derived.OwnWalkIn
import Derived.RangeFuncBound
import Derived.RangeFuncCalls
import Derived.RangeFuncLeaves
import Derived.RangeFuncNested
import Derived.Shelf.Abstract
import Derived.Shelf.RegionOpen
import Derived.TacticsInMore
import Derived.WalkKit
import Derived.Test.YtheokcjommfopaaGreatDoorM22
import Derived.Test.YtheokcjommfopaaGreatDoorM31
import Derived.Test.YtheokcjommfopaaGreatDoorM33
section
namespace Go.Proofs
open Go.RowKit Go.Shelf Go.Sy
attribute [local go_sem] Oper.semAt_some
theorem pcheck_calls {p:Prog} {a:Option Addr} {n c:Nat} {H:Hp} (ha:RL H a n c p) (hc:stmtsN p≤1000000) (hv:cnt p<400000) {w:World} (hp:∀b o,H b=some o→w.heap[b]?=some o):
  Calls Tryz.prog 23 #[.agg #[.slice a n c]] w fun e w'=>∃H',e = .returned (.int .i64 (checkE p))∧Le H H'∧(∀b o,H' b=some o→w'.heap[b]?=some o) ∧
   (∀b,H b=none→b<w.heap.size→H' b=none)∧BelowD w.heap.size w w':=by
 have h:Does Tryz.prog 23 [.agg #[.slice a n c]] H (fun v H'=>v = .int .i64 (checkE p)):=pcheck_spec ha hc hv fun H' _=>rfl
 refine (h.2 w hp).mono ?_;rintro e w' ⟨v,H',rfl,rfl,h3,h4,h5,h6⟩;exact⟨H',rfl,h3,h4,h5,h6⟩
theorem cells_hp {H:Hp} {W:World} (h:∀b o,H b=some o→W.heap[b]?=some o) {b:Nat} {cs:Array Value} {T:TypeId} {f:Nat×Nat} (hb:H b=some (.cells cs T f)) (j:Nat) (v:Value) (hj:cs[j]?=some v):W.cell? ⟨b,j,none⟩=some v:=by
 simp [World.cell?,h b _ hb,hj]
def StageQ (p:Prog):Nat→Prog→Prop
 | 0,q=>q=p
 | 1,q=>q=foldP p
 | 2,q=>PruR (foldP p) q
 | 3,q=>∃r,PruR (foldP p) r∧q=(wholeS r).1
 | _,q=>OnceR p q
theorem stage_next {p:Prog} {q r:Prog}:(StageQ p 0 q→r=foldP q→StageQ p 1 r)∧(StageQ p 1 q→PruR q r→StageQ p 2 r)∧(StageQ p 2 q→r=(wholeS q).1→StageQ p 3 r)∧(StageQ p 3 q→MrgR q r→StageQ p 4 r) :=
 ⟨fun h1 h2=>by
  have h1:q=p:=h1
  rw[h2,h1];rfl,fun h1 h2=>by
  have h1:q=foldP p:=h1
  rw[h1]at h2;exact h2,fun h1 h2=>⟨q,h1,h2⟩,fun h1 h2=>by
  obtain⟨x,hx,e⟩:=h1;rw[e]at h2
  exact⟨x,hx,h2⟩⟩
theorem stage_good {p:Prog} (he:checkE p=0) {q:Prog}:∀ {k:Nat},StageQ p k q→checkE q=0∧q.length≤p.length
 | 0,h=>by
  have h:q=p:=h
  rw[h];exact⟨he,Nat.le_refl _⟩
 | 1,h=>by
  have h:q=foldP p:=h
  rw[h];exact⟨(fold_fit he).chk,(fold_fit he).len⟩
 | 2,h=>by
  have h1:=(pru_fit (fold_fit he).chk h).1;exact⟨h1.chk,Nat.le_trans h1.len (fold_fit he).len⟩
 | 3,h=>by
  obtain⟨r,hr,e⟩:=h;have h1:=(pru_fit (fold_fit he).chk hr).1;have h2:=whole_fit h1.chk;rw[e];exact⟨h2.chk,Nat.le_trans h2.len (Nat.le_trans h1.len (fold_fit he).len)⟩
 | k+4,h=>by
  have h1:=once_fit he (show OnceR p q from h);exact⟨h1.chk,h1.len⟩
structure Held (H1 H':Hp) (w6 w8 wr:World):Prop where
 hp:∀b o,H' b=some o→wr.heap[b]?=some o
 own:H' w6.heap.size=none
 new:∀b,H1 b=none→b<w6.heap.size→H' b=none
 frame:∀b,b<w6.heap.size+2→b≠w6.heap.size→wr.heap[b]?=w8.heap[b]?
 size:w6.heap.size+2≤wr.heap.size
 os:wr.os=w6.os
 tape:wr.tape=w6.tape
 od:OD w6 wr
set_option maxRecDepth 100000 in
set_option maxHeartbeats 2000000 in
theorem once_bad {p:Prog} (hc:stmtsN p≤1000000) (hv:cnt p<400000) (he:checkE p≠0) {a:Option Addr} {n c:Nat} {H:Hp} (ha:RL H a n c p) {w:World} (hp:∀b o,H b=some o→w.heap[b]?=some o):
  CallsIn Fence.wide 4 Tryz.prog 15 #[.agg #[.slice a n c]] w fun e w'=>∃H',e = .returned (.tuple #[.agg #[.slice none 0 0],.int .i64 (checkE p)])∧Le H H'∧(∀b o,H' b=some o→w'.heap[b]?=some o)∧(∀b,H b=none→b<w.heap.size→H' b=none)∧BelowD w.heap.size w w':=by
 refine callsIn_of_wp Tryz.func15 rfl trivial ?_ rfl;simp only[Tryz.ntmps15,List.size_toArray,List.length_cons,List.length_nil,Nat.reduceAdd,Nat.reduceSub,Array.replicate_succ,Array.replicate_zero,List.push_toArray,List.append_toArray,List.nil_append,List.cons_append]
 have hp1:∀b o,H b=some o→((w.alloc (.cells #[.slice a n c] 24)).alloc (.cells #[.slice none 0 0] 24)).heap[b]?=some o:=fun b o hb=>by
  have e:=hp b o hb;have hlt:=(Array.getElem?_eq_some_iff.1 e).1
  rw[Below.heap_alloc _ _ _ (by simp;omega),Below.heap_alloc _ _ _ hlt];exact e
 have bR:=Boxed.new (w.alloc (.cells #[.slice a n c] 24)) 24 (.slice none 0 0);rw[World.size_alloc]at bR
 have hB0:BelowD w.heap.size w ((w.alloc (.cells #[.slice a n c] 24)).alloc (.cells #[.slice none 0 0] 24)):=⟨((Below.refl _ w).alloc (Nat.le_refl _) _).alloc (by simp) _,Nat.le_refl _⟩
 gi_wp2_with (refine⟨trivial,?_⟩;gi_at_call 23;refine (callsIn_wide.2 (pcheck_calls ha hc hv hp1)).mono ?_;rintro e w6 ⟨H1,rfl,hle1,hp6,hn6,hB6⟩;have bR6:Boxed w6 (w.heap.size+1) 24 (.slice none 0 0):=(hB6.block _ (by simp)).trans bR;have hc6:=bR6.cell;have hf6:=bR6.frozen)
 have hcs:=(bR6.set (.slice none 0 0)).cell;refine bodyPost_ret (by simp [results,Tryz.results15,go_sem,hcs];rfl) rfl ?_
 have hnS:H1 (w.heap.size+1)=none:=hn6 _ (by
  cases hh:H (w.heap.size+1) with
  | none=>rfl
  | some o=>have:=(Array.getElem?_eq_some_iff.1 (hp _ _ hh)).1;omega) (by simp)
 refine⟨H1,rfl,hle1,fun b o hb=>?_,fun b h1 h2=>hn6 b h1 (by simp;omega),⟨((hB0.toBelow.trans (hB6.toBelow.mono (by simp;omega))).setCell (by simp) _),Nat.le_trans hB0.drawn hB6.drawn⟩⟩
 have hbne:b≠w.heap.size+1:=fun e=>by rw[e,hnS]at hb;cases hb
 exact (Below.heap_setCell _ _ _ _ hbne).trans (hp6 b o hb)
set_option maxRecDepth 100000 in
set_option maxHeartbeats 4000000 in
theorem once_ok {p:Prog} (hp12:p.length≤12) (he:checkE p=0) {a:Option Addr} {n c:Nat} {H:Hp} (ha:RL H a n c p) (hT:TabH H) {w:World} (hp:∀b o,H b=some o→w.heap[b]?=some o):
  CallsIn Fence.wide 4 Tryz.prog 15 #[.agg #[.slice a n c]] w fun e w'=>∃m a1 n1 c1 H',e = .returned (.tuple #[.agg #[.slice a1 n1 c1],.int .i64 0])∧OnceR p m∧RL H' a1 n1 c1 m∧Le H H'∧(∀b o,H' b=some o→w'.heap[b]?=some o)∧(∀b,H b=none→b<w.heap.size→H' b=none)∧BelowD w.heap.size w w':=by
 obtain⟨hc,hv,hl⟩:=check_few he hp12;refine callsIn_of_wp Tryz.func15 rfl trivial ?_ rfl;simp only[Tryz.ntmps15,List.size_toArray,List.length_cons,List.length_nil,Nat.reduceAdd,Nat.reduceSub,Array.replicate_succ,Array.replicate_zero,List.push_toArray,List.append_toArray,List.nil_append,List.cons_append]
 have hp1:∀b o,H b=some o→((w.alloc (.cells #[.slice a n c] 24)).alloc (.cells #[.slice none 0 0] 24)).heap[b]?=some o:=fun b o hb=>by
  have e:=hp b o hb;have hlt:=(Array.getElem?_eq_some_iff.1 e).1
  rw[Below.heap_alloc _ _ _ (by simp;omega),Below.heap_alloc _ _ _ hlt];exact e
 have bP:=(Boxed.new w 24 (.slice a n c)).alloc (.cells #[.slice none 0 0] 24);have bR:=Boxed.new (w.alloc (.cells #[.slice a n c] 24)) 24 (.slice none 0 0);rw[World.size_alloc]at bR
 have hB0:BelowD w.heap.size w ((w.alloc (.cells #[.slice a n c] 24)).alloc (.cells #[.slice none 0 0] 24)):=⟨((Below.refl _ w).alloc (Nat.le_refl _) _).alloc (by simp) _,Nat.le_refl _⟩
 have hpc:=pcheck_calls ha hc hv hp1;rw[he]at hpc
 gi_wp2_with (refine⟨trivial,?_⟩;gi_at_call 23;refine (callsIn_wide.2 hpc).mono ?_;rintro e w6 ⟨H1,rfl,hle1,hp6,hn6,hB6⟩;have bR6:Boxed w6 (w.heap.size+1) 24 (.slice none 0 0):=(hB6.block _ (by simp)).trans bR;have bP6:Boxed w6 w.heap.size 24 (.slice a n c):=(hB6.block _ (by simp;omega)).trans bP;have hc6:=bP6.cell)
 have hnP:∀b,w.heap.size≤b→b<w.heap.size+2→H1 b=none:=fun b h1 h2=>hn6 b (by
  cases hh:H b with
  | none=>rfl
  | some o=>have:=(Array.getElem?_eq_some_iff.1 (hp _ _ hh)).1;omega) (by simp;omega)
 have hge6:w.heap.size+2≤w6.heap.size:=by have:=hB6.size;simpa using this
 have hH6:∀b,w6.heap.size≤b→H1 b=none:=fun b h1=>by
  cases hh:H1 b with
  | none=>rfl
  | some o=>have:=(Array.getElem?_eq_some_iff.1 (hp6 _ _ hh)).1;omega
 generalize hW8:(w6.alloc (Obj.cells #[Value.slice a n c] 84)).alloc (Obj.cells
    #[Value.func (Fn.func 38) #[Value.pointer (some { block:=w6.heap.size,off:=0 })] #[],
     Value.func (Fn.func 39) #[Value.pointer (some { block:=w6.heap.size,off:=0 })] #[],
     Value.func (Fn.func 40) #[Value.pointer (some { block:=w6.heap.size,off:=0 })] #[],
     Value.func (Fn.func 41) #[Value.pointer (some { block:=w6.heap.size,off:=0 })] #[]]
    1)=w8
 gi_loopw [27] (fun i wr=>∃(k:Nat) (q:Prog) (a1:Option Addr) (n1 c1:Nat) (H':Hp),k≤4∧i = .int .i64 k∧StageQ p k q∧RL H' a1 n1 c1 q∧Le H1 H'∧wr.heap[w6.heap.size]?=some (.cells #[.slice a1 n1 c1] 84)∧Held H1 H' w6 w8 wr)
  (fun i _=>4 - (intOf i).toNat)
 case atStart =>
  have h8S:w8.heap.size=w6.heap.size+2:=by rw[←hW8];simp
  have hlow:∀b,b<w6.heap.size→w8.heap[b]?=w6.heap[b]?:=fun b hb=>by rw[←hW8,Below.heap_alloc _ _ _ (by simp;omega),Below.heap_alloc _ _ _ hb]
  refine⟨0,p,a,n,c,H1,Nat.zero_le _,rfl,rfl,ha.up hle1,Le.refl H1,?_,fun b o hb=>?_,hH6 _ (Nat.le_refl _),fun b h1 _=>h1,fun _ _ _=>rfl,Nat.le_of_eq h8S.symm,by rw[←hW8];rfl,by rw[←hW8];rfl,by rw[←hW8];exact⟨rfl,Nat.le_refl _⟩⟩
  ·rw[←hW8];exact ((Boxed.new w6 84 (.slice a n c)).alloc _)
  ·have h1:=hp6 b o hb;rw[hlow b (Array.getElem?_eq_some_iff.1 h1).1];exact h1
 case round =>
  obtain⟨k,q,a1,n1,c1,H2,hk,rfl,hQ,hr,hle2,hbx,hh⟩:=hrel
  have hS8:w8.heap[w6.heap.size+1]?=some (Obj.cells
    #[Value.func (Fn.func 38) #[Value.pointer (some { block:=w6.heap.size,off:=0 })] #[],
     Value.func (Fn.func 39) #[Value.pointer (some { block:=w6.heap.size,off:=0 })] #[],
     Value.func (Fn.func 40) #[Value.pointer (some { block:=w6.heap.size,off:=0 })] #[],
     Value.func (Fn.func 41) #[Value.pointer (some { block:=w6.heap.size,off:=0 })] #[]]
    1):=by
   rw[←hW8]
   have:=World.alloc_heap_new (w6.alloc (Obj.cells #[Value.slice a n c] 84)) (Obj.cells
    #[Value.func (Fn.func 38) #[Value.pointer (some { block:=w6.heap.size,off:=0 })] #[],
     Value.func (Fn.func 39) #[Value.pointer (some { block:=w6.heap.size,off:=0 })] #[],
     Value.func (Fn.func 40) #[Value.pointer (some { block:=w6.heap.size,off:=0 })] #[],
     Value.func (Fn.func 41) #[Value.pointer (some { block:=w6.heap.size,off:=0 })] #[]]
    1)
   rw[World.size_alloc]at this;exact this
  have hSr:=(hh.frame (w6.heap.size+1) (by omega) (by omega)).trans hS8;have hg:=stage_good he hQ
  have hq12:q.length≤12:=by omega
  have hTq:=hT.up (hle1.trans hle2)
  have hlt6:w6.heap.size<wr.heap.size:=by have:=hh.size;omega
  have next:∀ {f:FuncId} {Q:Prog→Prop},StageG f H2 a1 n1 c1 Q→k<4→(∀q2,Q q2→StageQ p (k+1) q2)→Calls Tryz.prog f #[.pointer (some ⟨w6.heap.size,0,none⟩)] wr fun e w9=>e = .returned (.tuple #[])∧∃q2 a2 n2 c2 H3,k+1≤4∧StageQ p (k+1) q2∧RL H3 a2 n2 c2 q2∧Le H1 H3∧w9.heap[w6.heap.size]?=some (.cells #[.slice a2 n2 c2] 84)∧Held H1 H3 w6 w8 w9:=fun {f Q} hs hk4 hQQ=>by
   refine (stage_calls hs hh.hp hbx hh.own).mono ?_;rintro e w9 ⟨e1,q2,a2,n2,c2,H3,g1,g2,g3,g4,g5,g6,g7,g8,g9,g10,g11,g12⟩;refine⟨e1,q2,a2,n2,c2,H3,hk4,hQQ q2 g1,g2,hle2.trans g3,g6,g4,g5,fun b h1 h2=>g7 b (hh.new b h1 h2) (by omega),fun b h1 h2=>(g8 b (by have:=hh.size;omega) h2).trans (hh.frame b h1 h2),Nat.le_trans hh.size g9,g10.trans hh.os,g11.trans hh.tape,hh.od.trans g12⟩
  rcases k with _ | _ | _ | _ | _ | k
  ·have hc:=cells_hp (H:=fun b=>if b=w6.heap.size+1 then wr.heap[b]? else none) (W:=wr) (fun b o hb=>by split at hb;exact hb;cases hb) (b:=w6.heap.size+1) (by rw[if_pos rfl];exact hSr) 0 _ rfl
   gi_wp2_with (refine⟨trivial,?_⟩;gi_at_call 38;refine (callsIn_wide.2 (next (mfold_stage hq12 hg.1 hr) (by omega) fun q2 h=>stage_next.1 hQ h)).mono ?_;rintro e w9 ⟨rfl,q2,a2,n2,c2,H3,g0,g1,g2,g3,g4,g5⟩)
   exact⟨⟨1,q2,a2,n2,c2,H3,g0,rfl,g1,g2,g3,g4,g5⟩,by simp only[intOf];omega⟩
  ·have hc:=cells_hp (H:=fun b=>if b=w6.heap.size+1 then wr.heap[b]? else none) (W:=wr) (fun b o hb=>by split at hb;exact hb;cases hb) (b:=w6.heap.size+1) (by rw[if_pos rfl];exact hSr) 1 _ rfl
   gi_wp2_with (refine⟨trivial,?_⟩;gi_at_call 39;refine (callsIn_wide.2 (next (mprune_stage hq12 hg.1 hr) (by omega) fun q2 h=>stage_next.2.1 hQ h)).mono ?_;rintro e w9 ⟨rfl,q2,a2,n2,c2,H3,g0,g1,g2,g3,g4,g5⟩)
   exact⟨⟨2,q2,a2,n2,c2,H3,g0,rfl,g1,g2,g3,g4,g5⟩,by simp only[intOf];omega⟩
  ·have hc:=cells_hp (H:=fun b=>if b=w6.heap.size+1 then wr.heap[b]? else none) (W:=wr) (fun b o hb=>by split at hb;exact hb;cases hb) (b:=w6.heap.size+1) (by rw[if_pos rfl];exact hSr) 2 _ rfl
   gi_wp2_with (refine⟨trivial,?_⟩;gi_at_call 40;refine (callsIn_wide.2 (next (msweep_stage hq12 hg.1 hr hTq) (by omega) fun q2 h=>stage_next.2.2.1 hQ h)).mono ?_;rintro e w9 ⟨rfl,q2,a2,n2,c2,H3,g0,g1,g2,g3,g4,g5⟩)
   exact⟨⟨3,q2,a2,n2,c2,H3,g0,rfl,g1,g2,g3,g4,g5⟩,by simp only[intOf];omega⟩
  ·have hc:=cells_hp (H:=fun b=>if b=w6.heap.size+1 then wr.heap[b]? else none) (W:=wr) (fun b o hb=>by split at hb;exact hb;cases hb) (b:=w6.heap.size+1) (by rw[if_pos rfl];exact hSr) 3 _ rfl
   gi_wp2_with (refine⟨trivial,?_⟩;gi_at_call 41;refine (callsIn_wide.2 (next (mmerge_stage hq12 hg.1 hr) (by omega) fun q2 h=>stage_next.2.2.2 hQ h)).mono ?_;rintro e w9 ⟨rfl,q2,a2,n2,c2,H3,g0,g1,g2,g3,g4,g5⟩)
   exact⟨⟨4,q2,a2,n2,c2,H3,g0,rfl,g1,g2,g3,g4,g5⟩,by simp only[intOf];omega⟩
  ·have bX:Boxed wr w6.heap.size 84 (.slice a1 n1 c1):=hbx;have hcX:=bX.cell
   have hlow:∀b,b<w6.heap.size→w8.heap[b]?=w6.heap[b]?:=fun b hb=>by rw[←hW8,Below.heap_alloc _ _ _ (by simp;omega),Below.heap_alloc _ _ _ hb]
   have bRr:Boxed wr (w.heap.size+1) 24 (.slice none 0 0):=((hh.frame (w.heap.size+1) (by omega) (by omega)).trans (hlow _ (by omega))).trans bR6;have hcR:=bRr.cell;have hfR:=bRr.frozen;gi_wp2;have hcs:=(bRr.set (.slice a1 n1 c1)).cell;refine bodyPost_ret (by simp [results,Tryz.results15,go_sem,hcs];rfl) rfl ?_;have hO:OnceR p q:=hQ;have hnR:H2 (w.heap.size+1)=none:=hh.new _ (hnP _ (by omega) (by omega)) (by omega);refine⟨q,a1,n1,c1,H2,rfl,hO,hr,hle1.trans hle2,fun b o hb=>?_,fun b h1 h2=>hh.new b (hn6 b h1 (by simp;omega)) (by omega),⟨Below.setCell ⟨hh.os.trans (hB6.os.trans hB0.os),hh.tape.trans (hB6.tape.trans hB0.tape),hh.od.1.trans (hB6.output.trans hB0.output),by have:=hh.size;omega,fun b hb=>?_⟩ (by simp) _,Nat.le_trans (Nat.le_trans hB0.drawn hB6.drawn) hh.od.2⟩⟩
   ·have hbne:b≠w.heap.size+1:=fun e=>by rw[e,hnR]at hb;cases hb
    exact (Below.heap_setCell _ _ _ _ hbne).trans (hh.hp b o hb)
   ·rw[hh.frame b (by omega) (by omega),hlow b (by omega),hB6.block b (by simp;omega)];exact hB0.block b hb
  ·omega
theorem tonce_spec {p:Prog} (hp12:p.length≤12) (hc:stmtsN p≤1000000) (hv:cnt p<400000) {a:Option Addr} {n c:Nat} {H:Hp} {K:Value→Hp→Prop} (ha:RL H a n c p) (hT:TabH H)
  (hbad:checkE p≠0→∀H',Le H H'→K (.tuple #[.agg #[.slice none 0 0],.int .i64 (checkE p)]) H')
  (hK:checkE p=0→∀m a1 n1 c1 H',Le H H'→OnceR p m→RL H' a1 n1 c1 m→K (.tuple #[.agg #[.slice a1 n1 c1],.int .i64 0]) H'):Does Tryz.prog 15 [.agg #[.slice a n c]] H K:=by
 refine⟨Tryz.call15,fun w hp=>?_⟩
 by_cases he:checkE p=0
 ·refine (callsIn_wide.1 (once_ok hp12 he ha hT hp)).mono ?_;rintro e w' ⟨m,a1,n1,c1,H',rfl,h1,h2,h3,h4,h5,h6⟩;exact⟨_,H',rfl,hK he m a1 n1 c1 H' h3 h1 h2,h3,h4,h5,h6⟩
 ·refine (callsIn_wide.1 (once_bad hc hv he ha hp)).mono ?_;rintro e w' ⟨H',rfl,h3,h4,h5,h6⟩;exact⟨_,H',rfl,hbad he H' h3,h3,h4,h5,h6⟩
end Go.Proofs
end
section
namespace Go.Proofs
open Go.Sy
set_option maxRecDepth 20000
set_option maxHeartbeats 4000000
theorem tidy_step {k:Nat} {p q w:Prog} {n:Nat} (h:OnceR p q) (hne:¬p=q) (hT:TidyN k q w n):TidyN (k+1) p w (n+1):=.step h hne hT
theorem tprog_spec {p:Prog} (hp:p.length≤12) (hl:∀b∈p,b.2.1.length≤100000) (hc:stmtsN p≤1000000) (hv:cnt p<400000) {most:Int} (hmo:most≤1000) {a:Option Addr} {n c:Nat} {H:Hp} {K:Value→Hp→Prop} (ha:RL H a n c p) (hT:TabH H)
  (hbad:checkE p≠0→∀H',Le H H'→K (.tuple #[.agg #[.slice none 0 0],.int .i64 0,.int .i64 (checkE p)]) H')
  (hK:checkE p=0→∀w x a1 n1 c1 H',Le H H'→TidyN most.toNat p w x→RL H' a1 n1 c1 w→K (.tuple #[.agg #[.slice a1 n1 c1],.int .i64 (x:Nat),.int .i64 0]) H'):Does Tryz.prog 16 [.agg #[.slice a n c],.int .i64 most] H K:=by
 have hl2:∀b∈p,b.2.1.length≤1000000:=fun b hb=>Nat.le_trans (hl b hb) (by decide)
 obtain⟨M,hM⟩:∃M:Nat,M=most.toNat:=⟨_,rfl⟩
 rw[←hM]at hK
 have hmm:min (max most 0) 4096=(M:Int):=by omega
 have hM1:M≤1000:=by omega
 refine spec_of cx_ok cx_mix rfl Tryz.func16 Tryz.call16 Tryz.ntmps16 Tryz.results16 rfl rfl ?_
 by_cases he:checkE p=0
 ·refine .inr ⟨Prog×(Option Addr×Nat×Nat)×Nat,fun _=>0,fun z=>⟨[(1,.v (.int .i64 (min (max most 0) 4096))),(2,.ptr 0 0),(4,.ptr 1 0),(8,.v (.int .i64 z.2.2))],[(0,.cells 24 [.v (.slice z.2.1.1 z.2.1.2.1 z.2.1.2.2)]),(1,.cells 24 [.v (.slice none 0 0)])],2⟩,
   fun z H'=>Le H H'∧RL H' z.2.1.1 z.2.1.2.1 z.2.1.2.2 z.1∧checkE z.1=0∧z.1.length≤12∧z.2.2≤M∧∀w x,TidyN (M - z.2.2) z.1 w x→TidyN M p w (x+z.2.2),fun z=>M - z.2.2,?_,?_⟩
  ·refine pcheck_spec ha hc hv fun _ _=>?_
   refine⟨fun h=>absurd he (nt h),fun _=>?_⟩
   refine pclone_spec (by omega) hl2 ha fun v css H3 H1 hle3 hrc hle1 hv1=>?_
   obtain⟨a1,n1,c1,rfl,hr⟩:=RL.of_row (α:=Block) hv1 (hrc.up hle1.le);have hle:Le H H1:=hle3.trans hle1.le;have heq:=he;have hq:=hp;have hqc:=hc;have hqv:=hv
   have hW:∀w x,TidyN (M - 0) p w x→TidyN M p w (x+0):=fun w x h=>h
   refine tonce_spec hq hqc hqv hr (hT.up hle) (fun hb=>absurd heq hb) fun _ m a2 n2 c2 H2 hle2 hO hr2=>?_
   have hgm:=once_fit heq hO;have hm12:m.length≤12:=Nat.le_trans hgm.len hq;have hle12:=hle.trans hle2;refine⟨fun h=>?_,fun h=>?_⟩
   ·have hlt:0<M:=by have:=dt h; omega
    refine psame4_spec (hr.up hle2) hr2 ?_;refine⟨fun h=>?_,fun h=>?_⟩
    ·have hne:¬p=m:=nt h;refine⟨⟨by  omega,by  omega⟩,?_⟩;refine⟨(m,(a2,n2,c2),0+1),[(0,0),(1,1)],rfl,?_,⟨hle12,hr2,hgm.chk,hm12,hlt,fun w x hx=>?_⟩⟩
     ·(repeat' (first|exact trivial|refine⟨?_,?_⟩|exact rfl|assumption))
     ·have e:M - 0=M - (0+1)+1:=by omega
      have hx:=hW w (x+1) (by rw[e];exact tidy_step hO hne hx);rwa[Nat.add_assoc,Nat.add_comm 1]at hx
    ·have heqq:p=m:=nf h
     have e:M - 0=M - (0+1)+1:=by omega
     have hx:=hW p 0 (by rw[e];exact .same (by rw[←heqq]at hO;exact hO));rw[Nat.zero_add]at hx;exact hK he _ _ _ _ _ _ hle12 hx (hr.up hle2)
   ·have hge:¬0<M:=by have:=df h; omega
    have hx:=hW p 0 (by rw[show M - 0=0 by omega];exact .out _);rw[Nat.zero_add]at hx;exact hK he _ _ _ _ _ _ hle12 hx (hr.up hle2)
  ·rintro⟨q,⟨a1,n1,c1⟩,k⟩ H1 _ ⟨hle,hr,heq,hq,hkk,hW⟩;dsimp only at hr heq hq hkk hW;obtain⟨hqc,hqv,hql⟩:=check_few heq hq
   refine tonce_spec hq hqc hqv hr (hT.up hle) (fun hb=>absurd heq hb) fun _ m a2 n2 c2 H2 hle2 hO hr2=>?_
   have hgm:=once_fit heq hO;have hm12:m.length≤12:=Nat.le_trans hgm.len hq;have hle12:=hle.trans hle2;refine⟨fun h=>?_,fun h=>?_⟩
   ·have hlt:k<M:=by have:=dt h;dsimp only at this;omega
    refine psame4_spec (hr.up hle2) hr2 ?_;refine⟨fun h=>?_,fun h=>?_⟩
    ·have hne:¬q=m:=nt h;refine⟨⟨by dsimp only;omega,by dsimp only;omega⟩,?_⟩;refine⟨(m,(a2,n2,c2),k+1),[(0,0),(1,1)],rfl,?_,⟨hle12,hr2,hgm.chk,hm12,hlt,fun w x hx=>?_⟩,by dsimp only;omega⟩
     ·(repeat' (first|exact trivial|refine⟨?_,?_⟩|exact rfl|assumption))
     ·have e:M - k=M - (k+1)+1:=by omega
      have hx:=hW w (x+1) (by rw[e];exact tidy_step hO hne hx);rwa[Nat.add_assoc,Nat.add_comm 1]at hx
    ·have heqq:q=m:=nf h
     have e:M - k=M - (k+1)+1:=by omega
     have hx:=hW q 0 (by rw[e];exact .same (by rw[←heqq]at hO;exact hO));rw[Nat.zero_add]at hx;exact hK he _ _ _ _ _ _ hle12 hx (hr.up hle2)
   ·have hge:¬k<M:=by have:=df h;dsimp only at this;omega
    have hx:=hW q 0 (by rw[show M - k=0 by omega];exact .out _);rw[Nat.zero_add]at hx;exact hK he _ _ _ _ _ _ hle12 hx (hr.up hle2)
 ·refine .inl ⟨0,?_⟩
  refine pcheck_spec ha hc hv fun _ _=>?_
  refine⟨fun _=>?_,fun h=>absurd (nf h) he⟩;exact hbad he H (Le.refl H)
end Go.Proofs
end
section
namespace Go.Proofs
open Go.Sy
set_option maxRecDepth 20000
set_option maxHeartbeats 4000000
theorem better_spec {p q:Prog} (hp:p.length≤128) (hc:stmtsN p≤1000000) (hv:cnt p<400000) (hp2:q.length≤128) (hc2:stmtsN q≤1000000) (hv2:cnt q<400000) {a a2:Option Addr} {n c n2 c2:Nat} {H:Hp} {K:Value→Hp→Prop} (ha:RL H a n c p) (hb:RL H a2 n2 c2 q)
  (hK:K (.bool (decide (checkE p=0)&&(decide (checkE q=0)&&decide (wtP p≤wtP q)))) H):Does Tryz.prog 22 [.agg #[.slice a n c],.agg #[.slice a2 n2 c2]] H K:=by
 refine spec_of cx_ok cx_mix rfl Tryz.func22 Tryz.call22 Tryz.ntmps22 Tryz.results22 rfl rfl ?_;refine⟨some ([1000000],[0,1,2,3,4,5,6,7,8,9,11,10,12,13,14,15]),by kernel_rfl,?_⟩
 refine pcheck_spec ha hc hv fun _ _=>?_
 refine⟨fun h1=>?_,fun h1=>?_⟩
 ·have h1:checkE p=0:=dt h1
  refine pcheck_spec hb hc2 hv2 fun _ _=>?_
  refine⟨fun h2=>?_,fun h2=>?_⟩
  ·have h2:checkE q=0:=dt h2
   refine tweight_spec hp hc ha fun _ _=>?_
   refine tweight_spec hp2 hc2 hb fun _ _=>?_
   rw[decide_eq_true h1,decide_eq_true h2,Bool.true_and,Bool.true_and]at hK;exact kbool hK (decide_eq_decide.2 Int.ofNat_le.symm)
  ·have h2:¬checkE q=0:=df h2;rw[decide_eq_false h2,Bool.false_and,Bool.and_false]at hK;exact hK
 ·have h1:¬checkE p=0:=df h1;rw[decide_eq_false h1,Bool.false_and]at hK;exact hK
def stT1:Stmt:=(1,⟨[120]⟩,(0,(⟨[]⟩,1,0),(⟨[]⟩,0,0)))
def stT2:Stmt:=(1,⟨[121]⟩,(0,(⟨[120]⟩,0,0),(⟨[]⟩,0,0)))
def stT3:Stmt:=(3,⟨[]⟩,(0,(⟨[121]⟩,0,0),(⟨[]⟩,0,0)))
def stT4:Stmt:=(3,⟨[]⟩,(0,(⟨[]⟩,1,0),(⟨[]⟩,0,0)))
def blT (l:List Stmt):Block:=(⟨[97]⟩,l,(3,za,⟨[]⟩,⟨[]⟩))
def progT:Prog:=[blT [stT1,stT2,stT3]]
theorem check_T:checkE progT=0:=by decide +kernel
def stT5:Stmt:=(1,⟨[121]⟩,(0,(⟨[]⟩,1,0),(⟨[]⟩,0,0)))
theorem fold_T:foldP progT=[blT [stT1,stT5,stT4]]:=by decide +kernel
theorem whole_T:(wholeS [blT [stT1,stT5,stT4]]).1=[blT [stT4]]:=by decide +kernel
theorem pair_T:pairP [blT [stT4]]=none:=by decide +kernel
theorem pru_single {b:Block} {r:Prog} (he:endB b=b) (h:PruR [b] r):r=[b]:=by
 obtain⟨R,_,hR,rfl⟩:=h
 have h0:(0:Int)∈R:=hR.from' 0 (by simp) (decide_eq_true (by simp))
 have e:endsP [b]=[b]:=by show [endB b]=[b];rw[he]
 rw[e]
 exact keepP_all fun k hk=>by
  have:k=0:=by simpa using hk
  rw[this];exact h0
theorem endB_T (l:List Stmt):endB (blT l)=blT l:=rfl
theorem once_T {m:Prog} (h:OnceR progT m):m=[blT [stT4]]:=by
 obtain⟨q,hq,hm⟩:=h;rw[fold_T]at hq;rw[pru_single (endB_T _) hq,whole_T]at hm;obtain⟨q2,hq2,hM⟩:=hm;rw[pru_single (endB_T _) hq2]at hM;exact (hM.one (.stop pair_T))
theorem stT1_R:stmtR stT1:=⟨⟨by decide,by decide⟩,Nat.le_of_lt_succ (by decide),⟨by decide,by decide⟩,⟨Nat.zero_le _,⟨by decide,by decide⟩,zero_RL⟩,⟨Nat.zero_le _,zero_RL,zero_RL⟩⟩
theorem stT2_R:stmtR stT2:=⟨⟨by decide,by decide⟩,Nat.le_of_lt_succ (by decide),⟨by decide,by decide⟩,⟨Nat.le_of_lt_succ (by decide),zero_RL,zero_RL⟩,⟨Nat.zero_le _,zero_RL,zero_RL⟩⟩
theorem stT3_R:stmtR stT3:=⟨⟨by decide,by decide⟩,Nat.zero_le _,⟨by decide,by decide⟩,⟨Nat.le_of_lt_succ (by decide),zero_RL,zero_RL⟩,⟨Nat.zero_le _,zero_RL,zero_RL⟩⟩
theorem awake49_spec {H:Hp} {K:Value→Hp→Prop} (hT:TabH H) (hK:∀H',Le H H'→K (.bool true) H'):Does Tryz.prog 14 [] H K:=by
 refine spec_of cx_ok cx_mix rfl Tryz.func14 Tryz.call14 Tryz.ntmps14 Tryz.results14 rfl rfl ?_;intro x2 H2 hle2 hx2
 refine of_row_k (α:=Stmt) hx2 (show RC (α:=Stmt) H2 _ [stT1,stT2,stT3] from ((RC.nil.snoc (stmt_mk2 stT1_R)).snoc (stmt_mk2 stT2_R)).snoc (stmt_mk2 stT3_R)) fun sb sm sd ex2 hr2=>?_
 subst ex2;intro y H3 hle3 hy
 refine of_row_k (α:=Block) hy (show RC (α:=Block) H3 _ progT from RC.nil.snoc (block_mk (b:=blT [stT1,stT2,stT3]) (hr2.up hle3.le) (Nat.le_of_lt_succ (by decide)) ⟨⟨by decide,by decide⟩,za_R,Nat.zero_le _,Nat.zero_le _⟩)) fun a n c ey hr=>?_
 subst ey;have hle:=hle2.le.trans hle3.le
 refine tonce_spec (p:=progT) (by decide) (by decide) (by decide) hr (hT.up hle) (fun he=>absurd check_T he) fun he m a1 n1 c1 H4 hle4 hO hr4=>?_
 rw[once_T hO]at hr4;have hn1:=hr4.n_eq;have hn1:n1=1:=hn1;subst hn1;refine⟨fun _=>?_,fun h=>absurd rfl (df h)⟩;refine⟨fun _=>?_,fun h=>absurd rfl (df h)⟩
 refine block_k hr4 (i:=0) (x:=blT [stT4]) rfl fun ad a5 n5 c5 q1 hh hr5 hs5 ht5=>?_
 have hn5:=hr5.n_eq;have hn5:n5=1:=hn5;subst hn5;refine⟨ad,⟨by omega,by omega,q1⟩,?_⟩;refine⟨_,hh,?_⟩;refine⟨fun _=>?_,fun h=>absurd rfl (df h)⟩
 refine stmt_k hr5 (i:=0) (x:=stT4) rfl fun ad2 q2 hh2 _=>?_
 refine⟨ad,⟨by omega,by omega,q1⟩,?_⟩;refine⟨_,hh,?_⟩;refine⟨ad2,⟨by omega,by omega,q2⟩,?_⟩;refine⟨_,hh2,?_⟩;exact kbool (hK _ (hle.trans hle4)) (by decide)
theorem TidyRuns_spec {p:Prog} {inn:List Nm} {most:Int} {a ai:Option Addr} {n c ni ci:Nat} {H:Hp} {K:Value→Hp→Prop} (ha:RL H a n c p) (hI:RL H ai ni ci inn) (hT:TabH H) (hK:∀H',Le H H'→K (.bool true) H'):
  Does Tryz.prog 6 [.agg #[.slice a n c],.slice ai ni ci,.int .i64 most] H K:=by
 have hn:=ha.n_eq;refine spec_of cx_ok cx_mix rfl Tryz.func6 Tryz.call6 Tryz.ntmps6 Tryz.results6 rfl rfl ?_
 refine awake49_spec hT fun _ _=>?_
 have hKH:=hK _ (Le.refl H);refine⟨(fun h=>by cases h),fun _=>?_⟩
 refine small4_spec ha fun t ht=>?_
 refine⟨fun h=>?f0,fun h=>?t0⟩
 case t0=>exact hKH
 have hb4:=ht (by simpa using h);have hp:=hb4.1
 have hl:∀b∈p,b.2.1.length≤100000:=fun b h=>by have:=(hb4.2 b h).1.1;omega
 have hc:stmtsN p≤1000000:=small_stmts hb4;have hv:cnt p<400000:=small_cnt hb4;refine⟨fun h=>?g0,fun h=>?u0⟩
 case u0=>exact hKH
 refine⟨fun h=>?g1,fun h=>?u1⟩
 case u1=>exact hKH
 refine rcheck_spec ha hc hv fun _ _=>?_
 refine⟨fun h=>?t2,fun h=>?f2⟩
 case t2=>exact hKH
 have he:checkE p=0:=nf h
 refine tprog_spec hp hl hc hv (most:=9) (by decide) ha hT (fun hb=>absurd he hb) fun _ q x aq nq cq H1 hle1 hO hq=>?_
 obtain⟨hg,_⟩:=tidyN_good hO he;have hq12:q.length≤12:=Nat.le_trans hg.len hp;obtain⟨hqc,hqv,hqb⟩:=check_few hg.chk hq12
 refine all_spec he hp hc hv (most:=min most 25) (by omega) (ha.up hle1) (hI.up hle1) fun a1 n1 c1 a2 n2 c2 H3 hle3 hr1 hr2=>?_
 have h03:=hle1.trans hle3
 refine all_spec hg.chk hq12 hqc hqv (most:=min most 25) (by omega) (hq.up hle3) (hI.up h03) fun a3 n3 c3 a4 n4 c4 H4 hle4 hr3 hr4=>?_
 have h04:=h03.trans hle4;refine⟨fun _=>?_,fun h=>absurd rfl (nt h)⟩;refine⟨fun _=>?_,fun h=>absurd rfl (nt h)⟩;refine better_spec (by omega) hqc hqv (by omega) hc hv (hq.up (hle3.trans hle4)) (ha.up h04) ?_;rw[decide_eq_true hg.chk,decide_eq_true he,decide_eq_true hg.wt];refine⟨fun _=>?_,fun h=>by simp at h⟩
 refine pcheck_spec (hq.up (hle3.trans hle4)) hqc hqv fun _ _=>?_
 rw[hg.chk];refine⟨fun h=>absurd rfl (nt h),fun _=>?_⟩;have hn1:=hr1.n_eq;have hn3:=hr3.n_eq;refine⟨fun h=>?_,fun _=>hK _ h04⟩
 have hE:(itS p inn (start0 p) (min most 25).toNat).2.2=false:=by simpa using h
 obtain⟨k',hk',hem⟩:=hg.ends inn _ _ (it_ends _ _ hE)
 have hkk:=itS_le (p:=p) (inn:=inn) (s0:=start0 p) (min most 25).toNat
 obtain⟨g1,g2,g3⟩:=ends_it hem (min most 25).toNat (by omega)
 rw[g3]at hr4;rw[g2]at hn3;rw[g1];refine⟨fun _=>?_,fun h=>by cases h⟩;refine nums_spec (hr2.up hle4) hr4 ?_;refine⟨fun _=>?_,fun h=>by cases h⟩;exact kbool (hK _ h04) (decide_eq_true (by omega)).symm
end Go.Proofs
end
