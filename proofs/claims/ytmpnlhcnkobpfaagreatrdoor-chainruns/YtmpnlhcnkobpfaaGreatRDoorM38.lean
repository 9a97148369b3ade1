/- Part 'M38' of the proof (Rt4, Ch1, Ch2, Rt5, Rl0, Rt6, Rt7, Rt8, Of1, Of2, Of3, Ch3, Ch4, Ch5, Rt9, Ch6, Cr1, Cr2, Cr3, Cr4, Cn1): lemmas, each with its own conditions in its own statement. -/
import Derived.LoopIn
import Derived.LoopNIn
import Derived.OwnWalkIn
import Derived.RangeFuncBound
import Derived.RangeFuncCalls
import Derived.RangeFuncLeaves
import Derived.RangeFuncNested
import Derived.Shelf.Abstract
import Derived.Shelf.RegionOpen
import Derived.TacticsInMore
import Derived.WalkKit
import Derived.Test.YtmpnlhcnkobpfaaGreatRDoorM15
import Derived.Test.YtmpnlhcnkobpfaaGreatRDoorM23
import Derived.Test.YtmpnlhcnkobpfaaGreatRDoorM25
import Derived.Test.YtmpnlhcnkobpfaaGreatRDoorM32
import Derived.Test.YtmpnlhcnkobpfaaGreatRDoorM33
import Derived.Test.YtmpnlhcnkobpfaaGreatRDoorM35
import Derived.Test.YtmpnlhcnkobpfaaGreatRDoorM36
import Derived.Test.YtmpnlhcnkobpfaaGreatRDoorM37
section
namespace Go.Proofs
open Go.RowKit Go.Shelf Go.Sy
attribute [local go_sem] Oper.semAt_some
theorem calm_alloc {N : Nat} {F : Nat → Prop} {W : World} {o : Obj} (hN : N ≤ W.heap.size) (hF : ∀ b, F b → b < W.heap.size) : RCalm N F W (W.alloc o) :=
  ⟨rfl, rfl, ⟨rfl, Nat.le_refl _⟩, by simp, fun b hb => Below.heap_alloc _ _ _ (hb.elim (fun h => Nat.lt_of_lt_of_le h hN) (hF b))⟩
structure ItW (H : Hp) (N : Nat) (W : World) (F : Nat → Prop) : Prop where
  hp : ∀ b o, H b = some o → W.heap[b]? = some o
  big : N ≤ W.heap.size
  f : ∀ b, F b → H b = none ∧ b < W.heap.size
theorem ItW.alloc {H : Hp} {N : Nat} {W : World} {F : Nat → Prop} (h : ItW H N W F) (o : Obj) : ItW H N (W.alloc o) F :=
  ⟨fun b o' hb => by
    have e := h.hp b o' hb
    rw [← e]; exact Below.heap_alloc _ _ _ (Array.getElem?_eq_some_iff.1 e).1, Nat.le_trans h.big (by simp), fun b hb => ⟨(h.f b hb).1, Nat.lt_of_lt_of_le (h.f b hb).2 (by simp)⟩⟩
theorem ItW.kept {H : Hp} {N : Nat} {W W' : World} {F F' : Nat → Prop} (h : ItW H N W F) (hk : RKept F W W') (hF : ∀ b, F' b → (F b ∨ W.heap.size ≤ b) ∧ b < W'.heap.size) : ItW H N W' F' :=
  ⟨fun b o hb => by
    have e := h.hp b o hb
    rw [hk.heap b (Array.getElem?_eq_some_iff.1 e).1 (fun hf => by rw [(h.f b hf).1] at hb; cases hb)]; exact e, Nat.le_trans h.big hk.size, fun b hb => ⟨by
    rcases (hF b hb).1 with h1 | h1
    · exact (h.f b h1).1
    · cases hh : H b with
      | none => rfl
      | some o => have := (Array.getElem?_eq_some_iff.1 (h.hp b o hh)).1; omega, (hF b hb).2⟩⟩
theorem cell_hp {H : Hp} {W : World} (h : ∀ b o, H b = some o → W.heap[b]? = some o) {b : Nat} {v : Value} {T : TypeId} {f : Nat × Nat} (hb : H b = some (.cells #[v] T f)) : W.cell? ⟨b, 0, none⟩ = some v := by
  simp [World.cell?, h b _ hb]
theorem rl_cells {α : Type} [Enc α] {H : Hp} {a : Option Addr} {n c : Nat} {l : List α} (ha : RL H a n c l) {k : Nat} {x : α} (hx : l[k]? = some x) : ∃ b off cs, a = some ⟨b, off, none⟩ ∧ Enc.R H cs x ∧
    ∀ {W : World}, (∀ b o, H b = some o → W.heap[b]? = some o) → ∀ j v, j < Enc.sz α → cs[j]? = some v → W.cell? ⟨b, off + k * Enc.sz α + j, none⟩ = some v := by
  obtain ⟨h1, h2, _, h4⟩ := ha
  rcases h4 with h4 | ⟨ad, e, hsp, cells, T, fr, hH, hcs, hx2⟩
  · have := (List.getElem?_eq_some_iff.1 hx).1
    omega
  · obtain ⟨b, off, sp⟩ := ad
    dsimp only at hsp hH hx2 hcs
    subst hsp
    obtain ⟨cs, h5, h6⟩ := hx2 k x hx
    refine ⟨b, off, cs, e, h5, fun {W} hw j v hj hv => ?_⟩
    have h7 := h6 j hj
    simp only [World.cell?, hw _ _ hH]
    rw [hv] at h7
    exact h7
theorem rl_left {α : Type} [Enc α] {H Hm : Hp} {a : Option Addr} {n c : Nat} {xs : List α} (h : RL H a n c xs) (hc : CellsLe H Hm) (hR : ∀ {cs : List Value} {x : α}, Enc.R H cs x → Enc.R Hm cs x) : RL Hm a n c xs := by
  obtain ⟨h1, h2, h3, h4⟩ := h
  refine ⟨h1, h2, h3, ?_⟩
  rcases h4 with h4 | ⟨ad, e, hs, cells, T, fr, hH, hb, hx⟩
  · exact .inl h4
  · refine .inr ⟨ad, e, hs, cells, T, fr, hc _ _ _ _ hH, hb, fun i x hi => ?_⟩
    obtain ⟨cs, h5, h6⟩ := hx i x hi
    exact ⟨cs, hR h5, h6⟩
def ofL (v : Bs8) : List Site → Nat → List Int
  | [], _ => []
  | x :: r, i => (if x.2.2.l = v then [(i : Int)] else []) ++ ofL v r (i + 1)
set_option maxRecDepth 100000 in
set_option maxHeartbeats 4000000 in
theorem of_iter {Z : List Site} (hreach : Z.length ≤ 100000) {v : Bs8} {a : Option Addr} {n c Zs Vs : Nat} {H : Hp} (ha : RL (α := Site) H a n c Z) (hZ : H Zs = some (.cells #[.slice a n c] 76 (0, 0))) (hV : H Vs = some (.cells #[.string (bs v)] 9 (0, 0))) :
    IterH Tryz.prog 160 #[.pointer (some ⟨Zs, 0, none⟩), .pointer (some ⟨Vs, 0, none⟩)] (fun x : Int => Value.int .i64 x) (ofL v Z 0) H := by
  intro l J W1 F0 hH hJ0 hF0 hcalm hY
  have hn := ha.n_eq
  have hmx := ha.le
  subst hn
  have hZc := cell_hp hH hZ
  refine callsIn_of_wp Tryz.func160 rfl trivial ?_ rfl
  simp only [Tryz.ntmps160, List.size_toArray, List.length_cons, List.length_nil, Nat.reduceAdd, Nat.reduceSub, Array.replicate_succ, Array.replicate_zero, List.push_toArray, List.append_toArray, List.nil_append, List.cons_append]
  gi_wp2
  gi_loopw [8] (fun i wr => ∃ (k : Nat) (pre : List Int) (F : Nat → Prop), k ≤ Z.length ∧ i = .int .i64 k ∧ pre ++ ofL v (Z.drop k) k = ofL v Z 0 ∧ J pre wr F ∧ ItW H W1.heap.size wr F)
    (fun i _ => Z.length - (intOf i).toNat)
  case atStart => exact ⟨0, [], F0, Nat.zero_le _, rfl, rfl, hJ0, hH, Nat.le_refl _, hF0⟩
  case round =>
    obtain ⟨k, pre, F, hk, rfl, hpre, hJs, hnx⟩ := hrel
    by_cases hlt : k < Z.length
    · have hkx : Z[k]? = some (Z[k]'(by omega)) := List.getElem?_eq_getElem (by omega)
      generalize (Z[k]'(by omega)) = x at hkx
      obtain ⟨b, off, cs, rfl, hR, hcell⟩ := rl_cells ha hkx
      obtain ⟨rfl, _⟩ := site_open hR
      have hc1 := hcell hnx.hp 0 (.int .i64 x.1) (by decide) rfl
      have hc2 := hcell hnx.hp 1 (.int .i64 x.2.1) (by decide) rfl
      have hc3 := hcell hnx.hp 2 (.string (bs x.2.2.l)) (by decide) rfl
      have esz : Enc.sz Site = 3 := rfl
      rw [esz] at hc1 hc2 hc3
      rw [Nat.add_zero] at hc1
      have hstep : pre ++ ((if x.2.2.l = v then [(k : Int)] else []) ++ ofL v (Z.drop (k + 1)) (k + 1)) = ofL v Z 0 := by
        rw [← hpre, List.drop_eq_getElem_cons (by omega : k < Z.length)]
        have e : Z[k]'(by omega) = x := by
          have := List.getElem?_eq_getElem (show k < Z.length by omega)
          rw [hkx] at this
          exact (Option.some.inj this).symm
        rw [e, ofL]
      have hx2 : ItW H W1.heap.size (wr.alloc (Obj.cells #[Value.int IntKind.i64 x.1, Value.int IntKind.i64 x.2.1, Value.string (bs x.2.2.l)] 75)) F := hnx.alloc _
      have hV2 := cell_hp hx2.hp hV
      have hJa := hcalm _ _ _ _ hJs (calm_alloc (o := Obj.cells #[Value.int IntKind.i64 x.1, Value.int IntKind.i64 x.2.1, Value.string (bs x.2.2.l)] 75) hnx.big fun b hb => (hnx.f b hb).2)
      by_cases hv : x.2.2.l = v
      · rw [if_pos hv] at hstep
        subst hv
        have hbq : ((bs x.2.2.l).toList == (bs x.2.2.l).toList) = true := beq_self_eq_true _
        obtain ⟨fn, tmps, assign, body, hy, hR⟩ := hY pre (k : Int) _ F hJa ⟨_, by rw [← hstep]; simp; rfl⟩
        gi_wp2
        refine hR.mono ?_
        rintro e W3 ⟨rfl, F', hJ3, hk3, hF3⟩
        gi_wp2
        go_roundw
        case rel =>
          repeat' (first | exact ⟨k + 1, _, F', by omega, rfl, by rw [← hstep]; simp, hJ3, hx2.kept hk3 hF3⟩ | rfl | (rw [decide_eq_true (show k < Z.length by omega)]; done) | refine ⟨_, ?_⟩ | refine ⟨?_, ?_⟩)
        case measure =>
          show Z.length - (intOf (.int .i64 ((k : Int) + 1))).toNat < Z.length - (intOf (.int .i64 (k : Int))).toNat
          simp only [intOf]; omega
      · rw [if_neg hv, List.nil_append] at hstep
        have hbq : ((bs x.2.2.l).toList == (bs v).toList) = false := by
          have e1 : (bs x.2.2.l).toList = x.2.2.l := (toList_sl _).trans (sl_bs _)
          have e2 : (bs v).toList = v := (toList_sl _).trans (sl_bs _)
          rw [e1, e2]; exact beq_eq_false_iff_ne.2 hv
        gi_wp2
        refine ⟨(fun _ h => by cases h), ?_⟩
        gi_wp2
        go_roundw
        case rel =>
          repeat' (first | exact ⟨k + 1, pre, F, by omega, rfl, hstep, hJa, hx2⟩ | rfl | (rw [decide_eq_true (show k < Z.length by omega)]; done) | refine ⟨_, ?_⟩ | refine ⟨?_, ?_⟩)
        case measure =>
          show Z.length - (intOf (.int .i64 ((k : Int) + 1))).toNat < Z.length - (intOf (.int .i64 (k : Int))).toNat
          simp only [intOf]; omega
    · obtain rfl : k = Z.length := by omega
      gi_wp2
      go_end0
      refine ⟨⟨_, rfl⟩, F, ?_⟩
      have e : pre = ofL v Z 0 := by rw [← hpre, List.drop_length]; simp [ofL]
      rw [← e]; exact hJs
end Go.Proofs
end
section
namespace Go.Proofs
open Go.RowKit Go.Shelf Go.Sy
attribute [local go_sem] Oper.semAt_some
def hput (H : Hp) (n : Nat) (o : Obj) : Hp := fun b => if b = n then some o else H b
theorem ItW.put {H : Hp} {N : Nat} {W : World} {F : Nat → Prop} (h : ItW H N W F) (o : Obj) : ItW (hput H W.heap.size o) N (W.alloc o) F :=
  ⟨fun b o' hb => by
    unfold hput at hb
    split at hb
    · rename_i e; cases hb; subst e; exact Array.getElem?_push_size
    · exact (h.alloc o).hp b o' hb, (h.alloc o).big, fun b hb => ⟨by
      unfold hput
      rw [if_neg (Nat.ne_of_lt (h.f b hb).2)]; exact (h.f b hb).1, ((h.alloc o).f b hb).2⟩⟩
theorem ItW.le_put {H : Hp} {N : Nat} {W : World} {F : Nat → Prop} (h : ItW H N W F) (o : Obj) : Le H (hput H W.heap.size o) := fun b o' hb => by
  unfold hput
  rw [if_neg]
  · exact hb
  · intro e
    have := (Array.getElem?_eq_some_iff.1 (h.hp b o' hb)).1
    omega
theorem ItW.mono {H H' : Hp} {N : Nat} {W : World} {F : Nat → Prop} (h : ItW H' N W F) (hle : Le H H') : ItW H N W F :=
  ⟨fun b o hb => h.hp b o (hle b o hb), h.big, fun b hb => ⟨by
    cases e : H b with
    | none => rfl
    | some o => exact absurd ((hle b o e).symm.trans (h.f b hb).1) (by simp), (h.f b hb).2⟩⟩
theorem ItW.call {H H' : Hp} {N : Nat} {W W' : World} {F : Nat → Prop} (h : ItW H N W F) (h1 : ∀ b o, H' b = some o → W'.heap[b]? = some o) (h2 : ∀ b, H b = none → b < W.heap.size → H' b = none) (h3 : BelowD W.heap.size W W') : ItW H' N W' F :=
  ⟨h1, Nat.le_trans h.big h3.toBelow.size, fun b hb => ⟨h2 b (h.f b hb).1 (h.f b hb).2, Nat.lt_of_lt_of_le (h.f b hb).2 h3.size⟩⟩
theorem calm_call {N : Nat} {F : Nat → Prop} {W W' : World} (h3 : BelowD W.heap.size W W') (hN : N ≤ W.heap.size) (hF : ∀ b, F b → b < W.heap.size) : RCalm N F W W' :=
  ⟨h3.os, h3.tape, ⟨h3.output, h3.drawn⟩, h3.size, fun b hb => h3.block b (hb.elim (fun h => Nat.lt_of_lt_of_le h hN) (hF b))⟩
theorem cells_hp {H : Hp} {W : World} (h : ∀ b o, H b = some o → W.heap[b]? = some o) {b : Nat} {cs : Array Value} {T : TypeId} {f : Nat × Nat} (hb : H b = some (.cells cs T f)) (j : Nat) (v : Value) (hj : cs[j]? = some v) : W.cell? ⟨b, j, none⟩ = some v := by
  simp [World.cell?, h b _ hb, hj]
def useK (i : Nat) : List Stmt → Nat → List Site
  | [], _ => []
  | s :: r, k => (ens (usesS s)).map (fun v => ((i : Int), (k : Int), v)) ++ useK i r (k + 1)
def useE (i : Nat) (b : Block) : List Site := if b.2.2.1 = 2 ∧ b.2.2.2.1.1.l ≠ [] then [((i : Int), (b.2.1.length : Int), b.2.2.2.1.1)] else []
def useB : List Block → Nat → List Site
  | [], _ => []
  | b :: r, i => useK i b.2.1 0 ++ (useE i b ++ useB r (i + 1))
def siteA (x : Site) : Value := .agg #[.int .i64 x.1, .int .i64 x.2.1, .string (bs x.2.2.l)]
theorem luses_calls {x : Stmt} (hx : stmtR x) {H : Hp} {w : World} (hp : ∀ b o, H b = some o → w.heap[b]? = some o) :
    Calls Tryz.prog 134 #[stmtA x] w fun e w' => ∃ a1 n1 c1 H', e = .returned (.slice a1 n1 c1) ∧ Le H H' ∧ RL H' a1 n1 c1 (ens (usesS x)) ∧ (∀ b o, H' b = some o → w'.heap[b]? = some o) ∧
      (∀ b, H b = none → b < w.heap.size → H' b = none) ∧ BelowD w.heap.size w w' := by
  have h : Does Tryz.prog 134 [stmtA x] H (fun v H' => ∃ a1 n1 c1, v = .slice a1 n1 c1 ∧ RL H' a1 n1 c1 (ens (usesS x))) :=
    luses_spec hx fun a1 n1 c1 H' _ h2 => ⟨a1, n1, c1, rfl, h2⟩
  refine (h.2 w hp).mono ?_
  rintro e w' ⟨v, H', rfl, ⟨a1, n1, c1, rfl, h2⟩, h3, h4, h5, h6⟩
  exact ⟨a1, n1, c1, H', rfl, h3, h2, h4, h5, h6⟩
set_option maxRecDepth 100000 in
set_option maxHeartbeats 8000000 in
theorem uses_iter {p : Prog} (hreach : p.length ≤ 100000) (hl : ∀ b ∈ p, b.2.1.length ≤ 100000) {a : Option Addr} {n c Ps : Nat} {H : Hp} (ha : RL (α := Block) H a n c p) (hP : H Ps = some (.cells #[.slice a n c] 24 (0, 0))) :
    IterH Tryz.prog 133 #[.pointer (some ⟨Ps, 0, none⟩)] siteA (useB p 0) H := by
  intro l J W1 F0 hH hJ0 hF0 hcalm hY
  have hn := ha.n_eq
  have hmx := ha.le
  subst hn
  have hPc := cell_hp hH hP
  refine callsIn_of_wp Tryz.func133 rfl trivial ?_ rfl
  simp only [Tryz.ntmps133, List.size_toArray, List.length_cons, List.length_nil, Nat.reduceAdd, Nat.reduceSub, Array.replicate_succ, Array.replicate_zero, List.push_toArray, List.append_toArray, List.nil_append, List.cons_append]
  gi_wp2
  gi_loopw [12] (fun i wr => ∃ (k : Nat) (pre : List Site) (F : Nat → Prop), k ≤ p.length ∧ i = .int .i64 k ∧ pre ++ useB (p.drop k) k = useB p 0 ∧ J pre wr F ∧ ItW H W1.heap.size wr F)
    (fun i _ => p.length - (intOf i).toNat)
  case atStart => exact ⟨0, [], F0, Nat.zero_le _, rfl, rfl, hJ0, hH, Nat.le_refl _, hF0⟩
  case round =>
    obtain ⟨k, pre, F, hk, rfl, hpre, hJs, hnx⟩ := hrel
    by_cases hlt : k < p.length
    · have hkx : p[k]? = some (p[k]'(by omega)) := List.getElem?_eq_getElem (by omega)
      have hmem : (p[k]'(by omega)) ∈ p := List.getElem_mem _
      have hstep : pre ++ (useK k (p[k]'(by omega)).2.1 0 ++ (useE k (p[k]'(by omega)) ++ useB (p.drop (k + 1)) (k + 1))) = useB p 0 := by
        rw [← hpre, List.drop_eq_getElem_cons (by omega : k < p.length), useB]
      generalize (p[k]'(by omega)) = x at hkx hmem hstep
      obtain ⟨b, off, cs, rfl, hR, hcell⟩ := rl_cells ha hkx
      obtain ⟨a5, n5, c5, rfl, hr5, hs5, ht5⟩ := block_open hR
      have hn5 := hr5.n_eq
      have hlx := hl x hmem
      subst hn5
      have esz : Enc.sz Block = 8 := rfl
      rw [esz] at hcell
      have hc0 := hcell hnx.hp 0 (.string (bs x.1.l)) (by decide) rfl
      have hc1 := hcell hnx.hp 1 (.slice a5 x.2.1.length c5) (by decide) rfl
      have hc2 := hcell hnx.hp 2 (.int .i64 x.2.2.1) (by decide) rfl
      have hc3 := hcell hnx.hp 3 (.string (bs x.2.2.2.1.1.l)) (by decide) rfl
      have hc4 := hcell hnx.hp 4 (.int .i64 x.2.2.2.1.2.1) (by decide) rfl
      have hc5 := hcell hnx.hp 5 (.int .i64 x.2.2.2.1.2.2) (by decide) rfl
      have hc6 := hcell hnx.hp 6 (.string (bs x.2.2.2.2.1.l)) (by decide) rfl
      have hc7 := hcell hnx.hp 7 (.string (bs x.2.2.2.2.2.l)) (by decide) rfl
      rw [Nat.add_zero] at hc0
      have hx2 := hnx.put (Obj.cells #[Value.string (bs x.1.l), .slice a5 x.2.1.length c5, .int .i64 x.2.2.1, .string (bs x.2.2.2.1.1.l), .int .i64 x.2.2.2.1.2.1, .int .i64 x.2.2.2.1.2.2, .string (bs x.2.2.2.2.1.l), .string (bs x.2.2.2.2.2.l)] 57)
      have hle2 := hnx.le_put (Obj.cells #[Value.string (bs x.1.l), .slice a5 x.2.1.length c5, .int .i64 x.2.2.1, .string (bs x.2.2.2.1.1.l), .int .i64 x.2.2.2.1.2.1, .int .i64 x.2.2.2.1.2.2, .string (bs x.2.2.2.2.1.l), .string (bs x.2.2.2.2.2.l)] 57)
      have hJ2 := hcalm _ _ _ _ hJs (calm_alloc (o := Obj.cells #[Value.string (bs x.1.l), .slice a5 x.2.1.length c5, .int .i64 x.2.2.1, .string (bs x.2.2.2.1.1.l), .int .i64 x.2.2.2.1.2.1, .int .i64 x.2.2.2.1.2.2, .string (bs x.2.2.2.2.1.l), .string (bs x.2.2.2.2.2.l)] 57) hnx.big fun b hb => (hnx.f b hb).2)
      have hb2 : hput H wr.heap.size (Obj.cells #[Value.string (bs x.1.l), .slice a5 x.2.1.length c5, .int .i64 x.2.2.1, .string (bs x.2.2.2.1.1.l), .int .i64 x.2.2.2.1.2.1, .int .i64 x.2.2.2.1.2.2, .string (bs x.2.2.2.2.1.l), .string (bs x.2.2.2.2.2.l)] 57) wr.heap.size = some (Obj.cells #[Value.string (bs x.1.l), .slice a5 x.2.1.length c5, .int .i64 x.2.2.1, .string (bs x.2.2.2.1.1.l), .int .i64 x.2.2.2.1.2.1, .int .i64 x.2.2.2.1.2.2, .string (bs x.2.2.2.2.1.l), .string (bs x.2.2.2.2.2.l)] 57) := if_pos rfl
      gi_wp2
      generalize hHb : hput H wr.heap.size _ = Hb at hx2 hle2 hb2
      gi_loopw [20] (fun i w2 => ∃ (k2 : Nat) (pre : List Site) (F : Nat → Prop), k2 ≤ x.2.1.length ∧ i = .int .i64 k2 ∧ pre ++ (useK k (x.2.1.drop k2) k2 ++ (useE k x ++ useB (p.drop (k + 1)) (k + 1))) = useB p 0 ∧ J pre w2 F ∧ ItW Hb W1.heap.size w2 F)
        (fun i _ => x.2.1.length - (intOf i).toNat)
      case atStart => exact ⟨0, pre, F, Nat.zero_le _, rfl, hstep, hJ2, hx2⟩
      case round =>
        clear hJ2 hx2 hstep hJs hnx hpre
        obtain ⟨k2, pre2, F2, hk2, rfl, hpre2, hJ2, hx2⟩ := hrel
        by_cases hlt2 : k2 < x.2.1.length
        · have hkx2 : x.2.1[k2]? = some (x.2.1[k2]'(by omega)) := List.getElem?_eq_getElem (by omega)
          have hstep2 : pre2 ++ ((ens (usesS (x.2.1[k2]'(by omega)))).map (fun v => ((k : Int), (k2 : Int), v)) ++ (useK k (x.2.1.drop (k2 + 1)) (k2 + 1) ++ (useE k x ++ useB (p.drop (k + 1)) (k + 1)))) = useB p 0 := by
            rw [← hpre2, List.drop_eq_getElem_cons (by omega : k2 < x.2.1.length), useK, List.append_assoc]
          generalize (x.2.1[k2]'(by omega)) = s at hkx2 hstep2
          obtain ⟨sb, soff, cs2, rfl, hR2, hcell2⟩ := rl_cells (RL.up hr5 hle2) hkx2
          obtain ⟨rfl, hsR⟩ := stmt_open hR2
          have esz2 : Enc.sz Stmt = 9 := rfl
          rw [esz2] at hcell2
          have hd0 := hcell2 hx2.hp 0 (.int .i64 s.1) (by decide) rfl
          have hd1 := hcell2 hx2.hp 1 (.string (bs s.2.1.l)) (by decide) rfl
          have hd2 := hcell2 hx2.hp 2 (.int .i64 s.2.2.1) (by decide) rfl
          have hd3 := hcell2 hx2.hp 3 (.string (bs s.2.2.2.1.1.l)) (by decide) rfl
          have hd4 := hcell2 hx2.hp 4 (.int .i64 s.2.2.2.1.2.1) (by decide) rfl
          have hd5 := hcell2 hx2.hp 5 (.int .i64 s.2.2.2.1.2.2) (by decide) rfl
          have hd6 := hcell2 hx2.hp 6 (.string (bs s.2.2.2.2.1.l)) (by decide) rfl
          have hd7 := hcell2 hx2.hp 7 (.int .i64 s.2.2.2.2.2.1) (by decide) rfl
          have hd8 := hcell2 hx2.hp 8 (.int .i64 s.2.2.2.2.2.2) (by decide) rfl
          rw [Nat.add_zero] at hd0
          have hx3 := hx2.put (Obj.cells #[Value.int .i64 s.1, .string (bs s.2.1.l), .int .i64 s.2.2.1, .string (bs s.2.2.2.1.1.l), .int .i64 s.2.2.2.1.2.1, .int .i64 s.2.2.2.1.2.2, .string (bs s.2.2.2.2.1.l), .int .i64 s.2.2.2.2.2.1, .int .i64 s.2.2.2.2.2.2] 103)
          have hle3 := hx2.le_put (Obj.cells #[Value.int .i64 s.1, .string (bs s.2.1.l), .int .i64 s.2.2.1, .string (bs s.2.2.2.1.1.l), .int .i64 s.2.2.2.1.2.1, .int .i64 s.2.2.2.1.2.2, .string (bs s.2.2.2.2.1.l), .int .i64 s.2.2.2.2.2.1, .int .i64 s.2.2.2.2.2.2] 103)
          have hJ3 := hcalm _ _ _ _ hJ2 (calm_alloc (o := (Obj.cells #[Value.int .i64 s.1, .string (bs s.2.1.l), .int .i64 s.2.2.1, .string (bs s.2.2.2.1.1.l), .int .i64 s.2.2.2.1.2.1, .int .i64 s.2.2.2.1.2.2, .string (bs s.2.2.2.2.1.l), .int .i64 s.2.2.2.2.2.1, .int .i64 s.2.2.2.2.2.2] 103)) hx2.big fun b hb => (hx2.f b hb).2)
          generalize hHs : hput Hb _ _ = Hs at hx3 hle3
          gi_wp2_with (refine ⟨trivial, ?_⟩; gi_at_call 134; refine (callsIn_wide.2 (luses_calls hsR hx3.hp)).mono ?_; rintro e w6 ⟨a6, n6, c6, H6, rfl, hle6, hr6, hp6, hn6, hB6⟩; have hn7 := hr6.n_eq; subst hn7)
          have hl6 := hr6.le
          have hx6 := hx3.call hp6 hn6 hB6
          have hJ6 := hcalm _ _ _ _ hJ3 (calm_call hB6 hx3.big fun b hb => (hx3.f b hb).2)
          gi_loopw [28] (fun i w7 => ∃ (k3 : Nat) (pre : List Site) (F : Nat → Prop), k3 ≤ (usesS s).length ∧ i = .int .i64 k3 ∧ pre ++ (((ens (usesS s)).drop k3).map (fun v => ((k : Int), (k2 : Int), v)) ++ (useK k (x.2.1.drop (k2 + 1)) (k2 + 1) ++ (useE k x ++ useB (p.drop (k + 1)) (k + 1)))) = useB p 0 ∧ J pre w7 F ∧ ItW H6 W1.heap.size w7 F)
            (fun i _ => (usesS s).length - (intOf i).toNat)
          case atStart => exact ⟨0, pre2, F2, Nat.zero_le _, rfl, hstep2, hJ6, hx6⟩
          case round =>
            clear hJ6 hx6 hJ3 hx3 hJ2 hx2
            obtain ⟨k3, pre3, F3, hk3, rfl, hpre3, hJ3, hx3⟩ := hrel
            have hlu : (ens (usesS s)).length = (usesS s).length := List.length_map ..
            rw [hlu] at hl6
            by_cases hlt3 : k3 < (usesS s).length
            · have hkx3 : (ens (usesS s))[k3]? = some ((ens (usesS s))[k3]'(by omega)) := List.getElem?_eq_getElem (by omega)
              have hstep3 : (pre3 ++ [((k : Int), (k2 : Int), (ens (usesS s))[k3]'(by omega))]) ++ (((ens (usesS s)).drop (k3 + 1)).map (fun v => ((k : Int), (k2 : Int), v)) ++ (useK k (x.2.1.drop (k2 + 1)) (k2 + 1) ++ (useE k x ++ useB (p.drop (k + 1)) (k + 1)))) = useB p 0 := by
                rw [← hpre3, List.drop_eq_getElem_cons (by omega : k3 < (ens (usesS s)).length), List.map_cons, List.append_assoc]; rfl
              generalize ((ens (usesS s))[k3]'(by omega)) = v at hkx3 hstep3
              obtain ⟨vb, voff, cs3, rfl, hR3, hcell3⟩ := rl_cells hr6 hkx3
              have e3 : cs3 = [.string (bs v.l)] := hR3.1
              subst e3
              have esz3 : Enc.sz Str = 1 := rfl
              rw [esz3] at hcell3
              have hf0 := hcell3 hx3.hp 0 (.string (bs v.l)) (by decide) rfl
              rw [Nat.add_zero, Nat.mul_one] at hf0
              obtain ⟨fn, tmps, assign, body, hy, hR7⟩ := hY pre3 ((k : Int), (k2 : Int), v) _ F3 hJ3 ⟨_, hstep3⟩
              dsimp only [siteA] at hy
              gi_wp2
              refine hR7.mono ?_
              rintro e W3 ⟨rfl, F', hJ4, hk4, hF4⟩
              have hx4 := hx3.kept hk4 hF4
              gi_wp2
              exact ⟨⟨k3 + 1, _, F', by omega, rfl, hstep3, hJ4, hx4⟩, by simp only [intOf]; omega⟩
            · obtain rfl : k3 = (usesS s).length := by omega
              gi_wp2
              refine ⟨⟨k2 + 1, pre3, F3, by omega, rfl, ?_, hJ3, hx3.mono (hle3.trans hle6)⟩, by simp only [intOf]; omega⟩
              have hdn : ((ens (usesS s)).drop (usesS s).length).map (fun v => ((k : Int), (k2 : Int), v)) = [] := by rw [← hlu, List.drop_length]; rfl
              rw [← hpre3, hdn, List.nil_append]
        · obtain rfl : k2 = x.2.1.length := by omega
          have hq1 := cells_hp hx2.hp hb2 1 (.slice a5 x.2.1.length c5) rfl
          have hq2 := cells_hp hx2.hp hb2 2 (.int .i64 x.2.2.1) rfl
          have hq3 := cells_hp hx2.hp hb2 3 (.string (bs x.2.2.2.1.1.l)) rfl
          have hbt : (bs x.2.2.2.1.1.l).toList = x.2.2.2.1.1.l := (toList_sl _).trans (sl_bs _)
          have hdr : useK k (x.2.1.drop x.2.1.length) x.2.1.length = [] := by rw [List.drop_length, useK]
          rw [hdr, List.nil_append] at hpre2
          by_cases hkd : x.2.2.1 = 2
          · by_cases hve : x.2.2.2.1.1.l = []
            · have hue : useE k x = [] := if_neg fun h => h.2 hve
              rw [hue, List.nil_append] at hpre2
              rw [hve] at hbt
              gi_wp2
              refine ⟨(fun _ h => by cases h), ?_⟩
              gi_wp2
              exact ⟨⟨k + 1, pre2, F2, by omega, rfl, hpre2, hJ2, hx2.mono hle2⟩, by simp only [intOf]; omega⟩
            · have hue : useE k x = [((k : Int), (x.2.1.length : Int), x.2.2.2.1.1)] := if_pos ⟨hkd, hve⟩
              rw [hue, ← List.append_assoc] at hpre2
              have hbn : ¬ (bs x.2.2.2.1.1.l).toList = [] := by rw [hbt]; exact hve
              obtain ⟨fn, tmps, assign, body, hy, hR7⟩ := hY pre2 ((k : Int), (x.2.1.length : Int), x.2.2.2.1.1) _ F2 hJ2 ⟨_, hpre2⟩
              dsimp only [siteA] at hy
              gi_wp2
              refine hR7.mono ?_
              rintro e W3 ⟨rfl, F', hJ4, hk4, hF4⟩
              have hx4 := hx2.kept hk4 hF4
              gi_wp2
              exact ⟨⟨k + 1, _, F', by omega, rfl, hpre2, hJ4, hx4.mono hle2⟩, by simp only [intOf]; omega⟩
          · have hue : useE k x = [] := if_neg fun h => hkd h.1
            rw [hue, List.nil_append] at hpre2
            gi_wp2
            refine ⟨(fun _ h => by cases h), ?_⟩
            gi_wp2
            exact ⟨⟨k + 1, pre2, F2, by omega, rfl, hpre2, hJ2, hx2.mono hle2⟩, by simp only [intOf]; omega⟩
    · obtain rfl : k = p.length := by omega
      gi_wp2
      go_end0
      refine ⟨⟨_, rfl⟩, F, ?_⟩
      have e : pre = useB p 0 := by rw [← hpre, List.drop_length]; simp [useB]
      rw [← e]; exact hJs
end Go.Proofs
end
section
namespace Go.Proofs
open Go.Sy
set_option maxRecDepth 20000
set_option maxHeartbeats 4000000
theorem doesG_frzC {P : Program} {f : FuncId} {H : Hp} {K : SV → St → Hp → Prop} {svs : List SV} {fg : FuncId} {T : TypeId} {cs : List Value}
    (hd : DoesG P f svs [] 0 H (fun x t H1 => x = .fn fg [.ptr 0 0] ∧ t = ⟨[], [(0, .cells T (cs.map .v))], 1⟩ ∧ Le H H1))
    (hK : ∀ g H', Le H H' → H' g = some (.cells cs.toArray T (0, 0)) → K (.fn fg [.v (.pointer (some ⟨g, 0, none⟩))]) ⟨[], [(0, .dead)], 1⟩ H') : DoesG P f svs [] 0 H K := by
  refine ⟨hd.1, fun w ρ hm hl => (hd.2 w ρ hm hl).mono ?_⟩
  rintro ev w' ⟨x, t, H1, ρ', e1, ⟨rfl, rfl, hle⟩, hlt, hm1⟩
  obtain ⟨H2, h1, h2, h3⟩ := freeze_caps [(0, T, cs)] hm1 (fun c hc => by rw [List.mem_singleton.1 hc]; rfl) (by simp)
  have h2 := h2 _ List.mem_cons_self
  refine ⟨_, _, H2, ρ', ?_, hK _ H2 (hle.trans h1) h2, rfl, h3.lkc fun k => ?_⟩
  · rw [e1]; rfl
  · show lk [(0, Bx.dead)] k = lk [(0, Bx.dead), (0, _)] k
    simp only [lk_cons]
    split <;> simp_all
theorem cuses_spec {a : Option Addr} {n c : Nat} {H : Hp} {K : SV → St → Hp → Prop} (hK : ∀ g H', Le H H' → H' g = some (.cells #[.slice a n c] 24 (0, 0)) → K (.fn 133 [.v (.pointer (some ⟨g, 0, none⟩))]) ⟨[], [(0, .dead)], 1⟩ H') :
    DoesG Tryz.prog 81 [.agg [.v (.slice a n c)]] [] 0 H K := by
  refine doesG_frzC (cs := [.slice a n c]) ?_ hK
  refine spec_ofG cx_ok cx_mix Tryz.func81 Tryz.call81 Tryz.ntmps81 Tryz.results81 rfl rfl ?_
  exact ⟨.fn 133 [.ptr 0 0], [(0, .cells 24 [.v (.slice a n c)])], 1, [(0, 0)], by (repeat' (first|exact trivial|refine ⟨?_,?_⟩|exact rfl|assumption)), rfl, rfl, Le.refl _⟩
theorem capp_spec {Z : List Site} (hZl : Z.length ≤ 100000) (hZ : ∀ x ∈ Z, siteR x) {g : Nat} {H : Hp} {K : Value → Hp → Prop} (hit : ∀ H1, Le H H1 → IterH Tryz.prog 133 #[.pointer (some ⟨g, 0, none⟩)] siteA Z H1)
    (hK : ∀ a1 n1 c1 H', Le H H' → RL (α := Site) H' a1 n1 c1 Z → K (.slice a1 n1 c1) H') : Does Tryz.prog 132 [.slice none 0 0, .func (.func 133) #[] #[.pointer (some ⟨g, 0, none⟩)]] H K := by
  refine spec_ofM cx_ok cx_mix rfl Tryz.func132 Tryz.call132 Tryz.ntmps132 Tryz.results132 rfl rfl ?_
  refine range_rawV ?_ ?_ rfl [.pointer (some ⟨g, 0, none⟩)] Z (fun x : Site => .agg #[.int .i64 x.1, .int .i64 x.2.1, .string (bs x.2.2.l)]) rfl Tryz.call133 (hit H (Le.refl H)) (by kernel_rfl)
    1 [(2, .ptr 0 0)]
    (fun y : List Site => [(0, .cells 81 [.own 1]), (1, .row 85 3 (zRows y))]) 2
    (fun pre y H' => Le H H' ∧ y = pre) rfl ?_ ?_ ?_ ?_
  · exact ⟨cx_ok.tt, cx_ok.eqs⟩
  · exact cx_mix
  · rintro pre y H3 H4 hle ⟨h1, h2⟩
    exact ⟨h1.trans hle, h2⟩
  · refine ⟨[], [(0, 0)], ?_, fun H' hle => ⟨hle, rfl⟩⟩
    (repeat' (first|exact trivial|refine ⟨?_,?_⟩|exact rfl|assumption))
  · rintro pre x y H3 hle3 ⟨_, rfl⟩ hpre
    have hpl := hpre.length_le
    have e5 : zRows (y ++ [x]) = zRows y ++ [[.int .i64 x.1, .int .i64 x.2.1, .string (bs x.2.2.l)]] := by rw [zRows, zRows, List.map_append]; rfl
    have hyl : (zRows y).length = y.length := List.length_map _
    rw [List.length_append, List.length_singleton] at hpl
    refine ⟨⟨by show (_ + 1) * 32 ≤ 140737488355328; omega, by show _ + 1 ≤ 9223372036854775807; omega⟩, ?_⟩
    refine ⟨rfl, y ++ [x], [(0, 0), (1, 4)], ?_, hle3, rfl⟩
    rw [e5]
    (repeat' (first|exact trivial|refine ⟨?_,?_⟩|exact rfl|assumption))
  · rintro y H3 hle3 ⟨_, rfl⟩
    intro Hm hle4 hcl v H6 hle6 hv6
    refine of_row_k (α := Site) hv6 (rc_zRows hZ) fun d1 d2 d3 e1 hr1 => ?_
    subst e1
    exact hK _ _ _ _ (hle4.trans hle6.le) hr1
theorem ccoll_spec {Z : List Site} (hZl : Z.length ≤ 100000) (hZ : ∀ x ∈ Z, siteR x) {g : Nat} {H : Hp} {K : Value → Hp → Prop} (hit : ∀ H1, Le H H1 → IterH Tryz.prog 133 #[.pointer (some ⟨g, 0, none⟩)] siteA Z H1)
    (hK : ∀ a1 n1 c1 H', Le H H' → RL (α := Site) H' a1 n1 c1 Z → K (.slice a1 n1 c1) H') : Does Tryz.prog 80 [.func (.func 133) #[] #[.pointer (some ⟨g, 0, none⟩)]] H K := by
  refine spec_of cx_ok cx_mix rfl Tryz.func80 Tryz.call80 Tryz.ntmps80 Tryz.results80 rfl rfl ?_
  refine capp_spec hZl hZ hit fun a1 n1 c1 H1 hle1 hr1 => ?_
  exact hK _ _ _ _ hle1 hr1
def usesP (p : Prog) : List Site := useB p 0
theorem chuses_spec {p : Prog} (hp : p.length ≤ 12) (hl : ∀ b ∈ p, b.2.1.length ≤ 100000) (hZl : (usesP p).length ≤ 100000) (hZ : ∀ x ∈ usesP p, siteR x) {a : Option Addr} {n c : Nat} {H : Hp} {K : Value → Hp → Prop} (ha : RL H a n c p)
    (hK : ∀ a1 n1 c1 H', Le H H' → RL (α := Site) H' a1 n1 c1 (usesP p) → K (.slice a1 n1 c1) H') : Does Tryz.prog 31 [.agg #[.slice a n c]] H K := by
  refine spec_of cx_ok cx_mix rfl Tryz.func31 Tryz.call31 Tryz.ntmps31 Tryz.results31 rfl rfl ?_
  refine ⟨[], rfl, cuses_spec fun g H1 hle1 hg => ?_⟩
  refine ccoll_spec hZl hZ (fun H2 hle2 => uses_iter (by omega) hl (ha.up (hle1.trans hle2)) (hle2 _ _ hg)) fun a1 n1 c1 H2 hle2 hr2 => ?_
  exact hK _ _ _ _ (hle1.trans hle2) hr2
end Go.Proofs
end
section
namespace Go.Proofs
open Go.Sy
set_option maxRecDepth 20000
set_option maxHeartbeats 4000000
theorem crof_spec {v : Bs8} {a : Option Addr} {n c : Nat} {H : Hp} {K : SV → St → Hp → Prop} (hK : K (.fn 160 [.ptr 0 0, .ptr 1 0]) ⟨[], [(0, .cells 76 [.v (.slice a n c)]), (1, .cells 9 [.v (.string (bs v))])], 2⟩ H) :
    DoesG Tryz.prog 102 [.v (.slice a n c), .v (.string (bs v))] [] 0 H K := by
  refine spec_ofG cx_ok cx_mix Tryz.func102 Tryz.call102 Tryz.ntmps102 Tryz.results102 rfl rfl ?_
  exact ⟨.fn 160 [.ptr 0 0, .ptr 1 0], [(0, .cells 76 [.v (.slice a n c)]), (1, .cells 9 [.v (.string (bs v))])], 2, [(0, 0), (1, 1)], by (repeat' (first|exact trivial|refine ⟨?_,?_⟩|exact rfl|assumption)), hK⟩
theorem ofL_mem {v : Bs8} : ∀ (l : List Site) (i : Nat) (x : Int), x ∈ ofL v l i → ∃ k s, x = ((i + k : Nat) : Int) ∧ l[k]? = some s ∧ s.2.2.l = v
  | [], _, _, h => by cases h
  | s :: r, i, x, h => by
    rw [ofL] at h
    rcases List.mem_append.1 h with h | h
    · split at h
      · rename_i hv
        rw [List.mem_singleton] at h
        exact ⟨0, s, h, rfl, hv⟩
      · cases h
    · obtain ⟨k, t, h1, h2, h3⟩ := ofL_mem r (i + 1) x h
      exact ⟨k + 1, t, by rw [h1]; congr 1; omega, h2, h3⟩
theorem ofL_at {v : Bs8} : ∀ (l : List Site) (i k : Nat) (s : Site), l[k]? = some s → s.2.2.l = v → ((i + k : Nat) : Int) ∈ ofL v l i
  | [], i, k, s, h, _ => by simp at h
  | t :: r, i, 0, s, h, hv => by
    rw [List.getElem?_cons_zero] at h
    cases h
    rw [ofL, if_pos hv]; simp
  | t :: r, i, k + 1, s, h, hv => by
    rw [List.getElem?_cons_succ] at h
    have := ofL_at r (i + 1) k s h hv
    rw [show i + 1 + k = i + (k + 1) by omega] at this
    rw [ofL]
    exact List.mem_append_right _ this
theorem ofL_len (v : Bs8) : ∀ (l : List Site) (i : Nat), (ofL v l i).length ≤ l.length
  | [], _ => Nat.le_refl _
  | s :: r, i => by
    have h := ofL_len v r (i + 1)
    have h2 : (if s.2.2.l = v then [(i : Int)] else []).length ≤ 1 := by split <;> simp
    rw [ofL, List.length_append, List.length_cons]
    omega
def stepL (Z : List Site) (b k o x : Int) : Int := if (Z[x.toNat]?.getD siteN).1 = b ∧ (Z[x.toNat]?.getD siteN).2.1 < k then x else o
theorem lastG_of (Z : List Site) (b k : Int) (v : Bs8) : ∀ (l : List Site) (i : Nat) (o : Int), l = Z.drop i → lastG b k v l i o = (ofL v l i).foldl (stepL Z b k) o
  | [], _, _, _ => rfl
  | x :: r, i, o, h => by
    have hi : Z[i]? = some x := by
      have e : (x :: r)[0]? = (Z.drop i)[0]? := by rw [h]
      rw [List.getElem?_cons_zero, List.getElem?_drop] at e
      exact e.symm
    have hr : r = Z.drop (i + 1) := by
      have e : (x :: r).drop 1 = (Z.drop i).drop 1 := by rw [h]
      rw [List.drop_drop] at e
      exact e
    rw [lastG, lastG_of Z b k v r (i + 1) _ hr, ofL, List.foldl_append]
    congr 1
    by_cases hv : x.2.2.l = v
    · rw [if_pos hv, List.foldl_cons, List.foldl_nil, stepL, Int.toNat_natCast, hi, Option.getD_some]
      by_cases h1 : x.1 = b <;> by_cases h2 : x.2.1 < k <;> simp [hitS, hv, h1, h2]
    · rw [if_neg hv, List.foldl_nil, if_neg]
      simp [hitS, hv]
theorem lastS_of (Z : List Site) (b k : Int) (v : Bs8) : lastS Z b k v = (ofL v Z 0).foldl (stepL Z b k) (-1) := lastG_of Z b k v Z 0 (-1) rfl
def lastV (o : Int) : Int × Bool := (if 0 ≤ o then o else 0, decide (0 ≤ o))
theorem clast_spec {Z : List Site} (hreach : Z.length ≤ 100000) {b k : Int} {v : Bs8} {a : Option Addr} {n c : Nat} {H : Hp} {K : Value → Hp → Prop} (ha : RL (α := Site) H a n c Z)
    (hK : ∀ H', Le H H' → K (.tuple #[.int .i64 (lastV (lastS Z b k v)).1, .bool (lastV (lastS Z b k v)).2]) H') : Does Tryz.prog 66 [.slice a n c, .int .i64 b, .int .i64 k, .string (bs v)] H K := by
  have hn := ha.n_eq
  subst hn
  refine spec_ofM cx_ok cx_mix rfl Tryz.func66 Tryz.call66 Tryz.ntmps66 Tryz.results66 rfl rfl ?_
  refine .inl ⟨0, ?_⟩
  refine ⟨[], rfl, crof_spec ?_⟩
  refine range_raw ?_ ?_ rfl [(5, 76, [.slice a Z.length c]), (6, 9, [.string (bs v)])] (ofL v Z 0) (fun x : Int => Value.int .i64 x) rfl Tryz.call160 ?_ (show [5, 6].Nodup by decide) ?_ (by kernel_rfl)
    5 [(3, .v (.string (bs v))), (4, .ptr 0 0), (5, .ptr 1 0), (6, .ptr 2 0), (10, .ptr 3 0), (11, .ptr 4 0)]
    (fun y : Int => [(0, .cells 76 [.v (.slice a Z.length c)]), (1, .cells 3 [.v (.int .i64 b)]), (2, .cells 3 [.v (.int .i64 k)]), (3, .cells 3 [.v (.int .i64 (lastV y).1)]), (4, .cells 4 [.v (.bool (lastV y).2)])]) 5
    (fun pre y H' => Le H H' ∧ y = pre.foldl (stepL Z b k) (-1)) rfl ?_ ?_ ?_ ?_
  · exact ⟨cx_ok.tt, cx_ok.eqs⟩
  · exact cx_mix
  · intro q hq
    rcases List.mem_cons.1 hq with rfl | hq
    · rfl
    · rw [List.mem_singleton] at hq; subst hq; rfl
  · intro g H1 hle h1
    exact of_iter hreach (ha.up hle) (h1 _ (List.mem_cons_self)) (h1 _ (List.mem_cons_of_mem _ List.mem_cons_self))
  · rintro pre y H1 H2 hle ⟨h1, h2⟩
    exact ⟨h1.trans hle, h2⟩
  · refine ⟨-1, [(0, 0), (1, 1), (2, 2), (3, 3), (4, 4)], ?_, fun H' hle => ⟨hle, rfl⟩⟩
    (repeat' (first|exact trivial|refine ⟨?_,?_⟩|exact rfl|assumption))
  · rintro pre x y H1 hle1 ⟨_, hy⟩ hpre
    obtain ⟨j, s, rfl, hj, hv⟩ := ofL_mem Z 0 x (hpre.subset (by simp))
    rw [Nat.zero_add] at hpre ⊢
    have hjl := (List.getElem?_eq_some_iff.1 hj).1
    have hst : (pre ++ [((j : Nat) : Int)]).foldl (stepL Z b k) (-1) = if s.1 = b ∧ s.2.1 < k then (j : Int) else y := by
      rw [List.foldl_append, ← hy, List.foldl_cons, List.foldl_nil, stepL, Int.toNat_natCast, hj, Option.getD_some]
    refine site_k (ha.up hle1) hj fun ad q1 hh _ => ?_
    refine ⟨some ([], [0, 1, 2, 3, 4, 5, 6, 7, 8, 9, 10, 11, 12, 13, 14, 15]), by kernel_rfl, ?_⟩
    refine ⟨ad, ⟨by omega, by omega, q1⟩, ?_⟩
    refine ⟨_, hh, ?_⟩
    refine ⟨fun h1 => ?_, fun h1 => ?_⟩
    · have h1 : s.1 = b := nf h1
      refine ⟨ad, ⟨by omega, by omega, q1⟩, ?_⟩
      refine ⟨_, hh, ?_⟩
      refine ⟨fun h2 => ?_, fun h2 => ?_⟩
      · have h2 : ¬ s.2.1 < k := by have := dt h2; omega
        refine ⟨rfl, y, [(0, 0), (1, 1), (2, 2), (3, 3), (4, 4)], ?_, hle1, by rw [hst, if_neg (fun h => h2 h.2)]⟩
        (repeat' (first|exact trivial|refine ⟨?_,?_⟩|exact rfl|assumption))
      · have h2 : s.2.1 < k := by have := df h2; omega
        have e1 : (lastV (j : Nat)).1 = (j : Nat) := by rw [lastV, if_pos (by omega)]
        have e2 : (lastV (j : Nat)).2 = true := decide_eq_true (p := (0 : Int) ≤ (j : Nat)) (Int.natCast_nonneg j)
        refine ⟨rfl, (j : Nat), [(0, 0), (1, 1), (2, 2), (3, 3), (4, 4)], ?_, hle1, by rw [hst, if_pos ⟨h1, h2⟩]⟩
        rw [e1, e2]
        (repeat' (first|exact trivial|refine ⟨?_,?_⟩|exact rfl|assumption))
    · have h1 : ¬ s.1 = b := nt h1
      refine ⟨rfl, y, [(0, 0), (1, 1), (2, 2), (3, 3), (4, 4)], ?_, hle1, by rw [hst, if_neg (fun h => h1 h.1)]⟩
      (repeat' (first|exact trivial|refine ⟨?_,?_⟩|exact rfl|assumption))
  · rintro y H1 hle1 ⟨_, hy⟩
    refine ⟨some ([], [0, 1, 2, 3]), by kernel_rfl, ?_⟩
    intro Hm hle2 hcl
    rw [hy, ← lastS_of]
    exact hK Hm hle2
end Go.Proofs
end
section
namespace Go.Proofs
open Go.Sy
set_option maxRecDepth 20000
theorem lastG_ge (b k : Int) (v : Bs8) : ∀ (l : List Site) (i : Nat) (o : Int), lastG b k v l i o = o ∨ ∃ j x, lastG b k v l i o = ((i + j : Nat) : Int) ∧ l[j]? = some x ∧ hitS b k v x = true
  | [], _, _ => .inl rfl
  | x :: r, i, o => by
    rw [lastG]
    rcases lastG_ge b k v r (i + 1) (if hitS b k v x = true then (i : Int) else o) with h | ⟨j, y, h1, h2, h3⟩
    · rw [h]
      by_cases hx : hitS b k v x = true
      · rw [if_pos hx]; exact .inr ⟨0, x, rfl, rfl, hx⟩
      · rw [if_neg hx]; exact .inl rfl
    · exact .inr ⟨j + 1, y, by rw [h1]; congr 1; omega, h2, h3⟩
theorem lastS_hit {Z : List Site} {b k : Int} {v : Bs8} (h : 0 ≤ lastS Z b k v) : ∃ j x, lastS Z b k v = (j : Nat) ∧ Z[j]? = some x ∧ hitS b k v x = true := by
  rcases lastG_ge b k v Z 0 (-1) with h1 | ⟨j, x, h1, h2, h3⟩
  · have h1 : lastS Z b k v = -1 := h1
    omega
  · exact ⟨j, x, by rw [lastS, h1, Nat.zero_add], h2, h3⟩
theorem hitS_is {b k : Int} {v : Bs8} {x : Site} : hitS b k v x = true ↔ x.1 = b ∧ x.2.1 < k ∧ x.2.2.l = v := by
  unfold hitS
  simp only [Bool.and_eq_true, decide_eq_true_eq, and_assoc]
theorem siteL_mem (i : Nat) : ∀ (l : List Stmt) (k : Nat) (x : Site), x ∈ siteL i l k → x.1 = (i : Int) ∧ ∃ j s, x.2.1 = ((k + j : Nat) : Int) ∧ l[j]? = some s ∧ defS s = true ∧ x.2.2 = s.2.1
  | [], _, _, h => by cases h
  | s :: r, k, x, h => by
    rw [siteL] at h
    rcases List.mem_append.1 h with h | h
    · unfold siteK at h
      split at h
      · rename_i hd
        rw [List.mem_singleton] at h
        subst h
        exact ⟨rfl, 0, s, rfl, rfl, hd, rfl⟩
      · cases h
    · obtain ⟨h1, j, t, h2, h3, h4, h5⟩ := siteL_mem i r (k + 1) x h
      exact ⟨h1, j + 1, t, by rw [h2]; congr 1; omega, h3, h4, h5⟩
theorem siteP_mem : ∀ (p : Prog) (i : Nat) (x : Site), x ∈ siteP p i → ∃ m b j s, x.1 = ((i + m : Nat) : Int) ∧ p[m]? = some b ∧ x.2.1 = (j : Nat) ∧ b.2.1[j]? = some s ∧ defS s = true ∧ x.2.2 = s.2.1
  | [], _, _, h => by cases h
  | b :: r, i, x, h => by
    rw [siteP] at h
    rcases List.mem_append.1 h with h | h
    · obtain ⟨h1, j, s, h2, h3, h4, h5⟩ := siteL_mem i b.2.1 0 x h
      rw [Nat.zero_add] at h2
      exact ⟨0, b, j, s, h1, rfl, h2, h3, h4, h5⟩
    · obtain ⟨m, c, j, s, h1, h2, h3⟩ := siteP_mem r (i + 1) x h
      exact ⟨m + 1, c, j, s, by rw [h1]; congr 1; omega, h2, h3⟩
theorem sites_at {p : Prog} {j : Nat} {x : Site} (h : (sitesOf p)[j]? = some x) : (j < (varsOf p).length ∧ x = (-1, 0, ⟨x.2.2.l⟩) ∧ (varsOf p)[j]? = some x.2.2.l) ∨
    ((varsOf p).length ≤ j ∧ ∃ m b k s, x.1 = (m : Nat) ∧ p[m]? = some b ∧ x.2.1 = (k : Nat) ∧ b.2.1[k]? = some s ∧ defS s = true ∧ x.2.2 = s.2.1) := by
  rw [sitesOf] at h
  by_cases hj : j < (varsOf p).length
  · rw [List.getElem?_append_left (by rw [site0, List.length_map]; exact hj), site0, List.getElem?_map] at h
    obtain ⟨v, hv, rfl⟩ := Option.map_eq_some_iff.1 h
    exact .inl ⟨hj, rfl, hv⟩
  · rw [List.getElem?_append_right (by rw [site0, List.length_map]; omega)] at h
    obtain ⟨m, b, k, s, h1, h2⟩ := siteP_mem p 0 x (List.mem_of_getElem? h)
    rw [Nat.zero_add] at h1
    exact .inr ⟨by omega, m, b, k, s, h1, h2⟩
theorem def_var {s : Stmt} (h : stmtB s = true) (hd : defS s = true) : s.2.1.l ≠ [] := by
  rcases stmtB_var h with h1 | h1 | h1
  · exact h1.2.2.2
  · exact h1.2
  · unfold defS at hd
    rw [decide_eq_false (by omega : ¬ s.1 = 1), decide_eq_false (by omega : ¬ s.1 = 2)] at hd
    cases hd
theorem def_vars {p : Prog} (he : checkE p = 0) {b : Block} (hb : b ∈ p) {s : Stmt} (hs : s ∈ b.2.1) (hd : defS s = true) : s.2.1.l ∈ varsOf p := by
  have hB := (check_facts he).2.2.2 b hb
  rw [blockB, Bool.and_eq_true] at hB
  exact ((vars_has p nil_sorted).1 b hb).1 s hs s.2.1.l (by simp [sVars]) (def_var (List.all_eq_true.1 hB.2 s hs) hd)
def genP (Z : List Site) (b nB : Int) (l : List Stmt) : List Int := l.flatMap fun s => if 0 ≤ lastS Z b nB s.2.1.l then [lastS Z b nB s.2.1.l] else []
def killP (Z : List Site) (b nB : Int) (l : List Stmt) : List Int := l.flatMap fun s => if 0 ≤ lastS Z b nB s.2.1.l then ofL s.2.1.l Z 0 else []
def ctrF (Z : List Site) (i : Nat) (b : Block) : Wd × Wd := (ofB Z.length (genP Z i b.2.1.length b.2.1), bDiff (ofB Z.length (killP Z i b.2.1.length b.2.1)) (ofB Z.length (genP Z i b.2.1.length b.2.1)))
theorem ofB_ext {w : Nat} {l l' : List Int} (h : ∀ x, x ∈ l ↔ x ∈ l') : ofB w l = ofB w l' := by
  refine bits_ext (by rw [ofB_len, ofB_len]) fun m => ?_
  rw [bit_of, bit_of]
  congr 1
  rw [h]
theorem mem_genP {Z : List Site} {b nB x : Int} {l : List Stmt} : x ∈ genP Z b nB l ↔ ∃ s ∈ l, 0 ≤ lastS Z b nB s.2.1.l ∧ x = lastS Z b nB s.2.1.l := by
  rw [genP, List.mem_flatMap]
  constructor
  · rintro ⟨s, hs, h⟩
    split at h
    · rename_i h0; exact ⟨s, hs, h0, List.mem_singleton.1 h⟩
    · cases h
  · rintro ⟨s, hs, h0, h⟩
    exact ⟨s, hs, by rw [if_pos h0]; exact List.mem_singleton.2 h⟩
theorem mem_killP {Z : List Site} {b nB x : Int} {l : List Stmt} : x ∈ killP Z b nB l ↔ ∃ s ∈ l, 0 ≤ lastS Z b nB s.2.1.l ∧ x ∈ ofL s.2.1.l Z 0 := by
  rw [killP, List.mem_flatMap]
  constructor
  · rintro ⟨s, hs, h⟩
    split at h
    · rename_i h0; exact ⟨s, hs, h0, h⟩
    · cases h
  · rintro ⟨s, hs, h0, h⟩
    exact ⟨s, hs, by rw [if_pos h0]; exact h⟩
theorem mem_genV {Z : List Site} {b nB x : Int} {V : List Bs8} : x ∈ genV Z b nB V ↔ ∃ v ∈ V, 0 ≤ lastS Z b nB v ∧ x = lastS Z b nB v := by
  rw [genV, List.mem_flatMap]
  constructor
  · rintro ⟨v, hv, h⟩
    split at h
    · cases h
    · rename_i h0; exact ⟨v, hv, by omega, List.mem_singleton.1 h⟩
  · rintro ⟨v, hv, h0, h⟩
    exact ⟨v, hv, by rw [if_neg (by omega)]; exact List.mem_singleton.2 h⟩
theorem mem_killV {Z : List Site} {b nB x : Int} {V : List Bs8} : x ∈ killV Z b nB V ↔ ∃ v ∈ V, 0 ≤ lastS Z b nB v ∧ x ≠ lastS Z b nB v ∧ x ∈ ofL v Z 0 := by
  have hk : ∀ v at', x ∈ killO Z v at' Z.length ↔ x ≠ at' ∧ x ∈ ofL v Z 0 := fun v at' => by
    rw [killO, List.mem_map]
    constructor
    · rintro ⟨j, hj, rfl⟩
      rw [List.mem_filter, List.mem_range, Bool.and_eq_true, decide_eq_true_eq, Bool.not_eq_true', decide_eq_false_iff_not] at hj
      obtain ⟨h1, h2, h3⟩ := hj
      rw [List.getElem?_eq_getElem h1, Option.getD_some] at h2
      refine ⟨h3, ?_⟩
      have := ofL_at Z 0 j _ (List.getElem?_eq_getElem h1) h2
      rwa [Nat.zero_add] at this
    · rintro ⟨h1, h2⟩
      obtain ⟨j, s, rfl, h3, h4⟩ := ofL_mem Z 0 x h2
      rw [Nat.zero_add] at h1 ⊢
      have hlt := (List.getElem?_eq_some_iff.1 h3).1
      refine ⟨j, ?_, rfl⟩
      rw [List.mem_filter, List.mem_range, Bool.and_eq_true, decide_eq_true_eq, Bool.not_eq_true', decide_eq_false_iff_not]
      exact ⟨hlt, by rw [h3]; exact h4, h1⟩
  rw [killV, List.mem_flatMap]
  constructor
  · rintro ⟨v, hv, h⟩
    split at h
    · cases h
    · rename_i h0
      obtain ⟨h1, h2⟩ := (hk v _).1 h
      exact ⟨v, hv, by omega, h1, h2⟩
  · rintro ⟨v, hv, h0, h1, h2⟩
    exact ⟨v, hv, by rw [if_neg (by omega)]; exact (hk v _).2 ⟨h1, h2⟩⟩
theorem ofL_var {v w : Bs8} {Z : List Site} {x : Int} (h : x ∈ ofL v Z 0) (h' : x ∈ ofL w Z 0) : v = w := by
  obtain ⟨j, s, h1, h2, h3⟩ := ofL_mem Z 0 x h
  obtain ⟨j', s', h1', h2', h3'⟩ := ofL_mem Z 0 x h'
  have e : j = j' := by omega
  subst e
  rw [h2] at h2'
  cases h2'
  rw [← h3, ← h3']
theorem lastS_in_of {Z : List Site} {b k : Int} {v : Bs8} (h : 0 ≤ lastS Z b k v) : lastS Z b k v ∈ ofL v Z 0 := by
  obtain ⟨j, x, h1, h2, h3⟩ := lastS_hit h
  have := ofL_at Z 0 j x h2 (hitS_is.1 h3).2.2
  rw [Nat.zero_add] at this
  rw [h1]; exact this
theorem last_who {p : Prog} (he : checkE p = 0) {i : Nat} {b : Block} (hb : p[i]? = some b) {v : Bs8} {k : Int} (h : 0 ≤ lastS (sitesOf p) i k v) : v ∈ varsOf p ∧ ∃ s ∈ b.2.1, s.2.1.l = v := by
  obtain ⟨j, x, h1, h2, h3⟩ := lastS_hit h
  obtain ⟨g1, g2, g3⟩ := hitS_is.1 h3
  rcases sites_at h2 with ⟨_, h4, _⟩ | ⟨_, m, c, k', s, h4, h5, _, h6, h7, h8⟩
  · rw [h4] at g1
    have g1 : (-1 : Int) = (i : Nat) := g1
    omega
  · have e : m = i := by omega
    subst e
    rw [hb] at h5
    cases h5
    have hs := List.mem_of_getElem? h6
    rw [h8] at g3
    exact ⟨g3 ▸ def_vars he (List.mem_of_getElem? hb) hs h7, s, hs, g3⟩
theorem ctrF_eq {p : Prog} (he : checkE p = 0) {i : Nat} {b : Block} (hb : p[i]? = some b) : ctrF (sitesOf p) i b = rchF (sitesOf p) (varsOf p) i b := by
  have hg : ∀ x, x ∈ genP (sitesOf p) i b.2.1.length b.2.1 ↔ x ∈ genV (sitesOf p) i b.2.1.length (varsOf p) := fun x => by
    rw [mem_genP, mem_genV]
    constructor
    · rintro ⟨s, _, h0, h⟩
      exact ⟨_, (last_who he hb h0).1, h0, h⟩
    · rintro ⟨v, _, h0, h⟩
      obtain ⟨s, hs, rfl⟩ := (last_who he hb h0).2
      exact ⟨s, hs, h0, h⟩
  have hge := ofB_ext (w := (sitesOf p).length) hg
  rw [ctrF, rchF, hge]
  congr 1
  refine bits_ext (by rw [(bDiff_ok (ofB_ok _ _) (ofB_ok _ _)).1, ofB_len]) fun m => ?_
  rw [bit_bDiff (by rw [ofB_len, ofB_len]), bit_of, bit_of, bit_of]
  by_cases hm : m < (sitesOf p).length
  · simp only [hm, true_and]
    have key : ((m : Int) ∈ killP (sitesOf p) i b.2.1.length b.2.1 ∧ ¬ (m : Int) ∈ genV (sitesOf p) i b.2.1.length (varsOf p)) ↔ (m : Int) ∈ killV (sitesOf p) i b.2.1.length (varsOf p) := by
      rw [mem_killP, mem_genV, mem_killV]
      constructor
      · rintro ⟨⟨s, hs, h0, h⟩, h2⟩
        have hv := (last_who he hb h0).1
        exact ⟨_, hv, h0, fun e => h2 ⟨_, hv, h0, e⟩, h⟩
      · rintro ⟨v, hv, h0, h1, h2⟩
        obtain ⟨s, hs, rfl⟩ := (last_who he hb h0).2
        refine ⟨⟨s, hs, h0, h2⟩, ?_⟩
        rintro ⟨v', _, h0', e⟩
        have := lastS_in_of h0'
        rw [← e] at this
        have := ofL_var this h2
        subst this
        exact h1 e
    by_cases h1 : (m : Int) ∈ killP (sitesOf p) i b.2.1.length b.2.1 <;> by_cases h2 : (m : Int) ∈ genV (sitesOf p) i b.2.1.length (varsOf p) <;> by_cases h3 : (m : Int) ∈ killV (sitesOf p) i b.2.1.length (varsOf p) <;> simp [h1, h2, h3] at key ⊢
  · simp [hm]
end Go.Proofs
end
section
namespace Go.Proofs
open Go.Sy
set_option maxRecDepth 20000
set_option maxHeartbeats 4000000
structure FamG (Z : List Site) (i : Nat) (l : List Stmt) (A B : Nat → List Int) : Prop where
  a0 : A 0 = []
  b0 : B 0 = []
  an : ∀ k s, l[k]? = some s → ¬ 0 ≤ lastS Z i l.length s.2.1.l → A (k + 1) = A k ∧ B (k + 1) = B k
  ay : ∀ k s, l[k]? = some s → 0 ≤ lastS Z i l.length s.2.1.l → A (k + 1) = A k ++ [lastS Z i l.length s.2.1.l] ∧ B (k + 1) = B k ++ ofL s.2.1.l Z 0
  ae : A l.length = genP Z i l.length l
  be : B l.length = killP Z i l.length l
  al : ∀ k, (A k).length ≤ k
  bl : ∀ k, (B k).length ≤ k * Z.length
theorem famG_k {P : Prop} (Z : List Site) (i : Nat) (l : List Stmt) (kk : ∀ A B, FamG Z i l A B → P) : P := by
  have hf : ∀ {f : Stmt → List Int} {k : Nat} {s : Stmt}, l[k]? = some s → (l.take (k + 1)).flatMap f = (l.take k).flatMap f ++ f s := fun h => by
    rw [List.take_add_one, h, Option.toList_some, List.flatMap_append, List.flatMap_singleton]
  have hlen : ∀ {f : Stmt → List Int} {c : Nat}, (∀ s, (f s).length ≤ c) → ∀ r : List Stmt, (r.flatMap f).length ≤ r.length * c := fun {f c} hc r => by
    induction r with
    | nil => simp
    | cons s r ih =>
      have := hc s
      rw [List.flatMap_cons, List.length_append, List.length_cons, Nat.succ_mul]
      omega
  refine kk (fun k => genP Z i l.length (l.take k)) (fun k => killP Z i l.length (l.take k)) ⟨rfl, rfl, fun k s hs h => ?_, fun k s hs h => ?_, ?_, ?_, fun k => ?_, fun k => ?_⟩
  · constructor
    · rw [genP, genP, hf hs, if_neg h, List.append_nil]
    · rw [killP, killP, hf hs, if_neg h, List.append_nil]
  · constructor
    · rw [genP, genP, hf hs, if_pos h]
    · rw [killP, killP, hf hs, if_pos h]
  · rw [List.take_length]
  · rw [List.take_length]
  · have h := hlen (f := fun s : Stmt => if 0 ≤ lastS Z i l.length s.2.1.l then [lastS Z i l.length s.2.1.l] else []) (c := 1) (fun s => by split <;> simp) (l.take k)
    rw [List.length_take] at h
    show (genP Z i l.length (l.take k)).length ≤ k
    rw [genP]
    omega
  · have h := hlen (f := fun s : Stmt => if 0 ≤ lastS Z i l.length s.2.1.l then ofL s.2.1.l Z 0 else []) (c := Z.length) (fun s => by
      split
      · exact ofL_len _ _ _
      · simp) (l.take k)
    show (killP Z i l.length (l.take k)).length ≤ k * Z.length
    rw [killP]
    refine Nat.le_trans h (Nat.mul_le_mul_right _ ?_)
    rw [List.length_take]; omega
theorem ctrans_spec {Z : List Site} (hZ : Z.length ≤ 576) {i : Nat} {b : Block} (hb : b.2.1.length ≤ 512) {a la : Option Addr} {n c ln lc : Nat} {H : Hp} {K : Value → Hp → Prop} (ha : RL (α := Site) H a n c Z) (hl : RL H la ln lc b.2.1)
    (hK : ∀ z H', Le H H' → Bt.TrR H' (ctrF Z i b) z → K (Bt.trA z) H') : Does Tryz.prog 50 [.slice a n c, .int .i64 (i : Nat), blkA (.slice la ln lc) b] H K := by
  have hn := ha.n_eq
  subst hn
  have hln := hl.n_eq
  subst hln
  refine famG_k Z i b.2.1 fun A B hF => ?_
  have hAl := hF.al
  have hBl := hF.bl
  refine spec_ofM cx_ok cx_mix rfl Tryz.func50 Tryz.call50 Tryz.ntmps50 Tryz.results50 rfl rfl ?_
  refine ⟨Nat, fun k => ⟨[(0, .v (.slice a Z.length c)), (1, .v (.int .i64 (i : Nat))), (5, .ptr 0 0), (6, .ptr 1 0), (7, .own 3), (8, .ptr 2 0), (16, .v (.slice la b.2.1.length lc)), (17, .v (.int .i64 (b.2.1.length : Nat))), (18, .v (.int .i64 k))],
      [(0, .cells 57 (vL (blkL (.slice la b.2.1.length lc) b))), (1, .cells 109 [.v (.slice none 0 0), .v (.slice none 0 0), .v (.slice none 0 0)]), (2, .cells 28 [.own 4]), (3, .row 3 1 (iRows (A k))), (4, .row 3 1 (iRows (B k)))], 5⟩,
    fun k H' => Le H H' ∧ k ≤ b.2.1.length, fun k => b.2.1.length - k, ⟨0, [(0, 0), (1, 1), (2, 2)], ?_, Le.refl _, Nat.zero_le _⟩, ?_⟩
  · have e1 : iRows (A 0) = [] := by rw [hF.a0]; rfl
    have e2 : iRows (B 0) = [] := by rw [hF.b0]; rfl
    (repeat' (first|exact trivial|refine ⟨?_,?_⟩|exact rfl|assumption))
  rintro k H1 _ ⟨hle1, hk⟩
  refine ⟨fun h => ?_, fun h => ?_⟩
  · have hlt : k < b.2.1.length := by have := dt h; omega
    refine name_k b.2.1[k] fun s hs => ?_
    have hss : b.2.1[k]? = some s := by rw [hs]; exact List.getElem?_eq_getElem hlt
    refine stmt_k (hl.up hle1) hss fun ad e1 hh hsR => ?_
    refine ⟨ad, ⟨by omega, by omega, e1⟩, ?_⟩
    refine ⟨_, hh, ?_⟩
    refine clast_spec (by omega) (ha.up hle1) fun _ _ => ?_
    refine ⟨fun h => ?_, fun h => ?_⟩
    · have h0 : ¬ 0 ≤ lastS Z i b.2.1.length s.2.1.l := by have := nt h; exact this
      obtain ⟨eA, eB⟩ := hF.an k s hss h0
      have e1 : iRows (A k) = iRows (A (k + 1)) := by rw [eA]
      have e2 : iRows (B k) = iRows (B (k + 1)) := by rw [eB]
      refine ⟨⟨by omega, by omega⟩, k + 1, [(0, 0), (1, 1), (2, 2), (3, 3), (4, 4)], ?_, ⟨hle1, hlt⟩, by dsimp only; omega⟩
      (repeat' (first|exact trivial|refine ⟨?_,?_⟩|exact rfl|assumption))
    · have h0 : 0 ≤ lastS Z i b.2.1.length s.2.1.l := by have := nf h; exact this
      obtain ⟨eA, eB⟩ := hF.ay k s hss h0
      have hin := lastS_in Z i b.2.1.length s.2.1.l
      have hAk := hAl k
      have hBk : (B k).length ≤ 294912 := Nat.le_trans (hBl k) (Nat.le_trans (Nat.mul_le_mul (show k ≤ 512 by omega) hZ) (by decide))
      have hAl1 : (iRows (A k)).length = (A k).length := List.length_map _
      refine ⟨⟨by show (_ + 1) * 8 ≤ 140737488355328; omega, by show _ + 1 ≤ 9223372036854775807; omega⟩, ?_⟩
      refine ⟨[], rfl, crof_spec ?_⟩
      have eR : iRows (A k) ++ [[Value.int .i64 (lastV (lastS Z i b.2.1.length s.2.1.l)).1]] = iRows (A (k + 1)) := by
        rw [eA, lastV, if_pos h0, iRows, iRows, List.map_append]; rfl
      refine range_raw ?_ ?_ rfl [(8, 76, [.slice a Z.length c]), (9, 9, [.string (bs s.2.1.l)])] (ofL s.2.1.l Z 0) (fun x : Int => Value.int .i64 x) rfl Tryz.call160 ?_ (show [8, 9].Nodup by decide) ?_ (by kernel_rfl)
        4 [(0, .v (.slice a Z.length c)), (1, .v (.int .i64 (i : Nat))), (5, .ptr 0 0), (6, .ptr 1 0), (7, .own 3), (8, .ptr 2 0), (16, .v (.slice la b.2.1.length lc)), (17, .v (.int .i64 (b.2.1.length : Nat))), (18, .v (.int .i64 k))]
        (fun y : List Int => [(0, .cells 57 (vL (blkL (.slice la b.2.1.length lc) b))), (1, .cells 109 [.v (.slice none 0 0), .v (.slice none 0 0), .v (.slice none 0 0)]), (2, .cells 28 [.own 4]), (3, .row 3 1 (iRows (A (k + 1)))), (4, .row 3 1 (iRows (B k ++ y)))]) 5
        (fun pre y H' => Le H1 H' ∧ y = pre) rfl ?_ ?_ ?_ ?_
      · exact ⟨cx_ok.tt, cx_ok.eqs⟩
      · exact cx_mix
      · intro q hq
        rcases List.mem_cons.1 hq with rfl | hq
        · rfl
        · rw [List.mem_singleton] at hq; subst hq; rfl
      · intro g H3 hle h1
        exact of_iter (by omega) (ha.up (hle1.trans hle)) (h1 _ (List.mem_cons_self)) (h1 _ (List.mem_cons_of_mem _ List.mem_cons_self))
      · rintro pre y H3 H4 hle ⟨h1, h2⟩
        exact ⟨h1.trans hle, h2⟩
      · refine ⟨[], [(0, 0), (1, 1), (2, 2), (3, 7), (4, 4)], ?_, fun H' hle => ⟨hle, rfl⟩⟩
        rw [List.append_nil, ← eR]
        (repeat' (first|exact trivial|refine ⟨?_,?_⟩|exact rfl|assumption))
      · rintro pre x y H3 hle3 ⟨_, rfl⟩ hpre
        have hpl : y.length + 1 ≤ 576 := by
          have h1 := hpre.length_le
          have h2 := ofL_len s.2.1.l Z 0
          rw [List.length_append, List.length_singleton] at h1
          omega
        have hBl1 : (iRows (B k ++ y)).length = (B k).length + y.length := by rw [iRows, List.length_map, List.length_append]
        have eB2 : iRows (B k ++ y) ++ [[Value.int .i64 x]] = iRows (B k ++ (y ++ [x])) := by
          rw [← List.append_assoc]; exact (List.map_append (l₁ := B k ++ y) (l₂ := [x])).symm
        refine ⟨⟨by show (_ + 1) * 8 ≤ 140737488355328; omega, by show _ + 1 ≤ 9223372036854775807; omega⟩, ?_⟩
        refine ⟨rfl, y ++ [x], [(0, 0), (1, 1), (2, 2), (3, 3), (4, 6)], ?_, hle3, rfl⟩
        rw [← eB2]
        (repeat' (first|exact trivial|refine ⟨?_,?_⟩|exact rfl|assumption))
      · rintro y H3 hle3 ⟨_, rfl⟩
        refine ⟨⟨by omega, by omega⟩, k + 1, [(0, 0), (1, 1), (2, 2), (3, 3), (4, 4)], ?_, ⟨hle1.trans hle3, hlt⟩, by dsimp only; omega⟩
        have e2 : iRows (B k ++ ofL s.2.1.l Z 0) = iRows (B (k + 1)) := by rw [eB]
        (repeat' (first|exact trivial|refine ⟨?_,?_⟩|exact rfl|assumption))
  · have hkl : k = b.2.1.length := by have := df h; omega
    subst hkl
    rw [hF.ae, hF.be]
    have hBk : (killP Z i b.2.1.length b.2.1).length ≤ 294912 := by
      rw [← hF.be]
      exact Nat.le_trans (hBl _) (Nat.le_trans (Nat.mul_le_mul hb hZ) (by decide))
    have hAk : (genP Z i b.2.1.length b.2.1).length ≤ 512 := by
      rw [← hF.ae]
      exact Nat.le_trans (hAl _) hb
    have gI : ∀ x ∈ genP Z i b.2.1.length b.2.1, inI x := fun x hx => by
      obtain ⟨s, _, h0, rfl⟩ := mem_genP.1 hx
      have := lastS_in Z i b.2.1.length s.2.1.l
      exact ⟨by omega, by omega⟩
    have kI : ∀ x ∈ killP Z i b.2.1.length b.2.1, inI x := fun x hx => by
      obtain ⟨s, _, h0, h2⟩ := mem_killP.1 hx
      obtain ⟨j, s', rfl, h3, _⟩ := ofL_mem Z 0 x h2
      have := (List.getElem?_eq_some_iff.1 h3).1
      exact ⟨by omega, by omega⟩
    refine ⟨some ([1, 3, 4], [0, 1, 3, 4, 6, 7, 2, 5, 8, 9, 10, 11]), by kernel_rfl, ?_⟩
    intro v H6 hle6 hv6
    refine of_row_k (α := Int) hv6 (rc_iRows gI) fun d1 d2 d3 e1 hr1 => ?_
    subst e1
    refine wof_spec (by omega) hr1 fun g1 g2 g3 H7 hle7 hg7 => ?_
    intro v8 H8 hle8 hv8
    refine of_row_k (α := Int) hv8 (rc_iRows kI) fun k1 k2 k3 e2 hr2 => ?_
    subst e2
    refine wof_spec (by omega) hr2 fun q1 q2 q3 H9 hle9 hq9 => ?_
    have hle79 := (hle7.trans hle8.le).trans hle9
    refine wof_spec (by omega) (hr1.up hle79) fun m1 m2 m3 H10 hle10 hm10 => ?_
    refine wminus_spec (by omega) (ofB_len _ _) (ofB_len _ _) (hq9.up hle10) hm10 fun r1 r2 r3 H11 hle11 hr11 => ?_
    intro Hm hlem hcl
    refine hK ⟨g1, g2, g3, r1, r2, r3⟩ Hm hlem ⟨?_, ?_⟩
    · exact rl_left (hg7.up (((hle8.le.trans hle9).trans hle10).trans hle11)) hcl fun h => h
    · exact rl_left hr11 hcl fun h => h
end Go.Proofs
end
section
namespace Go.Proofs
open Go.Sy
set_option maxRecDepth 20000
set_option maxHeartbeats 4000000
theorem stmtsN_mem : ∀ {p : Prog} {b : Block}, b ∈ p → b.2.1.length ≤ stmtsN p
  | [], _, h => by cases h
  | c :: r, b, h => by
    have e : stmtsN (c :: r) = c.2.1.length + stmtsN r := by simp [stmtsN]
    rw [e]
    rcases List.mem_cons.1 h with rfl | h
    · omega
    · have := stmtsN_mem h
      omega
theorem blk512 {p : Prog} (he : checkE p = 0) {i : Nat} {b : Block} (hb : p[i]? = some b) : b.2.1.length ≤ 512 := by
  have h := stmts512 he
  have h2 : b.2.1.length ≤ stmtsN p := by
    have := stmtsN_mem (List.mem_of_getElem? hb)
    exact this
  omega
theorem csys_spec {p : Prog} (hp : p.length ≤ 12) (hl : ∀ b ∈ p, b.2.1.length ≤ 100000) (hc : stmtsN p ≤ 1000000) (hv : cnt p < 400000) {a : Option Addr} {n c : Nat} {H : Hp} {K : Value → Hp → Prop} (ha : RL H a n c p)
    (hbad : checkE p ≠ 0 → ∀ H', Le H H' → K (.tuple #[.agg zSys.toArray, .int .i64 (checkE p)]) H')
    (hK : checkE p = 0 → ∀ z H', Le H H' → Bt.SysR H' (csysOf p) z → K (.tuple #[Bt.sysA (csysOf p) z, .int .i64 0]) H') : Does Tryz.prog 12 [.agg #[.slice a n c]] H K := by
  have hn := ha.n_eq
  have hmx := ha.le
  refine spec_of cx_ok cx_mix rfl Tryz.func12 Tryz.call12 Tryz.ntmps12 Tryz.results12 rfl rfl ?_
  refine pcheck_spec ha hc hv fun H00 hle00 => ?_
  refine ⟨fun h => ?_, fun h => ?_⟩
  · exact hbad (nt h) _ (Le.refl H)
  have he : checkE p = 0 := nf h
  have hK := hK he
  have hv64 := vars64 he
  have hz5 := sites_len he
  refine tsites_spec hp hl hc hv hv64 ha fun az nz cz H0 hle0 hrz => ?_
  have hnz := hrz.n_eq
  subst hnz
  refine pvars_spec (ha.up hle0) hv fun av nv cv H1 hle1 hrv => ?_
  have hnv := hrv.n_eq
  rw [List.length_map] at hnv
  subst hnv
  have hle01 := hle0.trans hle1
  refine ⟨Nat, fun i => ⟨[(1, .ptr 0 0), (2, .ptr 1 0), (5, .v (.slice az (sitesOf p).length cz)), (6, .own 2), (22, .v (.int .i64 ((varsOf p).length : Nat))), (23, .v (.int .i64 i))],
      [(0, .cells 24 [.v (.slice a n c)]), (1, .cells 32 (vL zSys)), (2, .row 3 1 (iRows (cntL i)))], 3⟩,
    fun i H' => H' = H1 ∧ i ≤ (varsOf p).length, fun i => (varsOf p).length - i, ⟨0, [(0, 0), (1, 1)], ?_, rfl, Nat.zero_le _⟩, ?_⟩
  · (repeat' (first|exact trivial|refine ⟨?_,?_⟩|exact rfl|assumption))
  rintro i H2 _ ⟨rfl, hi⟩
  have hcl : (iRows (cntL i)).length = i := by rw [List.length_map, cntL, List.length_map, List.length_range]
  refine ⟨fun h => ?_, fun h => ?_⟩
  · have hlt : i < (varsOf p).length := by have := dt h; omega
    have e1 := cnt_snoc i
    refine ⟨⟨by show (_ + 1) * 8 ≤ 140737488355328; omega, by show _ + 1 ≤ 9223372036854775807; omega⟩, ?_⟩
    refine ⟨⟨by omega, by omega⟩, i + 1, [(0, 0), (1, 1), (2, 4)], ?_, ⟨rfl, hlt⟩, by dsimp only; omega⟩
    (repeat' (first|exact trivial|refine ⟨?_,?_⟩|exact rfl|assumption))
  have hil : i = (varsOf p).length := by have := df h; omega
  rw [hil]
  refine ⟨none, ?_⟩
  refine region_plan (α := SA) ?_ ?_
    (.two 5 6 (.two 5 11 (.two 6 9 (.two 6 11 (.two 9 11 (.one [2, 3, 4] [0, 1, 2, 3, 4, 7, 8, 5, 6, 9, 10, 11, 12]) (.one [2, 3, 4] [0, 1, 2, 3, 4, 7, 8, 5, 6, 11, 9, 10, 12])) (.one [2, 3, 4] [0, 1, 2, 3, 4, 7, 8, 5, 11, 6, 9, 10, 12])) (.two 6 11 (.one [2, 3, 4] [0, 1, 2, 3, 4, 7, 8, 5, 9, 6, 10, 11, 12]) (.two 9 11 (.one [2, 3, 4] [0, 1, 2, 3, 4, 7, 8, 5, 9, 11, 6, 10, 12]) (.one [2, 3, 4] [0, 1, 2, 3, 4, 7, 8, 5, 11, 9, 6, 10, 12])))) (.two 6 9 (.one [2, 3, 4] [0, 1, 2, 3, 4, 7, 8, 11, 5, 6, 9, 10, 12]) (.one [2, 3, 4] [0, 1, 2, 3, 4, 7, 8, 11, 5, 9, 6, 10, 12]))) (.two 5 11 (.two 9 11 (.one [2, 3, 4] [0, 1, 2, 3, 4, 7, 8, 6, 5, 9, 10, 11, 12]) (.one [2, 3, 4] [0, 1, 2, 3, 4, 7, 8, 6, 5, 11, 9, 10, 12])) (.two 6 11 (.one [2, 3, 4] [0, 1, 2, 3, 4, 7, 8, 6, 11, 5, 9, 10, 12]) (.one [2, 3, 4] [0, 1, 2, 3, 4, 7, 8, 11, 6, 5, 9, 10, 12]))))
    (fun z => ⟨[(1, .ptr 0 0), (2, .ptr 1 0), (5, .v (.slice az (sitesOf p).length cz)), (9, .ptr 2 0)],
      [(0, .cells 24 [.v (.slice a n c)]), (1, .cells 32 (vL zSys)), (2, .cells 32 [.v (.int .i64 (1 : Nat)), .v (.int .i64 ((sitesOf p).length : Nat)), .v (.int .i64 n), .v (.slice z.ea z.en z.ec), .own 3, .v (.slice z.ia z.ni z.ic), .v (.slice none 0 0)]), (3, .row 3 1 iRow0)], 4⟩)
    (fun z H' => Le H2 H' ∧ RL H' z.ea z.en z.ec (gSort (edgesOf p)) ∧ RL H' z.ia z.ni z.ic (csysOf p).ini) (by kernel_rfl) ⟨⟨⟨⟨⟨?_, ?_⟩, ?_⟩, ⟨?_, ⟨?_, ?_⟩⟩⟩, ⟨?_, ?_⟩⟩, ⟨⟨?_, ?_⟩, ⟨?_, ?_⟩⟩⟩ ?_
  · exact ⟨cx_ok.tt, cx_ok.eqs⟩
  · exact cx_mix
  · refine edges_spec hp (ha.up hle01) fun e1 e2 e3 H3 hle3 hr3 => ?_
    intro v1 H4 hle4 hv4
    refine of_row_k (α := Int) hv4 (rc_iRows (cnt_in (by omega))) fun d1 d2 d3 ev1 hr4 => ?_
    subst ev1
    refine wof_spec (w := (sitesOf p).length) (by omega) hr4 fun w1 w2 w3 H5 hle5 hr5 => ?_
    exact ⟨⟨e1, e2, e3, none, 0, 0, w1, w2, w3, none, 0, 0⟩, [(0, 0), (1, 1), (2, 4), (3, 3)], by (repeat' (first|exact trivial|refine ⟨?_,?_⟩|exact rfl|assumption)), (hle3.trans hle4.le).trans hle5, hr3.up (hle4.le.trans hle5), hr5⟩
  · refine edges_spec hp (ha.up hle01) fun e1 e2 e3 H3 hle3 hr3 => ?_
    intro v1 H4 hle4 hv4
    refine of_row_k (α := Int) hv4 (rc_iRows (cnt_in (by omega))) fun d1 d2 d3 ev1 hr4 => ?_
    subst ev1
    refine wof_spec (w := (sitesOf p).length) (by omega) hr4 fun w1 w2 w3 H5 hle5 hr5 => ?_
    exact ⟨⟨e1, e2, e3, none, 0, 0, w1, w2, w3, none, 0, 0⟩, [(0, 0), (1, 1), (2, 4), (3, 3)], by (repeat' (first|exact trivial|refine ⟨?_,?_⟩|exact rfl|assumption)), (hle3.trans hle4.le).trans hle5, hr3.up (hle4.le.trans hle5), hr5⟩
  · refine edges_spec hp (ha.up hle01) fun e1 e2 e3 H3 hle3 hr3 => ?_
    intro v1 H4 hle4 hv4
    refine of_row_k (α := Int) hv4 (rc_iRows (cnt_in (by omega))) fun d1 d2 d3 ev1 hr4 => ?_
    subst ev1
    refine wof_spec (w := (sitesOf p).length) (by omega) hr4 fun w1 w2 w3 H5 hle5 hr5 => ?_
    exact ⟨⟨e1, e2, e3, none, 0, 0, w1, w2, w3, none, 0, 0⟩, [(0, 0), (1, 1), (2, 3), (3, 4)], by (repeat' (first|exact trivial|refine ⟨?_,?_⟩|exact rfl|assumption)), (hle3.trans hle4.le).trans hle5, hr3.up (hle4.le.trans hle5), hr5⟩
  · refine edges_spec hp (ha.up hle01) fun e1 e2 e3 H3 hle3 hr3 => ?_
    intro v1 H4 hle4 hv4
    refine of_row_k (α := Int) hv4 (rc_iRows (cnt_in (by omega))) fun d1 d2 d3 ev1 hr4 => ?_
    subst ev1
    refine wof_spec (w := (sitesOf p).length) (by omega) hr4 fun w1 w2 w3 H5 hle5 hr5 => ?_
    exact ⟨⟨e1, e2, e3, none, 0, 0, w1, w2, w3, none, 0, 0⟩, [(0, 0), (1, 1), (2, 4), (3, 3)], by (repeat' (first|exact trivial|refine ⟨?_,?_⟩|exact rfl|assumption)), (hle3.trans hle4.le).trans hle5, hr3.up (hle4.le.trans hle5), hr5⟩
  · refine edges_spec hp (ha.up hle01) fun e1 e2 e3 H3 hle3 hr3 => ?_
    intro v1 H4 hle4 hv4
    refine of_row_k (α := Int) hv4 (rc_iRows (cnt_in (by omega))) fun d1 d2 d3 ev1 hr4 => ?_
    subst ev1
    refine wof_spec (w := (sitesOf p).length) (by omega) hr4 fun w1 w2 w3 H5 hle5 hr5 => ?_
    exact ⟨⟨e1, e2, e3, none, 0, 0, w1, w2, w3, none, 0, 0⟩, [(0, 0), (1, 1), (2, 3), (3, 4)], by (repeat' (first|exact trivial|refine ⟨?_,?_⟩|exact rfl|assumption)), (hle3.trans hle4.le).trans hle5, hr3.up (hle4.le.trans hle5), hr5⟩
  · refine edges_spec hp (ha.up hle01) fun e1 e2 e3 H3 hle3 hr3 => ?_
    intro v1 H4 hle4 hv4
    refine of_row_k (α := Int) hv4 (rc_iRows (cnt_in (by omega))) fun d1 d2 d3 ev1 hr4 => ?_
    subst ev1
    refine wof_spec (w := (sitesOf p).length) (by omega) hr4 fun w1 w2 w3 H5 hle5 hr5 => ?_
    exact ⟨⟨e1, e2, e3, none, 0, 0, w1, w2, w3, none, 0, 0⟩, [(0, 0), (1, 1), (2, 3), (3, 4)], by (repeat' (first|exact trivial|refine ⟨?_,?_⟩|exact rfl|assumption)), (hle3.trans hle4.le).trans hle5, hr3.up (hle4.le.trans hle5), hr5⟩
  · refine edges_spec hp (ha.up hle01) fun e1 e2 e3 H3 hle3 hr3 => ?_
    intro v1 H4 hle4 hv4
    refine of_row_k (α := Int) hv4 (rc_iRows (cnt_in (by omega))) fun d1 d2 d3 ev1 hr4 => ?_
    subst ev1
    refine wof_spec (w := (sitesOf p).length) (by omega) hr4 fun w1 w2 w3 H5 hle5 hr5 => ?_
    exact ⟨⟨e1, e2, e3, none, 0, 0, w1, w2, w3, none, 0, 0⟩, [(0, 0), (1, 1), (2, 3), (3, 4)], by (repeat' (first|exact trivial|refine ⟨?_,?_⟩|exact rfl|assumption)), (hle3.trans hle4.le).trans hle5, hr3.up (hle4.le.trans hle5), hr5⟩
  · refine edges_spec hp (ha.up hle01) fun e1 e2 e3 H3 hle3 hr3 => ?_
    intro v1 H4 hle4 hv4
    refine of_row_k (α := Int) hv4 (rc_iRows (cnt_in (by omega))) fun d1 d2 d3 ev1 hr4 => ?_
    subst ev1
    refine wof_spec (w := (sitesOf p).length) (by omega) hr4 fun w1 w2 w3 H5 hle5 hr5 => ?_
    exact ⟨⟨e1, e2, e3, none, 0, 0, w1, w2, w3, none, 0, 0⟩, [(0, 0), (1, 1), (2, 3), (3, 4)], by (repeat' (first|exact trivial|refine ⟨?_,?_⟩|exact rfl|assumption)), (hle3.trans hle4.le).trans hle5, hr3.up (hle4.le.trans hle5), hr5⟩
  · refine edges_spec hp (ha.up hle01) fun e1 e2 e3 H3 hle3 hr3 => ?_
    intro v1 H4 hle4 hv4
    refine of_row_k (α := Int) hv4 (rc_iRows (cnt_in (by omega))) fun d1 d2 d3 ev1 hr4 => ?_
    subst ev1
    refine wof_spec (w := (sitesOf p).length) (by omega) hr4 fun w1 w2 w3 H5 hle5 hr5 => ?_
    exact ⟨⟨e1, e2, e3, none, 0, 0, w1, w2, w3, none, 0, 0⟩, [(0, 0), (1, 1), (2, 4), (3, 3)], by (repeat' (first|exact trivial|refine ⟨?_,?_⟩|exact rfl|assumption)), (hle3.trans hle4.le).trans hle5, hr3.up (hle4.le.trans hle5), hr5⟩
  · refine edges_spec hp (ha.up hle01) fun e1 e2 e3 H3 hle3 hr3 => ?_
    intro v1 H4 hle4 hv4
    refine of_row_k (α := Int) hv4 (rc_iRows (cnt_in (by omega))) fun d1 d2 d3 ev1 hr4 => ?_
    subst ev1
    refine wof_spec (w := (sitesOf p).length) (by omega) hr4 fun w1 w2 w3 H5 hle5 hr5 => ?_
    exact ⟨⟨e1, e2, e3, none, 0, 0, w1, w2, w3, none, 0, 0⟩, [(0, 0), (1, 1), (2, 4), (3, 3)], by (repeat' (first|exact trivial|refine ⟨?_,?_⟩|exact rfl|assumption)), (hle3.trans hle4.le).trans hle5, hr3.up (hle4.le.trans hle5), hr5⟩
  · refine edges_spec hp (ha.up hle01) fun e1 e2 e3 H3 hle3 hr3 => ?_
    intro v1 H4 hle4 hv4
    refine of_row_k (α := Int) hv4 (rc_iRows (cnt_in (by omega))) fun d1 d2 d3 ev1 hr4 => ?_
    subst ev1
    refine wof_spec (w := (sitesOf p).length) (by omega) hr4 fun w1 w2 w3 H5 hle5 hr5 => ?_
    exact ⟨⟨e1, e2, e3, none, 0, 0, w1, w2, w3, none, 0, 0⟩, [(0, 0), (1, 1), (2, 4), (3, 3)], by (repeat' (first|exact trivial|refine ⟨?_,?_⟩|exact rfl|assumption)), (hle3.trans hle4.le).trans hle5, hr3.up (hle4.le.trans hle5), hr5⟩
  · refine edges_spec hp (ha.up hle01) fun e1 e2 e3 H3 hle3 hr3 => ?_
    intro v1 H4 hle4 hv4
    refine of_row_k (α := Int) hv4 (rc_iRows (cnt_in (by omega))) fun d1 d2 d3 ev1 hr4 => ?_
    subst ev1
    refine wof_spec (w := (sitesOf p).length) (by omega) hr4 fun w1 w2 w3 H5 hle5 hr5 => ?_
    exact ⟨⟨e1, e2, e3, none, 0, 0, w1, w2, w3, none, 0, 0⟩, [(0, 0), (1, 1), (2, 3), (3, 4)], by (repeat' (first|exact trivial|refine ⟨?_,?_⟩|exact rfl|assumption)), (hle3.trans hle4.le).trans hle5, hr3.up (hle4.le.trans hle5), hr5⟩
  rintro ⟨ea, en, ec, na, nn, nc, ia, ni, ic, ta, tn, tc⟩ H3 _ ⟨hle3, hze, hzi⟩
  dsimp only at hze hzi
  refine ⟨Nat × List (List Value), fun q => ⟨[(1, .ptr 0 0), (2, .ptr 1 0), (5, .v (.slice az (sitesOf p).length cz)), (9, .ptr 2 0), (45, .v (.slice a n c)), (46, .v (.int .i64 n)), (47, .v (.int .i64 q.1))],
      [(0, .cells 24 [.v (.slice a n c)]), (1, .cells 32 (vL zSys)), (2, .cells 32 [.v (.int .i64 (1 : Nat)), .v (.int .i64 ((sitesOf p).length : Nat)), .v (.int .i64 n), .v (.slice ea en ec), .own 3, .v (.slice ia ni ic), .own 4]), (3, .row 3 1 iRow0), (4, .row 109 3 q.2)], 5⟩,
    fun q H' => Le H3 H' ∧ q.1 ≤ p.length ∧ RC (α := Bt.TrB) H' q.2 (((csysOf p).T.map Bt.TrB.mk).take q.1), fun q => p.length - q.1, ⟨(0, []), [(0, 0), (1, 1), (2, 2), (3, 3)], ?_, Le.refl _, Nat.zero_le _, RC.nil⟩, ?_⟩
  · (repeat' (first|exact trivial|refine ⟨?_,?_⟩|exact rfl|assumption))
  rintro ⟨j, css⟩ H4 _ ⟨hle4, hj, hrc⟩
  dsimp only at hj hrc
  have hle : Le H H4 := (hle01.trans hle3).trans hle4
  have hTl : ((csysOf p).T.map Bt.TrB.mk).length = p.length := by rw [List.length_map]; exact rchT_len _ _ p 0
  have hcl : css.length = j := by have h1 := hrc.1; rw [List.length_take] at h1; omega
  refine ⟨fun h => ?_, fun h => ?_⟩
  · have hlt : j < p.length := by have := dt h; dsimp only at this; omega
    refine name_k p[j] fun b hbe => ?_
    have hbb : p[j]? = some b := by rw [hbe]; exact List.getElem?_eq_getElem hlt
    refine block_k (ha.up hle) hbb fun ad a5 n5 c5 q1 hh hr5 hs5 ht5 => ?_
    refine ⟨ad, ⟨by dsimp only; omega, by dsimp only; omega, q1⟩, ?_⟩
    refine ⟨_, hh, ?_⟩
    refine ⟨some ([1000000, 2, 4, 6], [0, 1, 2, 3, 4, 5, 6, 7, 8, 9]), by kernel_rfl, ?_⟩
    refine ctrans_spec hz5 (i := j) (b := b) (blk512 he hbb) (hrz.up ((hle1.trans hle3).trans hle4)) hr5 fun zt H5 hle5 hr6 => ?_
    refine ⟨⟨by show (css.length + 1) * 72 ≤ 140737488355328; omega, by show css.length + 1 ≤ 9223372036854775807; omega⟩, ?_⟩
    have hrc2 : RC (α := Bt.TrB) H5 (css ++ [Bt.trV zt]) (((csysOf p).T.map Bt.TrB.mk).take (j + 1)) := by
      rw [csysT_take hbb, ← ctrF_eq he hbb]; exact trb_snoc (RC.up hrc hle5) hr6
    refine ⟨⟨by omega, by omega⟩, (j + 1, css ++ [Bt.trV zt]), [(0, 0), (1, 1), (2, 2), (3, 3), (4, 7)], ?_, ⟨hle4.trans hle5, hlt, hrc2⟩, by dsimp only; omega⟩
    (repeat' (first|exact trivial|refine ⟨?_,?_⟩|exact rfl|assumption))
  · have hjl : j = p.length := by have := df h; dsimp only at this; omega
    rw [hjl, List.take_of_length_le (by omega)] at hrc
    intro v1 H5 hle5 hv1
    refine ints_k hv1 fun na nn nc ev1 hr1 => ?_
    subst ev1
    intro v3 H7 hle7 hv3
    refine of_row_k (α := Bt.TrB) hv3 (RC.up hrc (hle5.le.trans hle7.le)) fun ta tn tc ev3 hr3 => ?_
    subst ev3
    have h57 := hle5.le.trans hle7.le
    have hsys : Bt.SysR H7 (csysOf p) ⟨ea, en, ec, na, nn, nc, ia, ni, ic, ta, tn, tc⟩ :=
      ⟨hze.up (hle4.trans h57), hr1.up hle7.le, hzi.up (hle4.trans h57), hr3⟩
    have hK := hK ⟨ea, en, ec, na, nn, nc, ia, ni, ic, ta, tn, tc⟩ H7 (hle.trans h57) hsys
    have e2 : (csysOf p).m = n := hn.symm
    rw [Bt.sysA, Bt.sysV, e2] at hK
    exact hK
end Go.Proofs
end
section
namespace Go.Proofs
open Go.Sy
set_option maxRecDepth 20000
set_option maxHeartbeats 4000000
def reachI (p : Prog) : List (List Int) := (Bt.solveS (csysOf p)).map numB
def reachO (p : Prog) : List (List Int) := (Bt.outsS (csysOf p) (Bt.solveS (csysOf p))).map numB
end Go.Proofs
end
section
namespace Go.Proofs
open Go.Sy
set_option maxRecDepth 20000
set_option maxHeartbeats 4000000
theorem newAt_kI {P : Prop} {e : TypeId} {sz : Nat} {xs : List (List Value)} {H H2 : Hp} {x : Value} (h : NewAt e sz xs H x H2) (k : ∀ a n c, x = .slice a n c → P) : P := by
  rcases h with ⟨h1, _⟩ | ⟨g, cap, c, h1, _⟩
  · exact k _ _ _ h1
  · exact k _ _ _ h1
theorem newAt_upI {e : TypeId} {sz : Nat} {xs : List (List Value)} {H H2 H3 : Hp} {x : Value} (h : NewAt e sz xs H x H2) (hle : Le H2 H3) : NewAt e sz xs H x H3 := by
  rcases h with h1 | ⟨g, cap, c, h1, h2, h3, h4⟩
  · exact .inl h1
  · exact .inr ⟨g, cap, c, h1, h2, hle _ _ h3, h4⟩
theorem newAt_downI {e : TypeId} {sz : Nat} {xs : List (List Value)} {H H1 H2 : Hp} {x : Value} (h : NewAt e sz xs H1 x H2) (hle : Le H H1) : NewAt e sz xs H x H2 := by
  rcases h with h1 | ⟨g, cap, c, h1, h2, h3⟩
  · exact .inl h1
  · refine .inr ⟨g, cap, c, h1, ?_, h3⟩
    cases hg : H g with
    | none => rfl
    | some o => rw [hle _ _ hg] at h2; cases h2
structure FamN (H H' : Hp) (vs : List Value) (X : List (List Int)) : Prop where
  len : vs.length = X.length
  new : ∀ (i : Nat) (v : Value) (x : List Int), vs[i]? = some v → X[i]? = some x → NewAt 3 1 (iRows x) H v H'
theorem FamN.up {H H' H2 : Hp} {vs : List Value} {X : List (List Int)} (h : FamN H H' vs X) (hle : Le H' H2) : FamN H H2 vs X := ⟨h.len, fun i v b h1 h2 => newAt_upI (h.new i v b h1 h2) hle⟩
theorem FamN.snoc {H H1 H2 : Hp} {vs : List Value} {X : List (List Int)} (h : FamN H H1 vs X) (hle0 : Le H H1) {v : Value} {x : List Int} (hv : LeN 3 1 (iRows x) H1 v H2) : FamN H H2 (vs ++ [v]) (X ++ [x]) := by
  refine ⟨by rw [List.length_append, List.length_append, h.len]; rfl, fun i u c h1 h2 => ?_⟩
  rw [List.getElem?_append] at h1 h2
  have hl := h.len
  split at h1
  · rename_i hi
    rw [if_pos (by omega)] at h2
    exact newAt_upI (h.new i u c h1 h2) hv.le
  · rename_i hi
    rw [if_neg (by omega)] at h2
    have e1 : i - vs.length = 0 := by
      have := (List.getElem?_eq_some_iff.1 h1).1
      simp at this; omega
    rw [e1] at h1
    rw [← hl, e1] at h2
    cases h1
    cases h2
    exact newAt_downI hv.new hle0
abbrev headV (vs : List Value) : List (List Value) := vs.map fun v => [v]
theorem csets2_spec {p : Prog} (hp : p.length ≤ 12) (hl : ∀ b ∈ p, b.2.1.length ≤ 100000) (hc : stmtsN p ≤ 1000000) (hv : cnt p < 400000) {a : Option Addr} {n c : Nat} {H : Hp} {K : Value → Hp → Prop} (ha : RL H a n c p) (hT : TabH H)
    (hbad : checkE p ≠ 0 → ∀ H', Le H H' → K (.tuple #[.slice none 0 0, .slice none 0 0, .int .i64 (checkE p)]) H')
    (hK : checkE p = 0 → ∀ v vs a2 n2 c2 H', Le H H' → NewAt 28 1 (headV vs) H v H' → FamN H H' vs (reachI p) → (∀ u ∈ vs, ∀ g, v.ownBlock = some g → u.ownBlock ≠ some g) → K (.tuple #[v, .slice a2 n2 c2, .int .i64 0]) H') :
    Does Tryz.prog 16 [.agg #[.slice a n c]] H K := by
  have hn := ha.n_eq
  refine spec_of cx_ok cx_mix rfl Tryz.func16 Tryz.call16 Tryz.ntmps16 Tryz.results16 rfl rfl ?_
  refine csys_spec hp hl hc hv ha (fun he H1 hle1 => ?_) (fun he z H1 hle1 hs => ?_)
  · refine ⟨fun _ => ?_, (fun h => absurd (nf h) he)⟩
    exact hbad he _ hle1
  · have ho := csysOf_ok he
    have hA := Bt.solveS_ok ho
    refine ⟨fun h => absurd rfl (nt h), fun _ => ?_⟩
    refine Bt.lsolve_spec ho hs fun a1 n1 c1 k H2 hle2 hr2 => ?_
    refine Bt.louts_spec ho hA (hs.up hle2) hr2 fun a2 n2 c2 H3 hle3 hr3 => ?_
    have hle := (hle1.trans hle2).trans hle3
    have hm : (Bt.solveS (csysOf p)).length = p.length := hA.len
    have hn1 := hr2.n_eq
    rw [hm] at hn1
    have hn2 := hr3.n_eq
    rw [Bt.outsS, List.length_map, List.length_range] at hn2
    have hn2 : n2 = p.length := hn2
    have hr23 := hr2.up hle3
    have hlI : (reachI p).length = p.length := by rw [reachI, List.length_map, hm]
    have hlO : (reachO p).length = p.length := by rw [reachO, List.length_map, Bt.outsS, List.length_map, List.length_range]; rfl
    refine ⟨Nat × List Value × List (List Value), fun q => ⟨[(7, .v (.slice a1 n1 c1)), (10, .v (.slice a2 n2 c2)), (12, .own 2), (13, .own 3), (36, .v (.int .i64 n1)), (37, .v (.int .i64 q.1))],
        [(0, .cells 24 [.v (.slice a n c)]), (1, .cells 32 (vL (Bt.sysV (csysOf p) z))), (2, .row 28 1 (headV q.2.1)), (3, .row 28 1 q.2.2)], 4⟩,
      fun q H' => Le H3 H' ∧ q.1 ≤ p.length ∧ FamN H H' q.2.1 ((reachI p).take q.1) ∧ RC (α := List Int) H' q.2.2 ((reachO p).take q.1), fun q => p.length - q.1, ⟨(0, [], []), [(0, 0), (1, 1)], ?_, Le.refl H3, Nat.zero_le _, ⟨rfl, fun i v b h1 => (by cases h1)⟩, RC.nil⟩, ?_⟩
    · (repeat' (first|exact trivial|refine ⟨?_,?_⟩|exact rfl|assumption))
    rintro ⟨i, vs, cs2⟩ H4 _ ⟨hle4, hi, hrc1, hrc2⟩
    dsimp only at hi hrc1 hrc2
    have hvl : vs.length = i := by have h1 := hrc1.len; rw [List.length_take] at h1; omega
    have hc1 : (headV vs).length = i := by rw [List.length_map]; exact hvl
    have hc2 : cs2.length = i := by have h1 := hrc2.1; rw [List.length_take] at h1; omega
    refine ⟨fun h => ?_, fun h => ?_⟩
    · have hlt : i < p.length := by have := dt h; dsimp only at this; omega
      refine name_k (Bt.aAt (Bt.solveS (csysOf p)) i) fun x hxe => ?_
      have hxx : (Bt.solveS (csysOf p))[i]? = some x := by rw [hxe]; exact Bt.aAt_get hA hlt
      have hok := hA.ok x (List.mem_of_getElem? hxx)
      have hokT := Bt.tAt_ok ho i
      have hokA := Bt.bApp_ok hokT.1 hokT.2 hok
      refine name_k (Bt.bApp (Bt.tAt (csysOf p) i) x) fun y hye => ?_
      rw [← hye] at hokA
      have hyy : (Bt.outsS (csysOf p) (Bt.solveS (csysOf p)))[i]? = some y := by
        rw [Bt.outsS, List.getElem?_map, List.getElem?_range (show i < (csysOf p).m from hlt), hye, hxe]; rfl
      have gI : (reachI p)[i]? = some (numB x) := by rw [reachI, List.getElem?_map, hxx]; rfl
      have gO : (reachO p)[i]? = some (numB y) := by rw [reachO, List.getElem?_map, hyy]; rfl
      have hx5 := sites_len he
      have hs1 : x.length ≤ 100000 := by have h1 := hok.1; rw [sizeB] at h1; have h2 : (csysOf p).w = (sitesOf p).length := rfl; omega
      have hs2 : y.length ≤ 100000 := by have h1 := hokA.1; rw [sizeB] at h1; have h2 : (csysOf p).w = (sitesOf p).length := rfl; omega
      refine ⟨some ([1000000, 2, 3, 4, 6], [0, 1, 2, 3, 4, 8, 9, 10, 11, 12, 5, 6, 7, 13, 14, 15, 16, 17]), by kernel_rfl, ?_⟩
      refine list_k (hr23.up hle4) hxx fun ad a5 n5 c5 q1 hh hr5 => ?_
      refine ⟨ad, ⟨by dsimp only; omega, by dsimp only; omega, q1⟩, ?_⟩
      refine ⟨_, hh, ?_⟩
      refine list_k (hr3.up hle4) hyy fun ad2 a6 n6 c6 q2 hh2 hr6 => ?_
      refine ⟨ad2, ⟨by dsimp only; omega, by dsimp only; omega, q2⟩, ?_⟩
      refine ⟨_, hh2, ?_⟩
      have hT4 := hT.up (hle.trans hle4)
      refine list2_spec hs1 hr5 hT4 fun d1 d2 d3 H5 hle5 => ?_
      refine ⟨⟨by show ((headV vs).length + 1) * 24 ≤ 140737488355328; omega, by show (headV vs).length + 1 ≤ 9223372036854775807; omega⟩, ?_⟩
      refine list_spec hs2 (hr6.up hle5.le) (hT4.up hle5.le) fun f1 f2 f3 H6 hle6 hr8 => ?_
      refine ⟨⟨by show (cs2.length + 1) * 24 ≤ 140737488355328; omega, by show cs2.length + 1 ≤ 9223372036854775807; omega⟩, ?_⟩
      have h46 := hle5.le.trans hle6
      have k1 : FamN H H6 (vs ++ [.slice d1 d2 d3]) ((reachI p).take (i + 1)) := by
        rw [List.take_add_one, gI]
        exact (hrc1.snoc (hle.trans hle4) hle5).up hle6
      have e1 : headV vs ++ [[.slice d1 d2 d3]] = headV (vs ++ [.slice d1 d2 d3]) := by rw [headV, headV, List.map_append]; rfl
      have k2 : RC (α := List Int) H6 (cs2 ++ [[.slice f1 f2 f3]]) ((reachO p).take (i + 1)) := by
        rw [List.take_add_one, gO]
        exact rc_snocI (RC.up hrc2 h46) hr8
      refine ⟨⟨by dsimp only; omega, by dsimp only; omega⟩, (i + 1, vs ++ [.slice d1 d2 d3], cs2 ++ [[.slice f1 f2 f3]]), [(0, 0), (1, 1), (2, 5), (3, 7)], ?_, ⟨hle4.trans h46, hlt, k1, k2⟩, by dsimp only; omega⟩
      (repeat' (first|exact trivial|refine ⟨?_,?_⟩|exact rfl|assumption))
    · have hil : i = p.length := by have := df h; dsimp only at this; omega
      rw [hil, List.take_of_length_le (by omega)] at hrc1
      rw [hil, List.take_of_length_le (by omega)] at hrc2
      have hdis : ∀ u ∈ vs, ∀ g, u.ownBlock = some g → ∃ o, H4 g = some o := fun u hu g hg => by
        obtain ⟨j, hj⟩ := List.getElem?_of_mem hu
        have hjl := (List.getElem?_eq_some_iff.1 hj).1
        have hl := hrc1.len
        exact ((hrc1.new j u _ hj (List.getElem?_eq_getElem (by omega))).fresh hg).2
      intro v1 H5 hle5 hv1
      have hle5 : LeN 28 1 (headV vs) H4 v1 H5 := hle5
      intro v3 H7 hle7 hv3
      refine of_row_k (α := List Int) hv3 (RC.up hrc2 (hle5.le.trans hle7.le)) fun f1 f2 f3 e3 hr2 => ?_
      subst e3
      refine hK he v1 vs _ _ _ H7 ((hle.trans hle4).trans (hle5.le.trans hle7.le)) (newAt_upI (newAt_downI hle5.new (hle.trans hle4)) hle7.le) (hrc1.up (hle5.le.trans hle7.le)) fun u hu g hg hg' => ?_
      obtain ⟨o, ho⟩ := hdis u hu g hg'
      rw [(hle5.new.fresh hg).1] at ho
      cases ho
def famOf (vs : List Value) (X : List (List Int)) (i : Nat) : List (Value × List (List Value)) := match vs[i]? with
  | some u => [(u, iRows (X[i]?.getD []))]
  | none => []
theorem famOf_mem {vs : List Value} {X : List (List Int)} {i : Nat} {q : Value × List (List Value)} (h : q ∈ famOf vs X i) : vs[i]? = some q.1 ∧ q.2 = iRows (X[i]?.getD []) := by
  unfold famOf at h
  split at h
  · rename_i u hu
    rw [List.mem_singleton] at h
    subst h
    exact ⟨hu, rfl⟩
  · cases h
theorem headV_ok (vs : List Value) (h : ∀ v ∈ vs, v.oneCell' = true) : ∀ y ∈ headV vs, y.length = 1 ∧ ∀ u ∈ y, u.oneCell' = true := fun y hy => by
  obtain ⟨v, hv, rfl⟩ := List.mem_map.1 hy
  exact ⟨rfl, fun u hu => by rw [List.mem_singleton] at hu; rw [hu]; exact h v hv⟩
theorem iRows_ok (l : List Int) : ∀ y ∈ iRows l, y.length = 1 ∧ ∀ u ∈ y, u.oneCell' = true := fun y hy => by
  obtain ⟨v, hv, rfl⟩ := List.mem_map.1 hy
  exact ⟨rfl, fun u hu => by rw [List.mem_singleton] at hu; rw [hu]; rfl⟩
theorem csetsG_spec {p : Prog} (hp : p.length ≤ 12) (hl : ∀ b ∈ p, b.2.1.length ≤ 100000) (hc : stmtsN p ≤ 1000000) (hv : cnt p < 400000) (i : Nat) {a : Option Addr} {n c : Nat} {H : Hp} {K : SV → St → Hp → Prop} (ha : RL H a n c p) (hT : TabH H)
    (hbad : checkE p ≠ 0 → ∀ H', Le H H' → K (.tup [.v (.slice none 0 0), .v (.slice none 0 0), .v (.int .i64 (checkE p))]) ⟨[], [(0, .row 28 1 []), (1, .fam 3 1 [])], 2⟩ H')
    (hK : checkE p = 0 → ∀ vs a2 n2 c2 H', Le H H' → vs.length = p.length → K (.tup [.own 0, .v (.slice a2 n2 c2), .v (.int .i64 0)]) ⟨[], [(0, .row 28 1 (headV vs)), (1, .fam 3 1 (famOf vs (reachI p) i))], 2⟩ H') :
    DoesG Tryz.prog 16 [.agg [.v (.slice a n c)]] [] 0 H K := by
  refine doesG_thawB (args := [.agg #[.slice a n c]]) (fun _ => rfl) (csets2_spec hp hl hc hv ha hT (K := fun v H' => (checkE p ≠ 0 ∧ v = .tuple #[.slice none 0 0, .slice none 0 0, .int .i64 (checkE p)]) ∨
    (checkE p = 0 ∧ ∃ h vs a2 n2 c2, v = .tuple #[h, .slice a2 n2 c2, .int .i64 0] ∧ NewAt 28 1 (headV vs) H h H' ∧ FamN H H' vs (reachI p) ∧ (∀ u ∈ vs, ∀ g, h.ownBlock = some g → u.ownBlock ≠ some g)))
    (fun he H' _ => .inl ⟨he, rfl⟩) (fun he v vs a2 n2 c2 H' _ h1 h2 h3 => .inr ⟨he, v, vs, a2, n2, c2, rfl, h1, h2, h3⟩)) ?_
  rintro v H2 hle (⟨he, rfl⟩ | ⟨he, h, vs, a2, n2, c2, rfl, h1, h2, h3⟩)
  · exact ⟨28, 1, [], .slice none 0 0, 3, 1, [], .tup [.v (.slice none 0 0), .v (.slice none 0 0), .v (.int .i64 (checkE p))], fun _ _ => rfl, rfl, .inl ⟨rfl, rfl⟩, (fun y hy => by cases hy), (fun q hq => by cases hq), List.Pairwise.nil, (fun q hq => by cases hq), fun H' hle' _ => hbad he H' hle'⟩
  · have hlen : vs.length = p.length := by
      rw [h2.len, reachI, List.length_map, (Bt.solveS_ok (csysOf_ok he)).len]; rfl
    have hone : ∀ v ∈ vs, v.oneCell' = true := fun v hv => by
      obtain ⟨j, hj⟩ := List.getElem?_of_mem hv
      have hjl := (List.getElem?_eq_some_iff.1 hj).1
      have hl := h2.len
      exact newAt_kI (h2.new j v _ hj (List.getElem?_eq_getElem (by omega))) fun a n c e => by rw [e]; rfl
    refine ⟨28, 1, headV vs, h, 3, 1, famOf vs (reachI p) i, .tup [.own 0, .v (.slice a2 n2 c2), .v (.int .i64 0)], fun ρ hρ => ?_, rfl, h1, headV_ok vs hone, fun q hq => ?_, ?_, fun q hq g hg => ?_, fun H' hle' _ => hK he vs a2 n2 c2 H' hle' hlen⟩
    · show Value.tuple #[ρ.val 0, _, _] = _
      rw [hρ]; rfl
    · obtain ⟨g1, g2⟩ := famOf_mem hq
      have hil := (List.getElem?_eq_some_iff.1 g1).1
      have hl := h2.len
      have hx : (reachI p)[i]? = some ((reachI p)[i]'(by omega)) := List.getElem?_eq_getElem (by omega)
      rw [g2]
      refine ⟨?_, iRows_ok _⟩
      rw [hx]
      exact h2.new i q.1 _ g1 hx
    · unfold famOf
      split
      · exact List.pairwise_singleton _ _
      · exact List.Pairwise.nil
    · exact h3 q.1 (List.mem_of_getElem? (famOf_mem hq).1) g hg
end Go.Proofs
end
section
namespace Go.Proofs
open Go.Sy
open Go.RowKit (Below)
set_option maxRecDepth 20000
set_option maxHeartbeats 4000000
abbrev bOf (az : Option Addr) (nz cz : Nat) (v : Bs8) : List (Nat × Bx) := [(1, .cells 76 [.v (.slice az nz cz)]), (2, .cells 9 [.v (.string (bs v))])]
abbrev bOf0 (az : Option Addr) (nz cz : Nat) (v : Bs8) : List (Nat × Bx) := [(0, .cells 76 [.v (.slice az nz cz)]), (1, .cells 9 [.v (.string (bs v))])]
def othV (Z : List Site) (v : Bs8) (x : Int) : Bool := !decide ((Z[x.toNat]?.getD siteN).2.2.l = v)
theorem of1_spec {Z : List Site} {v : Bs8} {x : Int} (hx : 0 ≤ x ∧ x < (Z.length : Nat)) {az : Option Addr} {nz cz : Nat} {H : Hp} {K : SV → St → Hp → Prop} (ha : RL (α := Site) H az nz cz Z) (hK : K (.v (.bool (othV Z v x))) ⟨[], bOf0 az nz cz v, 2⟩ H) :
    DoesG Tryz.prog 68 [.v (.int .i64 x), .ptr 0 0, .ptr 1 0] (bOf0 az nz cz v) 2 H K := by
  have hn := ha.n_eq
  obtain ⟨k, rfl⟩ : ∃ k : Nat, x = (k : Int) := ⟨x.toNat, by omega⟩
  have hkl : k < Z.length := by omega
  refine name_k Z[k] fun s hse => ?_
  have hss : Z[k]? = some s := by rw [hse]; exact List.getElem?_eq_getElem hkl
  have hoth : othV Z v (k : Int) = !decide (s.2.2.l = v) := by rw [othV, Int.toNat_natCast, hss, Option.getD_some]
  refine spec_ofG cx_ok cx_mix Tryz.func68 Tryz.call68 Tryz.ntmps68 Tryz.results68 rfl rfl ?_
  refine ⟨some ([], [0, 1, 2, 3, 4, 5, 6, 7]), by kernel_rfl, ?_⟩
  refine site_k ha hss fun ad q1 hh _ => ?_
  refine ⟨ad, ⟨by omega, by omega, q1⟩, ?_⟩
  refine ⟨_, hh, ?_⟩
  have e1 : SV.v (Value.bool (!decide (sl (bs s.2.2.l) = sl (bs v)))) = SV.v (Value.bool (othV Z v (k : Int))) := by
    rw [hoth]
    have e2 : decide (sl (bs s.2.2.l) = sl (bs v)) = decide (s.2.2.l = v) := decide_eq_decide.2 (by rw [sl_bs, sl_bs])
    rw [e2]
  exact ⟨.v (.bool (othV Z v (k : Int))), bOf0 az nz cz v, 2, [(0, 0), (1, 1)], by (repeat' (first|exact trivial|refine ⟨?_,?_⟩|exact rfl|assumption)), hK⟩
def idxO (Z : List Site) (v : Bs8) : List Int → Nat → Int
  | [], _ => -1
  | x :: r, i => if othV Z v x = true then (i : Int) else idxO Z v r (i + 1)
theorem idxfO_spec {Z : List Site} {v : Bs8} {X : List Int} (hX : ∀ x ∈ X, 0 ≤ x ∧ x < (Z.length : Nat)) (hXl : X.length ≤ 100000) {az : Option Addr} {nz cz : Nat} {H : Hp} {K : SV → St → Hp → Prop} (ha : RL (α := Site) H az nz cz Z) (hK : K (.v (.int .i64 (idxO Z v X 0))) ⟨[], (0, .row 3 1 (iRows X)) :: bOf az nz cz v, 3⟩ H) :
    DoesG Tryz.prog 120 [.own 0, .fn 68 [.ptr 1 0, .ptr 2 0]] ((0, .row 3 1 (iRows X)) :: bOf az nz cz v) 3 H K := by
  have hil : (iRows X).length = X.length := List.length_map _
  refine spec_ofG cx_ok cx_mix Tryz.func120 Tryz.call120 Tryz.ntmps120 Tryz.results120 rfl rfl ?_
  refine ⟨Nat, fun j => ⟨[(0, .own 0), (1, .fn 68 [.ptr 1 0, .ptr 2 0]), (7, .v (.int .i64 (X.length : Nat))), (8, .v (.int .i64 j))], (0, .row 3 1 (iRows X)) :: bOf az nz cz v, 3⟩,
    fun j H' => H' = H ∧ j ≤ X.length ∧ idxO Z v X 0 = idxO Z v (X.drop j) j, fun j => X.length - j, ⟨0, [(0, 0), (1, 1), (2, 2)], ?_, rfl, Nat.zero_le _, rfl⟩, ?_⟩
  · have e1 : SV.v (Value.int .i64 ((iRows X).length : Nat)) = SV.v (Value.int .i64 (X.length : Nat)) := by rw [hil]
    (repeat' (first|exact trivial|refine ⟨?_,?_⟩|exact rfl|assumption))
  rintro j H1 _ ⟨rfl, hj, hx⟩
  refine ⟨fun h => ?_, fun h => ?_⟩
  · have hlt : j < X.length := by have := dt h; omega
    refine name_k X[j] fun x hxe => ?_
    have hxx : X[j]? = some x := by rw [hxe]; exact List.getElem?_eq_getElem hlt
    have hd : X.drop j = x :: X.drop (j + 1) := by rw [List.drop_eq_getElem_cons hlt, hxe]
    rw [hd, idxO] at hx
    have hget : (iRows X)[j]? = some [.int .i64 x] := by rw [iRows, List.getElem?_map, hxx]; rfl
    refine ⟨⟨by omega, by omega⟩, ?_⟩
    refine ⟨_, hget, ?_⟩
    refine ⟨[1, 2], rfl, of1_spec (hX x (List.mem_of_getElem? hxx)) ha ?_⟩
    refine ⟨fun h => ?_, fun h => ?_⟩
    · rw [if_pos h] at hx
      rw [hx] at hK
      exact ⟨.v (.int .i64 (j : Int)), (0, .row 3 1 (iRows X)) :: bOf az nz cz v, 3, [(0, 0), (1, 1), (2, 2)], by (repeat' (first|exact trivial|refine ⟨?_,?_⟩|exact rfl|assumption)), hK⟩
    · rw [if_neg (by rw [h]; decide)] at hx
      refine ⟨⟨by omega, by omega⟩, j + 1, [(0, 0), (1, 1), (2, 2)], ?_, ⟨rfl, hlt, hx⟩, by dsimp only; omega⟩
      (repeat' (first|exact trivial|refine ⟨?_,?_⟩|exact rfl|assumption))
  · have hjl : j = X.length := by have := df h; omega
    rw [hjl, List.drop_length, idxO] at hx
    rw [hx] at hK
    exact ⟨.v (.int .i64 (-1)), (0, .row 3 1 (iRows X)) :: bOf az nz cz v, 3, [(0, 0), (1, 1), (2, 2)], by (repeat' (first|exact trivial|refine ⟨?_,?_⟩|exact rfl|assumption)), hK⟩
theorem idxO_spec {Z : List Site} {v : Bs8} : ∀ (X : List Int) (i : Nat), (idxO Z v X i = -1 ∧ pickV Z v X = X) ∨ ∃ m x, idxO Z v X i = ((i + m : Nat) : Int) ∧ X[m]? = some x ∧ othV Z v x = true ∧ pickV Z v (X.take m) = X.take m
  | [], _ => .inl ⟨rfl, rfl⟩
  | x :: r, i => by
    by_cases h : othV Z v x = true
    · exact .inr ⟨0, x, by rw [idxO, if_pos h]; rfl, rfl, h, rfl⟩
    · have hk : decide ((Z[x.toNat]?.getD siteN).2.2.l = v) = true := by
        unfold othV at h
        simpa using h
      rcases idxO_spec (Z := Z) (v := v) r (i + 1) with ⟨h1, h2⟩ | ⟨m, y, h1, h2, h3, h4⟩
      · refine .inl ⟨by rw [idxO, if_neg h]; exact h1, ?_⟩
        rw [pickV, List.filter_cons, if_pos hk]
        rw [pickV] at h2
        rw [h2]
      · refine .inr ⟨m + 1, y, by rw [idxO, if_neg h, h1]; congr 1; omega, h2, h3, ?_⟩
        rw [List.take_succ_cons, pickV, List.filter_cons, if_pos hk]
        rw [pickV] at h4
        rw [h4]
theorem delf_spec {Z : List Site} {v : Bs8} {X : List Int} (hX : ∀ x ∈ X, 0 ≤ x ∧ x < (Z.length : Nat)) (hXl : X.length ≤ 100000) {az : Option Addr} {nz cz : Nat} {H : Hp} {K : SV → St → Hp → Prop} (ha : RL (α := Site) H az nz cz Z)
    (hK : K (.own 3) ⟨[], (0, .dead) :: bOf az nz cz v ++ [(3, .row 3 1 (iRows (pickV Z v X)))], 4⟩ H) :
    DoesG Tryz.prog 67 [.own 0, .fn 68 [.ptr 1 0, .ptr 2 0]] ((0, .row 3 1 (iRows X)) :: bOf az nz cz v) 3 H K := by
  refine spec_ofG cx_ok cx_mix Tryz.func67 Tryz.call67 Tryz.ntmps67 Tryz.results67 rfl rfl ?_
  refine ⟨[0, 1, 2], rfl, idxfO_spec hX hXl ha ?_⟩
  rcases idxO_spec (Z := Z) (v := v) X 0 with ⟨h1, h2⟩ | ⟨m, x0, h1, hm, ho, hpk⟩
  · rw [h1]
    refine ⟨fun _ => ?_, fun h => absurd (df h) (by decide)⟩
    rw [h2] at hK
    exact ⟨.own 3, (0, .dead) :: bOf az nz cz v ++ [(3, .row 3 1 (iRows X))], 4, [(1, 1), (2, 2), (3, 0)], by (repeat' (first|exact trivial|refine ⟨?_,?_⟩|exact rfl|assumption)), hK⟩
  rw [h1, Nat.zero_add]
  have hml := (List.getElem?_eq_some_iff.1 hm).1
  refine ⟨fun h => absurd (dt h) (by omega), fun _ => ?_⟩
  refine ⟨⟨by omega, by omega⟩, ?_⟩
  refine ⟨Nat × Nat × List Int, fun q => ⟨[(0, .own 0), (1, .fn 68 [.ptr 1 0, .ptr 2 0]), (5, .v (.int .i64 q.1)), (6, .v (.int .i64 q.2.1))], (0, .row 3 1 (iRows q.2.2)) :: bOf az nz cz v, 3⟩,
    fun q H' => H' = H ∧ q.1 < q.2.1 ∧ q.2.1 ≤ X.length ∧ q.2.2.length = X.length ∧ q.2.2.take q.1 = pickV Z v (X.take q.2.1) ∧ q.2.2.drop q.2.1 = X.drop q.2.1, fun q => X.length - q.2.1, ⟨(m, m + 1, X), [(0, 0), (1, 1), (2, 2)], ?_, rfl, Nat.lt_succ_self _, hml, rfl, ?_, rfl⟩, ?_⟩
  · (repeat' (first|exact trivial|refine ⟨?_,?_⟩|exact rfl|assumption))
  · dsimp only
    have hno : decide ((Z[x0.toNat]?.getD siteN).2.2.l = v) = false := by
      unfold othV at ho
      simpa using ho
    rw [pickV_take hm, if_neg (by rw [hno]; decide), List.append_nil, hpk]
  rintro ⟨i, j, R⟩ H1 _ ⟨rfl, hij, hj, hRl, hRt, hRd⟩
  dsimp only at hij hj hRl hRt hRd
  have hil : (iRows R).length = R.length := List.length_map _
  refine ⟨fun h => ?_, fun h => ?_⟩
  · have hlt : j < X.length := by have := dt h; dsimp only at this; omega
    refine name_k X[j] fun x hxe => ?_
    have hxx : X[j]? = some x := by rw [hxe]; exact List.getElem?_eq_getElem hlt
    have hRx : R[j]? = some x := by
      have h3 : (R.drop j)[0]? = (X.drop j)[0]? := by rw [hRd]
      rw [List.getElem?_drop, List.getElem?_drop, Nat.add_zero, hxx] at h3
      exact h3
    have hget : (iRows R)[j]? = some [.int .i64 x] := by rw [iRows, List.getElem?_map, hRx]; rfl
    have hpt := pickV_take (Z := Z) (v := v) hxx
    refine ⟨⟨by dsimp only; omega, by dsimp only; omega⟩, ?_⟩
    refine ⟨_, hget, ?_⟩
    refine ⟨[1, 2], rfl, of1_spec (hX x (List.mem_of_getElem? hxx)) ha ?_⟩
    refine ⟨fun h => ?_, fun h => ?_⟩
    · have hk : decide ((Z[x.toNat]?.getD siteN).2.2.l = v) = true := by
        unfold othV at h
        simpa using h
      rw [if_pos hk] at hpt
      have hRi : R.length = X.length := hRl
      have eset : (iRows R).set i [.int .i64 x] = iRows (R.set i x) := by rw [iRows, iRows, List.map_set]
      refine ⟨⟨by dsimp only; omega, by dsimp only; omega⟩, ?_⟩
      have hiR : i < R.length := by omega
      refine ⟨[.int .i64 R[i]], (show (iRows R)[i]? = _ by rw [iRows, List.getElem?_map, List.getElem?_eq_getElem hiR]; rfl), ?_⟩
      refine ⟨⟨by dsimp only; omega, by dsimp only; omega⟩, ?_⟩
      refine ⟨⟨by dsimp only; omega, by dsimp only; omega⟩, (i + 1, j + 1, R.set i x), [(0, 0), (1, 1), (2, 2)], ?_, ⟨rfl, by dsimp only; omega, hlt, by dsimp only; rw [List.length_set]; exact hRl, ?_, ?_⟩, by dsimp only; omega⟩
      · (repeat' (first|exact trivial|refine ⟨?_,?_⟩|exact rfl|assumption))
      · dsimp only
        rw [hpt, ← hRt, List.take_add_one, List.getElem?_set_self (by omega), Option.toList_some, List.take_set_of_le (Nat.le_refl _)]
      · dsimp only
        rw [List.drop_set_of_lt (by omega)]
        have h3 : (R.drop j).drop 1 = (X.drop j).drop 1 := by rw [hRd]
        rw [List.drop_drop, List.drop_drop] at h3
        exact h3
    · have hk : decide ((Z[x.toNat]?.getD siteN).2.2.l = v) = false := by
        unfold othV at h
        simpa using h
      refine ⟨⟨by dsimp only; omega, by dsimp only; omega⟩, (i, j + 1, R), [(0, 0), (1, 1), (2, 2)], ?_, ⟨rfl, by dsimp only; omega, hlt, hRl, ?_, ?_⟩, by dsimp only; omega⟩
      · (repeat' (first|exact trivial|refine ⟨?_,?_⟩|exact rfl|assumption))
      · dsimp only
        rw [hpt, if_neg (by rw [hk]; decide), List.append_nil, hRt]
      · dsimp only
        have h3 : (R.drop j).drop 1 = (X.drop j).drop 1 := by rw [hRd]
        rw [List.drop_drop, List.drop_drop] at h3
        exact h3
  · have hjl : j = X.length := by have := df h; dsimp only at this; omega
    subst hjl
    rw [List.take_length] at hRt
    refine .inr ?_
    refine ⟨⟨by dsimp only; omega, by dsimp only; omega⟩, ?_⟩
    refine ⟨by dsimp only; omega, ?_⟩
    refine .inl ?_
    have efin : (((iRows R).take i ++ List.replicate ((iRows R).length - i) [Value.int .i64 0] ++ (iRows R).drop (i + ((iRows R).length - i))).take i) = iRows (pickV Z v X) := by
      rw [List.append_assoc, List.take_append_of_le_length (by rw [List.length_take]; omega), List.take_take, Nat.min_self, ← hRt, iRows, iRows, List.map_take]
    refine ⟨⟨by dsimp only; omega, ?_⟩, ?_⟩
    · show ((i : Nat) : Int) ≤ ((((iRows R).take i ++ List.replicate ((iRows R).length - i) [Value.int .i64 0] ++ (iRows R).drop (i + ((iRows R).length - i))).length : Nat) : Int)
      rw [List.length_append, List.length_append, List.length_take]
      omega
    exact ⟨.own 3, (0, .dead) :: bOf az nz cz v ++ [(3, .row 3 1 (iRows (pickV Z v X)))], 4, [(1, 1), (2, 2), (3, 3)], by (repeat' (first|exact trivial|refine ⟨?_,?_⟩|exact rfl|assumption)), hK⟩
theorem doesG_fam1 {P : Program} {f g : FuncId} {e : TypeId} {sz : Nat} {xs ys : List (List Value)} {T1 T2 : TypeId} {v1 v2 u : Value} {H : Hp} {K : SV → St → Hp → Prop}
    (hd : ∀ K' : SV → St → Hp → Prop, K' (.own 3) ⟨[], [(0, .dead), (1, .cells T1 [.v v1]), (2, .cells T2 [.v v2]), (3, .row e sz ys)], 4⟩ H → DoesG P f [.own 0, .fn g [.ptr 1 0, .ptr 2 0]] [(0, .row e sz xs), (1, .cells T1 [.v v1]), (2, .cells T2 [.v v2])] 3 H K')
    (hK : K (.own 3) ⟨[], [(0, .dead), (1, .cells T1 [.v v1]), (2, .cells T2 [.v v2]), (3, .row e sz ys)], 4⟩ H) :
    DoesG P f [.v u, .fn g [.ptr 1 0, .ptr 2 0]] [(0, .fam e sz [(u, xs)]), (1, .cells T1 [.v v1]), (2, .cells T2 [.v v2])] 3 H K := by
  have hd0 := hd (fun x t H1 => x = .own 3 ∧ t = ⟨[], [(0, .dead), (1, .cells T1 [.v v1]), (2, .cells T2 [.v v2]), (3, .row e sz ys)], 4⟩ ∧ H1 = H) ⟨rfl, rfl, rfl⟩
  refine ⟨hd0.1, fun w ρ hm hl => ?_⟩
  have hk0 := (hm.ok 0 _ rfl).2.1
  have hk1 := hm.ok 1 _ rfl
  have hk2 := hm.ok 2 _ rfl
  have hu := hk0.1 (u, xs) (List.mem_singleton.2 rfl)
  have hsh : ∃ a n c, u = .slice a n c := by
    rcases hu.1.2 with ⟨h1, _⟩ | ⟨g', cap, c, h1, _⟩
    · exact ⟨_, _, _, h1⟩
    · exact ⟨_, _, _, h1⟩
  obtain ⟨a, n, c, hue⟩ := hsh
  obtain ⟨ρ', hρ'⟩ : ∃ ρ' : Rho, ρ' = ⟨fun k => if k = 0 then u.ownBlock.getD 0 else ρ.b k, fun k => if k = 0 then (a, n, c) else ρ.sl k⟩ := ⟨_, rfl⟩
  have hv0 : ρ'.val 0 = u := by rw [hρ', hue]; rfl
  have hb1 : ρ'.b 1 = ρ.b 1 := by rw [hρ']; rfl
  have hb2 : ρ'.b 2 = ρ.b 2 := by rw [hρ']; rfl
  have hlk : ∀ {k : Nat} {b : Bx}, lk [(0, Bx.row e sz xs), (1, .cells T1 [.v v1]), (2, .cells T2 [.v v2])] k = some b → (k = 0 ∧ b = .row e sz xs) ∨ (k = 1 ∧ b = .cells T1 [.v v1]) ∨ (k = 2 ∧ b = .cells T2 [.v v2]) := fun {k b} h => by
    simp only [lk_cons] at h
    split at h
    · rename_i e0; cases h; exact .inl ⟨e0.symm, rfl⟩
    · split at h
      · rename_i e0; cases h; exact .inr (.inl ⟨e0.symm, rfl⟩)
      · split at h
        · rename_i e0; cases h; exact .inr (.inr ⟨e0.symm, rfl⟩)
        · cases h
  have hown : ∀ {k : Nat} {b : Bx} {g : Nat}, lk [(0, Bx.row e sz xs), (1, .cells T1 [.v v1]), (2, .cells T2 [.v v2])] k = some b → Owns ρ' k b g → ∃ b', lk [(0, Bx.fam e sz [(u, xs)]), (1, .cells T1 [.v v1]), (2, .cells T2 [.v v2])] k = some b' ∧ Owns ρ k b' g := fun {k b g} h ho => by
    rcases hlk h with ⟨rfl, rfl⟩ | ⟨rfl, rfl⟩ | ⟨rfl, rfl⟩
    · have ho : (ρ'.val 0).ownBlock = some g := ho
      rw [hv0] at ho
      exact ⟨_, rfl, (u, xs), List.mem_singleton.2 rfl, ho⟩
    · have ho : g = ρ'.b 1 := ho
      exact ⟨_, rfl, by rw [hb1] at ho; exact ho⟩
    · have ho : g = ρ'.b 2 := ho
      exact ⟨_, rfl, by rw [hb2] at ho; exact ho⟩
  have hE : ∀ g, (∃ k b, lk [(0, Bx.fam e sz [(u, xs)]), (1, .cells T1 [.v v1]), (2, .cells T2 [.v v2])] k = some b ∧ Owns ρ k b g) ↔ (∃ k b, lk [(0, Bx.row e sz xs), (1, .cells T1 [.v v1]), (2, .cells T2 [.v v2])] k = some b ∧ Owns ρ' k b g) := fun g => by
    constructor
    · rintro ⟨k, b, h, ho⟩
      simp only [lk_cons] at h
      split at h
      · cases h
        obtain ⟨q, hq, ho⟩ := ho
        rw [List.mem_singleton] at hq
        subst hq
        exact ⟨0, _, rfl, by show (ρ'.val 0).ownBlock = some g; rw [hv0]; exact ho⟩
      · split at h
        · rename_i e1
          cases h
          subst e1
          have ho : g = ρ.b 1 := ho
          exact ⟨1, _, rfl, by show g = ρ'.b 1; rw [hb1]; exact ho⟩
        · split at h
          · rename_i e2
            cases h
            subst e2
            have ho : g = ρ.b 2 := ho
            exact ⟨2, _, rfl, by show g = ρ'.b 2; rw [hb2]; exact ho⟩
          · cases h
    · rintro ⟨k, b, h, ho⟩
      obtain ⟨b', h1, h2⟩ := hown h ho
      exact ⟨k, b', h1, h2⟩
  have hm' : Mem (Bs.lent w ρ' [(0, .row e sz xs), (1, .cells T1 [.v v1]), (2, .cells T2 [.v v2])] 3 H) ρ' [(0, .row e sz xs), (1, .cells T1 [.v v1]), (2, .cells T2 [.v v2])] 3 H w :=
    { os := rfl, tape := rfl, output := OD.refl _, size := Nat.le_refl _, frame := fun _ _ _ => rfl, base := Nat.le_refl _, agree := fun _ _ => ⟨rfl, rfl⟩, hp := hm.hp, hle := Le.refl _, hnew := fun _ h _ _ => h
      ok := fun k b h => by
        rcases hlk h with ⟨rfl, rfl⟩ | ⟨rfl, rfl⟩ | ⟨rfl, rfl⟩
        · refine ⟨by decide, ⟨by rw [hv0]; exact hu.1, hu.2, fun g hg => ?_⟩, rfl⟩
          rw [hv0] at hg
          rw [hρ']
          show u.ownBlock.getD 0 = g
          rw [hg]; rfl
        · refine ⟨by decide, ?_, hk1.2.2⟩
          have h1 := hk1.2.1
          simp only [BoxOK, gas, ga] at h1 ⊢
          rw [hb1]; exact h1
        · refine ⟨by decide, ?_, hk2.2.2⟩
          have h1 := hk2.2.1
          simp only [BoxOK, gas, ga] at h1 ⊢
          rw [hb2]; exact h1
      own := fun k b g h ho => by
        obtain ⟨b', h1, h2⟩ := hown h ho
        exact ⟨(hm.own k b' g h1 h2).1, .inr ⟨k, b, h, ho⟩⟩
      disj := fun k k' b b' g h h' ho ho' => by
        obtain ⟨c1, h1, h2⟩ := hown h ho
        obtain ⟨c2, h3, h4⟩ := hown h' ho'
        exact hm.disj k k' c1 c2 g h1 h3 h2 h4 }
  have hl' : SV.lts 3 [.own 0, .fn g [.ptr 1 0, .ptr 2 0]] = true := rfl
  have hcall := hd0.2 w ρ' hm' hl'
  have hargs : gas ρ' [.own 0, .fn g [.ptr 1 0, .ptr 2 0]] = gas ρ [.v u, .fn g [.ptr 1 0, .ptr 2 0]] := by
    simp only [gas, ga, hv0, hb1, hb2]
  rw [hargs] at hcall
  refine hcall.mono ?_
  rintro ev w' ⟨x, t, H1, ρ1, he, ⟨rfl, rfl, rfl⟩, hlt, hm1⟩
  obtain ⟨ρ2, hρ2⟩ : ∃ ρ2 : Rho, ρ2 = ⟨fun k => if k = 0 then ρ.b 0 else ρ1.b k, fun k => if k = 0 then ρ.sl 0 else ρ1.sl k⟩ := ⟨_, rfl⟩
  have hb : ∀ k, k ≠ 0 → ρ2.b k = ρ1.b k ∧ ρ2.sl k = ρ1.sl k := fun k hk => by rw [hρ2]; exact ⟨if_neg hk, if_neg hk⟩
  have hv3 : ρ2.val 3 = ρ1.val 3 := by unfold Rho.val; rw [(hb 3 (by decide)).2]
  have hlk2 : ∀ {k : Nat} {b : Bx}, lk [(0, Bx.dead), (1, .cells T1 [.v v1]), (2, .cells T2 [.v v2]), (3, .row e sz ys)] k = some b → b = .dead ∨ (k ≠ 0 ∧ ((k = 1 ∧ b = .cells T1 [.v v1]) ∨ (k = 2 ∧ b = .cells T2 [.v v2]) ∨ (k = 3 ∧ b = .row e sz ys))) := fun {k b} h => by
    simp only [lk_cons] at h
    split at h
    · cases h; exact .inl rfl
    · rename_i n0
      refine .inr ⟨fun e => n0 e.symm, ?_⟩
      split at h
      · rename_i e0; cases h; exact .inl ⟨e0.symm, rfl⟩
      · split at h
        · rename_i e0; cases h; exact .inr (.inl ⟨e0.symm, rfl⟩)
        · split at h
          · rename_i e0; cases h; exact .inr (.inr ⟨e0.symm, rfl⟩)
          · cases h
  have how : ∀ {k : Nat} {b : Bx} {g : Nat}, lk [(0, Bx.dead), (1, .cells T1 [.v v1]), (2, .cells T2 [.v v2]), (3, .row e sz ys)] k = some b → Owns ρ2 k b g → Owns ρ1 k b g := fun {k b g} h ho => by
    rcases hlk2 h with rfl | ⟨_, ⟨rfl, rfl⟩ | ⟨rfl, rfl⟩ | ⟨rfl, rfl⟩⟩
    · exact ho
    · have ho : g = ρ2.b 1 := ho
      show g = ρ1.b 1
      rw [← (hb 1 (by decide)).1]; exact ho
    · have ho : g = ρ2.b 2 := ho
      show g = ρ1.b 2
      rw [← (hb 2 (by decide)).1]; exact ho
    · have ho : (ρ2.val 3).ownBlock = some g := ho
      show (ρ1.val 3).ownBlock = some g
      rw [← hv3]; exact ho
  refine ⟨.own 3, _, _, ρ2, ?_, hK, rfl, ?_⟩
  · rw [he, ga, ga, hv3]
  · exact
    { os := hm1.os, tape := hm1.tape, output := hm1.output, size := hm1.size
      frame := fun b h1 h2 => hm1.frame b h1 fun h3 => h2 ((hE b).2 h3)
      base := hm1.base
      agree := fun k hk => by
        by_cases h0 : k = 0
        · subst h0; rw [hρ2]; exact ⟨rfl, rfl⟩
        · have h1 := hm1.agree k hk
          have h2 := hb k h0
          rw [h2.1, h2.2]
          have e1 : (Bs.lent w ρ' [(0, Bx.row e sz xs), (1, .cells T1 [.v v1]), (2, .cells T2 [.v v2])] 3 H1).ρ = ρ' := rfl
          rw [e1, hρ'] at h1
          dsimp only at h1
          rw [if_neg h0, if_neg h0] at h1
          exact h1
      hp := hm1.hp, hle := hm1.hle
      hnew := fun b h1 h2 h3 => hm1.hnew b h1 h2 fun h4 => h3 ((hE b).2 h4)
      ok := fun k b h => by
        have h1 := hm1.ok k b h
        refine ⟨h1.1, ?_, h1.2.2⟩
        rcases hlk2 h with rfl | ⟨_, ⟨rfl, rfl⟩ | ⟨rfl, rfl⟩ | ⟨rfl, rfl⟩⟩
        · trivial
        · have h2 := h1.2.1
          simp only [BoxOK, gas, ga] at h2 ⊢
          rw [(hb 1 (by decide)).1]; exact h2
        · have h2 := h1.2.1
          simp only [BoxOK, gas, ga] at h2 ⊢
          rw [(hb 2 (by decide)).1]; exact h2
        · have h2 := h1.2.1
          simp only [BoxOK] at h2 ⊢
          rw [hv3, (hb 3 (by decide)).1]; exact h2
      own := fun k b g h ho => by
        have h1 := hm1.own k b g h (how h ho)
        exact ⟨h1.1, h1.2.imp_right (hE g).2⟩
      disj := fun k k' b b' g h h' ho ho' => hm1.disj k k' b b' g h h' (how h ho) (how h' ho') }
end Go.Proofs
end
section
namespace Go.Proofs
open Go.Sy
set_option maxRecDepth 20000
set_option maxHeartbeats 4000000
noncomputable def cxOf : Cx := { P := Tryz.prog, tt := tt, n := 0, wrap := false, base := 0, gf := 16 :: cx.gf, eqs := cx.eqs, xf := [] }
theorem cxOf_ok : TOK cxOf := ⟨cx_ok.tt, cx_ok.eqs⟩
def okOf (p : Prog) (block stmt : Int) (v : Bs8) : Prop := ∃ b, 0 ≤ block ∧ p[block.toNat]? = some b ∧ 0 ≤ stmt ∧ stmt ≤ (b.2.1.length : Nat) ∧ 0 ≤ idxS v (varsOf p) 0
theorem cof_spec {p : Prog} (hp : p.length ≤ 12) (hl : ∀ b ∈ p, b.2.1.length ≤ 100000) (hc : stmtsN p ≤ 1000000) (hv : cnt p < 400000) {block stmt : Int} {v : Bs8} {a : Option Addr} {n c : Nat} {H : Hp} {K : Value → Hp → Prop} (ha : RL H a n c p) (hT : TabH H)
    (hbad : checkE p ≠ 0 → ∀ H', Le H H' → K (.tuple #[.slice none 0 0, .int .i64 (checkE p)]) H')
    (harg : checkE p = 0 → ¬ okOf p block stmt v → ∀ H', Le H H' → K (.tuple #[.slice none 0 0, .int .i64 1]) H')
    (hK : checkE p = 0 → okOf p block stmt v → ∀ a1 n1 c1 H', Le H H' → RL H' a1 n1 c1 (ofS (sitesOf p) ((reachI p)[block.toNat]?.getD []) block stmt v) → K (.tuple #[.slice a1 n1 c1, .int .i64 0]) H') :
    Does Tryz.prog 17 [.agg #[.slice a n c], .int .i64 block, .int .i64 stmt, .string (bs v)] H K := by
  have hn := ha.n_eq
  refine spec_of cxOf_ok cx_mix rfl Tryz.func17 Tryz.call17 Tryz.ntmps17 Tryz.results17 rfl rfl ?_
  refine ⟨[], rfl, csetsG_spec hp hl hc hv block.toNat ha hT (fun he H1 hle1 => ?_) (fun he vs a2 n2 c2 H1 hle1 hvl => ?_)⟩
  · refine ⟨fun _ => hbad he _ hle1, fun h => absurd (nf h) he⟩
  refine ⟨fun h => absurd rfl (nt h), fun _ => ?_⟩
  have harg := harg he
  have hK := hK he
  have hhl : (headV vs).length = p.length := by rw [List.length_map]; exact hvl
  refine ⟨fun h1 => ?_, fun h1 => ?_⟩
  case refine_2 =>
    have h1 := dt h1
    exact harg (fun ⟨_, h2, _⟩ => by omega) _ hle1
  have h1 := df h1
  refine ⟨fun h2 => ?_, fun h2 => ?_⟩
  case refine_2 =>
    have h2 := dt h2
    refine harg (fun ⟨b, h3, h4, _⟩ => ?_) _ hle1
    have := (List.getElem?_eq_some_iff.1 h4).1
    have h2 : ((headV vs).length : Int) ≤ block := h2
    omega
  have h2 : ¬ ((headV vs).length : Int) ≤ block := df h2
  refine ⟨fun h3 => ?_, fun h3 => ?_⟩
  case refine_2 =>
    have h3 := dt h3
    exact harg (fun ⟨_, _, _, h4, _⟩ => by omega) _ hle1
  have h3 := df h3
  have hbl : block.toNat < p.length := by omega
  have hbb : p[block.toNat]? = some p[block.toNat] := List.getElem?_eq_getElem hbl
  generalize p[block.toNat] = b at hbb
  refine block_kI (ha.up hle1) (by omega) hbb fun ad2 a7 n7 c7 q2 hh2 hr7 _ _ => ?_
  have hn7 := hr7.n_eq
  refine ⟨ad2, ⟨by omega, by omega, q2⟩, ?_⟩
  refine ⟨_, hh2, ?_⟩
  refine ⟨fun h4 => ?_, fun h4 => ?_⟩
  · have h4 := dt h4
    refine harg (fun ⟨b', _, g2, _, g4, _⟩ => ?_) _ hle1
    rw [hbb] at g2
    cases g2
    omega
  have h4 := df h4
  refine var_spec (ha.up hle1) hv fun H2 hle2 => ?_
  refine ⟨fun h5 => ?_, fun h5 => ?_⟩
  · have h5 := nt h5
    exact harg (fun ⟨_, _, _, _, _, g5⟩ => h5 g5) _ hle1
  have h5 := nf h5
  have hok : okOf p block stmt v := ⟨b, by omega, hbb, by omega, by omega, h5⟩
  have hK := hK hok
  have hv64 := vars64 he
  have hz5 := sites_len he
  refine tsites_spec hp hl hc hv hv64 (ha.up hle1) fun az nz cz H3 hle3 hrz => ?_
  refine clast_spec (by omega) hrz fun _ _ => ?_
  have hin := lastS_in (sitesOf p) block stmt v
  refine ⟨fun h6 => ?_, fun h6 => ?_⟩
  · have h6 : 0 ≤ lastS (sitesOf p) block stmt v := dt h6
    intro v6 H6 hle6 hv6
    refine of_row_k (α := Int) hv6 (rc_iRows (l := [(lastV (lastS (sitesOf p) block stmt v)).1]) fun x hx => ?_) fun d1 d2 d3 ev hr => ?_
    · rw [List.mem_singleton] at hx
      rw [hx, lastV, if_pos h6]
      exact ⟨by omega, by omega⟩
    subst ev
    refine hK _ _ _ _ ((hle1.trans hle3).trans hle6.le) ?_
    rw [ofS, if_pos h6]
    rw [lastV, if_pos h6] at hr
    exact hr
  · have h6 : ¬ 0 ≤ lastS (sitesOf p) block stmt v := df h6
    have hA := Bt.solveS_ok (csysOf_ok he)
    have hlI : (reachI p).length = p.length := by rw [reachI, List.length_map, hA.len]; rfl
    have hXx : (reachI p)[block.toNat]? = some ((reachI p)[block.toNat]'(by omega)) := List.getElem?_eq_getElem (by omega)
    generalize (reachI p)[block.toNat]'(by omega) = X at hXx
    have hXi : ((Bt.solveS (csysOf p)).map numB)[block.toNat]? = some X := hXx
    rw [List.getElem?_map] at hXi
    obtain ⟨x, hx, hxe⟩ := Option.map_eq_some_iff.1 hXi
    have hokx := hA.ok x (List.mem_of_getElem? hx)
    have hX : ∀ y ∈ X, 0 ≤ y ∧ y < ((sitesOf p).length : Nat) := fun y hy => by
      rw [← hxe] at hy
      exact num_in hokx y hy
    have hXl : X.length ≤ 100000 := by
      have h7 := allL_len x 0
      have h8 := hokx.1
      rw [sizeB] at h8
      have h9 : (csysOf p).w = (sitesOf p).length := rfl
      rw [← hxe]
      have h10 : (numB x).length ≤ 64 * x.length := h7
      omega
    have hu : vs[block.toNat]? = some (vs[block.toNat]'(by omega)) := List.getElem?_eq_getElem (by omega)
    generalize vs[block.toNat]'(by omega) = u at hu
    have efam : famOf vs (reachI p) block.toNat = [(u, iRows X)] := by rw [famOf, hu, hXx]; rfl
    rw [efam]
    have hget : (headV vs)[block.toNat]? = some [u] := by rw [headV, List.getElem?_map, hu]; rfl
    refine ⟨⟨by omega, by omega⟩, ?_⟩
    refine ⟨_, hget, ?_⟩
    refine ⟨[3, 4, 1], rfl, doesG_fam1 (fun K' h => delf_spec hX hXl hrz h) ?_⟩
    intro v6 H6 hle6 hv6
    refine of_row_k (α := Int) hv6 (rc_iRows (l := pickV (sitesOf p) v X) fun y hy => ?_) fun d1 d2 d3 ev hr => ?_
    · have := hX y (List.mem_filter.1 hy).1
      exact ⟨by omega, by omega⟩
    subst ev
    refine hK _ _ _ _ ((hle1.trans hle3).trans hle6.le) ?_
    rw [ofS, if_neg h6, hXx]
    exact hr
end Go.Proofs
end
section
namespace Go.Proofs
open Go.Sy
set_option maxRecDepth 20000
set_option maxHeartbeats 4000000
theorem usesS_in {s : Stmt} {v : Bs8} (h : v ∈ usesS s) : v ≠ [] ∧ v ∈ sVars s := by
  unfold usesS at h
  rw [nmsOf_mem] at h
  refine ⟨h.2, ?_⟩
  have h := h.1
  unfold useL at h
  split at h
  · obtain ⟨a, ha, rfl⟩ := List.mem_map.1 h
    unfold atomsOf at ha
    simp only [sVars]
    split at ha
    · simp at ha; rcases ha with rfl | rfl <;> simp
    · split at ha
      · simp at ha; rcases ha with rfl | rfl <;> simp
      · simp at ha
  · split at h
    · rw [List.mem_singleton] at h; simp [sVars, h]
    · cases h
theorem useK_mem {i : Nat} : ∀ (l : List Stmt) (k : Nat) {x : Site}, x ∈ useK i l k → x.1 = (i : Nat) ∧ ∃ j s, x.2.1 = ((k + j : Nat) : Int) ∧ l[j]? = some s ∧ x.2.2.l ∈ usesS s
  | [], _, _, h => by cases h
  | s :: r, k, x, h => by
    rw [useK] at h
    rcases List.mem_append.1 h with h | h
    · obtain ⟨t, ht, rfl⟩ := List.mem_map.1 h
      obtain ⟨v, hv, rfl⟩ := List.mem_map.1 ht
      exact ⟨rfl, 0, s, rfl, rfl, hv⟩
    · obtain ⟨h1, j, t, h2, h3, h4⟩ := useK_mem r (k + 1) h
      exact ⟨h1, j + 1, t, by rw [h2]; congr 1; omega, h3, h4⟩
theorem useB_mem : ∀ (p : Prog) (i : Nat) {x : Site}, x ∈ useB p i → ∃ j b k, x.1 = ((i + j : Nat) : Int) ∧ p[j]? = some b ∧ x.2.1 = ((k : Nat) : Int) ∧ k ≤ b.2.1.length ∧ x.2.2.l ≠ [] ∧ ((∃ s ∈ b.2.1, x.2.2.l ∈ sVars s) ∨ x.2.2.l = b.2.2.2.1.1.l)
  | [], _, _, h => by cases h
  | b :: r, i, x, h => by
    rw [useB] at h
    rcases List.mem_append.1 h with h | h
    · obtain ⟨h1, j, s, h2, h3, h4⟩ := useK_mem b.2.1 0 h
      obtain ⟨h5, h6⟩ := usesS_in h4
      exact ⟨0, b, j, h1, rfl, by rw [h2, Nat.zero_add], Nat.le_of_lt (List.getElem?_eq_some_iff.1 h3).1, h5, .inl ⟨s, List.mem_of_getElem? h3, h6⟩⟩
    · rcases List.mem_append.1 h with h | h
      · unfold useE at h
        split at h
        · rename_i hh
          rw [List.mem_singleton] at h
          subst h
          exact ⟨0, b, b.2.1.length, rfl, rfl, rfl, Nat.le_refl _, hh.2, .inr rfl⟩
        · cases h
      · obtain ⟨j, c, k, h1, h2⟩ := useB_mem r (i + 1) h
        exact ⟨j + 1, c, k, by rw [h1]; congr 1; omega, h2⟩
theorem usesS_len (s : Stmt) : (usesS s).length ≤ 2 := by
  have h := putAll_len (useL s) []
  have h2 := useL_len s
  have e : usesS s = putAll (useL s) [] := rfl
  rw [e]
  rw [List.length_nil] at h
  omega
theorem useK_len (i : Nat) : ∀ (l : List Stmt) (k : Nat), (useK i l k).length ≤ 2 * l.length
  | [], _ => Nat.le_refl _
  | s :: r, k => by
    have h1 := useK_len i r (k + 1)
    have h2 := usesS_len s
    rw [useK, List.length_append, List.length_map, List.length_map, List.length_cons]
    omega
theorem useB_len : ∀ (p : Prog) (i : Nat), (useB p i).length ≤ 2 * stmtsN p + p.length
  | [], _ => Nat.zero_le _
  | b :: r, i => by
    have h1 := useB_len r (i + 1)
    have h2 := useK_len i b.2.1 0
    have h3 : (useE i b).length ≤ 1 := by unfold useE; split <;> simp
    have e : stmtsN (b :: r) = b.2.1.length + stmtsN r := by simp [stmtsN]
    rw [useB, List.length_append, List.length_append, List.length_cons, e]
    omega
theorem uses_R {p : Prog} (hp : p.length ≤ 12) (hl : ∀ b ∈ p, b.2.1.length ≤ 100000) {H : Hp} {a : Option Addr} {n c : Nat} (ha : RL H a n c p) : ∀ x ∈ usesP p, siteR x := fun x h => by
  obtain ⟨j, b, k, h1, h2, h3, h4, h5, h6⟩ := useB_mem p 0 h
  have hj := (List.getElem?_eq_some_iff.1 h2).1
  have hb := List.mem_of_getElem? h2
  have hlb := hl b hb
  refine ⟨⟨by omega, by omega⟩, ⟨by omega, by omega⟩, ?_⟩
  refine vars_all ha _ ?_
  rcases h6 with ⟨s, hs, h6⟩ | h6
  · exact ((vars_has p nil_sorted).1 b hb).1 s hs _ h6 h5
  · rw [h6] at h5 ⊢; exact ((vars_has p nil_sorted).1 b hb).2 h5
theorem uses_ok {p : Prog} {x : Site} (h : x ∈ usesP p) : okOf p x.1 x.2.1 x.2.2.l := by
  obtain ⟨j, b, k, h1, h2, h3, h4, h5, h6⟩ := useB_mem p 0 h
  have hb := List.mem_of_getElem? h2
  have e : x.1.toNat = j := by rw [h1]; omega
  refine ⟨b, by omega, by rw [e]; exact h2, by omega, by omega, ?_⟩
  rcases h6 with ⟨s, hs, h6⟩ | h6
  · exact (vIdx_stmt hb hs h6 h5).1
  · rw [h6] at h5 ⊢; exact (vIdx_term hb h5).1
def fromP (p : Prog) (l : List Site) : List (List Int) := l.map fun u => ofS (sitesOf p) ((reachI p)[u.1.toNat]?.getD []) u.1 u.2.1 u.2.2.l
end Go.Proofs
end
section
namespace Go.Proofs
open Go.Sy
set_option maxRecDepth 20000
set_option maxHeartbeats 4000000
theorem fromP_snoc (p : Prog) (l : List Site) (u : Site) : fromP p (l ++ [u]) = fromP p l ++ [ofS (sitesOf p) ((reachI p)[u.1.toNat]?.getD []) u.1 u.2.1 u.2.2.l] := by
  rw [fromP, fromP, List.map_append]; rfl
theorem rc_left {α : Type} [Enc α] {H Hm : Hp} {css : List (List Value)} {xs : List α} (h : RC H css xs) (hR : ∀ {cs : List Value} {x : α}, Enc.R H cs x → Enc.R Hm cs x) : RC Hm css xs := ⟨h.1, fun i cs x h1 h2 => hR (h.2 i cs x h1 h2)⟩
theorem cfrom_spec {p : Prog} (hp : p.length ≤ 12) (hl : ∀ b ∈ p, b.2.1.length ≤ 100000) (hc : stmtsN p ≤ 1000000) (hc2 : stmtsN p ≤ 1000) (hv : cnt p < 400000) {a : Option Addr} {n c : Nat} {H : Hp} {K : Value → Hp → Prop} (ha : RL H a n c p) (hT : TabH H)
    (hbad : checkE p ≠ 0 → ∀ H', Le H H' → K (.tuple #[.slice none 0 0, .int .i64 (checkE p)]) H')
    (hK : checkE p = 0 → ∀ a1 n1 c1 H', Le H H' → RL (α := List Int) H' a1 n1 c1 (fromP p (usesP p)) → K (.tuple #[.slice a1 n1 c1, .int .i64 0]) H') :
    Does Tryz.prog 33 [.agg #[.slice a n c]] H K := by
  have hZl : (usesP p).length ≤ 2 * stmtsN p + p.length := useB_len p 0
  have hZR := uses_R hp hl ha
  refine spec_ofM cx_ok cx_mix rfl Tryz.func33 Tryz.call33 Tryz.ntmps33 Tryz.results33 rfl rfl ?_
  refine pcheck_spec ha hc hv fun H00 hle00 => ?_
  refine ⟨fun h => ?_, fun h => ?_⟩
  · intro Hm hle _
    exact hbad (nt h) _ hle
  have he : checkE p = 0 := nf h
  have hK := hK he
  refine ⟨[], rfl, cuses_spec fun g H1 hle1 hg => ?_⟩
  refine range_rawV ?_ ?_ rfl [.pointer (some ⟨g, 0, none⟩)] (usesP p) (fun x : Site => .agg #[.int .i64 x.1, .int .i64 x.2.1, .string (bs x.2.2.l)]) rfl Tryz.call133 (uses_iter (by omega) hl (ha.up hle1) hg) (by kernel_rfl)
    2 [(1, .ptr 0 0), (5, .ptr 1 0)]
    (fun y : List (List Value) => [(0, .cells 24 [.v (.slice a n c)]), (1, .cells 39 [.own 2]), (2, .row 28 1 y)]) 3
    (fun pre y H' => Le H H' ∧ RC (α := List Int) H' y (fromP p pre)) rfl ?_ ?_ ?_ ?_
  · exact ⟨cx_ok.tt, cx_ok.eqs⟩
  · exact cx_mix
  · rintro pre y H3 H4 hle ⟨h1, h2⟩
    exact ⟨h1.trans hle, h2.up hle⟩
  · refine ⟨[], [(0, 0), (1, 1)], ?_, fun H' hle => ⟨hle1.trans hle, RC.nil⟩⟩
    (repeat' (first|exact trivial|refine ⟨?_,?_⟩|exact rfl|assumption))
  · rintro pre x y H3 hle3 ⟨hle4, hy⟩ hpre
    have hpl := hpre.length_le
    rw [List.length_append, List.length_singleton] at hpl
    have hx : x ∈ usesP p := hpre.subset (by simp)
    have hyl : y.length = pre.length := hy.1.trans (List.length_map _)
    refine cof_spec hp hl hc hv (ha.up hle4) (hT.up hle4) (fun h => absurd he h) (fun _ h => absurd (uses_ok hx) h) fun _ _ a7 n7 c7 H4 hle5 hr7 => ?_
    have hrc2 : RC (α := List Int) H4 (y ++ [[.slice a7 n7 c7]]) (fromP p (pre ++ [x])) := by
      rw [fromP_snoc]
      exact RC.snoc (RC.up hy hle5) (show Enc.R (α := List Int) H4 [.slice a7 n7 c7] _ from ⟨a7, n7, c7, rfl, hr7⟩)
    refine ⟨⟨by show (_ + 1) * 24 ≤ 140737488355328; omega, by show _ + 1 ≤ 9223372036854775807; omega⟩, ?_⟩
    refine ⟨rfl, y ++ [[.slice a7 n7 c7]], [(0, 0), (1, 1), (2, 5)], ?_, hle4.trans hle5, hrc2⟩
    (repeat' (first|exact trivial|refine ⟨?_,?_⟩|exact rfl|assumption))
  · rintro y H3 hle3 ⟨hle4, hy⟩
    intro Hm hle5 hcl v H6 hle6 hv6
    have hy2 : RC (α := List Int) Hm y (fromP p (usesP p)) := rc_left hy fun {cs x} ⟨d1, d2, d3, e, hr⟩ => ⟨d1, d2, d3, e, rl_left hr hcl fun h => h⟩
    obtain ⟨a7, n7, c7, rfl, hr7⟩ := RL.of_row (α := List Int) hv6 (RC.up hy2 hle6.le)
    exact hK _ _ _ _ (hle5.trans hle6.le) hr7
end Go.Proofs
end
section
namespace Go.Proofs
open Go.Sy
set_option maxRecDepth 20000
set_option maxHeartbeats 4000000
end Go.Proofs
end
section
namespace Go.Proofs
open Go.Sy
set_option maxRecDepth 20000
set_option maxHeartbeats 4000000
end Go.Proofs
end
section
namespace Go.Proofs
open Go.Sy
set_option maxRecDepth 20000
set_option maxHeartbeats 4000000
theorem small_1000 {p : Prog} (h : small4 p) : stmtsN p ≤ 1000 := by
  have h1 : ∀ q : Prog, (∀ b ∈ q, smallB4 b) → stmtsN q ≤ 12 * q.length := by
    intro q
    induction q with
    | nil => intro _; exact Nat.zero_le _
    | cons b r ih =>
      intro hq
      have h2 := ih fun c hc => hq c (List.mem_cons_of_mem _ hc)
      have h3 := (hq b List.mem_cons_self).1.1
      have e : stmtsN (b :: r) = b.2.1.length + stmtsN r := by simp [stmtsN]
      rw [e, List.length_cons]
      omega
  have h2 := h1 p h.2
  have h3 := h.1
  omega
def stC1 : Stmt := (1, ⟨[120]⟩, (0, (⟨[]⟩, 0, 0), (⟨[]⟩, 0, 0)))
def stC2 : Stmt := (3, ⟨[]⟩, (0, (⟨[120]⟩, 0, 0), (⟨[]⟩, 0, 0)))
def blC : Block := (⟨[97]⟩, [stC1, stC2], (3, za, ⟨[]⟩, ⟨[]⟩))
def progC : Prog := [blC]
theorem from_C : fromP progC (usesP progC) = [[1]] := by decide +kernel
theorem check_C : checkE progC = 0 := by decide +kernel
theorem stC1_R : stmtR stC1 := ⟨⟨by decide, by decide⟩, Nat.le_of_lt_succ (by decide), ⟨by decide, by decide⟩, ⟨Nat.zero_le _, zero_RA, zero_RA⟩, ⟨Nat.zero_le _, zero_RA, zero_RA⟩⟩
theorem stC2_R : stmtR stC2 := ⟨⟨by decide, by decide⟩, Nat.zero_le _, ⟨by decide, by decide⟩, ⟨Nat.le_of_lt_succ (by decide), zero_RA, zero_RA⟩, ⟨Nat.zero_le _, zero_RA, zero_RA⟩⟩
theorem awake48_spec {H : Hp} {K : Value → Hp → Prop} (hT : TabH H) (hK : ∀ H', Le H H' → K (.bool true) H') : Does Tryz.prog 30 [] H K := by
  refine spec_of cx_ok cx_mix rfl Tryz.func30 Tryz.call30 Tryz.ntmps30 Tryz.results30 rfl rfl ?_
  intro x2 H2 hle2 hx2
  refine of_row_k (α := Stmt) hx2 (show RC (α := Stmt) H2 _ [stC1, stC2] from (RC.nil.snoc (stmt_mk2 stC1_R)).snoc (stmt_mk2 stC2_R)) fun sb sm sd ex2 hr2 => ?_
  subst ex2
  intro y H3 hle3 hy
  refine of_row_k (α := Block) hy (show RC (α := Block) H3 _ progC from RC.nil.snoc (block_mk (b := blC) (hr2.up hle3.le) (Nat.le_of_lt_succ (by decide)) ⟨⟨by decide, by decide⟩, za_R, Nat.zero_le _, Nat.zero_le _⟩)) fun a n c ey hr => ?_
  subst ey
  have hle := hle2.le.trans hle3.le
  refine cfrom_spec (p := progC) (by decide) (by decide) (by decide) (by decide) (by decide) hr (hT.up hle) (fun he => absurd check_C he) fun he a1 n1 c1 H4 hle4 hr4 => ?_
  rw [from_C] at hr4
  have hn1 := hr4.n_eq
  have hn1 : n1 = 1 := hn1
  subst hn1
  refine ⟨fun _ => ?_, fun h => absurd rfl (df h)⟩
  refine ⟨fun _ => ?_, fun h => absurd rfl (df h)⟩
  refine list_k hr4 (i := 0) (x := [1]) rfl fun ad a5 n5 c5 q1 hh hr6 => ?_
  refine ⟨ad, ⟨by omega, by omega, q1⟩, ?_⟩
  refine ⟨_, hh, ?_⟩
  intro v5 H5 hle5 hv5
  refine of_row_k (α := Int) hv5 (rc_iRows (l := [1]) fun x hx => by
    rw [List.mem_singleton] at hx
    subst hx
    exact ⟨by decide, by decide⟩) fun d1 d2 d3 e1 hr7 => ?_
  subst e1
  refine ints_spec (hr6.up hle5.le) hr7 ?_
  exact hK _ (hle.trans hle4)
end Go.Proofs
end
section
namespace Go.Proofs
open Go.Sy
set_option maxRecDepth 20000
set_option maxHeartbeats 4000000
theorem lastG_app (b k : Int) (v : Bs8) : ∀ (l r : List Site) (i : Nat) (o : Int), lastG b k v (l ++ r) i o = lastG b k v r (i + l.length) (lastG b k v l i o)
  | [], r, i, o => rfl
  | x :: l, r, i, o => by
    rw [List.cons_append, lastG, lastG, lastG_app b k v l r, List.length_cons, show i + 1 + l.length = i + (l.length + 1) by omega]
theorem lastG_no {b k : Int} {v : Bs8} : ∀ (l : List Site) (i : Nat) (o : Int), (∀ x ∈ l, hitS b k v x = false) → lastG b k v l i o = o
  | [], _, _, _ => rfl
  | x :: l, i, o, h => by
    rw [lastG, if_neg (by rw [h x List.mem_cons_self]; decide)]
    exact lastG_no l (i + 1) o fun y hy => h y (List.mem_cons_of_mem _ hy)
theorem lastG_congr {b k k' : Int} {v : Bs8} : ∀ (l : List Site) (i : Nat) (o : Int), (∀ x ∈ l, hitS b k v x = hitS b k' v x) → lastG b k v l i o = lastG b k' v l i o
  | [], _, _, _ => rfl
  | x :: l, i, o, h => by
    rw [lastG, lastG, h x List.mem_cons_self]
    exact lastG_congr l (i + 1) _ fun y hy => h y (List.mem_cons_of_mem _ hy)
theorem hitS_no {b k : Int} {v : Bs8} {x : Site} (h : ¬ (x.1 = b ∧ x.2.1 < k)) : hitS b k v x = false := by
  cases hh : hitS b k v x with
  | false => rfl
  | true => exact absurd ⟨(hitS_is.1 hh).1, (hitS_is.1 hh).2.1⟩ h
theorem siteP_blk : ∀ (p : Prog) (i : Nat) (x : Site), x ∈ siteP p i → (i : Int) ≤ x.1 ∧ x.1 < ((i + p.length : Nat) : Int) := fun p i x h => by
  obtain ⟨m, b, j, s, h1, h2, _⟩ := siteP_mem p i x h
  have := (List.getElem?_eq_some_iff.1 h2).1
  omega
theorem siteP_split : ∀ (p : Prog) (i j : Nat) (b : Block), p[i]? = some b → siteP p j = siteP (p.take i) j ++ (siteL (j + i) b.2.1 0 ++ siteP (p.drop (i + 1)) (j + i + 1))
  | [], i, j, b, h => by simp at h
  | x :: r, 0, j, b, h => by
    rw [List.getElem?_cons_zero] at h
    cases h
    simp [siteP]
  | x :: r, i + 1, j, b, h => by
    rw [List.getElem?_cons_succ] at h
    rw [List.take_succ_cons, List.drop_succ_cons, siteP, siteP, siteP_split r i (j + 1) b h, List.append_assoc, show j + 1 + i = j + (i + 1) by omega]
def preS (p : Prog) (i : Nat) : List Site := site0 (varsOf p) ++ siteP (p.take i) 0
theorem sites_split {p : Prog} {i : Nat} {b : Block} (h : p[i]? = some b) : sitesOf p = preS p i ++ (siteL i b.2.1 0 ++ siteP (p.drop (i + 1)) (i + 1)) := by
  rw [sitesOf, siteP_split p i 0 b h, Nat.zero_add, preS, List.append_assoc]
theorem preS_blk {p : Prog} {i : Nat} : ∀ x ∈ preS p i, x.1 < (i : Int) := fun x h => by
  rw [preS] at h
  rcases List.mem_append.1 h with h | h
  · obtain ⟨v, _, rfl⟩ := List.mem_map.1 h
    show (-1 : Int) < _
    omega
  · have h1 := (siteP_blk _ 0 x h).2
    rw [List.length_take] at h1
    omega
theorem lastS_split {p : Prog} {i : Nat} {b : Block} (h : p[i]? = some b) (k : Int) (v : Bs8) : lastS (sitesOf p) i k v = lastG i k v (siteL i b.2.1 0) (preS p i).length (-1) := by
  rw [lastS, sites_split h, lastG_app, lastG_app, lastG_no (siteP (p.drop (i + 1)) (i + 1)), lastG_no (preS p i), Nat.zero_add]
  · exact fun x hx => hitS_no fun h2 => by have := preS_blk x hx; omega
  · exact fun x hx => hitS_no fun h2 => by have := (siteP_blk _ _ x hx).1; omega
theorem siteL_ge (i : Nat) (l : List Stmt) (j : Nat) (x : Site) (h : x ∈ siteL i l j) : (j : Int) ≤ x.2.1 ∧ x.2.1 < ((j + l.length : Nat) : Int) := by
  obtain ⟨_, m, s, h1, h2, _⟩ := siteL_mem i l j x h
  have := (List.getElem?_eq_some_iff.1 h2).1
  omega
theorem siteL_app (i : Nat) : ∀ (l r : List Stmt) (j : Nat), siteL i (l ++ r) j = siteL i l j ++ siteL i r (j + l.length)
  | [], r, j => rfl
  | s :: l, r, j => by
    rw [List.cons_append, siteL, siteL, siteL_app i l r (j + 1), List.append_assoc, List.length_cons, show j + 1 + l.length = j + (l.length + 1) by omega]
theorem lastL_take (i : Nat) (v : Bs8) : ∀ (l : List Stmt) (k j q : Nat) (o : Int), lastG i ((j + k : Nat) : Int) v (siteL i l j) q o = lastG i ((j + k : Nat) : Int) v (siteL i (l.take k) j) q o
  | [], k, j, q, o => by rw [List.take_nil]
  | s :: r, 0, j, q, o => by
    rw [lastG_no (siteL i (s :: r) j)]
    · rfl
    · exact fun x hx => hitS_no fun h2 => by have := (siteL_ge i _ j x hx).1; omega
  | s :: r, k + 1, j, q, o => by
    rw [List.take_succ_cons, siteL, siteL, lastG_app, lastG_app, show j + (k + 1) = j + 1 + k by omega]
    exact lastL_take i v r k (j + 1) _ _
def posS (p : Prog) (i : Nat) (l : List Stmt) (k : Nat) : Nat := (preS p i).length + (siteL i (l.take k) 0).length
theorem lastS_zero {p : Prog} {i : Nat} {b : Block} (h : p[i]? = some b) (v : Bs8) : lastS (sitesOf p) i 0 v = -1 := by
  rw [lastS_split h]
  exact lastG_no _ _ _ fun x hx => hitS_no fun h2 => by have := (siteL_ge i _ 0 x hx).1; omega
theorem lastS_succ {p : Prog} {i : Nat} {b : Block} (h : p[i]? = some b) {k : Nat} {s : Stmt} (hs : b.2.1[k]? = some s) (v : Bs8) :
    lastS (sitesOf p) i ((k + 1 : Nat) : Int) v = if defS s = true ∧ s.2.1.l = v then (posS p i b.2.1 k : Int) else lastS (sitesOf p) i (k : Nat) v := by
  have e1 := lastL_take i v b.2.1 (k + 1) 0 (preS p i).length (-1)
  have e2 := lastL_take i v b.2.1 k 0 (preS p i).length (-1)
  rw [Nat.zero_add] at e1 e2
  rw [lastS_split h, lastS_split h, e1, e2, siteL_take i b.2.1 k 0 s hs, lastG_app, Nat.zero_add]
  rw [lastG_congr (k := ((k + 1 : Nat) : Int)) (k' := (k : Nat)) (siteL i (b.2.1.take k) 0) _ _ (fun x hx => by
    have h1 := (siteL_ge i _ 0 x hx).2
    rw [List.length_take] at h1
    unfold hitS
    rw [decide_eq_true (show x.2.1 < ((k + 1 : Nat) : Int) by omega), decide_eq_true (show x.2.1 < (k : Nat) by omega)])]
  unfold siteK
  by_cases hd : defS s = true
  · rw [if_pos hd, lastG, lastG]
    by_cases hv : s.2.1.l = v
    · have hh : hitS (i : Int) ((k + 1 : Nat) : Int) v ((i : Int), (k : Int), s.2.1) = true := hitS_is.2 ⟨rfl, (show (k : Int) < ((k + 1 : Nat) : Int) by omega), hv⟩
      rw [if_pos (show defS s = true ∧ s.2.1.l = v from ⟨hd, hv⟩), if_pos hh]
      rfl
    · have hh : ¬ hitS (i : Int) ((k + 1 : Nat) : Int) v ((i : Int), (k : Int), s.2.1) = true := fun h2 => hv (hitS_is.1 h2).2.2
      rw [if_neg (fun h2 : defS s = true ∧ s.2.1.l = v => hv h2.2), if_neg hh]
  · rw [if_neg hd, if_neg (fun h2 : defS s = true ∧ s.2.1.l = v => hd h2.1), lastG]
theorem siteL_pos (i : Nat) : ∀ (l : List Stmt) (j q m : Nat) (x : Site), (siteL i l j)[q]? = some x → x.2.1 = ((j + m : Nat) : Int) → q = (siteL i (l.take m) j).length ∧ ∃ s, l[m]? = some s ∧ defS s = true ∧ x.2.2 = s.2.1
  | [], j, q, m, x, h, _ => by simp [siteL] at h
  | s :: r, j, q, m, x, h, he => by
    rw [siteL] at h
    by_cases hq : q < (siteK i j s).length
    · rw [List.getElem?_append_left hq] at h
      have hx := List.mem_of_getElem? h
      have hd : defS s = true := by
        by_cases hd : defS s = true
        · exact hd
        · rw [siteK, if_neg hd] at hx; cases hx
      rw [siteK, if_pos hd] at h hq hx
      rw [List.mem_singleton] at hx
      subst hx
      have he : (j : Int) = ((j + m : Nat) : Int) := he
      have hm : m = 0 := by omega
      subst hm
      rw [List.length_singleton] at hq
      exact ⟨by rw [List.take_zero, siteL, List.length_nil]; omega, s, rfl, hd, rfl⟩
    · rw [List.getElem?_append_right (by omega)] at h
      have h2 := (siteL_ge i r (j + 1) x (List.mem_of_getElem? h)).1
      cases m with
      | zero => omega
      | succ m =>
        obtain ⟨g1, t, g2, g3⟩ := siteL_pos i r (j + 1) _ m x h (by rw [he]; congr 1; omega)
        exact ⟨by rw [List.take_succ_cons, siteL, List.length_append]; omega, t, g2, g3⟩
theorem sites_is {p : Prog} {i : Nat} {b : Block} (h : p[i]? = some b) {k : Nat} {s : Stmt} (hs : b.2.1[k]? = some s) {q : Nat} {x : Site} (hx : (sitesOf p)[q]? = some x) :
    (x = ((i : Int), (k : Int), s.2.1)) ↔ (defS s = true ∧ q = posS p i b.2.1 k) := by
  have hsp := sites_split h
  constructor
  · rintro rfl
    rw [hsp] at hx
    by_cases h1 : q < (preS p i).length
    · rw [List.getElem?_append_left h1] at hx
      have := preS_blk _ (List.mem_of_getElem? hx)
      have : (i : Int) < i := this
      omega
    · rw [List.getElem?_append_right (by omega)] at hx
      by_cases h2 : q - (preS p i).length < (siteL i b.2.1 0).length
      · rw [List.getElem?_append_left h2] at hx
        obtain ⟨g1, t, g2, g3, _⟩ := siteL_pos i b.2.1 0 _ k _ hx (by show (k : Int) = _; rw [Nat.zero_add])
        rw [hs] at g2
        cases g2
        exact ⟨g3, by rw [posS]; omega⟩
      · rw [List.getElem?_append_right (by omega)] at hx
        have := (siteP_blk _ _ _ (List.mem_of_getElem? hx)).1
        have : ((i + 1 : Nat) : Int) ≤ i := this
        omega
  · rintro ⟨hd, rfl⟩
    rw [hsp, List.getElem?_append_right (by rw [posS]; omega), show posS p i b.2.1 k - (preS p i).length = (siteL i (b.2.1.take k) 0).length by rw [posS]; omega] at hx
    have e : siteL i b.2.1 0 = siteL i (b.2.1.take k) 0 ++ siteL i (b.2.1.drop k) k := by
      have := siteL_app i (b.2.1.take k) (b.2.1.drop k) 0
      rw [List.take_append_drop, List.length_take, Nat.zero_add, Nat.min_eq_left (Nat.le_of_lt (List.getElem?_eq_some_iff.1 hs).1)] at this
      exact this
    have hlt := (List.getElem?_eq_some_iff.1 hs).1
    have e2 : siteL i (b.2.1.drop k) k = ((i : Int), (k : Int), s.2.1) :: siteL i (b.2.1.drop (k + 1)) (k + 1) := by
      rw [List.drop_eq_getElem_cons hlt, siteL]
      have e3 : b.2.1[k] = s := (List.getElem?_eq_some_iff.1 hs).2
      rw [e3, siteK, if_pos hd]; rfl
    rw [e, e2] at hx
    simp at hx
    exact hx.symm
def lastO (Z : List Site) (b k : Int) (v : Bs8) (o : Int) : Int := if 0 ≤ lastS Z b k v then lastS Z b k v else o
def vAt (p : Prog) (m : Nat) : Bs8 := (varsOf p)[m]?.getD []
def nowS (p : Prog) (i : Nat) (k : Nat) (f : Nat → Int) (m : Nat) : Int := lastO (sitesOf p) i k (vAt p m) (f m)
theorem nowS_zero {p : Prog} {i : Nat} {b : Block} (h : p[i]? = some b) (f : Nat → Int) (m : Nat) : nowS p i 0 f m = f m := by
  rw [nowS, lastO, if_neg]
  have := lastS_zero h (vAt p m)
  show ¬ 0 ≤ lastS (sitesOf p) i 0 (vAt p m)
  omega
theorem nowS_succ {p : Prog} {i : Nat} {b : Block} (h : p[i]? = some b) {k : Nat} {s : Stmt} (hs : b.2.1[k]? = some s) (f : Nat → Int) (m : Nat) :
    nowS p i (k + 1) f m = if defS s = true ∧ s.2.1.l = vAt p m then (posS p i b.2.1 k : Int) else nowS p i k f m := by
  rw [nowS, lastO, lastS_succ h hs]
  by_cases hd : defS s = true ∧ s.2.1.l = vAt p m
  · rw [if_pos hd, if_pos hd, if_pos (Int.natCast_nonneg _)]
  · rw [if_neg hd, if_neg hd]; rfl
def nowC (p : Prog) (V : List StE) : Nat → Int := V.foldl (fun f s => nowS p s.1.toNat (blkN p s.1).2.1.length f) fun m => (m : Int)
theorem nowC_snoc (p : Prog) (V : List StE) (s : StE) : nowC p (V ++ [s]) = nowS p s.1.toNat (blkN p s.1).2.1.length (nowC p V) := by
  rw [nowC, List.foldl_append]; rfl
def reA (p : Prog) : List Wd := Bt.solveS (csysOf p)
theorem csys_tAt {p : Prog} (he : checkE p = 0) {i : Nat} {b : Block} (h : p[i]? = some b) : Bt.tAt (csysOf p) i = ctrF (sitesOf p) i b := by
  have e : (csysOf p).T[i]? = some (rchF (sitesOf p) (varsOf p) i b) := by
    show (rchT (sitesOf p) (varsOf p) p 0)[i]? = _
    rw [rchT_at _ _ p 0 i b h, Nat.zero_add]
  rw [Bt.tAt, e, ctrF_eq he h]; rfl
def siteOk (p : Prog) (x : Wd) (f : Nat → Int) : Prop := ∀ m, m < (varsOf p).length → ∃ j s, f m = (j : Nat) ∧ (sitesOf p)[j]? = some s ∧ s.2.2.l = vAt p m ∧ bitAt x j = true
theorem reach_step {p : Prog} (he : checkE p = 0) {i : Nat} {b : Block} (h : p[i]? = some b) {x : Wd} (hx : okB (sitesOf p).length x) {f : Nat → Int} (hf : siteOk p x f) : siteOk p (Bt.bApp (ctrF (sitesOf p) i b) x) (nowS p i b.2.1.length f) := fun m hm => by
  have hT : okB (sitesOf p).length (ctrF (sitesOf p) i b).1 ∧ okB (sitesOf p).length (ctrF (sitesOf p) i b).2 := ⟨ofB_ok _ _, bDiff_ok (ofB_ok _ _) (ofB_ok _ _)⟩
  have hvm : (varsOf p)[m]? = some (vAt p m) := by rw [vAt, List.getElem?_eq_getElem hm]; rfl
  by_cases hl : 0 ≤ lastS (sitesOf p) i b.2.1.length (vAt p m)
  · obtain ⟨j, s, h1, h2, h3⟩ := lastS_hit hl
    refine ⟨j, s, by rw [nowS, lastO, if_pos hl, h1], h2, (hitS_is.1 h3).2.2, ?_⟩
    rw [Bt.bit_app hT.1 hT.2 hx]
    have hg : bitAt (ctrF (sitesOf p) i b).1 j = true := by
      rw [ctrF]
      dsimp only
      rw [bit_of]
      obtain ⟨s', hs', hv'⟩ := (last_who he h hl).2
      exact decide_eq_true ⟨(List.getElem?_eq_some_iff.1 h2).1, mem_genP.2 ⟨s', hs', by rw [hv']; exact hl, by rw [hv', h1]⟩⟩
    rw [hg, Bool.or_true]
  · obtain ⟨j, s, h1, h2, h3, h4⟩ := hf m hm
    refine ⟨j, s, by rw [nowS, lastO, if_neg hl]; exact h1, h2, h3, ?_⟩
    rw [Bt.bit_app hT.1 hT.2 hx, h4]
    have hk : bitAt (ctrF (sitesOf p) i b).2 j = false := by
      rw [ctrF]
      dsimp only
      rw [bit_bDiff (by rw [ofB_len, ofB_len]), bit_of, bit_of]
      have : ¬ (j : Int) ∈ killP (sitesOf p) i b.2.1.length b.2.1 := fun hk => by
        obtain ⟨s', hs', h0, hj⟩ := mem_killP.1 hk
        have hj2 := ofL_at (sitesOf p) 0 j s h2 h3
        rw [Nat.zero_add] at hj2
        have := ofL_var hj hj2
        rw [this] at h0
        exact hl h0
      rw [decide_eq_false (fun h5 => this h5.2)]; rfl
    rw [hk]; rfl
theorem csys_le {p : Prog} (he : checkE p = 0) {e : Edg} (h : e ∈ edgesOf p) {m : Nat} (hb : bitAt (Bt.bApp (Bt.tAt (csysOf p) e.1.toNat) (Bt.aAt (reA p) e.1.toNat)) m = true) : bitAt (Bt.aAt (reA p) e.2.toNat) m = true := by
  have h1 := Bt.sol_edge (csysOf_ok he) (show e ∈ (csysOf p).E from (gSort_mem _ _).2 h)
  have h2 := h1.2 m
  unfold Bt.lb at h2
  rw [if_pos (show (csysOf p).wh = 1 from rfl)] at h2
  exact h2 hb
theorem site0_at {p : Prog} {m : Nat} (hm : m < (varsOf p).length) : (sitesOf p)[m]? = some ((-1 : Int), (0 : Int), (⟨vAt p m⟩ : Str)) := by
  rw [sitesOf, List.getElem?_append_left (by rw [site0, List.length_map]; exact hm), site0, List.getElem?_map, vAt, List.getElem?_eq_getElem hm]; rfl
theorem reach_start {p : Prog} (he : checkE p = 0) : siteOk p (Bt.aAt (reA p) 0) fun m => (m : Int) := fun m hm => by
  have hf := check_facts he
  refine ⟨m, _, rfl, site0_at hm, rfl, ?_⟩
  have h1 := Bt.sol_start (csysOf_ok he) (v := 0) (by show 0 < p.length; omega)
  have h2 := h1.2 m
  unfold Bt.lb at h2
  rw [if_pos (show (csysOf p).wh = 1 from rfl)] at h2
  refine h2 ?_
  have e : Bt.vStart (csysOf p) 0 = ofB (sitesOf p).length (cntL (varsOf p).length) := if_pos (show ((0 : Nat) : Int) ∈ [(0 : Int)] from List.mem_singleton.2 rfl)
  rw [e, bit_of]
  refine decide_eq_true ⟨(List.getElem?_eq_some_iff.1 (site0_at hm)).1, ?_⟩
  exact List.mem_map.2 ⟨m, List.mem_range.2 hm, rfl⟩
theorem reach_it {p : Prog} (he : checkE p = 0) (inn : List Nm) : ∀ k, (∀ i s, (itS p inn (start0 p) k).1[i]? = some s → siteOk p (Bt.aAt (reA p) s.1.toNat) (nowC p ((itS p inn (start0 p) k).1.take i))) ∧
    ((itS p inn (start0 p) k).2.2 = true → siteOk p (Bt.aAt (reA p) (itS p inn (start0 p) k).2.1.1.toNat) (nowC p (itS p inn (start0 p) k).1))
  | 0 => ⟨fun i s h => by simp [itS] at h, fun _ => reach_start he⟩
  | k + 1 => by
    obtain ⟨h1, h2⟩ := reach_it he inn k
    by_cases hg : (itS p inn (start0 p) k).2.2 = true
    · have hgs : goodS p (itS p inn (start0 p) k).2.1 := goodS_it (goodS_start he) k
      rw [itS_step hg]
      have h2 := h2 hg
      generalize (itS p inn (start0 p) k).1 = V at h1 h2 ⊢
      generalize (itS p inn (start0 p) k).2.1 = s at h2 hgs ⊢
      refine ⟨fun i t hi => ?_, fun hgo => ?_⟩
      · dsimp only at hi ⊢
        by_cases hiv : i < V.length
        · rw [List.getElem?_append_left hiv] at hi
          rw [List.take_append_of_le_length (by omega)]
          exact h1 i t hi
        · have hil : i = V.length := by
            have := (List.getElem?_eq_some_iff.1 hi).1
            simp at this
            omega
          subst hil
          rw [List.getElem?_append_right (by omega), Nat.sub_self] at hi
          cases hi
          rw [List.take_append_of_le_length (by omega), List.take_length]
          exact h2
      · dsimp only at hgo ⊢
        rw [nowC_snoc]
        have hed := fol_goes2 he hgs hgo
        have hlt : s.1.toNat < p.length := by have := hgs.1; omega
        have hbb : p[s.1.toNat]? = some p[s.1.toNat] := List.getElem?_eq_getElem hlt
        generalize p[s.1.toNat] = b at hbb
        have hN : blkN p s.1 = b := blkN_get hbb
        rw [hN]
        have hst := reach_step he hbb (Bt.aAt_ok (Bt.solveS_ok (csysOf_ok he)) hlt) h2
        intro m hm
        obtain ⟨j, t, g1, g2, g3, g4⟩ := hst m hm
        refine ⟨j, t, g1, g2, g3, csys_le he hed ?_⟩
        rw [csys_tAt he hbb]
        exact g4
    · have hg : (itS p inn (start0 p) k).2.2 = false := by simpa using hg
      rw [itS_stop hg]
      exact ⟨h1, h2⟩
end Go.Proofs
end
section
namespace Go.Proofs
open Go.Sy
set_option maxRecDepth 20000
set_option maxHeartbeats 4000000
noncomputable def cxL : Cx := { P := Tryz.prog, tt := tt, n := 0, wrap := false, base := 0, gf := 75 :: cx.gf, eqs := 75 :: cx.eqs, xf := [] }
theorem cxL_ok : TOK cxL := ⟨cx_ok.tt, eqs_of (P := Tryz.prog) (tt := tt) (l := 75 :: cx.eqs) (by kernel_rfl)⟩
def iRow (n : Nat) (f : Nat → Int) : List (List Value) := (List.range n).map fun j => [Value.int .i64 (f j)]
theorem iRow_len (n : Nat) (f : Nat → Int) : (iRow n f).length = n := by rw [iRow, List.length_map, List.length_range]
theorem iRow_get {n : Nat} (f : Nat → Int) {i : Nat} (h : i < n) : (iRow n f)[i]? = some [.int .i64 (f i)] := by
  rw [iRow, List.getElem?_map, List.getElem?_range h]; rfl
theorem iRow_set {n : Nat} {f g : Nat → Int} {i : Nat} {b : Int} (h : ∀ j, j < n → g j = if j = i then b else f j) : (iRow n f).set i [.int .i64 b] = iRow n g := by
  apply List.ext_getElem?
  intro j
  rw [List.getElem?_set, iRow_len]
  by_cases hn : j < n
  · by_cases hj : i = j
    · subst hj
      rw [if_pos rfl, if_pos hn, iRow_get g hn, h _ hn, if_pos rfl]
    · rw [if_neg hj, iRow_get f hn, iRow_get g hn, h _ hn, if_neg (fun e => hj e.symm)]
  · rw [List.getElem?_eq_none (l := iRow n g) (by rw [iRow_len]; omega)]
    split
    · rw [if_neg (by omega)]
    · rw [List.getElem?_eq_none (by rw [iRow_len]; omega)]
theorem iRow_ext {n : Nat} {f g : Nat → Int} (h : ∀ j, j < n → f j = g j) : iRow n f = iRow n g := by
  rw [iRow, iRow]
  exact List.map_congr_left fun j hj => by rw [h j (List.mem_range.1 hj)]
def nowR (n : Nat) (f : Nat → Int) : List Int := (List.range n).map f
theorem iRow_rows (n : Nat) (f : Nat → Int) : iRow n f = iRows (nowR n f) := by
  rw [iRow, iRows, nowR, List.map_map]; rfl
theorem rc_ints {H : Hp} {css : List (List Value)} {l : List Int} (h : RC (α := Int) H css l) : css = iRows l := by
  apply List.ext_getElem?
  intro i
  rw [iRows, List.getElem?_map]
  have hl : css.length = l.length := h.1
  by_cases hi : i < l.length
  · have h1 : css[i]? = some (css[i]'(by omega)) := List.getElem?_eq_getElem _
    have h2 := List.getElem?_eq_getElem hi
    have h3 := (h.2 i _ _ h1 h2).1
    rw [h1, h2, h3]; rfl
  · rw [List.getElem?_eq_none (by omega), List.getElem?_eq_none (by omega)]; rfl
theorem iclone0_spec {l : List Int} (hl : l.length ≤ 1000000) {a : Option Addr} {n c : Nat} {H : Hp} {K : Value → Hp → Prop} (ha : RL H a n c l) (hK : ∀ v H', LeN 3 1 (iRows l) H v H' → RowAt H' v 1 (iRows l) → K v H') : Does Tryz.prog 75 [.slice a n c] H K := by
  have hn := ha.n_eq
  refine spec_of cx_ok cx_mix rfl Tryz.func75 Tryz.call75 Tryz.ntmps75 Tryz.results75 rfl rfl ?_
  refine ⟨fun h => ?_, fun h => ?_⟩
  · have hno : a = none := by
      cases a with
      | none => rfl
      | some x => cases h
    rw [hno] at ha
    have h0 := RL_nil ha
    refine hK (.slice none 0 0) H ⟨Le.refl H, .inl ⟨rfl, by rw [h0]; rfl⟩⟩ ?_
    rw [h0]
    exact ⟨none, 0, rfl, ⟨Nat.le_refl _, by decide⟩, (fun x hx => by cases hx), .inl ⟨rfl, rfl⟩⟩
  · obtain ⟨css, hrow, hrc⟩ := ha.row
    have hcl : css.length = l.length := hrc.1
    have hcs := rc_ints hrc
    refine ⟨css, hrow, ?_⟩
    refine ⟨⟨by show (0 + css.length) * 8 ≤ 140737488355328; omega, by show 0 + css.length ≤ 9223372036854775807; omega⟩, ?_⟩
    intro v H' hle hv
    rw [hcs] at hle hv
    exact hK v H' hle hv
theorem nowR_len (n : Nat) (f : Nat → Int) : (nowR n f).length = n := by rw [nowR, List.length_map, List.length_range]
theorem nowR_in {n : Nat} {f : Nat → Int} (hf : ∀ j, j < n → inI (f j)) : ∀ x ∈ nowR n f, inI x := fun x hx => by
  obtain ⟨j, hj, rfl⟩ := List.mem_map.1 hx
  exact hf j (List.mem_range.1 hj)
theorem iclone_spec {n : Nat} (hn : n ≤ 1000000) {f : Nat → Int} (hf : ∀ j, j < n → inI (f j)) {H : Hp} {K : SV → St → Hp → Prop} (hK : ∀ a1 n1 c1 H', Le H H' → RL H' a1 n1 c1 (nowR n f) → K (.v (.slice a1 n1 c1)) ⟨[], [(0, .row 3 1 (iRow n f))], 1⟩ H') :
    DoesG Tryz.prog 75 [.own 0] [(0, .row 3 1 (iRow n f))] 1 H K := by
  refine doesG_keepF (e' := 3) (sz' := 1) (ys := iRows (nowR n f)) Tryz.call75 (fun v H1 _ hv => ?_) fun r H' hle hr => ?_
  · rw [iRow_rows] at hv
    refine of_row_k (α := Int) hv (rc_iRows (nowR_in hf)) fun a n c e hr => ?_
    subst e
    exact iclone0_spec (by rw [nowR_len]; exact hn) hr fun v H' h h2 => ⟨h, h2⟩
  · refine of_row_k (α := Int) hr (rc_iRows (nowR_in hf)) fun a1 n1 c1 e h => ?_
    subst e
    exact hK _ _ _ H' hle h
abbrev bCl (n : Nat) (f : Nat → Int) (css : List (List Value)) : List (Nat × Bx) :=
  [(0, .cells 28 [.own 1]), (1, .row 3 1 (iRow n f)), (2, .cells 39 [.own 3]), (3, .row 28 1 css)]
abbrev bCl2 (n : Nat) (f : Nat → Int) (css : List (List Value)) : List (Nat × Bx) :=
  [(0, .cells 28 [.own 1]), (1, .row 3 1 (iRow n f)), (2, .cells 39 [.own 4]), (3, .dead), (4, .row 28 1 css)]
theorem lcome_spec {n : Nat} (hn : n ≤ 1024) {f : Nat → Int} (hf : ∀ j, j < n → inI (f j)) {css : List (List Value)} (hcs : css.length ≤ 10000) {H : Hp} {K : SV → St → Hp → Prop}
    (hK : ∀ a1 n1 c1 H', Le H H' → RL H' a1 n1 c1 (nowR n f) → K (.tup []) ⟨[], bCl2 n f (css ++ [[.slice a1 n1 c1]]), 5⟩ H') :
    DoesG Tryz.prog 74 [.ptr 2 0, .ptr 0 0] (bCl n f css) 4 H K := by
  refine spec_ofG cxL_ok cx_mix Tryz.func74 Tryz.call74 Tryz.ntmps74 Tryz.results74 rfl rfl ?_
  have hbl := iRow_len n f
  refine ⟨none, ?_⟩
  refine region_plan (α := Option Addr × Nat × Nat) ?_ ?_ (.two 0 2 (.one [1, 2, 3, 4, 5, 6] [0, 1, 2, 3, 4, 5]) (.two 0 3 (.one [1, 2, 3, 4, 5, 6] [1, 2, 0, 3, 4, 5]) (.one [1, 2, 3, 4, 5, 6] [1, 2, 3, 0, 4, 5])))
    (fun q => ⟨[], bCl2 n f (css ++ [[.slice q.1 q.2.1 q.2.2]]), 5⟩) (fun q H' => Le H H' ∧ RL H' q.1 q.2.1 q.2.2 (nowR n f)) (by kernel_rfl) ⟨?_, ⟨?_, ?_⟩⟩ ?_
  · exact ⟨cxL_ok.tt, cxL_ok.eqs⟩
  · exact cx_mix
  · refine ⟨[1], rfl, iclone_spec (by omega) hf fun d1 d2 d3 H6 hle6 hr1 => ?_⟩
    refine ⟨⟨by show (css.length + 1) * 24 ≤ 140737488355328; omega, by show css.length + 1 ≤ 9223372036854775807; omega⟩, ?_⟩
    exact ⟨(d1, d2, d3), [(0, 0), (1, 1), (2, 2), (3, 3), (4, 5)], by (repeat' (first|exact trivial|refine ⟨?_,?_⟩|exact rfl|assumption)), hle6, hr1⟩
  · refine ⟨[1], rfl, iclone_spec (by omega) hf fun d1 d2 d3 H6 hle6 hr1 => ?_⟩
    refine ⟨⟨by show (css.length + 1) * 24 ≤ 140737488355328; omega, by show css.length + 1 ≤ 9223372036854775807; omega⟩, ?_⟩
    exact ⟨(d1, d2, d3), [(0, 0), (1, 1), (2, 2), (3, 3), (4, 5)], by (repeat' (first|exact trivial|refine ⟨?_,?_⟩|exact rfl|assumption)), hle6, hr1⟩
  · refine ⟨[1], rfl, iclone_spec (by omega) hf fun d1 d2 d3 H6 hle6 hr1 => ?_⟩
    refine ⟨⟨by show (css.length + 1) * 24 ≤ 140737488355328; omega, by show css.length + 1 ≤ 9223372036854775807; omega⟩, ?_⟩
    exact ⟨(d1, d2, d3), [(0, 0), (1, 1), (2, 2), (3, 3), (4, 5)], by (repeat' (first|exact trivial|refine ⟨?_,?_⟩|exact rfl|assumption)), hle6, hr1⟩
  rintro ⟨d1, d2, d3⟩ H6 _ ⟨hle6, hr1⟩
  exact ⟨.tup [], bCl2 n f (css ++ [[.slice d1 d2 d3]]), 5, [(0, 0), (1, 1), (2, 2), (3, 3), (4, 4)], by (repeat' (first|exact trivial|refine ⟨?_,?_⟩|exact rfl|assumption)), hK _ _ _ _ hle6 hr1⟩
def nowD (p : Prog) (i : Nat) (l : List Stmt) (k : Nat) (s : Stmt) (f : Nat → Int) (m : Nat) : Int := if defS s = true ∧ s.2.1.l = vAt p m then (posS p i l k : Int) else f m
abbrev bDl (a ap : Option Addr) (n c np cp n' : Nat) (f : Nat → Int) : List (Nat × Bx) :=
  [(0, .cells 76 [.v (.slice a n c)]), (1, .cells 24 [.v (.slice ap np cp)]), (2, .cells 28 [.own 3]), (3, .row 3 1 (iRow n' f))]
theorem ldo_spec {p : Prog} (he : checkE p = 0) (hv : cnt p < 400000) {i k : Nat} {b : Block} (hb : p[i]? = some b) {s : Stmt} (hs : b.2.1[k]? = some s) {f : Nat → Int} {a ap : Option Addr} {n c np cp : Nat} {H : Hp} {K : SV → St → Hp → Prop} (ha : RL (α := Site) H a n c (sitesOf p)) (hp : RL H ap np cp p)
    (hK : ∀ H', Le H H' → K (.tup []) ⟨[], bDl a ap n c np cp (varsOf p).length (nowD p i b.2.1 k s f), 4⟩ H') :
    DoesG Tryz.prog 76 [.v (.int .i64 (i : Nat)), .v (.int .i64 (k : Nat)), .agg (vL (stmtV s)), .ptr 0 0, .ptr 1 0, .ptr 2 0] (bDl a ap n c np cp (varsOf p).length f) 4 H K := by
  refine spec_ofG cxL_ok cx_mix Tryz.func76 Tryz.call76 Tryz.ntmps76 Tryz.results76 rfl rfl ?_
  have hn := ha.n_eq
  have hmx := ha.le
  subst hn
  have hsp : s ∈ b.2.1 := List.mem_of_getElem? hs
  have hpos : defS s = true → posS p i b.2.1 k < (sitesOf p).length := fun hd => by
    have h1 := lastS_succ hb hs s.2.1.l
    rw [if_pos ⟨hd, rfl⟩] at h1
    have h2 := lastS_in (sitesOf p) i ((k + 1 : Nat) : Int) s.2.1.l
    omega
  refine name_k (fun (q m : Nat) => if (defS s = true ∧ posS p i b.2.1 k < q) ∧ s.2.1.l = vAt p m then (posS p i b.2.1 k : Int) else f m) fun g hg => ?_
  have g0 : g 0 = f := by rw [hg]; funext m; exact if_neg fun h => by omega
  have gn : g (sitesOf p).length = nowD p i b.2.1 k s f := by
    rw [hg]
    funext m
    dsimp only
    rw [nowD]
    by_cases hd : defS s = true ∧ s.2.1.l = vAt p m
    · rw [if_pos hd, if_pos ⟨⟨hd.1, hpos hd.1⟩, hd.2⟩]
    · rw [if_neg hd, if_neg fun h => hd ⟨h.1.1, h.2⟩]
  refine ⟨Nat, fun q => ⟨[(0, .v (.int .i64 (i : Nat))), (1, .v (.int .i64 (k : Nat))), (3, .ptr 0 0), (4, .ptr 1 0), (5, .ptr 2 0), (8, .ptr 4 0), (13, .v (.slice a (sitesOf p).length c)), (14, .v (.int .i64 ((sitesOf p).length : Nat))), (15, .v (.int .i64 q))],
      [(0, .cells 76 [.v (.slice a (sitesOf p).length c)]), (1, .cells 24 [.v (.slice ap np cp)]), (2, .cells 28 [.own 3]), (3, .row 3 1 (iRow (varsOf p).length (g q))), (4, .cells 103 (vL (stmtV s)))], 5⟩,
    fun q H' => Le H H' ∧ q ≤ (sitesOf p).length, fun q => (sitesOf p).length - q, ⟨0, [(0, 0), (1, 1), (2, 2), (3, 3), (4, 4)], ?_, Le.refl _, Nat.zero_le _⟩, ?_⟩
  · have e0 : iRow (varsOf p).length f = iRow (varsOf p).length (g 0) := by rw [g0]
    (repeat' (first|exact trivial|refine ⟨?_,?_⟩|exact rfl|assumption))
  rintro q H1 _ ⟨hle1, hq⟩
  refine ⟨fun h => ?_, fun h => ?_⟩
  · have hlt : q < (sitesOf p).length := by have := dt h; omega
    refine name_k (sitesOf p)[q] fun x hxe => ?_
    have hxx : (sitesOf p)[q]? = some x := by rw [hxe]; exact List.getElem?_eq_getElem hlt
    have his := sites_is hb hs hxx
    refine site_k (ha.up hle1) hxx fun ad q1 hh _ => ?_
    refine ⟨ad, ⟨by omega, by omega, q1⟩, ?_⟩
    refine ⟨_, hh, ?_⟩
    refine var_spec (hp.up hle1) hv fun H2 hle2 => ?_
    refine ⟨fun h => ?_, fun h => ?_⟩
    · rw [Bool.and_eq_true, Bool.and_eq_true, decide_eq_true_eq, decide_eq_true_eq, Bool.and_true, decide_eq_true_eq, sl_bs, sl_bs] at h
      have hx : x = ((i : Int), (k : Int), s.2.1) := by
        obtain ⟨x1, x2, ⟨x3⟩⟩ := x
        obtain ⟨h1, h2, h3⟩ := h
        dsimp only at h1 h2 h3
        rw [h1, h2, h3]
      obtain ⟨hd, hqp⟩ := his.1 hx
      have hvm : s.2.1.l ∈ varsOf p := def_vars he (List.mem_of_getElem? hb) hsp hd
      obtain ⟨m0, g1, g2, g3⟩ := vIdx_get hvm
      have g1 : idxS s.2.1.l (varsOf p) 0 = (m0 : Nat) := g1
      have eset : (iRow (varsOf p).length (g q)).set m0 [.int .i64 (q : Nat)] = iRow (varsOf p).length (g (q + 1)) := iRow_set fun j hj => by
        rw [hg]
        dsimp only
        by_cases hjm : j = m0
        · rw [if_pos hjm, if_pos ⟨⟨hd, by omega⟩, by rw [vAt, hjm, g3]; rfl⟩, hqp]
        · rw [if_neg hjm, if_neg (fun h5 => hjm ?_), if_neg (fun h5 => by omega)]
          have h6 : vAt p j ∈ varsOf p := by rw [← h5.2]; exact hvm
          have h7 : (varsOf p)[j]? = some (vAt p j) := by rw [vAt, List.getElem?_eq_getElem hj]; rfl
          rw [← h5.2] at h7
          exact (List.getElem?_inj hj (vars_nodup p)).1 (h7.trans g3.symm)
      have e5 : (max (idxS s.2.1.l (varsOf p) 0) 0) = ((m0 : Nat) : Int) := by rw [g1]; omega
      rw [e5]
      refine ⟨⟨by omega, by rw [iRow_len]; omega⟩, ?_⟩
      refine ⟨_, iRow_get (g q) g2, ?_⟩
      refine ⟨⟨by omega, by omega⟩, q + 1, [(0, 0), (1, 1), (2, 2), (3, 3), (4, 4)], ?_, ⟨hle1, hlt⟩, by dsimp only; omega⟩
      (repeat' (first|exact trivial|refine ⟨?_,?_⟩|exact rfl|assumption))
    · have hx : ¬ x = ((i : Int), (k : Int), s.2.1) := fun e => by
        rw [e] at h
        simp at h
      have hno : ¬ (defS s = true ∧ q = posS p i b.2.1 k) := fun h5 => hx (his.2 h5)
      have e5 : iRow (varsOf p).length (g q) = iRow (varsOf p).length (g (q + 1)) := iRow_ext fun j hj => by
        rw [hg]
        dsimp only
        by_cases h5 : (defS s = true ∧ posS p i b.2.1 k < q) ∧ s.2.1.l = vAt p j
        · rw [if_pos h5, if_pos ⟨⟨h5.1.1, by omega⟩, h5.2⟩]
        · rw [if_neg h5, if_neg (fun h6 => h5 ⟨⟨h6.1.1, by
            have := h6.1.2
            have h7 : q ≠ posS p i b.2.1 k := fun e => hno ⟨h6.1.1, e⟩
            omega⟩, h6.2⟩)]
      refine ⟨⟨by omega, by omega⟩, q + 1, [(0, 0), (1, 1), (2, 2), (3, 3), (4, 4)], ?_, ⟨hle1, hlt⟩, by dsimp only; omega⟩
      (repeat' (first|exact trivial|refine ⟨?_,?_⟩|exact rfl|assumption))
  · have hql : q = (sitesOf p).length := by have := df h; omega
    subst hql
    refine ⟨.tup [], bDl a ap (sitesOf p).length c np cp (varsOf p).length (nowD p i b.2.1 k s f), 4, [(0, 0), (1, 1), (2, 2), (3, 3)], ?_, hK _ hle1⟩
    have e0 : iRow (varsOf p).length (g (sitesOf p).length) = iRow (varsOf p).length (nowD p i b.2.1 k s f) := by rw [gn]
    (repeat' (first|exact trivial|refine ⟨?_,?_⟩|exact rfl|assumption))
end Go.Proofs
end
section
namespace Go.Proofs
open Go.Sy
set_option maxRecDepth 20000
set_option maxHeartbeats 4000000
def rowsC (p : Prog) (V : List StE) (i : Nat) : List (List Int) := (List.range i).map fun j => nowR (varsOf p).length (nowC p (V.take j))
theorem ldo2_spec {p : Prog} (he : checkE p = 0) (hv : cnt p < 400000) {i1 : Int} {k : Nat} {b : Block} (hb : p[i1.toNat]? = some b) {s : Stmt} (hs : b.2.1[k]? = some s) (hi : 0 ≤ i1) {f : Nat → Int} {a ap : Option Addr} {n c np cp : Nat} {H : Hp} {K : SV → St → Hp → Prop} (ha : RL (α := Site) H a n c (sitesOf p)) (hp : RL H ap np cp p)
    (hK : ∀ H', Le H H' → K (.tup []) ⟨[], bDl a ap n c np cp (varsOf p).length (nowD p i1.toNat b.2.1 k s f), 4⟩ H') :
    DoesG Tryz.prog 76 [.v (.int .i64 i1), .v (.int .i64 (k : Nat)), .agg (vL (stmtV s)), .ptr 0 0, .ptr 1 0, .ptr 2 0] (bDl a ap n c np cp (varsOf p).length f) 4 H K := by
  have h := ldo_spec he hv hb hs ha hp hK
  rw [Int.toNat_of_nonneg hi] at h
  exact h
abbrev bLk (az : Option Addr) (nz cz : Nat) (ap : Option Addr) (np cp n' : Nat) : List (Nat × Bx) :=
  [(0, .cells 76 [.v (.slice az nz cz)]), (1, .cells 24 [.v (.slice ap np cp)]), (2, .cells 28 [.own 3]), (3, .row 3 1 (iRow n' fun m => (m : Int))), (4, .cells 39 [.v (.slice none 0 0)])]
abbrev bLk2 (az : Option Addr) (nz cz : Nat) (ap : Option Addr) (np cp n' : Nat) (f : Nat → Int) (css : List (List Value)) : List (Nat × Bx) :=
  [(0, .cells 76 [.v (.slice az nz cz)]), (1, .cells 24 [.v (.slice ap np cp)]), (2, .cells 28 [.own 3]), (3, .row 3 1 (iRow n' f)), (4, .cells 39 [.own 5]), (5, .row 28 1 css)]
theorem its_len (p : Prog) (inn : List Nm) : ∀ k, (itS p inn (start0 p) k).1.length ≤ k
  | 0 => Nat.le_refl _
  | k + 1 => by
    have h1 := its_len p inn k
    by_cases hg : (itS p inn (start0 p) k).2.2 = true
    · rw [itS_step hg]
      simp only [List.length_append, List.length_singleton]
      omega
    · have hg : (itS p inn (start0 p) k).2.2 = false := by simpa using hg
      rw [itS_stop hg]
      omega
theorem lwalk_spec {p : Prog} (he : checkE p = 0) (hp : p.length ≤ 12) (hc : stmtsN p ≤ 1000000) (hv : cnt p < 400000) {inn : List Nm} {most : Int} (hm : most ≤ 40) {V : List StE} (hV : V = (itS p inn (start0 p) most.toNat).1)
    {a ai az ap : Option Addr} {n c ni ci nz cz np cp : Nat} {H : Hp} {K : SV → St → Hp → Prop} (ha : RL H a n c p) (hI : RL H ai ni ci inn) (hZ : RL (α := Site) H az nz cz (sitesOf p)) (hP : RL H ap np cp p)
    (hK : ∀ H' f css, Le H H' → RC (α := List Int) H' css (rowsC p V V.length) → K (.v (.int .i64 0)) ⟨[], bLk2 az nz cz ap np cp (varsOf p).length f css, 6⟩ H') :
    DoesG Tryz.prog 73 [.agg [.v (.slice a n c)], .v (.slice ai ni ci), .v (.int .i64 most), .fn 74 [.ptr 4 0, .ptr 2 0], .fn 76 [.ptr 0 0, .ptr 1 0, .ptr 2 0]] (bLk az nz cz ap np cp (varsOf p).length) 5 H K := by
  have hn := ha.n_eq
  have hz5 := sites_len he
  have hv64 := vars64 he
  refine spec_ofG cxL_ok cx_mix Tryz.func73 Tryz.call73 Tryz.ntmps73 Tryz.results73 rfl rfl ?_
  refine all_spec he hp hc hv hm ha hI fun a1 n1 c1 a2 n2 c2 H1 hle1 hr1 hr2 => ?_
  rw [← hV] at hr1
  have hlaw := (reach_it he inn most.toNat).1
  rw [← hV] at hlaw
  refine ⟨fun h => absurd rfl (nt h), fun _ => ?_⟩
  have hn1 := hr1.n_eq
  have hm1 := hr1.le
  have hnV : V.length ≤ 41 := by have h1 := its_len p inn most.toNat; rw [hV]; omega
  refine ⟨Nat × (Nat → Int) × List (List Value), fun q => ⟨[(3, .fn 74 [.ptr 4 0, .ptr 2 0]), (4, .fn 76 [.ptr 0 0, .ptr 1 0, .ptr 2 0]), (5, .ptr 5 0), (11, .ptr 6 0), (28, .v (.slice a1 n1 c1)), (29, .v (.int .i64 n1)), (30, .v (.int .i64 q.1))],
      [(0, .cells 76 [.v (.slice az nz cz)]), (1, .cells 24 [.v (.slice ap np cp)]), (2, .cells 28 [.own 3]), (3, .row 3 1 (iRow (varsOf p).length q.2.1)), (4, .cells 39 [.own 7]), (5, .cells 24 [.v (.slice a n c)]), (6, .cells 67 [.v (.slice a1 n1 c1), .v (.slice a2 n2 c2), .v (.bool (!(itS p inn (start0 p) most.toNat).2.2))]), (7, .row 28 1 q.2.2)], 8⟩,
    fun q H' => Le H1 H' ∧ q.1 ≤ V.length ∧ (∀ m, m < (varsOf p).length → q.2.1 m = nowC p (V.take q.1) m) ∧ RC (α := List Int) H' q.2.2 (rowsC p V q.1), fun q => V.length - q.1, ⟨(0, (fun m => (m : Int)), []), [(0, 0), (1, 1), (2, 2), (3, 3), (4, 4), (5, 5), (6, 6)], ?_, Le.refl H1, Nat.zero_le _, fun _ _ => rfl, RC.nil⟩, ?_⟩
  · (repeat' (first|exact trivial|refine ⟨?_,?_⟩|exact rfl|assumption))
  rintro ⟨i, f, css⟩ H2 _ ⟨hle2, hi, hf, hrc⟩
  dsimp only at hi hf hrc
  have hcl : css.length = i := by have h1 := hrc.1; rw [rowsC, List.length_map, List.length_range] at h1; exact h1
  refine ⟨fun h => ?_, fun h => ?_⟩
  · have hlt : i < V.length := by have := dt h; dsimp only at this; omega
    refine name_k V[i] fun s hse => ?_
    have hss : V[i]? = some s := by rw [hse]; exact List.getElem?_eq_getElem hlt
    have hgs : goodS p s := by rw [hV] at hss; exact goodV2 he inn most.toNat s (List.mem_of_getElem? hss)
    refine sta_k (hr1.up hle2) hss fun ad a5 n5 c5 a6 n6 c6 q1 hh hr5 hr6 => ?_
    refine ⟨ad, ⟨by dsimp only; omega, by dsimp only; omega, q1⟩, ?_⟩
    refine ⟨_, hh, ?_⟩
    have hfin : ∀ m, m < (varsOf p).length → inI (f m) := fun m hm => by
      obtain ⟨j, t, h1, h2, _⟩ := hlaw i s hss m hm
      have := (List.getElem?_eq_some_iff.1 h2).1
      rw [hf m hm, h1]
      exact ⟨by omega, by omega⟩
    refine ⟨[2, 3, 4, 7], rfl, lcome_spec (n := (varsOf p).length) (f := f) (css := css) (by omega) hfin (by omega) fun d1 d2 d3 H3 hle3 hr3 => ?_⟩
    have hrow : nowR (varsOf p).length f = nowR (varsOf p).length (nowC p (V.take i)) := by
      rw [nowR, nowR]
      exact List.map_congr_left fun m hm => hf m (List.mem_range.1 hm)
    have hst : rowsC p V (i + 1) = rowsC p V i ++ [nowR (varsOf p).length (nowC p (V.take i))] := by rw [rowsC, List.range_succ, List.map_append]; rfl
    have hrc3 : RC (α := List Int) H3 (css ++ [[.slice d1 d2 d3]]) (rowsC p V (i + 1)) := by
      rw [hst]; rw [hrow] at hr3; exact rc_snocI (RC.up hrc hle3) hr3
    obtain ⟨b, hb, hN, hbm⟩ := blkN_mem hgs
    have hbB := block_stmts ((check_facts he).2.2.2 b hbm)
    have hgr := hgs.1
    refine block_kI (ha.up ((hle1.trans hle2).trans hle3)) hgr.1 hb fun ad2 a7 n7 c7 q2 hh2 hr7 _ _ => ?_
    have hn7 := hr7.n_eq
    have hm7 := hr7.le
    refine ⟨ad2, ⟨by omega, by omega, q2⟩, ?_⟩
    refine ⟨_, hh2, ?_⟩
    refine ⟨Nat × (Nat → Int), fun q => ⟨[(3, .fn 74 [.ptr 4 0, .ptr 2 0]), (4, .fn 76 [.ptr 0 0, .ptr 1 0, .ptr 2 0]), (5, .ptr 5 0), (11, .ptr 6 0), (14, .ptr 8 0), (28, .v (.slice a1 n1 c1)), (29, .v (.int .i64 n1)), (30, .v (.int .i64 i)), (42, .v (.slice a7 n7 c7)), (43, .v (.int .i64 n7)), (44, .v (.int .i64 q.1))],
        [(0, .cells 76 [.v (.slice az nz cz)]), (1, .cells 24 [.v (.slice ap np cp)]), (2, .cells 28 [.own 3]), (3, .row 3 1 (iRow (varsOf p).length q.2)), (4, .cells 39 [.own 7]), (5, .cells 24 [.v (.slice a n c)]), (6, .cells 67 [.v (.slice a1 n1 c1), .v (.slice a2 n2 c2), .v (.bool (!(itS p inn (start0 p) most.toNat).2.2))]), (7, .row 28 1 (css ++ [[.slice d1 d2 d3]])), (8, .cells 72 [.v (.int .i64 s.1), .v (.slice a5 n5 c5), .v (.int .i64 s.2.2.1), .v (.slice a6 n6 c6)])], 9⟩,
      fun q H' => Le H3 H' ∧ q.1 ≤ b.2.1.length ∧ ∀ m, m < (varsOf p).length → q.2 m = nowS p s.1.toNat q.1 (nowC p (V.take i)) m, fun q => b.2.1.length - q.1, ⟨(0, f), [(0, 0), (1, 1), (2, 2), (3, 3), (4, 4), (5, 5), (6, 6), (7, 9), (8, 8)], ?_, Le.refl H3, Nat.zero_le _, fun m hm => by dsimp only; rw [hf m hm, nowS_zero hb]⟩, ?_⟩
    · (repeat' (first|exact trivial|refine ⟨?_,?_⟩|exact rfl|assumption))
    rintro ⟨k, g⟩ H4 _ ⟨hle4, hk, hg⟩
    dsimp only at hk hg
    refine ⟨fun h => ?_, fun h => ?_⟩
    · have hkl : k < b.2.1.length := by have := dt h; dsimp only at this; omega
      refine name_k b.2.1[k] fun t hte => ?_
      have htt : b.2.1[k]? = some t := by rw [hte]; exact List.getElem?_eq_getElem hkl
      refine stmt_k (hr7.up hle4) htt fun ad3 q3 hh3 hR => ?_
      refine ⟨ad3, ⟨by dsimp only; omega, by dsimp only; omega, q3⟩, ?_⟩
      refine ⟨_, hh3, ?_⟩
      have hle14 := ((hle1.trans hle2).trans hle3).trans hle4
      refine ⟨[0, 1, 2, 3], rfl, ldo2_spec he hv hb htt hgr.1 (f := g) (hZ.up hle14) (hP.up hle14) fun H5 hle5 => ?_⟩
      have hgk : ∀ m, m < (varsOf p).length → nowD p s.1.toNat b.2.1 k t g m = nowS p s.1.toNat (k + 1) (nowC p (V.take i)) m := fun m hm => by
        rw [nowS_succ hb htt, nowD, hg m hm]
      refine ⟨⟨by dsimp only; omega, by dsimp only; omega⟩, (k + 1, nowD p s.1.toNat b.2.1 k t g), [(0, 0), (1, 1), (2, 2), (3, 3), (4, 4), (5, 5), (6, 6), (7, 7), (8, 8)], ?_, ⟨hle4.trans hle5, hkl, hgk⟩, by dsimp only; omega⟩
      (repeat' (first|exact trivial|refine ⟨?_,?_⟩|exact rfl|assumption))
    · have hkl : k = b.2.1.length := by have := df h; dsimp only at this; omega
      subst hkl
      have hfi : ∀ m, m < (varsOf p).length → g m = nowC p (V.take (i + 1)) m := fun m hm => by
        rw [hg m hm, List.take_add_one, hss, Option.toList_some, nowC_snoc, hN]
      refine ⟨⟨by omega, by omega⟩, (i + 1, g, css ++ [[.slice d1 d2 d3]]), [(0, 0), (1, 1), (2, 2), (3, 3), (4, 4), (5, 5), (6, 6), (7, 7)], ?_, ⟨(hle2.trans hle3).trans hle4, hlt, hfi, RC.up hrc3 hle4⟩, by dsimp only; omega⟩
      (repeat' (first|exact trivial|refine ⟨?_,?_⟩|exact rfl|assumption))
  · have hiV : i = V.length := by have := df h; dsimp only at this; omega
    rw [hiV] at hrc
    exact ⟨.v (.int .i64 0), bLk2 az nz cz ap np cp (varsOf p).length f css, 6, [(0, 0), (1, 1), (2, 2), (3, 3), (4, 4), (5, 7)], by (repeat' (first|exact trivial|refine ⟨?_,?_⟩|exact rfl|assumption)), hK _ f css (hle1.trans hle2) hrc⟩
end Go.Proofs
end
section
namespace Go.Proofs
open Go.Sy
set_option maxRecDepth 20000
set_option maxHeartbeats 4000000
theorem tlast_spec {p : Prog} (he : checkE p = 0) (hp : p.length ≤ 12) (hl : ∀ b ∈ p, b.2.1.length ≤ 100000) (hc : stmtsN p ≤ 1000000) (hv : cnt p < 400000) {inn : List Nm} {most : Int} (hm : most ≤ 40) {V : List StE} (hV : V = (itS p inn (start0 p) most.toNat).1)
    {a ai : Option Addr} {n c ni ci : Nat} {H : Hp} {K : Value → Hp → Prop} (ha : RL H a n c p) (hI : RL H ai ni ci inn)
    (hK : ∀ a1 n1 c1 H', Le H H' → RL (α := List Int) H' a1 n1 c1 (rowsC p V V.length) → K (.tuple #[.slice a1 n1 c1, .int .i64 0]) H') : Does Tryz.prog 25 [.agg #[.slice a n c], .slice ai ni ci, .int .i64 most] H K := by
  have hv64 := vars64 he
  refine spec_of cxL_ok cx_mix rfl Tryz.func25 Tryz.call25 Tryz.ntmps25 Tryz.results25 rfl rfl ?_
  refine tsites_spec hp hl hc hv hv64 ha fun az nz cz H1 hle1 hrz => ?_
  refine pvars_spec (ha.up hle1) hv fun av nv cv H2 hle2 hrv => ?_
  have hnv := hrv.n_eq
  rw [List.length_map] at hnv
  subst hnv
  have hrep : List.replicate (varsOf p).length [Value.int .i64 0] = iRow (varsOf p).length fun m => if m < 0 then (m : Int) else 0 := by
    apply List.ext_getElem?
    intro j
    by_cases hn : j < (varsOf p).length
    · rw [iRow_get _ hn, List.getElem?_replicate, if_pos hn, if_neg (by omega)]
    · rw [List.getElem?_eq_none (by rw [List.length_replicate]; omega), List.getElem?_eq_none (by rw [iRow_len]; omega)]
  refine ⟨⟨rfl, by omega, by show ((varsOf p).length : Int) * 8 ≤ _; omega, by omega⟩, ?_⟩
  refine ⟨Nat, fun i => ⟨[(1, .v (.slice ai ni ci)), (2, .v (.int .i64 most)), (3, .ptr 0 0), (8, .ptr 1 0), (9, .ptr 3 0), (20, .v (.int .i64 ((varsOf p).length : Nat))), (21, .v (.int .i64 i))],
      [(0, .cells 24 [.v (.slice a n c)]), (1, .cells 76 [.v (.slice az nz cz)]), (2, .row 3 1 (iRow (varsOf p).length fun m => if m < i then (m : Int) else 0)), (3, .cells 28 [.own 2])], 4⟩,
    fun i H' => H' = H2 ∧ i ≤ (varsOf p).length, fun i => (varsOf p).length - i, ⟨0, [(0, 0), (1, 1), (2, 2), (3, 3)], ?_, rfl, Nat.zero_le _⟩, ?_⟩
  · have e1 : SV.v (Value.int .i64 ((List.replicate (varsOf p).length [Value.int .i64 0]).length : Nat)) = SV.v (Value.int .i64 ((varsOf p).length : Nat)) := by rw [List.length_replicate]
    (repeat' (first|exact trivial|refine ⟨?_,?_⟩|exact rfl|assumption))
  rintro i H3 _ ⟨rfl, hi⟩
  refine ⟨fun h => ?_, fun h => ?_⟩
  · have hlt : i < (varsOf p).length := by have := dt h; omega
    have eset : (iRow (varsOf p).length fun m => if m < i then (m : Int) else 0).set i [.int .i64 (i : Nat)] = iRow (varsOf p).length fun m => if m < i + 1 then (m : Int) else 0 := iRow_set fun j hj => by
      by_cases hji : j = i
      · rw [if_pos hji, hji, if_pos (by omega)]
      · rw [if_neg hji]
        by_cases hjl : j < i
        · rw [if_pos hjl, if_pos (by omega)]
        · rw [if_neg hjl, if_neg (by omega)]
    refine ⟨⟨by omega, by rw [iRow_len]; omega⟩, ?_⟩
    refine ⟨_, iRow_get _ hlt, ?_⟩
    refine ⟨⟨by omega, by omega⟩, i + 1, [(0, 0), (1, 1), (2, 2), (3, 3)], ?_, ⟨rfl, hlt⟩, by dsimp only; omega⟩
    (repeat' (first|exact trivial|refine ⟨?_,?_⟩|exact rfl|assumption))
  have hil : i = (varsOf p).length := by have := df h; omega
  subst hil
  have efin : iRow (varsOf p).length (fun m => if m < (varsOf p).length then (m : Int) else 0) = iRow (varsOf p).length fun m => (m : Int) := iRow_ext fun j hj => by rw [if_pos hj]
  rw [efin]
  have hle2' := hle1.trans hle2
  refine ⟨[1, 0, 3, 2, 4], rfl, lwalk_spec he hp hc hv hm hV (ha.up hle2') (hI.up hle2') (hrz.up hle2) (ha.up hle2') fun H4 f css hle4 hrc => ?_⟩
  intro v H5 hle5 hv5
  refine of_row_k (α := List Int) hv5 (RC.up hrc hle5.le) fun d1 d2 d3 e1 hr5 => ?_
  subst e1
  exact hK _ _ _ _ ((hle2'.trans hle4).trans hle5.le) hr5
theorem num_of {w : Nat} {x : Wd} (_hok : okB w x) {z : Nat} (h : bitAt x z = true) : (z : Int) ∈ numB x := by
  exact (allL_has x 0 z).2 ⟨by omega, by rw [Nat.mul_zero, Nat.sub_zero]; exact h⟩
end Go.Proofs
end
section
namespace Go.Proofs
open Go.Sy
set_option maxRecDepth 20000
set_option maxHeartbeats 4000000
theorem lastG_or {b k : Int} {v : Bs8} : ∀ (l : List Site) (i : Nat) (o o' : Int), (lastG b k v l i o = o ∧ lastG b k v l i o' = o') ∨ (lastG b k v l i o = lastG b k v l i o' ∧ 0 ≤ lastG b k v l i o)
  | [], _, _, _ => .inl ⟨rfl, rfl⟩
  | x :: r, i, o, o' => by
    rw [lastG, lastG]
    by_cases h : hitS b k v x = true
    · rw [if_pos h, if_pos h]
      rcases lastG_or r (i + 1) (i : Int) (i : Int) with ⟨h1, _⟩ | ⟨_, h1⟩
      · exact .inr ⟨rfl, by rw [h1]; exact Int.natCast_nonneg i⟩
      · exact .inr ⟨rfl, h1⟩
    · rw [if_neg h, if_neg h]
      exact lastG_or r (i + 1) o o'
theorem use_in {Z : List Site} {I : List Int} {b k : Int} {v : Bs8} {z : Nat} {st : Site} (hz : Z[z]? = some st) (hv : st.2.2.l = v) (hI : (z : Int) ∈ I) : lastG b k v Z 0 (z : Int) ∈ ofS Z I b k v := by
  unfold ofS
  rcases lastG_or (b := b) (k := k) (v := v) Z 0 (z : Int) (-1) with ⟨h1, h2⟩ | ⟨h1, h2⟩
  · have h3 : lastS Z b k v = -1 := h2
    rw [h3, if_neg (by decide), h1, pickV, List.mem_filter]
    refine ⟨hI, ?_⟩
    rw [Int.toNat_natCast, hz, Option.getD_some]
    exact decide_eq_true hv
  · have h3 : lastG b k v Z 0 (z : Int) = lastS Z b k v := h1
    rw [h3] at h2 ⊢
    rw [if_pos h2]
    exact List.mem_singleton.2 rfl
structure FamO (Z : List Site) (b k : Int) (v : Bs8) (o : Int) (L : Nat → Int) : Prop where
  z : L 0 = o
  y : ∀ i x, Z[i]? = some x → hitS b k v x = true → L (i + 1) = i
  n : ∀ i x, Z[i]? = some x → hitS b k v x = false → L (i + 1) = L i
  e : L Z.length = lastG b k v Z 0 o
theorem famO_k {P : Prop} (Z : List Site) (b k : Int) (v : Bs8) (o : Int) (kk : ∀ L, FamO Z b k v o L → P) : P := by
  refine kk (fun i => lastG b k v (Z.take i) 0 o) ⟨rfl, fun i x hx hh => ?_, fun i x hx hh => ?_, ?_⟩
  · rw [lastG_take b k v Z i 0 o x hx, if_pos hh, Nat.zero_add]
  · rw [lastG_take b k v Z i 0 o x hx, if_neg (by rw [hh]; decide)]
  · rw [List.take_length]
theorem uses_var {p : Prog} {x : Site} (h : x ∈ usesP p) : x.2.2.l ∈ varsOf p := by
  obtain ⟨j, b, k, h1, h2, h3, h4, h5, h6⟩ := useB_mem p 0 h
  have hb := List.mem_of_getElem? h2
  rcases h6 with ⟨s, hs, h6⟩ | h6
  · exact ((vars_has p nil_sorted).1 b hb).1 s hs _ h6 h5
  · rw [h6] at h5 ⊢; exact ((vars_has p nil_sorted).1 b hb).2 h5
theorem uses_idx {p : Prog} {x : Site} (h : x ∈ usesP p) : ∃ j : Nat, idxS x.2.2.l (varsOf p) 0 = (j : Int) ∧ j < (varsOf p).length ∧ (varsOf p)[j]? = some x.2.2.l := by
  have h1 := idxS_at x.2.2.l (varsOf p) 0 (by omega) (uses_var h)
  exact ⟨(idxS x.2.2.l (varsOf p) 0 - 0).toNat, by omega, by omega, h1.2.2⟩
theorem rvar_at {p : Prog} {t : Bs8} {j : Int} (hj : idxS t (varsOf p) 0 = j) {a : Option Addr} {n c : Nat} {H : Hp} {K : Value → Hp → Prop} (ha : RL H a n c p) (hc : cnt p < 400000) (hK : ∀ H', Le H H' → K (.int .i64 j) H') : Does Tryz.prog 22 [.agg #[.slice a n c], .string (bs t)] H K := by
  subst hj
  exact rvar_spec ha hc hK
theorem ChainRuns_spec {p : Prog} {inn : List Nm} {most : Int} {a ai : Option Addr} {n c ni ci : Nat} {H : Hp} {K : Value → Hp → Prop} (ha : RL H a n c p) (hI : RL H ai ni ci inn) (hT : TabH H) (hK : ∀ H', Le H H' → K (.bool true) H') :
    Does Tryz.prog 8 [.agg #[.slice a n c], .slice ai ni ci, .int .i64 most] H K := by
  have hn := ha.n_eq
  refine spec_of cx_ok cx_mix rfl Tryz.func8 Tryz.call8 Tryz.ntmps8 Tryz.results8 rfl rfl ?_
  refine awake48_spec hT fun _ _ => ?_
  refine ⟨(fun h => by cases h), fun _ => ?_⟩
  refine small4_spec ha fun t ht => ?_
  refine ⟨fun h => ?f0, fun h => ?t0⟩
  case t0 => exact hK _ (Le.refl H)
  have hb4 := ht (by simpa using h)
  have hp := hb4.1
  have hl : ∀ b ∈ p, b.2.1.length ≤ 100000 := fun b h => by have := (hb4.2 b h).1.1; omega
  have hc : stmtsN p ≤ 1000 := small_1000 hb4
  have hc6 : stmtsN p ≤ 1000000 := by omega
  have hv : cnt p < 400000 := small_cnt hb4
  refine ⟨fun h => ?g0, fun h => ?u0⟩
  case u0 => exact hK _ (Le.refl H)
  refine ⟨fun h => ?g1, fun h => ?u1⟩
  case u1 => exact hK _ (Le.refl H)
  refine rcheck_spec ha hc6 hv fun _ _ => ?_
  refine ⟨fun h => ?t2, fun h => ?f2⟩
  case t2 => exact hK _ (Le.refl H)
  have he : checkE p = 0 := nf h
  refine name_k (itS p inn (start0 p) (min most 20).toNat).1 fun V hV => ?_
  refine all_spec he hp hc6 hv (most := min most 20) (by omega) ha hI fun a1 n1 c1 a2 n2 c2 H1 hle1 hr1 hr2 => ?_
  rw [← hV] at hr1
  refine tlast_spec (V := V) he hp hl hc6 hv (most := min most 20) (by omega) hV (ha.up hle1) (hI.up hle1) fun a5 n5 c5 H2 hle2 hr5 => ?_
  refine cfrom_spec hp hl hc6 hc hv (ha.up (hle1.trans hle2)) (hT.up (hle1.trans hle2)) (fun hb => absurd he hb) fun _ a7 n7 c7 H3 hle3 hr7 => ?_
  have hZl : (usesP p).length ≤ 2 * stmtsN p + p.length := useB_len p 0
  have hZR := uses_R hp hl ha
  have hle13 := (hle1.trans hle2).trans hle3
  refine chuses_spec hp hl (by omega) hZR (ha.up hle13) fun a8 n8 c8 H4 hle4 hr8 => ?_
  have hle14 := hle13.trans hle4
  have hn5 := hr5.n_eq
  rw [rowsC, List.length_map, List.length_range] at hn5
  have hn1 := hr1.n_eq
  have hm1 := hr1.le
  have hn7 := hr7.n_eq
  rw [fromP, List.length_map] at hn7
  have hn8 := hr8.n_eq
  have hm8 := hr8.le
  refine ⟨fun _ => ?_, fun h => absurd rfl (nt h)⟩
  refine ⟨fun _ => ?_, fun h => absurd rfl (nt h)⟩
  refine ⟨fun _ => ?_, fun h => absurd rfl (nt h)⟩
  refine ⟨fun _ => ?_, fun h => absurd (show (n5 : Int) = (n1 : Int) by omega) (nt h)⟩
  refine ⟨fun h => absurd (show (n7 : Int) = (n8 : Int) by omega) (nt h), fun _ => ?_⟩
  have hlaw := (reach_it he inn (min most 20).toNat).1
  rw [← hV] at hlaw
  have hgV := goodV2 he inn (min most 20).toNat
  rw [← hV] at hgV
  have ho := csysOf_ok he
  have hA := Bt.solveS_ok ho
  have hmA : (Bt.solveS (csysOf p)).length = p.length := hA.len
  have hv64 := vars64 he
  have hz5 := sites_len he
  refine rsites_spec hp hl hc6 hv hv64 (ha.up hle14) fun az nz cz H5 hle5 hrz => ?_
  have hnz := hrz.n_eq
  have hr1 := (((hr1.up hle2).up hle3).up hle4).up hle5
  have hr5 := ((hr5.up hle3).up hle4).up hle5
  have hr7 := (hr7.up hle4).up hle5
  have hr8 := hr8.up hle5
  have ha5 := ha.up (hle14.trans hle5)
  have hle := hle14.trans hle5
  refine ⟨Nat, fun i => ⟨[(3, .ptr 0 0), (9, .v (.slice a5 n5 c5)), (11, .v (.slice a7 n7 c7)), (13, .v (.slice a8 n8 c8)), (14, .v (.slice az nz cz)), (94, .v (.slice a1 n1 c1)), (95, .v (.int .i64 n1)), (96, .v (.int .i64 i))], [(0, .cells 24 [.v (.slice a n c)])], 1⟩,
    fun i H' => Le H5 H' ∧ i ≤ V.length, fun i => V.length - i, ⟨0, [(0, 0)], ?_, Le.refl _, Nat.zero_le _⟩, ?_⟩
  · (repeat' (first|exact trivial|refine ⟨?_,?_⟩|exact rfl|assumption))
  rintro i H6 _ ⟨hle6, hi⟩
  refine ⟨fun h => ?_, fun h => ?_⟩
  · have hlt : i < V.length := by have := dt h; omega
    refine name_k V[i] fun s hse => ?_
    have hss : V[i]? = some s := by rw [hse]; exact List.getElem?_eq_getElem hlt
    have hgs := hgV s (List.mem_of_getElem? hss)
    have hb := hgs.1
    have hlt1 : s.1.toNat < p.length := by omega
    have hlw := hlaw i s hss
    refine name_k (Bt.aAt (reA p) s.1.toNat) fun x hxe => ?_
    rw [← hxe] at hlw
    have hxx : (Bt.solveS (csysOf p))[s.1.toNat]? = some x := by rw [hxe]; exact Bt.aAt_get hA hlt1
    have hok := hA.ok x (List.mem_of_getElem? hxx)
    have gI : (reachI p)[s.1.toNat]? = some (numB x) := by rw [reachI, List.getElem?_map, hxx]; rfl
    have gK : (rowsC p V V.length)[i]? = some (nowR (varsOf p).length (nowC p (V.take i))) := by rw [rowsC, List.getElem?_map, List.getElem?_range hlt]; rfl
    refine sta_k (hr1.up hle6) hss fun ad d1 d2 d3 e1 e2 e3 q1 hh _ _ => ?_
    refine ⟨ad, ⟨by omega, by omega, q1⟩, ?_⟩
    refine ⟨_, hh, ?_⟩
    refine ⟨Nat, fun k => ⟨[(3, .ptr 0 0), (9, .v (.slice a5 n5 c5)), (11, .v (.slice a7 n7 c7)), (13, .v (.slice a8 n8 c8)), (14, .v (.slice az nz cz)), (15, .v (.int .i64 i)), (16, .ptr 1 0), (94, .v (.slice a1 n1 c1)), (95, .v (.int .i64 n1)), (96, .v (.int .i64 i)), (101, .v (.slice a8 n8 c8)), (102, .v (.int .i64 n8)), (103, .v (.int .i64 k))],
      [(0, .cells 24 [.v (.slice a n c)]), (1, .cells 72 [.v (.int .i64 s.1), .v (.slice d1 d2 d3), .v (.int .i64 s.2.2.1), .v (.slice e1 e2 e3)])], 2⟩, fun k H' => Le H6 H' ∧ k ≤ (usesP p).length, fun k => (usesP p).length - k, ⟨0, [(0, 0), (1, 1)], ?_, Le.refl _, Nat.zero_le _⟩, ?_⟩
    · (repeat' (first|exact trivial|refine ⟨?_,?_⟩|exact rfl|assumption))
    rintro k H7 _ ⟨hle7, hk⟩
    have hle67 := hle6.trans hle7
    refine ⟨fun h => ?_, fun h => ?_⟩
    · have hlk : k < (usesP p).length := by have := dt h; omega
      refine name_k (usesP p)[k] fun u hue => ?_
      have huu : (usesP p)[k]? = some u := by rw [hue]; exact List.getElem?_eq_getElem hlk
      have hum : u ∈ usesP p := List.mem_of_getElem? huu
      refine site_k (hr8.up hle67) huu fun ad2 q2 hh2 _ => ?_
      refine ⟨ad2, ⟨by omega, by omega, q2⟩, ?_⟩
      refine ⟨_, hh2, ?_⟩
      refine ⟨fun hne => ?_, fun heq => ?_⟩
      · refine ⟨⟨by omega, by omega⟩, k + 1, [(0, 0), (1, 1)], ?_, ⟨hle7, hlk⟩, by dsimp only; omega⟩
        (repeat' (first|exact trivial|refine ⟨?_,?_⟩|exact rfl|assumption))
      · have heq : u.1 = s.1 := nf heq
        obtain ⟨j, hj1, hj2, hj3⟩ := uses_idx hum
        obtain ⟨z, st, hz1, hz2, hz3, hz4⟩ := hlw j hj2
        have hvj : vAt p j = u.2.2.l := by rw [vAt, hj3]; rfl
        rw [hvj] at hz3
        have hkk : (nowR (varsOf p).length (nowC p (V.take i)))[j]? = some (z : Int) := by rw [nowR, List.getElem?_map, List.getElem?_range hj2, ← hz1]; rfl
        have hin := use_in (b := u.1) (k := u.2.1) hz2 hz3 (num_of hok hz4)
        have hzl := (List.getElem?_eq_some_iff.1 hz2).1
        refine ⟨some ([], [0, 1, 2, 3, 4, 5, 6, 7, 8, 9, 10]), by kernel_rfl, ?_⟩
        refine list_k (hr5.up hle67) gK fun ad4 b1 m1 k1 q4 hh4 hr9 => ?_
        have hm1' := hr9.n_eq
        rw [nowR_len] at hm1'
        refine ⟨ad4, ⟨by omega, by omega, q4⟩, ?_⟩
        refine ⟨_, hh4, ?_⟩
        refine rvar_at hj1 (ha5.up hle67) hv fun _ _ => ?_
        refine int_k hr9 hkk fun ad3 q3 hh3 => ?_
        refine ⟨ad3, ⟨by omega, by omega, q3⟩, ?_⟩
        refine ⟨_, hh3, ?_⟩
        refine famO_k (sitesOf p) u.1 u.2.1 u.2.2.l z fun L hL => ?_
        refine ⟨Nat, fun q => ⟨[(3, .ptr 0 0), (9, .v (.slice a5 n5 c5)), (11, .v (.slice a7 n7 c7)), (13, .v (.slice a8 n8 c8)), (14, .v (.slice az nz cz)), (15, .v (.int .i64 i)), (16, .ptr 1 0), (17, .v (.int .i64 k)), (18, .ptr 2 0), (19, .v (.int .i64 (L q))), (94, .v (.slice a1 n1 c1)), (95, .v (.int .i64 n1)), (96, .v (.int .i64 i)), (101, .v (.slice a8 n8 c8)), (102, .v (.int .i64 n8)), (103, .v (.int .i64 k)), (123, .v (.slice az nz cz)), (124, .v (.int .i64 nz)), (125, .v (.int .i64 q))],
          [(0, .cells 24 [.v (.slice a n c)]), (1, .cells 72 [.v (.int .i64 s.1), .v (.slice d1 d2 d3), .v (.int .i64 s.2.2.1), .v (.slice e1 e2 e3)]), (2, .cells 85 (vL (siteV u)))], 3⟩, fun q H' => Le H7 H' ∧ q ≤ (sitesOf p).length, fun q => (sitesOf p).length - q, ⟨0, [(0, 0), (1, 1), (2, 2)], ?_, Le.refl _, Nat.zero_le _⟩, ?_⟩
        · have e1 : SV.v (.int .i64 (z : Int)) = SV.v (.int .i64 (L 0)) := by rw [hL.z]
          (repeat' (first|exact trivial|refine ⟨?_,?_⟩|exact rfl|assumption))
        rintro q H9 _ ⟨hle9, hq⟩
        refine ⟨fun h => ?_, fun h => ?_⟩
        · have hlq : q < (sitesOf p).length := by have := dt h; omega
          refine name_k (sitesOf p)[q] fun y hye => ?_
          have hyy : (sitesOf p)[q]? = some y := by rw [hye]; exact List.getElem?_eq_getElem hlq
          refine site_k (hrz.up (hle67.trans hle9)) hyy fun ad6 q6 hh6 _ => ?_
          refine ⟨ad6, ⟨by omega, by omega, q6⟩, ?_⟩
          refine ⟨_, hh6, ?_⟩
          refine ⟨fun h1 => ?_, fun h1 => ?_⟩
          · have h1 : y.1 = u.1 := dt h1
            refine ⟨fun h2 => ?_, fun h2 => ?_⟩
            · have h2 : y.2.1 < u.2.1 := dt h2
              refine ⟨fun h3 => ?_, fun h3 => ?_⟩
              · have h3 : y.2.2.l = u.2.2.l := by have := dt h3; rw [sl_bs, sl_bs] at this; exact this
                have hyes : hitS u.1 u.2.1 u.2.2.l y = true := by rw [hitS, decide_eq_true h1, decide_eq_true h2, decide_eq_true h3]; rfl
                have e1 : SV.v (.int .i64 (q : Nat)) = SV.v (.int .i64 (L (q + 1))) := by rw [hL.y q y hyy hyes]
                refine ⟨⟨by omega, by omega⟩, q + 1, [(0, 0), (1, 1), (2, 2)], ?_, ⟨hle9, hlq⟩, by dsimp only; omega⟩
                (repeat' (first|exact trivial|refine ⟨?_,?_⟩|exact rfl|assumption))
              · have h3 : ¬ y.2.2.l = u.2.2.l := by have := df h3; rw [sl_bs, sl_bs] at this; exact this
                have hno : hitS u.1 u.2.1 u.2.2.l y = false := by rw [hitS, decide_eq_false h3, Bool.and_false]
                have e1 : SV.v (.int .i64 (L q)) = SV.v (.int .i64 (L (q + 1))) := by rw [hL.n q y hyy hno]
                refine ⟨⟨by omega, by omega⟩, q + 1, [(0, 0), (1, 1), (2, 2)], ?_, ⟨hle9, hlq⟩, by dsimp only; omega⟩
                (repeat' (first|exact trivial|refine ⟨?_,?_⟩|exact rfl|assumption))
            · have h2 : ¬ y.2.1 < u.2.1 := df h2
              have hno : hitS u.1 u.2.1 u.2.2.l y = false := by rw [hitS, decide_eq_false h2, Bool.and_false, Bool.false_and]
              have e1 : SV.v (.int .i64 (L q)) = SV.v (.int .i64 (L (q + 1))) := by rw [hL.n q y hyy hno]
              refine ⟨⟨by omega, by omega⟩, q + 1, [(0, 0), (1, 1), (2, 2)], ?_, ⟨hle9, hlq⟩, by dsimp only; omega⟩
              (repeat' (first|exact trivial|refine ⟨?_,?_⟩|exact rfl|assumption))
          · have h1 : ¬ y.1 = u.1 := df h1
            have hno : hitS u.1 u.2.1 u.2.2.l y = false := by rw [hitS, decide_eq_false h1, Bool.false_and, Bool.false_and]
            have e1 : SV.v (.int .i64 (L q)) = SV.v (.int .i64 (L (q + 1))) := by rw [hL.n q y hyy hno]
            refine ⟨⟨by omega, by omega⟩, q + 1, [(0, 0), (1, 1), (2, 2)], ?_, ⟨hle9, hlq⟩, by dsimp only; omega⟩
            (repeat' (first|exact trivial|refine ⟨?_,?_⟩|exact rfl|assumption))
        · have hql : q = (sitesOf p).length := by have := df h; omega
          subst hql
          rw [← hL.e] at hin
          have gF : (fromP p (usesP p))[k]? = some (ofS (sitesOf p) (numB x) u.1 u.2.1 u.2.2.l) := by
            rw [fromP, List.getElem?_map, huu]
            show some (ofS (sitesOf p) ((reachI p)[u.1.toNat]?.getD []) u.1 u.2.1 u.2.2.l) = _
            rw [heq, gI]; rfl
          refine list_k (hr7.up (hle67.trans hle9)) gF fun ad8 f1 f2 f3 q8 hh8 hr6 => ?_
          refine ⟨ad8, ⟨by omega, by omega, q8⟩, ?_⟩
          refine ⟨_, hh8, ?_⟩
          refine in_spec hr6 ?_
          refine ⟨fun h => absurd hin (nt h), fun _ => ?_⟩
          refine ⟨⟨by omega, by omega⟩, k + 1, [(0, 0), (1, 1)], ?_, ⟨hle7.trans hle9, hlk⟩, by dsimp only; omega⟩
          (repeat' (first|exact trivial|refine ⟨?_,?_⟩|exact rfl|assumption))
    · refine ⟨⟨by omega, by omega⟩, i + 1, [(0, 0)], ?_, ⟨hle67, hlt⟩, by dsimp only; omega⟩
      (repeat' (first|exact trivial|refine ⟨?_,?_⟩|exact rfl|assumption))
  · exact hK _ (hle.trans hle6)
end Go.Proofs
end
