/- Part 'M38' of the proof (Rt4, Ch1, Ch2, Rt5, Rl0, Rt6, Rt7, Rt8, Of1, Of2, Of3, Ch3, Ch4, Ch5, Rt9, Ch6, Cr1, Cr2, Cr3, Cr4, Cn1, Tu1, Tu2, Tu3, Tu4, Tu5, Tu6, Tu7, Tu8): lemmas, each with its own conditions in its own statement. -/
import Derived.LoopIn
import Derived.LoopNIn
import Derived.OwnWalkIn
import Derived.RangeFuncBound
import Derived.RangeFuncCalls
import Derived.RangeFuncLeaves
import Derived.RangeFuncNested
import Derived.Shelf.Abstract
import Derived.Shelf.RegionOpen
import Derived.TacticsInMore
import Derived.WalkKit
import Derived.Test.YtmpnlhcnkobpfaaGreatRDoorM15
import Derived.Test.YtmpnlhcnkobpfaaGreatRDoorM23
import Derived.Test.YtmpnlhcnkobpfaaGreatRDoorM25
import Derived.Test.YtmpnlhcnkobpfaaGreatRDoorM32
import Derived.Test.YtmpnlhcnkobpfaaGreatRDoorM33
import Derived.Test.YtmpnlhcnkobpfaaGreatRDoorM35
import Derived.Test.YtmpnlhcnkobpfaaGreatRDoorM36
import Derived.Test.YtmpnlhcnkobpfaaGreatRDoorM37
section
namespace Go.Proofs
open Go.RowKit Go.Shelf Go.Sy
attribute [local go_sem] Oper.semAt_some
theorem calm_alloc {N : Nat} {F : Nat → Prop} {W : World} {o : Obj} (hN : N ≤ W.heap.size) (hF : ∀ b, F b → b < W.heap.size) : RCalm N F W (W.alloc o) :=
  ⟨rfl, rfl, ⟨rfl, Nat.le_refl _⟩, by simp, fun b hb => Below.heap_alloc _ _ _ (hb.elim (fun h => Nat.lt_of_lt_of_le h hN) (hF b))⟩
structure ItW (H : Hp) (N : Nat) (W : World) (F : Nat → Prop) : Prop where
  hp : ∀ b o, H b = some o → W.heap[b]? = some o
  big : N ≤ W.heap.size
  f : ∀ b, F b → H b = none ∧ b < W.heap.size
theorem ItW.alloc {H : Hp} {N : Nat} {W : World} {F : Nat → Prop} (h : ItW H N W F) (o : Obj) : ItW H N (W.alloc o) F :=
  ⟨fun b o' hb => by
    have e := h.hp b o' hb
    rw [← e]; exact Below.heap_alloc _ _ _ (Array.getElem?_eq_some_iff.1 e).1, Nat.le_trans h.big (by simp), fun b hb => ⟨(h.f b hb).1, Nat.lt_of_lt_of_le (h.f b hb).2 (by simp)⟩⟩
theorem ItW.kept {H : Hp} {N : Nat} {W W' : World} {F F' : Nat → Prop} (h : ItW H N W F) (hk : RKept F W W') (hF : ∀ b, F' b → (F b ∨ W.heap.size ≤ b) ∧ b < W'.heap.size) : ItW H N W' F' :=
  ⟨fun b o hb => by
    have e := h.hp b o hb
    rw [hk.heap b (Array.getElem?_eq_some_iff.1 e).1 (fun hf => by rw [(h.f b hf).1] at hb; cases hb)]; exact e, Nat.le_trans h.big hk.size, fun b hb => ⟨by
    rcases (hF b hb).1 with h1 | h1
    · exact (h.f b h1).1
    · cases hh : H b with
      | none => rfl
      | some o => have := (Array.getElem?_eq_some_iff.1 (h.hp b o hh)).1; omega, (hF b hb).2⟩⟩
theorem cell_hp {H : Hp} {W : World} (h : ∀ b o, H b = some o → W.heap[b]? = some o) {b : Nat} {v : Value} {T : TypeId} {f : Nat × Nat} (hb : H b = some (.cells #[v] T f)) : W.cell? ⟨b, 0, none⟩ = some v := by
  simp [World.cell?, h b _ hb]
theorem rl_cells {α : Type} [Enc α] {H : Hp} {a : Option Addr} {n c : Nat} {l : List α} (ha : RL H a n c l) {k : Nat} {x : α} (hx : l[k]? = some x) : ∃ b off cs, a = some ⟨b, off, none⟩ ∧ Enc.R H cs x ∧
    ∀ {W : World}, (∀ b o, H b = some o → W.heap[b]? = some o) → ∀ j v, j < Enc.sz α → cs[j]? = some v → W.cell? ⟨b, off + k * Enc.sz α + j, none⟩ = some v := by
  obtain ⟨h1, h2, _, h4⟩ := ha
  rcases h4 with h4 | ⟨ad, e, hsp, cells, T, fr, hH, hcs, hx2⟩
  · have := (List.getElem?_eq_some_iff.1 hx).1
    omega
  · obtain ⟨b, off, sp⟩ := ad
    dsimp only at hsp hH hx2 hcs
    subst hsp
    obtain ⟨cs, h5, h6⟩ := hx2 k x hx
    refine ⟨b, off, cs, e, h5, fun {W} hw j v hj hv => ?_⟩
    have h7 := h6 j hj
    simp only [World.cell?, hw _ _ hH]
    rw [hv] at h7
    exact h7
theorem rl_left {α : Type} [Enc α] {H Hm : Hp} {a : Option Addr} {n c : Nat} {xs : List α} (h : RL H a n c xs) (hc : CellsLe H Hm) (hR : ∀ {cs : List Value} {x : α}, Enc.R H cs x → Enc.R Hm cs x) : RL Hm a n c xs := by
  obtain ⟨h1, h2, h3, h4⟩ := h
  refine ⟨h1, h2, h3, ?_⟩
  rcases h4 with h4 | ⟨ad, e, hs, cells, T, fr, hH, hb, hx⟩
  · exact .inl h4
  · refine .inr ⟨ad, e, hs, cells, T, fr, hc _ _ _ _ hH, hb, fun i x hi => ?_⟩
    obtain ⟨cs, h5, h6⟩ := hx i x hi
    exact ⟨cs, hR h5, h6⟩
def ofL (v : Bs8) : List Site → Nat → List Int
  | [], _ => []
  | x :: r, i => (if x.2.2.l = v then [(i : Int)] else []) ++ ofL v r (i + 1)
set_option maxRecDepth 100000 in
set_option maxHeartbeats 4000000 in
theorem of_iter {Z : List Site} (hreach : Z.length ≤ 100000) {v : Bs8} {a : Option Addr} {n c Zs Vs : Nat} {H : Hp} (ha : RL (α := Site) H a n c Z) (hZ : H Zs = some (.cells #[.slice a n c] 76 (0, 0))) (hV : H Vs = some (.cells #[.string (bs v)] 9 (0, 0))) :
    IterH Tryz.prog 160 #[.pointer (some ⟨Zs, 0, none⟩), .pointer (some ⟨Vs, 0, none⟩)] (fun x : Int => Value.int .i64 x) (ofL v Z 0) H := by
  intro l J W1 F0 hH hJ0 hF0 hcalm hY
  have hn := ha.n_eq
  have hmx := ha.le
  subst hn
  have hZc := cell_hp hH hZ
  refine callsIn_of_wp Tryz.func160 rfl trivial ?_ rfl
  simp only [Tryz.ntmps160, List.size_toArray, List.length_cons, List.length_nil, Nat.reduceAdd, Nat.reduceSub, Array.replicate_succ, Array.replicate_zero, List.push_toArray, List.append_toArray, List.nil_append, List.cons_append]
  gi_wp2
  gi_loopw [8] (fun i wr => ∃ (k : Nat) (pre : List Int) (F : Nat → Prop), k ≤ Z.length ∧ i = .int .i64 k ∧ pre ++ ofL v (Z.drop k) k = ofL v Z 0 ∧ J pre wr F ∧ ItW H W1.heap.size wr F)
    (fun i _ => Z.length - (intOf i).toNat)
  case atStart => exact ⟨0, [], F0, Nat.zero_le _, rfl, rfl, hJ0, hH, Nat.le_refl _, hF0⟩
  case round =>
    obtain ⟨k, pre, F, hk, rfl, hpre, hJs, hnx⟩ := hrel
    by_cases hlt : k < Z.length
    · have hkx : Z[k]? = some (Z[k]'(by omega)) := List.getElem?_eq_getElem (by omega)
      generalize (Z[k]'(by omega)) = x at hkx
      obtain ⟨b, off, cs, rfl, hR, hcell⟩ := rl_cells ha hkx
      obtain ⟨rfl, _⟩ := site_open hR
      have hc1 := hcell hnx.hp 0 (.int .i64 x.1) (by decide) rfl
      have hc2 := hcell hnx.hp 1 (.int .i64 x.2.1) (by decide) rfl
      have hc3 := hcell hnx.hp 2 (.string (bs x.2.2.l)) (by decide) rfl
      have esz : Enc.sz Site = 3 := rfl
      rw [esz] at hc1 hc2 hc3
      rw [Nat.add_zero] at hc1
      have hstep : pre ++ ((if x.2.2.l = v then [(k : Int)] else []) ++ ofL v (Z.drop (k + 1)) (k + 1)) = ofL v Z 0 := by
        rw [← hpre, List.drop_eq_getElem_cons (by omega : k < Z.length)]
        have e : Z[k]'(by omega) = x := by
          have := List.getElem?_eq_getElem (show k < Z.length by omega)
          rw [hkx] at this
          exact (Option.some.inj this).symm
        rw [e, ofL]
      have hx2 : ItW H W1.heap.size (wr.alloc (Obj.cells #[Value.int IntKind.i64 x.1, Value.int IntKind.i64 x.2.1, Value.string (bs x.2.2.l)] 75)) F := hnx.alloc _
      have hV2 := cell_hp hx2.hp hV
      have hJa := hcalm _ _ _ _ hJs (calm_alloc (o := Obj.cells #[Value.int IntKind.i64 x.1, Value.int IntKind.i64 x.2.1, Value.string (bs x.2.2.l)] 75) hnx.big fun b hb => (hnx.f b hb).2)
      by_cases hv : x.2.2.l = v
      · rw [if_pos hv] at hstep
        subst hv
        have hbq : ((bs x.2.2.l).toList == (bs x.2.2.l).toList) = true := beq_self_eq_true _
        obtain ⟨fn, tmps, assign, body, hy, hR⟩ := hY pre (k : Int) _ F hJa ⟨_, by rw [← hstep]; simp; rfl⟩
        gi_wp2
        refine hR.mono ?_
        rintro e W3 ⟨rfl, F', hJ3, hk3, hF3⟩
        gi_wp2
        go_roundw
        case rel =>
          repeat' (first | exact ⟨k + 1, _, F', by omega, rfl, by rw [← hstep]; simp, hJ3, hx2.kept hk3 hF3⟩ | rfl | (rw [decide_eq_true (show k < Z.length by omega)]; done) | refine ⟨_, ?_⟩ | refine ⟨?_, ?_⟩)
        case measure =>
          show Z.length - (intOf (.int .i64 ((k : Int) + 1))).toNat < Z.length - (intOf (.int .i64 (k : Int))).toNat
          simp only [intOf]; omega
      · rw [if_neg hv, List.nil_append] at hstep
        have hbq : ((bs x.2.2.l).toList == (bs v).toList) = false := by
          have e1 : (bs x.2.2.l).toList = x.2.2.l := (toList_sl _).trans (sl_bs _)
          have e2 : (bs v).toList = v := (toList_sl _).trans (sl_bs _)
          rw [e1, e2]; exact beq_eq_false_iff_ne.2 hv
        gi_wp2
        refine ⟨(fun _ h => by cases h), ?_⟩
        gi_wp2
        go_roundw
        case rel =>
          repeat' (first | exact ⟨k + 1, pre, F, by omega, rfl, hstep, hJa, hx2⟩ | rfl | (rw [decide_eq_true (show k < Z.length by omega)]; done) | refine ⟨_, ?_⟩ | refine ⟨?_, ?_⟩)
        case measure =>
          show Z.length - (intOf (.int .i64 ((k : Int) + 1))).toNat < Z.length - (intOf (.int .i64 (k : Int))).toNat
          simp only [intOf]; omega
    · obtain rfl : k = Z.length := by omega
      gi_wp2
      go_end0
      refine ⟨⟨_, rfl⟩, F, ?_⟩
      have e : pre = ofL v Z 0 := by rw [← hpre, List.drop_length]; simp [ofL]
      rw [← e]; exact hJs
end Go.Proofs
end
section
namespace Go.Proofs
open Go.RowKit Go.Shelf Go.Sy
attribute [local go_sem] Oper.semAt_some
def hput (H : Hp) (n : Nat) (o : Obj) : Hp := fun b => if b = n then some o else H b
theorem ItW.put {H : Hp} {N : Nat} {W : World} {F : Nat → Prop} (h : ItW H N W F) (o : Obj) : ItW (hput H W.heap.size o) N (W.alloc o) F :=
  ⟨fun b o' hb => by
    unfold hput at hb
    split at hb
    · rename_i e; cases hb; subst e; exact Array.getElem?_push_size
    · exact (h.alloc o).hp b o' hb, (h.alloc o).big, fun b hb => ⟨by
      unfold hput
      rw [if_neg (Nat.ne_of_lt (h.f b hb).2)]; exact (h.f b hb).1, ((h.alloc o).f b hb).2⟩⟩
theorem ItW.le_put {H : Hp} {N : Nat} {W : World} {F : Nat → Prop} (h : ItW H N W F) (o : Obj) : Le H (hput H W.heap.size o) := fun b o' hb => by
  unfold hput
  rw [if_neg]
  · exact hb
  · intro e
    have := (Array.getElem?_eq_some_iff.1 (h.hp b o' hb)).1
    omega
theorem ItW.mono {H H' : Hp} {N : Nat} {W : World} {F : Nat → Prop} (h : ItW H' N W F) (hle : Le H H') : ItW H N W F :=
  ⟨fun b o hb => h.hp b o (hle b o hb), h.big, fun b hb => ⟨by
    cases e : H b with
    | none => rfl
    | some o => exact absurd ((hle b o e).symm.trans (h.f b hb).1) (by simp), (h.f b hb).2⟩⟩
theorem ItW.call {H H' : Hp} {N : Nat} {W W' : World} {F : Nat → Prop} (h : ItW H N W F) (h1 : ∀ b o, H' b = some o → W'.heap[b]? = some o) (h2 : ∀ b, H b = none → b < W.heap.size → H' b = none) (h3 : BelowD W.heap.size W W') : ItW H' N W' F :=
  ⟨h1, Nat.le_trans h.big h3.toBelow.size, fun b hb => ⟨h2 b (h.f b hb).1 (h.f b hb).2, Nat.lt_of_lt_of_le (h.f b hb).2 h3.size⟩⟩
theorem calm_call {N : Nat} {F : Nat → Prop} {W W' : World} (h3 : BelowD W.heap.size W W') (hN : N ≤ W.heap.size) (hF : ∀ b, F b → b < W.heap.size) : RCalm N F W W' :=
  ⟨h3.os, h3.tape, ⟨h3.output, h3.drawn⟩, h3.size, fun b hb => h3.block b (hb.elim (fun h => Nat.lt_of_lt_of_le h hN) (hF b))⟩
theorem cells_hp {H : Hp} {W : World} (h : ∀ b o, H b = some o → W.heap[b]? = some o) {b : Nat} {cs : Array Value} {T : TypeId} {f : Nat × Nat} (hb : H b = some (.cells cs T f)) (j : Nat) (v : Value) (hj : cs[j]? = some v) : W.cell? ⟨b, j, none⟩ = some v := by
  simp [World.cell?, h b _ hb, hj]
def useK (i : Nat) : List Stmt → Nat → List Site
  | [], _ => []
  | s :: r, k => (ens (usesS s)).map (fun v => ((i : Int), (k : Int), v)) ++ useK i r (k + 1)
def useE (i : Nat) (b : Block) : List Site := if b.2.2.1 = 2 ∧ b.2.2.2.1.1.l ≠ [] then [((i : Int), (b.2.1.length : Int), b.2.2.2.1.1)] else []
def useB : List Block → Nat → List Site
  | [], _ => []
  | b :: r, i => useK i b.2.1 0 ++ (useE i b ++ useB r (i + 1))
def siteA (x : Site) : Value := .agg #[.int .i64 x.1, .int .i64 x.2.1, .string (bs x.2.2.l)]
theorem luses_calls {x : Stmt} (hx : stmtR x) {H : Hp} {w : World} (hp : ∀ b o, H b = some o → w.heap[b]? = some o) :
    Calls Tryz.prog 134 #[stmtA x] w fun e w' => ∃ a1 n1 c1 H', e = .returned (.slice a1 n1 c1) ∧ Le H H' ∧ RL H' a1 n1 c1 (ens (usesS x)) ∧ (∀ b o, H' b = some o → w'.heap[b]? = some o) ∧
      (∀ b, H b = none → b < w.heap.size → H' b = none) ∧ BelowD w.heap.size w w' := by
  have h : Does Tryz.prog 134 [stmtA x] H (fun v H' => ∃ a1 n1 c1, v = .slice a1 n1 c1 ∧ RL H' a1 n1 c1 (ens (usesS x))) :=
    luses_spec hx fun a1 n1 c1 H' _ h2 => ⟨a1, n1, c1, rfl, h2⟩
  refine (h.2 w hp).mono ?_
  rintro e w' ⟨v, H', rfl, ⟨a1, n1, c1, rfl, h2⟩, h3, h4, h5, h6⟩
  exact ⟨a1, n1, c1, H', rfl, h3, h2, h4, h5, h6⟩
set_option maxRecDepth 100000 in
set_option maxHeartbeats 8000000 in
theorem uses_iter {p : Prog} (hreach : p.length ≤ 100000) (hl : ∀ b ∈ p, b.2.1.length ≤ 100000) {a : Option Addr} {n c Ps : Nat} {H : Hp} (ha : RL (α := Block) H a n c p) (hP : H Ps = some (.cells #[.slice a n c] 24 (0, 0))) :
    IterH Tryz.prog 133 #[.pointer (some ⟨Ps, 0, none⟩)] siteA (useB p 0) H := by
  intro l J W1 F0 hH hJ0 hF0 hcalm hY
  have hn := ha.n_eq
  have hmx := ha.le
  subst hn
  have hPc := cell_hp hH hP
  refine callsIn_of_wp Tryz.func133 rfl trivial ?_ rfl
  simp only [Tryz.ntmps133, List.size_toArray, List.length_cons, List.length_nil, Nat.reduceAdd, Nat.reduceSub, Array.replicate_succ, Array.replicate_zero, List.push_toArray, List.append_toArray, List.nil_append, List.cons_append]
  gi_wp2
  gi_loopw [12] (fun i wr => ∃ (k : Nat) (pre : List Site) (F : Nat → Prop), k ≤ p.length ∧ i = .int .i64 k ∧ pre ++ useB (p.drop k) k = useB p 0 ∧ J pre wr F ∧ ItW H W1.heap.size wr F)
    (fun i _ => p.length - (intOf i).toNat)
  case atStart => exact ⟨0, [], F0, Nat.zero_le _, rfl, rfl, hJ0, hH, Nat.le_refl _, hF0⟩
  case round =>
    obtain ⟨k, pre, F, hk, rfl, hpre, hJs, hnx⟩ := hrel
    by_cases hlt : k < p.length
    · have hkx : p[k]? = some (p[k]'(by omega)) := List.getElem?_eq_getElem (by omega)
      have hmem : (p[k]'(by omega)) ∈ p := List.getElem_mem _
      have hstep : pre ++ (useK k (p[k]'(by omega)).2.1 0 ++ (useE k (p[k]'(by omega)) ++ useB (p.drop (k + 1)) (k + 1))) = useB p 0 := by
        rw [← hpre, List.drop_eq_getElem_cons (by omega : k < p.length), useB]
      generalize (p[k]'(by omega)) = x at hkx hmem hstep
      obtain ⟨b, off, cs, rfl, hR, hcell⟩ := rl_cells ha hkx
      obtain ⟨a5, n5, c5, rfl, hr5, hs5, ht5⟩ := block_open hR
      have hn5 := hr5.n_eq
      have hlx := hl x hmem
      subst hn5
      have esz : Enc.sz Block = 8 := rfl
      rw [esz] at hcell
      have hc0 := hcell hnx.hp 0 (.string (bs x.1.l)) (by decide) rfl
      have hc1 := hcell hnx.hp 1 (.slice a5 x.2.1.length c5) (by decide) rfl
      have hc2 := hcell hnx.hp 2 (.int .i64 x.2.2.1) (by decide) rfl
      have hc3 := hcell hnx.hp 3 (.string (bs x.2.2.2.1.1.l)) (by decide) rfl
      have hc4 := hcell hnx.hp 4 (.int .i64 x.2.2.2.1.2.1) (by decide) rfl
      have hc5 := hcell hnx.hp 5 (.int .i64 x.2.2.2.1.2.2) (by decide) rfl
      have hc6 := hcell hnx.hp 6 (.string (bs x.2.2.2.2.1.l)) (by decide) rfl
      have hc7 := hcell hnx.hp 7 (.string (bs x.2.2.2.2.2.l)) (by decide) rfl
      rw [Nat.add_zero] at hc0
      have hx2 := hnx.put (Obj.cells #[Value.string (bs x.1.l), .slice a5 x.2.1.length c5, .int .i64 x.2.2.1, .string (bs x.2.2.2.1.1.l), .int .i64 x.2.2.2.1.2.1, .int .i64 x.2.2.2.1.2.2, .string (bs x.2.2.2.2.1.l), .string (bs x.2.2.2.2.2.l)] 57)
      have hle2 := hnx.le_put (Obj.cells #[Value.string (bs x.1.l), .slice a5 x.2.1.length c5, .int .i64 x.2.2.1, .string (bs x.2.2.2.1.1.l), .int .i64 x.2.2.2.1.2.1, .int .i64 x.2.2.2.1.2.2, .string (bs x.2.2.2.2.1.l), .string (bs x.2.2.2.2.2.l)] 57)
      have hJ2 := hcalm _ _ _ _ hJs (calm_alloc (o := Obj.cells #[Value.string (bs x.1.l), .slice a5 x.2.1.length c5, .int .i64 x.2.2.1, .string (bs x.2.2.2.1.1.l), .int .i64 x.2.2.2.1.2.1, .int .i64 x.2.2.2.1.2.2, .string (bs x.2.2.2.2.1.l), .string (bs x.2.2.2.2.2.l)] 57) hnx.big fun b hb => (hnx.f b hb).2)
      have hb2 : hput H wr.heap.size (Obj.cells #[Value.string (bs x.1.l), .slice a5 x.2.1.length c5, .int .i64 x.2.2.1, .string (bs x.2.2.2.1.1.l), .int .i64 x.2.2.2.1.2.1, .int .i64 x.2.2.2.1.2.2, .string (bs x.2.2.2.2.1.l), .string (bs x.2.2.2.2.2.l)] 57) wr.heap.size = some (Obj.cells #[Value.string (bs x.1.l), .slice a5 x.2.1.length c5, .int .i64 x.2.2.1, .string (bs x.2.2.2.1.1.l), .int .i64 x.2.2.2.1.2.1, .int .i64 x.2.2.2.1.2.2, .string (bs x.2.2.2.2.1.l), .string (bs x.2.2.2.2.2.l)] 57) := if_pos rfl
      gi_wp2
      generalize hHb : hput H wr.heap.size _ = Hb at hx2 hle2 hb2
      gi_loopw [20] (fun i w2 => ∃ (k2 : Nat) (pre : List Site) (F : Nat → Prop), k2 ≤ x.2.1.length ∧ i = .int .i64 k2 ∧ pre ++ (useK k (x.2.1.drop k2) k2 ++ (useE k x ++ useB (p.drop (k + 1)) (k + 1))) = useB p 0 ∧ J pre w2 F ∧ ItW Hb W1.heap.size w2 F)
        (fun i _ => x.2.1.length - (intOf i).toNat)
      case atStart => exact ⟨0, pre, F, Nat.zero_le _, rfl, hstep, hJ2, hx2⟩
      case round =>
        clear hJ2 hx2 hstep hJs hnx hpre
        obtain ⟨k2, pre2, F2, hk2, rfl, hpre2, hJ2, hx2⟩ := hrel
        by_cases hlt2 : k2 < x.2.1.length
        · have hkx2 : x.2.1[k2]? = some (x.2.1[k2]'(by omega)) := List.getElem?_eq_getElem (by omega)
          have hstep2 : pre2 ++ ((ens (usesS (x.2.1[k2]'(by omega)))).map (fun v => ((k : Int), (k2 : Int), v)) ++ (useK k (x.2.1.drop (k2 + 1)) (k2 + 1) ++ (useE k x ++ useB (p.drop (k + 1)) (k + 1)))) = useB p 0 := by
            rw [← hpre2, List.drop_eq_getElem_cons (by omega : k2 < x.2.1.length), useK, List.append_assoc]
          generalize (x.2.1[k2]'(by omega)) = s at hkx2 hstep2
          obtain ⟨sb, soff, cs2, rfl, hR2, hcell2⟩ := rl_cells (RL.up hr5 hle2) hkx2
          obtain ⟨rfl, hsR⟩ := stmt_open hR2
          have esz2 : Enc.sz Stmt = 9 := rfl
          rw [esz2] at hcell2
          have hd0 := hcell2 hx2.hp 0 (.int .i64 s.1) (by decide) rfl
          have hd1 := hcell2 hx2.hp 1 (.string (bs s.2.1.l)) (by decide) rfl
          have hd2 := hcell2 hx2.hp 2 (.int .i64 s.2.2.1) (by decide) rfl
          have hd3 := hcell2 hx2.hp 3 (.string (bs s.2.2.2.1.1.l)) (by decide) rfl
          have hd4 := hcell2 hx2.hp 4 (.int .i64 s.2.2.2.1.2.1) (by decide) rfl
          have hd5 := hcell2 hx2.hp 5 (.int .i64 s.2.2.2.1.2.2) (by decide) rfl
          have hd6 := hcell2 hx2.hp 6 (.string (bs s.2.2.2.2.1.l)) (by decide) rfl
          have hd7 := hcell2 hx2.hp 7 (.int .i64 s.2.2.2.2.2.1) (by decide) rfl
          have hd8 := hcell2 hx2.hp 8 (.int .i64 s.2.2.2.2.2.2) (by decide) rfl
          rw [Nat.add_zero] at hd0
          have hx3 := hx2.put (Obj.cells #[Value.int .i64 s.1, .string (bs s.2.1.l), .int .i64 s.2.2.1, .string (bs s.2.2.2.1.1.l), .int .i64 s.2.2.2.1.2.1, .int .i64 s.2.2.2.1.2.2, .string (bs s.2.2.2.2.1.l), .int .i64 s.2.2.2.2.2.1, .int .i64 s.2.2.2.2.2.2] 103)
          have hle3 := hx2.le_put (Obj.cells #[Value.int .i64 s.1, .string (bs s.2.1.l), .int .i64 s.2.2.1, .string (bs s.2.2.2.1.1.l), .int .i64 s.2.2.2.1.2.1, .int .i64 s.2.2.2.1.2.2, .string (bs s.2.2.2.2.1.l), .int .i64 s.2.2.2.2.2.1, .int .i64 s.2.2.2.2.2.2] 103)
          have hJ3 := hcalm _ _ _ _ hJ2 (calm_alloc (o := (Obj.cells #[Value.int .i64 s.1, .string (bs s.2.1.l), .int .i64 s.2.2.1, .string (bs s.2.2.2.1.1.l), .int .i64 s.2.2.2.1.2.1, .int .i64 s.2.2.2.1.2.2, .string (bs s.2.2.2.2.1.l), .int .i64 s.2.2.2.2.2.1, .int .i64 s.2.2.2.2.2.2] 103)) hx2.big fun b hb => (hx2.f b hb).2)
          generalize hHs : hput Hb _ _ = Hs at hx3 hle3
          gi_wp2_with (refine ⟨trivial, ?_⟩; gi_at_call 134; refine (callsIn_wide.2 (luses_calls hsR hx3.hp)).mono ?_; rintro e w6 ⟨a6, n6, c6, H6, rfl, hle6, hr6, hp6, hn6, hB6⟩; have hn7 := hr6.n_eq; subst hn7)
          have hl6 := hr6.le
          have hx6 := hx3.call hp6 hn6 hB6
          have hJ6 := hcalm _ _ _ _ hJ3 (calm_call hB6 hx3.big fun b hb => (hx3.f b hb).2)
          gi_loopw [28] (fun i w7 => ∃ (k3 : Nat) (pre : List Site) (F : Nat → Prop), k3 ≤ (usesS s).length ∧ i = .int .i64 k3 ∧ pre ++ (((ens (usesS s)).drop k3).map (fun v => ((k : Int), (k2 : Int), v)) ++ (useK k (x.2.1.drop (k2 + 1)) (k2 + 1) ++ (useE k x ++ useB (p.drop (k + 1)) (k + 1)))) = useB p 0 ∧ J pre w7 F ∧ ItW H6 W1.heap.size w7 F)
            (fun i _ => (usesS s).length - (intOf i).toNat)
          case atStart => exact ⟨0, pre2, F2, Nat.zero_le _, rfl, hstep2, hJ6, hx6⟩
          case round =>
            clear hJ6 hx6 hJ3 hx3 hJ2 hx2
            obtain ⟨k3, pre3, F3, hk3, rfl, hpre3, hJ3, hx3⟩ := hrel
            have hlu : (ens (usesS s)).length = (usesS s).length := List.length_map ..
            rw [hlu] at hl6
            by_cases hlt3 : k3 < (usesS s).length
            · have hkx3 : (ens (usesS s))[k3]? = some ((ens (usesS s))[k3]'(by omega)) := List.getElem?_eq_getElem (by omega)
              have hstep3 : (pre3 ++ [((k : Int), (k2 : Int), (ens (usesS s))[k3]'(by omega))]) ++ (((ens (usesS s)).drop (k3 + 1)).map (fun v => ((k : Int), (k2 : Int), v)) ++ (useK k (x.2.1.drop (k2 + 1)) (k2 + 1) ++ (useE k x ++ useB (p.drop (k + 1)) (k + 1)))) = useB p 0 := by
                rw [← hpre3, List.drop_eq_getElem_cons (by omega : k3 < (ens (usesS s)).length), List.map_cons, List.append_assoc]; rfl
              generalize ((ens (usesS s))[k3]'(by omega)) = v at hkx3 hstep3
              obtain ⟨vb, voff, cs3, rfl, hR3, hcell3⟩ := rl_cells hr6 hkx3
              have e3 : cs3 = [.string (bs v.l)] := hR3.1
              subst e3
              have esz3 : Enc.sz Str = 1 := rfl
              rw [esz3] at hcell3
              have hf0 := hcell3 hx3.hp 0 (.string (bs v.l)) (by decide) rfl
              rw [Nat.add_zero, Nat.mul_one] at hf0
              obtain ⟨fn, tmps, assign, body, hy, hR7⟩ := hY pre3 ((k : Int), (k2 : Int), v) _ F3 hJ3 ⟨_, hstep3⟩
              dsimp only [siteA] at hy
              gi_wp2
              refine hR7.mono ?_
              rintro e W3 ⟨rfl, F', hJ4, hk4, hF4⟩
              have hx4 := hx3.kept hk4 hF4
              gi_wp2
              exact ⟨⟨k3 + 1, _, F', by omega, rfl, hstep3, hJ4, hx4⟩, by simp only [intOf]; omega⟩
            · obtain rfl : k3 = (usesS s).length := by omega
              gi_wp2
              refine ⟨⟨k2 + 1, pre3, F3, by omega, rfl, ?_, hJ3, hx3.mono (hle3.trans hle6)⟩, by simp only [intOf]; omega⟩
              have hdn : ((ens (usesS s)).drop (usesS s).length).map (fun v => ((k : Int), (k2 : Int), v)) = [] := by rw [← hlu, List.drop_length]; rfl
              rw [← hpre3, hdn, List.nil_append]
        · obtain rfl : k2 = x.2.1.length := by omega
          have hq1 := cells_hp hx2.hp hb2 1 (.slice a5 x.2.1.length c5) rfl
          have hq2 := cells_hp hx2.hp hb2 2 (.int .i64 x.2.2.1) rfl
          have hq3 := cells_hp hx2.hp hb2 3 (.string (bs x.2.2.2.1.1.l)) rfl
          have hbt : (bs x.2.2.2.1.1.l).toList = x.2.2.2.1.1.l := (toList_sl _).trans (sl_bs _)
          have hdr : useK k (x.2.1.drop x.2.1.length) x.2.1.length = [] := by rw [List.drop_length, useK]
          rw [hdr, List.nil_append] at hpre2
          by_cases hkd : x.2.2.1 = 2
          · by_cases hve : x.2.2.2.1.1.l = []
            · have hue : useE k x = [] := if_neg fun h => h.2 hve
              rw [hue, List.nil_append] at hpre2
              rw [hve] at hbt
              gi_wp2
              refine ⟨(fun _ h => by cases h), ?_⟩
              gi_wp2
              exact ⟨⟨k + 1, pre2, F2, by omega, rfl, hpre2, hJ2, hx2.mono hle2⟩, by simp only [intOf]; omega⟩
            · have hue : useE k x = [((k : Int), (x.2.1.length : Int), x.2.2.2.1.1)] := if_pos ⟨hkd, hve⟩
              rw [hue, ← List.append_assoc] at hpre2
              have hbn : ¬ (bs x.2.2.2.1.1.l).toList = [] := by rw [hbt]; exact hve
              obtain ⟨fn, tmps, assign, body, hy, hR7⟩ := hY pre2 ((k : Int), (x.2.1.length : Int), x.2.2.2.1.1) _ F2 hJ2 ⟨_, hpre2⟩
              dsimp only [siteA] at hy
              gi_wp2
              refine hR7.mono ?_
              rintro e W3 ⟨rfl, F', hJ4, hk4, hF4⟩
              have hx4 := hx2.kept hk4 hF4
              gi_wp2
              exact ⟨⟨k + 1, _, F', by omega, rfl, hpre2, hJ4, hx4.mono hle2⟩, by simp only [intOf]; omega⟩
          · have hue : useE k x = [] := if_neg fun h => hkd h.1
            rw [hue, List.nil_append] at hpre2
            gi_wp2
            refine ⟨(fun _ h => by cases h), ?_⟩
            gi_wp2
            exact ⟨⟨k + 1, pre2, F2, by omega, rfl, hpre2, hJ2, hx2.mono hle2⟩, by simp only [intOf]; omega⟩
    · obtain rfl : k = p.length := by omega
      gi_wp2
      go_end0
      refine ⟨⟨_, rfl⟩, F, ?_⟩
      have e : pre = useB p 0 := by rw [← hpre, List.drop_length]; simp [useB]
      rw [← e]; exact hJs
end Go.Proofs
end
section
namespace Go.Proofs
open Go.Sy
set_option maxRecDepth 20000
set_option maxHeartbeats 4000000
theorem doesG_frzC {P : Program} {f : FuncId} {H : Hp} {K : SV → St → Hp → Prop} {svs : List SV} {fg : FuncId} {T : TypeId} {cs : List Value}
    (hd : DoesG P f svs [] 0 H (fun x t H1 => x = .fn fg [.ptr 0 0] ∧ t = ⟨[], [(0, .cells T (cs.map .v))], 1⟩ ∧ Le H H1))
    (hK : ∀ g H', Le H H' → H' g = some (.cells cs.toArray T (0, 0)) → K (.fn fg [.v (.pointer (some ⟨g, 0, none⟩))]) ⟨[], [(0, .dead)], 1⟩ H') : DoesG P f svs [] 0 H K := by
  refine ⟨hd.1, fun w ρ hm hl => (hd.2 w ρ hm hl).mono ?_⟩
  rintro ev w' ⟨x, t, H1, ρ', e1, ⟨rfl, rfl, hle⟩, hlt, hm1⟩
  obtain ⟨H2, h1, h2, h3⟩ := freeze_caps [(0, T, cs)] hm1 (fun c hc => by rw [List.mem_singleton.1 hc]; rfl) (by simp)
  have h2 := h2 _ List.mem_cons_self
  refine ⟨_, _, H2, ρ', ?_, hK _ H2 (hle.trans h1) h2, rfl, h3.lkc fun k => ?_⟩
  · rw [e1]; rfl
  · show lk [(0, Bx.dead)] k = lk [(0, Bx.dead), (0, _)] k
    simp only [lk_cons]
    split <;> simp_all
theorem cuses_spec {a : Option Addr} {n c : Nat} {H : Hp} {K : SV → St → Hp → Prop} (hK : ∀ g H', Le H H' → H' g = some (.cells #[.slice a n c] 24 (0, 0)) → K (.fn 133 [.v (.pointer (some ⟨g, 0, none⟩))]) ⟨[], [(0, .dead)], 1⟩ H') :
    DoesG Tryz.prog 81 [.agg [.v (.slice a n c)]] [] 0 H K := by
  refine doesG_frzC (cs := [.slice a n c]) ?_ hK
  refine spec_ofG cx_ok cx_mix Tryz.func81 Tryz.call81 Tryz.ntmps81 Tryz.results81 rfl rfl ?_
  exact ⟨.fn 133 [.ptr 0 0], [(0, .cells 24 [.v (.slice a n c)])], 1, [(0, 0)], by (repeat' (first|exact trivial|refine ⟨?_,?_⟩|exact rfl|assumption)), rfl, rfl, Le.refl _⟩
def usesP (p : Prog) : List Site := useB p 0
end Go.Proofs
end
section
namespace Go.Proofs
open Go.Sy
set_option maxRecDepth 20000
set_option maxHeartbeats 4000000
theorem crof_spec {v : Bs8} {a : Option Addr} {n c : Nat} {H : Hp} {K : SV → St → Hp → Prop} (hK : K (.fn 160 [.ptr 0 0, .ptr 1 0]) ⟨[], [(0, .cells 76 [.v (.slice a n c)]), (1, .cells 9 [.v (.string (bs v))])], 2⟩ H) :
    DoesG Tryz.prog 102 [.v (.slice a n c), .v (.string (bs v))] [] 0 H K := by
  refine spec_ofG cx_ok cx_mix Tryz.func102 Tryz.call102 Tryz.ntmps102 Tryz.results102 rfl rfl ?_
  exact ⟨.fn 160 [.ptr 0 0, .ptr 1 0], [(0, .cells 76 [.v (.slice a n c)]), (1, .cells 9 [.v (.string (bs v))])], 2, [(0, 0), (1, 1)], by (repeat' (first|exact trivial|refine ⟨?_,?_⟩|exact rfl|assumption)), hK⟩
theorem ofL_mem {v : Bs8} : ∀ (l : List Site) (i : Nat) (x : Int), x ∈ ofL v l i → ∃ k s, x = ((i + k : Nat) : Int) ∧ l[k]? = some s ∧ s.2.2.l = v
  | [], _, _, h => by cases h
  | s :: r, i, x, h => by
    rw [ofL] at h
    rcases List.mem_append.1 h with h | h
    · split at h
      · rename_i hv
        rw [List.mem_singleton] at h
        exact ⟨0, s, h, rfl, hv⟩
      · cases h
    · obtain ⟨k, t, h1, h2, h3⟩ := ofL_mem r (i + 1) x h
      exact ⟨k + 1, t, by rw [h1]; congr 1; omega, h2, h3⟩
theorem ofL_at {v : Bs8} : ∀ (l : List Site) (i k : Nat) (s : Site), l[k]? = some s → s.2.2.l = v → ((i + k : Nat) : Int) ∈ ofL v l i
  | [], i, k, s, h, _ => by simp at h
  | t :: r, i, 0, s, h, hv => by
    rw [List.getElem?_cons_zero] at h
    cases h
    rw [ofL, if_pos hv]; simp
  | t :: r, i, k + 1, s, h, hv => by
    rw [List.getElem?_cons_succ] at h
    have := ofL_at r (i + 1) k s h hv
    rw [show i + 1 + k = i + (k + 1) by omega] at this
    rw [ofL]
    exact List.mem_append_right _ this
theorem ofL_len (v : Bs8) : ∀ (l : List Site) (i : Nat), (ofL v l i).length ≤ l.length
  | [], _ => Nat.le_refl _
  | s :: r, i => by
    have h := ofL_len v r (i + 1)
    have h2 : (if s.2.2.l = v then [(i : Int)] else []).length ≤ 1 := by split <;> simp
    rw [ofL, List.length_append, List.length_cons]
    omega
def stepL (Z : List Site) (b k o x : Int) : Int := if (Z[x.toNat]?.getD siteN).1 = b ∧ (Z[x.toNat]?.getD siteN).2.1 < k then x else o
theorem lastG_of (Z : List Site) (b k : Int) (v : Bs8) : ∀ (l : List Site) (i : Nat) (o : Int), l = Z.drop i → lastG b k v l i o = (ofL v l i).foldl (stepL Z b k) o
  | [], _, _, _ => rfl
  | x :: r, i, o, h => by
    have hi : Z[i]? = some x := by
      have e : (x :: r)[0]? = (Z.drop i)[0]? := by rw [h]
      rw [List.getElem?_cons_zero, List.getElem?_drop] at e
      exact e.symm
    have hr : r = Z.drop (i + 1) := by
      have e : (x :: r).drop 1 = (Z.drop i).drop 1 := by rw [h]
      rw [List.drop_drop] at e
      exact e
    rw [lastG, lastG_of Z b k v r (i + 1) _ hr, ofL, List.foldl_append]
    congr 1
    by_cases hv : x.2.2.l = v
    · rw [if_pos hv, List.foldl_cons, List.foldl_nil, stepL, Int.toNat_natCast, hi, Option.getD_some]
      by_cases h1 : x.1 = b <;> by_cases h2 : x.2.1 < k <;> simp [hitS, hv, h1, h2]
    · rw [if_neg hv, List.foldl_nil, if_neg]
      simp [hitS, hv]
theorem lastS_of (Z : List Site) (b k : Int) (v : Bs8) : lastS Z b k v = (ofL v Z 0).foldl (stepL Z b k) (-1) := lastG_of Z b k v Z 0 (-1) rfl
def lastV (o : Int) : Int × Bool := (if 0 ≤ o then o else 0, decide (0 ≤ o))
theorem clast_spec {Z : List Site} (hreach : Z.length ≤ 100000) {b k : Int} {v : Bs8} {a : Option Addr} {n c : Nat} {H : Hp} {K : Value → Hp → Prop} (ha : RL (α := Site) H a n c Z)
    (hK : ∀ H', Le H H' → K (.tuple #[.int .i64 (lastV (lastS Z b k v)).1, .bool (lastV (lastS Z b k v)).2]) H') : Does Tryz.prog 66 [.slice a n c, .int .i64 b, .int .i64 k, .string (bs v)] H K := by
  have hn := ha.n_eq
  subst hn
  refine spec_ofM cx_ok cx_mix rfl Tryz.func66 Tryz.call66 Tryz.ntmps66 Tryz.results66 rfl rfl ?_
  refine .inl ⟨0, ?_⟩
  refine ⟨[], rfl, crof_spec ?_⟩
  refine range_raw ?_ ?_ rfl [(5, 76, [.slice a Z.length c]), (6, 9, [.string (bs v)])] (ofL v Z 0) (fun x : Int => Value.int .i64 x) rfl Tryz.call160 ?_ (show [5, 6].Nodup by decide) ?_ (by kernel_rfl)
    5 [(3, .v (.string (bs v))), (4, .ptr 0 0), (5, .ptr 1 0), (6, .ptr 2 0), (10, .ptr 3 0), (11, .ptr 4 0)]
    (fun y : Int => [(0, .cells 76 [.v (.slice a Z.length c)]), (1, .cells 3 [.v (.int .i64 b)]), (2, .cells 3 [.v (.int .i64 k)]), (3, .cells 3 [.v (.int .i64 (lastV y).1)]), (4, .cells 4 [.v (.bool (lastV y).2)])]) 5
    (fun pre y H' => Le H H' ∧ y = pre.foldl (stepL Z b k) (-1)) rfl ?_ ?_ ?_ ?_
  · exact ⟨cx_ok.tt, cx_ok.eqs⟩
  · exact cx_mix
  · intro q hq
    rcases List.mem_cons.1 hq with rfl | hq
    · rfl
    · rw [List.mem_singleton] at hq; subst hq; rfl
  · intro g H1 hle h1
    exact of_iter hreach (ha.up hle) (h1 _ (List.mem_cons_self)) (h1 _ (List.mem_cons_of_mem _ List.mem_cons_self))
  · rintro pre y H1 H2 hle ⟨h1, h2⟩
    exact ⟨h1.trans hle, h2⟩
  · refine ⟨-1, [(0, 0), (1, 1), (2, 2), (3, 3), (4, 4)], ?_, fun H' hle => ⟨hle, rfl⟩⟩
    (repeat' (first|exact trivial|refine ⟨?_,?_⟩|exact rfl|assumption))
  · rintro pre x y H1 hle1 ⟨_, hy⟩ hpre
    obtain ⟨j, s, rfl, hj, hv⟩ := ofL_mem Z 0 x (hpre.subset (by simp))
    rw [Nat.zero_add] at hpre ⊢
    have hjl := (List.getElem?_eq_some_iff.1 hj).1
    have hst : (pre ++ [((j : Nat) : Int)]).foldl (stepL Z b k) (-1) = if s.1 = b ∧ s.2.1 < k then (j : Int) else y := by
      rw [List.foldl_append, ← hy, List.foldl_cons, List.foldl_nil, stepL, Int.toNat_natCast, hj, Option.getD_some]
    refine site_k (ha.up hle1) hj fun ad q1 hh _ => ?_
    refine ⟨some ([], [0, 1, 2, 3, 4, 5, 6, 7, 8, 9, 10, 11, 12, 13, 14, 15]), by kernel_rfl, ?_⟩
    refine ⟨ad, ⟨by omega, by omega, q1⟩, ?_⟩
    refine ⟨_, hh, ?_⟩
    refine ⟨fun h1 => ?_, fun h1 => ?_⟩
    · have h1 : s.1 = b := nf h1
      refine ⟨ad, ⟨by omega, by omega, q1⟩, ?_⟩
      refine ⟨_, hh, ?_⟩
      refine ⟨fun h2 => ?_, fun h2 => ?_⟩
      · have h2 : ¬ s.2.1 < k := by have := dt h2; omega
        refine ⟨rfl, y, [(0, 0), (1, 1), (2, 2), (3, 3), (4, 4)], ?_, hle1, by rw [hst, if_neg (fun h => h2 h.2)]⟩
        (repeat' (first|exact trivial|refine ⟨?_,?_⟩|exact rfl|assumption))
      · have h2 : s.2.1 < k := by have := df h2; omega
        have e1 : (lastV (j : Nat)).1 = (j : Nat) := by rw [lastV, if_pos (by omega)]
        have e2 : (lastV (j : Nat)).2 = true := decide_eq_true (p := (0 : Int) ≤ (j : Nat)) (Int.natCast_nonneg j)
        refine ⟨rfl, (j : Nat), [(0, 0), (1, 1), (2, 2), (3, 3), (4, 4)], ?_, hle1, by rw [hst, if_pos ⟨h1, h2⟩]⟩
        rw [e1, e2]
        (repeat' (first|exact trivial|refine ⟨?_,?_⟩|exact rfl|assumption))
    · have h1 : ¬ s.1 = b := nt h1
      refine ⟨rfl, y, [(0, 0), (1, 1), (2, 2), (3, 3), (4, 4)], ?_, hle1, by rw [hst, if_neg (fun h => h1 h.1)]⟩
      (repeat' (first|exact trivial|refine ⟨?_,?_⟩|exact rfl|assumption))
  · rintro y H1 hle1 ⟨_, hy⟩
    refine ⟨some ([], [0, 1, 2, 3]), by kernel_rfl, ?_⟩
    intro Hm hle2 hcl
    rw [hy, ← lastS_of]
    exact hK Hm hle2
end Go.Proofs
end
section
namespace Go.Proofs
open Go.Sy
set_option maxRecDepth 20000
theorem lastG_ge (b k : Int) (v : Bs8) : ∀ (l : List Site) (i : Nat) (o : Int), lastG b k v l i o = o ∨ ∃ j x, lastG b k v l i o = ((i + j : Nat) : Int) ∧ l[j]? = some x ∧ hitS b k v x = true
  | [], _, _ => .inl rfl
  | x :: r, i, o => by
    rw [lastG]
    rcases lastG_ge b k v r (i + 1) (if hitS b k v x = true then (i : Int) else o) with h | ⟨j, y, h1, h2, h3⟩
    · rw [h]
      by_cases hx : hitS b k v x = true
      · rw [if_pos hx]; exact .inr ⟨0, x, rfl, rfl, hx⟩
      · rw [if_neg hx]; exact .inl rfl
    · exact .inr ⟨j + 1, y, by rw [h1]; congr 1; omega, h2, h3⟩
theorem lastS_hit {Z : List Site} {b k : Int} {v : Bs8} (h : 0 ≤ lastS Z b k v) : ∃ j x, lastS Z b k v = (j : Nat) ∧ Z[j]? = some x ∧ hitS b k v x = true := by
  rcases lastG_ge b k v Z 0 (-1) with h1 | ⟨j, x, h1, h2, h3⟩
  · have h1 : lastS Z b k v = -1 := h1
    omega
  · exact ⟨j, x, by rw [lastS, h1, Nat.zero_add], h2, h3⟩
theorem hitS_is {b k : Int} {v : Bs8} {x : Site} : hitS b k v x = true ↔ x.1 = b ∧ x.2.1 < k ∧ x.2.2.l = v := by
  unfold hitS
  simp only [Bool.and_eq_true, decide_eq_true_eq, and_assoc]
theorem siteL_mem (i : Nat) : ∀ (l : List Stmt) (k : Nat) (x : Site), x ∈ siteL i l k → x.1 = (i : Int) ∧ ∃ j s, x.2.1 = ((k + j : Nat) : Int) ∧ l[j]? = some s ∧ defS s = true ∧ x.2.2 = s.2.1
  | [], _, _, h => by cases h
  | s :: r, k, x, h => by
    rw [siteL] at h
    rcases List.mem_append.1 h with h | h
    · unfold siteK at h
      split at h
      · rename_i hd
        rw [List.mem_singleton] at h
        subst h
        exact ⟨rfl, 0, s, rfl, rfl, hd, rfl⟩
      · cases h
    · obtain ⟨h1, j, t, h2, h3, h4, h5⟩ := siteL_mem i r (k + 1) x h
      exact ⟨h1, j + 1, t, by rw [h2]; congr 1; omega, h3, h4, h5⟩
theorem siteP_mem : ∀ (p : Prog) (i : Nat) (x : Site), x ∈ siteP p i → ∃ m b j s, x.1 = ((i + m : Nat) : Int) ∧ p[m]? = some b ∧ x.2.1 = (j : Nat) ∧ b.2.1[j]? = some s ∧ defS s = true ∧ x.2.2 = s.2.1
  | [], _, _, h => by cases h
  | b :: r, i, x, h => by
    rw [siteP] at h
    rcases List.mem_append.1 h with h | h
    · obtain ⟨h1, j, s, h2, h3, h4, h5⟩ := siteL_mem i b.2.1 0 x h
      rw [Nat.zero_add] at h2
      exact ⟨0, b, j, s, h1, rfl, h2, h3, h4, h5⟩
    · obtain ⟨m, c, j, s, h1, h2, h3⟩ := siteP_mem r (i + 1) x h
      exact ⟨m + 1, c, j, s, by rw [h1]; congr 1; omega, h2, h3⟩
theorem sites_at {p : Prog} {j : Nat} {x : Site} (h : (sitesOf p)[j]? = some x) : (j < (varsOf p).length ∧ x = (-1, 0, ⟨x.2.2.l⟩) ∧ (varsOf p)[j]? = some x.2.2.l) ∨
    ((varsOf p).length ≤ j ∧ ∃ m b k s, x.1 = (m : Nat) ∧ p[m]? = some b ∧ x.2.1 = (k : Nat) ∧ b.2.1[k]? = some s ∧ defS s = true ∧ x.2.2 = s.2.1) := by
  rw [sitesOf] at h
  by_cases hj : j < (varsOf p).length
  · rw [List.getElem?_append_left (by rw [site0, List.length_map]; exact hj), site0, List.getElem?_map] at h
    obtain ⟨v, hv, rfl⟩ := Option.map_eq_some_iff.1 h
    exact .inl ⟨hj, rfl, hv⟩
  · rw [List.getElem?_append_right (by rw [site0, List.length_map]; omega)] at h
    obtain ⟨m, b, k, s, h1, h2⟩ := siteP_mem p 0 x (List.mem_of_getElem? h)
    rw [Nat.zero_add] at h1
    exact .inr ⟨by omega, m, b, k, s, h1, h2⟩
theorem def_var {s : Stmt} (h : stmtB s = true) (hd : defS s = true) : s.2.1.l ≠ [] := by
  rcases stmtB_var h with h1 | h1 | h1
  · exact h1.2.2.2
  · exact h1.2
  · unfold defS at hd
    rw [decide_eq_false (by omega : ¬ s.1 = 1), decide_eq_false (by omega : ¬ s.1 = 2)] at hd
    cases hd
theorem def_vars {p : Prog} (he : checkE p = 0) {b : Block} (hb : b ∈ p) {s : Stmt} (hs : s ∈ b.2.1) (hd : defS s = true) : s.2.1.l ∈ varsOf p := by
  have hB := (check_facts he).2.2.2 b hb
  rw [blockB, Bool.and_eq_true] at hB
  exact ((vars_has p nil_sorted).1 b hb).1 s hs s.2.1.l (by simp [sVars]) (def_var (List.all_eq_true.1 hB.2 s hs) hd)
def genP (Z : List Site) (b nB : Int) (l : List Stmt) : List Int := l.flatMap fun s => if 0 ≤ lastS Z b nB s.2.1.l then [lastS Z b nB s.2.1.l] else []
def killP (Z : List Site) (b nB : Int) (l : List Stmt) : List Int := l.flatMap fun s => if 0 ≤ lastS Z b nB s.2.1.l then ofL s.2.1.l Z 0 else []
def ctrF (Z : List Site) (i : Nat) (b : Block) : Wd × Wd := (ofB Z.length (genP Z i b.2.1.length b.2.1), bDiff (ofB Z.length (killP Z i b.2.1.length b.2.1)) (ofB Z.length (genP Z i b.2.1.length b.2.1)))
theorem ofB_ext {w : Nat} {l l' : List Int} (h : ∀ x, x ∈ l ↔ x ∈ l') : ofB w l = ofB w l' := by
  refine bits_ext (by rw [ofB_len, ofB_len]) fun m => ?_
  rw [bit_of, bit_of]
  congr 1
  rw [h]
theorem mem_genP {Z : List Site} {b nB x : Int} {l : List Stmt} : x ∈ genP Z b nB l ↔ ∃ s ∈ l, 0 ≤ lastS Z b nB s.2.1.l ∧ x = lastS Z b nB s.2.1.l := by
  rw [genP, List.mem_flatMap]
  constructor
  · rintro ⟨s, hs, h⟩
    split at h
    · rename_i h0; exact ⟨s, hs, h0, List.mem_singleton.1 h⟩
    · cases h
  · rintro ⟨s, hs, h0, h⟩
    exact ⟨s, hs, by rw [if_pos h0]; exact List.mem_singleton.2 h⟩
theorem mem_killP {Z : List Site} {b nB x : Int} {l : List Stmt} : x ∈ killP Z b nB l ↔ ∃ s ∈ l, 0 ≤ lastS Z b nB s.2.1.l ∧ x ∈ ofL s.2.1.l Z 0 := by
  rw [killP, List.mem_flatMap]
  constructor
  · rintro ⟨s, hs, h⟩
    split at h
    · rename_i h0; exact ⟨s, hs, h0, h⟩
    · cases h
  · rintro ⟨s, hs, h0, h⟩
    exact ⟨s, hs, by rw [if_pos h0]; exact h⟩
theorem mem_genV {Z : List Site} {b nB x : Int} {V : List Bs8} : x ∈ genV Z b nB V ↔ ∃ v ∈ V, 0 ≤ lastS Z b nB v ∧ x = lastS Z b nB v := by
  rw [genV, List.mem_flatMap]
  constructor
  · rintro ⟨v, hv, h⟩
    split at h
    · cases h
    · rename_i h0; exact ⟨v, hv, by omega, List.mem_singleton.1 h⟩
  · rintro ⟨v, hv, h0, h⟩
    exact ⟨v, hv, by rw [if_neg (by omega)]; exact List.mem_singleton.2 h⟩
theorem mem_killV {Z : List Site} {b nB x : Int} {V : List Bs8} : x ∈ killV Z b nB V ↔ ∃ v ∈ V, 0 ≤ lastS Z b nB v ∧ x ≠ lastS Z b nB v ∧ x ∈ ofL v Z 0 := by
  have hk : ∀ v at', x ∈ killO Z v at' Z.length ↔ x ≠ at' ∧ x ∈ ofL v Z 0 := fun v at' => by
    rw [killO, List.mem_map]
    constructor
    · rintro ⟨j, hj, rfl⟩
      rw [List.mem_filter, List.mem_range, Bool.and_eq_true, decide_eq_true_eq, Bool.not_eq_true', decide_eq_false_iff_not] at hj
      obtain ⟨h1, h2, h3⟩ := hj
      rw [List.getElem?_eq_getElem h1, Option.getD_some] at h2
      refine ⟨h3, ?_⟩
      have := ofL_at Z 0 j _ (List.getElem?_eq_getElem h1) h2
      rwa [Nat.zero_add] at this
    · rintro ⟨h1, h2⟩
      obtain ⟨j, s, rfl, h3, h4⟩ := ofL_mem Z 0 x h2
      rw [Nat.zero_add] at h1 ⊢
      have hlt := (List.getElem?_eq_some_iff.1 h3).1
      refine ⟨j, ?_, rfl⟩
      rw [List.mem_filter, List.mem_range, Bool.and_eq_true, decide_eq_true_eq, Bool.not_eq_true', decide_eq_false_iff_not]
      exact ⟨hlt, by rw [h3]; exact h4, h1⟩
  rw [killV, List.mem_flatMap]
  constructor
  · rintro ⟨v, hv, h⟩
    split at h
    · cases h
    · rename_i h0
      obtain ⟨h1, h2⟩ := (hk v _).1 h
      exact ⟨v, hv, by omega, h1, h2⟩
  · rintro ⟨v, hv, h0, h1, h2⟩
    exact ⟨v, hv, by rw [if_neg (by omega)]; exact (hk v _).2 ⟨h1, h2⟩⟩
theorem ofL_var {v w : Bs8} {Z : List Site} {x : Int} (h : x ∈ ofL v Z 0) (h' : x ∈ ofL w Z 0) : v = w := by
  obtain ⟨j, s, h1, h2, h3⟩ := ofL_mem Z 0 x h
  obtain ⟨j', s', h1', h2', h3'⟩ := ofL_mem Z 0 x h'
  have e : j = j' := by omega
  subst e
  rw [h2] at h2'
  cases h2'
  rw [← h3, ← h3']
theorem lastS_in_of {Z : List Site} {b k : Int} {v : Bs8} (h : 0 ≤ lastS Z b k v) : lastS Z b k v ∈ ofL v Z 0 := by
  obtain ⟨j, x, h1, h2, h3⟩ := lastS_hit h
  have := ofL_at Z 0 j x h2 (hitS_is.1 h3).2.2
  rw [Nat.zero_add] at this
  rw [h1]; exact this
theorem last_who {p : Prog} (he : checkE p = 0) {i : Nat} {b : Block} (hb : p[i]? = some b) {v : Bs8} {k : Int} (h : 0 ≤ lastS (sitesOf p) i k v) : v ∈ varsOf p ∧ ∃ s ∈ b.2.1, s.2.1.l = v := by
  obtain ⟨j, x, h1, h2, h3⟩ := lastS_hit h
  obtain ⟨g1, g2, g3⟩ := hitS_is.1 h3
  rcases sites_at h2 with ⟨_, h4, _⟩ | ⟨_, m, c, k', s, h4, h5, _, h6, h7, h8⟩
  · rw [h4] at g1
    have g1 : (-1 : Int) = (i : Nat) := g1
    omega
  · have e : m = i := by omega
    subst e
    rw [hb] at h5
    cases h5
    have hs := List.mem_of_getElem? h6
    rw [h8] at g3
    exact ⟨g3 ▸ def_vars he (List.mem_of_getElem? hb) hs h7, s, hs, g3⟩
theorem ctrF_eq {p : Prog} (he : checkE p = 0) {i : Nat} {b : Block} (hb : p[i]? = some b) : ctrF (sitesOf p) i b = rchF (sitesOf p) (varsOf p) i b := by
  have hg : ∀ x, x ∈ genP (sitesOf p) i b.2.1.length b.2.1 ↔ x ∈ genV (sitesOf p) i b.2.1.length (varsOf p) := fun x => by
    rw [mem_genP, mem_genV]
    constructor
    · rintro ⟨s, _, h0, h⟩
      exact ⟨_, (last_who he hb h0).1, h0, h⟩
    · rintro ⟨v, _, h0, h⟩
      obtain ⟨s, hs, rfl⟩ := (last_who he hb h0).2
      exact ⟨s, hs, h0, h⟩
  have hge := ofB_ext (w := (sitesOf p).length) hg
  rw [ctrF, rchF, hge]
  congr 1
  refine bits_ext (by rw [(bDiff_ok (ofB_ok _ _) (ofB_ok _ _)).1, ofB_len]) fun m => ?_
  rw [bit_bDiff (by rw [ofB_len, ofB_len]), bit_of, bit_of, bit_of]
  by_cases hm : m < (sitesOf p).length
  · simp only [hm, true_and]
    have key : ((m : Int) ∈ killP (sitesOf p) i b.2.1.length b.2.1 ∧ ¬ (m : Int) ∈ genV (sitesOf p) i b.2.1.length (varsOf p)) ↔ (m : Int) ∈ killV (sitesOf p) i b.2.1.length (varsOf p) := by
      rw [mem_killP, mem_genV, mem_killV]
      constructor
      · rintro ⟨⟨s, hs, h0, h⟩, h2⟩
        have hv := (last_who he hb h0).1
        exact ⟨_, hv, h0, fun e => h2 ⟨_, hv, h0, e⟩, h⟩
      · rintro ⟨v, hv, h0, h1, h2⟩
        obtain ⟨s, hs, rfl⟩ := (last_who he hb h0).2
        refine ⟨⟨s, hs, h0, h2⟩, ?_⟩
        rintro ⟨v', _, h0', e⟩
        have := lastS_in_of h0'
        rw [← e] at this
        have := ofL_var this h2
        subst this
        exact h1 e
    by_cases h1 : (m : Int) ∈ killP (sitesOf p) i b.2.1.length b.2.1 <;> by_cases h2 : (m : Int) ∈ genV (sitesOf p) i b.2.1.length (varsOf p) <;> by_cases h3 : (m : Int) ∈ killV (sitesOf p) i b.2.1.length (varsOf p) <;> simp [h1, h2, h3] at key ⊢
  · simp [hm]
end Go.Proofs
end
section
namespace Go.Proofs
open Go.Sy
set_option maxRecDepth 20000
set_option maxHeartbeats 4000000
structure FamG (Z : List Site) (i : Nat) (l : List Stmt) (A B : Nat → List Int) : Prop where
  a0 : A 0 = []
  b0 : B 0 = []
  an : ∀ k s, l[k]? = some s → ¬ 0 ≤ lastS Z i l.length s.2.1.l → A (k + 1) = A k ∧ B (k + 1) = B k
  ay : ∀ k s, l[k]? = some s → 0 ≤ lastS Z i l.length s.2.1.l → A (k + 1) = A k ++ [lastS Z i l.length s.2.1.l] ∧ B (k + 1) = B k ++ ofL s.2.1.l Z 0
  ae : A l.length = genP Z i l.length l
  be : B l.length = killP Z i l.length l
  al : ∀ k, (A k).length ≤ k
  bl : ∀ k, (B k).length ≤ k * Z.length
theorem famG_k {P : Prop} (Z : List Site) (i : Nat) (l : List Stmt) (kk : ∀ A B, FamG Z i l A B → P) : P := by
  have hf : ∀ {f : Stmt → List Int} {k : Nat} {s : Stmt}, l[k]? = some s → (l.take (k + 1)).flatMap f = (l.take k).flatMap f ++ f s := fun h => by
    rw [List.take_add_one, h, Option.toList_some, List.flatMap_append, List.flatMap_singleton]
  have hlen : ∀ {f : Stmt → List Int} {c : Nat}, (∀ s, (f s).length ≤ c) → ∀ r : List Stmt, (r.flatMap f).length ≤ r.length * c := fun {f c} hc r => by
    induction r with
    | nil => simp
    | cons s r ih =>
      have := hc s
      rw [List.flatMap_cons, List.length_append, List.length_cons, Nat.succ_mul]
      omega
  refine kk (fun k => genP Z i l.length (l.take k)) (fun k => killP Z i l.length (l.take k)) ⟨rfl, rfl, fun k s hs h => ?_, fun k s hs h => ?_, ?_, ?_, fun k => ?_, fun k => ?_⟩
  · constructor
    · rw [genP, genP, hf hs, if_neg h, List.append_nil]
    · rw [killP, killP, hf hs, if_neg h, List.append_nil]
  · constructor
    · rw [genP, genP, hf hs, if_pos h]
    · rw [killP, killP, hf hs, if_pos h]
  · rw [List.take_length]
  · rw [List.take_length]
  · have h := hlen (f := fun s : Stmt => if 0 ≤ lastS Z i l.length s.2.1.l then [lastS Z i l.length s.2.1.l] else []) (c := 1) (fun s => by split <;> simp) (l.take k)
    rw [List.length_take] at h
    show (genP Z i l.length (l.take k)).length ≤ k
    rw [genP]
    omega
  · have h := hlen (f := fun s : Stmt => if 0 ≤ lastS Z i l.length s.2.1.l then ofL s.2.1.l Z 0 else []) (c := Z.length) (fun s => by
      split
      · exact ofL_len _ _ _
      · simp) (l.take k)
    show (killP Z i l.length (l.take k)).length ≤ k * Z.length
    rw [killP]
    refine Nat.le_trans h (Nat.mul_le_mul_right _ ?_)
    rw [List.length_take]; omega
theorem ctrans_spec {Z : List Site} (hZ : Z.length ≤ 576) {i : Nat} {b : Block} (hb : b.2.1.length ≤ 512) {a la : Option Addr} {n c ln lc : Nat} {H : Hp} {K : Value → Hp → Prop} (ha : RL (α := Site) H a n c Z) (hl : RL H la ln lc b.2.1)
    (hK : ∀ z H', Le H H' → Bt.TrR H' (ctrF Z i b) z → K (Bt.trA z) H') : Does Tryz.prog 50 [.slice a n c, .int .i64 (i : Nat), blkA (.slice la ln lc) b] H K := by
  have hn := ha.n_eq
  subst hn
  have hln := hl.n_eq
  subst hln
  refine famG_k Z i b.2.1 fun A B hF => ?_
  have hAl := hF.al
  have hBl := hF.bl
  refine spec_ofM cx_ok cx_mix rfl Tryz.func50 Tryz.call50 Tryz.ntmps50 Tryz.results50 rfl rfl ?_
  refine ⟨Nat, fun k => ⟨[(0, .v (.slice a Z.length c)), (1, .v (.int .i64 (i : Nat))), (5, .ptr 0 0), (6, .ptr 1 0), (7, .own 3), (8, .ptr 2 0), (16, .v (.slice la b.2.1.length lc)), (17, .v (.int .i64 (b.2.1.length : Nat))), (18, .v (.int .i64 k))],
      [(0, .cells 57 (vL (blkL (.slice la b.2.1.length lc) b))), (1, .cells 109 [.v (.slice none 0 0), .v (.slice none 0 0), .v (.slice none 0 0)]), (2, .cells 28 [.own 4]), (3, .row 3 1 (iRows (A k))), (4, .row 3 1 (iRows (B k)))], 5⟩,
    fun k H' => Le H H' ∧ k ≤ b.2.1.length, fun k => b.2.1.length - k, ⟨0, [(0, 0), (1, 1), (2, 2)], ?_, Le.refl _, Nat.zero_le _⟩, ?_⟩
  · have e1 : iRows (A 0) = [] := by rw [hF.a0]; rfl
    have e2 : iRows (B 0) = [] := by rw [hF.b0]; rfl
    (repeat' (first|exact trivial|refine ⟨?_,?_⟩|exact rfl|assumption))
  rintro k H1 _ ⟨hle1, hk⟩
  refine ⟨fun h => ?_, fun h => ?_⟩
  · have hlt : k < b.2.1.length := by have := dt h; omega
    refine name_k b.2.1[k] fun s hs => ?_
    have hss : b.2.1[k]? = some s := by rw [hs]; exact List.getElem?_eq_getElem hlt
    refine stmt_k (hl.up hle1) hss fun ad e1 hh hsR => ?_
    refine ⟨ad, ⟨by omega, by omega, e1⟩, ?_⟩
    refine ⟨_, hh, ?_⟩
    refine clast_spec (by omega) (ha.up hle1) fun _ _ => ?_
    refine ⟨fun h => ?_, fun h => ?_⟩
    · have h0 : ¬ 0 ≤ lastS Z i b.2.1.length s.2.1.l := by have := nt h; exact this
      obtain ⟨eA, eB⟩ := hF.an k s hss h0
      have e1 : iRows (A k) = iRows (A (k + 1)) := by rw [eA]
      have e2 : iRows (B k) = iRows (B (k + 1)) := by rw [eB]
      refine ⟨⟨by omega, by omega⟩, k + 1, [(0, 0), (1, 1), (2, 2), (3, 3), (4, 4)], ?_, ⟨hle1, hlt⟩, by dsimp only; omega⟩
      (repeat' (first|exact trivial|refine ⟨?_,?_⟩|exact rfl|assumption))
    · have h0 : 0 ≤ lastS Z i b.2.1.length s.2.1.l := by have := nf h; exact this
      obtain ⟨eA, eB⟩ := hF.ay k s hss h0
      have hin := lastS_in Z i b.2.1.length s.2.1.l
      have hAk := hAl k
      have hBk : (B k).length ≤ 294912 := Nat.le_trans (hBl k) (Nat.le_trans (Nat.mul_le_mul (show k ≤ 512 by omega) hZ) (by decide))
      have hAl1 : (iRows (A k)).length = (A k).length := List.length_map _
      refine ⟨⟨by show (_ + 1) * 8 ≤ 140737488355328; omega, by show _ + 1 ≤ 9223372036854775807; omega⟩, ?_⟩
      refine ⟨[], rfl, crof_spec ?_⟩
      have eR : iRows (A k) ++ [[Value.int .i64 (lastV (lastS Z i b.2.1.length s.2.1.l)).1]] = iRows (A (k + 1)) := by
        rw [eA, lastV, if_pos h0, iRows, iRows, List.map_append]; rfl
      refine range_raw ?_ ?_ rfl [(8, 76, [.slice a Z.length c]), (9, 9, [.string (bs s.2.1.l)])] (ofL s.2.1.l Z 0) (fun x : Int => Value.int .i64 x) rfl Tryz.call160 ?_ (show [8, 9].Nodup by decide) ?_ (by kernel_rfl)
        4 [(0, .v (.slice a Z.length c)), (1, .v (.int .i64 (i : Nat))), (5, .ptr 0 0), (6, .ptr 1 0), (7, .own 3), (8, .ptr 2 0), (16, .v (.slice la b.2.1.length lc)), (17, .v (.int .i64 (b.2.1.length : Nat))), (18, .v (.int .i64 k))]
        (fun y : List Int => [(0, .cells 57 (vL (blkL (.slice la b.2.1.length lc) b))), (1, .cells 109 [.v (.slice none 0 0), .v (.slice none 0 0), .v (.slice none 0 0)]), (2, .cells 28 [.own 4]), (3, .row 3 1 (iRows (A (k + 1)))), (4, .row 3 1 (iRows (B k ++ y)))]) 5
        (fun pre y H' => Le H1 H' ∧ y = pre) rfl ?_ ?_ ?_ ?_
      · exact ⟨cx_ok.tt, cx_ok.eqs⟩
      · exact cx_mix
      · intro q hq
        rcases List.mem_cons.1 hq with rfl | hq
        · rfl
        · rw [List.mem_singleton] at hq; subst hq; rfl
      · intro g H3 hle h1
        exact of_iter (by omega) (ha.up (hle1.trans hle)) (h1 _ (List.mem_cons_self)) (h1 _ (List.mem_cons_of_mem _ List.mem_cons_self))
      · rintro pre y H3 H4 hle ⟨h1, h2⟩
        exact ⟨h1.trans hle, h2⟩
      · refine ⟨[], [(0, 0), (1, 1), (2, 2), (3, 7), (4, 4)], ?_, fun H' hle => ⟨hle, rfl⟩⟩
        rw [List.append_nil, ← eR]
        (repeat' (first|exact trivial|refine ⟨?_,?_⟩|exact rfl|assumption))
      · rintro pre x y H3 hle3 ⟨_, rfl⟩ hpre
        have hpl : y.length + 1 ≤ 576 := by
          have h1 := hpre.length_le
          have h2 := ofL_len s.2.1.l Z 0
          rw [List.length_append, List.length_singleton] at h1
          omega
        have hBl1 : (iRows (B k ++ y)).length = (B k).length + y.length := by rw [iRows, List.length_map, List.length_append]
        have eB2 : iRows (B k ++ y) ++ [[Value.int .i64 x]] = iRows (B k ++ (y ++ [x])) := by
          rw [← List.append_assoc]; exact (List.map_append (l₁ := B k ++ y) (l₂ := [x])).symm
        refine ⟨⟨by show (_ + 1) * 8 ≤ 140737488355328; omega, by show _ + 1 ≤ 9223372036854775807; omega⟩, ?_⟩
        refine ⟨rfl, y ++ [x], [(0, 0), (1, 1), (2, 2), (3, 3), (4, 6)], ?_, hle3, rfl⟩
        rw [← eB2]
        (repeat' (first|exact trivial|refine ⟨?_,?_⟩|exact rfl|assumption))
      · rintro y H3 hle3 ⟨_, rfl⟩
        refine ⟨⟨by omega, by omega⟩, k + 1, [(0, 0), (1, 1), (2, 2), (3, 3), (4, 4)], ?_, ⟨hle1.trans hle3, hlt⟩, by dsimp only; omega⟩
        have e2 : iRows (B k ++ ofL s.2.1.l Z 0) = iRows (B (k + 1)) := by rw [eB]
        (repeat' (first|exact trivial|refine ⟨?_,?_⟩|exact rfl|assumption))
  · have hkl : k = b.2.1.length := by have := df h; omega
    subst hkl
    rw [hF.ae, hF.be]
    have hBk : (killP Z i b.2.1.length b.2.1).length ≤ 294912 := by
      rw [← hF.be]
      exact Nat.le_trans (hBl _) (Nat.le_trans (Nat.mul_le_mul hb hZ) (by decide))
    have hAk : (genP Z i b.2.1.length b.2.1).length ≤ 512 := by
      rw [← hF.ae]
      exact Nat.le_trans (hAl _) hb
    have gI : ∀ x ∈ genP Z i b.2.1.length b.2.1, inI x := fun x hx => by
      obtain ⟨s, _, h0, rfl⟩ := mem_genP.1 hx
      have := lastS_in Z i b.2.1.length s.2.1.l
      exact ⟨by omega, by omega⟩
    have kI : ∀ x ∈ killP Z i b.2.1.length b.2.1, inI x := fun x hx => by
      obtain ⟨s, _, h0, h2⟩ := mem_killP.1 hx
      obtain ⟨j, s', rfl, h3, _⟩ := ofL_mem Z 0 x h2
      have := (List.getElem?_eq_some_iff.1 h3).1
      exact ⟨by omega, by omega⟩
    refine ⟨some ([1, 3, 4], [0, 1, 3, 4, 6, 7, 2, 5, 8, 9, 10, 11]), by kernel_rfl, ?_⟩
    intro v H6 hle6 hv6
    refine of_row_k (α := Int) hv6 (rc_iRows gI) fun d1 d2 d3 e1 hr1 => ?_
    subst e1
    refine wof_spec (by omega) hr1 fun g1 g2 g3 H7 hle7 hg7 => ?_
    intro v8 H8 hle8 hv8
    refine of_row_k (α := Int) hv8 (rc_iRows kI) fun k1 k2 k3 e2 hr2 => ?_
    subst e2
    refine wof_spec (by omega) hr2 fun q1 q2 q3 H9 hle9 hq9 => ?_
    have hle79 := (hle7.trans hle8.le).trans hle9
    refine wof_spec (by omega) (hr1.up hle79) fun m1 m2 m3 H10 hle10 hm10 => ?_
    refine wminus_spec (by omega) (ofB_len _ _) (ofB_len _ _) (hq9.up hle10) hm10 fun r1 r2 r3 H11 hle11 hr11 => ?_
    intro Hm hlem hcl
    refine hK ⟨g1, g2, g3, r1, r2, r3⟩ Hm hlem ⟨?_, ?_⟩
    · exact rl_left (hg7.up (((hle8.le.trans hle9).trans hle10).trans hle11)) hcl fun h => h
    · exact rl_left hr11 hcl fun h => h
end Go.Proofs
end
section
namespace Go.Proofs
open Go.Sy
set_option maxRecDepth 20000
set_option maxHeartbeats 4000000
theorem stmtsN_mem : ∀ {p : Prog} {b : Block}, b ∈ p → b.2.1.length ≤ stmtsN p
  | [], _, h => by cases h
  | c :: r, b, h => by
    have e : stmtsN (c :: r) = c.2.1.length + stmtsN r := by simp [stmtsN]
    rw [e]
    rcases List.mem_cons.1 h with rfl | h
    · omega
    · have := stmtsN_mem h
      omega
theorem blk512 {p : Prog} (he : checkE p = 0) {i : Nat} {b : Block} (hb : p[i]? = some b) : b.2.1.length ≤ 512 := by
  have h := stmts512 he
  have h2 : b.2.1.length ≤ stmtsN p := by
    have := stmtsN_mem (List.mem_of_getElem? hb)
    exact this
  omega
theorem csys_spec {p : Prog} (hp : p.length ≤ 12) (hl : ∀ b ∈ p, b.2.1.length ≤ 100000) (hc : stmtsN p ≤ 1000000) (hv : cnt p < 400000) {a : Option Addr} {n c : Nat} {H : Hp} {K : Value → Hp → Prop} (ha : RL H a n c p)
    (hbad : checkE p ≠ 0 → ∀ H', Le H H' → K (.tuple #[.agg zSys.toArray, .int .i64 (checkE p)]) H')
    (hK : checkE p = 0 → ∀ z H', Le H H' → Bt.SysR H' (csysOf p) z → K (.tuple #[Bt.sysA (csysOf p) z, .int .i64 0]) H') : Does Tryz.prog 12 [.agg #[.slice a n c]] H K := by
  have hn := ha.n_eq
  have hmx := ha.le
  refine spec_of cx_ok cx_mix rfl Tryz.func12 Tryz.call12 Tryz.ntmps12 Tryz.results12 rfl rfl ?_
  refine pcheck_spec ha hc hv fun H00 hle00 => ?_
  refine ⟨fun h => ?_, fun h => ?_⟩
  · exact hbad (nt h) _ (Le.refl H)
  have he : checkE p = 0 := nf h
  have hK := hK he
  have hv64 := vars64 he
  have hz5 := sites_len he
  refine tsites_spec hp hl hc hv hv64 ha fun az nz cz H0 hle0 hrz => ?_
  have hnz := hrz.n_eq
  subst hnz
  refine pvars_spec (ha.up hle0) hv fun av nv cv H1 hle1 hrv => ?_
  have hnv := hrv.n_eq
  rw [List.length_map] at hnv
  subst hnv
  have hle01 := hle0.trans hle1
  refine ⟨Nat, fun i => ⟨[(1, .ptr 0 0), (2, .ptr 1 0), (5, .v (.slice az (sitesOf p).length cz)), (6, .own 2), (22, .v (.int .i64 ((varsOf p).length : Nat))), (23, .v (.int .i64 i))],
      [(0, .cells 24 [.v (.slice a n c)]), (1, .cells 32 (vL zSys)), (2, .row 3 1 (iRows (cntL i)))], 3⟩,
    fun i H' => H' = H1 ∧ i ≤ (varsOf p).length, fun i => (varsOf p).length - i, ⟨0, [(0, 0), (1, 1)], ?_, rfl, Nat.zero_le _⟩, ?_⟩
  · (repeat' (first|exact trivial|refine ⟨?_,?_⟩|exact rfl|assumption))
  rintro i H2 _ ⟨rfl, hi⟩
  have hcl : (iRows (cntL i)).length = i := by rw [List.length_map, cntL, List.length_map, List.length_range]
  refine ⟨fun h => ?_, fun h => ?_⟩
  · have hlt : i < (varsOf p).length := by have := dt h; omega
    have e1 := cnt_snoc i
    refine ⟨⟨by show (_ + 1) * 8 ≤ 140737488355328; omega, by show _ + 1 ≤ 9223372036854775807; omega⟩, ?_⟩
    refine ⟨⟨by omega, by omega⟩, i + 1, [(0, 0), (1, 1), (2, 4)], ?_, ⟨rfl, hlt⟩, by dsimp only; omega⟩
    (repeat' (first|exact trivial|refine ⟨?_,?_⟩|exact rfl|assumption))
  have hil : i = (varsOf p).length := by have := df h; omega
  rw [hil]
  refine ⟨none, ?_⟩
  refine region_plan (α := SA) ?_ ?_
    (.two 5 6 (.two 5 11 (.two 6 9 (.two 6 11 (.two 9 11 (.one [2, 3, 4] [0, 1, 2, 3, 4, 7, 8, 5, 6, 9, 10, 11, 12]) (.one [2, 3, 4] [0, 1, 2, 3, 4, 7, 8, 5, 6, 11, 9, 10, 12])) (.one [2, 3, 4] [0, 1, 2, 3, 4, 7, 8, 5, 11, 6, 9, 10, 12])) (.two 6 11 (.one [2, 3, 4] [0, 1, 2, 3, 4, 7, 8, 5, 9, 6, 10, 11, 12]) (.two 9 11 (.one [2, 3, 4] [0, 1, 2, 3, 4, 7, 8, 5, 9, 11, 6, 10, 12]) (.one [2, 3, 4] [0, 1, 2, 3, 4, 7, 8, 5, 11, 9, 6, 10, 12])))) (.two 6 9 (.one [2, 3, 4] [0, 1, 2, 3, 4, 7, 8, 11, 5, 6, 9, 10, 12]) (.one [2, 3, 4] [0, 1, 2, 3, 4, 7, 8, 11, 5, 9, 6, 10, 12]))) (.two 5 11 (.two 9 11 (.one [2, 3, 4] [0, 1, 2, 3, 4, 7, 8, 6, 5, 9, 10, 11, 12]) (.one [2, 3, 4] [0, 1, 2, 3, 4, 7, 8, 6, 5, 11, 9, 10, 12])) (.two 6 11 (.one [2, 3, 4] [0, 1, 2, 3, 4, 7, 8, 6, 11, 5, 9, 10, 12]) (.one [2, 3, 4] [0, 1, 2, 3, 4, 7, 8, 11, 6, 5, 9, 10, 12]))))
    (fun z => ⟨[(1, .ptr 0 0), (2, .ptr 1 0), (5, .v (.slice az (sitesOf p).length cz)), (9, .ptr 2 0)],
      [(0, .cells 24 [.v (.slice a n c)]), (1, .cells 32 (vL zSys)), (2, .cells 32 [.v (.int .i64 (1 : Nat)), .v (.int .i64 ((sitesOf p).length : Nat)), .v (.int .i64 n), .v (.slice z.ea z.en z.ec), .own 3, .v (.slice z.ia z.ni z.ic), .v (.slice none 0 0)]), (3, .row 3 1 iRow0)], 4⟩)
    (fun z H' => Le H2 H' ∧ RL H' z.ea z.en z.ec (gSort (edgesOf p)) ∧ RL H' z.ia z.ni z.ic (csysOf p).ini) (by kernel_rfl) ⟨⟨⟨⟨⟨?_, ?_⟩, ?_⟩, ⟨?_, ⟨?_, ?_⟩⟩⟩, ⟨?_, ?_⟩⟩, ⟨⟨?_, ?_⟩, ⟨?_, ?_⟩⟩⟩ ?_
  · exact ⟨cx_ok.tt, cx_ok.eqs⟩
  · exact cx_mix
  · refine edges_spec hp (ha.up hle01) fun e1 e2 e3 H3 hle3 hr3 => ?_
    intro v1 H4 hle4 hv4
    refine of_row_k (α := Int) hv4 (rc_iRows (cnt_in (by omega))) fun d1 d2 d3 ev1 hr4 => ?_
    subst ev1
    refine wof_spec (w := (sitesOf p).length) (by omega) hr4 fun w1 w2 w3 H5 hle5 hr5 => ?_
    exact ⟨⟨e1, e2, e3, none, 0, 0, w1, w2, w3, none, 0, 0⟩, [(0, 0), (1, 1), (2, 4), (3, 3)], by (repeat' (first|exact trivial|refine ⟨?_,?_⟩|exact rfl|assumption)), (hle3.trans hle4.le).trans hle5, hr3.up (hle4.le.trans hle5), hr5⟩
  · refine edges_spec hp (ha.up hle01) fun e1 e2 e3 H3 hle3 hr3 => ?_
    intro v1 H4 hle4 hv4
    refine of_row_k (α := Int) hv4 (rc_iRows (cnt_in (by omega))) fun d1 d2 d3 ev1 hr4 => ?_
    subst ev1
    refine wof_spec (w := (sitesOf p).length) (by omega) hr4 fun w1 w2 w3 H5 hle5 hr5 => ?_
    exact ⟨⟨e1, e2, e3, none, 0, 0, w1, w2, w3, none, 0, 0⟩, [(0, 0), (1, 1), (2, 4), (3, 3)], by (repeat' (first|exact trivial|refine ⟨?_,?_⟩|exact rfl|assumption)), (hle3.trans hle4.le).trans hle5, hr3.up (hle4.le.trans hle5), hr5⟩
  · refine edges_spec hp (ha.up hle01) fun e1 e2 e3 H3 hle3 hr3 => ?_
    intro v1 H4 hle4 hv4
    refine of_row_k (α := Int) hv4 (rc_iRows (cnt_in (by omega))) fun d1 d2 d3 ev1 hr4 => ?_
    subst ev1
    refine wof_spec (w := (sitesOf p).length) (by omega) hr4 fun w1 w2 w3 H5 hle5 hr5 => ?_
    exact ⟨⟨e1, e2, e3, none, 0, 0, w1, w2, w3, none, 0, 0⟩, [(0, 0), (1, 1), (2, 3), (3, 4)], by (repeat' (first|exact trivial|refine ⟨?_,?_⟩|exact rfl|assumption)), (hle3.trans hle4.le).trans hle5, hr3.up (hle4.le.trans hle5), hr5⟩
  · refine edges_spec hp (ha.up hle01) fun e1 e2 e3 H3 hle3 hr3 => ?_
    intro v1 H4 hle4 hv4
    refine of_row_k (α := Int) hv4 (rc_iRows (cnt_in (by omega))) fun d1 d2 d3 ev1 hr4 => ?_
    subst ev1
    refine wof_spec (w := (sitesOf p).length) (by omega) hr4 fun w1 w2 w3 H5 hle5 hr5 => ?_
    exact ⟨⟨e1, e2, e3, none, 0, 0, w1, w2, w3, none, 0, 0⟩, [(0, 0), (1, 1), (2, 4), (3, 3)], by (repeat' (first|exact trivial|refine ⟨?_,?_⟩|exact rfl|assumption)), (hle3.trans hle4.le).trans hle5, hr3.up (hle4.le.trans hle5), hr5⟩
  · refine edges_spec hp (ha.up hle01) fun e1 e2 e3 H3 hle3 hr3 => ?_
    intro v1 H4 hle4 hv4
    refine of_row_k (α := Int) hv4 (rc_iRows (cnt_in (by omega))) fun d1 d2 d3 ev1 hr4 => ?_
    subst ev1
    refine wof_spec (w := (sitesOf p).length) (by omega) hr4 fun w1 w2 w3 H5 hle5 hr5 => ?_
    exact ⟨⟨e1, e2, e3, none, 0, 0, w1, w2, w3, none, 0, 0⟩, [(0, 0), (1, 1), (2, 3), (3, 4)], by (repeat' (first|exact trivial|refine ⟨?_,?_⟩|exact rfl|assumption)), (hle3.trans hle4.le).trans hle5, hr3.up (hle4.le.trans hle5), hr5⟩
  · refine edges_spec hp (ha.up hle01) fun e1 e2 e3 H3 hle3 hr3 => ?_
    intro v1 H4 hle4 hv4
    refine of_row_k (α := Int) hv4 (rc_iRows (cnt_in (by omega))) fun d1 d2 d3 ev1 hr4 => ?_
    subst ev1
    refine wof_spec (w := (sitesOf p).length) (by omega) hr4 fun w1 w2 w3 H5 hle5 hr5 => ?_
    exact ⟨⟨e1, e2, e3, none, 0, 0, w1, w2, w3, none, 0, 0⟩, [(0, 0), (1, 1), (2, 3), (3, 4)], by (repeat' (first|exact trivial|refine ⟨?_,?_⟩|exact rfl|assumption)), (hle3.trans hle4.le).trans hle5, hr3.up (hle4.le.trans hle5), hr5⟩
  · refine edges_spec hp (ha.up hle01) fun e1 e2 e3 H3 hle3 hr3 => ?_
    intro v1 H4 hle4 hv4
    refine of_row_k (α := Int) hv4 (rc_iRows (cnt_in (by omega))) fun d1 d2 d3 ev1 hr4 => ?_
    subst ev1
    refine wof_spec (w := (sitesOf p).length) (by omega) hr4 fun w1 w2 w3 H5 hle5 hr5 => ?_
    exact ⟨⟨e1, e2, e3, none, 0, 0, w1, w2, w3, none, 0, 0⟩, [(0, 0), (1, 1), (2, 3), (3, 4)], by (repeat' (first|exact trivial|refine ⟨?_,?_⟩|exact rfl|assumption)), (hle3.trans hle4.le).trans hle5, hr3.up (hle4.le.trans hle5), hr5⟩
  · refine edges_spec hp (ha.up hle01) fun e1 e2 e3 H3 hle3 hr3 => ?_
    intro v1 H4 hle4 hv4
    refine of_row_k (α := Int) hv4 (rc_iRows (cnt_in (by omega))) fun d1 d2 d3 ev1 hr4 => ?_
    subst ev1
    refine wof_spec (w := (sitesOf p).length) (by omega) hr4 fun w1 w2 w3 H5 hle5 hr5 => ?_
    exact ⟨⟨e1, e2, e3, none, 0, 0, w1, w2, w3, none, 0, 0⟩, [(0, 0), (1, 1), (2, 3), (3, 4)], by (repeat' (first|exact trivial|refine ⟨?_,?_⟩|exact rfl|assumption)), (hle3.trans hle4.le).trans hle5, hr3.up (hle4.le.trans hle5), hr5⟩
  · refine edges_spec hp (ha.up hle01) fun e1 e2 e3 H3 hle3 hr3 => ?_
    intro v1 H4 hle4 hv4
    refine of_row_k (α := Int) hv4 (rc_iRows (cnt_in (by omega))) fun d1 d2 d3 ev1 hr4 => ?_
    subst ev1
    refine wof_spec (w := (sitesOf p).length) (by omega) hr4 fun w1 w2 w3 H5 hle5 hr5 => ?_
    exact ⟨⟨e1, e2, e3, none, 0, 0, w1, w2, w3, none, 0, 0⟩, [(0, 0), (1, 1), (2, 4), (3, 3)], by (repeat' (first|exact trivial|refine ⟨?_,?_⟩|exact rfl|assumption)), (hle3.trans hle4.le).trans hle5, hr3.up (hle4.le.trans hle5), hr5⟩
  · refine edges_spec hp (ha.up hle01) fun e1 e2 e3 H3 hle3 hr3 => ?_
    intro v1 H4 hle4 hv4
    refine of_row_k (α := Int) hv4 (rc_iRows (cnt_in (by omega))) fun d1 d2 d3 ev1 hr4 => ?_
    subst ev1
    refine wof_spec (w := (sitesOf p).length) (by omega) hr4 fun w1 w2 w3 H5 hle5 hr5 => ?_
    exact ⟨⟨e1, e2, e3, none, 0, 0, w1, w2, w3, none, 0, 0⟩, [(0, 0), (1, 1), (2, 4), (3, 3)], by (repeat' (first|exact trivial|refine ⟨?_,?_⟩|exact rfl|assumption)), (hle3.trans hle4.le).trans hle5, hr3.up (hle4.le.trans hle5), hr5⟩
  · refine edges_spec hp (ha.up hle01) fun e1 e2 e3 H3 hle3 hr3 => ?_
    intro v1 H4 hle4 hv4
    refine of_row_k (α := Int) hv4 (rc_iRows (cnt_in (by omega))) fun d1 d2 d3 ev1 hr4 => ?_
    subst ev1
    refine wof_spec (w := (sitesOf p).length) (by omega) hr4 fun w1 w2 w3 H5 hle5 hr5 => ?_
    exact ⟨⟨e1, e2, e3, none, 0, 0, w1, w2, w3, none, 0, 0⟩, [(0, 0), (1, 1), (2, 4), (3, 3)], by (repeat' (first|exact trivial|refine ⟨?_,?_⟩|exact rfl|assumption)), (hle3.trans hle4.le).trans hle5, hr3.up (hle4.le.trans hle5), hr5⟩
  · refine edges_spec hp (ha.up hle01) fun e1 e2 e3 H3 hle3 hr3 => ?_
    intro v1 H4 hle4 hv4
    refine of_row_k (α := Int) hv4 (rc_iRows (cnt_in (by omega))) fun d1 d2 d3 ev1 hr4 => ?_
    subst ev1
    refine wof_spec (w := (sitesOf p).length) (by omega) hr4 fun w1 w2 w3 H5 hle5 hr5 => ?_
    exact ⟨⟨e1, e2, e3, none, 0, 0, w1, w2, w3, none, 0, 0⟩, [(0, 0), (1, 1), (2, 3), (3, 4)], by (repeat' (first|exact trivial|refine ⟨?_,?_⟩|exact rfl|assumption)), (hle3.trans hle4.le).trans hle5, hr3.up (hle4.le.trans hle5), hr5⟩
  rintro ⟨ea, en, ec, na, nn, nc, ia, ni, ic, ta, tn, tc⟩ H3 _ ⟨hle3, hze, hzi⟩
  dsimp only at hze hzi
  refine ⟨Nat × List (List Value), fun q => ⟨[(1, .ptr 0 0), (2, .ptr 1 0), (5, .v (.slice az (sitesOf p).length cz)), (9, .ptr 2 0), (45, .v (.slice a n c)), (46, .v (.int .i64 n)), (47, .v (.int .i64 q.1))],
      [(0, .cells 24 [.v (.slice a n c)]), (1, .cells 32 (vL zSys)), (2, .cells 32 [.v (.int .i64 (1 : Nat)), .v (.int .i64 ((sitesOf p).length : Nat)), .v (.int .i64 n), .v (.slice ea en ec), .own 3, .v (.slice ia ni ic), .own 4]), (3, .row 3 1 iRow0), (4, .row 109 3 q.2)], 5⟩,
    fun q H' => Le H3 H' ∧ q.1 ≤ p.length ∧ RC (α := Bt.TrB) H' q.2 (((csysOf p).T.map Bt.TrB.mk).take q.1), fun q => p.length - q.1, ⟨(0, []), [(0, 0), (1, 1), (2, 2), (3, 3)], ?_, Le.refl _, Nat.zero_le _, RC.nil⟩, ?_⟩
  · (repeat' (first|exact trivial|refine ⟨?_,?_⟩|exact rfl|assumption))
  rintro ⟨j, css⟩ H4 _ ⟨hle4, hj, hrc⟩
  dsimp only at hj hrc
  have hle : Le H H4 := (hle01.trans hle3).trans hle4
  have hTl : ((csysOf p).T.map Bt.TrB.mk).length = p.length := by rw [List.length_map]; exact rchT_len _ _ p 0
  have hcl : css.length = j := by have h1 := hrc.1; rw [List.length_take] at h1; omega
  refine ⟨fun h => ?_, fun h => ?_⟩
  · have hlt : j < p.length := by have := dt h; dsimp only at this; omega
    refine name_k p[j] fun b hbe => ?_
    have hbb : p[j]? = some b := by rw [hbe]; exact List.getElem?_eq_getElem hlt
    refine block_k (ha.up hle) hbb fun ad a5 n5 c5 q1 hh hr5 hs5 ht5 => ?_
    refine ⟨ad, ⟨by dsimp only; omega, by dsimp only; omega, q1⟩, ?_⟩
    refine ⟨_, hh, ?_⟩
    refine ⟨some ([1000000, 2, 4, 6], [0, 1, 2, 3, 4, 5, 6, 7, 8, 9]), by kernel_rfl, ?_⟩
    refine ctrans_spec hz5 (i := j) (b := b) (blk512 he hbb) (hrz.up ((hle1.trans hle3).trans hle4)) hr5 fun zt H5 hle5 hr6 => ?_
    refine ⟨⟨by show (css.length + 1) * 72 ≤ 140737488355328; omega, by show css.length + 1 ≤ 9223372036854775807; omega⟩, ?_⟩
    have hrc2 : RC (α := Bt.TrB) H5 (css ++ [Bt.trV zt]) (((csysOf p).T.map Bt.TrB.mk).take (j + 1)) := by
      rw [csysT_take hbb, ← ctrF_eq he hbb]; exact trb_snoc (RC.up hrc hle5) hr6
    refine ⟨⟨by omega, by omega⟩, (j + 1, css ++ [Bt.trV zt]), [(0, 0), (1, 1), (2, 2), (3, 3), (4, 7)], ?_, ⟨hle4.trans hle5, hlt, hrc2⟩, by dsimp only; omega⟩
    (repeat' (first|exact trivial|refine ⟨?_,?_⟩|exact rfl|assumption))
  · have hjl : j = p.length := by have := df h; dsimp only at this; omega
    rw [hjl, List.take_of_length_le (by omega)] at hrc
    intro v1 H5 hle5 hv1
    refine ints_k hv1 fun na nn nc ev1 hr1 => ?_
    subst ev1
    intro v3 H7 hle7 hv3
    refine of_row_k (α := Bt.TrB) hv3 (RC.up hrc (hle5.le.trans hle7.le)) fun ta tn tc ev3 hr3 => ?_
    subst ev3
    have h57 := hle5.le.trans hle7.le
    have hsys : Bt.SysR H7 (csysOf p) ⟨ea, en, ec, na, nn, nc, ia, ni, ic, ta, tn, tc⟩ :=
      ⟨hze.up (hle4.trans h57), hr1.up hle7.le, hzi.up (hle4.trans h57), hr3⟩
    have hK := hK ⟨ea, en, ec, na, nn, nc, ia, ni, ic, ta, tn, tc⟩ H7 (hle.trans h57) hsys
    have e2 : (csysOf p).m = n := hn.symm
    rw [Bt.sysA, Bt.sysV, e2] at hK
    exact hK
end Go.Proofs
end
section
namespace Go.Proofs
open Go.Sy
set_option maxRecDepth 20000
set_option maxHeartbeats 4000000
def reachI (p : Prog) : List (List Int) := (Bt.solveS (csysOf p)).map numB
def reachO (p : Prog) : List (List Int) := (Bt.outsS (csysOf p) (Bt.solveS (csysOf p))).map numB
end Go.Proofs
end
section
namespace Go.Proofs
open Go.Sy
set_option maxRecDepth 20000
set_option maxHeartbeats 4000000
theorem newAt_kI {P : Prop} {e : TypeId} {sz : Nat} {xs : List (List Value)} {H H2 : Hp} {x : Value} (h : NewAt e sz xs H x H2) (k : ∀ a n c, x = .slice a n c → P) : P := by
  rcases h with ⟨h1, _⟩ | ⟨g, cap, c, h1, _⟩
  · exact k _ _ _ h1
  · exact k _ _ _ h1
theorem newAt_upI {e : TypeId} {sz : Nat} {xs : List (List Value)} {H H2 H3 : Hp} {x : Value} (h : NewAt e sz xs H x H2) (hle : Le H2 H3) : NewAt e sz xs H x H3 := by
  rcases h with h1 | ⟨g, cap, c, h1, h2, h3, h4⟩
  · exact .inl h1
  · exact .inr ⟨g, cap, c, h1, h2, hle _ _ h3, h4⟩
theorem newAt_downI {e : TypeId} {sz : Nat} {xs : List (List Value)} {H H1 H2 : Hp} {x : Value} (h : NewAt e sz xs H1 x H2) (hle : Le H H1) : NewAt e sz xs H x H2 := by
  rcases h with h1 | ⟨g, cap, c, h1, h2, h3⟩
  · exact .inl h1
  · refine .inr ⟨g, cap, c, h1, ?_, h3⟩
    cases hg : H g with
    | none => rfl
    | some o => rw [hle _ _ hg] at h2; cases h2
structure FamN (H H' : Hp) (vs : List Value) (X : List (List Int)) : Prop where
  len : vs.length = X.length
  new : ∀ (i : Nat) (v : Value) (x : List Int), vs[i]? = some v → X[i]? = some x → NewAt 3 1 (iRows x) H v H'
theorem FamN.up {H H' H2 : Hp} {vs : List Value} {X : List (List Int)} (h : FamN H H' vs X) (hle : Le H' H2) : FamN H H2 vs X := ⟨h.len, fun i v b h1 h2 => newAt_upI (h.new i v b h1 h2) hle⟩
theorem FamN.snoc {H H1 H2 : Hp} {vs : List Value} {X : List (List Int)} (h : FamN H H1 vs X) (hle0 : Le H H1) {v : Value} {x : List Int} (hv : LeN 3 1 (iRows x) H1 v H2) : FamN H H2 (vs ++ [v]) (X ++ [x]) := by
  refine ⟨by rw [List.length_append, List.length_append, h.len]; rfl, fun i u c h1 h2 => ?_⟩
  rw [List.getElem?_append] at h1 h2
  have hl := h.len
  split at h1
  · rename_i hi
    rw [if_pos (by omega)] at h2
    exact newAt_upI (h.new i u c h1 h2) hv.le
  · rename_i hi
    rw [if_neg (by omega)] at h2
    have e1 : i - vs.length = 0 := by
      have := (List.getElem?_eq_some_iff.1 h1).1
      simp at this; omega
    rw [e1] at h1
    rw [← hl, e1] at h2
    cases h1
    cases h2
    exact newAt_downI hv.new hle0
abbrev headV (vs : List Value) : List (List Value) := vs.map fun v => [v]
theorem csets2_spec {p : Prog} (hp : p.length ≤ 12) (hl : ∀ b ∈ p, b.2.1.length ≤ 100000) (hc : stmtsN p ≤ 1000000) (hv : cnt p < 400000) {a : Option Addr} {n c : Nat} {H : Hp} {K : Value → Hp → Prop} (ha : RL H a n c p) (hT : TabH H)
    (hbad : checkE p ≠ 0 → ∀ H', Le H H' → K (.tuple #[.slice none 0 0, .slice none 0 0, .int .i64 (checkE p)]) H')
    (hK : checkE p = 0 → ∀ v vs a2 n2 c2 H', Le H H' → NewAt 28 1 (headV vs) H v H' → FamN H H' vs (reachI p) → (∀ u ∈ vs, ∀ g, v.ownBlock = some g → u.ownBlock ≠ some g) → K (.tuple #[v, .slice a2 n2 c2, .int .i64 0]) H') :
    Does Tryz.prog 16 [.agg #[.slice a n c]] H K := by
  have hn := ha.n_eq
  refine spec_of cx_ok cx_mix rfl Tryz.func16 Tryz.call16 Tryz.ntmps16 Tryz.results16 rfl rfl ?_
  refine csys_spec hp hl hc hv ha (fun he H1 hle1 => ?_) (fun he z H1 hle1 hs => ?_)
  · refine ⟨fun _ => ?_, (fun h => absurd (nf h) he)⟩
    exact hbad he _ hle1
  · have ho := csysOf_ok he
    have hA := Bt.solveS_ok ho
    refine ⟨fun h => absurd rfl (nt h), fun _ => ?_⟩
    refine Bt.lsolve_spec ho hs fun a1 n1 c1 k H2 hle2 hr2 => ?_
    refine Bt.louts_spec ho hA (hs.up hle2) hr2 fun a2 n2 c2 H3 hle3 hr3 => ?_
    have hle := (hle1.trans hle2).trans hle3
    have hm : (Bt.solveS (csysOf p)).length = p.length := hA.len
    have hn1 := hr2.n_eq
    rw [hm] at hn1
    have hn2 := hr3.n_eq
    rw [Bt.outsS, List.length_map, List.length_range] at hn2
    have hn2 : n2 = p.length := hn2
    have hr23 := hr2.up hle3
    have hlI : (reachI p).length = p.length := by rw [reachI, List.length_map, hm]
    have hlO : (reachO p).length = p.length := by rw [reachO, List.length_map, Bt.outsS, List.length_map, List.length_range]; rfl
    refine ⟨Nat × List Value × List (List Value), fun q => ⟨[(7, .v (.slice a1 n1 c1)), (10, .v (.slice a2 n2 c2)), (12, .own 2), (13, .own 3), (36, .v (.int .i64 n1)), (37, .v (.int .i64 q.1))],
        [(0, .cells 24 [.v (.slice a n c)]), (1, .cells 32 (vL (Bt.sysV (csysOf p) z))), (2, .row 28 1 (headV q.2.1)), (3, .row 28 1 q.2.2)], 4⟩,
      fun q H' => Le H3 H' ∧ q.1 ≤ p.length ∧ FamN H H' q.2.1 ((reachI p).take q.1) ∧ RC (α := List Int) H' q.2.2 ((reachO p).take q.1), fun q => p.length - q.1, ⟨(0, [], []), [(0, 0), (1, 1)], ?_, Le.refl H3, Nat.zero_le _, ⟨rfl, fun i v b h1 => (by cases h1)⟩, RC.nil⟩, ?_⟩
    · (repeat' (first|exact trivial|refine ⟨?_,?_⟩|exact rfl|assumption))
    rintro ⟨i, vs, cs2⟩ H4 _ ⟨hle4, hi, hrc1, hrc2⟩
    dsimp only at hi hrc1 hrc2
    have hvl : vs.length = i := by have h1 := hrc1.len; rw [List.length_take] at h1; omega
    have hc1 : (headV vs).length = i := by rw [List.length_map]; exact hvl
    have hc2 : cs2.length = i := by have h1 := hrc2.1; rw [List.length_take] at h1; omega
    refine ⟨fun h => ?_, fun h => ?_⟩
    · have hlt : i < p.length := by have := dt h; dsimp only at this; omega
      refine name_k (Bt.aAt (Bt.solveS (csysOf p)) i) fun x hxe => ?_
      have hxx : (Bt.solveS (csysOf p))[i]? = some x := by rw [hxe]; exact Bt.aAt_get hA hlt
      have hok := hA.ok x (List.mem_of_getElem? hxx)
      have hokT := Bt.tAt_ok ho i
      have hokA := Bt.bApp_ok hokT.1 hokT.2 hok
      refine name_k (Bt.bApp (Bt.tAt (csysOf p) i) x) fun y hye => ?_
      rw [← hye] at hokA
      have hyy : (Bt.outsS (csysOf p) (Bt.solveS (csysOf p)))[i]? = some y := by
        rw [Bt.outsS, List.getElem?_map, List.getElem?_range (show i < (csysOf p).m from hlt), hye, hxe]; rfl
      have gI : (reachI p)[i]? = some (numB x) := by rw [reachI, List.getElem?_map, hxx]; rfl
      have gO : (reachO p)[i]? = some (numB y) := by rw [reachO, List.getElem?_map, hyy]; rfl
      have hx5 := sites_len he
      have hs1 : x.length ≤ 100000 := by have h1 := hok.1; rw [sizeB] at h1; have h2 : (csysOf p).w = (sitesOf p).length := rfl; omega
      have hs2 : y.length ≤ 100000 := by have h1 := hokA.1; rw [sizeB] at h1; have h2 : (csysOf p).w = (sitesOf p).length := rfl; omega
      refine ⟨some ([1000000, 2, 3, 4, 6], [0, 1, 2, 3, 4, 8, 9, 10, 11, 12, 5, 6, 7, 13, 14, 15, 16, 17]), by kernel_rfl, ?_⟩
      refine list_k (hr23.up hle4) hxx fun ad a5 n5 c5 q1 hh hr5 => ?_
      refine ⟨ad, ⟨by dsimp only; omega, by dsimp only; omega, q1⟩, ?_⟩
      refine ⟨_, hh, ?_⟩
      refine list_k (hr3.up hle4) hyy fun ad2 a6 n6 c6 q2 hh2 hr6 => ?_
      refine ⟨ad2, ⟨by dsimp only; omega, by dsimp only; omega, q2⟩, ?_⟩
      refine ⟨_, hh2, ?_⟩
      have hT4 := hT.up (hle.trans hle4)
      refine list2_spec hs1 hr5 hT4 fun d1 d2 d3 H5 hle5 => ?_
      refine ⟨⟨by show ((headV vs).length + 1) * 24 ≤ 140737488355328; omega, by show (headV vs).length + 1 ≤ 9223372036854775807; omega⟩, ?_⟩
      refine list_spec hs2 (hr6.up hle5.le) (hT4.up hle5.le) fun f1 f2 f3 H6 hle6 hr8 => ?_
      refine ⟨⟨by show (cs2.length + 1) * 24 ≤ 140737488355328; omega, by show cs2.length + 1 ≤ 9223372036854775807; omega⟩, ?_⟩
      have h46 := hle5.le.trans hle6
      have k1 : FamN H H6 (vs ++ [.slice d1 d2 d3]) ((reachI p).take (i + 1)) := by
        rw [List.take_add_one, gI]
        exact (hrc1.snoc (hle.trans hle4) hle5).up hle6
      have e1 : headV vs ++ [[.slice d1 d2 d3]] = headV (vs ++ [.slice d1 d2 d3]) := by rw [headV, headV, List.map_append]; rfl
      have k2 : RC (α := List Int) H6 (cs2 ++ [[.slice f1 f2 f3]]) ((reachO p).take (i + 1)) := by
        rw [List.take_add_one, gO]
        exact rc_snocI (RC.up hrc2 h46) hr8
      refine ⟨⟨by dsimp only; omega, by dsimp only; omega⟩, (i + 1, vs ++ [.slice d1 d2 d3], cs2 ++ [[.slice f1 f2 f3]]), [(0, 0), (1, 1), (2, 5), (3, 7)], ?_, ⟨hle4.trans h46, hlt, k1, k2⟩, by dsimp only; omega⟩
      (repeat' (first|exact trivial|refine ⟨?_,?_⟩|exact rfl|assumption))
    · have hil : i = p.length := by have := df h; dsimp only at this; omega
      rw [hil, List.take_of_length_le (by omega)] at hrc1
      rw [hil, List.take_of_length_le (by omega)] at hrc2
      have hdis : ∀ u ∈ vs, ∀ g, u.ownBlock = some g → ∃ o, H4 g = some o := fun u hu g hg => by
        obtain ⟨j, hj⟩ := List.getElem?_of_mem hu
        have hjl := (List.getElem?_eq_some_iff.1 hj).1
        have hl := hrc1.len
        exact ((hrc1.new j u _ hj (List.getElem?_eq_getElem (by omega))).fresh hg).2
      intro v1 H5 hle5 hv1
      have hle5 : LeN 28 1 (headV vs) H4 v1 H5 := hle5
      intro v3 H7 hle7 hv3
      refine of_row_k (α := List Int) hv3 (RC.up hrc2 (hle5.le.trans hle7.le)) fun f1 f2 f3 e3 hr2 => ?_
      subst e3
      refine hK he v1 vs _ _ _ H7 ((hle.trans hle4).trans (hle5.le.trans hle7.le)) (newAt_upI (newAt_downI hle5.new (hle.trans hle4)) hle7.le) (hrc1.up (hle5.le.trans hle7.le)) fun u hu g hg hg' => ?_
      obtain ⟨o, ho⟩ := hdis u hu g hg'
      rw [(hle5.new.fresh hg).1] at ho
      cases ho
def famOf (vs : List Value) (X : List (List Int)) (i : Nat) : List (Value × List (List Value)) := match vs[i]? with
  | some u => [(u, iRows (X[i]?.getD []))]
  | none => []
theorem famOf_mem {vs : List Value} {X : List (List Int)} {i : Nat} {q : Value × List (List Value)} (h : q ∈ famOf vs X i) : vs[i]? = some q.1 ∧ q.2 = iRows (X[i]?.getD []) := by
  unfold famOf at h
  split at h
  · rename_i u hu
    rw [List.mem_singleton] at h
    subst h
    exact ⟨hu, rfl⟩
  · cases h
theorem headV_ok (vs : List Value) (h : ∀ v ∈ vs, v.oneCell' = true) : ∀ y ∈ headV vs, y.length = 1 ∧ ∀ u ∈ y, u.oneCell' = true := fun y hy => by
  obtain ⟨v, hv, rfl⟩ := List.mem_map.1 hy
  exact ⟨rfl, fun u hu => by rw [List.mem_singleton] at hu; rw [hu]; exact h v hv⟩
theorem iRows_ok (l : List Int) : ∀ y ∈ iRows l, y.length = 1 ∧ ∀ u ∈ y, u.oneCell' = true := fun y hy => by
  obtain ⟨v, hv, rfl⟩ := List.mem_map.1 hy
  exact ⟨rfl, fun u hu => by rw [List.mem_singleton] at hu; rw [hu]; rfl⟩
theorem csetsG_spec {p : Prog} (hp : p.length ≤ 12) (hl : ∀ b ∈ p, b.2.1.length ≤ 100000) (hc : stmtsN p ≤ 1000000) (hv : cnt p < 400000) (i : Nat) {a : Option Addr} {n c : Nat} {H : Hp} {K : SV → St → Hp → Prop} (ha : RL H a n c p) (hT : TabH H)
    (hbad : checkE p ≠ 0 → ∀ H', Le H H' → K (.tup [.v (.slice none 0 0), .v (.slice none 0 0), .v (.int .i64 (checkE p))]) ⟨[], [(0, .row 28 1 []), (1, .fam 3 1 [])], 2⟩ H')
    (hK : checkE p = 0 → ∀ vs a2 n2 c2 H', Le H H' → vs.length = p.length → K (.tup [.own 0, .v (.slice a2 n2 c2), .v (.int .i64 0)]) ⟨[], [(0, .row 28 1 (headV vs)), (1, .fam 3 1 (famOf vs (reachI p) i))], 2⟩ H') :
    DoesG Tryz.prog 16 [.agg [.v (.slice a n c)]] [] 0 H K := by
  refine doesG_thawB (args := [.agg #[.slice a n c]]) (fun _ => rfl) (csets2_spec hp hl hc hv ha hT (K := fun v H' => (checkE p ≠ 0 ∧ v = .tuple #[.slice none 0 0, .slice none 0 0, .int .i64 (checkE p)]) ∨
    (checkE p = 0 ∧ ∃ h vs a2 n2 c2, v = .tuple #[h, .slice a2 n2 c2, .int .i64 0] ∧ NewAt 28 1 (headV vs) H h H' ∧ FamN H H' vs (reachI p) ∧ (∀ u ∈ vs, ∀ g, h.ownBlock = some g → u.ownBlock ≠ some g)))
    (fun he H' _ => .inl ⟨he, rfl⟩) (fun he v vs a2 n2 c2 H' _ h1 h2 h3 => .inr ⟨he, v, vs, a2, n2, c2, rfl, h1, h2, h3⟩)) ?_
  rintro v H2 hle (⟨he, rfl⟩ | ⟨he, h, vs, a2, n2, c2, rfl, h1, h2, h3⟩)
  · exact ⟨28, 1, [], .slice none 0 0, 3, 1, [], .tup [.v (.slice none 0 0), .v (.slice none 0 0), .v (.int .i64 (checkE p))], fun _ _ => rfl, rfl, .inl ⟨rfl, rfl⟩, (fun y hy => by cases hy), (fun q hq => by cases hq), List.Pairwise.nil, (fun q hq => by cases hq), fun H' hle' _ => hbad he H' hle'⟩
  · have hlen : vs.length = p.length := by
      rw [h2.len, reachI, List.length_map, (Bt.solveS_ok (csysOf_ok he)).len]; rfl
    have hone : ∀ v ∈ vs, v.oneCell' = true := fun v hv => by
      obtain ⟨j, hj⟩ := List.getElem?_of_mem hv
      have hjl := (List.getElem?_eq_some_iff.1 hj).1
      have hl := h2.len
      exact newAt_kI (h2.new j v _ hj (List.getElem?_eq_getElem (by omega))) fun a n c e => by rw [e]; rfl
    refine ⟨28, 1, headV vs, h, 3, 1, famOf vs (reachI p) i, .tup [.own 0, .v (.slice a2 n2 c2), .v (.int .i64 0)], fun ρ hρ => ?_, rfl, h1, headV_ok vs hone, fun q hq => ?_, ?_, fun q hq g hg => ?_, fun H' hle' _ => hK he vs a2 n2 c2 H' hle' hlen⟩
    · show Value.tuple #[ρ.val 0, _, _] = _
      rw [hρ]; rfl
    · obtain ⟨g1, g2⟩ := famOf_mem hq
      have hil := (List.getElem?_eq_some_iff.1 g1).1
      have hl := h2.len
      have hx : (reachI p)[i]? = some ((reachI p)[i]'(by omega)) := List.getElem?_eq_getElem (by omega)
      rw [g2]
      refine ⟨?_, iRows_ok _⟩
      rw [hx]
      exact h2.new i q.1 _ g1 hx
    · unfold famOf
      split
      · exact List.pairwise_singleton _ _
      · exact List.Pairwise.nil
    · exact h3 q.1 (List.mem_of_getElem? (famOf_mem hq).1) g hg
end Go.Proofs
end
section
namespace Go.Proofs
open Go.Sy
open Go.RowKit (Below)
set_option maxRecDepth 20000
set_option maxHeartbeats 4000000
abbrev bOf (az : Option Addr) (nz cz : Nat) (v : Bs8) : List (Nat × Bx) := [(1, .cells 76 [.v (.slice az nz cz)]), (2, .cells 9 [.v (.string (bs v))])]
abbrev bOf0 (az : Option Addr) (nz cz : Nat) (v : Bs8) : List (Nat × Bx) := [(0, .cells 76 [.v (.slice az nz cz)]), (1, .cells 9 [.v (.string (bs v))])]
def othV (Z : List Site) (v : Bs8) (x : Int) : Bool := !decide ((Z[x.toNat]?.getD siteN).2.2.l = v)
theorem of1_spec {Z : List Site} {v : Bs8} {x : Int} (hx : 0 ≤ x ∧ x < (Z.length : Nat)) {az : Option Addr} {nz cz : Nat} {H : Hp} {K : SV → St → Hp → Prop} (ha : RL (α := Site) H az nz cz Z) (hK : K (.v (.bool (othV Z v x))) ⟨[], bOf0 az nz cz v, 2⟩ H) :
    DoesG Tryz.prog 68 [.v (.int .i64 x), .ptr 0 0, .ptr 1 0] (bOf0 az nz cz v) 2 H K := by
  have hn := ha.n_eq
  obtain ⟨k, rfl⟩ : ∃ k : Nat, x = (k : Int) := ⟨x.toNat, by omega⟩
  have hkl : k < Z.length := by omega
  refine name_k Z[k] fun s hse => ?_
  have hss : Z[k]? = some s := by rw [hse]; exact List.getElem?_eq_getElem hkl
  have hoth : othV Z v (k : Int) = !decide (s.2.2.l = v) := by rw [othV, Int.toNat_natCast, hss, Option.getD_some]
  refine spec_ofG cx_ok cx_mix Tryz.func68 Tryz.call68 Tryz.ntmps68 Tryz.results68 rfl rfl ?_
  refine ⟨some ([], [0, 1, 2, 3, 4, 5, 6, 7]), by kernel_rfl, ?_⟩
  refine site_k ha hss fun ad q1 hh _ => ?_
  refine ⟨ad, ⟨by omega, by omega, q1⟩, ?_⟩
  refine ⟨_, hh, ?_⟩
  have e1 : SV.v (Value.bool (!decide (sl (bs s.2.2.l) = sl (bs v)))) = SV.v (Value.bool (othV Z v (k : Int))) := by
    rw [hoth]
    have e2 : decide (sl (bs s.2.2.l) = sl (bs v)) = decide (s.2.2.l = v) := decide_eq_decide.2 (by rw [sl_bs, sl_bs])
    rw [e2]
  exact ⟨.v (.bool (othV Z v (k : Int))), bOf0 az nz cz v, 2, [(0, 0), (1, 1)], by (repeat' (first|exact trivial|refine ⟨?_,?_⟩|exact rfl|assumption)), hK⟩
def idxO (Z : List Site) (v : Bs8) : List Int → Nat → Int
  | [], _ => -1
  | x :: r, i => if othV Z v x = true then (i : Int) else idxO Z v r (i + 1)
theorem idxfO_spec {Z : List Site} {v : Bs8} {X : List Int} (hX : ∀ x ∈ X, 0 ≤ x ∧ x < (Z.length : Nat)) (hXl : X.length ≤ 100000) {az : Option Addr} {nz cz : Nat} {H : Hp} {K : SV → St → Hp → Prop} (ha : RL (α := Site) H az nz cz Z) (hK : K (.v (.int .i64 (idxO Z v X 0))) ⟨[], (0, .row 3 1 (iRows X)) :: bOf az nz cz v, 3⟩ H) :
    DoesG Tryz.prog 120 [.own 0, .fn 68 [.ptr 1 0, .ptr 2 0]] ((0, .row 3 1 (iRows X)) :: bOf az nz cz v) 3 H K := by
  have hil : (iRows X).length = X.length := List.length_map _
  refine spec_ofG cx_ok cx_mix Tryz.func120 Tryz.call120 Tryz.ntmps120 Tryz.results120 rfl rfl ?_
  refine ⟨Nat, fun j => ⟨[(0, .own 0), (1, .fn 68 [.ptr 1 0, .ptr 2 0]), (7, .v (.int .i64 (X.length : Nat))), (8, .v (.int .i64 j))], (0, .row 3 1 (iRows X)) :: bOf az nz cz v, 3⟩,
    fun j H' => H' = H ∧ j ≤ X.length ∧ idxO Z v X 0 = idxO Z v (X.drop j) j, fun j => X.length - j, ⟨0, [(0, 0), (1, 1), (2, 2)], ?_, rfl, Nat.zero_le _, rfl⟩, ?_⟩
  · have e1 : SV.v (Value.int .i64 ((iRows X).length : Nat)) = SV.v (Value.int .i64 (X.length : Nat)) := by rw [hil]
    (repeat' (first|exact trivial|refine ⟨?_,?_⟩|exact rfl|assumption))
  rintro j H1 _ ⟨rfl, hj, hx⟩
  refine ⟨fun h => ?_, fun h => ?_⟩
  · have hlt : j < X.length := by have := dt h; omega
    refine name_k X[j] fun x hxe => ?_
    have hxx : X[j]? = some x := by rw [hxe]; exact List.getElem?_eq_getElem hlt
    have hd : X.drop j = x :: X.drop (j + 1) := by rw [List.drop_eq_getElem_cons hlt, hxe]
    rw [hd, idxO] at hx
    have hget : (iRows X)[j]? = some [.int .i64 x] := by rw [iRows, List.getElem?_map, hxx]; rfl
    refine ⟨⟨by omega, by omega⟩, ?_⟩
    refine ⟨_, hget, ?_⟩
    refine ⟨[1, 2], rfl, of1_spec (hX x (List.mem_of_getElem? hxx)) ha ?_⟩
    refine ⟨fun h => ?_, fun h => ?_⟩
    · rw [if_pos h] at hx
      rw [hx] at hK
      exact ⟨.v (.int .i64 (j : Int)), (0, .row 3 1 (iRows X)) :: bOf az nz cz v, 3, [(0, 0), (1, 1), (2, 2)], by (repeat' (first|exact trivial|refine ⟨?_,?_⟩|exact rfl|assumption)), hK⟩
    · rw [if_neg (by rw [h]; decide)] at hx
      refine ⟨⟨by omega, by omega⟩, j + 1, [(0, 0), (1, 1), (2, 2)], ?_, ⟨rfl, hlt, hx⟩, by dsimp only; omega⟩
      (repeat' (first|exact trivial|refine ⟨?_,?_⟩|exact rfl|assumption))
  · have hjl : j = X.length := by have := df h; omega
    rw [hjl, List.drop_length, idxO] at hx
    rw [hx] at hK
    exact ⟨.v (.int .i64 (-1)), (0, .row 3 1 (iRows X)) :: bOf az nz cz v, 3, [(0, 0), (1, 1), (2, 2)], by (repeat' (first|exact trivial|refine ⟨?_,?_⟩|exact rfl|assumption)), hK⟩
theorem idxO_spec {Z : List Site} {v : Bs8} : ∀ (X : List Int) (i : Nat), (idxO Z v X i = -1 ∧ pickV Z v X = X) ∨ ∃ m x, idxO Z v X i = ((i + m : Nat) : Int) ∧ X[m]? = some x ∧ othV Z v x = true ∧ pickV Z v (X.take m) = X.take m
  | [], _ => .inl ⟨rfl, rfl⟩
  | x :: r, i => by
    by_cases h : othV Z v x = true
    · exact .inr ⟨0, x, by rw [idxO, if_pos h]; rfl, rfl, h, rfl⟩
    · have hk : decide ((Z[x.toNat]?.getD siteN).2.2.l = v) = true := by
        unfold othV at h
        simpa using h
      rcases idxO_spec (Z := Z) (v := v) r (i + 1) with ⟨h1, h2⟩ | ⟨m, y, h1, h2, h3, h4⟩
      · refine .inl ⟨by rw [idxO, if_neg h]; exact h1, ?_⟩
        rw [pickV, List.filter_cons, if_pos hk]
        rw [pickV] at h2
        rw [h2]
      · refine .inr ⟨m + 1, y, by rw [idxO, if_neg h, h1]; congr 1; omega, h2, h3, ?_⟩
        rw [List.take_succ_cons, pickV, List.filter_cons, if_pos hk]
        rw [pickV] at h4
        rw [h4]
theorem delf_spec {Z : List Site} {v : Bs8} {X : List Int} (hX : ∀ x ∈ X, 0 ≤ x ∧ x < (Z.length : Nat)) (hXl : X.length ≤ 100000) {az : Option Addr} {nz cz : Nat} {H : Hp} {K : SV → St → Hp → Prop} (ha : RL (α := Site) H az nz cz Z)
    (hK : K (.own 3) ⟨[], (0, .dead) :: bOf az nz cz v ++ [(3, .row 3 1 (iRows (pickV Z v X)))], 4⟩ H) :
    DoesG Tryz.prog 67 [.own 0, .fn 68 [.ptr 1 0, .ptr 2 0]] ((0, .row 3 1 (iRows X)) :: bOf az nz cz v) 3 H K := by
  refine spec_ofG cx_ok cx_mix Tryz.func67 Tryz.call67 Tryz.ntmps67 Tryz.results67 rfl rfl ?_
  refine ⟨[0, 1, 2], rfl, idxfO_spec hX hXl ha ?_⟩
  rcases idxO_spec (Z := Z) (v := v) X 0 with ⟨h1, h2⟩ | ⟨m, x0, h1, hm, ho, hpk⟩
  · rw [h1]
    refine ⟨fun _ => ?_, fun h => absurd (df h) (by decide)⟩
    rw [h2] at hK
    exact ⟨.own 3, (0, .dead) :: bOf az nz cz v ++ [(3, .row 3 1 (iRows X))], 4, [(1, 1), (2, 2), (3, 0)], by (repeat' (first|exact trivial|refine ⟨?_,?_⟩|exact rfl|assumption)), hK⟩
  rw [h1, Nat.zero_add]
  have hml := (List.getElem?_eq_some_iff.1 hm).1
  refine ⟨fun h => absurd (dt h) (by omega), fun _ => ?_⟩
  refine ⟨⟨by omega, by omega⟩, ?_⟩
  refine ⟨Nat × Nat × List Int, fun q => ⟨[(0, .own 0), (1, .fn 68 [.ptr 1 0, .ptr 2 0]), (5, .v (.int .i64 q.1)), (6, .v (.int .i64 q.2.1))], (0, .row 3 1 (iRows q.2.2)) :: bOf az nz cz v, 3⟩,
    fun q H' => H' = H ∧ q.1 < q.2.1 ∧ q.2.1 ≤ X.length ∧ q.2.2.length = X.length ∧ q.2.2.take q.1 = pickV Z v (X.take q.2.1) ∧ q.2.2.drop q.2.1 = X.drop q.2.1, fun q => X.length - q.2.1, ⟨(m, m + 1, X), [(0, 0), (1, 1), (2, 2)], ?_, rfl, Nat.lt_succ_self _, hml, rfl, ?_, rfl⟩, ?_⟩
  · (repeat' (first|exact trivial|refine ⟨?_,?_⟩|exact rfl|assumption))
  · dsimp only
    have hno : decide ((Z[x0.toNat]?.getD siteN).2.2.l = v) = false := by
      unfold othV at ho
      simpa using ho
    rw [pickV_take hm, if_neg (by rw [hno]; decide), List.append_nil, hpk]
  rintro ⟨i, j, R⟩ H1 _ ⟨rfl, hij, hj, hRl, hRt, hRd⟩
  dsimp only at hij hj hRl hRt hRd
  have hil : (iRows R).length = R.length := List.length_map _
  refine ⟨fun h => ?_, fun h => ?_⟩
  · have hlt : j < X.length := by have := dt h; dsimp only at this; omega
    refine name_k X[j] fun x hxe => ?_
    have hxx : X[j]? = some x := by rw [hxe]; exact List.getElem?_eq_getElem hlt
    have hRx : R[j]? = some x := by
      have h3 : (R.drop j)[0]? = (X.drop j)[0]? := by rw [hRd]
      rw [List.getElem?_drop, List.getElem?_drop, Nat.add_zero, hxx] at h3
      exact h3
    have hget : (iRows R)[j]? = some [.int .i64 x] := by rw [iRows, List.getElem?_map, hRx]; rfl
    have hpt := pickV_take (Z := Z) (v := v) hxx
    refine ⟨⟨by dsimp only; omega, by dsimp only; omega⟩, ?_⟩
    refine ⟨_, hget, ?_⟩
    refine ⟨[1, 2], rfl, of1_spec (hX x (List.mem_of_getElem? hxx)) ha ?_⟩
    refine ⟨fun h => ?_, fun h => ?_⟩
    · have hk : decide ((Z[x.toNat]?.getD siteN).2.2.l = v) = true := by
        unfold othV at h
        simpa using h
      rw [if_pos hk] at hpt
      have hRi : R.length = X.length := hRl
      have eset : (iRows R).set i [.int .i64 x] = iRows (R.set i x) := by rw [iRows, iRows, List.map_set]
      refine ⟨⟨by dsimp only; omega, by dsimp only; omega⟩, ?_⟩
      have hiR : i < R.length := by omega
      refine ⟨[.int .i64 R[i]], (show (iRows R)[i]? = _ by rw [iRows, List.getElem?_map, List.getElem?_eq_getElem hiR]; rfl), ?_⟩
      refine ⟨⟨by dsimp only; omega, by dsimp only; omega⟩, ?_⟩
      refine ⟨⟨by dsimp only; omega, by dsimp only; omega⟩, (i + 1, j + 1, R.set i x), [(0, 0), (1, 1), (2, 2)], ?_, ⟨rfl, by dsimp only; omega, hlt, by dsimp only; rw [List.length_set]; exact hRl, ?_, ?_⟩, by dsimp only; omega⟩
      · (repeat' (first|exact trivial|refine ⟨?_,?_⟩|exact rfl|assumption))
      · dsimp only
        rw [hpt, ← hRt, List.take_add_one, List.getElem?_set_self (by omega), Option.toList_some, List.take_set_of_le (Nat.le_refl _)]
      · dsimp only
        rw [List.drop_set_of_lt (by omega)]
        have h3 : (R.drop j).drop 1 = (X.drop j).drop 1 := by rw [hRd]
        rw [List.drop_drop, List.drop_drop] at h3
        exact h3
    · have hk : decide ((Z[x.toNat]?.getD siteN).2.2.l = v) = false := by
        unfold othV at h
        simpa using h
      refine ⟨⟨by dsimp only; omega, by dsimp only; omega⟩, (i, j + 1, R), [(0, 0), (1, 1), (2, 2)], ?_, ⟨rfl, by dsimp only; omega, hlt, hRl, ?_, ?_⟩, by dsimp only; omega⟩
      · (repeat' (first|exact trivial|refine ⟨?_,?_⟩|exact rfl|assumption))
      · dsimp only
        rw [hpt, if_neg (by rw [hk]; decide), List.append_nil, hRt]
      · dsimp only
        have h3 : (R.drop j).drop 1 = (X.drop j).drop 1 := by rw [hRd]
        rw [List.drop_drop, List.drop_drop] at h3
        exact h3
  · have hjl : j = X.length := by have := df h; dsimp only at this; omega
    subst hjl
    rw [List.take_length] at hRt
    refine .inr ?_
    refine ⟨⟨by dsimp only; omega, by dsimp only; omega⟩, ?_⟩
    refine ⟨by dsimp only; omega, ?_⟩
    refine .inl ?_
    have efin : (((iRows R).take i ++ List.replicate ((iRows R).length - i) [Value.int .i64 0] ++ (iRows R).drop (i + ((iRows R).length - i))).take i) = iRows (pickV Z v X) := by
      rw [List.append_assoc, List.take_append_of_le_length (by rw [List.length_take]; omega), List.take_take, Nat.min_self, ← hRt, iRows, iRows, List.map_take]
    refine ⟨⟨by dsimp only; omega, ?_⟩, ?_⟩
    · show ((i : Nat) : Int) ≤ ((((iRows R).take i ++ List.replicate ((iRows R).length - i) [Value.int .i64 0] ++ (iRows R).drop (i + ((iRows R).length - i))).length : Nat) : Int)
      rw [List.length_append, List.length_append, List.length_take]
      omega
    exact ⟨.own 3, (0, .dead) :: bOf az nz cz v ++ [(3, .row 3 1 (iRows (pickV Z v X)))], 4, [(1, 1), (2, 2), (3, 3)], by (repeat' (first|exact trivial|refine ⟨?_,?_⟩|exact rfl|assumption)), hK⟩
theorem doesG_fam1 {P : Program} {f g : FuncId} {e : TypeId} {sz : Nat} {xs ys : List (List Value)} {T1 T2 : TypeId} {v1 v2 u : Value} {H : Hp} {K : SV → St → Hp → Prop}
    (hd : ∀ K' : SV → St → Hp → Prop, K' (.own 3) ⟨[], [(0, .dead), (1, .cells T1 [.v v1]), (2, .cells T2 [.v v2]), (3, .row e sz ys)], 4⟩ H → DoesG P f [.own 0, .fn g [.ptr 1 0, .ptr 2 0]] [(0, .row e sz xs), (1, .cells T1 [.v v1]), (2, .cells T2 [.v v2])] 3 H K')
    (hK : K (.own 3) ⟨[], [(0, .dead), (1, .cells T1 [.v v1]), (2, .cells T2 [.v v2]), (3, .row e sz ys)], 4⟩ H) :
    DoesG P f [.v u, .fn g [.ptr 1 0, .ptr 2 0]] [(0, .fam e sz [(u, xs)]), (1, .cells T1 [.v v1]), (2, .cells T2 [.v v2])] 3 H K := by
  have hd0 := hd (fun x t H1 => x = .own 3 ∧ t = ⟨[], [(0, .dead), (1, .cells T1 [.v v1]), (2, .cells T2 [.v v2]), (3, .row e sz ys)], 4⟩ ∧ H1 = H) ⟨rfl, rfl, rfl⟩
  refine ⟨hd0.1, fun w ρ hm hl => ?_⟩
  have hk0 := (hm.ok 0 _ rfl).2.1
  have hk1 := hm.ok 1 _ rfl
  have hk2 := hm.ok 2 _ rfl
  have hu := hk0.1 (u, xs) (List.mem_singleton.2 rfl)
  have hsh : ∃ a n c, u = .slice a n c := by
    rcases hu.1.2 with ⟨h1, _⟩ | ⟨g', cap, c, h1, _⟩
    · exact ⟨_, _, _, h1⟩
    · exact ⟨_, _, _, h1⟩
  obtain ⟨a, n, c, hue⟩ := hsh
  obtain ⟨ρ', hρ'⟩ : ∃ ρ' : Rho, ρ' = ⟨fun k => if k = 0 then u.ownBlock.getD 0 else ρ.b k, fun k => if k = 0 then (a, n, c) else ρ.sl k⟩ := ⟨_, rfl⟩
  have hv0 : ρ'.val 0 = u := by rw [hρ', hue]; rfl
  have hb1 : ρ'.b 1 = ρ.b 1 := by rw [hρ']; rfl
  have hb2 : ρ'.b 2 = ρ.b 2 := by rw [hρ']; rfl
  have hlk : ∀ {k : Nat} {b : Bx}, lk [(0, Bx.row e sz xs), (1, .cells T1 [.v v1]), (2, .cells T2 [.v v2])] k = some b → (k = 0 ∧ b = .row e sz xs) ∨ (k = 1 ∧ b = .cells T1 [.v v1]) ∨ (k = 2 ∧ b = .cells T2 [.v v2]) := fun {k b} h => by
    simp only [lk_cons] at h
    split at h
    · rename_i e0; cases h; exact .inl ⟨e0.symm, rfl⟩
    · split at h
      · rename_i e0; cases h; exact .inr (.inl ⟨e0.symm, rfl⟩)
      · split at h
        · rename_i e0; cases h; exact .inr (.inr ⟨e0.symm, rfl⟩)
        · cases h
  have hown : ∀ {k : Nat} {b : Bx} {g : Nat}, lk [(0, Bx.row e sz xs), (1, .cells T1 [.v v1]), (2, .cells T2 [.v v2])] k = some b → Owns ρ' k b g → ∃ b', lk [(0, Bx.fam e sz [(u, xs)]), (1, .cells T1 [.v v1]), (2, .cells T2 [.v v2])] k = some b' ∧ Owns ρ k b' g := fun {k b g} h ho => by
    rcases hlk h with ⟨rfl, rfl⟩ | ⟨rfl, rfl⟩ | ⟨rfl, rfl⟩
    · have ho : (ρ'.val 0).ownBlock = some g := ho
      rw [hv0] at ho
      exact ⟨_, rfl, (u, xs), List.mem_singleton.2 rfl, ho⟩
    · have ho : g = ρ'.b 1 := ho
      exact ⟨_, rfl, by rw [hb1] at ho; exact ho⟩
    · have ho : g = ρ'.b 2 := ho
      exact ⟨_, rfl, by rw [hb2] at ho; exact ho⟩
  have hE : ∀ g, (∃ k b, lk [(0, Bx.fam e sz [(u, xs)]), (1, .cells T1 [.v v1]), (2, .cells T2 [.v v2])] k = some b ∧ Owns ρ k b g) ↔ (∃ k b, lk [(0, Bx.row e sz xs), (1, .cells T1 [.v v1]), (2, .cells T2 [.v v2])] k = some b ∧ Owns ρ' k b g) := fun g => by
    constructor
    · rintro ⟨k, b, h, ho⟩
      simp only [lk_cons] at h
      split at h
      · cases h
        obtain ⟨q, hq, ho⟩ := ho
        rw [List.mem_singleton] at hq
        subst hq
        exact ⟨0, _, rfl, by show (ρ'.val 0).ownBlock = some g; rw [hv0]; exact ho⟩
      · split at h
        · rename_i e1
          cases h
          subst e1
          have ho : g = ρ.b 1 := ho
          exact ⟨1, _, rfl, by show g = ρ'.b 1; rw [hb1]; exact ho⟩
        · split at h
          · rename_i e2
            cases h
            subst e2
            have ho : g = ρ.b 2 := ho
            exact ⟨2, _, rfl, by show g = ρ'.b 2; rw [hb2]; exact ho⟩
          · cases h
    · rintro ⟨k, b, h, ho⟩
      obtain ⟨b', h1, h2⟩ := hown h ho
      exact ⟨k, b', h1, h2⟩
  have hm' : Mem (Bs.lent w ρ' [(0, .row e sz xs), (1, .cells T1 [.v v1]), (2, .cells T2 [.v v2])] 3 H) ρ' [(0, .row e sz xs), (1, .cells T1 [.v v1]), (2, .cells T2 [.v v2])] 3 H w :=
    { os := rfl, tape := rfl, output := OD.refl _, size := Nat.le_refl _, frame := fun _ _ _ => rfl, base := Nat.le_refl _, agree := fun _ _ => ⟨rfl, rfl⟩, hp := hm.hp, hle := Le.refl _, hnew := fun _ h _ _ => h
      ok := fun k b h => by
        rcases hlk h with ⟨rfl, rfl⟩ | ⟨rfl, rfl⟩ | ⟨rfl, rfl⟩
        · refine ⟨by decide, ⟨by rw [hv0]; exact hu.1, hu.2, fun g hg => ?_⟩, rfl⟩
          rw [hv0] at hg
          rw [hρ']
          show u.ownBlock.getD 0 = g
          rw [hg]; rfl
        · refine ⟨by decide, ?_, hk1.2.2⟩
          have h1 := hk1.2.1
          simp only [BoxOK, gas, ga] at h1 ⊢
          rw [hb1]; exact h1
        · refine ⟨by decide, ?_, hk2.2.2⟩
          have h1 := hk2.2.1
          simp only [BoxOK, gas, ga] at h1 ⊢
          rw [hb2]; exact h1
      own := fun k b g h ho => by
        obtain ⟨b', h1, h2⟩ := hown h ho
        exact ⟨(hm.own k b' g h1 h2).1, .inr ⟨k, b, h, ho⟩⟩
      disj := fun k k' b b' g h h' ho ho' => by
        obtain ⟨c1, h1, h2⟩ := hown h ho
        obtain ⟨c2, h3, h4⟩ := hown h' ho'
        exact hm.disj k k' c1 c2 g h1 h3 h2 h4 }
  have hl' : SV.lts 3 [.own 0, .fn g [.ptr 1 0, .ptr 2 0]] = true := rfl
  have hcall := hd0.2 w ρ' hm' hl'
  have hargs : gas ρ' [.own 0, .fn g [.ptr 1 0, .ptr 2 0]] = gas ρ [.v u, .fn g [.ptr 1 0, .ptr 2 0]] := by
    simp only [gas, ga, hv0, hb1, hb2]
  rw [hargs] at hcall
  refine hcall.mono ?_
  rintro ev w' ⟨x, t, H1, ρ1, he, ⟨rfl, rfl, rfl⟩, hlt, hm1⟩
  obtain ⟨ρ2, hρ2⟩ : ∃ ρ2 : Rho, ρ2 = ⟨fun k => if k = 0 then ρ.b 0 else ρ1.b k, fun k => if k = 0 then ρ.sl 0 else ρ1.sl k⟩ := ⟨_, rfl⟩
  have hb : ∀ k, k ≠ 0 → ρ2.b k = ρ1.b k ∧ ρ2.sl k = ρ1.sl k := fun k hk => by rw [hρ2]; exact ⟨if_neg hk, if_neg hk⟩
  have hv3 : ρ2.val 3 = ρ1.val 3 := by unfold Rho.val; rw [(hb 3 (by decide)).2]
  have hlk2 : ∀ {k : Nat} {b : Bx}, lk [(0, Bx.dead), (1, .cells T1 [.v v1]), (2, .cells T2 [.v v2]), (3, .row e sz ys)] k = some b → b = .dead ∨ (k ≠ 0 ∧ ((k = 1 ∧ b = .cells T1 [.v v1]) ∨ (k = 2 ∧ b = .cells T2 [.v v2]) ∨ (k = 3 ∧ b = .row e sz ys))) := fun {k b} h => by
    simp only [lk_cons] at h
    split at h
    · cases h; exact .inl rfl
    · rename_i n0
      refine .inr ⟨fun e => n0 e.symm, ?_⟩
      split at h
      · rename_i e0; cases h; exact .inl ⟨e0.symm, rfl⟩
      · split at h
        · rename_i e0; cases h; exact .inr (.inl ⟨e0.symm, rfl⟩)
        · split at h
          · rename_i e0; cases h; exact .inr (.inr ⟨e0.symm, rfl⟩)
          · cases h
  have how : ∀ {k : Nat} {b : Bx} {g : Nat}, lk [(0, Bx.dead), (1, .cells T1 [.v v1]), (2, .cells T2 [.v v2]), (3, .row e sz ys)] k = some b → Owns ρ2 k b g → Owns ρ1 k b g := fun {k b g} h ho => by
    rcases hlk2 h with rfl | ⟨_, ⟨rfl, rfl⟩ | ⟨rfl, rfl⟩ | ⟨rfl, rfl⟩⟩
    · exact ho
    · have ho : g = ρ2.b 1 := ho
      show g = ρ1.b 1
      rw [← (hb 1 (by decide)).1]; exact ho
    · have ho : g = ρ2.b 2 := ho
      show g = ρ1.b 2
      rw [← (hb 2 (by decide)).1]; exact ho
    · have ho : (ρ2.val 3).ownBlock = some g := ho
      show (ρ1.val 3).ownBlock = some g
      rw [← hv3]; exact ho
  refine ⟨.own 3, _, _, ρ2, ?_, hK, rfl, ?_⟩
  · rw [he, ga, ga, hv3]
  · exact
    { os := hm1.os, tape := hm1.tape, output := hm1.output, size := hm1.size
      frame := fun b h1 h2 => hm1.frame b h1 fun h3 => h2 ((hE b).2 h3)
      base := hm1.base
      agree := fun k hk => by
        by_cases h0 : k = 0
        · subst h0; rw [hρ2]; exact ⟨rfl, rfl⟩
        · have h1 := hm1.agree k hk
          have h2 := hb k h0
          rw [h2.1, h2.2]
          have e1 : (Bs.lent w ρ' [(0, Bx.row e sz xs), (1, .cells T1 [.v v1]), (2, .cells T2 [.v v2])] 3 H1).ρ = ρ' := rfl
          rw [e1, hρ'] at h1
          dsimp only at h1
          rw [if_neg h0, if_neg h0] at h1
          exact h1
      hp := hm1.hp, hle := hm1.hle
      hnew := fun b h1 h2 h3 => hm1.hnew b h1 h2 fun h4 => h3 ((hE b).2 h4)
      ok := fun k b h => by
        have h1 := hm1.ok k b h
        refine ⟨h1.1, ?_, h1.2.2⟩
        rcases hlk2 h with rfl | ⟨_, ⟨rfl, rfl⟩ | ⟨rfl, rfl⟩ | ⟨rfl, rfl⟩⟩
        · trivial
        · have h2 := h1.2.1
          simp only [BoxOK, gas, ga] at h2 ⊢
          rw [(hb 1 (by decide)).1]; exact h2
        · have h2 := h1.2.1
          simp only [BoxOK, gas, ga] at h2 ⊢
          rw [(hb 2 (by decide)).1]; exact h2
        · have h2 := h1.2.1
          simp only [BoxOK] at h2 ⊢
          rw [hv3, (hb 3 (by decide)).1]; exact h2
      own := fun k b g h ho => by
        have h1 := hm1.own k b g h (how h ho)
        exact ⟨h1.1, h1.2.imp_right (hE g).2⟩
      disj := fun k k' b b' g h h' ho ho' => hm1.disj k k' b b' g h h' (how h ho) (how h' ho') }
end Go.Proofs
end
section
namespace Go.Proofs
open Go.Sy
set_option maxRecDepth 20000
set_option maxHeartbeats 4000000
noncomputable def cxOf : Cx := { P := Tryz.prog, tt := tt, n := 0, wrap := false, base := 0, gf := 16 :: cx.gf, eqs := cx.eqs, xf := [] }
theorem cxOf_ok : TOK cxOf := ⟨cx_ok.tt, cx_ok.eqs⟩
def okOf (p : Prog) (block stmt : Int) (v : Bs8) : Prop := ∃ b, 0 ≤ block ∧ p[block.toNat]? = some b ∧ 0 ≤ stmt ∧ stmt ≤ (b.2.1.length : Nat) ∧ 0 ≤ idxS v (varsOf p) 0
theorem cof_spec {p : Prog} (hp : p.length ≤ 12) (hl : ∀ b ∈ p, b.2.1.length ≤ 100000) (hc : stmtsN p ≤ 1000000) (hv : cnt p < 400000) {block stmt : Int} {v : Bs8} {a : Option Addr} {n c : Nat} {H : Hp} {K : Value → Hp → Prop} (ha : RL H a n c p) (hT : TabH H)
    (hbad : checkE p ≠ 0 → ∀ H', Le H H' → K (.tuple #[.slice none 0 0, .int .i64 (checkE p)]) H')
    (harg : checkE p = 0 → ¬ okOf p block stmt v → ∀ H', Le H H' → K (.tuple #[.slice none 0 0, .int .i64 1]) H')
    (hK : checkE p = 0 → okOf p block stmt v → ∀ a1 n1 c1 H', Le H H' → RL H' a1 n1 c1 (ofS (sitesOf p) ((reachI p)[block.toNat]?.getD []) block stmt v) → K (.tuple #[.slice a1 n1 c1, .int .i64 0]) H') :
    Does Tryz.prog 17 [.agg #[.slice a n c], .int .i64 block, .int .i64 stmt, .string (bs v)] H K := by
  have hn := ha.n_eq
  refine spec_of cxOf_ok cx_mix rfl Tryz.func17 Tryz.call17 Tryz.ntmps17 Tryz.results17 rfl rfl ?_
  refine ⟨[], rfl, csetsG_spec hp hl hc hv block.toNat ha hT (fun he H1 hle1 => ?_) (fun he vs a2 n2 c2 H1 hle1 hvl => ?_)⟩
  · refine ⟨fun _ => hbad he _ hle1, fun h => absurd (nf h) he⟩
  refine ⟨fun h => absurd rfl (nt h), fun _ => ?_⟩
  have harg := harg he
  have hK := hK he
  have hhl : (headV vs).length = p.length := by rw [List.length_map]; exact hvl
  refine ⟨fun h1 => ?_, fun h1 => ?_⟩
  case refine_2 =>
    have h1 := dt h1
    exact harg (fun ⟨_, h2, _⟩ => by omega) _ hle1
  have h1 := df h1
  refine ⟨fun h2 => ?_, fun h2 => ?_⟩
  case refine_2 =>
    have h2 := dt h2
    refine harg (fun ⟨b, h3, h4, _⟩ => ?_) _ hle1
    have := (List.getElem?_eq_some_iff.1 h4).1
    have h2 : ((headV vs).length : Int) ≤ block := h2
    omega
  have h2 : ¬ ((headV vs).length : Int) ≤ block := df h2
  refine ⟨fun h3 => ?_, fun h3 => ?_⟩
  case refine_2 =>
    have h3 := dt h3
    exact harg (fun ⟨_, _, _, h4, _⟩ => by omega) _ hle1
  have h3 := df h3
  have hbl : block.toNat < p.length := by omega
  have hbb : p[block.toNat]? = some p[block.toNat] := List.getElem?_eq_getElem hbl
  generalize p[block.toNat] = b at hbb
  refine block_kI (ha.up hle1) (by omega) hbb fun ad2 a7 n7 c7 q2 hh2 hr7 _ _ => ?_
  have hn7 := hr7.n_eq
  refine ⟨ad2, ⟨by omega, by omega, q2⟩, ?_⟩
  refine ⟨_, hh2, ?_⟩
  refine ⟨fun h4 => ?_, fun h4 => ?_⟩
  · have h4 := dt h4
    refine harg (fun ⟨b', _, g2, _, g4, _⟩ => ?_) _ hle1
    rw [hbb] at g2
    cases g2
    omega
  have h4 := df h4
  refine var_spec (ha.up hle1) hv fun H2 hle2 => ?_
  refine ⟨fun h5 => ?_, fun h5 => ?_⟩
  · have h5 := nt h5
    exact harg (fun ⟨_, _, _, _, _, g5⟩ => h5 g5) _ hle1
  have h5 := nf h5
  have hok : okOf p block stmt v := ⟨b, by omega, hbb, by omega, by omega, h5⟩
  have hK := hK hok
  have hv64 := vars64 he
  have hz5 := sites_len he
  refine tsites_spec hp hl hc hv hv64 (ha.up hle1) fun az nz cz H3 hle3 hrz => ?_
  refine clast_spec (by omega) hrz fun _ _ => ?_
  have hin := lastS_in (sitesOf p) block stmt v
  refine ⟨fun h6 => ?_, fun h6 => ?_⟩
  · have h6 : 0 ≤ lastS (sitesOf p) block stmt v := dt h6
    intro v6 H6 hle6 hv6
    refine of_row_k (α := Int) hv6 (rc_iRows (l := [(lastV (lastS (sitesOf p) block stmt v)).1]) fun x hx => ?_) fun d1 d2 d3 ev hr => ?_
    · rw [List.mem_singleton] at hx
      rw [hx, lastV, if_pos h6]
      exact ⟨by omega, by omega⟩
    subst ev
    refine hK _ _ _ _ ((hle1.trans hle3).trans hle6.le) ?_
    rw [ofS, if_pos h6]
    rw [lastV, if_pos h6] at hr
    exact hr
  · have h6 : ¬ 0 ≤ lastS (sitesOf p) block stmt v := df h6
    have hA := Bt.solveS_ok (csysOf_ok he)
    have hlI : (reachI p).length = p.length := by rw [reachI, List.length_map, hA.len]; rfl
    have hXx : (reachI p)[block.toNat]? = some ((reachI p)[block.toNat]'(by omega)) := List.getElem?_eq_getElem (by omega)
    generalize (reachI p)[block.toNat]'(by omega) = X at hXx
    have hXi : ((Bt.solveS (csysOf p)).map numB)[block.toNat]? = some X := hXx
    rw [List.getElem?_map] at hXi
    obtain ⟨x, hx, hxe⟩ := Option.map_eq_some_iff.1 hXi
    have hokx := hA.ok x (List.mem_of_getElem? hx)
    have hX : ∀ y ∈ X, 0 ≤ y ∧ y < ((sitesOf p).length : Nat) := fun y hy => by
      rw [← hxe] at hy
      exact num_in hokx y hy
    have hXl : X.length ≤ 100000 := by
      have h7 := allL_len x 0
      have h8 := hokx.1
      rw [sizeB] at h8
      have h9 : (csysOf p).w = (sitesOf p).length := rfl
      rw [← hxe]
      have h10 : (numB x).length ≤ 64 * x.length := h7
      omega
    have hu : vs[block.toNat]? = some (vs[block.toNat]'(by omega)) := List.getElem?_eq_getElem (by omega)
    generalize vs[block.toNat]'(by omega) = u at hu
    have efam : famOf vs (reachI p) block.toNat = [(u, iRows X)] := by rw [famOf, hu, hXx]; rfl
    rw [efam]
    have hget : (headV vs)[block.toNat]? = some [u] := by rw [headV, List.getElem?_map, hu]; rfl
    refine ⟨⟨by omega, by omega⟩, ?_⟩
    refine ⟨_, hget, ?_⟩
    refine ⟨[3, 4, 1], rfl, doesG_fam1 (fun K' h => delf_spec hX hXl hrz h) ?_⟩
    intro v6 H6 hle6 hv6
    refine of_row_k (α := Int) hv6 (rc_iRows (l := pickV (sitesOf p) v X) fun y hy => ?_) fun d1 d2 d3 ev hr => ?_
    · have := hX y (List.mem_filter.1 hy).1
      exact ⟨by omega, by omega⟩
    subst ev
    refine hK _ _ _ _ ((hle1.trans hle3).trans hle6.le) ?_
    rw [ofS, if_neg h6, hXx]
    exact hr
end Go.Proofs
end
section
namespace Go.Proofs
open Go.Sy
set_option maxRecDepth 20000
set_option maxHeartbeats 4000000
theorem usesS_in {s : Stmt} {v : Bs8} (h : v ∈ usesS s) : v ≠ [] ∧ v ∈ sVars s := by
  unfold usesS at h
  rw [nmsOf_mem] at h
  refine ⟨h.2, ?_⟩
  have h := h.1
  unfold useL at h
  split at h
  · obtain ⟨a, ha, rfl⟩ := List.mem_map.1 h
    unfold atomsOf at ha
    simp only [sVars]
    split at ha
    · simp at ha; rcases ha with rfl | rfl <;> simp
    · split at ha
      · simp at ha; rcases ha with rfl | rfl <;> simp
      · simp at ha
  · split at h
    · rw [List.mem_singleton] at h; simp [sVars, h]
    · cases h
theorem useK_mem {i : Nat} : ∀ (l : List Stmt) (k : Nat) {x : Site}, x ∈ useK i l k → x.1 = (i : Nat) ∧ ∃ j s, x.2.1 = ((k + j : Nat) : Int) ∧ l[j]? = some s ∧ x.2.2.l ∈ usesS s
  | [], _, _, h => by cases h
  | s :: r, k, x, h => by
    rw [useK] at h
    rcases List.mem_append.1 h with h | h
    · obtain ⟨t, ht, rfl⟩ := List.mem_map.1 h
      obtain ⟨v, hv, rfl⟩ := List.mem_map.1 ht
      exact ⟨rfl, 0, s, rfl, rfl, hv⟩
    · obtain ⟨h1, j, t, h2, h3, h4⟩ := useK_mem r (k + 1) h
      exact ⟨h1, j + 1, t, by rw [h2]; congr 1; omega, h3, h4⟩
theorem useB_mem : ∀ (p : Prog) (i : Nat) {x : Site}, x ∈ useB p i → ∃ j b k, x.1 = ((i + j : Nat) : Int) ∧ p[j]? = some b ∧ x.2.1 = ((k : Nat) : Int) ∧ k ≤ b.2.1.length ∧ x.2.2.l ≠ [] ∧ ((∃ s ∈ b.2.1, x.2.2.l ∈ sVars s) ∨ x.2.2.l = b.2.2.2.1.1.l)
  | [], _, _, h => by cases h
  | b :: r, i, x, h => by
    rw [useB] at h
    rcases List.mem_append.1 h with h | h
    · obtain ⟨h1, j, s, h2, h3, h4⟩ := useK_mem b.2.1 0 h
      obtain ⟨h5, h6⟩ := usesS_in h4
      exact ⟨0, b, j, h1, rfl, by rw [h2, Nat.zero_add], Nat.le_of_lt (List.getElem?_eq_some_iff.1 h3).1, h5, .inl ⟨s, List.mem_of_getElem? h3, h6⟩⟩
    · rcases List.mem_append.1 h with h | h
      · unfold useE at h
        split at h
        · rename_i hh
          rw [List.mem_singleton] at h
          subst h
          exact ⟨0, b, b.2.1.length, rfl, rfl, rfl, Nat.le_refl _, hh.2, .inr rfl⟩
        · cases h
      · obtain ⟨j, c, k, h1, h2⟩ := useB_mem r (i + 1) h
        exact ⟨j + 1, c, k, by rw [h1]; congr 1; omega, h2⟩
theorem usesS_len (s : Stmt) : (usesS s).length ≤ 2 := by
  have h := putAll_len (useL s) []
  have h2 := useL_len s
  have e : usesS s = putAll (useL s) [] := rfl
  rw [e]
  rw [List.length_nil] at h
  omega
theorem useK_len (i : Nat) : ∀ (l : List Stmt) (k : Nat), (useK i l k).length ≤ 2 * l.length
  | [], _ => Nat.le_refl _
  | s :: r, k => by
    have h1 := useK_len i r (k + 1)
    have h2 := usesS_len s
    rw [useK, List.length_append, List.length_map, List.length_map, List.length_cons]
    omega
theorem useB_len : ∀ (p : Prog) (i : Nat), (useB p i).length ≤ 2 * stmtsN p + p.length
  | [], _ => Nat.zero_le _
  | b :: r, i => by
    have h1 := useB_len r (i + 1)
    have h2 := useK_len i b.2.1 0
    have h3 : (useE i b).length ≤ 1 := by unfold useE; split <;> simp
    have e : stmtsN (b :: r) = b.2.1.length + stmtsN r := by simp [stmtsN]
    rw [useB, List.length_append, List.length_append, List.length_cons, e]
    omega
theorem uses_R {p : Prog} (hp : p.length ≤ 12) (hl : ∀ b ∈ p, b.2.1.length ≤ 100000) {H : Hp} {a : Option Addr} {n c : Nat} (ha : RL H a n c p) : ∀ x ∈ usesP p, siteR x := fun x h => by
  obtain ⟨j, b, k, h1, h2, h3, h4, h5, h6⟩ := useB_mem p 0 h
  have hj := (List.getElem?_eq_some_iff.1 h2).1
  have hb := List.mem_of_getElem? h2
  have hlb := hl b hb
  refine ⟨⟨by omega, by omega⟩, ⟨by omega, by omega⟩, ?_⟩
  refine vars_all ha _ ?_
  rcases h6 with ⟨s, hs, h6⟩ | h6
  · exact ((vars_has p nil_sorted).1 b hb).1 s hs _ h6 h5
  · rw [h6] at h5 ⊢; exact ((vars_has p nil_sorted).1 b hb).2 h5
theorem uses_ok {p : Prog} {x : Site} (h : x ∈ usesP p) : okOf p x.1 x.2.1 x.2.2.l := by
  obtain ⟨j, b, k, h1, h2, h3, h4, h5, h6⟩ := useB_mem p 0 h
  have hb := List.mem_of_getElem? h2
  have e : x.1.toNat = j := by rw [h1]; omega
  refine ⟨b, by omega, by rw [e]; exact h2, by omega, by omega, ?_⟩
  rcases h6 with ⟨s, hs, h6⟩ | h6
  · exact (vIdx_stmt hb hs h6 h5).1
  · rw [h6] at h5 ⊢; exact (vIdx_term hb h5).1
def fromP (p : Prog) (l : List Site) : List (List Int) := l.map fun u => ofS (sitesOf p) ((reachI p)[u.1.toNat]?.getD []) u.1 u.2.1 u.2.2.l
end Go.Proofs
end
section
namespace Go.Proofs
open Go.Sy
set_option maxRecDepth 20000
set_option maxHeartbeats 4000000
theorem fromP_snoc (p : Prog) (l : List Site) (u : Site) : fromP p (l ++ [u]) = fromP p l ++ [ofS (sitesOf p) ((reachI p)[u.1.toNat]?.getD []) u.1 u.2.1 u.2.2.l] := by
  rw [fromP, fromP, List.map_append]; rfl
theorem rc_left {α : Type} [Enc α] {H Hm : Hp} {css : List (List Value)} {xs : List α} (h : RC H css xs) (hR : ∀ {cs : List Value} {x : α}, Enc.R H cs x → Enc.R Hm cs x) : RC Hm css xs := ⟨h.1, fun i cs x h1 h2 => hR (h.2 i cs x h1 h2)⟩
theorem cfrom_spec {p : Prog} (hp : p.length ≤ 12) (hl : ∀ b ∈ p, b.2.1.length ≤ 100000) (hc : stmtsN p ≤ 1000000) (hc2 : stmtsN p ≤ 1000) (hv : cnt p < 400000) {a : Option Addr} {n c : Nat} {H : Hp} {K : Value → Hp → Prop} (ha : RL H a n c p) (hT : TabH H)
    (hbad : checkE p ≠ 0 → ∀ H', Le H H' → K (.tuple #[.slice none 0 0, .int .i64 (checkE p)]) H')
    (hK : checkE p = 0 → ∀ a1 n1 c1 H', Le H H' → RL (α := List Int) H' a1 n1 c1 (fromP p (usesP p)) → K (.tuple #[.slice a1 n1 c1, .int .i64 0]) H') :
    Does Tryz.prog 33 [.agg #[.slice a n c]] H K := by
  have hZl : (usesP p).length ≤ 2 * stmtsN p + p.length := useB_len p 0
  have hZR := uses_R hp hl ha
  refine spec_ofM cx_ok cx_mix rfl Tryz.func33 Tryz.call33 Tryz.ntmps33 Tryz.results33 rfl rfl ?_
  refine pcheck_spec ha hc hv fun H00 hle00 => ?_
  refine ⟨fun h => ?_, fun h => ?_⟩
  · intro Hm hle _
    exact hbad (nt h) _ hle
  have he : checkE p = 0 := nf h
  have hK := hK he
  refine ⟨[], rfl, cuses_spec fun g H1 hle1 hg => ?_⟩
  refine range_rawV ?_ ?_ rfl [.pointer (some ⟨g, 0, none⟩)] (usesP p) (fun x : Site => .agg #[.int .i64 x.1, .int .i64 x.2.1, .string (bs x.2.2.l)]) rfl Tryz.call133 (uses_iter (by omega) hl (ha.up hle1) hg) (by kernel_rfl)
    2 [(1, .ptr 0 0), (5, .ptr 1 0)]
    (fun y : List (List Value) => [(0, .cells 24 [.v (.slice a n c)]), (1, .cells 39 [.own 2]), (2, .row 28 1 y)]) 3
    (fun pre y H' => Le H H' ∧ RC (α := List Int) H' y (fromP p pre)) rfl ?_ ?_ ?_ ?_
  · exact ⟨cx_ok.tt, cx_ok.eqs⟩
  · exact cx_mix
  · rintro pre y H3 H4 hle ⟨h1, h2⟩
    exact ⟨h1.trans hle, h2.up hle⟩
  · refine ⟨[], [(0, 0), (1, 1)], ?_, fun H' hle => ⟨hle1.trans hle, RC.nil⟩⟩
    (repeat' (first|exact trivial|refine ⟨?_,?_⟩|exact rfl|assumption))
  · rintro pre x y H3 hle3 ⟨hle4, hy⟩ hpre
    have hpl := hpre.length_le
    rw [List.length_append, List.length_singleton] at hpl
    have hx : x ∈ usesP p := hpre.subset (by simp)
    have hyl : y.length = pre.length := hy.1.trans (List.length_map _)
    refine cof_spec hp hl hc hv (ha.up hle4) (hT.up hle4) (fun h => absurd he h) (fun _ h => absurd (uses_ok hx) h) fun _ _ a7 n7 c7 H4 hle5 hr7 => ?_
    have hrc2 : RC (α := List Int) H4 (y ++ [[.slice a7 n7 c7]]) (fromP p (pre ++ [x])) := by
      rw [fromP_snoc]
      exact RC.snoc (RC.up hy hle5) (show Enc.R (α := List Int) H4 [.slice a7 n7 c7] _ from ⟨a7, n7, c7, rfl, hr7⟩)
    refine ⟨⟨by show (_ + 1) * 24 ≤ 140737488355328; omega, by show _ + 1 ≤ 9223372036854775807; omega⟩, ?_⟩
    refine ⟨rfl, y ++ [[.slice a7 n7 c7]], [(0, 0), (1, 1), (2, 5)], ?_, hle4.trans hle5, hrc2⟩
    (repeat' (first|exact trivial|refine ⟨?_,?_⟩|exact rfl|assumption))
  · rintro y H3 hle3 ⟨hle4, hy⟩
    intro Hm hle5 hcl v H6 hle6 hv6
    have hy2 : RC (α := List Int) Hm y (fromP p (usesP p)) := rc_left hy fun {cs x} ⟨d1, d2, d3, e, hr⟩ => ⟨d1, d2, d3, e, rl_left hr hcl fun h => h⟩
    obtain ⟨a7, n7, c7, rfl, hr7⟩ := RL.of_row (α := List Int) hv6 (RC.up hy2 hle6.le)
    exact hK _ _ _ _ (hle5.trans hle6.le) hr7
end Go.Proofs
end
section
namespace Go.Proofs
open Go.Sy
set_option maxRecDepth 20000
set_option maxHeartbeats 4000000
structure FamU (p : Prog) (G : Nat → List Site) (F : Nat → Nat → List Site) (E : Nat → Nat → Nat → List Site) : Prop where
  g0 : G 0 = []
  f0 : ∀ i, G i = F i 0
  e0 : ∀ i k, F i k = E i k 0
  es : ∀ i k m b s v, p[i]? = some b → b.2.1[k]? = some s → (usesS s)[m]? = some v → E i k (m + 1) = E i k m ++ [((i : Int), (k : Int), Str.mk v)]
  ee : ∀ i k b s, p[i]? = some b → b.2.1[k]? = some s → E i k (usesS s).length = F i (k + 1)
  ge : ∀ i b, p[i]? = some b → F i b.2.1.length ++ useE i b = G (i + 1)
  gl : G p.length = usesP p
  gn : ∀ i, (G i).length ≤ 2 * stmtsN p + p.length
  fn : ∀ i k, (F i k).length ≤ 2 * stmtsN p + p.length + 2 * k
  en : ∀ i k m, (E i k m).length ≤ 2 * stmtsN p + p.length + 2 * k + m
theorem useK_take (i : Nat) : ∀ (l : List Stmt) (k0 k : Nat) (s : Stmt), l[k]? = some s → useK i (l.take (k + 1)) k0 = useK i (l.take k) k0 ++ (ens (usesS s)).map (fun v => ((i : Int), ((k0 + k : Nat) : Int), v))
  | [], _, _, _, h => by simp at h
  | t :: r, k0, 0, s, h => by
    rw [List.getElem?_cons_zero] at h
    cases h
    simp [useK]
  | t :: r, k0, k + 1, s, h => by
    rw [List.getElem?_cons_succ] at h
    rw [List.take_succ_cons, useK, useK_take i r (k0 + 1) k s h, List.take_succ_cons, useK, List.append_assoc, show k0 + 1 + k = k0 + (k + 1) by omega]
theorem useB_take : ∀ (p : Prog) (i0 i : Nat) (b : Block), p[i]? = some b → useB (p.take (i + 1)) i0 = useB (p.take i) i0 ++ (useK (i0 + i) b.2.1 0 ++ useE (i0 + i) b)
  | [], _, _, _, h => by simp at h
  | t :: r, i0, 0, s, h => by
    rw [List.getElem?_cons_zero] at h
    cases h
    simp [useB]
  | t :: r, i0, k + 1, s, h => by
    rw [List.getElem?_cons_succ] at h
    rw [List.take_succ_cons, useB, useB_take r (i0 + 1) k s h, List.take_succ_cons, useB, show i0 + 1 + k = i0 + (k + 1) by omega]
    simp only [List.append_assoc]
theorem famU_k {P : Prop} (p : Prog) (k : ∀ G F E, FamU p G F E → P) : P := by
  let G : Nat → List Site := fun i => useB (p.take i) 0
  let F : Nat → Nat → List Site := fun i k => useB (p.take i) 0 ++ useK i (((p[i]?.map fun b => b.2.1).getD []).take k) 0
  let E : Nat → Nat → Nat → List Site := fun i k m => F i k ++ (ens ((((((p[i]?.map fun b => b.2.1).getD [])[k]?).map usesS).getD []).take m)).map (fun v => ((i : Int), (k : Int), v))
  have hG : ∀ i, (G i).length ≤ 2 * stmtsN p + p.length := fun i => by
    have h1 := useB_len (p.take i) 0
    have h3 := stmtsN_tk p i
    rw [List.length_take] at h1
    show (useB (p.take i) 0).length ≤ _
    omega
  have hF : ∀ i k, (F i k).length ≤ 2 * stmtsN p + p.length + 2 * k := fun i k => by
    have h1 := hG i
    have h2 := useK_len i (((p[i]?.map fun b => b.2.1).getD []).take k) 0
    rw [List.length_take] at h2
    show (G i ++ _).length ≤ _
    rw [List.length_append]
    omega
  refine k G F E ⟨rfl, fun i => ?_, fun i k => ?_, fun i k m b s v hb hs hv => ?_, fun i k b s hb hs => ?_, fun i b hb => ?_, ?_, hG, hF, fun i k m => ?_⟩
  · show _ = G i ++ useK i (List.take 0 _) 0
    rw [List.take_zero, useK, List.append_nil]
  · show _ = F i k ++ (ens (List.take 0 _)).map _
    rw [List.take_zero]; simp
  · show F i k ++ (ens (List.take (m + 1) _)).map _ = F i k ++ (ens (List.take m _)).map _ ++ _
    rw [hb]
    show F i k ++ (ens (List.take (m + 1) ((b.2.1[k]?.map usesS).getD []))).map _ = F i k ++ (ens (List.take m ((b.2.1[k]?.map usesS).getD []))).map _ ++ _
    rw [hs]
    show F i k ++ (ens (List.take (m + 1) (usesS s))).map _ = F i k ++ (ens (List.take m (usesS s))).map _ ++ _
    rw [List.take_add_one, hv, Option.toList_some, ens, List.map_append, List.map_append]
    exact (List.append_assoc (F i k) _ _).symm
  · show F i k ++ (ens (List.take _ _)).map _ = G i ++ useK i (List.take (k + 1) _) 0
    have eF : F i k = G i ++ useK i (List.take k ((p[i]?.map fun b => b.2.1).getD [])) 0 := rfl
    rw [eF, hb]
    show G i ++ useK i (b.2.1.take k) 0 ++ (ens (List.take (usesS s).length ((b.2.1[k]?.map usesS).getD []))).map _ = G i ++ useK i (b.2.1.take (k + 1)) 0
    rw [hs]
    show G i ++ useK i (b.2.1.take k) 0 ++ (ens (List.take (usesS s).length (usesS s))).map _ = G i ++ useK i (b.2.1.take (k + 1)) 0
    rw [List.take_length, useK_take i b.2.1 0 k s hs, Nat.zero_add, List.append_assoc]
  · show G i ++ useK i (List.take _ ((p[i]?.map fun b => b.2.1).getD [])) 0 ++ _ = useB (p.take (i + 1)) 0
    rw [hb, useB_take p 0 i b hb, Nat.zero_add]
    show useB (p.take i) 0 ++ useK i (b.2.1.take b.2.1.length) 0 ++ _ = _
    rw [List.take_length, List.append_assoc]
  · show useB (p.take p.length) 0 = _
    rw [List.take_length]; rfl
  · have h1 := hF i k
    show (F i k ++ _).length ≤ _
    rw [List.length_append, List.length_map, List.length_map, List.length_take]
    omega
theorem ruses48_spec {p : Prog} (hp : p.length ≤ 12) (hl : ∀ b ∈ p, b.2.1.length ≤ 100000) (hc : stmtsN p ≤ 1000) {a : Option Addr} {n c : Nat} {H : Hp} {K : Value → Hp → Prop} (ha : RL H a n c p) (hK : ∀ a1 n1 c1 H', Le H H' → RL (α := Site) H' a1 n1 c1 (usesP p) → K (.slice a1 n1 c1) H') : Does Tryz.prog 32 [.agg #[.slice a n c]] H K := by
  have hn := ha.n_eq
  have hPR := prog_R ha
  have hZR := uses_R hp hl ha
  refine famU_k p fun G F E hF => ?_
  refine spec_of cx_ok cx_mix rfl Tryz.func32 Tryz.call32 Tryz.ntmps32 Tryz.results32 rfl rfl ?_
  refine ⟨Nat, fun i => ⟨[(1, .ptr 0 0), (3, .own 1), (11, .v (.slice a n c)), (12, .v (.int .i64 n)), (13, .v (.int .i64 i))], [(0, .cells 24 [.v (.slice a n c)]), (1, .row 86 3 (zRows (G i)))], 2⟩,
    fun i H' => Le H H' ∧ i ≤ p.length, fun i => p.length - i, ⟨0, [(0, 0)], ?_, Le.refl _, Nat.zero_le _⟩, ?_⟩
  · have e1 : zRows (G 0) = [] := by rw [hF.g0]; rfl
    (repeat' (first|exact trivial|refine ⟨?_,?_⟩|exact rfl|assumption))
  rintro i H3 _ ⟨hle3, hi⟩
  refine ⟨fun h => ?_, fun h => ?_⟩
  · have hlt : i < p.length := by have := dt h; omega
    refine name_k p[i] fun b hbe => ?_
    have hbb : p[i]? = some b := by rw [hbe]; exact List.getElem?_eq_getElem hlt
    have hbl := hl b (List.mem_of_getElem? hbb)
    have hb512 : b.2.1.length ≤ stmtsN p := stmtsN_mem (List.mem_of_getElem? hbb)
    refine block_k (ha.up hle3) hbb fun ad a5 n5 c5 q1 hh hr5 hs5 ht5 => ?_
    have hn5 : n5 = b.2.1.length := hr5.n_eq
    refine ⟨ad, ⟨by omega, by omega, q1⟩, ?_⟩
    refine ⟨_, hh, ?_⟩
    refine ⟨Nat, fun k => ⟨[(1, .ptr 0 0), (3, .own 1), (4, .v (.int .i64 i)), (5, .ptr 2 0), (11, .v (.slice a n c)), (12, .v (.int .i64 n)), (13, .v (.int .i64 i)), (19, .v (.slice a5 n5 c5)), (20, .v (.int .i64 n5)), (21, .v (.int .i64 k))], [(0, .cells 24 [.v (.slice a n c)]), (1, .row 86 3 (zRows (F i k))), (2, .cells 57 (vL (blkL (.slice a5 n5 c5) b)))], 3⟩,
      fun k H' => Le H3 H' ∧ k ≤ b.2.1.length, fun k => b.2.1.length - k, ⟨0, [(0, 0), (1, 1), (2, 2)], ?_, Le.refl _, Nat.zero_le _⟩, ?_⟩
    · have e1 : zRows (G i) = zRows (F i 0) := by rw [hF.f0]
      (repeat' (first|exact trivial|refine ⟨?_,?_⟩|exact rfl|assumption))
    rintro k H4 _ ⟨hle4, hk⟩
    refine ⟨fun h => ?_, fun h => ?_⟩
    · have hkl : k < b.2.1.length := by have := dt h; omega
      refine name_k b.2.1[k] fun s hse => ?_
      have hss : b.2.1[k]? = some s := by rw [hse]; exact List.getElem?_eq_getElem hkl
      refine stmt_k (hr5.up hle4) hss fun ad2 q2 hh2 hR => ?_
      refine ⟨ad2, ⟨by omega, by omega, q2⟩, ?_⟩
      refine ⟨_, hh2, ?_⟩
      refine ruses_spec hR fun a6 n6 c6 H5 hle5 hr6 => ?_
      have hn6 : n6 = (usesS s).length := hr6.n_eq.trans (List.length_map _)
      have hul := usesS_len s
      refine ⟨Nat, fun m => ⟨[(1, .ptr 0 0), (3, .own 1), (4, .v (.int .i64 i)), (5, .ptr 2 0), (6, .v (.int .i64 k)), (11, .v (.slice a n c)), (12, .v (.int .i64 n)), (13, .v (.int .i64 i)), (19, .v (.slice a5 n5 c5)), (20, .v (.int .i64 n5)), (21, .v (.int .i64 k)), (27, .v (.slice a6 n6 c6)), (28, .v (.int .i64 n6)), (29, .v (.int .i64 m))], [(0, .cells 24 [.v (.slice a n c)]), (1, .row 86 3 (zRows (E i k m))), (2, .cells 57 (vL (blkL (.slice a5 n5 c5) b)))], 3⟩,
        fun m H' => Le H5 H' ∧ m ≤ (usesS s).length, fun m => (usesS s).length - m, ⟨0, [(0, 0), (1, 1), (2, 2)], ?_, Le.refl _, Nat.zero_le _⟩, ?_⟩
      · have e1 : zRows (F i k) = zRows (E i k 0) := by rw [hF.e0]
        (repeat' (first|exact trivial|refine ⟨?_,?_⟩|exact rfl|assumption))
      rintro m H6 _ ⟨hle6, hm⟩
      have hel := hF.en i k m
      have hxl : (zRows (E i k m)).length = (E i k m).length := List.length_map _
      refine ⟨fun h => ?_, fun h => ?_⟩
      · have hml : m < (usesS s).length := by have := dt h; omega
        refine name_k (usesS s)[m] fun v hve => ?_
        have hvv : (usesS s)[m]? = some v := by rw [hve]; exact List.getElem?_eq_getElem hml
        refine str_k (hr6.up hle6) hvv fun ad3 q3 hh3 _ => ?_
        refine ⟨ad3, ⟨by omega, by omega, q3⟩, ?_⟩
        refine ⟨_, hh3, ?_⟩
        have e1 : zRows (E i k m) ++ [[.int .i64 (i : Nat), .int .i64 (k : Nat), .string (bs v)]] = zRows (E i k (m + 1)) := by rw [hF.es i k m b s v hbb hss hvv, zRows, zRows, List.map_append]; rfl
        refine ⟨⟨by show ((zRows (E i k m)).length + 1) * 32 ≤ 140737488355328; omega, by show (zRows (E i k m)).length + 1 ≤ 9223372036854775807; omega⟩, ?_⟩
        refine ⟨⟨by omega, by omega⟩, m + 1, [(0, 0), (1, 4), (2, 2)], ?_, ⟨hle6, hml⟩, by dsimp only; omega⟩
        (repeat' (first|exact trivial|refine ⟨?_,?_⟩|exact rfl|assumption))
      · have hml : m = (usesS s).length := by have := df h; omega
        subst hml
        have e1 : zRows (E i k (usesS s).length) = zRows (F i (k + 1)) := by rw [hF.ee i k b s hbb hss]
        refine ⟨⟨by omega, by omega⟩, k + 1, [(0, 0), (1, 1), (2, 2)], ?_, ⟨(hle4.trans hle5).trans hle6, hkl⟩, by dsimp only; omega⟩
        (repeat' (first|exact trivial|refine ⟨?_,?_⟩|exact rfl|assumption))
    · have hkl : k = b.2.1.length := by have := df h; omega
      subst hkl
      have hel := hF.fn i b.2.1.length
      have hxl : (zRows (F i b.2.1.length)).length = (F i b.2.1.length).length := List.length_map _
      have hge := hF.ge i b hbb
      refine ⟨fun h1 => ?_, fun h1 => ?_⟩
      · have h1 : b.2.2.1 = 2 := dt h1
        refine ⟨fun h2 => ?_, fun h2 => ?_⟩
        · have h2 : ¬ b.2.2.2.1.1.l = [] := fun e => by rw [e] at h2; exact absurd h2 (by decide)
          have e1 : zRows (F i b.2.1.length) ++ [[.int .i64 (i : Nat), .int .i64 n5, .string (bs b.2.2.2.1.1.l)]] = zRows (G (i + 1)) := by
            rw [← hge, useE, if_pos ⟨h1, h2⟩, hn5, zRows, zRows, List.map_append]; rfl
          refine ⟨⟨by show ((zRows (F i b.2.1.length)).length + 1) * 32 ≤ 140737488355328; omega, by show (zRows (F i b.2.1.length)).length + 1 ≤ 9223372036854775807; omega⟩, ?_⟩
          refine ⟨⟨by omega, by omega⟩, i + 1, [(0, 0), (1, 4)], ?_, ⟨hle3.trans hle4, hlt⟩, by dsimp only; omega⟩
          (repeat' (first|exact trivial|refine ⟨?_,?_⟩|exact rfl|assumption))
        · have h2 : b.2.2.2.1.1.l = [] := by
            have h2 : (!decide (sl (bs b.2.2.2.1.1.l) = sl (bs []))) = false := h2
            rw [sl_bs, sl_bs] at h2
            simpa using h2
          have e1 : zRows (F i b.2.1.length) = zRows (G (i + 1)) := by rw [← hge, useE, if_neg (fun h => h.2 h2), List.append_nil]
          refine ⟨⟨by omega, by omega⟩, i + 1, [(0, 0), (1, 1)], ?_, ⟨hle3.trans hle4, hlt⟩, by dsimp only; omega⟩
          (repeat' (first|exact trivial|refine ⟨?_,?_⟩|exact rfl|assumption))
      · have h1 : ¬ b.2.2.1 = 2 := df h1
        have e1 : zRows (F i b.2.1.length) = zRows (G (i + 1)) := by rw [← hge, useE, if_neg (fun h => h1 h.1), List.append_nil]
        refine ⟨⟨by omega, by omega⟩, i + 1, [(0, 0), (1, 1)], ?_, ⟨hle3.trans hle4, hlt⟩, by dsimp only; omega⟩
        (repeat' (first|exact trivial|refine ⟨?_,?_⟩|exact rfl|assumption))
  · have hil : i = p.length := by have := df h; omega
    subst hil
    rw [hF.gl]
    intro v H5 hle5 hv5
    refine of_row_k (α := Site) hv5 (rc_zRows hZR) fun d1 d2 d3 ev hr => ?_
    subst ev
    exact hK _ _ _ _ (hle3.trans hle5.le) hr
end Go.Proofs
end
section
namespace Go.Proofs
open Go.Sy
set_option maxRecDepth 20000
set_option maxHeartbeats 4000000
end Go.Proofs
end
section
namespace Go.Proofs
open Go.Sy
set_option maxRecDepth 20000
set_option maxHeartbeats 4000000
theorem small_1000 {p : Prog} (h : small4 p) : stmtsN p ≤ 1000 := by
  have h1 : ∀ q : Prog, (∀ b ∈ q, smallB4 b) → stmtsN q ≤ 12 * q.length := by
    intro q
    induction q with
    | nil => intro _; exact Nat.zero_le _
    | cons b r ih =>
      intro hq
      have h2 := ih fun c hc => hq c (List.mem_cons_of_mem _ hc)
      have h3 := (hq b List.mem_cons_self).1.1
      have e : stmtsN (b :: r) = b.2.1.length + stmtsN r := by simp [stmtsN]
      rw [e, List.length_cons]
      omega
  have h2 := h1 p h.2
  have h3 := h.1
  omega
def stC1 : Stmt := (1, ⟨[120]⟩, (0, (⟨[]⟩, 0, 0), (⟨[]⟩, 0, 0)))
def stC2 : Stmt := (3, ⟨[]⟩, (0, (⟨[120]⟩, 0, 0), (⟨[]⟩, 0, 0)))
def blC : Block := (⟨[97]⟩, [stC1, stC2], (3, za, ⟨[]⟩, ⟨[]⟩))
def progC : Prog := [blC]
theorem from_C : fromP progC (usesP progC) = [[1]] := by decide +kernel
theorem check_C : checkE progC = 0 := by decide +kernel
theorem stC1_R : stmtR stC1 := ⟨⟨by decide, by decide⟩, Nat.le_of_lt_succ (by decide), ⟨by decide, by decide⟩, ⟨Nat.zero_le _, zero_RA, zero_RA⟩, ⟨Nat.zero_le _, zero_RA, zero_RA⟩⟩
theorem stC2_R : stmtR stC2 := ⟨⟨by decide, by decide⟩, Nat.zero_le _, ⟨by decide, by decide⟩, ⟨Nat.le_of_lt_succ (by decide), zero_RA, zero_RA⟩, ⟨Nat.zero_le _, zero_RA, zero_RA⟩⟩
theorem awake48_spec {H : Hp} {K : Value → Hp → Prop} (hT : TabH H) (hK : ∀ H', Le H H' → K (.bool true) H') : Does Tryz.prog 30 [] H K := by
  refine spec_of cx_ok cx_mix rfl Tryz.func30 Tryz.call30 Tryz.ntmps30 Tryz.results30 rfl rfl ?_
  intro x2 H2 hle2 hx2
  refine of_row_k (α := Stmt) hx2 (show RC (α := Stmt) H2 _ [stC1, stC2] from (RC.nil.snoc (stmt_mk2 stC1_R)).snoc (stmt_mk2 stC2_R)) fun sb sm sd ex2 hr2 => ?_
  subst ex2
  intro y H3 hle3 hy
  refine of_row_k (α := Block) hy (show RC (α := Block) H3 _ progC from RC.nil.snoc (block_mk (b := blC) (hr2.up hle3.le) (Nat.le_of_lt_succ (by decide)) ⟨⟨by decide, by decide⟩, za_R, Nat.zero_le _, Nat.zero_le _⟩)) fun a n c ey hr => ?_
  subst ey
  have hle := hle2.le.trans hle3.le
  refine cfrom_spec (p := progC) (by decide) (by decide) (by decide) (by decide) (by decide) hr (hT.up hle) (fun he => absurd check_C he) fun he a1 n1 c1 H4 hle4 hr4 => ?_
  rw [from_C] at hr4
  have hn1 := hr4.n_eq
  have hn1 : n1 = 1 := hn1
  subst hn1
  refine ⟨fun _ => ?_, fun h => absurd rfl (df h)⟩
  refine ⟨fun _ => ?_, fun h => absurd rfl (df h)⟩
  refine list_k hr4 (i := 0) (x := [1]) rfl fun ad a5 n5 c5 q1 hh hr6 => ?_
  refine ⟨ad, ⟨by omega, by omega, q1⟩, ?_⟩
  refine ⟨_, hh, ?_⟩
  intro v5 H5 hle5 hv5
  refine of_row_k (α := Int) hv5 (rc_iRows (l := [1]) fun x hx => by
    rw [List.mem_singleton] at hx
    subst hx
    exact ⟨by decide, by decide⟩) fun d1 d2 d3 e1 hr7 => ?_
  subst e1
  refine ints_spec (hr6.up hle5.le) hr7 ?_
  exact hK _ (hle.trans hle4)
end Go.Proofs
end
section
namespace Go.Proofs
open Go.Sy
set_option maxRecDepth 20000
set_option maxHeartbeats 4000000
theorem siteP_blk : ∀ (p : Prog) (i : Nat) (x : Site), x ∈ siteP p i → (i : Int) ≤ x.1 ∧ x.1 < ((i + p.length : Nat) : Int) := fun p i x h => by
  obtain ⟨m, b, j, s, h1, h2, _⟩ := siteP_mem p i x h
  have := (List.getElem?_eq_some_iff.1 h2).1
  omega
end Go.Proofs
end
section
namespace Go.Proofs
open Go.Sy
set_option maxRecDepth 20000
set_option maxHeartbeats 4000000
end Go.Proofs
end
section
namespace Go.Proofs
open Go.Sy
set_option maxRecDepth 20000
set_option maxHeartbeats 4000000
end Go.Proofs
end
section
namespace Go.Proofs
open Go.Sy
set_option maxRecDepth 20000
set_option maxHeartbeats 4000000
end Go.Proofs
end
section
namespace Go.Proofs
open Go.Sy
set_option maxRecDepth 20000
set_option maxHeartbeats 4000000
end Go.Proofs
end
section
namespace Go.Proofs
open Go.Sy
set_option maxRecDepth 20000
set_option maxHeartbeats 4000000
def tS (s : Int) : List (List Int) → Nat → List Int
  | [], _ => []
  | r :: l, u => ((r.filter fun x => decide (x = s)).map fun _ => (u : Int)) ++ tS s l (u + 1)
theorem tS_take (s : Int) : ∀ (l : List (List Int)) (u i : Nat) (r : List Int), l[i]? = some r → tS s (l.take (i + 1)) u = tS s (l.take i) u ++ (r.filter fun x => decide (x = s)).map fun _ => ((u + i : Nat) : Int)
  | [], _, _, _, h => by simp at h
  | t :: l, u, 0, r, h => by
    rw [List.getElem?_cons_zero] at h
    cases h
    simp [tS]
  | t :: l, u, i + 1, r, h => by
    rw [List.getElem?_cons_succ] at h
    rw [List.take_succ_cons, tS, tS_take s l (u + 1) i r h, List.take_succ_cons, tS, List.append_assoc, show u + 1 + i = u + (i + 1) by omega]
theorem tS_len (s : Int) : ∀ (l : List (List Int)) (u : Nat), (∀ r ∈ l, r.length ≤ 1000) → (tS s l u).length ≤ 1000 * l.length
  | [], _, _ => Nat.le_refl _
  | t :: l, u, h => by
    have h1 := tS_len s l (u + 1) fun r hr => h r (List.mem_cons_of_mem _ hr)
    have h2 := h t List.mem_cons_self
    have h3 := List.length_filter_le (fun x => decide (x = s)) t
    rw [tS, List.length_append, List.length_map, List.length_cons]
    omega
def toL (w : Nat) (L : List (List Int)) : List (List Int) := (List.range w).map fun (s : Nat) => tS (s : Int) L 0
theorem tS_in (s : Int) : ∀ (l : List (List Int)) (u : Nat), ∀ x ∈ tS s l u, 0 ≤ x ∧ x < ((u + l.length : Nat) : Int)
  | [], _, _, h => by cases h
  | t :: l, u, x, h => by
    rw [tS] at h
    rw [List.length_cons]
    rcases List.mem_append.1 h with h | h
    · obtain ⟨_, _, rfl⟩ := List.mem_map.1 h
      omega
    · have := tS_in s l (u + 1) x h
      omega
theorem toL_in {w : Nat} {L : List (List Int)} (hL : L.length ≤ 3000) : ∀ r ∈ toL w L, ∀ x ∈ r, inI x := fun r hr x hx => by
  obtain ⟨s, _, rfl⟩ := List.mem_map.1 hr
  have := tS_in _ L 0 x hx
  exact ⟨by omega, by omega⟩
def toR (w : Nat) (L : List (List Int)) (i j : Nat) : List (List Int) := (List.range w).map fun (s : Nat) => tS (s : Int) (L.take i) 0 ++ (((L[i]?.getD []).take j).filter fun x => decide (x = (s : Int))).map fun _ => (i : Int)
theorem toR_len (w : Nat) (L : List (List Int)) (i j : Nat) : (toR w L i j).length = w := by rw [toR, List.length_map, List.length_range]
theorem toR_zero (w : Nat) (L : List (List Int)) (i : Nat) : toR w L i 0 = toL w (L.take i) := by
  rw [toR, toL]
  apply List.map_congr_left
  intro s _
  rw [List.take_zero, List.filter_nil, List.map_nil, List.append_nil]
theorem toR_end (w : Nat) {L : List (List Int)} {i : Nat} {r : List Int} (h : L[i]? = some r) : toR w L i r.length = toL w (L.take (i + 1)) := by
  rw [toR, toL]
  apply List.map_congr_left
  intro s _
  rw [tS_take _ L 0 i r h, h, Option.getD_some, List.take_length, Nat.zero_add]
theorem toR_get {w : Nat} (L : List (List Int)) (i j : Nat) {s : Nat} (h : s < w) : (toR w L i j)[s]? = some (tS (s : Int) (L.take i) 0 ++ (((L[i]?.getD []).take j).filter fun x => decide (x = (s : Int))).map fun _ => (i : Int)) := by
  rw [toR, List.getElem?_map, List.getElem?_range h]; rfl
theorem toR_step {w : Nat} {L : List (List Int)} {i j s : Nat} {r : List Int} (h : L[i]? = some r) (hj : r[j]? = some (s : Int)) (hs : s < w) {g : List Int} (hg : (toR w L i j)[s]? = some g) : toR w L i (j + 1) = (toR w L i j).set s (g ++ [(i : Int)]) := by
  rw [toR_get L i j hs] at hg
  have hg := (Option.some.inj hg).symm
  refine List.ext_getElem? fun q => ?_
  rw [List.getElem?_set, toR_len]
  by_cases hq : q < w
  · rw [toR_get L i (j + 1) hq, toR_get L i j hq]
    rw [h, Option.getD_some] at hg ⊢
    rw [List.take_add_one, hj, Option.toList_some, List.filter_append, List.map_append]
    by_cases e : s = q
    · subst e
      rw [if_pos rfl, if_pos hs, hg]
      simp
    · rw [if_neg e]
      have : ¬ ((s : Int) = (q : Int)) := by omega
      simp [this]
  · rw [if_neg (by omega), List.getElem?_eq_none (by rw [toR_len]; omega), List.getElem?_eq_none (by rw [toR_len]; omega)]
def famT (hds : List Value) (out : List (List Int)) : List (Value × List (List Value)) := List.zipWith (fun h p => (h, iRows p)) hds out
theorem famT_mem {hds : List Value} {out : List (List Int)} {p : Value × List (List Value)} (h : p ∈ famT hds out) : ∃ (i : Nat) (hd : Value) (q : List Int), hds[i]? = some hd ∧ out[i]? = some q ∧ p = (hd, iRows q) := by
  obtain ⟨i, hi, rfl⟩ := List.mem_iff_getElem.1 h
  rw [famT, List.length_zipWith] at hi
  refine ⟨i, hds[i]'(by omega), out[i]'(by omega), List.getElem?_eq_getElem _, List.getElem?_eq_getElem _, ?_⟩
  simp [famT]
theorem zwT_set {α β γ : Type} (f : α → β → γ) : ∀ (a : List α) (b : List β) (k : Nat) (x : α) (y : β), List.zipWith f (a.set k x) (b.set k y) = (List.zipWith f a b).set k (f x y)
  | [], _, _, _, _ => by simp
  | _ :: _, [], k, _, _ => by cases k <;> simp
  | _ :: a, _ :: b, 0, _, _ => by simp
  | _ :: a, _ :: b, k + 1, x, y => by simp [zwT_set f a b k x y]
theorem famT_set {hds : List Value} {R : List (List Int)} {k : Nat} (hk : k < hds.length) (hk' : k < R.length) (h : Value) (r : List Int) :
    famT (hds.set k h) (R.set k r) = (famT hds R).take k ++ (h, iRows r) :: (famT hds R).drop (k + 1) := by
  have hl : k < (famT hds R).length := by rw [famT, List.length_zipWith]; omega
  rw [famT, zwT_set]
  exact List.set_eq_take_append_cons_drop.trans (if_pos hl)
theorem famT_split {hds : List Value} {R : List (List Int)} {k : Nat} {hd : Value} {r : List Int} (h1 : hds[k]? = some hd) (h2 : R[k]? = some r) : famT hds R = (famT hds R).take k ++ (hd, iRows r) :: (famT hds R).drop (k + 1) := by
  obtain ⟨a1, a2⟩ := List.getElem?_eq_some_iff.1 h1
  obtain ⟨b1, b2⟩ := List.getElem?_eq_some_iff.1 h2
  have hl : k < (famT hds R).length := by rw [famT, List.length_zipWith]; omega
  have e : (famT hds R)[k] = (hd, iRows r) := by simp [famT, a2, b2]
  rw [← e, ← List.drop_eq_getElem_cons hl, List.take_append_drop]
theorem tint_all {H : Hp} {v : Value} {l : List Int} (h : RowAt H v 1 (iRows l)) (hl : ∀ x ∈ l, inI x) : ∃ a n c, v = .slice a n c ∧ RL H a n c l := RL.of_row (α := Int) h (rc_iRows hl)
theorem rl_famT {H : Hp} {v : Value} {hds : List Value} {R : List (List Int)} (hl : hds.length = R.length) (h : RowAt H v 1 (hds.map fun h => [h])) (hf : ∀ p ∈ famT hds R, RowAt H p.1 1 p.2) (hin : ∀ r ∈ R, ∀ x ∈ r, inI x) :
    ∃ a n c, v = .slice a n c ∧ RL H a n c R := by
  refine RL.of_row (α := List Int) h ⟨by rw [List.length_map]; exact hl, fun i cs r h1 h2 => ?_⟩
  rw [List.getElem?_map] at h1
  cases hh : hds[i]? with
  | none => rw [hh] at h1; cases h1
  | some hd =>
    rw [hh] at h1
    simp only [Option.map_some, Option.some.injEq] at h1
    obtain ⟨hi, e1⟩ := List.getElem?_eq_some_iff.1 hh
    obtain ⟨hi2, e2⟩ := List.getElem?_eq_some_iff.1 h2
    have hm : (hd, iRows r) ∈ famT hds R := by
      have hl2 : i < (famT hds R).length := by rw [famT, List.length_zipWith]; omega
      have e : (famT hds R)[i] = (hd, iRows r) := by simp [famT, e1, e2]
      rw [← e]; exact List.getElem_mem hl2
    obtain ⟨a, n, c, e, hr⟩ := tint_all (hf _ hm) (hin r (List.mem_of_getElem? h2))
    have e : hd = .slice a n c := e
    exact ⟨a, n, c, by rw [← h1, e], hr⟩
theorem turned_spec {w : Nat} (hw : w ≤ 1000) {L : List (List Int)} (hL : L.length ≤ 3000) (hr : ∀ r ∈ L, r.length ≤ 1000) (hb : ∀ r ∈ L, ∀ x ∈ r, 0 ≤ x ∧ x < (w : Int)) {a : Option Addr} {n c : Nat} {H : Hp} {K : Value → Hp → Prop} (ha : RL H a n c L)
    (hK : ∀ a1 n1 c1 H', Le H H' → RL H' a1 n1 c1 (toL w L) → K (.slice a1 n1 c1) H') : Does Tryz.prog 83 [.slice a n c, .int .i64 w] H K := by
  have hn := ha.n_eq
  have hmx := ha.le
  refine does_frzB (svs := [.v (.slice a n c), .v (.int .i64 w)]) (K0 := fun x t H1 => H1 = H ∧ ∃ hds : List Value, hds.length = w ∧ x = .own 0 ∧ t = ⟨[], [(0, .row 28 1 (hds.map fun h => [h])), (1, .fam 3 1 (famT hds (toL w L)))], 2⟩) (fun _ => rfl) rfl ?_ ?_
  · refine spec_ofG cx_ok cx_mix Tryz.func83 Tryz.call83 Tryz.ntmps83 Tryz.results83 rfl rfl ?_
    refine ⟨⟨rfl, by omega, by show (w : Int) * 24 ≤ _; omega, by omega⟩, ?_⟩
    refine ⟨Nat × List Value, fun q => ⟨[(5, .own 0), (12, .v (.slice a n c)), (13, .v (.int .i64 n)), (14, .v (.int .i64 q.1))],
        [(0, .row 28 1 (q.2.map fun h => [h])), (1, .fam 3 1 (famT q.2 (toL w (L.take q.1))))], 2⟩,
      fun q H' => H' = H ∧ q.1 ≤ L.length ∧ q.2.length = w, fun q => L.length - q.1, ⟨(0, List.replicate w (.slice none 0 0)), [(0, 0)], ?_, rfl, Nat.zero_le _, by dsimp only; rw [List.length_replicate]⟩, ?_⟩
    · have e1 : List.replicate (w : Int).toNat [Value.slice none 0 0] = (List.replicate w (Value.slice none 0 0)).map fun h => [h] := by rw [List.map_replicate, Int.toNat_natCast]
      have e2 : ∀ p ∈ famT (List.replicate w (Value.slice none 0 0)) (toL w (L.take 0)), p = (.slice none 0 0, []) := fun p hp => by
        obtain ⟨j, hd, q, h1, h2, rfl⟩ := famT_mem hp
        rw [List.getElem?_replicate] at h1
        split at h1
        · rename_i hj
          rw [toL, List.getElem?_map, List.getElem?_range hj, List.take_zero] at h2
          have h2 := Option.some.inj h2
          have h1 := Option.some.inj h1
          rw [← h1, ← h2]; rfl
        · cases h1
      (repeat' (first|exact trivial|refine ⟨?_,?_⟩|exact rfl|assumption))
    · rintro ⟨i, hds⟩ H1 _ ⟨rfl, hi, hdl⟩
      dsimp only at hi hdl
      refine ⟨fun h => ?_, fun h => ?_⟩
      · have hlt : i < L.length := by have := dt h; dsimp only at this; omega
        refine name_k L[i] fun r hre => ?_
        have hrr : L[i]? = some r := by rw [hre]; exact List.getElem?_eq_getElem hlt
        have hrm := List.mem_of_getElem? hrr
        have hrl := hr r hrm
        have hrb := hb r hrm
        refine list_k ha hrr fun ad a5 n5 c5 q1 hh hr5 => ?_
        have hn5 := hr5.n_eq
        refine ⟨ad, ⟨by dsimp only; omega, by dsimp only; omega, q1⟩, ?_⟩
        refine ⟨_, hh, ?_⟩
        refine ⟨Nat × List Value, fun q => ⟨[(5, .own 0), (6, .v (.int .i64 i)), (12, .v (.slice a n c)), (13, .v (.int .i64 n)), (14, .v (.int .i64 i)), (19, .v (.slice a5 n5 c5)), (20, .v (.int .i64 n5)), (21, .v (.int .i64 q.1))],
            [(0, .row 28 1 (q.2.map fun h => [h])), (1, .fam 3 1 (famT q.2 (toR w L i q.1)))], 2⟩,
          fun q H' => H' = H1 ∧ q.1 ≤ r.length ∧ q.2.length = w, fun q => r.length - q.1, ⟨(0, hds), [(0, 0), (1, 1)], ?_, rfl, Nat.zero_le _, hdl⟩, ?_⟩
        · have e1 : famT hds (toL w (L.take i)) = famT hds (toR w L i 0) := by rw [toR_zero]
          have e2 := e1.symm
          (repeat' (first|exact trivial|refine ⟨?_,?_⟩|exact rfl|assumption))
        rintro ⟨j, hds⟩ H2 _ ⟨rfl, hj, hdl⟩
        dsimp only at hj hdl
        refine ⟨fun h => ?_, fun h => ?_⟩
        · have hlj : j < r.length := by have := dt h; dsimp only at this; omega
          refine name_k r[j] fun x hxe => ?_
          have hxx : r[j]? = some x := by rw [hxe]; exact List.getElem?_eq_getElem hlj
          have hx0 := hrb x (List.mem_of_getElem? hxx)
          obtain ⟨k, hk⟩ : ∃ k : Nat, x = (k : Int) := ⟨x.toNat, by omega⟩
          subst hk
          have hkw : k < w := by omega
          refine int_k hr5 hxx fun ad2 q2 hh2 => ?_
          refine ⟨ad2, ⟨by dsimp only; omega, by dsimp only; omega, q2⟩, ?_⟩
          refine ⟨_, hh2, ?_⟩
          have hkd : k < hds.length := by omega
          refine name_k hds[k] fun hd hhd => ?_
          have hhk : hds[k]? = some hd := by rw [hhd]; exact List.getElem?_eq_getElem hkd
          have hml : (hds.map fun h => [h]).length = hds.length := List.length_map _
          have hget : (hds.map fun h => [h])[((k : Nat) : Int).toNat]? = some [hd] := by rw [Int.toNat_natCast, List.getElem?_map, hhk]; rfl
          have hgg := toR_get L i j hkw
          refine name_k (tS (k : Int) (L.take i) 0 ++ (((L[i]?.getD []).take j).filter fun x => decide (x = (k : Int))).map fun _ => (i : Int)) fun g hg => ?_
          rw [← hg] at hgg
          have hgl : g.length ≤ 3001000 := by
            have h1 := tS_len (k : Int) (L.take i) 0 fun r hr2 => hr r (List.mem_of_mem_take hr2)
            have h2 := List.length_filter_le (fun x => decide (x = (k : Int))) ((L[i]?.getD []).take j)
            rw [hrr, Option.getD_some] at h2
            rw [List.length_take] at h1 h2
            rw [hg, List.length_append, List.length_map, hrr, Option.getD_some]
            omega
          have hsp := famT_split hhk hgg
          have hkg : k < (toR w L i j).length := by rw [toR_len]; exact hkw
          have egl : (iRows g).length = g.length := List.length_map _
          refine ⟨⟨by omega, by dsimp only; omega⟩, ?_⟩
          refine ⟨_, hget, ?_⟩
          refine ⟨1, _, _, _, _, rfl, hsp, ⟨by show ((iRows g).length + 1) * 8 ≤ 140737488355328; omega, by show (iRows g).length + 1 ≤ 9223372036854775807; omega⟩, fun a' c' => ?_⟩
          refine name_k (Value.slice a' ((iRows g).length + 1) c') fun hd' hhd' => ?_
          refine ⟨⟨by omega, by dsimp only; omega⟩, ?_⟩
          refine ⟨_, hget, ?_⟩
          have e1 : (hds.map fun h => [h]).set ((k : Nat) : Int).toNat [Value.slice a' ((iRows g).length + 1) c'] = (hds.set k hd').map fun h => [h] := by rw [Int.toNat_natCast, hhd', List.map_set]
          have e2 : (famT hds (toR w L i j)).take k ++ (Value.slice a' ((iRows g).length + 1) c', iRows g ++ [[Value.int .i64 (i : Nat)]]) :: (famT hds (toR w L i j)).drop (k + 1) = famT (hds.set k hd') (toR w L i (j + 1)) := by
            rw [toR_step hrr hxx hkw hgg, famT_set hkd hkg, hhd']; simp
          refine ⟨⟨by dsimp only; omega, by dsimp only; omega⟩, (j + 1, hds.set k hd'), [(0, 0), (1, 1)], ?_, ⟨rfl, by dsimp only; omega, by dsimp only; rw [List.length_set]; exact hdl⟩, by dsimp only; omega⟩
          (repeat' (first|exact trivial|refine ⟨?_,?_⟩|exact rfl|assumption))
        · have hjl : j = r.length := by have := df h; dsimp only at this; omega
          subst hjl
          have e1 : famT hds (toR w L i r.length) = famT hds (toL w (L.take (i + 1))) := by rw [toR_end w hrr]
          have e2 := e1.symm
          refine ⟨⟨by omega, by omega⟩, (i + 1, hds), [(0, 0), (1, 1)], ?_, ⟨rfl, by dsimp only; omega, hdl⟩, by dsimp only; omega⟩
          (repeat' (first|exact trivial|refine ⟨?_,?_⟩|exact rfl|assumption))
      · have hil : i = L.length := by have := df h; dsimp only at this; omega
        subst hil
        have e1 : famT hds (toL w (L.take L.length)) = famT hds (toL w L) := by rw [List.take_length]
        have e2 := e1.symm
        refine ⟨.own 0, [(0, .row 28 1 (hds.map fun h => [h])), (1, .fam 3 1 (famT hds (toL w L)))], 2, [(0, 0), (1, 1)], ?_, rfl, hds, hdl, rfl, rfl⟩
        (repeat' (first|exact trivial|refine ⟨?_,?_⟩|exact rfl|assumption))
  · rintro x t H1 ⟨rfl, hds, hdl, rfl, rfl⟩ hle
    refine .inr ⟨0, 1, 28, 1, hds.map fun h => [h], 3, 1, famT hds (toL w L), fun v => v, fun _ => rfl, rfl, rfl, by decide, fun v H' hle2 hv hf => ?_⟩
    obtain ⟨a1, n1, c1, rfl, hr1⟩ := rl_famT (by rw [hdl, toL, List.length_map, List.length_range]) hv hf (toL_in hL)
    exact hK _ _ _ _ (hle.trans hle2) hr1
end Go.Proofs
end
section
namespace Go.Proofs
open Go.Sy
set_option maxRecDepth 20000
set_option maxHeartbeats 4000000
theorem from_in {p : Prog} (he : checkE p = 0) : ∀ r ∈ fromP p (usesP p), ∀ x ∈ r, 0 ≤ x ∧ x < ((sitesOf p).length : Int) := fun r hr x hx => by
  obtain ⟨u, _, rfl⟩ := List.mem_map.1 hr
  unfold ofS at hx
  split at hx
  · rename_i h0
    rw [List.mem_singleton] at hx
    have := lastS_in (sitesOf p) u.1 u.2.1 u.2.2.l
    omega
  · rw [pickV, List.mem_filter] at hx
    have hx := hx.1
    cases h : (reachI p)[u.1.toNat]? with
    | none => rw [h] at hx; cases hx
    | some I =>
      rw [h, Option.getD_some] at hx
      rw [reachI, List.getElem?_map] at h
      cases h2 : (Bt.solveS (csysOf p))[u.1.toNat]? with
      | none => rw [h2] at h; cases h
      | some y =>
        rw [h2] at h
        cases h
        exact num_in ((Bt.solveS_ok (csysOf_ok he)).ok y (List.mem_of_getElem? h2)) x hx
theorem from_len {p : Prog} (he : checkE p = 0) : ∀ r ∈ fromP p (usesP p), r.length ≤ 1000 := fun r hr => by
  obtain ⟨u, _, rfl⟩ := List.mem_map.1 hr
  unfold ofS
  split
  · simp
  · cases h : (reachI p)[u.1.toNat]? with
    | none => simp [pickV]
    | some I =>
      rw [Option.getD_some]
      rw [reachI, List.getElem?_map] at h
      cases h2 : (Bt.solveS (csysOf p))[u.1.toNat]? with
      | none => rw [h2] at h; cases h
      | some y =>
        rw [h2] at h
        cases h
        have hk := (Bt.solveS_ok (csysOf_ok he)).ok y (List.mem_of_getElem? h2)
        have h3 : (pickV (sitesOf p) u.2.2.l (numB y)).length ≤ (numB y).length := List.length_filter_le _ _
        have h4 := bitsTo_len y (csysOf p).w
        rw [← numB_eq hk] at h4
        have h5 := sites_len he
        have e : (csysOf p).w = (sitesOf p).length := rfl
        show (pickV (sitesOf p) u.2.2.l (numB y)).length ≤ 1000
        omega
def toP (p : Prog) : List (List Int) := toL (sitesOf p).length (fromP p (usesP p))
theorem cto_spec {p : Prog} (hp : p.length ≤ 12) (hl : ∀ b ∈ p, b.2.1.length ≤ 100000) (hc : stmtsN p ≤ 1000000) (hc2 : stmtsN p ≤ 1000) (hv : cnt p < 400000) {a : Option Addr} {n c : Nat} {H : Hp} {K : Value → Hp → Prop} (ha : RL H a n c p) (hT : TabH H)
    (hbad : checkE p ≠ 0 → ∀ H', Le H H' → K (.tuple #[.slice none 0 0, .int .i64 (checkE p)]) H')
    (hK : checkE p = 0 → ∀ a1 n1 c1 H', Le H H' → RL (α := List Int) H' a1 n1 c1 (toP p) → K (.tuple #[.slice a1 n1 c1, .int .i64 0]) H') :
    Does Tryz.prog 34 [.agg #[.slice a n c]] H K := by
  have hZl : (usesP p).length ≤ 2 * stmtsN p + p.length := useB_len p 0
  refine spec_of cx_ok cx_mix rfl Tryz.func34 Tryz.call34 Tryz.ntmps34 Tryz.results34 rfl rfl ?_
  refine cfrom_spec hp hl hc hc2 hv ha hT (fun he H1 hle1 => ?_) (fun he a1 n1 c1 H1 hle1 hr1 => ?_)
  · refine ⟨fun _ => hbad he _ hle1, fun h => absurd (nf h) he⟩
  refine ⟨fun h => absurd rfl (nt h), fun _ => ?_⟩
  have hz5 := sites_len he
  have hv64 := vars64 he
  refine tsites_spec hp hl hc hv hv64 (ha.up hle1) fun az nz cz H2 hle2 hrz => ?_
  have hnz := hrz.n_eq
  subst hnz
  refine turned_spec (by omega) (by rw [fromP, List.length_map]; omega) (from_len he) (from_in he) (hr1.up hle2) fun a3 n3 c3 H3 hle3 hr3 => ?_
  exact hK he _ _ _ _ ((hle1.trans hle2).trans hle3) hr3
end Go.Proofs
end
section
namespace Go.Proofs
open Go.Sy
set_option maxRecDepth 20000
set_option maxHeartbeats 4000000
def pickN (P : Nat → Bool) (i : Nat) : List Int := ((List.range i).filter P).map fun (k : Nat) => (k : Int)
theorem pickN_succ (P : Nat → Bool) (i : Nat) : pickN P (i + 1) = pickN P i ++ (if P i = true then [(i : Int)] else []) := by
  rw [pickN, List.range_succ, List.filter_append, List.map_append]
  by_cases h : P i = true
  · rw [if_pos h]; simp [h, pickN]
  · rw [if_neg h]; simp [h, pickN]
theorem pickN_len (P : Nat → Bool) (i : Nat) : (pickN P i).length ≤ i := by
  have := List.length_filter_le P (List.range i)
  rw [List.length_range] at this
  rw [pickN, List.length_map]; exact this
theorem pickN_in (P : Nat → Bool) {i : Nat} (hi : i ≤ 1000000) : ∀ x ∈ pickN P i, inI x := fun x hx => by
  obtain ⟨k, hk, rfl⟩ := List.mem_map.1 hx
  have := List.mem_range.1 (List.mem_filter.1 hk).1
  exact ⟨by omega, by omega⟩
theorem site_blk {p : Prog} {i : Nat} {x : Site} (h : (sitesOf p)[i]? = some x) : 0 ≤ x.1 ↔ (varsOf p).length ≤ i := by
  have hl : (site0 (varsOf p)).length = (varsOf p).length := List.length_map _
  rw [sitesOf, List.getElem?_append, hl] at h
  split at h
  · rename_i hi
    rw [site0, List.getElem?_map, List.getElem?_eq_getElem hi] at h
    cases h
    constructor
    · intro h; have h : (0 : Int) ≤ -1 := h; omega
    · intro h; omega
  · rename_i hi
    have := siteP_blk p 0 x (List.mem_of_getElem? h)
    constructor
    · intro _; omega
    · intro _; omega
def unB (p : Prog) (i : Nat) : Bool := decide ((varsOf p).length ≤ i) && decide (((toP p)[i]?.getD []).length = 0)
def unP (p : Prog) : List Int := pickN (unB p) (sitesOf p).length
theorem cunused_spec {p : Prog} (hp : p.length ≤ 12) (hl : ∀ b ∈ p, b.2.1.length ≤ 100000) (hc : stmtsN p ≤ 1000000) (hc2 : stmtsN p ≤ 1000) (hv : cnt p < 400000) {a : Option Addr} {n c : Nat} {H : Hp} {K : Value → Hp → Prop} (ha : RL H a n c p) (hT : TabH H)
    (hbad : checkE p ≠ 0 → ∀ H', Le H H' → K (.tuple #[.slice none 0 0, .int .i64 (checkE p)]) H')
    (hK : checkE p = 0 → ∀ a1 n1 c1 H', Le H H' → RL (α := Int) H' a1 n1 c1 (unP p) → K (.tuple #[.slice a1 n1 c1, .int .i64 0]) H') :
    Does Tryz.prog 35 [.agg #[.slice a n c]] H K := by
  refine spec_of cx_ok cx_mix rfl Tryz.func35 Tryz.call35 Tryz.ntmps35 Tryz.results35 rfl rfl ?_
  refine cto_spec hp hl hc hc2 hv ha hT (fun he H1 hle1 => ?_) (fun he a1 n1 c1 H1 hle1 hr1 => ?_)
  · refine ⟨fun _ => hbad he _ hle1, fun h => absurd (nf h) he⟩
  refine ⟨fun h => absurd rfl (nt h), fun _ => ?_⟩
  have hz5 := sites_len he
  have hv64 := vars64 he
  refine tsites_spec hp hl hc hv hv64 (ha.up hle1) fun az nz cz H2 hle2 hrz => ?_
  have hnz := hrz.n_eq
  subst hnz
  have hr1 := hr1.up hle2
  have hn1 := hr1.n_eq
  have htl : (toP p).length = (sitesOf p).length := by rw [toP, toL, List.length_map, List.length_range]
  refine ⟨Nat, fun i => ⟨[(4, .v (.slice a1 n1 c1)), (6, .own 1), (18, .v (.slice az (sitesOf p).length cz)), (19, .v (.int .i64 ((sitesOf p).length : Nat))), (20, .v (.int .i64 i))], [(0, .cells 24 [.v (.slice a n c)]), (1, .row 3 1 (iRows (pickN (unB p) i)))], 2⟩,
    fun i H' => H' = H2 ∧ i ≤ (sitesOf p).length, fun i => (sitesOf p).length - i, ⟨0, [(0, 0)], ?_, rfl, Nat.zero_le _⟩, ?_⟩
  · have e1 : iRows (pickN (unB p) 0) = [] := rfl
    (repeat' (first|exact trivial|refine ⟨?_,?_⟩|exact rfl|assumption))
  rintro i H3 _ ⟨rfl, hi⟩
  have hpl := pickN_len (unB p) i
  have hxl : (iRows (pickN (unB p) i)).length = (pickN (unB p) i).length := List.length_map _
  refine ⟨fun h => ?_, fun h => ?_⟩
  · have hlt : i < (sitesOf p).length := by have := dt h; omega
    refine name_k (sitesOf p)[i] fun x hxe => ?_
    have hxx : (sitesOf p)[i]? = some x := by rw [hxe]; exact List.getElem?_eq_getElem hlt
    have hbk := site_blk hxx
    refine name_k ((toP p)[i]'(by omega)) fun g hge => ?_
    have hgg : (toP p)[i]? = some g := by rw [hge]; exact List.getElem?_eq_getElem _
    refine site_k hrz hxx fun ad q1 hh _ => ?_
    refine ⟨ad, ⟨by omega, by omega, q1⟩, ?_⟩
    refine ⟨_, hh, ?_⟩
    refine ⟨fun h1 => ?_, fun h1 => ?_⟩
    · have h1 : 0 ≤ x.1 := dt h1
      refine list_k hr1 hgg fun ad2 a5 n5 c5 q2 hh2 hr5 => ?_
      have hn5 := hr5.n_eq
      refine ⟨ad2, ⟨by omega, by omega, q2⟩, ?_⟩
      refine ⟨_, hh2, ?_⟩
      refine ⟨fun h2 => ?_, fun h2 => ?_⟩
      · have h2 : g.length = 0 := by have := dt h2; omega
        have hyes : unB p i = true := by rw [unB, hgg, Option.getD_some, decide_eq_true (hbk.1 h1), decide_eq_true h2]; rfl
        have e1 : iRows (pickN (unB p) i) ++ [[.int .i64 (i : Nat)]] = iRows (pickN (unB p) (i + 1)) := by rw [pickN_succ, if_pos hyes, iRows, iRows, List.map_append]; rfl
        refine ⟨⟨by show (_ + 1) * 8 ≤ 140737488355328; omega, by show _ + 1 ≤ 9223372036854775807; omega⟩, ?_⟩
        refine ⟨⟨by omega, by omega⟩, i + 1, [(0, 0), (1, 4)], ?_, ⟨rfl, hlt⟩, by dsimp only; omega⟩
        (repeat' (first|exact trivial|refine ⟨?_,?_⟩|exact rfl|assumption))
      · have h2 : ¬ g.length = 0 := by have := df h2; omega
        have hno : unB p i = false := by rw [unB, hgg, Option.getD_some, decide_eq_false h2, Bool.and_false]
        have e1 : iRows (pickN (unB p) i) = iRows (pickN (unB p) (i + 1)) := by rw [pickN_succ, if_neg (by rw [hno]; decide), List.append_nil]
        refine ⟨⟨by omega, by omega⟩, i + 1, [(0, 0), (1, 1)], ?_, ⟨rfl, hlt⟩, by dsimp only; omega⟩
        (repeat' (first|exact trivial|refine ⟨?_,?_⟩|exact rfl|assumption))
    · have h1 : ¬ 0 ≤ x.1 := df h1
      have hno : unB p i = false := by rw [unB, decide_eq_false (fun h => h1 (hbk.2 h)), Bool.false_and]
      have e1 : iRows (pickN (unB p) i) = iRows (pickN (unB p) (i + 1)) := by rw [pickN_succ, if_neg (by rw [hno]; decide), List.append_nil]
      refine ⟨⟨by omega, by omega⟩, i + 1, [(0, 0), (1, 1)], ?_, ⟨rfl, hlt⟩, by dsimp only; omega⟩
      (repeat' (first|exact trivial|refine ⟨?_,?_⟩|exact rfl|assumption))
  · have hil : i = (sitesOf p).length := by have := df h; omega
    subst hil
    intro v H5 hle5 hv5
    refine of_row_k (α := Int) hv5 (rc_iRows (pickN_in _ (by omega))) fun d1 d2 d3 ev hr => ?_
    subst ev
    exact hK he _ _ _ _ ((hle1.trans hle2).trans hle5.le) hr
end Go.Proofs
end
section
namespace Go.Proofs
open Go.Sy
set_option maxRecDepth 20000
set_option maxHeartbeats 4000000
noncomputable def cxF : Cx := { P := Tryz.prog, tt := tt, n := 0, wrap := false, base := 0, gf := 84 :: cx.gf, eqs := cx.eqs, xf := [] }
theorem cxF_ok : TOK cxF := ⟨cx_ok.tt, cx_ok.eqs⟩
abbrev bFr (m : Nat) : List (Nat × Bx) := [(0, .cells 3 [.v (.int .i64 (m : Nat))])]
theorem fresh1_spec {m : Nat} {x : Int} {H : Hp} {K : SV → St → Hp → Prop} (hK : K (.v (.bool (decide (x < (m : Int))))) ⟨[], bFr m, 1⟩ H) : DoesG Tryz.prog 85 [.v (.int .i64 x), .ptr 0 0] (bFr m) 1 H K := by
  refine spec_ofG cx_ok cx_mix Tryz.func85 Tryz.call85 Tryz.ntmps85 Tryz.results85 rfl rfl ?_
  exact ⟨.v (.bool (decide (x < (m : Int)))), bFr m, 1, [(0, 0)], by (repeat' (first|exact trivial|refine ⟨?_,?_⟩|exact rfl|assumption)), hK⟩
def idxM (m : Int) : List Int → Nat → Int
  | [], _ => -1
  | x :: r, i => if decide (x < m) = true then (i : Int) else idxM m r (i + 1)
theorem idxM_any (m : Int) : ∀ (l : List Int) (i : Nat), decide (0 ≤ idxM m l i) = l.any fun x => decide (x < m)
  | [], _ => rfl
  | x :: r, i => by
    rw [idxM, List.any_cons]
    by_cases h : decide (x < m) = true
    · rw [if_pos h, h, Bool.true_or, decide_eq_true (Int.natCast_nonneg i)]
    · rw [if_neg h, idxM_any m r (i + 1)]
      simp only [Bool.not_eq_true] at h
      rw [h, Bool.false_or]
theorem idxM_spec {m : Nat} {X : List Int} (hXl : X.length ≤ 100000) {a : Option Addr} {n c : Nat} {H : Hp} {K : SV → St → Hp → Prop} (ha : RL H a n c X) (hK : K (.v (.int .i64 (idxM m X 0))) ⟨[], bFr m, 1⟩ H) :
    DoesG Tryz.prog 120 [.v (.slice a n c), .fn 85 [.ptr 0 0]] (bFr m) 1 H K := by
  have hn := ha.n_eq
  refine spec_ofG cx_ok cx_mix Tryz.func120 Tryz.call120 Tryz.ntmps120 Tryz.results120 rfl rfl ?_
  refine ⟨Nat, fun j => ⟨[(0, .v (.slice a n c)), (1, .fn 85 [.ptr 0 0]), (7, .v (.int .i64 n)), (8, .v (.int .i64 j))], bFr m, 1⟩,
    fun j H' => H' = H ∧ j ≤ X.length ∧ idxM m X 0 = idxM m (X.drop j) j, fun j => X.length - j, ⟨0, [(0, 0)], ?_, rfl, Nat.zero_le _, rfl⟩, ?_⟩
  · (repeat' (first|exact trivial|refine ⟨?_,?_⟩|exact rfl|assumption))
  rintro j H1 _ ⟨rfl, hj, hx⟩
  refine ⟨fun h => ?_, fun h => ?_⟩
  · have hlt : j < X.length := by have := dt h; omega
    refine name_k X[j] fun x hxe => ?_
    have hxx : X[j]? = some x := by rw [hxe]; exact List.getElem?_eq_getElem hlt
    have hd : X.drop j = x :: X.drop (j + 1) := by rw [List.drop_eq_getElem_cons hlt, hxe]
    rw [hd, idxM] at hx
    refine int_k ha hxx fun ad q hh => ?_
    refine ⟨ad, ⟨by omega, by omega, q⟩, ?_⟩
    refine ⟨_, hh, ?_⟩
    refine ⟨[0], rfl, fresh1_spec ?_⟩
    refine ⟨fun h => ?_, fun h => ?_⟩
    · rw [if_pos h] at hx
      rw [hx] at hK
      exact ⟨.v (.int .i64 (j : Int)), bFr m, 1, [(0, 0)], by (repeat' (first|exact trivial|refine ⟨?_,?_⟩|exact rfl|assumption)), hK⟩
    · rw [if_neg (by rw [h]; decide)] at hx
      refine ⟨⟨by omega, by omega⟩, j + 1, [(0, 0)], ?_, ⟨rfl, hlt, hx⟩, by dsimp only; omega⟩
      (repeat' (first|exact trivial|refine ⟨?_,?_⟩|exact rfl|assumption))
  · have hjl : j = X.length := by have := df h; omega
    rw [hjl, List.drop_length, idxM] at hx
    rw [hx] at hK
    exact ⟨.v (.int .i64 (-1)), bFr m, 1, [(0, 0)], by (repeat' (first|exact trivial|refine ⟨?_,?_⟩|exact rfl|assumption)), hK⟩
theorem contM_spec {m : Nat} {X : List Int} (hXl : X.length ≤ 100000) {a : Option Addr} {n c : Nat} {H : Hp} {K : SV → St → Hp → Prop} (ha : RL H a n c X) (hK : K (.v (.bool (X.any fun x => decide (x < (m : Int))))) ⟨[], bFr m, 1⟩ H) :
    DoesG Tryz.prog 84 [.v (.slice a n c), .fn 85 [.ptr 0 0]] (bFr m) 1 H K := by
  rw [← idxM_any (m : Int) X 0] at hK
  refine spec_ofG cx_ok cx_mix Tryz.func84 Tryz.call84 Tryz.ntmps84 Tryz.results84 rfl rfl ?_
  refine ⟨[0], rfl, idxM_spec hXl ha ?_⟩
  exact ⟨.v (.bool (decide (0 ≤ idxM m X 0))), bFr m, 1, [(0, 0)], by (repeat' (first|exact trivial|refine ⟨?_,?_⟩|exact rfl|assumption)), hK⟩
def frB (p : Prog) (i : Nat) : Bool := ((fromP p (usesP p))[i]?.getD []).any fun x => decide (x < ((varsOf p).length : Int))
def frP (p : Prog) : List Int := pickN (frB p) (usesP p).length
theorem cfresh_spec {p : Prog} (hp : p.length ≤ 12) (hl : ∀ b ∈ p, b.2.1.length ≤ 100000) (hc : stmtsN p ≤ 1000000) (hc2 : stmtsN p ≤ 1000) (hv : cnt p < 400000) {a : Option Addr} {n c : Nat} {H : Hp} {K : Value → Hp → Prop} (ha : RL H a n c p) (hT : TabH H)
    (hbad : checkE p ≠ 0 → ∀ H', Le H H' → K (.tuple #[.slice none 0 0, .int .i64 (checkE p)]) H')
    (hK : checkE p = 0 → ∀ a1 n1 c1 H', Le H H' → RL (α := Int) H' a1 n1 c1 (frP p) → K (.tuple #[.slice a1 n1 c1, .int .i64 0]) H') :
    Does Tryz.prog 36 [.agg #[.slice a n c]] H K := by
  have hZl : (usesP p).length ≤ 2 * stmtsN p + p.length := useB_len p 0
  refine spec_of cxF_ok cx_mix rfl Tryz.func36 Tryz.call36 Tryz.ntmps36 Tryz.results36 rfl rfl ?_
  refine cfrom_spec hp hl hc hc2 hv ha hT (fun he H1 hle1 => ?_) (fun he a1 n1 c1 H1 hle1 hr1 => ?_)
  · refine ⟨fun _ => hbad he _ hle1, fun h => absurd (nf h) he⟩
  refine ⟨fun h => absurd rfl (nt h), fun _ => ?_⟩
  refine pvars_spec (ha.up hle1) hv fun av nv cv H2 hle2 hrv => ?_
  have hnv := hrv.n_eq
  rw [List.length_map] at hnv
  subst hnv
  have hr1 := hr1.up hle2
  have hn1 := hr1.n_eq
  have hfl : (fromP p (usesP p)).length = (usesP p).length := List.length_map _
  refine ⟨Nat, fun i => ⟨[(4, .v (.slice a1 n1 c1)), (6, .ptr 1 0), (7, .own 2), (21, .v (.slice a1 n1 c1)), (22, .v (.int .i64 n1)), (23, .v (.int .i64 i))], [(0, .cells 24 [.v (.slice a n c)]), (1, .cells 3 [.v (.int .i64 ((varsOf p).length : Nat))]), (2, .row 3 1 (iRows (pickN (frB p) i)))], 3⟩,
    fun i H' => H' = H2 ∧ i ≤ (usesP p).length, fun i => (usesP p).length - i, ⟨0, [(0, 0), (1, 1)], ?_, rfl, Nat.zero_le _⟩, ?_⟩
  · have e1 : iRows (pickN (frB p) 0) = [] := rfl
    (repeat' (first|exact trivial|refine ⟨?_,?_⟩|exact rfl|assumption))
  rintro i H3 _ ⟨rfl, hi⟩
  have hpl := pickN_len (frB p) i
  have hxl : (iRows (pickN (frB p) i)).length = (pickN (frB p) i).length := List.length_map _
  refine ⟨fun h => ?_, fun h => ?_⟩
  · have hlt : i < (usesP p).length := by have := dt h; omega
    refine name_k ((fromP p (usesP p))[i]'(by omega)) fun g hge => ?_
    have hgg : (fromP p (usesP p))[i]? = some g := by rw [hge]; exact List.getElem?_eq_getElem _
    have hgl := from_len he g (List.mem_of_getElem? hgg)
    have hfb : frB p i = g.any fun x => decide (x < ((varsOf p).length : Int)) := by rw [frB, hgg, Option.getD_some]
    refine list_k hr1 hgg fun ad2 a5 n5 c5 q2 hh2 hr5 => ?_
    refine ⟨ad2, ⟨by omega, by omega, q2⟩, ?_⟩
    refine ⟨_, hh2, ?_⟩
    refine ⟨[1], rfl, contM_spec (m := (varsOf p).length) (by omega) hr5 ?_⟩
    refine ⟨fun h => ?_, fun h => ?_⟩
    · have hyes : frB p i = true := hfb.trans h
      have e1 : iRows (pickN (frB p) i) ++ [[.int .i64 (i : Nat)]] = iRows (pickN (frB p) (i + 1)) := by rw [pickN_succ, if_pos hyes, iRows, iRows, List.map_append]; rfl
      refine ⟨⟨by show (_ + 1) * 8 ≤ 140737488355328; omega, by show _ + 1 ≤ 9223372036854775807; omega⟩, ?_⟩
      refine ⟨⟨by omega, by omega⟩, i + 1, [(0, 0), (1, 1), (2, 4)], ?_, ⟨rfl, hlt⟩, by dsimp only; omega⟩
      (repeat' (first|exact trivial|refine ⟨?_,?_⟩|exact rfl|assumption))
    · have hno : frB p i = false := hfb.trans h
      have e1 : iRows (pickN (frB p) i) = iRows (pickN (frB p) (i + 1)) := by rw [pickN_succ, if_neg (by rw [hno]; decide), List.append_nil]
      refine ⟨⟨by omega, by omega⟩, i + 1, [(0, 0), (1, 1), (2, 2)], ?_, ⟨rfl, hlt⟩, by dsimp only; omega⟩
      (repeat' (first|exact trivial|refine ⟨?_,?_⟩|exact rfl|assumption))
  · have hil : i = (usesP p).length := by have := df h; omega
    subst hil
    intro v H5 hle5 hv5
    refine of_row_k (α := Int) hv5 (rc_iRows (pickN_in _ (by omega))) fun d1 d2 d3 ev hr => ?_
    subst ev
    exact hK he _ _ _ _ ((hle1.trans hle2).trans hle5.le) hr
end Go.Proofs
end
section
namespace Go.Proofs
open Go.Sy
set_option maxRecDepth 20000
set_option maxHeartbeats 4000000
theorem fromP_take {p : Prog} {l : List Site} {i : Nat} {u : Site} (h : l[i]? = some u) : fromP p (l.take (i + 1)) = fromP p (l.take i) ++ [ofS (sitesOf p) ((reachI p)[u.1.toNat]?.getD []) u.1 u.2.1 u.2.2.l] := by
  rw [List.take_add_one, h, Option.toList_some, fromP_snoc]
theorem rfrom_spec {p : Prog} (he : checkE p = 0) (hp : p.length ≤ 12) (hl : ∀ b ∈ p, b.2.1.length ≤ 100000) (hc : stmtsN p ≤ 1000000) (hc2 : stmtsN p ≤ 1000) (hv : cnt p < 400000) {a : Option Addr} {n c : Nat} {H : Hp} {K : Value → Hp → Prop} (ha : RL H a n c p)
    (hK : ∀ a1 n1 c1 H', Le H H' → RL (α := List Int) H' a1 n1 c1 (fromP p (usesP p)) → K (.slice a1 n1 c1) H') :
    Does Tryz.prog 37 [.agg #[.slice a n c]] H K := by
  have hZl : (usesP p).length ≤ 2 * stmtsN p + p.length := useB_len p 0
  have ho := csysOf_ok he
  have hA := Bt.solveS_ok ho
  have hmA : (Bt.solveS (csysOf p)).length = p.length := hA.len
  have hz5 := sites_len he
  refine spec_of cx_ok cx_mix rfl Tryz.func37 Tryz.call37 Tryz.ntmps37 Tryz.results37 rfl rfl ?_
  refine rchs_spec he hp hl hc hv ha fun z H1 hle1 hs1 => ?_
  refine Bt.rleast_spec ho hs1 fun a2 n2 c2 H2 hle2 hr2 => ?_
  refine ruses48_spec hp hl hc2 (ha.up (hle1.trans hle2)) fun a3 n3 c3 H3 hle3 hr3 => ?_
  have hn3 := hr3.n_eq
  have hr2 := hr2.up hle3
  have hn2 := hr2.n_eq
  rw [hmA] at hn2
  have h03 := (hle1.trans hle2).trans hle3
  refine ⟨Nat × List (List Value), fun q => ⟨[(1, .ptr 0 0), (3, .v (.slice a2 n2 c2)), (4, .own 1), (11, .v (.slice a3 n3 c3)), (12, .v (.int .i64 n3)), (13, .v (.int .i64 q.1))], [(0, .cells 24 [.v (.slice a n c)]), (1, .row 28 1 q.2)], 2⟩,
    fun q H' => Le H3 H' ∧ q.1 ≤ (usesP p).length ∧ RC (α := List Int) H' q.2 (fromP p ((usesP p).take q.1)), fun q => (usesP p).length - q.1, ⟨(0, []), [(0, 0)], ?_, Le.refl _, Nat.zero_le _, RC.nil⟩, ?_⟩
  · (repeat' (first|exact trivial|refine ⟨?_,?_⟩|exact rfl|assumption))
  rintro ⟨i, css⟩ H4 _ ⟨hle4, hi, hrc⟩
  dsimp only at hi hrc
  have hcl : css.length = i := by
    have := hrc.1
    rw [fromP, List.length_map, List.length_take] at this
    omega
  refine ⟨fun h => ?_, fun h => ?_⟩
  · have hlt : i < (usesP p).length := by have := dt h; dsimp only at this; omega
    refine name_k (usesP p)[i] fun u hue => ?_
    have huu : (usesP p)[i]? = some u := by rw [hue]; exact List.getElem?_eq_getElem hlt
    obtain ⟨b, hb0, hbb, _⟩ := uses_ok (List.mem_of_getElem? huu)
    have hlt1 := (List.getElem?_eq_some_iff.1 hbb).1
    refine name_k ((Bt.solveS (csysOf p))[u.1.toNat]'(by omega)) fun x hxe => ?_
    have hxx : (Bt.solveS (csysOf p))[u.1.toNat]? = some x := by rw [hxe]; exact List.getElem?_eq_getElem _
    have hok := hA.ok x (List.mem_of_getElem? hxx)
    have gI : (reachI p)[u.1.toNat]? = some (numB x) := by rw [reachI, List.getElem?_map, hxx]; rfl
    have hw5 : (csysOf p).w = (sitesOf p).length := rfl
    have hs1' : x.length ≤ 10000 := by have h1 := hok.1; rw [sizeB] at h1; omega
    have hIl : (numB x).length ≤ 100000 := by
      have h4 := bitsTo_len x (csysOf p).w
      rw [← numB_eq hok] at h4
      omega
    refine site_k (hr3.up hle4) huu fun ad q1 hh _ => ?_
    refine ⟨ad, ⟨by dsimp only; omega, by dsimp only; omega, q1⟩, ?_⟩
    refine ⟨_, hh, ?_⟩
    refine list_k (hr2.up hle4) hxx fun ad2 a5 n5 c5 q2 hh2 hr5 => ?_
    rw [Int.toNat_of_nonneg hb0] at hh2
    refine ⟨some ([1, 3, 4], [0, 1, 2, 3, 4, 5, 6, 8, 9, 10, 11, 12, 13, 7, 14, 15, 16, 17]), by kernel_rfl, ?_⟩
    refine ⟨ad2, ⟨by omega, by omega, q2⟩, ?_⟩
    refine ⟨_, hh2, ?_⟩
    refine r10list_spec hs1' hr5 fun d1 d2 d3 H6 hle6 hr7 => ?_
    refine rof39_spec he hp hl hc hv (num_in hok) hIl (ha.up ((h03.trans hle4).trans hle6)) hr7 fun e1 e2 e3 H7 hle7 hr8 => ?_
    have k1 : RC (α := List Int) H7 (css ++ [[.slice e1 e2 e3]]) (fromP p ((usesP p).take (i + 1))) := by
      rw [fromP_take huu, gI, Option.getD_some]
      exact rc_snocI (RC.up hrc (hle6.trans hle7)) hr8
    refine ⟨⟨by show (css.length + 1) * 24 ≤ 140737488355328; omega, by show css.length + 1 ≤ 9223372036854775807; omega⟩, ?_⟩
    refine ⟨⟨by dsimp only; omega, by dsimp only; omega⟩, (i + 1, css ++ [[.slice e1 e2 e3]]), [(0, 0), (1, 4)], ?_, ⟨(hle4.trans hle6).trans hle7, hlt, k1⟩, by dsimp only; omega⟩
    (repeat' (first|exact trivial|refine ⟨?_,?_⟩|exact rfl|assumption))
  · have hil : i = (usesP p).length := by have := df h; dsimp only at this; omega
    subst hil
    rw [List.take_length] at hrc
    intro v H5 hle5 hv5
    refine of_row_k (α := List Int) hv5 (RC.up hrc hle5.le) fun d1 d2 d3 ev hr => ?_
    subst ev
    exact hK _ _ _ _ ((h03.trans hle4).trans hle5.le) hr
end Go.Proofs
end
section
namespace Go.Proofs
open Go.Sy
set_option maxRecDepth 20000
set_option maxHeartbeats 4000000
def tRow (s : Int) (L : List (List Int)) (i j : Nat) : List Int := tS s (L.take i) 0 ++ (((L[i]?.getD []).take j).filter fun x => decide (x = s)).map fun _ => (i : Int)
theorem tRow_zero (s : Int) (L : List (List Int)) (i : Nat) : tRow s L i 0 = tS s (L.take i) 0 := by
  rw [tRow, List.take_zero, List.filter_nil, List.map_nil, List.append_nil]
theorem tRow_end (s : Int) {L : List (List Int)} {i : Nat} {r : List Int} (h : L[i]? = some r) : tRow s L i r.length = tS s (L.take (i + 1)) 0 := by
  rw [tRow, tS_take _ L 0 i r h, h, Option.getD_some, List.take_length, Nat.zero_add]
theorem tRow_succ (s : Int) {L : List (List Int)} {i j : Nat} {r : List Int} {x : Int} (h : L[i]? = some r) (hx : r[j]? = some x) : tRow s L i (j + 1) = tRow s L i j ++ if x = s then [(i : Int)] else [] := by
  rw [tRow, tRow, h, Option.getD_some, List.take_add_one, hx, Option.toList_some, List.filter_append, List.map_append, List.append_assoc]
  congr 2
  by_cases e : x = s
  · rw [if_pos e]; simp [e]
  · rw [if_neg e]; simp [e]
theorem tRow_len (s : Int) {L : List (List Int)} (hL : L.length ≤ 3000) (hr : ∀ r ∈ L, r.length ≤ 1000) (i : Nat) {r : List Int} (h : L[i]? = some r) (j : Nat) : (tRow s L i j).length ≤ 3001000 := by
  have h1 := tS_len s (L.take i) 0 fun r hr2 => hr r (List.mem_of_mem_take hr2)
  have h2 := List.length_filter_le (fun x => decide (x = s)) (r.take j)
  have h3 := hr r (List.mem_of_getElem? h)
  rw [List.length_take] at h1 h2
  rw [tRow, h, Option.getD_some, List.length_append, List.length_map]
  omega
theorem tS_all (s : Int) {L : List (List Int)} (hL : L.length ≤ 3000) : ∀ x ∈ tS s L 0, inI x := fun x hx => by
  have := tS_in s L 0 x hx
  exact ⟨by omega, by omega⟩
theorem toP_len (p : Prog) : (toP p).length = (sitesOf p).length := by rw [toP, toL, List.length_map, List.length_range]
theorem toP_get {p : Prog} {s : Nat} (h : s < (sitesOf p).length) : (toP p)[s]? = some (tS (s : Int) (fromP p (usesP p)) 0) := by
  rw [toP, toL, List.getElem?_map, List.getElem?_range h]; rfl
theorem rto_spec {p : Prog} (he : checkE p = 0) (hp : p.length ≤ 12) (hl : ∀ b ∈ p, b.2.1.length ≤ 100000) (hc : stmtsN p ≤ 1000000) (hc2 : stmtsN p ≤ 1000) (hv : cnt p < 400000) {a : Option Addr} {n c : Nat} {H : Hp} {K : Value → Hp → Prop} (ha : RL H a n c p)
    (hK : ∀ a1 n1 c1 H', Le H H' → RL (α := List Int) H' a1 n1 c1 (toP p) → K (.slice a1 n1 c1) H') :
    Does Tryz.prog 38 [.agg #[.slice a n c]] H K := by
  have hZl : (usesP p).length ≤ 2 * stmtsN p + p.length := useB_len p 0
  have hz5 := sites_len he
  have hv64 := vars64 he
  have hLr := from_len he
  refine spec_of cx_ok cx_mix rfl Tryz.func38 Tryz.call38 Tryz.ntmps38 Tryz.results38 rfl rfl ?_
  refine rfrom_spec he hp hl hc hc2 hv ha fun a1 n1 c1 H1 hle1 hr1 => ?_
  refine rsites_spec hp hl hc hv hv64 (ha.up hle1) fun az nz cz H2 hle2 hrz => ?_
  have hnz := hrz.n_eq
  subst hnz
  have hr1 := hr1.up hle2
  have hn1 := hr1.n_eq
  have h02 := hle1.trans hle2
  have htl := toP_len p
  have htg := fun s => toP_get (p := p) (s := s)
  have hLl : (fromP p (usesP p)).length ≤ 3000 := by rw [fromP, List.length_map]; omega
  generalize hTe : toP p = T at *
  generalize hLe : fromP p (usesP p) = L at *
  refine ⟨Nat × List (List Value), fun q => ⟨[(3, .v (.slice a1 n1 c1)), (4, .own 1), (15, .v (.int .i64 ((sitesOf p).length : Nat))), (16, .v (.int .i64 q.1))], [(0, .cells 24 [.v (.slice a n c)]), (1, .row 28 1 q.2)], 2⟩,
    fun q H' => Le H2 H' ∧ q.1 ≤ (sitesOf p).length ∧ RC (α := List Int) H' q.2 (T.take q.1), fun q => (sitesOf p).length - q.1, ⟨(0, []), [(0, 0)], ?_, Le.refl _, Nat.zero_le _, RC.nil⟩, ?_⟩
  · (repeat' (first|exact trivial|refine ⟨?_,?_⟩|exact rfl|assumption))
  rintro ⟨s, css⟩ H4 _ ⟨hle4, hi, hrc⟩
  dsimp only at hi hrc
  have hcl : css.length = s := by
    have := hrc.1
    rw [List.length_take] at this
    omega
  refine ⟨fun h => ?_, fun h => ?_⟩
  · have hlt : s < (sitesOf p).length := by have := dt h; dsimp only at this; omega
    refine ⟨Nat, fun u => ⟨[(3, .v (.slice a1 n1 c1)), (4, .own 1), (5, .v (.int .i64 s)), (6, .own 2), (15, .v (.int .i64 ((sitesOf p).length : Nat))), (16, .v (.int .i64 s)), (19, .v (.slice a1 n1 c1)), (20, .v (.int .i64 n1)), (21, .v (.int .i64 u))], [(0, .cells 24 [.v (.slice a n c)]), (1, .row 28 1 css), (2, .row 3 1 (iRows (tS (s : Int) (L.take u) 0)))], 3⟩,
      fun u H' => H' = H4 ∧ u ≤ L.length, fun u => L.length - u, ⟨0, [(0, 0), (1, 1)], ?_, rfl, Nat.zero_le _⟩, ?_⟩
    · have e1 : iRows (tS (s : Int) (L.take 0) 0) = [] := by rw [List.take_zero]; rfl
      (repeat' (first|exact trivial|refine ⟨?_,?_⟩|exact rfl|assumption))
    rintro u H5 _ ⟨rfl, hu⟩
    refine ⟨fun h => ?_, fun h => ?_⟩
    · have hul : u < L.length := by have := dt h; omega
      refine name_k L[u] fun r hre => ?_
      have hrr : L[u]? = some r := by rw [hre]; exact List.getElem?_eq_getElem hul
      refine list_k (hr1.up hle4) hrr fun ad a5 n5 c5 q1 hh hr5 => ?_
      have hn5 := hr5.n_eq
      have hrl := hLr r (List.mem_of_getElem? hrr)
      refine ⟨ad, ⟨by omega, by omega, q1⟩, ?_⟩
      refine ⟨_, hh, ?_⟩
      refine ⟨Nat, fun j => ⟨[(3, .v (.slice a1 n1 c1)), (4, .own 1), (5, .v (.int .i64 s)), (6, .own 2), (7, .v (.int .i64 u)), (15, .v (.int .i64 ((sitesOf p).length : Nat))), (16, .v (.int .i64 s)), (19, .v (.slice a1 n1 c1)), (20, .v (.int .i64 n1)), (21, .v (.int .i64 u)), (26, .v (.slice a5 n5 c5)), (27, .v (.int .i64 n5)), (28, .v (.int .i64 j))], [(0, .cells 24 [.v (.slice a n c)]), (1, .row 28 1 css), (2, .row 3 1 (iRows (tRow (s : Int) L u j)))], 3⟩,
        fun j H' => H' = H5 ∧ j ≤ r.length, fun j => r.length - j, ⟨0, [(0, 0), (1, 1), (2, 2)], ?_, rfl, Nat.zero_le _⟩, ?_⟩
      · have e1 : iRows (tS (s : Int) (L.take u) 0) = iRows (tRow (s : Int) L u 0) := by rw [tRow_zero]
        (repeat' (first|exact trivial|refine ⟨?_,?_⟩|exact rfl|assumption))
      rintro j H6 _ ⟨rfl, hj⟩
      have hgl := tRow_len (s : Int) hLl hLr u hrr j
      have hxl : (iRows (tRow (s : Int) L u j)).length = (tRow (s : Int) L u j).length := List.length_map _
      refine ⟨fun h => ?_, fun h => ?_⟩
      · have hlj : j < r.length := by have := dt h; omega
        refine name_k r[j] fun x hxe => ?_
        have hxx : r[j]? = some x := by rw [hxe]; exact List.getElem?_eq_getElem hlj
        have hsu := tRow_succ (s : Int) hrr hxx
        refine int_k hr5 hxx fun ad2 q2 hh2 => ?_
        refine ⟨ad2, ⟨by omega, by omega, q2⟩, ?_⟩
        refine ⟨_, hh2, ?_⟩
        refine ⟨fun h => ?_, fun h => ?_⟩
        · have hxs : x = (s : Int) := dt h
          rw [if_pos hxs] at hsu
          have e1 : iRows (tRow (s : Int) L u j) ++ [[.int .i64 (u : Nat)]] = iRows (tRow (s : Int) L u (j + 1)) := by rw [hsu, iRows, iRows, List.map_append]; rfl
          refine ⟨⟨by show (_ + 1) * 8 ≤ 140737488355328; omega, by show _ + 1 ≤ 9223372036854775807; omega⟩, ?_⟩
          refine ⟨⟨by omega, by omega⟩, j + 1, [(0, 0), (1, 1), (2, 4)], ?_, ⟨rfl, hlj⟩, by dsimp only; omega⟩
          (repeat' (first|exact trivial|refine ⟨?_,?_⟩|exact rfl|assumption))
        · have hxs : ¬ x = (s : Int) := df h
          rw [if_neg hxs, List.append_nil] at hsu
          have e1 : iRows (tRow (s : Int) L u j) = iRows (tRow (s : Int) L u (j + 1)) := by rw [hsu]
          refine ⟨⟨by omega, by omega⟩, j + 1, [(0, 0), (1, 1), (2, 2)], ?_, ⟨rfl, hlj⟩, by dsimp only; omega⟩
          (repeat' (first|exact trivial|refine ⟨?_,?_⟩|exact rfl|assumption))
      · have hjl : j = r.length := by have := df h; omega
        subst hjl
        have e1 : iRows (tRow (s : Int) L u r.length) = iRows (tS (s : Int) (L.take (u + 1)) 0) := by rw [tRow_end (s : Int) hrr]
        refine ⟨⟨by omega, by omega⟩, u + 1, [(0, 0), (1, 1), (2, 2)], ?_, ⟨rfl, hul⟩, by dsimp only; omega⟩
        (repeat' (first|exact trivial|refine ⟨?_,?_⟩|exact rfl|assumption))
    · have hul : u = L.length := by have := df h; omega
      subst hul
      rw [List.take_length]
      intro v H7 hle7 hv7
      refine of_row_k (α := Int) hv7 (rc_iRows (tS_all _ hLl)) fun d1 d2 d3 ev hr7 => ?_
      subst ev
      have k1 : RC (α := List Int) H7 (css ++ [[.slice d1 d2 d3]]) (T.take (s + 1)) := by
        rw [List.take_add_one, htg s hlt]
        exact rc_snocI (RC.up hrc hle7.le) hr7
      refine ⟨⟨by show (css.length + 1) * 24 ≤ 140737488355328; omega, by show css.length + 1 ≤ 9223372036854775807; omega⟩, ?_⟩
      refine ⟨⟨by omega, by omega⟩, (s + 1, css ++ [[.slice d1 d2 d3]]), [(0, 0), (1, 4)], ?_, ⟨hle4.trans hle7.le, by dsimp only; omega, k1⟩, by dsimp only; omega⟩
      (repeat' (first|exact trivial|refine ⟨?_,?_⟩|exact rfl|assumption))
  · have hil : s = (sitesOf p).length := by have := df h; dsimp only at this; omega
    rw [hil, ← htl, List.take_length] at hrc
    intro v H5 hle5 hv5
    refine of_row_k (α := List Int) hv5 (RC.up hrc hle5.le) fun d1 d2 d3 ev hr => ?_
    subst ev
    exact hK _ _ _ _ ((h02.trans hle4).trans hle5.le) hr
end Go.Proofs
end
section
namespace Go.Proofs
open Go.Sy
set_option maxRecDepth 20000
set_option maxHeartbeats 4000000
theorem runused_spec {p : Prog} (he : checkE p = 0) (hp : p.length ≤ 12) (hl : ∀ b ∈ p, b.2.1.length ≤ 100000) (hc : stmtsN p ≤ 1000000) (hc2 : stmtsN p ≤ 1000) (hv : cnt p < 400000) {a : Option Addr} {n c : Nat} {H : Hp} {K : Value → Hp → Prop} (ha : RL H a n c p)
    (hK : ∀ a1 n1 c1 H', Le H H' → RL (α := Int) H' a1 n1 c1 (unP p) → K (.slice a1 n1 c1) H') :
    Does Tryz.prog 39 [.agg #[.slice a n c]] H K := by
  have hz5 := sites_len he
  refine spec_of cx_ok cx_mix rfl Tryz.func39 Tryz.call39 Tryz.ntmps39 Tryz.results39 rfl rfl ?_
  refine rvars_spec ha hv fun av nv cv H1 hle1 hrv => ?_
  have hnv := hrv.n_eq
  rw [List.length_map] at hnv
  subst hnv
  refine rto_spec he hp hl hc hc2 hv (ha.up hle1) fun a1 n1 c1 H2 hle2 hr1 => ?_
  have hn1 := hr1.n_eq
  have htl := toP_len p
  refine ⟨Nat, fun i => ⟨[(3, .own 1), (4, .v (.int .i64 ((varsOf p).length : Nat))), (11, .v (.slice a1 n1 c1)), (12, .v (.int .i64 n1)), (13, .v (.int .i64 i))], [(0, .cells 24 [.v (.slice a n c)]), (1, .row 3 1 (iRows (pickN (unB p) i)))], 2⟩,
    fun i H' => H' = H2 ∧ i ≤ (sitesOf p).length, fun i => (sitesOf p).length - i, ⟨0, [(0, 0)], ?_, rfl, Nat.zero_le _⟩, ?_⟩
  · have e1 : iRows (pickN (unB p) 0) = [] := rfl
    (repeat' (first|exact trivial|refine ⟨?_,?_⟩|exact rfl|assumption))
  rintro i H3 _ ⟨rfl, hi⟩
  have hpl := pickN_len (unB p) i
  have hxl : (iRows (pickN (unB p) i)).length = (pickN (unB p) i).length := List.length_map _
  refine ⟨fun h => ?_, fun h => ?_⟩
  · have hlt : i < (sitesOf p).length := by have := dt h; omega
    refine name_k ((toP p)[i]'(by omega)) fun g hge => ?_
    have hgg : (toP p)[i]? = some g := by rw [hge]; exact List.getElem?_eq_getElem _
    refine list_k hr1 hgg fun ad2 a5 n5 c5 q2 hh2 hr5 => ?_
    have hn5 := hr5.n_eq
    refine ⟨ad2, ⟨by omega, by omega, q2⟩, ?_⟩
    refine ⟨_, hh2, ?_⟩
    refine ⟨fun h1 => ?_, fun h1 => ?_⟩
    · have h1 : (varsOf p).length ≤ i := by have := dt h1; omega
      refine ⟨fun h2 => ?_, fun h2 => ?_⟩
      · have h2 : g.length = 0 := by have := dt h2; omega
        have hyes : unB p i = true := by rw [unB, hgg, Option.getD_some, decide_eq_true h1, decide_eq_true h2]; rfl
        have e1 : iRows (pickN (unB p) i) ++ [[.int .i64 (i : Nat)]] = iRows (pickN (unB p) (i + 1)) := by rw [pickN_succ, if_pos hyes, iRows, iRows, List.map_append]; rfl
        refine ⟨⟨by show (_ + 1) * 8 ≤ 140737488355328; omega, by show _ + 1 ≤ 9223372036854775807; omega⟩, ?_⟩
        refine ⟨⟨by omega, by omega⟩, i + 1, [(0, 0), (1, 3)], ?_, ⟨rfl, hlt⟩, by dsimp only; omega⟩
        (repeat' (first|exact trivial|refine ⟨?_,?_⟩|exact rfl|assumption))
      · have h2 : ¬ g.length = 0 := by have := df h2; omega
        have hno : unB p i = false := by rw [unB, hgg, Option.getD_some, decide_eq_false h2, Bool.and_false]
        have e1 : iRows (pickN (unB p) i) = iRows (pickN (unB p) (i + 1)) := by rw [pickN_succ, if_neg (by rw [hno]; decide), List.append_nil]
        refine ⟨⟨by omega, by omega⟩, i + 1, [(0, 0), (1, 1)], ?_, ⟨rfl, hlt⟩, by dsimp only; omega⟩
        (repeat' (first|exact trivial|refine ⟨?_,?_⟩|exact rfl|assumption))
    · have h1 : ¬ (varsOf p).length ≤ i := by have := df h1; omega
      have hno : unB p i = false := by rw [unB, decide_eq_false h1, Bool.false_and]
      have e1 : iRows (pickN (unB p) i) = iRows (pickN (unB p) (i + 1)) := by rw [pickN_succ, if_neg (by rw [hno]; decide), List.append_nil]
      refine ⟨⟨by omega, by omega⟩, i + 1, [(0, 0), (1, 1)], ?_, ⟨rfl, hlt⟩, by dsimp only; omega⟩
      (repeat' (first|exact trivial|refine ⟨?_,?_⟩|exact rfl|assumption))
  · have hil : i = (sitesOf p).length := by have := df h; omega
    subst hil
    intro v H5 hle5 hv5
    refine of_row_k (α := Int) hv5 (rc_iRows (pickN_in _ (by omega))) fun d1 d2 d3 ev hr => ?_
    subst ev
    exact hK _ _ _ _ ((hle1.trans hle2).trans hle5.le) hr
theorem rfresh_spec {p : Prog} (he : checkE p = 0) (hp : p.length ≤ 12) (hl : ∀ b ∈ p, b.2.1.length ≤ 100000) (hc : stmtsN p ≤ 1000000) (hc2 : stmtsN p ≤ 1000) (hv : cnt p < 400000) {a : Option Addr} {n c : Nat} {H : Hp} {K : Value → Hp → Prop} (ha : RL H a n c p)
    (hK : ∀ a1 n1 c1 H', Le H H' → RL (α := Int) H' a1 n1 c1 (frP p) → K (.slice a1 n1 c1) H') :
    Does Tryz.prog 40 [.agg #[.slice a n c]] H K := by
  have hZl : (usesP p).length ≤ 2 * stmtsN p + p.length := useB_len p 0
  refine spec_of cx_ok cx_mix rfl Tryz.func40 Tryz.call40 Tryz.ntmps40 Tryz.results40 rfl rfl ?_
  refine rvars_spec ha hv fun av nv cv H1 hle1 hrv => ?_
  have hnv := hrv.n_eq
  rw [List.length_map] at hnv
  subst hnv
  refine rfrom_spec he hp hl hc hc2 hv (ha.up hle1) fun a1 n1 c1 H2 hle2 hr1 => ?_
  have hn1 := hr1.n_eq
  have hfl : (fromP p (usesP p)).length = (usesP p).length := List.length_map _
  refine ⟨Nat, fun i => ⟨[(3, .own 1), (4, .v (.int .i64 ((varsOf p).length : Nat))), (14, .v (.slice a1 n1 c1)), (15, .v (.int .i64 n1)), (16, .v (.int .i64 i))], [(0, .cells 24 [.v (.slice a n c)]), (1, .row 3 1 (iRows (pickN (frB p) i)))], 2⟩,
    fun i H' => H' = H2 ∧ i ≤ (usesP p).length, fun i => (usesP p).length - i, ⟨0, [(0, 0)], ?_, rfl, Nat.zero_le _⟩, ?_⟩
  · have e1 : iRows (pickN (frB p) 0) = [] := rfl
    (repeat' (first|exact trivial|refine ⟨?_,?_⟩|exact rfl|assumption))
  rintro i H3 _ ⟨rfl, hi⟩
  have hpl := pickN_len (frB p) i
  have hxl : (iRows (pickN (frB p) i)).length = (pickN (frB p) i).length := List.length_map _
  refine ⟨fun h => ?_, fun h => ?_⟩
  · have hlt : i < (usesP p).length := by have := dt h; omega
    refine name_k ((fromP p (usesP p))[i]'(by omega)) fun g hge => ?_
    have hgg : (fromP p (usesP p))[i]? = some g := by rw [hge]; exact List.getElem?_eq_getElem _
    have hgl := from_len he g (List.mem_of_getElem? hgg)
    have hfb : frB p i = g.any fun x => decide (x < ((varsOf p).length : Int)) := by rw [frB, hgg, Option.getD_some]
    refine list_k hr1 hgg fun ad2 a5 n5 c5 q2 hh2 hr5 => ?_
    have hn5 := hr5.n_eq
    refine ⟨ad2, ⟨by omega, by omega, q2⟩, ?_⟩
    refine ⟨_, hh2, ?_⟩
    refine name_k (fun j => (g.take j).any fun x => decide (x < ((varsOf p).length : Int))) fun B hB => ?_
    refine ⟨Nat, fun j => ⟨[(3, .own 1), (4, .v (.int .i64 ((varsOf p).length : Nat))), (5, .v (.int .i64 i)), (7, .v (.bool (B j))), (14, .v (.slice a1 n1 c1)), (15, .v (.int .i64 n1)), (16, .v (.int .i64 i)), (21, .v (.slice a5 n5 c5)), (22, .v (.int .i64 n5)), (23, .v (.int .i64 j))], [(0, .cells 24 [.v (.slice a n c)]), (1, .row 3 1 (iRows (pickN (frB p) i)))], 2⟩,
      fun j H' => H' = H3 ∧ j ≤ g.length, fun j => g.length - j, ⟨0, [(0, 0), (1, 1)], ?_, rfl, Nat.zero_le _⟩, ?_⟩
    · have e0 : B 0 = false := by rw [hB]; rfl
      have e4 : Value.bool (B 0) = Value.bool false := by rw [e0]
      have e5 : Value.bool false = Value.bool (B 0) := by rw [e0]
      have e6 := e0.symm
      (repeat' (first|exact trivial|refine ⟨?_,?_⟩|exact rfl|assumption))
    rintro j H4 _ ⟨rfl, hj⟩
    refine ⟨fun h => ?_, fun h => ?_⟩
    · have hlj : j < g.length := by have := dt h; omega
      refine name_k g[j] fun x hxe => ?_
      have hxx : g[j]? = some x := by rw [hxe]; exact List.getElem?_eq_getElem hlj
      have hsu : B (j + 1) = (B j || decide (x < ((varsOf p).length : Int))) := by
        rw [hB]
        dsimp only
        rw [List.take_add_one, hxx, Option.toList_some, List.any_append, List.any_cons, List.any_nil, Bool.or_false]
      refine int_k hr5 hxx fun ad3 q3 hh3 => ?_
      refine ⟨ad3, ⟨by omega, by omega, q3⟩, ?_⟩
      refine ⟨_, hh3, ?_⟩
      refine ⟨fun h1 => ?_, fun h1 => ?_⟩
      · rw [h1, Bool.false_or] at hsu
        have e1 : SV.v (Value.bool (decide (x < ((varsOf p).length : Int)))) = SV.v (Value.bool (B (j + 1))) := by rw [hsu]
        refine ⟨⟨by omega, by omega⟩, j + 1, [(0, 0), (1, 1)], ?_, ⟨rfl, hlj⟩, by dsimp only; omega⟩
        (repeat' (first|exact trivial|refine ⟨?_,?_⟩|exact rfl|assumption))
      · have h1 : B j = true := h1
        rw [h1, Bool.true_or] at hsu
        have e1 := hsu.symm
        have e2 : Value.bool true = Value.bool (B (j + 1)) := by rw [hsu]
        have e4 : Value.bool (B (j + 1)) = Value.bool true := by rw [hsu]
        refine ⟨⟨by omega, by omega⟩, j + 1, [(0, 0), (1, 1)], ?_, ⟨rfl, hlj⟩, by dsimp only; omega⟩
        (repeat' (first|exact trivial|refine ⟨?_,?_⟩|exact rfl|assumption))
    · have hjl : j = g.length := by have := df h; omega
      subst hjl
      have hBg : B g.length = frB p i := by rw [hfb, hB]; dsimp only; rw [List.take_length]
      rw [hBg]
      refine ⟨fun h => ?_, fun h => ?_⟩
      · have hyes : frB p i = true := h
        have e1 : iRows (pickN (frB p) i) ++ [[.int .i64 (i : Nat)]] = iRows (pickN (frB p) (i + 1)) := by rw [pickN_succ, if_pos hyes, iRows, iRows, List.map_append]; rfl
        refine ⟨⟨by show (_ + 1) * 8 ≤ 140737488355328; omega, by show _ + 1 ≤ 9223372036854775807; omega⟩, ?_⟩
        refine ⟨⟨by omega, by omega⟩, i + 1, [(0, 0), (1, 3)], ?_, ⟨rfl, hlt⟩, by dsimp only; omega⟩
        (repeat' (first|exact trivial|refine ⟨?_,?_⟩|exact rfl|assumption))
      · have hno : frB p i = false := h
        have e1 : iRows (pickN (frB p) i) = iRows (pickN (frB p) (i + 1)) := by rw [pickN_succ, if_neg (by rw [hno]; decide), List.append_nil]
        refine ⟨⟨by omega, by omega⟩, i + 1, [(0, 0), (1, 1)], ?_, ⟨rfl, hlt⟩, by dsimp only; omega⟩
        (repeat' (first|exact trivial|refine ⟨?_,?_⟩|exact rfl|assumption))
  · have hil : i = (usesP p).length := by have := df h; omega
    subst hil
    intro v H5 hle5 hv5
    refine of_row_k (α := Int) hv5 (rc_iRows (pickN_in _ (by omega))) fun d1 d2 d3 ev hr => ?_
    subst ev
    exact hK _ _ _ _ ((hle1.trans hle2).trans hle5.le) hr
end Go.Proofs
end
section
namespace Go.Proofs
open Go.Sy
set_option maxRecDepth 20000
set_option maxHeartbeats 4000000
theorem ChainTells_spec {p : Prog} {a : Option Addr} {n c : Nat} {H : Hp} {K : Value → Hp → Prop} (ha : RL H a n c p) (hT : TabH H) (hK : ∀ H', Le H H' → K (.bool true) H') : Does Tryz.prog 7 [.agg #[.slice a n c]] H K := by
  refine spec_of cx_ok cx_mix rfl Tryz.func7 Tryz.call7 Tryz.ntmps7 Tryz.results7 rfl rfl ?_
  refine awake48_spec hT fun _ _ => ?_
  refine ⟨(fun h => by cases h), fun _ => ?_⟩
  refine small4_spec ha fun t ht => ?_
  refine ⟨fun h => ?f0, fun h => ?t0⟩
  case t0 => exact hK _ (Le.refl H)
  have hb4 := ht (by simpa using h)
  have hp := hb4.1
  have hl : ∀ b ∈ p, b.2.1.length ≤ 100000 := fun b h => by have := (hb4.2 b h).1.1; omega
  have hc : stmtsN p ≤ 1000 := small_1000 hb4
  have hc6 : stmtsN p ≤ 1000000 := by omega
  have hv : cnt p < 400000 := small_cnt hb4
  refine ⟨fun h => ?t1, fun h => ?f1⟩
  case t1 => exact hK _ (Le.refl H)
  by_cases he : checkE p = 0
  · refine cfrom_spec hp hl hc6 hc hv ha hT (fun h => absurd he h) fun _ a1 n1 c1 H1 hle1 hr1 => ?_
    refine cto_spec hp hl hc6 hc hv (ha.up hle1) (hT.up hle1) (fun h => absurd he h) fun _ a2 n2 c2 H2 hle2 hr2 => ?_
    have h12 := hle1.trans hle2
    refine cunused_spec hp hl hc6 hc hv (ha.up h12) (hT.up h12) (fun h => absurd he h) fun _ a3 n3 c3 H3 hle3 hr3 => ?_
    have h13 := h12.trans hle3
    refine cfresh_spec hp hl hc6 hc hv (ha.up h13) (hT.up h13) (fun h => absurd he h) fun _ a4 n4 c4 H4 hle4 hr4 => ?_
    have h14 := h13.trans hle4
    refine rcheck_spec (ha.up h14) hc6 hv fun _ _ => ?_
    refine ⟨fun h => absurd he (nt h), fun _ => ?_⟩
    refine ⟨fun _ => ?_, fun h => absurd rfl (df h)⟩
    refine ⟨fun _ => ?_, fun h => absurd rfl (df h)⟩
    refine ⟨fun _ => ?_, fun h => absurd rfl (df h)⟩
    refine ⟨fun _ => ?_, fun h => absurd rfl (df h)⟩
    refine rfrom_spec he hp hl hc6 hc hv (ha.up h14) fun b1 m1 d1 H5 hle5 hs1 => ?_
    refine same9_spec (hr1.up (((hle2.trans hle3).trans hle4).trans hle5)) hs1 ?_
    refine ⟨fun _ => ?_, fun h => by cases h⟩
    have h15 := h14.trans hle5
    refine rto_spec he hp hl hc6 hc hv (ha.up h15) fun b2 m2 d2 H6 hle6 hs2 => ?_
    refine same9_spec (hr2.up (((hle3.trans hle4).trans hle5).trans hle6)) hs2 ?_
    refine ⟨fun _ => ?_, fun h => by cases h⟩
    have h16 := h15.trans hle6
    refine runused_spec he hp hl hc6 hc hv (ha.up h16) fun b3 m3 d3 H7 hle7 hs3 => ?_
    refine ints_spec (hr3.up (((hle4.trans hle5).trans hle6).trans hle7)) hs3 ?_
    refine ⟨fun _ => ?_, fun h => absurd rfl (df h)⟩
    have h17 := h16.trans hle7
    refine rfresh_spec he hp hl hc6 hc hv (ha.up h17) fun b4 m4 d4 H8 hle8 hs4 => ?_
    refine ints_spec (hr4.up (((hle5.trans hle6).trans hle7).trans hle8)) hs4 ?_
    exact kbool (hK _ (h17.trans hle8)) (by simp)
  · refine cfrom_spec hp hl hc6 hc hv ha hT (fun _ H1 hle1 => ?_) fun h => absurd h he
    refine cto_spec hp hl hc6 hc hv (ha.up hle1) (hT.up hle1) (fun _ H2 hle2 => ?_) fun h => absurd h he
    have h12 := hle1.trans hle2
    refine cunused_spec hp hl hc6 hc hv (ha.up h12) (hT.up h12) (fun _ H3 hle3 => ?_) fun h => absurd h he
    have h13 := h12.trans hle3
    refine cfresh_spec hp hl hc6 hc hv (ha.up h13) (hT.up h13) (fun _ H4 hle4 => ?_) fun h => absurd h he
    have h14 := h13.trans hle4
    refine rcheck_spec (ha.up h14) hc6 hv fun _ _ => ?_
    refine ⟨fun _ => ?_, fun h => absurd (nf h) he⟩
    refine ⟨fun _ => ?_, fun h => absurd rfl (df h)⟩
    refine ⟨fun _ => ?_, fun h => absurd rfl (df h)⟩
    refine ⟨fun _ => ?_, fun h => absurd rfl (df h)⟩
    refine ⟨fun _ => ?_, fun h => absurd rfl (df h)⟩
    refine ⟨⟨by omega, by omega⟩, ?_⟩
    refine ⟨⟨by omega, by omega⟩, ?_⟩
    refine ⟨⟨by omega, by omega⟩, ?_⟩
    exact kbool (hK _ h14) (by simp)
end Go.Proofs
end
