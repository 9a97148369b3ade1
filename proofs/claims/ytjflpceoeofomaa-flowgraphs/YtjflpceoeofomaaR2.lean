/- Part 'R2' of the proof: lemmas, each with its own conditions in its own statement. -/
import Derived.Test.YtjflpceoeofomaaQ6
namespace Go.Proofs
open Go.Sy
/-! The document's way to what is reached: marks, turned in as many rounds as there are nodes. -/
def bget (M : List Bool) (x : Int) : Bool := M[x.toNat]?.getD false
def relax (m : Int) (M : List Bool) (e : Edg) : List Bool := if nodeI m e.1 && nodeI m e.2 && bget M e.1 then M.set e.2.toNat true else M
def round (m : Int) (l : List Edg) (M : List Bool) : List Bool := l.foldl (relax m) M
def LeM (M M' : List Bool) : Prop := M.length = M'.length ∧ ∀ i : Nat, M[i]? = some true → M'[i]? = some true
theorem LeM.refl (M : List Bool) : LeM M M := ⟨rfl, fun _ h => h⟩
theorem LeM.trans {A B C : List Bool} (h : LeM A B) (h' : LeM B C) : LeM A C := ⟨h.1.trans h'.1, fun i hi => h'.2 i (h.2 i hi)⟩
theorem bget_true {M : List Bool} {x : Int} : bget M x = true ↔ M[x.toNat]? = some true := by
  rw [bget]
  cases M[x.toNat]? with
  | none => simp
  | some b => cases b <;> simp
theorem LeM.get {M M' : List Bool} (h : LeM M M') {x : Int} (hx : bget M x = true) : bget M' x = true := bget_true.2 (h.2 _ (bget_true.1 hx))
theorem LeM.set (M : List Bool) (k : Nat) : LeM M (M.set k true) := by
  refine ⟨(List.length_set).symm, fun i hi => ?_⟩
  rw [List.getElem?_set]
  split
  · rename_i e
    subst e
    rw [if_pos (List.getElem?_eq_some_iff.1 hi).1]
  · exact hi
theorem relax_le (m : Int) (M : List Bool) (e : Edg) : LeM M (relax m M e) := by
  rw [relax]; split
  · exact LeM.set _ _
  · exact LeM.refl _
theorem round_le (m : Int) : ∀ (l : List Edg) (M : List Bool), LeM M (round m l M)
  | [], M => LeM.refl M
  | e :: r, M => (relax_le m M e).trans (round_le m r (relax m M e))
theorem LeM.count : ∀ {M M' : List Bool}, LeM M M' → M.count true ≤ M'.count true ∧ (M.count true = M'.count true → M = M')
  | [], [], _ => ⟨Nat.le_refl _, fun _ => rfl⟩
  | [], _ :: _, h => by cases h.1
  | _ :: _, [], h => by cases h.1
  | a :: M, b :: M', h => by
    have h2 := LeM.count (M := M) (M' := M') ⟨by simpa using h.1, fun i hi => by simpa using h.2 (i + 1) (by simpa using hi)⟩
    have h0 := h.2 0
    simp only [List.getElem?_cons_zero, Option.some.injEq] at h0
    cases a <;> cases b
    · refine ⟨by simpa using h2.1, fun e => ?_⟩
      rw [h2.2 (by simpa using e)]
    · simp only [List.count_cons, beq_self_eq_true, if_true]
      refine ⟨by simp; omega, fun e => ?_⟩
      simp at e
      omega
    · exact absurd (h0 rfl) (by decide)
    · simp only [List.count_cons, beq_self_eq_true, if_true]
      refine ⟨by omega, fun e => ?_⟩
      rw [h2.2 (by omega)]
def rounds (m : Int) (l : List Edg) (M : List Bool) : Nat → List Bool
  | 0 => M
  | k + 1 => round m l (rounds m l M k)
theorem rounds_len (m : Int) (l : List Edg) (M : List Bool) : ∀ k, (rounds m l M k).length = M.length
  | 0 => rfl
  | k + 1 => by rw [rounds, ← (round_le m l _).1, rounds_len m l M k]
theorem rounds_le (m : Int) (l : List Edg) (M : List Bool) : ∀ k, LeM M (rounds m l M k)
  | 0 => LeM.refl M
  | k + 1 => (rounds_le m l M k).trans (round_le m l _)
theorem rounds_grow (m : Int) (l : List Edg) (M : List Bool) : ∀ k, round m l (rounds m l M k) = rounds m l M k ∨ k ≤ (rounds m l M k).count true
  | 0 => .inr (Nat.zero_le _)
  | k + 1 => by
    rcases rounds_grow m l M k with h | h
    · left
      rw [rounds, h, h]
    · have h2 := (round_le m l (rounds m l M k)).count
      by_cases e : (rounds m l M k).count true = (round m l (rounds m l M k)).count true
      · left
        have := h2.2 e
        rw [rounds, ← this, ← this]
      · right
        rw [rounds]
        omega
theorem count_full : ∀ {M : List Bool}, M.length ≤ M.count true → ∀ i : Nat, i < M.length → M[i]? = some true
  | [], _, i, hi => by cases hi
  | b :: M, h, i, hi => by
    have hc : M.count true ≤ M.length := List.count_le_length
    cases b
    · simp at h
      omega
    · match i with
      | 0 => rfl
      | i + 1 =>
        rw [List.getElem?_cons_succ]
        refine count_full ?_ i (by simpa using hi)
        simpa using h
/-- Closed under the edges. -/
def ClosedM (m : Int) (l : List Edg) (M : List Bool) : Prop := ∀ e ∈ l, nodeI m e.1 = true → nodeI m e.2 = true → bget M e.1 = true → bget M e.2 = true
theorem leM_anti {A B : List Bool} (h : LeM A B) (h' : LeM B A) : A = B := h.count.2 (Nat.le_antisymm h.count.1 h'.count.1)
theorem closed_of_round {m : Int} : ∀ (l : List Edg) {M : List Bool}, M.length = m.toNat → round m l M = M → ClosedM m l M
  | [], _, _, _ => fun e he => by cases he
  | a :: r, M, hl, h => by
    have h1 : relax m M a = M := by
      refine leM_anti ?_ (relax_le m M a)
      have h2 := round_le m r (relax m M a)
      rw [show round m r (relax m M a) = M from h] at h2
      exact h2
    have h3 : round m r M = M := by
      have : round m r (relax m M a) = M := h
      rwa [h1] at this
    intro e he g1 g2 g3
    rcases List.mem_cons.1 he with rfl | he
    · rw [relax, if_pos (by rw [g1, g2, g3]; rfl)] at h1
      rw [bget_true, ← h1, List.getElem?_set_self]
      have := dt g2
      omega
    · exact closed_of_round r hl h3 e he g1 g2 g3
theorem closed_rounds {m : Int} (l : List Edg) {M : List Bool} (hl : M.length = m.toNat) : ClosedM m l (rounds m l M m.toNat) := by
  have hln := rounds_len m l M m.toNat
  rcases rounds_grow m l M m.toNat with h | h
  · exact closed_of_round l (by omega) h
  · intro e _ _ g2 _
    rw [bget_true]
    have := dt g2
    exact count_full (by omega) _ (by omega)
/-- Marks that are reached. -/
def SoundM (S : Int → Prop) (m : Int) (M : List Bool) : Prop := ∀ x, nodeI m x = true → bget M x = true → S x
theorem sound_relax {S : Int → Prop} {m : Int} {l : List Edg} (hS : ∀ x, S x → ∀ y ∈ nxt m x l, S y) {M : List Bool} (h : SoundM S m M) {e : Edg} (he : e ∈ l) : SoundM S m (relax m M e) := by
  rw [relax]; split
  · rename_i hc
    simp only [Bool.and_eq_true] at hc
    obtain ⟨⟨g1, g2⟩, g3⟩ := hc
    intro x hx hb
    rw [bget_true, List.getElem?_set] at hb
    split at hb
    · rename_i hk
      have h1 := dt hx
      have h2 := dt g2
      obtain rfl : e.2 = x := by omega
      exact hS _ (h _ g1 g3) _ (nxt_mem.2 ⟨he, g1, g2⟩)
    · exact h x hx (bget_true.2 hb)
  · exact h
theorem sound_round {S : Int → Prop} {m : Int} {l : List Edg} (hS : ∀ x, S x → ∀ y ∈ nxt m x l, S y) : ∀ (r : List Edg) {M : List Bool}, (∀ e ∈ r, e ∈ l) → SoundM S m M → SoundM S m (round m r M)
  | [], _, _, h => h
  | e :: r, M, hr, h => sound_round hS r (fun x hx => hr x (List.mem_cons_of_mem _ hx)) (sound_relax hS h (hr e List.mem_cons_self))
theorem sound_rounds {S : Int → Prop} {m : Int} {l : List Edg} (hS : ∀ x, S x → ∀ y ∈ nxt m x l, S y) {M : List Bool} (h : SoundM S m M) : ∀ k, SoundM S m (rounds m l M k)
  | 0 => h
  | k + 1 => sound_round hS l (fun _ h => h) (sound_rounds hS h k)
/-- The first marks. -/
def mark (m : Int) (M : List Bool) (x : Int) : List Bool := if nodeI m x then M.set x.toNat true else M
def marks (m : Int) (f : List Int) (M : List Bool) : List Bool := f.foldl (mark m) M
theorem marks_len (m : Int) : ∀ (f : List Int) (M : List Bool), (marks m f M).length = M.length
  | [], _ => rfl
  | x :: f, M => by
    rw [marks, List.foldl_cons, ← marks, marks_len, mark]
    split
    · exact List.length_set
    · rfl
theorem marks_get {m : Int} : ∀ {f : List Int} {M : List Bool} {x : Int}, M.length = m.toNat → nodeI m x = true → (bget (marks m f M) x = true ↔ x ∈ f ∨ bget M x = true)
  | [], M, x, _, _ => by simp [marks]
  | y :: f, M, x, hl, hx => by
    have hl2 : (mark m M y).length = m.toNat := by rw [mark]; split <;> simp [hl]
    rw [marks, List.foldl_cons, ← marks, marks_get (f := f) hl2 hx, List.mem_cons]
    have h1 := dt hx
    have : bget (mark m M y) x = true ↔ x = y ∨ bget M x = true := by
      rw [mark]
      by_cases hy : nodeI m y = true
      · have h2 := dt hy
        rw [if_pos hy, bget_true, bget_true, List.getElem?_set]
        by_cases e : y.toNat = x.toNat
        · rw [if_pos e, if_pos (by omega)]
          exact ⟨fun _ => .inl (by omega), fun _ => rfl⟩
        · rw [if_neg e]
          exact ⟨.inr, fun h => h.resolve_left (fun h3 => e (by rw [h3]))⟩
      · rw [if_neg hy]
        refine ⟨.inr, fun h => h.resolve_left (fun h3 => hy (h3 ▸ hx))⟩
    rw [this]
    constructor
    · rintro (h | h | h)
      · exact .inl (.inr h)
      · exact .inl (.inl h)
      · exact .inr h
    · rintro ((h | h) | h)
      · exact .inr (.inl h)
      · exact .inl h
      · exact .inr (.inr h)
/-- The nodes that are marked. -/
def told (M : List Bool) (k : Nat) : List Int := ((List.range k).filter fun (j : Nat) => bget M (j : Int)).map fun (j : Nat) => (j : Int)
theorem told_snoc (M : List Bool) (k : Nat) : told M (k + 1) = told M k ++ (if bget M (k : Int) then [(k : Int)] else []) := by
  rw [told, told, List.range_succ, List.filter_append, List.map_append]
  congr 1
  by_cases h : bget M (k : Int) = true
  · rw [if_pos h, List.filter_cons_of_pos (by exact h)]; rfl
  · rw [if_neg h, List.filter_cons_of_neg (by exact h)]; rfl
theorem told_len (M : List Bool) (k : Nat) : (told M k).length ≤ k := by
  rw [told, List.length_map]
  have := List.length_filter_le (fun (j : Nat) => bget M (j : Int)) (List.range k)
  rwa [List.length_range] at this
theorem told_strict (M : List Bool) (k : Nat) : StrictL (told M k) := by
  rw [told, StrictL, List.pairwise_map]
  refine (List.Pairwise.filter _ List.pairwise_lt_range).imp fun {a b} h => ?_
  show (a : Int) < (b : Int)
  omega
theorem told_mem {M : List Bool} {m : Int} {x : Int} : x ∈ told M m.toNat ↔ nodeI m x = true ∧ bget M x = true := by
  simp only [told, List.mem_map, List.mem_filter, List.mem_range]
  constructor
  · rintro ⟨j, ⟨h1, h2⟩, rfl⟩
    exact ⟨decide_eq_true (by omega), h2⟩
  · rintro ⟨h1, h2⟩
    have := dt h1
    exact ⟨x.toNat, ⟨by omega, by rw [Int.toNat_of_nonneg (by omega)]; exact h2⟩, by omega⟩
theorem zero_get (k : Nat) (x : Int) : bget (List.replicate k false) x = false := by
  rw [bget, List.getElem?_replicate]
  split <;> rfl
theorem told_reach (m : Int) (l : List Edg) (f : List Int) : IsReach m l f (told (rounds m l (marks m f (List.replicate m.toNat false)) m.toNat) m.toNat) := by
  obtain ⟨M, hM⟩ : ∃ M, M = marks m f (List.replicate m.toNat false) := ⟨_, rfl⟩
  have hl : M.length = m.toNat := by rw [hM, marks_len, List.length_replicate]
  rw [← hM]
  have hg : ∀ x, nodeI m x = true → (bget M x = true ↔ x ∈ f) := fun x hx => by
    rw [hM, marks_get (List.length_replicate) hx, zero_get]
    simp
  refine ⟨fun x hx hn => told_mem.2 ⟨hn, (rounds_le m l M _).get ((hg x hn).2 hx)⟩, fun x hx y hy => ?_, fun S h1 h2 x hx => ?_⟩
  · obtain ⟨g1, g2, g3⟩ := nxt_mem.1 hy
    exact told_mem.2 ⟨g3, closed_rounds l hl (x, y) g1 g2 g3 (told_mem.1 hx).2⟩
  · obtain ⟨g1, g2⟩ := told_mem.1 hx
    exact sound_rounds h2 (fun y hy hb => h1 y ((hg y hy).1 hb) hy) _ x g1 g2
end Go.Proofs
