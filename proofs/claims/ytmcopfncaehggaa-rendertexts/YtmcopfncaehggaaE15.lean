/- Part 'E15' of the proof: lemmas, each with its own conditions in its own statement. -/
import Derived.Test.YtmcopfncaehggaaE14
namespace Go.Proofs
open Go.Sy
theorem lastOf_at (f : Nat → Int) (w : Nat) : ∀ i : Nat, (0 ≤ lastOf f w i → f (lastOf f w i).toNat = w) ∧ ∀ j : Nat, lastOf f w i < j → j < i → f j ≠ w
  | 0 => ⟨by simp [lastOf], fun j _ h => by omega⟩
  | i + 1 => by
    obtain ⟨h1, h2⟩ := lastOf_at f w i
    rw [lastOf]
    split
    · rename_i h
      exact ⟨fun _ => by simpa using h, fun j h3 h4 => by omega⟩
    · rename_i h
      refine ⟨h1, fun j h3 h4 => ?_⟩
      by_cases hj : j = i
      · rw [hj]; exact h
      · exact h2 j h3 (by omega)
theorem lastOf_none (f : Nat → Int) (w i : Nat) : ∀ m : Nat, (∀ j : Nat, i ≤ j → j < m → f j ≠ w) → lastOf f w m < i
  | 0, _ => by rw [lastOf]; omega
  | m + 1, h => by
    rw [lastOf]
    by_cases hm : f m = w
    · rw [if_pos hm]
      have : ¬ i ≤ m := fun hi => h m hi (by omega) hm
      omega
    · rw [if_neg hm]
      exact lastOf_none f w i m fun j h1 h2 => h j h1 (by omega)
theorem wideOf_iff (f : Nat → Int) (k : Int) (hk : 0 ≤ k) : ∀ i : Nat, wideOf f i ≤ k ↔ ∀ j : Nat, j < i → (j : Int) - lastOf f (f j).toNat j ≤ k
  | 0 => by simp [wideOf]; exact hk
  | i + 1 => by
    rw [wideOf]
    have ih := wideOf_iff f k hk i
    constructor
    · intro h j hj
      by_cases e : j = i
      · subst e; omega
      · exact ih.1 (by omega) j (by omega)
    · intro h
      have h1 := ih.2 fun j hj => h j (by omega)
      have h2 := h i (by omega)
      omega
theorem endOf_iff (f : Nat → Int) (len : Nat) (wd k : Int) : ∀ N : Nat, endOf f len wd N ≤ k ↔ wd ≤ k ∧ ∀ w : Nat, w < N → (len : Int) - lastOf f w len ≤ k
  | 0 => by simp [endOf]
  | w + 1 => by
    rw [endOf]
    have ih := endOf_iff f len wd k w
    constructor
    · intro h
      have h1 := ih.1 (by omega)
      refine ⟨h1.1, fun j hj => ?_⟩
      by_cases e : j = w
      · subst e; omega
      · exact h1.2 j (by omega)
    · intro ⟨h1, h2⟩
      have h3 := ih.2 ⟨h1, fun j hj => h2 j (by omega)⟩
      have h4 := h2 w (by omega)
      omega
/-- Each run of k has each of N. -/
def fairP (f : Nat → Int) (len N k : Nat) : Prop := ∀ i : Nat, i + k ≤ len → ∀ w : Nat, w < N → ∃ j : Nat, i ≤ j ∧ j < i + k ∧ f j = w
theorem fair_iff (f : Nat → Int) (len N k : Nat) (hk : 1 ≤ k) (hf : ∀ i, 0 ≤ f i ∧ f i < N) : endOf f len (wideOf f len) N ≤ k ↔ fairP f len N k := by
  rw [endOf_iff, wideOf_iff f k (by omega)]
  constructor
  · intro ⟨h1, h2⟩ i hi w hw
    apply Classical.byContradiction
    intro hno
    have hno' : ∀ j : Nat, i ≤ j → j < i + k → f j ≠ w := fun j a b c => hno ⟨j, a, b, c⟩
    have key : ∀ m : Nat, i + k ≤ m → m ≤ len → ∀ j : Nat, i ≤ j → j < m → f j ≠ w := by
      intro m
      induction m with
      | zero => intro h _ j _ hj; omega
      | succ m ih =>
        intro hm hl j hij hj
        by_cases hb : m + 1 = i + k
        · exact hno' j hij (by omega)
        · have ih' := ih (by omega) (by omega)
          by_cases e : j = m
          · subst e
            intro hfj
            have h3 := h1 j (by omega)
            have h4 := lastOf_none f w i j ih'
            rw [hfj] at h3
            have : (w : Int).toNat = w := by omega
            rw [this] at h3
            omega
          · exact ih' j hij (by omega)
    have h5 := lastOf_none f w i len (key len hi (by omega))
    have h6 := h2 w hw
    omega
  · intro h
    refine ⟨fun j hj => ?_, fun w hw => ?_⟩
    · apply Classical.byContradiction
      intro hgt
      have h1 := lastOf_lt f (f j).toNat j
      obtain ⟨h2, h3⟩ := lastOf_at f (f j).toNat j
      have hfj := hf j
      obtain ⟨m, hm1, hm2, hm3⟩ := h (lastOf f (f j).toNat j + 1).toNat (by omega) (f j).toNat (by omega)
      exact h3 m (by omega) (by omega) hm3
    · apply Classical.byContradiction
      intro hgt
      have h1 := lastOf_lt f w len
      obtain ⟨h2, h3⟩ := lastOf_at f w len
      obtain ⟨m, hm1, hm2, hm3⟩ := h (lastOf f w len + 1).toNat (by omega) w hw
      exact h3 m (by omega) (by omega) hm3
theorem runs_iff (n k : Int) (l : List Pick) (i w : Nat) : runs n k l i w = true ↔ ∃ j : Nat, i ≤ j ∧ j < i + k.toNat ∧ j < l.length ∧ pk n l j = w := by
  unfold runs
  rw [List.any_eq_true]
  constructor
  · rintro ⟨p, hp, hw⟩
    obtain ⟨m, hm⟩ := List.mem_iff_getElem?.1 hp
    rw [List.getElem?_drop, List.getElem?_take] at hm
    split at hm
    · have hlt := (List.getElem?_eq_some_iff.1 hm).1
      refine ⟨i + m, by omega, by assumption, hlt, ?_⟩
      rw [pk, List.getD_eq_getElem?_getD, hm]
      simpa using hw
    · cases hm
  · rintro ⟨j, h1, h2, h3, h4⟩
    refine ⟨l[j], List.mem_iff_getElem?.2 ⟨j - i, ?_⟩, ?_⟩
    · rw [List.getElem?_drop, List.getElem?_take, show i + (j - i) = j by omega, if_pos h2, List.getElem?_eq_getElem h3]
    · rw [pk, List.getD_eq_getElem?_getD, List.getElem?_eq_getElem h3] at h4
      simpa using h4
theorem pk_range (n : Int) (l : List Pick) (i : Nat) : 0 ≤ pk n l i ∧ pk n l i < (cut n).toNat := by
  have hc1 : 1 ≤ cut n ∧ cut n ≤ 64 := by unfold cut; omega
  have := who_range (p := (l.getD i (0, 0)).1) hc1.1
  unfold pk
  omega
theorem isR_iff (n k : Int) (l : List Pick) (hk : 1 ≤ k) (hkl : k ≤ l.length) : isR n k l ↔ winF n l ≤ k := by
  have h := fair_iff (pk n l) l.length (cut n).toNat k.toNat (by omega) (pk_range n l)
  have e : (k.toNat : Int) = k := by omega
  rw [e] at h
  have h2 : winF n l ≤ k ↔ endOf (pk n l) l.length (wideOf (pk n l) l.length) (cut n).toNat ≤ k := by unfold winF; omega
  rw [h2, h]
  unfold isR fairP
  constructor
  · rintro ⟨_, h3⟩ i hi w hw
    obtain ⟨j, a, b, c, d⟩ := (runs_iff n k l i w).1 (h3 i (by omega) (by omega) w hw)
    exact ⟨j, a, b, d⟩
  · intro h3
    refine ⟨hk, fun i hi hki w hw => (runs_iff n k l i w).2 ?_⟩
    obtain ⟨j, a, b, c⟩ := h3 i (by omega) w hw
    exact ⟨j, a, b, by omega, c⟩
theorem isR_long (n k : Int) (l : List Pick) (hk : 1 ≤ k) (hkl : l.length < k) : isR n k l := ⟨hk, fun i _ h => by omega⟩
theorem winF_ge (n : Int) (l : List Pick) : 1 ≤ winF n l ∧ winF n l ≤ l.length + 1 := by
  have hc1 : 1 ≤ cut n ∧ cut n ≤ 64 := by unfold cut; omega
  have h1 : ¬ endOf (pk n l) l.length (wideOf (pk n l) l.length) (cut n).toNat ≤ 0 := by
    rw [endOf_iff]
    rintro ⟨_, h⟩
    have := h 0 (by omega)
    have := lastOf_lt (pk n l) 0 l.length
    omega
  unfold winF
  omega
end Go.Proofs
