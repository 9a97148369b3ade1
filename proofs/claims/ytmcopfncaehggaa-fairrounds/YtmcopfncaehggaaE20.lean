/- Part 'E20' of the proof: lemmas, each with its own conditions in its own statement. -/
import Derived.Test.YtmcopfncaehggaaE16
namespace Go.Proofs
open Go.Sy
/-- What is drawn at i. -/
def wx (raw : List Int) (i : Nat) : Int := if raw = [] then 0 else raw.getD (i % raw.length) 0
def rng (n : Nat) : List Int := (List.range n).map fun k : Nat => (k : Int)
/-- Who is left of the round, ahead of i. -/
def wst (n : Nat) (raw : List Int) : Nat → List Int
  | 0 => []
  | i + 1 => let w := if wst n raw i = [] then rng n else wst n raw i
    w.eraseIdx (who (wx raw i) w.length).toNat
def wsf (n : Nat) (raw : List Int) (i : Nat) : List Int := if wst n raw i = [] then rng n else wst n raw i
def wat (n : Nat) (raw : List Int) (i : Nat) : Nat := (who (wx raw i) (wsf n raw i).length).toNat
def wout (n : Nat) (raw : List Int) : Nat → List Pick
  | 0 => []
  | i + 1 => wout n raw i ++ [((wsf n raw i).getD (wat n raw i) 0, wx raw i)]
theorem wst_succ (n : Nat) (raw : List Int) (i : Nat) : wst n raw (i + 1) = (wsf n raw i).eraseIdx (wat n raw i) := rfl
theorem rng_len (n : Nat) : (rng n).length = n := by simp [rng]
theorem wsf_pos {n : Nat} (hn : 1 ≤ n) (raw : List Int) (i : Nat) : 1 ≤ (wsf n raw i).length := by
  unfold wsf
  split
  · rw [rng_len]; exact hn
  · rename_i h; exact List.length_pos_iff.2 h
theorem wat_lt {n : Nat} (hn : 1 ≤ n) (raw : List Int) (i : Nat) : wat n raw i < (wsf n raw i).length := by
  have h1 := wsf_pos hn raw i
  have h2 := who_range (p := wx raw i) (n := ((wsf n raw i).length : Int)) (by omega)
  unfold wat
  omega
theorem wst_len {n : Nat} (hn : 1 ≤ n) (raw : List Int) : ∀ i, (wst n raw i).length = (if i % n = 0 then 0 else n - i % n) ∧ (wsf n raw i).length = n - i % n
  | 0 => by simp [wst, wsf, rng_len]
  | i + 1 => by
    have ih := (wst_len hn raw i).2
    have hat := wat_lt hn raw i
    have h1 : (wst n raw (i + 1)).length = n - i % n - 1 := by rw [wst_succ, List.length_eraseIdx, if_pos hat, ih]
    have hm : i % n < n := Nat.mod_lt _ hn
    have h2 : (wst n raw (i + 1)).length = (if (i + 1) % n = 0 then 0 else n - (i + 1) % n) := by
      rw [h1]
      have := Nat.add_mod i 1 n
      by_cases hl : i % n + 1 = n
      · have e : (i + 1) % n = 0 := by
          rw [Nat.add_mod]
          by_cases h1n : n = 1
          · subst h1n; simp [Nat.mod_one]
          · rw [Nat.mod_eq_of_lt (show 1 < n by omega), hl, Nat.mod_self]
        rw [if_pos e]; omega
      · have e : (i + 1) % n = i % n + 1 := by
          rw [Nat.add_mod, Nat.mod_eq_of_lt (show 1 < n by omega), Nat.mod_eq_of_lt (by omega)]
        rw [e, if_neg (by omega)]; omega
    refine ⟨h2, ?_⟩
    have hm' : (i + 1) % n < n := Nat.mod_lt _ hn
    unfold wsf
    by_cases e : (i + 1) % n = 0
    · rw [if_pos e] at h2
      rw [if_pos (List.eq_nil_of_length_eq_zero h2), rng_len, e, Nat.sub_zero]
    · rw [if_neg e] at h2
      rw [if_neg (fun h => by rw [h] at h2; simp at h2; omega), h2]
theorem wst_nil {n : Nat} (hn : 1 ≤ n) (raw : List Int) (i : Nat) : wst n raw i = [] ↔ i % n = 0 := by
  have h := (wst_len hn raw i).1
  have hm : i % n < n := Nat.mod_lt _ hn
  constructor
  · intro e
    rw [e] at h
    by_cases h0 : i % n = 0
    · exact h0
    · rw [if_neg h0] at h; simp at h; omega
  · intro e
    rw [if_pos e] at h
    exact List.eq_nil_of_length_eq_zero h
theorem wout_len (n : Nat) (raw : List Int) : ∀ i, (wout n raw i).length = i
  | 0 => rfl
  | i + 1 => by rw [wout, List.length_append, wout_len n raw i]; rfl
theorem wst_mem {n : Nat} (raw : List Int) : ∀ i, (∀ x ∈ wst n raw i, 0 ≤ x ∧ x < n) ∧ ∀ x ∈ wsf n raw i, 0 ≤ x ∧ x < n := by
  have hr : ∀ x ∈ rng n, 0 ≤ x ∧ x < n := by
    intro x hx
    simp only [rng, List.mem_map, List.mem_range] at hx
    obtain ⟨k, hk, rfl⟩ := hx
    omega
  have hf : ∀ i, (∀ x ∈ wst n raw i, 0 ≤ x ∧ x < n) → ∀ x ∈ wsf n raw i, 0 ≤ x ∧ x < n := by
    intro i h x hx
    unfold wsf at hx
    split at hx
    · exact hr x hx
    · exact h x hx
  intro i
  induction i with
  | zero => exact ⟨by simp [wst], hf 0 (by simp [wst])⟩
  | succ i ih =>
    have h1 : ∀ x ∈ wst n raw (i + 1), 0 ≤ x ∧ x < n := fun x hx => ih.2 x (List.mem_of_mem_eraseIdx (by rw [wst_succ] at hx; exact hx))
    exact ⟨h1, hf (i + 1) h1⟩
theorem wout_at {n : Nat} (raw : List Int) : ∀ (m i : Nat), i < m → (wout n raw m)[i]? = some ((wsf n raw i).getD (wat n raw i) 0, wx raw i)
  | 0, i, h => by omega
  | m + 1, i, h => by
    rw [wout]
    by_cases e : i = m
    · subst e
      rw [List.getElem?_append_right (by rw [wout_len]; exact Nat.le_refl _), wout_len, Nat.sub_self]
      rfl
    · rw [List.getElem?_append_left (by rw [wout_len]; omega), wout_at raw m i (by omega)]
/-- Ahead of i + t, in the round that begins at i: who isn't left has been picked. -/
theorem round_all {n : Nat} (hn : 1 ≤ n) (raw : List Int) {i : Nat} (hi : i % n = 0) : ∀ t, t < n → ∀ x : Int, 0 ≤ x → x < n → x ∈ wsf n raw (i + t) ∨ ∃ j, i ≤ j ∧ j < i + t ∧ (wsf n raw j).getD (wat n raw j) 0 = x
  | 0, _, x, h0, h1 => by
    left
    unfold wsf
    rw [if_pos ((wst_nil hn raw _).2 (by simpa using hi))]
    simp only [rng, List.mem_map, List.mem_range]
    exact ⟨x.toNat, by omega, by omega⟩
  | t + 1, ht, x, h0, h1 => by
    rcases round_all hn raw hi t (by omega) x h0 h1 with h | ⟨j, a, b, c⟩
    · have hat := wat_lt hn raw (i + t)
      by_cases e : (wsf n raw (i + t)).getD (wat n raw (i + t)) 0 = x
      · exact .inr ⟨i + t, by omega, by omega, e⟩
      · left
        have hne : wst n raw (i + (t + 1)) ≠ [] := by
          rw [Ne, wst_nil hn]
          have : (i + (t + 1)) % n = (t + 1) % n := by rw [Nat.add_mod, hi, Nat.zero_add, Nat.mod_mod]
          rw [this, Nat.mod_eq_of_lt ht]
          omega
        unfold wsf
        rw [if_neg hne, show i + (t + 1) = (i + t) + 1 by omega, wst_succ]
        rw [List.mem_eraseIdx_iff_getElem?]
        obtain ⟨k, hk⟩ := List.mem_iff_getElem?.1 h
        refine ⟨k, fun hkk => e ?_, hk⟩
        rw [List.getD_eq_getElem?_getD, ← hkk, hk]
        rfl
    · exact .inr ⟨j, a, by omega, c⟩
theorem round_each {n : Nat} (hn : 1 ≤ n) (raw : List Int) {i : Nat} (hi : i % n = 0) (x : Int) (h0 : 0 ≤ x) (h1 : x < n) : ∃ j, i ≤ j ∧ j < i + n ∧ (wsf n raw j).getD (wat n raw j) 0 = x := by
  rcases round_all hn raw hi (n - 1) (by omega) x h0 h1 with h | ⟨j, a, b, c⟩
  · have hl := (wst_len hn raw (i + (n - 1))).2
    have hm : (i + (n - 1)) % n = n - 1 := by rw [Nat.add_mod, hi, Nat.zero_add, Nat.mod_mod, Nat.mod_eq_of_lt (by omega)]
    rw [hm] at hl
    have hat := wat_lt hn raw (i + (n - 1))
    have hl1 : (wsf n raw (i + (n - 1))).length = 1 := by omega
    refine ⟨i + (n - 1), by omega, by omega, ?_⟩
    obtain ⟨y, hy⟩ := List.length_eq_one_iff.1 hl1
    have ha0 : wat n raw (i + (n - 1)) = 0 := by omega
    rw [hy] at h ⊢
    rw [ha0]
    simp at h
    simp [h]
  · exact ⟨j, a, by omega, c⟩
theorem who_id {x n : Int} (h0 : 0 ≤ x) (h1 : x < n) : who x n = x := by
  unfold who
  rw [if_neg (by omega)]
  have e : x.tmod n = x := by rw [Int.tmod_eq_emod_of_nonneg h0]; exact Int.emod_eq_of_lt h0 h1
  rw [e, if_neg (by omega)]
theorem weave_fair (n : Int) (raw : List Int) (m : Nat) : isR n (2 * cut n - 1) (wout (cut n).toNat raw m) := by
  have hc1 : 1 ≤ cut n ∧ cut n ≤ 64 := by unfold cut; omega
  obtain ⟨N, hN⟩ : ∃ N : Nat, N = (cut n).toNat := ⟨_, rfl⟩
  have ecn : cut n = (N : Int) := by omega
  refine ⟨by omega, fun i hi hki w hw => ?_⟩
  rw [runs_iff]
  rw [wout_len] at hi hki
  rw [← hN] at hw ⊢
  -- the next round's beginning
  obtain ⟨b, hb1, hb2, hb3⟩ : ∃ b, i ≤ b ∧ b ≤ i + (N - 1) ∧ b % N = 0 := by
    refine ⟨(i + (N - 1)) / N * N, ?_, Nat.div_mul_le_self _ _, Nat.mul_mod_left _ _⟩
    have h1 := Nat.div_add_mod (i + (N - 1)) N
    have h2 : (i + (N - 1)) % N < N := Nat.mod_lt _ (by omega)
    rw [Nat.mul_comm] at h1
    omega
  obtain ⟨j, hj1, hj2, hj3⟩ := round_each (n := N) (by omega) raw hb3 (w : Int) (by omega) (by omega)
  refine ⟨j, by omega, by omega, by rw [wout_len]; omega, ?_⟩
  rw [pk, List.getD_eq_getElem?_getD, wout_at raw m j (by omega)]
  simp only [Option.getD_some]
  rw [hj3, ecn]
  exact who_id (by omega) (by omega)
theorem round_fair (n : Int) (m : Nat) : isR n (cut n) (roundL n m) := by
  have hc1 : 1 ≤ cut n ∧ cut n ≤ 64 := by unfold cut; omega
  obtain ⟨N, hN⟩ : ∃ N : Nat, N = (cut n).toNat := ⟨_, rfl⟩
  have ecn : cut n = (N : Int) := by omega
  refine ⟨by omega, fun i hi hki w hw => ?_⟩
  rw [runs_iff]
  rw [roundL_len] at hi hki
  rw [← hN] at hw ⊢
  have hat : ∀ j, j < m → (roundL n m)[j]? = some ((j : Int) % cut n, (0 : Int)) := by
    intro j hj
    simp [roundL, hj]
  obtain ⟨j, hj1, hj2, hj3⟩ : ∃ j, i ≤ j ∧ j < i + N ∧ j % N = w := by
    have h1 := Nat.div_add_mod i N
    have h2 : i % N < N := Nat.mod_lt _ (by omega)
    by_cases hlt : i % N ≤ w
    · refine ⟨i - i % N + w, by omega, by omega, ?_⟩
      rw [show i - i % N = N * (i / N) by omega, Nat.mul_add_mod, Nat.mod_eq_of_lt hw]
    · refine ⟨i - i % N + N + w, by omega, by omega, ?_⟩
      rw [show i - i % N + N + w = N * (i / N) + (N + w) by omega, Nat.mul_add_mod, Nat.add_mod_left, Nat.mod_eq_of_lt hw]
  refine ⟨j, hj1, by omega, by rw [roundL_len]; omega, ?_⟩
  rw [pk, List.getD_eq_getElem?_getD, hat j (by omega)]
  simp only [Option.getD_some]
  have e : (j : Int) % cut n = (w : Int) := by rw [ecn]; omega
  rw [e, ecn]
  exact who_id (by omega) (by omega)
end Go.Proofs
