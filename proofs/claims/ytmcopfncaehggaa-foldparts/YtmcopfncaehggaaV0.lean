/- Part 'V0' of the proof: lemmas, each with its own conditions in its own statement. -/
import Derived.Test.YtmcopfncaehggaaIns
import Derived.Sort.Walk0
/-! Plain law: a sorted list of texts, a text put in. -/
namespace Go.Proofs
open Go.Sy
abbrev Bs8 := List UInt8
/-- One round of the document's way of putting s into a sorted list. -/
def putStep (s : Bs8) (q : List Bs8 × Bool) (x : Bs8) : List Bs8 × Bool :=
  if q.2 = false ∧ (s < x ∨ s = x) then (if s < x then q.1 ++ [s] ++ [x] else q.1 ++ [x], true) else (q.1 ++ [x], q.2)
def putF (s : Bs8) (l : List Bs8) : List Bs8 × Bool := l.foldl (putStep s) ([], decide (s = []))
def putS (s : Bs8) (l : List Bs8) : List Bs8 := if (putF s l).2 then (putF s l).1 else (putF s l).1 ++ [s]
abbrev SortedS (l : List Bs8) : Prop := l.Pairwise (· < ·)
theorem slt_irrefl (a : Bs8) : ¬ a < a := List.lt_irrefl a
theorem slt_trans {a b c : Bs8} (h : a < b) (h' : b < c) : a < c := List.lt_trans h h'
theorem slt_asymm {a b : Bs8} (h : a < b) : ¬ b < a := fun h' => slt_irrefl a (slt_trans h h')
theorem slt_tri (a b : Bs8) : a < b ∨ a = b ∨ b < a := by
  by_cases h1 : a < b
  · exact .inl h1
  · by_cases h2 : b < a
    · exact .inr (.inr h2)
    · exact .inr (.inl (List.le_antisymm (List.not_lt.1 h2) (List.not_lt.1 h1)))
theorem fold_before {s : Bs8} : ∀ (l o : List Bs8), (∀ x ∈ l, x < s) → l.foldl (putStep s) (o, false) = (o ++ l, false)
  | [], o, _ => by simp
  | x :: r, o, h => by
    have hx := h x List.mem_cons_self
    have hn : ¬ (s < x ∨ s = x) := by
      rintro (h1 | h1)
      · exact slt_asymm hx h1
      · subst h1; exact slt_irrefl _ hx
    rw [List.foldl_cons, putStep, if_neg (fun h => hn h.2), fold_before r _ fun y hy => h y (List.mem_cons_of_mem _ hy), List.append_assoc]
    rfl
theorem fold_done {s : Bs8} : ∀ (l o : List Bs8), l.foldl (putStep s) (o, true) = (o ++ l, true)
  | [], o => by simp
  | x :: r, o => by
    rw [List.foldl_cons, putStep, if_neg (fun h => by cases h.1), fold_done r, List.append_assoc]
    rfl
theorem putF_nil (l : List Bs8) : putF [] l = (l, true) := by
  rw [putF, decide_eq_true rfl, fold_done]; rfl
theorem putS_nil (l : List Bs8) : putS [] l = l := by rw [putS, putF_nil]; rfl
/-- Where s stands, or would stand. -/
theorem putS_at {s : Bs8} {l : List Bs8} {i : Nat} (hs : s ≠ []) (hi : i ≤ l.length) (h1 : ∀ x ∈ l.take i, x < s) (h2 : ∀ x, l[i]? = some x → ¬ x < s) :
    putS s l = if l[i]? = some s then l else insAt i s l := by
  have e0 : putF s l = (l.drop i).foldl (putStep s) (l.take i, false) := by
    have e : l = l.take i ++ l.drop i := (List.take_append_drop i l).symm
    rw [putF, decide_eq_false hs]
    conv => lhs; rw [e, List.foldl_append, fold_before _ _ h1]
    rfl
  by_cases hlt : i < l.length
  · have hg := List.getElem?_eq_getElem hlt
    have hd := List.drop_eq_getElem_cons hlt
    have hn := h2 _ hg
    rw [hd, List.foldl_cons] at e0
    rw [hg, insAt, hd]
    rcases slt_tri s l[i] with h | h | h
    · rw [putStep, if_pos ⟨rfl, .inl h⟩, if_pos h, fold_done] at e0
      have hne : ¬ some l[i] = some s := by
        intro he
        simp only [Option.some.injEq] at he
        rw [he] at h
        exact slt_irrefl _ h
      rw [putS, e0, if_neg hne]
      simp
    · rw [putStep, if_pos ⟨rfl, .inr h⟩, if_neg (by rw [← h]; exact slt_irrefl _), fold_done] at e0
      rw [putS, e0, h, if_pos rfl, if_pos rfl]
      simp only [List.append_assoc, List.singleton_append]
      rw [← hd, List.take_append_drop]
    · exact absurd h hn
  · have hil : i = l.length := by omega
    subst hil
    rw [List.drop_length, List.foldl_nil] at e0
    rw [putS, e0, List.getElem?_eq_none (Nat.le_refl _), insAt, List.drop_length, if_neg (by simp), if_neg (by simp)]
theorem insAt_sorted {s : Bs8} {l : List Bs8} {i : Nat} (hl : SortedS l) (h1 : ∀ x ∈ l.take i, x < s) (h2 : ∀ x ∈ l.drop i, s < x) : SortedS (insAt i s l) := by
  have e : l = l.take i ++ l.drop i := (List.take_append_drop i l).symm
  unfold SortedS at *
  rw [e, List.pairwise_append] at hl
  rw [insAt, List.pairwise_append, List.pairwise_cons]
  refine ⟨hl.1, ⟨h2, hl.2.1⟩, fun a ha b hb => ?_⟩
  rcases List.mem_cons.1 hb with rfl | hb
  · exact h1 a ha
  · exact hl.2.2 a ha b hb
/-- The first that isn't below s: what is below stands ahead of it. -/
theorem lower {l : List Bs8} (hl : SortedS l) (s : Bs8) : ∃ i, i ≤ l.length ∧ (∀ x ∈ l.take i, x < s) ∧ ∀ x ∈ l.drop i, ¬ x < s := by
  induction l with
  | nil => exact ⟨0, Nat.le_refl _, by simp, by simp⟩
  | cons y r ih =>
    have hp := List.pairwise_cons.1 hl
    by_cases h : y < s
    · obtain ⟨i, h1, h2, h3⟩ := ih hp.2
      refine ⟨i + 1, by simpa using h1, fun x hx => ?_, by simpa using h3⟩
      rw [List.take_succ_cons, List.mem_cons] at hx
      rcases hx with rfl | hx
      · exact h
      · exact h2 x hx
    · refine ⟨0, Nat.zero_le _, by simp, fun x hx => ?_⟩
      rw [List.drop_zero, List.mem_cons] at hx
      rcases hx with rfl | hx
      · exact h
      · exact fun hxs => h (slt_trans (hp.1 x hx) hxs)
theorem drop_above {l : List Bs8} {i : Nat} {s : Bs8} (hl : SortedS l) (h2 : ∀ x ∈ l.drop i, ¬ x < s) (hne : l[i]? ≠ some s) : ∀ x ∈ l.drop i, s < x := by
  intro x hx
  rcases slt_tri s x with h | h | h
  · exact h
  · subst h
    exfalso
    obtain ⟨j, hj, e⟩ := List.mem_iff_getElem.1 hx
    rw [List.getElem_drop] at e
    rw [List.length_drop] at hj
    by_cases hj0 : j = 0
    · subst hj0
      apply hne
      rw [List.getElem?_eq_getElem (by omega)]
      simp only [Nat.add_zero] at e
      rw [e]
    · have hlt : i < l.length := by omega
      have := List.pairwise_iff_getElem.1 hl i (i + j) hlt (by omega) (by omega)
      rw [e] at this
      refine h2 l[i] ?_ this
      rw [List.drop_eq_getElem_cons hlt]
      exact List.mem_cons_self
  · exact absurd h (h2 x hx)
theorem putS_sorted {l : List Bs8} (hl : SortedS l) (s : Bs8) : SortedS (putS s l) := by
  by_cases hs : s = []
  · subst hs; rw [putS_nil]; exact hl
  · obtain ⟨i, h1, h2, h3⟩ := lower hl s
    have h4 : ∀ x, l[i]? = some x → ¬ x < s := fun x hx => h3 x (by
      obtain ⟨hlt, e⟩ := List.getElem?_eq_some_iff.1 hx
      rw [List.drop_eq_getElem_cons hlt]
      exact e ▸ List.mem_cons_self)
    rw [putS_at hs h1 h2 h4]
    split
    · exact hl
    · rename_i h
      exact insAt_sorted hl h2 (drop_above hl h3 h)
theorem insAt_len {α : Type} {i : Nat} {x : α} {l : List α} (h : i ≤ l.length) : (insAt i x l).length = l.length + 1 := by
  simp only [insAt, List.length_append, List.length_take, List.length_cons, List.length_drop]; omega
theorem putF_len (s : Bs8) : ∀ (l : List Bs8) (q : List Bs8 × Bool), (l.foldl (putStep s) q).1.length ≤ q.1.length + l.length + (if q.2 then 0 else 1) ∧ ((l.foldl (putStep s) q).2 = false → (l.foldl (putStep s) q).1.length ≤ q.1.length + l.length)
  | [], q => by constructor <;> simp
  | x :: r, q => by
    obtain ⟨o, d⟩ := q
    rw [List.foldl_cons]
    cases d
    · by_cases h : s < x ∨ s = x
      · have e1 : putStep s (o, false) x = (if s < x then o ++ [s] ++ [x] else o ++ [x], true) := by rw [putStep, if_pos ⟨rfl, h⟩]
        rw [e1, fold_done]
        refine ⟨?_, fun h => by cases h⟩
        simp only [Bool.false_eq_true, if_false, List.length_append, List.length_cons]
        split <;> simp only [List.length_append, List.length_singleton] <;> omega
      · have e1 : putStep s (o, false) x = (o ++ [x], false) := by rw [putStep, if_neg (fun hh => h hh.2)]
        have ih := putF_len s r (o ++ [x], false)
        rw [e1]
        simp only [Bool.false_eq_true, if_false, List.length_append, List.length_cons, List.length_nil] at ih ⊢
        exact ⟨by have := ih.1; omega, fun hh => by have := ih.2 hh; omega⟩
    · have e1 : putStep s (o, true) x = (o ++ [x], true) := by rw [putStep, if_neg (fun hh => by cases hh.1)]
      rw [e1, fold_done]
      refine ⟨?_, fun h => by cases h⟩
      simp only [if_true, List.length_append, List.length_cons, List.length_nil]
      omega
theorem putS_len (s : Bs8) (l : List Bs8) : (putS s l).length ≤ l.length + 1 := by
  have h := putF_len s l ([], decide (s = []))
  unfold putS putF
  simp only [List.length_nil] at h
  split
  · have := h.1; split at this <;> omega
  · rename_i hf
    have := h.2 (by simpa using hf)
    rw [List.length_append, List.length_singleton]; omega
theorem putF_mem (s : Bs8) : ∀ (l : List Bs8) (q : List Bs8 × Bool) {t : Bs8}, t ∈ (l.foldl (putStep s) q).1 → t ∈ q.1 ∨ t ∈ l ∨ t = s
  | [], q, t, h => .inl h
  | x :: r, q, t, h => by
    rw [List.foldl_cons] at h
    rcases putF_mem s r _ h with h | h | h
    · have : t ∈ q.1 ∨ t = s ∨ t = x := by
        unfold putStep at h
        split at h
        · simp only at h
          split at h
          · simp only [List.mem_append, List.mem_singleton] at h
            rcases h with (h | h) | h
            · exact .inl h
            · exact .inr (.inl h)
            · exact .inr (.inr h)
          · simp only [List.mem_append, List.mem_singleton] at h
            rcases h with h | h
            · exact .inl h
            · exact .inr (.inr h)
        · simp only [List.mem_append, List.mem_singleton] at h
          rcases h with h | h
          · exact .inl h
          · exact .inr (.inr h)
      rcases this with h | h | h
      · exact .inl h
      · exact .inr (.inr h)
      · exact .inr (.inl (h ▸ List.mem_cons_self))
    · exact .inr (.inl (List.mem_cons_of_mem _ h))
    · exact .inr (.inr h)
theorem putS_mem {s : Bs8} {l : List Bs8} {t : Bs8} (h : t ∈ putS s l) : t ∈ l ∨ t = s := by
  unfold putS at h
  split at h
  · rcases putF_mem s l _ h with h | h
    · cases h
    · exact h
  · rw [List.mem_append] at h
    rcases h with h | h
    · rcases putF_mem s l _ h with h | h
      · cases h
      · exact h
    · exact .inr (List.mem_singleton.1 h)
theorem take_lt {l : List Bs8} {t : Bs8} {k : Nat} (hl : SortedS l) (hk : k < l.length) (h : l[k] < t) : ∀ x ∈ l.take (k + 1), x < t := by
  intro x hx
  obtain ⟨m, hm, rfl⟩ := List.mem_iff_getElem.1 hx
  rw [List.length_take] at hm
  rw [List.getElem_take]
  by_cases hmk : m = k
  · subst hmk; exact h
  · exact slt_trans (List.pairwise_iff_getElem.1 hl m k (by omega) hk (by omega)) h
theorem drop_ge {l : List Bs8} {t : Bs8} {k : Nat} (hl : SortedS l) (hk : k < l.length) (h : ¬ l[k] < t) : ∀ x ∈ l.drop k, ¬ x < t := by
  intro x hx hxt
  obtain ⟨m, hm, rfl⟩ := List.mem_iff_getElem.1 hx
  rw [List.length_drop] at hm
  rw [List.getElem_drop] at hxt
  by_cases hm0 : m = 0
  · subst hm0; exact h hxt
  · exact h (slt_trans (List.pairwise_iff_getElem.1 hl k (k + m) hk (by omega) (by omega)) hxt)
end Go.Proofs
