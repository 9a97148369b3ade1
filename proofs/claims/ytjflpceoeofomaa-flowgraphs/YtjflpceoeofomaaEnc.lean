/- How data lie in memory that is never written again; the law of a contract. -/
import Derived.Test.YtjflpceoeofomaaSyOk11
namespace Go.Sy
open Go.RowKit (Below)

class Enc (α : Type) where
  sz : Nat
  R : Hp → List Value → α → Prop
  len : ∀ {H cs a}, R H cs a → cs.length = sz
  one : ∀ {H cs a}, R H cs a → ∀ u ∈ cs, u.oneCell' = true
  up : ∀ {H H' cs a}, Le H H' → R H cs a → R H' cs a

instance : Enc Int where
  sz := 1
  R _ cs n := cs = [.int .i64 n] ∧ -9223372036854775808 ≤ n ∧ n ≤ 9223372036854775807
  len h := by rw [h.1]; rfl
  one h := by rw [h.1]; simp [Value.oneCell']
  up _ h := h

instance : Enc UInt64 where
  sz := 1
  R _ cs n := cs = [.int .u64 n.toNat]
  len h := by rw [h]; rfl
  one h := by rw [h]; simp [Value.oneCell']
  up _ h := h

instance : Enc UInt8 where
  sz := 1
  R _ cs n := cs = [.int .u8 n.toNat]
  len h := by rw [h]; rfl
  one h := by rw [h]; simp [Value.oneCell']
  up _ h := h

instance : Enc Bool where
  sz := 1
  R _ cs n := cs = [.bool n]
  len h := by rw [h]; rfl
  one h := by rw [h]; simp [Value.oneCell']
  up _ h := h

@[simp] theorem sl_bs (l : List UInt8) : sl (bs l) = l := rfl
@[simp] theorem bs_sl (b : ByteArray) : bs (sl b) = b := rfl

theorem dt {p : Prop} [Decidable p] (h : decide p = true) : p := of_decide_eq_true h
theorem df {p : Prop} [Decidable p] (h : decide p = false) : ¬ p := of_decide_eq_false h
theorem nt {p : Prop} [Decidable p] (h : (!decide p) = true) : ¬ p := by simpa using h
theorem nf {p : Prop} [Decidable p] (h : (!decide p) = false) : p := by simpa using h

/-- A text. -/
structure Str where
  l : List UInt8
  deriving DecidableEq

instance : Enc Str where
  sz := 1
  R _ cs n := cs = [.string (bs n.l)] ∧ n.l.length ≤ 9223372036854775807
  len h := by rw [h.1]; rfl
  one h := by rw [h.1]; simp [Value.oneCell']
  up _ h := h

/-- The slice (a, n, c) reads as the list xs. -/
def RL {α : Type} [Enc α] (H : Hp) (a : Option Addr) (n c : Nat) (xs : List α) : Prop :=
  n = xs.length ∧ n ≤ c ∧ c ≤ 9223372036854775807 ∧ (c = 0 ∨ ∃ ad, a = some ad ∧ ad.spot = none ∧ ∃ cells T fr, H ad.block = some (.cells cells T fr) ∧ ad.off + c * Enc.sz α ≤ cells.size ∧
    ∀ i x, xs[i]? = some x → ∃ cs, Enc.R H cs x ∧ ∀ j, j < Enc.sz α → cells[ad.off + i * Enc.sz α + j]? = cs[j]?)

section
variable {α β : Type} [Enc α] [Enc β] {H H' : Hp} {a : Option Addr} {n c : Nat} {xs : List α}

theorem RL.up (h : RL H a n c xs) (hle : Le H H') : RL H' a n c xs := by
  obtain ⟨h1, h2, h3, h4⟩ := h
  refine ⟨h1, h2, h3, ?_⟩
  rcases h4 with h4 | ⟨ad, e, hs, cells, T, fr, hH, hc, hx⟩
  · exact .inl h4
  · refine .inr ⟨ad, e, hs, cells, T, fr, hle _ _ hH, hc, fun i x hi => ?_⟩
    obtain ⟨cs, h5, h6⟩ := hx i x hi
    exact ⟨cs, Enc.up hle h5, h6⟩

theorem RL.n_eq (h : RL H a n c xs) : n = xs.length := h.1
theorem RL.le (h : RL H a n c xs) : n ≤ 9223372036854775807 := by have := h.2.1; have := h.2.2.1; omega

instance : Enc (List α) where
  sz := 1
  R H cs xs := ∃ a n c, cs = [.slice a n c] ∧ RL H a n c xs
  len h := by obtain ⟨a, n, c, e, _⟩ := h; rw [e]; rfl
  one h := by obtain ⟨a, n, c, e, _⟩ := h; rw [e]; simp [Value.oneCell']
  up hle h := by obtain ⟨a, n, c, e, h⟩ := h; exact ⟨a, n, c, e, h.up hle⟩

/-- Element i. -/
theorem RL.elem (h : RL H a n c xs) {i : Nat} {x : α} (hi : xs[i]? = some x) : ∃ ad cs, a = some ad ∧ ElemH H ad (i : Int) (Enc.sz α) cs ∧ Enc.R H cs x := by
  obtain ⟨h1, h2, _, h4⟩ := h
  have hlt := (List.getElem?_eq_some_iff.1 hi).1
  rcases h4 with hc | ⟨ad, e, hs, cells, T, fr, hH, hc, hx⟩
  · omega
  · obtain ⟨cs, h5, h6⟩ := hx i x hi
    exact ⟨ad, cs, e, ⟨hs, Enc.len h5, cells, T, fr, hH, by simpa using h6⟩, h5⟩

theorem RL.addr (h : RL H a n c xs) {i : Int} (h0 : 0 ≤ i) (hi : i < n) : ∃ ad, 0 ≤ i ∧ i < n ∧ a = some ad := by
  obtain ⟨h1, h2, _, h4⟩ := h
  rcases h4 with hc | ⟨ad, e, _⟩
  · omega
  · exact ⟨ad, h0, hi, e⟩

/-- A piece of a slice. -/
theorem RL.cut (h : RL H a n c xs) {l k : Nat} (hlk : l ≤ k) (hk : k ≤ n) : RL H (cutA a l c (Enc.sz α)) (k - l) (c - l) ((xs.take k).drop l) := by
  obtain ⟨h1, h2, h3, h4⟩ := h
  refine ⟨by simp; omega, by omega, by omega, ?_⟩
  by_cases hcl : c = l
  · exact .inl (by omega)
  · rcases h4 with hc | ⟨ad, e, hs, cells, T, fr, hH, hc, hx⟩
    · omega
    · subst e
      obtain ⟨b, o, sp⟩ := ad
      simp only at hs
      subst hs
      refine .inr ⟨⟨b, o + l * Enc.sz α, none⟩, by rw [cutA, if_neg hcl, Option.map_some, Addr.at_], rfl, cells, T, fr, hH, ?_, fun i x hi => ?_⟩
      · have : l * Enc.sz α + (c - l) * Enc.sz α = c * Enc.sz α := by rw [← Nat.add_mul]; congr 1; omega
        simp only at hc ⊢
        omega
      · rw [List.getElem?_drop, List.getElem?_take] at hi
        split at hi
        · obtain ⟨cs, h5, h6⟩ := hx (l + i) x hi
          refine ⟨cs, h5, fun j hj => ?_⟩
          have := h6 j hj
          rw [Nat.add_mul] at this
          simp only at this ⊢
          rw [show o + l * Enc.sz α + i * Enc.sz α + j = o + (l * Enc.sz α + i * Enc.sz α) + j by omega]
          exact this
        · cases hi

/-- A list of cells, element by element. -/
def RC (H : Hp) (css : List (List Value)) (xs : List α) : Prop := css.length = xs.length ∧ ∀ (i : Nat) (cs : List Value) (x : α), css[i]? = some cs → xs[i]? = some x → Enc.R H cs x

theorem RC.nil : RC (α := α) H [] [] := ⟨rfl, fun i cs x h => by simp at h⟩
theorem RC.up {css : List (List Value)} (h : RC H css xs) (hle : Le H H') : RC H' css xs := ⟨h.1, fun i cs x h1 h2 => Enc.up hle (h.2 i cs x h1 h2)⟩
theorem RC.snoc {css : List (List Value)} {cs : List Value} {x : α} (h : RC H css xs) (hx : Enc.R H cs x) : RC H (css ++ [cs]) (xs ++ [x]) := by
  refine ⟨by simp [h.1], fun i c y h1 h2 => ?_⟩
  rw [List.getElem?_append] at h1 h2
  by_cases hlt : i < css.length
  · rw [if_pos hlt] at h1
    rw [if_pos (by rw [← h.1]; exact hlt)] at h2
    exact h.2 i c y h1 h2
  · rw [if_neg hlt] at h1
    rw [if_neg (by rw [← h.1]; exact hlt)] at h2
    have e : i - css.length = 0 := by
      have := (List.getElem?_eq_some_iff.1 h1).1
      simp at this; omega
    rw [e] at h1
    rw [← h.1, e] at h2
    simp at h1 h2
    subst h1 h2
    exact hx
theorem RC.append {css dss : List (List Value)} {ys : List α} (h : RC H css xs) (hy : RC H dss ys) : RC H (css ++ dss) (xs ++ ys) := by
  refine ⟨by simp [h.1, hy.1], fun i c y h1 h2 => ?_⟩
  rw [List.getElem?_append] at h1 h2
  by_cases hlt : i < css.length
  · rw [if_pos hlt] at h1
    rw [if_pos (by rw [← h.1]; exact hlt)] at h2
    exact h.2 i c y h1 h2
  · rw [if_neg hlt] at h1
    rw [if_neg (by rw [← h.1]; exact hlt)] at h2
    rw [← h.1] at h2
    exact hy.2 _ c y h1 h2
theorem RC.take {css : List (List Value)} (h : RC H css xs) (k : Nat) : RC H (css.take k) (xs.take k) := by
  refine ⟨by simp [h.1], fun i c y h1 h2 => ?_⟩
  rw [List.getElem?_take] at h1 h2
  split at h1
  · rename_i hlt
    rw [if_pos hlt] at h2
    exact h.2 i c y h1 h2
  · cases h1
theorem RC.set {css : List (List Value)} {cs : List Value} {x : α} (h : RC H css xs) (hx : Enc.R H cs x) (k : Nat) : RC H (css.set k cs) (xs.set k x) := by
  refine ⟨by simp [h.1], fun i c y h1 h2 => ?_⟩
  rw [List.getElem?_set] at h1 h2
  split at h1
  · rename_i e
    subst e
    rw [if_pos rfl] at h2
    split at h1
    · rw [if_pos (by rw [← h.1]; assumption)] at h2
      simp only [Option.some.injEq] at h1 h2
      subst h1 h2
      exact hx
    · cases h1
  · rename_i hne
    rw [if_neg hne] at h2
    exact h.2 i c y h1 h2
theorem RC.get {css : List (List Value)} (h : RC H css xs) {i : Nat} {x : α} (hi : xs[i]? = some x) : ∃ cs, css[i]? = some cs ∧ Enc.R H cs x := by
  have hlt := (List.getElem?_eq_some_iff.1 hi).1
  have hlt' : i < css.length := by rw [h.1]; exact hlt
  have h1 : css[i]? = some css[i] := List.getElem?_eq_getElem hlt'
  exact ⟨_, h1, h.2 i _ x h1 hi⟩

/-- Out of the elements of a row that is never written again. -/
theorem RL.of_row {v : Value} {css : List (List Value)} (h : RowAt H v (Enc.sz α) css) (hc : RC H css xs) : ∃ a n c, v = .slice a n c ∧ RL H a n c xs := by
  obtain ⟨a, cap, e, h1, h2, h3⟩ := h
  refine ⟨a, _, cap, e, hc.1, h1.1, h1.2, ?_⟩
  rcases h3 with ⟨_, h4⟩ | ⟨ad, h3, hs, cells, T, fr, hH, hsz, hx⟩
  · exact .inl h4
  · refine .inr ⟨ad, h3, hs, cells, T, fr, hH, hsz, fun i x hi => ?_⟩
    obtain ⟨cs, h5, h6⟩ := hc.get hi
    exact ⟨cs, h6, fun j hj => hx i cs h5 j hj⟩

/-- The elements of a list, as a row. -/
theorem RL.row (h : RL H a n c xs) : ∃ css, RowAt H (.slice a n c) (Enc.sz α) css ∧ RC H css xs := by
  obtain ⟨h1, h2, hmx, h4⟩ := h
  rcases h4 with hc | ⟨ad, e, hs, cells, T, fr, hH, hc, hx⟩
  · have : xs = [] := List.eq_nil_of_length_eq_zero (by omega)
    subst this
    exact ⟨[], ⟨a, c, by simp [h1], by simp; omega, by simp, .inl ⟨rfl, hc⟩⟩, RC.nil⟩
  · have hex : ∀ i : Nat, ∃ cs, ∀ x, xs[i]? = some x → Enc.R H cs x ∧ ∀ j, j < Enc.sz α → cells[ad.off + i * Enc.sz α + j]? = cs[j]? := fun i => by
      cases hi : xs[i]? with
      | none => exact ⟨[], fun x h => by cases h⟩
      | some x =>
        obtain ⟨cs, h5, h6⟩ := hx i x hi
        exact ⟨cs, fun y h => by simp only [Option.some.injEq] at h; subst h; exact ⟨h5, h6⟩⟩
    let f : Nat → List Value := fun i => Classical.choose (hex i)
    have hf : ∀ i x, xs[i]? = some x → Enc.R H (f i) x ∧ ∀ j, j < Enc.sz α → cells[ad.off + i * Enc.sz α + j]? = (f i)[j]? := fun i => Classical.choose_spec (hex i)
    refine ⟨(List.range xs.length).map f, ⟨a, c, by simp [h1], by simp; omega, fun y hy => ?_, .inr ⟨ad, e, hs, cells, T, fr, hH, hc, fun i y hi j hj => ?_⟩⟩, by simp, fun i y x hi hx' => ?_⟩
    · simp only [List.mem_map, List.mem_range] at hy
      obtain ⟨i, hi, rfl⟩ := hy
      have := (hf i xs[i] (List.getElem?_eq_getElem hi)).1
      exact ⟨Enc.len this, Enc.one this⟩
    · have hlt := (List.getElem?_eq_some_iff.1 hi).1
      simp at hlt
      simp [hlt] at hi
      subst hi
      exact (hf i xs[i] (List.getElem?_eq_getElem hlt)).2 j hj
    · have hlt := (List.getElem?_eq_some_iff.1 hx').1
      simp [hlt] at hi
      subst hi
      exact (hf i x hx').1

end
instance {α β : Type} [Enc α] [Enc β] : Enc (α × β) where
  sz := Enc.sz α + Enc.sz β
  R H cs p := ∃ c1 c2, cs = c1 ++ c2 ∧ Enc.R H c1 p.1 ∧ Enc.R H c2 p.2
  len h := by obtain ⟨c1, c2, rfl, h1, h2⟩ := h; rw [List.length_append, Enc.len h1, Enc.len h2]
  one h := by
    obtain ⟨c1, c2, rfl, h1, h2⟩ := h
    intro u hu
    rcases List.mem_append.1 hu with h | h
    · exact Enc.one h1 u h
    · exact Enc.one h2 u h
  up hle h := by obtain ⟨c1, c2, e, h1, h2⟩ := h; exact ⟨c1, c2, e, Enc.up hle h1, Enc.up hle h2⟩
end Go.Sy
