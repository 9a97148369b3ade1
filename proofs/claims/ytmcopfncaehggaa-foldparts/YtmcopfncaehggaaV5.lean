/- Part 'V5' of the proof: lemmas, each with its own conditions in its own statement. -/
import Derived.Test.YtmcopfncaehggaaV4
namespace Go.Proofs
open Go.Sy
set_option maxRecDepth 20000
def nAt (op : Int) : Nat := if op = 0 ∨ op = 4 then 1 else if op = 1 ∨ op = 2 ∨ op = 3 then 2 else 0
abbrev exprA (x : Expr) : Value := .agg (exprV x).toArray
abbrev atmA (a : Atm) : Value := .agg (atmV a).toArray
theorem rowAt_len {H : Hp} {y : Value} {sz n : Nat} {xs : List (List Value)} (h : RowAt H y sz xs) (hn : xs.length = n) : ∃ a c, y = .slice a n c := by
  obtain ⟨a, c, e, _⟩ := h
  exact ⟨a, c, by rw [e, hn]⟩
theorem atoms_spec {x : Expr} {H : Hp} {K : Value → Hp → Prop} (hK : ∀ a c H', Le H H' → K (.slice a (nAt x.1) c) H') : Does Try.prog 63 [exprA x] H K := by
  refine spec_of cx_ok cx_mix rfl Try.func63 Try.call63 Try.ntmps63 Try.results63 rfl rfl ?_
  have one : nAt x.1 = 1 → ∀ y H1, Le H H1 → RowAt H1 y 3 [atmV x.2.1] → K y H1 := fun hn y H1 hle hy => by
    obtain ⟨a, c, e⟩ := rowAt_len hy (n := 1) rfl
    rw [e, ← hn]; exact hK _ _ _ hle
  have two : nAt x.1 = 2 → ∀ y H1, Le H H1 → RowAt H1 y 3 [atmV x.2.1, atmV x.2.2] → K y H1 := fun hn y H1 hle hy => by
    obtain ⟨a, c, e⟩ := rowAt_len hy (n := 2) rfl
    rw [e, ← hn]; exact hK _ _ _ hle
  refine ⟨fun h => ?_, fun h => ?_⟩
  · have h0 := dt h
    refine ⟨fun _ => ?_, fun h' => absurd h0 (df h')⟩
    exact one (by rw [nAt, if_pos (.inl h0)])
  · have h0 := df h
    refine ⟨fun h => ?_, fun h => ?_⟩
    · have h4 := dt h
      exact one (by rw [nAt, if_pos (.inr h4)])
    · have h4 := df h
      have hn : ¬ (x.1 = 0 ∨ x.1 = 4) := by omega
      refine ⟨fun h => ?_, fun h => ?_⟩
      · have h1 := dt h
        refine ⟨fun _ => ?_, fun h' => absurd h1 (df h')⟩
        exact two (by rw [nAt, if_neg hn, if_pos (.inl h1)])
      · have h1 := df h
        refine ⟨fun h => ?_, fun h => ?_⟩
        · have h2 := dt h
          refine ⟨fun _ => ?_, fun h' => absurd h2 (df h')⟩
          exact two (by rw [nAt, if_neg hn, if_pos (.inr (.inl h2))])
        · have h2 := df h
          refine ⟨fun h => ?_, fun h => ?_⟩
          · have h3 := dt h
            exact two (by rw [nAt, if_neg hn, if_pos (.inr (.inr h3))])
          · have h3 := df h
            have h9 := hK none 0 H (Le.refl H)
            rw [nAt, if_neg hn, if_neg (by omega)] at h9
            exact h9
theorem ratoms_spec {x : Expr} {H : Hp} {K : Value → Hp → Prop} (hK : ∀ a c H', Le H H' → K (.slice a (nAt x.1) c) H') : Does Try.prog 65 [exprA x] H K := by
  refine spec_of cx_ok cx_mix rfl Try.func65 Try.call65 Try.ntmps65 Try.results65 rfl rfl ?_
  have one : nAt x.1 = 1 → ∀ y H1, Le H H1 → RowAt H1 y 3 [atmV x.2.1] → K y H1 := fun hn y H1 hle hy => by
    obtain ⟨a, c, e⟩ := rowAt_len hy (n := 1) rfl
    rw [e, ← hn]; exact hK _ _ _ hle
  have two : nAt x.1 = 2 → ∀ y H1, Le H H1 → RowAt H1 y 3 [atmV x.2.1, atmV x.2.2] → K y H1 := fun hn y H1 hle hy => by
    obtain ⟨a, c, e⟩ := rowAt_len hy (n := 2) rfl
    rw [e, ← hn]; exact hK _ _ _ hle
  refine ⟨fun h => ?_, fun h => ?_⟩
  · have h0 := df h
    refine ⟨fun h => ?_, fun h => ?_⟩
    · have h4 := dt h
      exact one (by rw [nAt, if_pos (.inr h4)])
    · have h4 := df h
      have hn : ¬ (x.1 = 0 ∨ x.1 = 4) := by omega
      refine ⟨fun h => ?_, fun h => ?_⟩
      · have h1 := df h
        refine ⟨fun h => ?_, fun h => ?_⟩
        · have h2 := df h
          refine ⟨fun h => ?_, fun h => ?_⟩
          · have h3 := dt h
            exact two (by rw [nAt, if_neg hn, if_pos (.inr (.inr h3))])
          · have h3 := df h
            have h9 := hK none 0 H (Le.refl H)
            rw [nAt, if_neg hn, if_neg (by omega)] at h9
            exact h9
        · have h2 : x.1 = 2 := by cases hh : decide (x.1 = 2) <;> simp_all
          exact two (by rw [nAt, if_neg hn, if_pos (.inr (.inl h2))])
      · have h1 : x.1 = 1 := by cases hh : decide (x.1 = 1) <;> simp_all
        exact two (by rw [nAt, if_neg hn, if_pos (.inl h1)])
  · have h0 : x.1 = 0 := by cases hh : decide (x.1 = 0) <;> simp_all
    exact one (by rw [nAt, if_pos (.inl h0)])
def foldA (p : Prog) (known : List UInt64) (a : Atm) : Atm :=
  let i := idxS a.1.l (varsOf p) 0
  if 0 ≤ i ∧ i < known.length then (match kNum (known[i.toNat]?.getD 0).toNat with
    | some n => (⟨[]⟩, n)
    | none => a) else a
theorem atom_spec {p : Prog} {known : List UInt64} {x : Atm} {a ka : Option Addr} {n c kn kc : Nat} {H : Hp} {K : Value → Hp → Prop} (ha : RL H a n c p) (hk : RL H ka kn kc known) (hc : cnt p < 400000)
    (hK : ∀ H', Le H H' → K (atmA (foldA p known x)) H') : Does Try.prog 33 [.agg #[.slice a n c], .slice ka kn kc, atmA x] H K := by
  refine spec_of cx_ok cx_mix rfl Try.func33 Try.call33 Try.ntmps33 Try.results33 rfl rfl ?_
  refine var_spec ha hc fun H1 hle1 => ?_
  have hK := hK _ (Le.refl H)
  have hrg := idxS_range x.1.l (varsOf p) 0 (by omega)
  have hkn := hk.n_eq
  unfold foldA at hK
  obtain ⟨i, hi⟩ : ∃ i, i = idxS x.1.l (varsOf p) 0 := ⟨_, rfl⟩
  rw [← hi] at hK hrg ⊢
  refine ⟨fun h => ?_, fun h => ?_⟩
  · have h0 : 0 ≤ i := nf h
    have e0 : max i 0 = i := by omega
    refine ⟨fun h => ?_, fun h => ?_⟩
    · have h1 := dt h
      rw [e0] at h1
      simp only [show ¬ (0 ≤ i ∧ i < (known.length : Int)) by omega, if_false] at hK
      exact hK
    · have h1 := df h
      rw [e0] at h1
      have hlt : i.toNat < known.length := by omega
      have hx := List.getElem?_eq_getElem hlt
      simp only [show (0 ≤ i ∧ i < (known.length : Int)) by omega, and_self, if_true, hx, Option.getD_some] at hK
      have hel := hk.elem hx
      obtain ⟨ad, cs, e1, hh, r1⟩ := hel
      have hcs : cs = [.int .u64 known[i.toNat].toNat] := r1
      rw [hcs] at hh
      have e2 : ((i.toNat : Nat) : Int) = max i 0 := by omega
      rw [e2] at hh
      refine ⟨ad, ⟨by omega, by omega, e1⟩, ?_⟩
      refine ⟨_, hh, ?_⟩
      cases hm : kNum known[i.toNat].toNat with
      | none =>
        rw [hm] at hK
        refine knum_spec known[i.toNat].toNat_lt ?_
        rw [hm]
        exact ⟨fun _ => hK, fun h => by cases h⟩
      | some n =>
        rw [hm] at hK
        refine knum_spec known[i.toNat].toNat_lt ?_
        rw [hm]
        exact ⟨(fun h => by cases h), fun _ => hK⟩
  · have h0 : ¬ 0 ≤ i := fun hh => by rw [decide_eq_true hh] at h; cases h
    simp only [show ¬ (0 ≤ i ∧ i < (known.length : Int)) by omega, if_false] at hK
    exact hK
theorem ratom_spec {p : Prog} {known : List UInt64} {x : Atm} {a ka : Option Addr} {n c kn kc : Nat} {H : Hp} {K : Value → Hp → Prop} (ha : RL H a n c p) (hk : RL H ka kn kc known) (hc : cnt p < 400000)
    (hK : ∀ H', Le H H' → K (atmA (foldA p known x)) H') : Does Try.prog 34 [.agg #[.slice a n c], .slice ka kn kc, atmA x] H K := by
  refine spec_of cx_ok cx_mix rfl Try.func34 Try.call34 Try.ntmps34 Try.results34 rfl rfl ?_
  refine rvar_spec ha hc fun H1 hle1 => ?_
  have hK := hK _ (Le.refl H)
  have hrg := idxS_range x.1.l (varsOf p) 0 (by omega)
  have hkn := hk.n_eq
  unfold foldA at hK
  obtain ⟨i, hi⟩ : ∃ i, i = idxS x.1.l (varsOf p) 0 := ⟨_, rfl⟩
  rw [← hi] at hK hrg ⊢
  refine ⟨fun h => ?_, fun h => ?_⟩
  · have h0 : 0 ≤ i := dt h
    refine ⟨fun h => ?_, fun h => ?_⟩
    · have h1 := dt h
      have hlt : i.toNat < known.length := by omega
      have hx := List.getElem?_eq_getElem hlt
      simp only [show (0 ≤ i ∧ i < (known.length : Int)) by omega, and_self, if_true, hx, Option.getD_some] at hK
      have hel := hk.elem hx
      obtain ⟨ad, cs, e1, hh, r1⟩ := hel
      have hcs : cs = [.int .u64 known[i.toNat].toNat] := r1
      rw [hcs] at hh
      have e2 : ((i.toNat : Nat) : Int) = i := by omega
      rw [e2] at hh
      refine ⟨ad, ⟨by omega, by omega, e1⟩, ?_⟩
      refine ⟨_, hh, ?_⟩
      cases hm : kNum known[i.toNat].toNat with
      | none =>
        rw [hm] at hK
        refine rnum_spec known[i.toNat].toNat_lt ?_
        rw [hm]
        exact ⟨(fun h => by cases h), fun _ => hK⟩
      | some n =>
        rw [hm] at hK
        refine rnum_spec known[i.toNat].toNat_lt ?_
        rw [hm]
        exact ⟨fun _ => hK, fun h => by cases h⟩
    · have h1 := df h
      simp only [show ¬ (0 ≤ i ∧ i < (known.length : Int)) by omega, if_false] at hK
      exact hK
  · have h0 : ¬ 0 ≤ i := fun hh => by rw [decide_eq_true hh] at h; cases h
    simp only [show ¬ (0 ≤ i ∧ i < (known.length : Int)) by omega, if_false] at hK
    exact hK
end Go.Proofs
