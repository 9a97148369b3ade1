/- Part 'V6' of the proof: lemmas, each with its own conditions in its own statement. -/
import Derived.Test.YtmcopfncaehggaaV5
namespace Go.Proofs
open Go.Sy
set_option maxRecDepth 20000
abbrev vL (l : List Value) : List SV := l.map .v
theorem change_spec {p : Prog} {known : List UInt64} {x : Expr} {a ka : Option Addr} {n c kn kc : Nat} {b : Bool} {H : Hp} {K : SV → St → Hp → Prop} (ha : RL H a n c p) (hk : RL H ka kn kc known) (hc : cnt p < 400000)
    (hK : ∀ b', b' = (b && decide ((foldA p known x.2.1).1.l = [])) → K (.tup []) ⟨[], [(0, .cells 55 (vL (exprV (x.1, foldA p known x.2.1, x.2.2)))), (1, .cells 48 [.v (.slice a n c)]), (2, .cells 49 [.v (.slice ka kn kc)]), (3, .cells 4 [.kb b'])], 4⟩ H) :
    DoesG Try.prog 62 [.ptr 0 1, .ptr 1 0, .ptr 2 0, .ptr 3 0] [(0, .cells 55 (vL (exprV x))), (1, .cells 48 [.v (.slice a n c)]), (2, .cells 49 [.v (.slice ka kn kc)]), (3, .cells 4 [.kb b])] 4 H K := by
  refine spec_ofG cx_ok cx_mix Try.func62 Try.call62 Try.ntmps62 Try.results62 rfl rfl ?_
  refine ⟨some ([0], [0, 1, 2, 3, 4, 5, 6, 7, 8]), by kernel_rfl, ?_⟩
  refine atom_spec ha hk hc fun H1 hle1 => ?_
  obtain ⟨y, hy⟩ : ∃ y, y = foldA p known x.2.1 := ⟨_, rfl⟩
  rw [← hy] at hK ⊢
  cases b with
  | true =>
    exact ⟨.tup [], [(0, .cells 55 (vL (exprV (x.1, y, x.2.2)))), (1, .cells 48 [.v (.slice a n c)]), (2, .cells 49 [.v (.slice ka kn kc)]), (3, .cells 4 [.kb (decide (y.1.l = []))])], 4, [(0, 0), (1, 1), (2, 2), (3, 3)],
      ⟨⟨⟨rfl, rfl⟩, trivial⟩, ⟨⟨rfl, rfl, rfl, rfl, rfl, rfl, rfl, trivial⟩, ⟨rfl, trivial⟩, ⟨rfl, trivial⟩, ⟨rfl, trivial⟩, trivial⟩⟩, hK _ rfl⟩
  | false =>
    exact ⟨.tup [], [(0, .cells 55 (vL (exprV (x.1, y, x.2.2)))), (1, .cells 48 [.v (.slice a n c)]), (2, .cells 49 [.v (.slice ka kn kc)]), (3, .cells 4 [.kb false])], 4, [(0, 0), (1, 1), (2, 2), (3, 3)],
      ⟨⟨⟨rfl, rfl⟩, trivial⟩, ⟨⟨rfl, rfl, rfl, rfl, rfl, rfl, rfl, trivial⟩, ⟨rfl, trivial⟩, ⟨rfl, trivial⟩, ⟨rfl, trivial⟩, trivial⟩⟩, hK _ rfl⟩
theorem change2_spec {p : Prog} {known : List UInt64} {x : Expr} {a ka : Option Addr} {n c kn kc : Nat} {b : Bool} {H : Hp} {K : SV → St → Hp → Prop} (ha : RL H a n c p) (hk : RL H ka kn kc known) (hc : cnt p < 400000)
    (hK : ∀ b', b' = (b && decide ((foldA p known x.2.2).1.l = [])) → K (.tup []) ⟨[], [(0, .cells 55 (vL (exprV (x.1, x.2.1, foldA p known x.2.2)))), (1, .cells 48 [.v (.slice a n c)]), (2, .cells 49 [.v (.slice ka kn kc)]), (3, .cells 4 [.kb b'])], 4⟩ H) :
    DoesG Try.prog 62 [.ptr 0 4, .ptr 1 0, .ptr 2 0, .ptr 3 0] [(0, .cells 55 (vL (exprV x))), (1, .cells 48 [.v (.slice a n c)]), (2, .cells 49 [.v (.slice ka kn kc)]), (3, .cells 4 [.kb b])] 4 H K := by
  refine spec_ofG cx_ok cx_mix Try.func62 Try.call62 Try.ntmps62 Try.results62 rfl rfl ?_
  refine ⟨some ([0], [0, 1, 2, 3, 4, 5, 6, 7, 8]), by kernel_rfl, ?_⟩
  refine atom_spec ha hk hc fun H1 hle1 => ?_
  obtain ⟨y, hy⟩ : ∃ y, y = foldA p known x.2.2 := ⟨_, rfl⟩
  rw [← hy] at hK ⊢
  cases b with
  | true =>
    exact ⟨.tup [], [(0, .cells 55 (vL (exprV (x.1, x.2.1, y)))), (1, .cells 48 [.v (.slice a n c)]), (2, .cells 49 [.v (.slice ka kn kc)]), (3, .cells 4 [.kb (decide (y.1.l = []))])], 4, [(0, 0), (1, 1), (2, 2), (3, 3)],
      ⟨⟨⟨rfl, rfl⟩, trivial⟩, ⟨⟨rfl, rfl, rfl, rfl, rfl, rfl, rfl, trivial⟩, ⟨rfl, trivial⟩, ⟨rfl, trivial⟩, ⟨rfl, trivial⟩, trivial⟩⟩, hK _ rfl⟩
  | false =>
    exact ⟨.tup [], [(0, .cells 55 (vL (exprV (x.1, x.2.1, y)))), (1, .cells 48 [.v (.slice a n c)]), (2, .cells 49 [.v (.slice ka kn kc)]), (3, .cells 4 [.kb false])], 4, [(0, 0), (1, 1), (2, 2), (3, 3)],
      ⟨⟨⟨rfl, rfl⟩, trivial⟩, ⟨⟨rfl, rfl, rfl, rfl, rfl, rfl, rfl, trivial⟩, ⟨rfl, trivial⟩, ⟨rfl, trivial⟩, ⟨rfl, trivial⟩, trivial⟩⟩, hK _ rfl⟩
def foldE (p : Prog) (known : List UInt64) (x : Expr) : Expr :=
  let y1 := if 0 < nAt x.1 then foldA p known x.2.1 else x.2.1
  let y2 := if 1 < nAt x.1 then foldA p known x.2.2 else x.2.2
  if 0 < nAt x.1 ∧ y1.1.l = [] ∧ (nAt x.1 = 1 ∨ y2.1.l = []) then (0, (⟨[]⟩, nOp x.1 y1.2 y2.2), (⟨[]⟩, (0, 0))) else (x.1, y1, y2)
theorem nAt_is (op : Int) : opIs op = decide (0 < nAt op) := by
  unfold opIs nAt
  by_cases h : op = 0 ∨ op = 4
  · rw [if_pos h]; exact decide_eq_true (by omega)
  · rw [if_neg h]
    by_cases h' : op = 1 ∨ op = 2 ∨ op = 3
    · rw [if_pos h']; exact decide_eq_true (by omega)
    · rw [if_neg h']; exact decide_eq_false (by omega)
theorem expr_spec {p : Prog} {known : List UInt64} {x : Expr} {a ka : Option Addr} {n c kn kc : Nat} {H : Hp} {K : Value → Hp → Prop} (ha : RL H a n c p) (hk : RL H ka kn kc known) (hc : cnt p < 400000)
    (hK : ∀ H', Le H H' → K (exprA (foldE p known x)) H') : Does Try.prog 35 [.agg #[.slice a n c], .slice ka kn kc, exprA x] H K := by
  refine spec_of cx_ok cx_mix rfl Try.func35 Try.call35 Try.ntmps35 Try.results35 rfl rfl ?_
  have hop := nAt_is x.1
  refine atoms_spec fun a1 c1 H1 hle1 => ?_
  refine ⟨fun h => ?_, fun h => ?_⟩
  · have h0 : 0 < nAt x.1 := by have := dt h; omega
    refine ⟨[2, 0, 1, 4], rfl, ?_⟩
    refine change_spec (ha.up hle1) (hk.up hle1) hc fun b hb => ?_
    obtain ⟨y1, hy1⟩ : ∃ y, y = foldA p known x.2.1 := ⟨_, rfl⟩
    rw [← hy1] at hb ⊢
    refine atoms_spec fun a2 c2 H2 hle2 => ?_
    have hK := hK _ (hle1.trans hle2)
    refine ⟨fun h => ?_, fun h => ?_⟩
    · have h1 : 1 < nAt x.1 := by have := dt h; simp only at this; omega
      refine ⟨[2, 0, 1, 4], rfl, ?_⟩
      refine change2_spec (x := (x.1, y1, x.2.2)) (ha.up (hle1.trans hle2)) (hk.up (hle1.trans hle2)) hc fun b' hb' => ?_
      refine gop_spec (a := y1.2) (b := (foldA p known x.2.2).2) ?_
      rw [hop, decide_eq_true h0]
      have hE : foldE p known x = if y1.1.l = [] ∧ (foldA p known x.2.2).1.l = [] then (0, (⟨[]⟩, nOp x.1 y1.2 (foldA p known x.2.2).2), (⟨[]⟩, (0, 0))) else (x.1, y1, foldA p known x.2.2) := by
        unfold foldE
        simp only [h0, h1, if_true, ← hy1, true_and, show ¬ nAt x.1 = 1 by omega, false_or]
      rw [hE] at hK
      cases b' with
      | true =>
        have hb2 : y1.1.l = [] ∧ (foldA p known x.2.2).1.l = [] := by rw [hb] at hb'; simpa using hb'.symm
        rw [if_pos hb2] at hK
        exact ⟨(fun h => by cases h), fun _ => hK⟩
      | false =>
        have hb2 : ¬ (y1.1.l = [] ∧ (foldA p known x.2.2).1.l = []) := by
          rw [hb] at hb'
          intro hh
          simp [hh.1, hh.2] at hb'
        rw [if_neg hb2] at hK
        exact hK
    · have h1 : ¬ 1 < nAt x.1 := by have := df h; simp only at this; omega
      refine gop_spec (a := y1.2) (b := x.2.2.2) ?_
      rw [hop, decide_eq_true h0]
      have hE : foldE p known x = if y1.1.l = [] then (0, (⟨[]⟩, nOp x.1 y1.2 x.2.2.2), (⟨[]⟩, (0, 0))) else (x.1, y1, x.2.2) := by
        have hn1 : nAt x.1 = 1 := by omega
        unfold foldE
        rw [hn1, ← hy1]
        simp only [show (0 : Nat) < 1 by decide, show ¬ (1 : Nat) < 1 by decide, if_true, if_false, true_and, true_or, and_true]
      rw [hE] at hK
      cases b with
      | true =>
        have hb2 : y1.1.l = [] := by simpa using hb.symm
        rw [if_pos hb2] at hK
        exact ⟨(fun h => by cases h), fun _ => hK⟩
      | false =>
        have hb2 : ¬ y1.1.l = [] := by
          intro hh
          simp [hh] at hb
        rw [if_neg hb2] at hK
        exact hK
  · have h0 : ¬ 0 < nAt x.1 := by have := df h; omega
    have hE : foldE p known x = x := by
      unfold foldE
      simp only [h0, show ¬ 1 < nAt x.1 by omega, if_false, false_and]
    refine atoms_spec fun a2 c2 H2 hle2 => ?_
    have hK := hK _ (hle1.trans hle2)
    rw [hE] at hK
    refine ⟨fun h => ?_, fun h => ?_⟩
    · have := dt h; omega
    · refine gop_spec (a := x.2.1.2) (b := x.2.2.2) ?_
      rw [hop, decide_eq_false h0]
      exact ⟨fun _ => hK, fun h => by cases h⟩
theorem rexpr_spec {p : Prog} {known : List UInt64} {x : Expr} {a ka : Option Addr} {n c kn kc : Nat} {H : Hp} {K : Value → Hp → Prop} (ha : RL H a n c p) (hk : RL H ka kn kc known) (hc : cnt p < 400000)
    (hK : ∀ H', Le H H' → K (exprA (foldE p known x)) H') : Does Try.prog 36 [.agg #[.slice a n c], .slice ka kn kc, exprA x] H K := by
  refine spec_of cx_ok cx_mix rfl Try.func36 Try.call36 Try.ntmps36 Try.results36 rfl rfl ?_
  have hop := nAt_is x.1
  refine ratoms_spec fun a1 c1 H1 hle1 => ?_
  have hK := hK _ hle1
  refine ⟨fun h => ?_, fun h => ?_⟩
  · have h0 : 0 < nAt x.1 := by have := dt h; omega
    refine ratom_spec (ha.up hle1) (hk.up hle1) hc fun H2 hle2 => ?_
    obtain ⟨y1, hy1⟩ : ∃ y, y = foldA p known x.2.1 := ⟨_, rfl⟩
    rw [← hy1]
    refine ⟨fun h => ?_, fun h => ?_⟩
    · have h1 : 1 < nAt x.1 := by have := dt h; omega
      refine ratom_spec (ha.up hle1) (hk.up hle1) hc fun H3 hle3 => ?_
      have hE : foldE p known x = if y1.1.l = [] ∧ (foldA p known x.2.2).1.l = [] then (0, (⟨[]⟩, nOp x.1 y1.2 (foldA p known x.2.2).2), (⟨[]⟩, (0, 0))) else (x.1, y1, foldA p known x.2.2) := by
        unfold foldE
        simp only [h0, h1, if_true, ← hy1, true_and, show ¬ nAt x.1 = 1 by omega, false_or]
      rw [hE] at hK
      obtain ⟨y2, hy2⟩ : ∃ y, y = foldA p known x.2.2 := ⟨_, rfl⟩
      rw [← hy2] at hK ⊢
      have hA : ∀ q : Prop, ∀ [Decidable q], decide q = !true → ¬ q := fun q _ h hq => by rw [decide_eq_true hq] at h; cases h
      refine ⟨fun _ => ?_, fun h => absurd (show ((0 : Int) < (nAt x.1 : Int)) by omega) (hA _ h)⟩
      refine ⟨fun h => ?_, fun h => ?_⟩
      · have v1 : y1.1.l = [] := dt h
        refine ⟨fun h => ?_, fun h => ?_⟩
        · refine ⟨fun h => ?_, fun h => ?_⟩
          · have v2 : y2.1.l = [] := dt h
            rw [if_pos ⟨v1, v2⟩] at hK
            refine rop_spec (a := y1.2) (b := y2.2) ?_
            exact hK
          · have v2 : ¬ y2.1.l = [] := df h
            rw [if_neg (fun hh => v2 hh.2)] at hK
            exact hK
        · have h : decide (((nAt x.1 : Nat) : Int) = 1) = true := by cases hh : decide (((nAt x.1 : Nat) : Int) = 1) <;> simp_all
          have := dt h; omega
      · have v1 : ¬ y1.1.l = [] := hA _ h
        rw [if_neg (fun hh => v1 hh.1)] at hK
        exact hK
    · have h1 : ¬ 1 < nAt x.1 := by have := df h; omega
      have hE : foldE p known x = if y1.1.l = [] then (0, (⟨[]⟩, nOp x.1 y1.2 x.2.2.2), (⟨[]⟩, (0, 0))) else (x.1, y1, x.2.2) := by
        have hn1 : nAt x.1 = 1 := by omega
        unfold foldE
        rw [hn1, ← hy1]
        simp only [show (0 : Nat) < 1 by decide, show ¬ (1 : Nat) < 1 by decide, if_true, if_false, true_and, true_or, and_true]
      rw [hE] at hK
      have hA : ∀ q : Prop, ∀ [Decidable q], decide q = !true → ¬ q := fun q _ h hq => by rw [decide_eq_true hq] at h; cases h
      refine ⟨fun _ => ?_, fun h => absurd (show ((0 : Int) < (nAt x.1 : Int)) by omega) (hA _ h)⟩
      refine ⟨fun h => ?_, fun h => ?_⟩
      · have v1 : y1.1.l = [] := dt h
        rw [if_pos v1] at hK
        refine ⟨fun h => ?_, fun h => ?_⟩
        · have := df h; omega
        · refine rop_spec (a := y1.2) (b := x.2.2.2) ?_
          exact hK
      · have v1 : ¬ y1.1.l = [] := hA _ h
        rw [if_neg v1] at hK
        exact hK
  · have h0 : ¬ 0 < nAt x.1 := by have := df h; omega
    have hE : foldE p known x = x := by
      unfold foldE
      simp only [h0, show ¬ 1 < nAt x.1 by omega, if_false, false_and]
    rw [hE] at hK
    refine ⟨fun h => ?_, fun h => ?_⟩
    · have := dt h; omega
    · have hA : ∀ q : Prop, ∀ [Decidable q], decide q = !true → ¬ q := fun q _ h hq => by rw [decide_eq_true hq] at h; cases h
      refine ⟨fun h => ?_, fun h => ?_⟩
      · have := dt h; omega
      · exact hK
end Go.Proofs
