/- Part 'E1' of the proof: lemmas, each with its own conditions in its own statement. -/
import Derived.Test.YtmcopfncaehggaaEnc
import Derived.Test.YtmcopfncaehggaaTt
namespace Go.Proofs
open Go.Sy

def nameOf (k : Int) : List UInt8 := if k = 1 then [108,105,118,101] else if k = 2 then [114,101,97,99,104] else if k = 3 then [97,118,97,105,108] else if k = 4 then [99,111,110,115,116] else []

theorem name_spec {k : Int} {H : Hp} {K : Value → Hp → Prop} (hK : K (.string (bs (nameOf k))) H) : Does Try.prog 12 [.int .i64 k] H K := by
  refine spec_of cx_ok cx_mix rfl Try.func12 Try.call12 Try.ntmps12 Try.results12 rfl rfl ?_
  refine ⟨fun h => ?_, fun h => ⟨fun h2 => ?_, fun h2 => ⟨fun h3 => ?_, fun h3 => ⟨fun h4 => ?_, fun h4 => ?_⟩⟩⟩⟩
  all_goals simp only [decide_eq_true_eq, decide_eq_false_iff_not] at *
  · subst h; exact hK
  · subst h2; exact hK
  · subst h3; exact hK
  · subst h4; exact hK
  · rw [show nameOf k = [] by simp [nameOf, *]] at hK; exact hK

theorem refname_spec {k : Int} {H : Hp} {K : Value → Hp → Prop} (hK : K (.string (bs (nameOf k))) H) : Does Try.prog 11 [.int .i64 k] H K := by
  refine spec_of cx_ok cx_mix rfl Try.func11 Try.call11 Try.ntmps11 Try.results11 rfl rfl ?_
  refine ⟨fun h => ⟨fun h2 => ?_, fun h2 => ?_⟩, fun h => ?_⟩
  · rw [show nameOf k = [] by simp only [nameOf]; repeat (rw [if_neg (by simp at h h2; omega)])] at hK; exact hK
  · simp only [decide_eq_false_iff_not] at h h2
    have h5 : k - 1 < ((4 : Nat) : Int) := by omega
    refine ⟨⟨by omega, by omega⟩, ⟨by omega, h5⟩, [.string (bs (nameOf k))], ?_, hK⟩
    obtain rfl | rfl | rfl | rfl : k = 1 ∨ k = 2 ∨ k = 3 ∨ k = 4 := by omega
    all_goals rfl
  · rw [show nameOf k = [] by simp only [nameOf]; repeat (rw [if_neg (by simp at h; omega)])] at hK; exact hK

def kindOf (l : List UInt8) : Int := if l = nameOf 1 then 1 else if l = nameOf 2 then 2 else if l = nameOf 3 then 3 else if l = nameOf 4 then 4 else 0

theorem kindOf_found {l : List UInt8} {k : Int} (h1 : 1 ≤ k) (h4 : k ≤ 4) (h : nameOf k = l) : kindOf l = k := by
  subst h
  obtain rfl | rfl | rfl | rfl : k = 1 ∨ k = 2 ∨ k = 3 ∨ k = 4 := by omega
  all_goals rfl
theorem kindOf_none {l : List UInt8} (h : ∀ k : Int, 1 ≤ k → k ≤ 4 → nameOf k ≠ l) : kindOf l = 0 := by
  unfold kindOf
  rw [if_neg (fun e => h 1 (by omega) (by omega) e.symm), if_neg (fun e => h 2 (by omega) (by omega) e.symm), if_neg (fun e => h 3 (by omega) (by omega) e.symm), if_neg (fun e => h 4 (by omega) (by omega) e.symm)]

theorem kind_spec {l : List UInt8} {H : Hp} {K : Value → Hp → Prop} (hK : ∀ H', Le H H' → K (.int .i64 (kindOf l)) H') : Does Try.prog 13 [.string (bs l)] H K := by
  refine spec_of cx_ok cx_mix rfl Try.func13 Try.call13 Try.ntmps13 Try.results13 rfl rfl ?_
  refine ⟨Nat, fun k => ⟨[(0, .v (.string (bs l))), (3, .v (.int .i64 (k + 1)))], [], 0⟩, fun k H' => Le H H' ∧ k ≤ 4 ∧ ∀ i : Int, 1 ≤ i → i ≤ k → nameOf i ≠ l, fun k => 5 - k, ⟨0, [], ?_, Le.refl H, by omega, by intros; omega⟩, ?_⟩
  · exact ⟨⟨rfl, rfl, trivial⟩, trivial⟩
  rintro k H' _ ⟨hle, hk, hne⟩
  refine ⟨fun h => ?_, fun h => ?_⟩
  · have h := of_decide_eq_true h
    refine name_spec ?_
    refine ⟨fun h2 => ?_, fun h2 => ?_⟩
    · have h2 : nameOf (k + 1) = l := of_decide_eq_true h2
      have := hK H' hle
      rw [kindOf_found (by omega) h h2] at this
      exact this
    · have h2 : nameOf (k + 1) ≠ l := of_decide_eq_false h2
      refine ⟨⟨by omega, by omega⟩, k + 1, [], ?_, ⟨hle, by omega, fun i h3 h4 => ?_⟩, by dsimp only; omega⟩
      · exact ⟨⟨rfl, rfl, trivial⟩, trivial⟩
      by_cases e : i = k + 1
      · subst e; exact h2
      · exact hne i h3 (by omega)
  · have h := of_decide_eq_false h
    have := hK H' hle
    rw [kindOf_none (fun i h1 h2 => hne i h1 (by omega))] at this
    exact this
end Go.Proofs
