/- Part 'R3' of the proof: lemmas, each with its own conditions in its own statement. -/
import Derived.Test.YtmcopfncaehggaaR2
namespace Go.Proofs
open Go.Sy
set_option maxRecDepth 20000
theorem refword_spec {s : List UInt8} {H : Hp} {K : Value → Hp → Prop} (hK : K (.bool (wordB s)) H) : Does Try.prog 74 [.string (bs s)] H K := by
  refine spec_of cx_ok cx_mix rfl Try.func74 Try.call74 Try.ntmps74 Try.results74 rfl rfl ?_
  refine ⟨Nat, fun k => ⟨[(0, .v (.string (bs s))), (5, .own 0), (6, .v (.int .i64 9)), (7, .v (.int .i64 k))], [(0, .row 9 1 (words.map fun w => [.string (bs w)]))], 1⟩, fun k H' => H' = H ∧ k ≤ 9 ∧ ((words.take k).any fun w => decide (s = w)) = false, fun k => 9 - k, ⟨0, [(0, 0)], ?_, rfl, by omega, rfl⟩, ?_⟩
  · exact ⟨⟨rfl, rfl, rfl, rfl, trivial⟩, ⟨rfl, trivial⟩⟩
  rintro k H1 _ ⟨rfl, hk, hany⟩
  refine ⟨fun h => ?_, fun h => ?_⟩
  · have hlt : k < 9 := by have := dt h; omega
    have hl : (words.map fun w => [Value.string (bs w)]).length = 9 := rfl
    refine ⟨⟨by omega, by omega⟩, ?_⟩
    refine ⟨_, words_at _ hlt, ?_⟩
    refine ⟨fun h => ?_, fun h => ?_⟩
    · exact kbool hK (word_true s hlt (of_decide_eq_true h))
    · refine ⟨⟨by omega, by omega⟩, k + 1, [(0, 0)], ?_, ⟨rfl, by omega, by rw [word_step s hlt, hany, Bool.false_or]; exact h⟩, by dsimp only; omega⟩
      exact ⟨⟨rfl, rfl, rfl, rfl, trivial⟩, ⟨rfl, trivial⟩⟩
  · have hk9 : k = 9 := by have := df h; omega
    subst hk9
    exact kbool hK hany
/-- A name's byte. -/
def nmC (c : UInt8) : Bool := letB c || digB c
def nmB (s : List UInt8) : Bool := decide (1 ≤ s.length) && decide (s.length ≤ 12) && letB (s.headD 0) && !wordB s && s.all nmC
theorem nm_head {s : List UInt8} {c : UInt8} (h : s[0]? = some c) : s.headD 0 = c := by
  cases s with
  | nil => cases h
  | cons x r => simpa using h
theorem name2_spec {s : List UInt8} {H : Hp} {K : Value → Hp → Prop} (hK : K (.bool (nmB s)) H) (hs : s.length ≤ 9223372036854775807) : Does Try.prog 48 [.string (bs s)] H K := by
  have hsl : (sl (bs s)).length = s.length := rfl
  refine spec_of cx_ok cx_mix rfl Try.func48 Try.call48 Try.ntmps48 Try.results48 rfl rfl ?_
  refine ⟨fun h1 => ?_, fun h1 => ?_⟩
  · have h1' : ¬ ((s.length : Int) < 1) := of_decide_eq_false h1
    refine ⟨fun h2 => ?_, fun h2 => ?_⟩
    · have h2' : ¬ (12 < (s.length : Int)) := of_decide_eq_false h2
      have h0 : 0 < s.length := by omega
      have hx0 := List.getElem?_eq_getElem h0
      refine ⟨_, ⟨by omega, hx0⟩, ?_⟩
      refine letter_spec ?_
      refine ⟨fun h3 => ?_, fun h3 => ?_⟩
      · have h3' : letB s[0] = true := by simpa using h3
        refine word_spec ?_
        refine ⟨fun h4 => ?_, fun h4 => ?_⟩
        · exact kbool hK (by simp [nmB, h4])
        · have hpre : nmB s = s.all nmC := by
            unfold nmB
            rw [nm_head hx0, h3', h4, decide_eq_true (show 1 ≤ s.length by omega), decide_eq_true (show s.length ≤ 12 by omega)]
            rfl
          refine ⟨Nat, fun i => ⟨[(0, .v (.string (bs s))), (23, .v (.int .i64 s.length)), (24, .v (.int .i64 i))], [], 0⟩, fun i H' => H' = H ∧ i ≤ s.length ∧ (s.take i).all nmC = true, fun i => s.length - i, ⟨0, [], ?_, rfl, by omega, rfl⟩, ?_⟩
          · exact ⟨⟨rfl, rfl, rfl, trivial⟩, trivial⟩
          rintro i H1 _ ⟨rfl, hi, hall⟩
          refine ⟨fun h => ?_, fun h => ?_⟩
          · have hlt : i < s.length := by have := dt h; omega
            have hx := List.getElem?_eq_getElem hlt
            refine ⟨_, ⟨by omega, hx⟩, ?_⟩
            refine letter_spec ?_
            refine ⟨fun h5 => ?_, fun h5 => ?_⟩
            · have h5' : letB s[i] = false := by simpa using h5
              refine ⟨_, ⟨by omega, hx⟩, ?_⟩
              refine digit_spec ?_
              refine ⟨fun h6 => ?_, fun h6 => ?_⟩
              · have h6' : digB s[i] = false := by simpa using h6
                exact kbool hK (by rw [hpre, all_false s nmC hx (by rw [nmC, h5', h6']; rfl)])
              · have h6' : digB s[i] = true := by simpa using h6
                refine ⟨⟨by omega, by omega⟩, i + 1, [], ?_, ⟨rfl, by omega, by rw [all_take_succ s nmC hx, hall, nmC, h5', h6']; rfl⟩, by dsimp only; omega⟩
                exact ⟨⟨rfl, rfl, rfl, trivial⟩, trivial⟩
            · have h5' : letB s[i] = true := by simpa using h5
              refine ⟨⟨by omega, by omega⟩, i + 1, [], ?_, ⟨rfl, by omega, by rw [all_take_succ s nmC hx, hall, nmC, h5']; rfl⟩, by dsimp only; omega⟩
              exact ⟨⟨rfl, rfl, rfl, trivial⟩, trivial⟩
          · have hil : i = s.length := by have := df h; omega
            rw [hil, List.take_length] at hall
            exact kbool hK (by rw [hpre, hall])
      · have h3' : letB s[0] = false := by simpa using h3
        exact kbool hK (by simp only [nmB, nm_head hx0, h3', Bool.and_false, Bool.false_and])
    · have h2' : 12 < (s.length : Int) := of_decide_eq_true h2
      exact kbool hK (by simp only [nmB, decide_eq_false (show ¬ s.length ≤ 12 by omega), Bool.and_false, Bool.false_and])
  · have h1' : (s.length : Int) < 1 := of_decide_eq_true h1
    exact kbool hK (by simp only [nmB, decide_eq_false (show ¬ 1 ≤ s.length by omega), Bool.false_and])
theorem refname2_spec {s : List UInt8} {H : Hp} {K : Value → Hp → Prop} (hK : K (.bool (nmB s)) H) (hs : s.length ≤ 9223372036854775807) : Does Try.prog 50 [.string (bs s)] H K := by
  have hsl : (sl (bs s)).length = s.length := rfl
  refine spec_of cx_ok cx_mix rfl Try.func50 Try.call50 Try.ntmps50 Try.results50 rfl rfl ?_
  refine ⟨fun h1 => ?_, fun h1 => ?_⟩
  · have h1' : ¬ ((s.length : Int) = 0) := of_decide_eq_false h1
    refine ⟨fun h2 => ?_, fun h2 => ?_⟩
    · have h2' : ¬ (12 < (s.length : Int)) := of_decide_eq_false h2
      have h0 : 0 < s.length := by omega
      have hx0 := List.getElem?_eq_getElem h0
      refine ⟨_, ⟨by omega, hx0⟩, ?_⟩
      refine refletter_spec ?_
      refine ⟨fun h3 => ?_, fun h3 => ?_⟩
      · have h3' : letB s[0] = true := by simpa using h3
        refine refword_spec ?_
        refine ⟨fun h4 => ?_, fun h4 => ?_⟩
        · exact kbool hK (by simp [nmB, h4])
        · have hpre : nmB s = s.all nmC := by
            unfold nmB
            rw [nm_head hx0, h3', h4, decide_eq_true (show 1 ≤ s.length by omega), decide_eq_true (show s.length ≤ 12 by omega)]
            rfl
          refine ⟨Nat, fun i => ⟨[(0, .v (.string (bs s))), (3, .v (.int .i64 i))], [], 0⟩, fun i H' => H' = H ∧ i ≤ s.length ∧ (s.take i).all nmC = true, fun i => s.length - i, ⟨0, [], ?_, rfl, by omega, rfl⟩, ?_⟩
          · exact ⟨⟨rfl, rfl, trivial⟩, trivial⟩
          rintro i H1 _ ⟨rfl, hi, hall⟩
          refine ⟨fun h => ?_, fun h => ?_⟩
          · have hlt : i < s.length := by have := dt h; omega
            have hx := List.getElem?_eq_getElem hlt
            refine ⟨_, ⟨by omega, hx⟩, ?_⟩
            refine refletter_spec ?_
            refine ⟨fun h5 => ?_, fun h5 => ?_⟩
            · have h5' : letB s[i] = false := by simpa using h5
              refine ⟨_, ⟨by omega, hx⟩, ?_⟩
              refine refdigit_spec ?_
              refine ⟨fun h6 => ?_, fun h6 => ?_⟩
              · have h6' : digB s[i] = false := by simpa using h6
                exact kbool hK (by rw [hpre, all_false s nmC hx (by rw [nmC, h5', h6']; rfl)])
              · have h6' : digB s[i] = true := by simpa using h6
                refine ⟨⟨by omega, by omega⟩, i + 1, [], ?_, ⟨rfl, by omega, by rw [all_take_succ s nmC hx, hall, nmC, h5', h6']; rfl⟩, by dsimp only; omega⟩
                exact ⟨⟨rfl, rfl, trivial⟩, trivial⟩
            · have h5' : letB s[i] = true := by simpa using h5
              refine ⟨⟨by omega, by omega⟩, i + 1, [], ?_, ⟨rfl, by omega, by rw [all_take_succ s nmC hx, hall, nmC, h5']; rfl⟩, by dsimp only; omega⟩
              exact ⟨⟨rfl, rfl, trivial⟩, trivial⟩
          · have hil : i = s.length := by have := df h; omega
            rw [hil, List.take_length] at hall
            exact kbool hK (by rw [hpre, hall])
      · have h3' : letB s[0] = false := by simpa using h3
        exact kbool hK (by simp only [nmB, nm_head hx0, h3', Bool.and_false, Bool.false_and])
    · have h2' : 12 < (s.length : Int) := of_decide_eq_true h2
      exact kbool hK (by simp only [nmB, decide_eq_false (show ¬ s.length ≤ 12 by omega), Bool.and_false, Bool.false_and])
  · have h1' : (s.length : Int) = 0 := of_decide_eq_true h1
    exact kbool hK (by simp only [nmB, decide_eq_false (show ¬ 1 ≤ s.length by omega), Bool.false_and])
end Go.Proofs
