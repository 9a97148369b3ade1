/- Part 'R2' of the proof: lemmas, each with its own conditions in its own statement. -/
import Derived.Test.YtmcopfncaehggaaR1
namespace Go.Proofs
open Go.Sy
set_option maxRecDepth 20000
theorem printable_spec {s : List UInt8} (hs : s.length ≤ 9223372036854775807) {H : Hp} {K : Value → Hp → Prop} (hK : K (.bool (prB s)) H) : Does Try.prog 45 [.string (bs s)] H K := by
  have hsl : (sl (bs s)).length = s.length := rfl
  refine spec_of cx_ok cx_mix rfl Try.func45 Try.call45 Try.ntmps45 Try.results45 rfl rfl ?_
  refine ⟨Nat, fun i => ⟨[(0, .v (.string (bs s))), (5, .v (.int .i64 s.length)), (6, .v (.int .i64 i))], [], 0⟩, fun i H' => H' = H ∧ i ≤ s.length ∧ (s.take i).all prC = true, fun i => s.length - i, ⟨0, [], ?_, rfl, by omega, rfl⟩, ?_⟩
  · exact ⟨⟨rfl, rfl, rfl, trivial⟩, trivial⟩
  rintro i H1 _ ⟨rfl, hi, hall⟩
  refine ⟨fun h => ?_, fun h => ?_⟩
  · have hlt : i < s.length := by have := dt h; omega
    have hx := List.getElem?_eq_getElem hlt
    refine ⟨_, ⟨by omega, hx⟩, ?_⟩
    refine ⟨fun h1 => ?_, fun h1 => ?_⟩
    · have h1' : ¬ ((s[i]).toNat : Int) < 32 := of_decide_eq_false h1
      refine ⟨_, ⟨by omega, hx⟩, ?_⟩
      refine ⟨fun h2 => ?_, fun h2 => ?_⟩
      · have hf : prC s[i] = false := by unfold prC; rw [h2]; simp
        exact kbool hK (by rw [prB, all_false s prC hx hf]; rfl)
      · have ht : prC s[i] = true := by unfold prC; rw [h1, h2]; rfl
        refine ⟨⟨by omega, by omega⟩, i + 1, [], ?_, ⟨rfl, by omega, by rw [all_take_succ s prC hx, hall, ht]; rfl⟩, by dsimp only; omega⟩
        exact ⟨⟨rfl, rfl, rfl, trivial⟩, trivial⟩
    · have hf : prC s[i] = false := by unfold prC; rw [h1]; rfl
      exact kbool hK (by rw [prB, all_false s prC hx hf]; rfl)
  · have hil : i = s.length := by have := df h; omega
    rw [hil, List.take_length] at hall
    have e : (!decide (s = [])) = prB s := by rw [prB, hall]; simp
    exact kbool (a := prB s) hK e.symm
theorem refprintable_spec {s : List UInt8} (hs : s.length ≤ 9223372036854775807) {H : Hp} {K : Value → Hp → Prop} (hK : K (.bool (prB s)) H) : Does Try.prog 76 [.string (bs s)] H K := by
  have hsl : (sl (bs s)).length = s.length := rfl
  refine spec_of cx_ok cx_mix rfl Try.func76 Try.call76 Try.ntmps76 Try.results76 rfl rfl ?_
  refine ⟨Nat, fun i => ⟨[(0, .v (.string (bs s))), (3, .v (.int .i64 i))], [], 0⟩, fun i H' => H' = H ∧ i ≤ s.length ∧ (s.take i).all prC = true, fun i => s.length - i, ⟨0, [], ?_, rfl, by omega, rfl⟩, ?_⟩
  · exact ⟨⟨rfl, rfl, trivial⟩, trivial⟩
  rintro i H1 _ ⟨rfl, hi, hall⟩
  refine ⟨fun h => ?_, fun h => ?_⟩
  · have hlt : i < s.length := by have := dt h; omega
    have hx := List.getElem?_eq_getElem hlt
    refine ⟨_, ⟨by omega, hx⟩, ?_⟩
    refine ⟨fun h1 => ?_, fun h1 => ?_⟩
    · refine ⟨_, ⟨by omega, hx⟩, ?_⟩
      refine ⟨fun h2 => ?_, fun h2 => ?_⟩
      · have hf : prC s[i] = false := by unfold prC; rw [h2]; simp
        exact kbool hK (by rw [prB, all_false s prC hx hf]; rfl)
      · have ht : prC s[i] = true := by unfold prC; rw [h1, h2]; rfl
        refine ⟨⟨by omega, by omega⟩, i + 1, [], ?_, ⟨rfl, by omega, by rw [all_take_succ s prC hx, hall, ht]; rfl⟩, by dsimp only; omega⟩
        exact ⟨⟨rfl, rfl, trivial⟩, trivial⟩
    · have hf : prC s[i] = false := by unfold prC; rw [h1]; rfl
      exact kbool hK (by rw [prB, all_false s prC hx hf]; rfl)
  · have hil : i = s.length := by have := df h; omega
    rw [hil, List.take_length] at hall
    have e : decide (0 < ((s.length : Nat) : Int)) = prB s := by
      rw [prB, hall, Bool.true_and, decide_eq_decide]
      rw [← List.length_pos_iff]
      omega
    exact kbool (a := prB s) hK e.symm
def words : List (List UInt8) := [[98,108,111,99,107], [103,111,116,111], [105,102], [116,104,101,110], [101,108,115,101], [114,101,116], [105,110], [111,117,116], [99,111,110,106]]
def wordB (s : List UInt8) : Bool := words.any fun w => decide (s = w)
theorem words_at {β : Type} (f : List UInt8 → β) {k : Nat} (h : k < 9) : (words.map f)[k]? = some (f (words.getD k [])) := by
  have : k < words.length := h
  rw [List.getElem?_map, List.getD_eq_getElem?_getD, List.getElem?_eq_getElem this]; rfl
theorem word_step (s : List UInt8) {k : Nat} (h : k < 9) : ((words.take (k + 1)).any fun w => decide (s = w)) = (((words.take k).any fun w => decide (s = w)) || decide (s = words.getD k [])) := by
  have hl : k < words.length := h
  rw [List.take_add_one, List.getElem?_eq_getElem hl, List.getD_eq_getElem?_getD, List.getElem?_eq_getElem hl, Option.toList_some, List.any_append]
  simp
theorem word_true (s : List UInt8) {k : Nat} (h : k < 9) (he : s = words.getD k []) : wordB s = true := by
  have hl : k < words.length := h
  unfold wordB
  rw [List.any_eq_true]
  refine ⟨words.getD k [], ?_, by simpa using he⟩
  rw [List.getD_eq_getElem?_getD, List.getElem?_eq_getElem hl]
  exact List.getElem_mem hl
theorem word_spec {s : List UInt8} {H : Hp} {K : Value → Hp → Prop} (hK : K (.bool (wordB s)) H) : Does Try.prog 70 [.string (bs s)] H K := by
  refine spec_of cx_ok cx_mix rfl Try.func70 Try.call70 Try.ntmps70 Try.results70 rfl rfl ?_
  refine ⟨Nat, fun k => ⟨[(0, .v (.string (bs s))), (5, .agg (words.map fun w => .v (.string (bs w)))), (6, .v (.int .i64 k))], [], 0⟩, fun k H' => H' = H ∧ k ≤ 9 ∧ ((words.take k).any fun w => decide (s = w)) = false, fun k => 9 - k, ⟨0, [], ?_, rfl, by omega, rfl⟩, ?_⟩
  · exact ⟨⟨rfl, ⟨rfl, rfl⟩, rfl, trivial⟩, trivial⟩
  rintro k H1 _ ⟨rfl, hk, hany⟩
  refine ⟨fun h => ?_, fun h => ?_⟩
  · have hlt : k < 9 := by have := dt h; omega
    refine ⟨_, ⟨by omega, by omega, words_at _ hlt⟩, ?_⟩
    refine ⟨fun h => ?_, fun h => ?_⟩
    · exact kbool hK (word_true s hlt (of_decide_eq_true h))
    · refine ⟨⟨by omega, by omega⟩, k + 1, [], ?_, ⟨rfl, by omega, by rw [word_step s hlt, hany, Bool.false_or]; exact h⟩, by dsimp only; omega⟩
      exact ⟨⟨rfl, ⟨rfl, rfl⟩, rfl, trivial⟩, trivial⟩
  · have hk9 : k = 9 := by have := df h; omega
    subst hk9
    exact kbool hK hany
end Go.Proofs
