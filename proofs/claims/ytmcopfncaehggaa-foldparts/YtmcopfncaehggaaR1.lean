/- Part 'R1' of the proof: lemmas, each with its own conditions in its own statement. -/
import Derived.Test.YtmcopfncaehggaaE7
namespace Go.Proofs
open Go.Sy
set_option maxRecDepth 20000
def letB (c : UInt8) : Bool := (decide (97 ≤ (c.toNat : Int)) && decide ((c.toNat : Int) ≤ 122)) || (decide (65 ≤ (c.toNat : Int)) && decide ((c.toNat : Int) ≤ 90)) || decide ((c.toNat : Int) = 95)
def digB (c : UInt8) : Bool := decide (48 ≤ (c.toNat : Int)) && decide ((c.toNat : Int) ≤ 57)
theorem kbool {K : Value → Hp → Prop} {H : Hp} {a b : Bool} (h : K (.bool a) H) (e : a = b) : K (.bool b) H := e ▸ h
theorem letter_spec {c : UInt8} {H : Hp} {K : Value → Hp → Prop} (hK : K (.bool (letB c)) H) : Does Try.prog 69 [.int .u8 c.toNat] H K := by
  refine spec_of cx_ok cx_mix rfl Try.func69 Try.call69 Try.ntmps69 Try.results69 rfl rfl ?_
  refine ⟨fun h1 => ?_, fun h1 => ?_⟩
  · refine ⟨fun h2 => ?_, fun h2 => ?_⟩
    · refine ⟨fun h3 => ?_, fun h3 => ?_⟩
      · refine ⟨fun h4 => ?_, fun h4 => ?_⟩
        · exact kbool hK (by simp [letB, h1, h2, h3, h4])
        · exact kbool hK (by simp [letB, h1, h2, h3, h4])
      · exact kbool hK (by simp [letB, h1, h2, h3])
    · exact kbool hK (by simp [letB, h1, h2])
  · refine ⟨fun h3 => ?_, fun h3 => ?_⟩
    · refine ⟨fun h4 => ?_, fun h4 => ?_⟩
      · exact kbool hK (by simp [letB, h1, h3, h4])
      · exact kbool hK (by simp [letB, h1, h3, h4])
    · exact kbool hK (by simp [letB, h1, h3])
theorem digit_spec {c : UInt8} {H : Hp} {K : Value → Hp → Prop} (hK : K (.bool (digB c)) H) : Does Try.prog 71 [.int .u8 c.toNat] H K := by
  refine spec_of cx_ok cx_mix rfl Try.func71 Try.call71 Try.ntmps71 Try.results71 rfl rfl ?_
  refine ⟨fun h => ?_, fun h => ?_⟩
  · exact kbool hK (by simp only [digB, h, Bool.true_and])
  · exact kbool hK (by rw [digB, h]; rfl)
theorem refletter_spec {c : UInt8} {H : Hp} {K : Value → Hp → Prop} (hK : K (.bool (letB c)) H) : Does Try.prog 73 [.int .u8 c.toNat] H K := by
  refine spec_of cx_ok cx_mix rfl Try.func73 Try.call73 Try.ntmps73 Try.results73 rfl rfl ?_
  refine ⟨fun h1 => ?_, fun h1 => ?_⟩
  · refine ⟨fun h2 => ?_, fun h2 => ?_⟩
    · refine ⟨fun h3 => ?_, fun h3 => ?_⟩
      · refine ⟨fun h4 => ?_, fun h4 => ?_⟩
        · exact kbool hK (by simp [letB, h1, h2, h3, h4])
        · exact kbool hK (by simp [letB, h1, h2, h3, h4])
      · exact kbool hK (by simp [letB, h1, h2, h3])
    · exact kbool hK (by simp [letB, h1, h2])
  · refine ⟨fun h3 => ?_, fun h3 => ?_⟩
    · refine ⟨fun h4 => ?_, fun h4 => ?_⟩
      · exact kbool hK (by simp [letB, h1, h3, h4])
      · exact kbool hK (by simp [letB, h1, h3, h4])
    · exact kbool hK (by simp [letB, h1, h3])
theorem refdigit_spec {c : UInt8} {H : Hp} {K : Value → Hp → Prop} (hK : K (.bool (digB c)) H) : Does Try.prog 75 [.int .u8 c.toNat] H K := by
  refine spec_of cx_ok cx_mix rfl Try.func75 Try.call75 Try.ntmps75 Try.results75 rfl rfl ?_
  refine ⟨fun h => ?_, fun h => ?_⟩
  · exact kbool hK (by simp only [digB, h, Bool.true_and])
  · exact kbool hK (by rw [digB, h]; rfl)
/-- Printable. -/
def prC (c : UInt8) : Bool := !(decide ((c.toNat : Int) < 32) || decide (126 < (c.toNat : Int)))
def prB (s : List UInt8) : Bool := s.all prC && decide (s ≠ [])
theorem all_take_succ (s : List UInt8) (f : UInt8 → Bool) {i : Nat} {c : UInt8} (h : s[i]? = some c) : (s.take (i + 1)).all f = ((s.take i).all f && f c) := by
  rw [List.take_add_one, h, Option.toList_some, List.all_append]; simp
theorem all_false (s : List UInt8) (f : UInt8 → Bool) {i : Nat} {c : UInt8} (h : s[i]? = some c) (hf : f c = false) : s.all f = false := by
  rw [List.all_eq_false]
  exact ⟨c, List.mem_of_getElem? h, by simp [hf]⟩
end Go.Proofs
