/- Part 'E21' of the proof: lemmas, each with its own conditions in its own statement. -/
import Derived.Test.YtmcopfncaehggaaE20
namespace Go.Proofs
open Go.Sy
set_option maxRecDepth 20000
theorem del_row (xs : List (List Value)) (z : List Value) {i j : Nat} (hij : i < j) (hj : j ≤ xs.length) :
    ∃ R1 R2 : List (List Value), ∃ n : Nat, R1 = xs.take (0 + (i - 0)) ++ (xs.drop j).take (xs.length - j) ++ xs.drop (0 + (i - 0) + ((xs.drop j).take (xs.length - j)).length) ∧
      n = i - 0 + ((xs.drop j).take (xs.length - j)).length ∧ n = i + (xs.length - j) ∧ R1.length = xs.length ∧
      R2 = R1.take (0 + n) ++ List.replicate (xs.length - n) z ++ R1.drop (0 + n + (xs.length - n)) ∧ R2.length = xs.length ∧ R2.take n = xs.take i ++ xs.drop j := by
  have hyl : (xs.drop j).take (xs.length - j) = xs.drop j := List.take_of_length_le (by simp)
  refine ⟨_, _, _, rfl, rfl, ?_, ?_, rfl, ?_, ?_⟩
  · rw [hyl]; simp
  · rw [hyl]; simp; omega
  · rw [hyl]; simp; omega
  · rw [hyl]
    have e1 : (xs.take (0 + (i - 0)) ++ xs.drop j).length = i - 0 + (xs.drop j).length := by simp; omega
    have e2 : (xs.take (0 + (i - 0)) ++ xs.drop j ++ xs.drop (0 + (i - 0) + (xs.drop j).length)).take (0 + (i - 0 + (xs.drop j).length)) = xs.take i ++ xs.drop j := by
      rw [Nat.zero_add, ← e1, List.take_left]
      simp
    rw [e2]
    have e3 : (xs.take i ++ xs.drop j).length = i - 0 + (xs.drop j).length := by simp; omega
    rw [← e3, List.append_assoc, List.take_left]
theorem delete_spec' {i j : Nat} {xs : List (List Value)} (hij : i < j) (hj : j ≤ xs.length) (hm : xs.length ≤ 9223372036854775807) {H : Hp} {K : SV → St → Hp → Prop}
    (hK : K (.own 1) ⟨[], [(0, .dead), (1, .row 3 1 (xs.take i ++ xs.drop j))], 2⟩ H) : DoesG Try.prog 57 [.own 0, .v (.int .i64 i), .v (.int .i64 j)] [(0, .row 3 1 xs)] 1 H K := by
  obtain ⟨R1, R2, n, h1, h2, h3, h4, h5, h6, h7⟩ := del_row xs [.int .i64 0] hij hj
  refine spec_ofG cx_ok cx_mix Try.func57 Try.call57 Try.ntmps57 Try.results57 rfl rfl ?_
  refine .inr ?_
  refine ⟨⟨by omega, by omega, by omega, by omega⟩, ?_⟩
  intro v
  refine ⟨fun h => ?_, fun h => ?_⟩
  · have := dt h; omega
  · refine ⟨some ([0], [0, 1, 2, 3, 4, 5, 6, 7]), by kernel_rfl, ?_⟩
    refine ⟨⟨by omega, by omega, by omega⟩, ?_⟩
    refine ⟨⟨by omega, by omega, by omega⟩, ?_⟩
    have hyl : ((xs.drop j).take (xs.length - j)).length = xs.length - j := by simp
    refine ⟨by show j + (xs.length - j) ≤ _; omega, ?_⟩
    refine ⟨by show 0 + (i - 0) + ((xs.drop j).take (xs.length - j)).length ≤ _; omega, ?_⟩
    refine .inl ?_
    refine .inl ?_
    refine ⟨⟨by omega, by show ((i - 0 + ((xs.drop j).take (xs.length - j)).length : Nat) : Int) ≤ _; omega, by show (((0 : Nat)) : Int) + _ ≤ ((xs.take (0 + (i - 0)) ++ (xs.drop j).take (xs.length - j) ++ xs.drop (0 + (i - 0) + ((xs.drop j).take (xs.length - j)).length)).length : Int); rw [← h1, h4]; omega⟩, fun h => ?_, fun h => ?_⟩
    · refine ⟨by show 0 + (i - 0 + ((xs.drop j).take (xs.length - j)).length) + (xs.length - (i - 0 + ((xs.drop j).take (xs.length - j)).length)) ≤ (xs.take (0 + (i - 0)) ++ (xs.drop j).take (xs.length - j) ++ xs.drop (0 + (i - 0) + ((xs.drop j).take (xs.length - j)).length)).length; rw [← h1, h4]; omega, ?_⟩
      refine .inl ?_
      refine .inl ?_
      refine ⟨by show (i - 0 + ((xs.drop j).take (xs.length - j)).length) ≤ ((xs.take (0 + (i - 0)) ++ (xs.drop j).take (xs.length - j) ++ xs.drop (0 + (i - 0) + ((xs.drop j).take (xs.length - j)).length)).take (0 + (i - 0 + ((xs.drop j).take (xs.length - j)).length)) ++ List.replicate (xs.length - (i - 0 + ((xs.drop j).take (xs.length - j)).length)) [Value.int .i64 0] ++ (xs.take (0 + (i - 0)) ++ (xs.drop j).take (xs.length - j) ++ xs.drop (0 + (i - 0) + ((xs.drop j).take (xs.length - j)).length)).drop (0 + (i - 0 + ((xs.drop j).take (xs.length - j)).length) + (xs.length - (i - 0 + ((xs.drop j).take (xs.length - j)).length)))).length; rw [← h1, ← h2, ← h5, h6]; omega, ?_⟩
      have e9 : ((xs.take (0 + (i - 0)) ++ (xs.drop j).take (xs.length - j) ++ xs.drop (0 + (i - 0) + ((xs.drop j).take (xs.length - j)).length)).take (0 + (i - 0 + ((xs.drop j).take (xs.length - j)).length)) ++ List.replicate (xs.length - (i - 0 + ((xs.drop j).take (xs.length - j)).length)) [Value.int .i64 0] ++ (xs.take (0 + (i - 0)) ++ (xs.drop j).take (xs.length - j) ++ xs.drop (0 + (i - 0) + ((xs.drop j).take (xs.length - j)).length)).drop (0 + (i - 0 + ((xs.drop j).take (xs.length - j)).length) + (xs.length - (i - 0 + ((xs.drop j).take (xs.length - j)).length)))).take (i - 0 + ((xs.drop j).take (xs.length - j)).length) = xs.take i ++ xs.drop j := by rw [← h1, ← h2, ← h5, h7]
      exact ⟨.own 1, [(0, .dead), (1, .row 3 1 (xs.take i ++ xs.drop j))], 2, [(0, 0), (1, 1)], ⟨⟨rfl, trivial⟩, ⟨trivial, e9, trivial⟩⟩, hK⟩
    · exfalso
      have h' : (((i - 0 + ((xs.drop j).take (xs.length - j)).length) : Nat) : Int) = (xs.length : Int) := h
      omega
theorem delete_spec {x y : Int} {i j : Nat} (hx : x = i) (hy : y = j) {xs : List (List Value)} (hij : i < j) (hj : j ≤ xs.length) (hm : xs.length ≤ 9223372036854775807) {H : Hp} {K : SV → St → Hp → Prop}
    (hK : K (.own 1) ⟨[], [(0, .dead), (1, .row 3 1 (xs.take i ++ xs.drop j))], 2⟩ H) : DoesG Try.prog 57 [.own 0, .v (.int .i64 x), .v (.int .i64 y)] [(0, .row 3 1 xs)] 1 H K := by
  subst hx
  subst hy
  exact delete_spec' hij hj hm hK
end Go.Proofs
