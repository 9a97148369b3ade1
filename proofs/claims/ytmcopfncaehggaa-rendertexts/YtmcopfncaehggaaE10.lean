/- Part 'E10' of the proof: lemmas, each with its own conditions in its own statement. -/
import Derived.Test.YtmcopfncaehggaaE6
namespace Go.Proofs
open Go.Sy
set_option maxRecDepth 20000
abbrev Pick := Int × Int
def cut (n : Int) : Int := min (max n 1) 64
theorem cut_spec {n : Int} {H : Hp} {K : Value → Hp → Prop} (hK : K (.int .i64 (cut n)) H) : Does Try.prog 54 [.int .i64 n] H K := by
  refine spec_of cx_ok cx_mix rfl Try.func54 Try.call54 Try.ntmps54 Try.results54 rfl rfl ?_
  exact hK
theorem workers_spec {n : Int} {H : Hp} {K : Value → Hp → Prop} (hK : K (.int .i64 (cut n)) H) : Does Try.prog 27 [.int .i64 n] H K := by
  refine spec_of cx_ok cx_mix rfl Try.func27 Try.call27 Try.ntmps27 Try.results27 rfl rfl ?_
  exact hK
def who (p : Int) (n : Int) : Int := if n < 1 then 0 else if p.tmod n < 0 then p.tmod n + n else p.tmod n
theorem who_spec {p d n : Int} {H : Hp} {K : Value → Hp → Prop} (hn : n ≤ 9223372036854775807) (hK : K (.int .i64 (who p n)) H) : Does Try.prog 53 [.agg #[.int .i64 p, .int .i64 d], .int .i64 n] H K := by
  refine spec_of cx_ok cx_mix rfl Try.func53 Try.call53 Try.ntmps53 Try.results53 rfl rfl ?_
  refine ⟨fun h => ?_, fun h => ?_⟩
  · rw [who, if_pos (dt h)] at hK
    exact hK
  · have h := df h
    rw [who, if_neg h] at hK
    have h1 : 0 ≤ p.tmod n + n := by have := Int.lt_tmod_of_pos p (show 0 < n by omega); omega
    have h2 : p.tmod n < n := Int.tmod_lt_of_pos p (by omega)
    refine ⟨by omega, ?_⟩
    refine ⟨fun h => ?_, fun h => ?_⟩
    · rw [if_pos (dt h)] at hK
      have := dt h
      refine ⟨⟨by omega, by omega⟩, ?_⟩
      exact hK
    · rw [if_neg (df h)] at hK
      exact hK
theorem swho_spec {p d n : Int} {H : Hp} {K : Value → Hp → Prop} (hn : n ≤ 9223372036854775807) (hK : K (.int .i64 (who p n)) H) : Does Try.prog 56 [.agg #[.int .i64 p, .int .i64 d], .int .i64 n] H K := by
  refine spec_of cx_ok cx_mix rfl Try.func56 Try.call56 Try.ntmps56 Try.results56 rfl rfl ?_
  refine ⟨fun h => ?_, fun h => ?_⟩
  · rw [who, if_pos (dt h)] at hK
    exact hK
  · have h := df h
    rw [who, if_neg h] at hK
    have h1 : 0 ≤ p.tmod n + n := by have := Int.lt_tmod_of_pos p (show 0 < n by omega); omega
    have h2 : p.tmod n < n := Int.tmod_lt_of_pos p (by omega)
    refine ⟨by omega, ?_⟩
    refine ⟨fun h => ?_, fun h => ?_⟩
    · rw [if_pos (dt h)] at hK
      have := dt h
      refine ⟨⟨by omega, by omega⟩, ?_⟩
      exact hK
    · rw [if_neg (df h)] at hK
      exact hK
end Go.Proofs
