/- Part 'E19' of the proof: lemmas, each with its own conditions in its own statement. -/
import Derived.Test.YtmcopfncaehggaaE18
namespace Go.Proofs
open Go.Sy
set_option maxRecDepth 20000
theorem FairIs_spec {l : List Pick} {n k : Int} {a1 : Option Addr} {n1 c1 : Nat} {H : Hp} {K : Value → Hp → Prop} (ha : RL H a1 n1 c1 l) (hkr : -9223372036854775808 ≤ k ∧ k ≤ 9223372036854775807)
    (hK : ∀ H', Le H H' → K (.bool true) H') : Does Try.prog 5 [.slice a1 n1 c1, .int .i64 n, .int .i64 k] H K := by
  have hn1 := ha.n_eq
  refine spec_of cx_ok cx_mix rfl Try.func5 Try.call5 Try.ntmps5 Try.results5 rfl rfl ?_
  refine awake26 fun H1 hle1 => ?_
  refine ⟨fun h => ?_, fun h => ?_⟩
  · cases h
  · refine ⟨fun h => ?_, fun h => ?_⟩
    · exact hK H (Le.refl H)
    · have hs : l.length ≤ 24 := by have := df h; omega
      refine is_spec ha (by omega) fun b1 H2 hle2 hb1 => ?_
      refine refis_spec ha hkr fun b2 H3 hle3 hb2 => ?_
      have hbb : b1 = b2 := by rw [Bool.eq_iff_iff, hb1, hb2]
      subst hbb
      refine ⟨fun h => ?_, fun h => ?_⟩
      · refine window_spec ha (by omega) fun H4 hle4 => ?_
        refine refwindow_spec ha (by omega) fun H5 hle5 => ?_
        have e : decide (winF n l = winF n l) = true := decide_eq_true rfl
        have h9 := hK H (Le.refl H)
        rw [← e] at h9
        exact h9
      · simp at h
end Go.Proofs
