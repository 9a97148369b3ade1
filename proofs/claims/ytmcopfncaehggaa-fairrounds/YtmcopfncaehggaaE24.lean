/- Part 'E24' of the proof: lemmas, each with its own conditions in its own statement. -/
import Derived.Test.YtmcopfncaehggaaE23
import Derived.Test.YtmcopfncaehggaaE19
namespace Go.Proofs
open Go.Sy
set_option maxRecDepth 20000
theorem FairMakes_spec {n long : Int} {raw : List Int} {a1 : Option Addr} {n1 c1 : Nat} {H : Hp} {K : Value → Hp → Prop} (ha : RL H a1 n1 c1 raw)
    (hK : ∀ H', Le H H' → K (.bool true) H') : Does Try.prog 6 [.int .i64 n, .int .i64 long, .slice a1 n1 c1] H K := by
  have hc1 : 1 ≤ cut n ∧ cut n ≤ 64 := by unfold cut; omega
  have hn1 := ha.n_eq
  have hrN : roundN long ≤ 1048576 := by unfold roundN; omega
  have hrE : long ≤ 100 → (roundN long : Int) = max long 0 := by intro h; unfold roundN; omega
  refine spec_of cx_ok cx_mix rfl Try.func6 Try.call6 Try.ntmps6 Try.results6 rfl rfl ?_
  refine awake26 fun H1 hle1 => ?_
  refine ⟨fun h => ?_, fun h => ?_⟩
  · cases h
  · refine ⟨fun h => ?_, fun h => ?_⟩
    · have hlg := df h
      refine ⟨fun h => ?_, fun h => ?_⟩
      · exact hK H (Le.refl H)
      · have hrl : ¬ 50 < (n1 : Int) := df h
        refine round_spec (n := n) (long := long) fun a3 n3 c3 H3 hle3 hr3 => ?_
        have hn3 := hr3.n_eq
        rw [roundL_len] at hn3
        refine ⟨Nat, fun i => ⟨[(0, .v (.int .i64 n)), (1, .v (.int .i64 long)), (2, .v (.slice a1 n1 c1)), (7, .v (.slice a3 n3 c3)), (22, .v (.slice a3 n3 c3)), (23, .v (.int .i64 n3)), (24, .v (.int .i64 i))], [], 0⟩, fun i H' => Le H3 H' ∧ i ≤ n3, fun i => n3 - i, ⟨0, [], ?_, Le.refl H3, by omega⟩, ?_⟩
        · exact ⟨⟨rfl, rfl, rfl, rfl, rfl, rfl, rfl, trivial⟩, trivial⟩
        rintro i H4 _ ⟨hle4, hi⟩
        refine ⟨fun h => ?_, fun h => ?_⟩
        · have hlt : i < roundN long := by have := dt h; omega
          have hx : (roundL n (roundN long))[i]? = some ((i : Int) % cut n, (0 : Int)) := by simp [roundL, hlt]
          have hel := (hr3.up hle4).elem hx
          obtain ⟨ad, cs, e1, hh, r1⟩ := hel
          rw [pick_open r1] at hh
          refine ⟨ad, ⟨by omega, by omega, e1⟩, ?_⟩
          refine ⟨_, hh, ?_⟩
          refine ⟨some ([], [0, 1, 2, 3, 4, 5, 6]), by kernel_rfl, ?_⟩
          refine workers_spec ?_
          refine ⟨by omega, ?_⟩
          have hmd : (i : Int).tmod (cut n) = (i : Int) % cut n := Int.tmod_eq_emod_of_nonneg (by omega)
          refine ⟨fun h => ?_, fun h => ?_⟩
          · simp [hmd] at h
          · refine ⟨⟨by omega, by omega⟩, i + 1, [], ?_, ⟨hle4, by omega⟩, by dsimp only; omega⟩
            exact ⟨⟨rfl, rfl, rfl, rfl, rfl, rfl, rfl, trivial⟩, trivial⟩
        · have hin : i = n3 := by have := df h; omega
          have hlt0 : roundN long = long.toNat := by unfold roundN; omega
          refine ⟨fun h => ?_, fun h => ?_⟩
          · refine weave_spec (n := n) (long := long) (ha.up (hle3.trans hle4)) fun a5 n5 c5 H5 hle5 hr5 => ?_
            refine refweave_spec (n := n) (long := long) (ha.up (hle3.trans (hle4.trans hle5))) (by omega) fun a6 n6 c6 H6 hle6 hr6 => ?_
            rw [← hlt0] at hr6
            refine psame_spec (hr5.up hle6) hr6 fun H7 hle7 => ?_
            have h9 := hK H6 (hle3.trans (hle4.trans (hle5.trans hle6)))
            have e9 : decide (wout (cut n).toNat raw (roundN long) = wout (cut n).toNat raw (roundN long)) = true := decide_eq_true rfl
            rw [← e9] at h9
            exact h9
          · have h8 : ¬ (n3 : Int) = max long 0 := of_decide_eq_false h
            have := hrE (by omega)
            omega
    · exact hK H (Le.refl H)
theorem FairRounds_spec {n long : Int} {raw : List Int} {a1 : Option Addr} {n1 c1 : Nat} {H : Hp} {K : Value → Hp → Prop} (ha : RL H a1 n1 c1 raw)
    (hK : ∀ H', Le H H' → K (.bool true) H') : Does Try.prog 7 [.int .i64 n, .int .i64 long, .slice a1 n1 c1] H K := by
  have hc1 : 1 ≤ cut n ∧ cut n ≤ 64 := by unfold cut; omega
  have hn1 := ha.n_eq
  refine spec_of cx_ok cx_mix rfl Try.func7 Try.call7 Try.ntmps7 Try.results7 rfl rfl ?_
  refine awake26 fun H1 hle1 => ?_
  refine ⟨fun h => ?_, fun h => ?_⟩
  · cases h
  · refine ⟨fun h => ?_, fun h => ?_⟩
    · have hlg := df h
      refine ⟨fun h => ?_, fun h => ?_⟩
      · exact hK H (Le.refl H)
      · have hrl : ¬ 50 < (n1 : Int) := df h
        refine workers_spec ?_
        refine round_spec (n := n) (long := long) fun a3 n3 c3 H3 hle3 hr3 => ?_
        refine is_spec (n := n) (k := cut n) hr3 (by rw [roundL_len]; unfold roundN; omega) fun b H4 hle4 hb => ?_
        have hbt := hb.2 (round_fair n (roundN long))
        subst hbt
        refine ⟨fun h => ?_, fun h => ?_⟩
        · refine weave_spec (n := n) (long := long) (ha.up hle3) fun a5 n5 c5 H5 hle5 hr5 => ?_
          refine ⟨⟨by omega, by omega⟩, ?_⟩
          refine ⟨⟨by omega, by omega⟩, ?_⟩
          refine is_spec (n := n) (k := 2 * cut n - 1) hr5 (by rw [wout_len]; unfold roundN; omega) fun b2 H6 hle6 hb2 => ?_
          have hbt2 := hb2.2 (weave_fair n raw (roundN long))
          subst hbt2
          exact hK H5 (hle3.trans hle5)
        · cases h
    · exact hK H (Le.refl H)
end Go.Proofs
