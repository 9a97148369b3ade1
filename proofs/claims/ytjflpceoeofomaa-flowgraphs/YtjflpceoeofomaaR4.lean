/- Part 'R4' of the proof: lemmas, each with its own conditions in its own statement. -/
import Derived.Test.YtjflpceoeofomaaR3
namespace Go.Proofs
open Go.Sy
set_option maxRecDepth 20000
set_option maxHeartbeats 400000
theorem FlowGraphs_spec {m x : Int} {l : List Edg} {f : List Int} {a a3 : Option Addr} {n c n3 c3 : Nat} {H : Hp} {K : Value → Hp → Prop} (ha : RL H a n c l) (hb : RL H a3 n3 c3 f) (hK : ∀ H', Le H H' → K (.bool true) H') :
    Does Try.prog 8 [.int .i64 m, .slice a n c, .int .i64 x, .slice a3 n3 c3] H K := by
  have hn3 := hb.n_eq
  refine spec_of cx_ok cx_mix rfl Try.func8 Try.call8 Try.ntmps8 Try.results8 rfl rfl ?_
  refine awake_spec fun _ _ => ?_
  refine ⟨(fun h => by cases h), fun _ => ?_⟩
  refine few_spec ha fun b hfew => ?_
  refine ⟨fun h => ?_, fun h => hK _ (Le.refl H)⟩
  obtain ⟨hm, hl⟩ := hfew (by simpa using h)
  refine ⟨fun h => hK _ (Le.refl H), fun h => ?_⟩
  have hf : f.length ≤ 40 := by have := df h; omega
  have hM0 : 0 ≤ max m 0 := by omega
  have hM1 : max m 0 ≤ 40 := by omega
  have hrl := gSort_len (revL l)
  rw [List.length_map] at hrl
  refine rreverse_spec (by omega) ha fun a4 n4 c4 H4 hle4 hr4 => ?_
  have ha4 := ha.up hle4
  refine sorted_spec (by omega) ha4 fun a5 n5 c5 H5 hle5 hr5 => ?_
  refine refSorted_spec (by omega) (ha4.up hle5) fun a6 n6 c6 H6 hle6 hr6 => ?_
  refine same_spec (hr5.up hle6) hr6 ?_
  have ha6 := (ha4.up hle5).up hle6
  have hr46 := (hr4.up hle5).up hle6
  refine ⟨fun _ => ?_, fun h => by simp at h⟩
  refine reverse_spec (by omega) ha6 fun a7 n7 c7 H7 hle7 hr7 => ?_
  refine same_spec hr7 (hr46.up hle7) ?_
  refine ⟨fun _ => ?_, fun h => by simp at h⟩
  have ha7 := ha6.up hle7
  have hr47 := hr46.up hle7
  refine right_spec ha7 ?_
  refine rright_spec ha7 ?_
  refine ⟨fun h => by simp at h, fun _ => ?_⟩
  refine next_spec (by omega) ha7 fun a8 n8 c8 H8 hle8 hr8 => ?_
  have ha8 := ha7.up hle8
  refine rnext_spec (by omega) ha8 fun a9 n9 c9 H9 hle9 hr9 => ?_
  refine ints_spec (hr8.up hle9) hr9 ?_
  have ha9 := ha8.up hle9
  refine ⟨fun _ => ?_, fun h => by simp at h⟩
  refine back_spec (by omega) ha9 fun a10 n10 c10 H10 hle10 hr10 => ?_
  refine rnext_spec (by omega) (((hr47.up hle8).up hle9).up hle10) fun a11 n11 c11 H11 hle11 hr11 => ?_
  refine ints_spec (hr10.up hle11) hr11 ?_
  have ha11 := (ha9.up hle10).up hle11
  have hle := ((((((hle4.trans hle5).trans hle6).trans hle7).trans hle8).trans hle9).trans hle10).trans hle11
  refine ⟨fun _ => ?_, fun h => by simp at h⟩
  refine reached_spec (by omega) (by omega) (by omega) ha11 (hb.up hle) fun a12 n12 c12 R H12 hle12 hr12 hS1 hS2 => ?_
  refine rreached_spec (by omega) (by omega) (by omega) (by omega) (ha11.up hle12) ((hb.up hle).up hle12) fun a13 n13 c13 R' H13 hle13 hr13 hS3 hS4 => ?_
  refine ints_spec (hr12.up hle13) hr13 ?_
  have e : R = R' := strict_ext hS1 hS3 (hS2.mem hS4)
  have hK' := hK H13 ((hle.trans hle12).trans hle13)
  exact kbool hK' (by rw [e]; simp)
end Go.Proofs
