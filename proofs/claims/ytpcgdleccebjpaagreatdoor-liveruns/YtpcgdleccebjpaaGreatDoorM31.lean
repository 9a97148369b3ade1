/- Part 'M31' of the proof (Ex5, Ex6): lemmas, each with its own conditions in its own statement. -/
import Derived.Test.YtpcgdleccebjpaaGreatDoorM30
section
namespace Go.Proofs
open Go.Sy
set_option maxRecDepth 20000
set_option maxHeartbeats 4000000
/-! Running from the start. -/
theorem start_spec {p : Prog} (he : checkE p = 0) (hv : cnt p < 400000) {a : Option Addr} {n c : Nat} {H : Hp} {K : Value → Hp → Prop} (ha : RL H a n c p)
    (hK : ∀ a1 n1 c1 H', Le H H' → RL H' a1 n1 c1 (start0 p).2.1 → K (staV 0 a1 n1 c1 0 (.slice none 0 0)) H') : Does Tryz.prog 89 [.agg #[.slice a n c]] H K := by
  have hf := check_facts he
  refine spec_of cx_ok cx_mix rfl Tryz.func89 Tryz.call89 Tryz.ntmps89 Tryz.results89 rfl rfl ?_
  refine pvars_spec ha hv fun av nv cv H1 hle1 hrv => ?_
  have hnv := hrv.n_eq
  rw [List.length_map] at hnv
  refine ⟨⟨rfl, by omega, by show (nv : Int) * 16 ≤ _; omega, by omega⟩, ?_⟩
  intro v H' hle hv2
  have e : List.replicate (nv : Int).toNat [Value.int .i64 0, Value.int .i64 0] = nRows (start0 p).2.1 := by
    show _ = List.map _ (List.replicate _ _)
    rw [List.map_replicate, Int.toNat_natCast, hnv]
  have hv2 : RowAt H' v 2 (List.replicate (nv : Int).toNat [Value.int .i64 0, Value.int .i64 0]) := hv2
  rw [e] at hv2
  refine of_row_k (α := Nm) hv2 (rc_eRows fun y hy => ?_) fun a1 n1 c1 ev hr => ?_
  · rw [(List.mem_replicate.1 hy).2]; exact ⟨⟨by decide, by decide⟩, ⟨by decide, by decide⟩⟩
  · subst ev
    exact hK _ _ _ _ (hle1.trans hle.le) hr
theorem goodS_start {p : Prog} (he : checkE p = 0) : goodS p (start0 p) := by
  have hf := check_facts he
  exact ⟨⟨Int.le_refl _, by show (0 : Int) < _; omega⟩, by simp [start0], Int.le_refl _, (by show (0 : Int) ≤ 9223372036854775807; decide)⟩
theorem all_spec {p : Prog} (he : checkE p = 0) (hp : p.length ≤ 12) (hc : stmtsN p ≤ 1000000) (hv : cnt p < 400000) {inn : List Nm} {most : Int} (hm : most ≤ 40)
    {a ai : Option Addr} {n c ni ci : Nat} {H : Hp} {K : Value → Hp → Prop} (ha : RL H a n c p) (hI : RL H ai ni ci inn)
    (hK : ∀ a1 n1 c1 a2 n2 c2 H', Le H H' → RL H' a1 n1 c1 (itS p inn (start0 p) most.toNat).1 → RL H' a2 n2 c2 (itS p inn (start0 p) most.toNat).2.1.2.2.2 → K (.tuple #[.agg #[.slice a1 n1 c1, .slice a2 n2 c2, .bool (!(itS p inn (start0 p) most.toNat).2.2)], .int .i64 0]) H') :
    Does Tryz.prog 32 [.agg #[.slice a n c], .slice ai ni ci, .int .i64 most] H K := by
  refine spec_of cx_ok cx_mix rfl Tryz.func32 Tryz.call32 Tryz.ntmps32 Tryz.results32 rfl rfl ?_
  refine ⟨some ([1], [0, 1, 3, 4, 2, 5, 6, 7, 8, 9]), by kernel_rfl, ?_⟩
  refine start_spec he hv ha fun a1 n1 c1 H1 hle1 hr1 => ?_
  refine from_spec he hp hc hv (s := start0 p) (goodS_start he) (by simp [start0]) hm (ha.up hle1) hr1 rl_nil (hI.up hle1) fun a2 n2 c2 a3 n3 c3 H2 hle2 hr2 hr3 => ?_
  exact hK _ _ _ _ _ _ _ (hle1.trans hle2) hr2 hr3
end Go.Proofs
end
section
namespace Go.Proofs
open Go.Sy
set_option maxRecDepth 20000
set_option maxHeartbeats 4000000
/-! One block; going on from its end. -/
theorem xblock_spec {p : Prog} (he : checkE p = 0) (hc : stmtsN p ≤ 1000000) (hv : cnt p < 400000) {inn : List Nm} {s : StE} (hs : goodS p s) (ho : s.2.2.2.length ≤ 100000)
    {a ae ao ai : Option Addr} {n c ne ce no co ni ci : Nat} {H : Hp} {K : Value → Hp → Prop} (ha : RL H a n c p) (hE : RL H ae ne ce s.2.1) (hO : RL H ao no co s.2.2.2) (hI : RL H ai ni ci inn)
    (hK : ∀ a1 n1 c1 a2 n2 c2 H', Le H H' → RL H' a1 n1 c1 (runB p inn s).2.1 → RL H' a2 n2 c2 (runB p inn s).2.2.2 → K (.tuple #[staV s.1 a1 n1 c1 (runB p inn s).2.2.1 (.slice a2 n2 c2), .int .i64 0]) H') :
    Does Tryz.prog 48 [.agg #[.slice a n c], staV s.1 ae ne ce s.2.2.1 (.slice ao no co), .slice ai ni ci] H K := by
  have hf := check_facts he
  have hst5 := stmts_512 he
  obtain ⟨qq, hq, hbq, hqm⟩ := blkN_mem hs
  have hst := block_stmts (hf.2.2.2 qq hqm)
  have hqs := le_stmts hqm
  refine spec_of cx_ok cx_mix rfl Tryz.func48 Tryz.call48 Tryz.ntmps48 Tryz.results48 rfl rfl ?_
  refine xcheck_spec he hc hv hs.1 hs.2.1 hs.2.2.1 ha hE fun _ _ => ?_
  refine ⟨fun h => absurd rfl (nt h), fun _ => ?_⟩
  have hE1 := hs.2.1
  refine run_spec (s := s) hv hs.1.1 hq hst hE1 (by omega) (by omega) hs.2.2.1 ha hE hO hI fun a5 n5 c5 a6 n6 c6 H4 hle4 hr5 hr6 => ?_
  exact hK _ _ _ _ _ _ _ hle4 hr5 hr6
theorem xgo_spec {p : Prog} (he : checkE p = 0) (hp : p.length ≤ 12) (hc : stmtsN p ≤ 1000000) (hv : cnt p < 400000) {s : StE} (hs : goodS p s) (ho : s.2.2.2.length ≤ 200000)
    {a ae ao : Option Addr} {n c ne ce no co : Nat} {H : Hp} {K : Value → Hp → Prop} (ha : RL H a n c p) (hE : RL H ae ne ce s.2.1) (hO : RL H ao no co s.2.2.2)
    (hK : ∀ a1 n1 c1 a2 n2 c2 H', Le H H' → RL H' a1 n1 c1 (folS p s).1.2.1 → RL H' a2 n2 c2 (folS p s).1.2.2.2 → K (.tuple #[staV (folS p s).1.1 a1 n1 c1 (folS p s).1.2.2.1 (.slice a2 n2 c2), .bool (folS p s).2, .int .i64 0]) H') :
    Does Tryz.prog 49 [.agg #[.slice a n c], staV s.1 ae ne ce s.2.2.1 (.slice ao no co)] H K := by
  have hf := check_facts he
  obtain ⟨qq, hq, hbq, hqm⟩ := blkN_mem hs
  have hE1 := hs.2.1
  have hfo := fol_out p s
  rw [hfo.2.1, hfo.1, hfo.2.2] at hK
  refine spec_of cx_ok cx_mix rfl Tryz.func49 Tryz.call49 Tryz.ntmps49 Tryz.results49 rfl rfl ?_
  refine xcheck_spec he hc hv hs.1 hs.2.1 hs.2.2.1 ha hE fun _ _ => ?_
  refine ⟨fun h => absurd rfl (nt h), fun _ => ?_⟩
  refine ⟨some ([1000000, 1], [0, 1, 2, 3, 4, 5, 6, 7, 8]), by kernel_rfl, ?_⟩
  refine xclone_spec (by omega) (by omega) hE hO fun a1 n1 c1 a2 n2 c2 H0 H1 hle0 hr0 hle1 hr2 => ?_
  have hle : Le H H1 := hle0.trans hle1.le
  have hr1 := hr0.up hle1.le
  refine follow_spec (s := s) hv hp hs.1.1 hq (ha.up hle) hr1 ?_
  exact hK _ _ _ _ _ _ _ hle hr1 hr2
theorem goodV2 {p : Prog} (he : checkE p = 0) (inn : List Nm) (k : Nat) : ∀ s ∈ (itS p inn (start0 p) k).1, goodS p s :=
  (itS_inv (goodS p) (goodS_start he) (fun _ hs _ => goodS_step hs) k).1
theorem visit_at {p : Prog} {inn : List Nm} {s0 : StE} : ∀ (k : Nat), ∀ s ∈ (itS p inn s0 k).1, ∃ j < k, s = (itS p inn s0 j).2.1 ∧ (itS p inn s0 j).2.2 = true
  | 0, s, h => by cases h
  | k + 1, s, h => by
    by_cases h1 : (itS p inn s0 k).2.2 = true
    · rw [itS_step h1] at h
      rcases List.mem_append.1 h with h | h
      · obtain ⟨j, hj, e⟩ := visit_at k s h
        exact ⟨j, by omega, e⟩
      · rw [List.mem_singleton] at h
        exact ⟨k, by omega, h, h1⟩
    · rw [itS_stop (by simpa using h1)] at h
      obtain ⟨j, hj, e⟩ := visit_at k s h
      exact ⟨j, by omega, e⟩
theorem visit_out {p : Prog} (he : checkE p = 0) (inn : List Nm) {k : Nat} (hk : k ≤ 40) : ∀ s ∈ (itS p inn (start0 p) k).1, s.2.2.2.length ≤ 40 * stmtsN p := fun s hs => by
  obtain ⟨j, hj, e, _⟩ := visit_at k s hs
  have h1 := out_it (inn := inn) (goodS_start he) j
  rw [← e] at h1
  have h2 : j * stmtsN p ≤ 40 * stmtsN p := Nat.mul_le_mul_right _ (by omega)
  have h3 : (start0 p).2.2.2.length = 0 := rfl
  omega
end Go.Proofs
end
