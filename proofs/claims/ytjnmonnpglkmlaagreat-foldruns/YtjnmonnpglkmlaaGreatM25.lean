/- Part 'M25' of the proof (Fr6): lemmas, each with its own conditions in its own statement. -/
import Derived.Test.YtjnmonnpglkmlaaGreatM24
namespace Go.Proofs
open Go.Sy
set_option maxRecDepth 20000
set_option maxHeartbeats 4000000
/-! FoldRuns. -/
theorem nums_spec {l : List Nm} {a a2 : Option Addr} {n c n2 c2 : Nat} {H : Hp} {K : Value → Hp → Prop} (ha : RL H a n c l) (hb : RL H a2 n2 c2 l) (hK : K (.bool true) H) : Does Tryz.prog 15 [.slice a n c, .slice a2 n2 c2] H K := by
  have hn := ha.n_eq
  have hn2 := hb.n_eq
  have hmx := ha.le
  refine spec_of cx_ok cx_mix rfl Tryz.func15 Tryz.call15 Tryz.ntmps15 Tryz.results15 rfl rfl ?_
  refine ⟨fun h => absurd (show (n : Int) = n2 by omega) (nt h), fun _ => ?_⟩
  refine ⟨Nat, fun i => ⟨[(0, .v (.slice a n c)), (1, .v (.slice a2 n2 c2)), (12, .v (.int .i64 n)), (13, .v (.int .i64 i))], [], 0⟩, fun i H' => H' = H ∧ i ≤ l.length, fun i => l.length - i, ⟨0, [], ?_, rfl, Nat.zero_le _⟩, ?_⟩
  · (repeat' (first | exact trivial | refine ⟨?_, ?_⟩ | exact rfl | assumption))
  rintro i H1 _ ⟨rfl, hi⟩
  refine ⟨fun h => ?_, fun h => ?_⟩
  · have hlt : i < l.length := by have := dt h; omega
    have hx := List.getElem?_eq_getElem hlt
    refine edge_k ha hx fun ad q1 hh => ?_
    refine edge_k hb hx fun ad2 q2 hh2 => ?_
    refine ⟨some ([], [0, 1, 2, 3, 4, 5, 6, 7, 8]), by kernel_rfl, ?_⟩
    refine ⟨ad, ⟨by omega, by omega, q1⟩, ?_⟩
    refine ⟨_, hh, ?_⟩
    refine ⟨ad2, ⟨by omega, by omega, q2⟩, ?_⟩
    refine ⟨_, hh2, ?_⟩
    refine ⟨fun h => by simp at h, fun _ => ?_⟩
    refine ⟨⟨by omega, by omega⟩, i + 1, [], ?_, ⟨rfl, hlt⟩, by dsimp only; omega⟩
    (repeat' (first | exact trivial | refine ⟨?_, ?_⟩ | exact rfl | assumption))
  · exact hK
theorem cnt_fold (p : Prog) : cnt (foldP p) = cnt p := by
  unfold cnt
  refine sum_map_eq _ _ _ _ (foldP_len p) fun i a b h1 h2 => ?_
  rw [foldP_get h2] at h1
  rw [← Option.some.inj h1, foldB_len]
theorem goodV {p : Prog} (he : checkE p = 0) (inn : List Nm) (k : Nat) : ∀ s ∈ (itS p inn (start0 p) k).1, goodS p s :=
  (itS_inv (goodS p) (goodS_start he) (fun _ hs _ => goodS_step hs) k).1
theorem FoldRuns_spec {p : Prog} {inn : List Nm} {a ai : Option Addr} {n c ni ci : Nat} {H : Hp} {K : Value → Hp → Prop} (ha : RL H a n c p) (hI : RL H ai ni ci inn) (most : Int) (hK : ∀ H', Le H H' → K (.bool true) H') : Does Tryz.prog 5 [.agg #[.slice a n c], .slice ai ni ci, .int .i64 most] H K := by
  have hn := ha.n_eq
  have hmx := ha.le
  have hni := hI.n_eq
  refine spec_of cx_ok cx_mix rfl Tryz.func5 Tryz.call5 Tryz.ntmps5 Tryz.results5 rfl rfl ?_
  refine awake45_spec fun _ _ => ?_
  refine ⟨(fun h => by cases h), fun _ => ?_⟩
  refine small4_spec ha fun t ht => ?_
  refine ⟨fun h => ?f0, fun h => ?t0⟩
  case t0 => exact hK _ (Le.refl H)
  have hb4 := ht (by simpa using h)
  have hp := hb4.1
  have hl : ∀ b ∈ p, b.2.1.length ≤ 1000000 := fun b h => by have := (hb4.2 b h).1.1; omega
  have hc : stmtsN p ≤ 1000000 := small_stmts hb4
  have hv : cnt p < 400000 := small_cnt hb4
  refine ⟨fun h => ?g0, fun h => ?u0⟩
  case u0 => exact hK _ (Le.refl H)
  refine ⟨fun h => ?g1, fun h => ?u1⟩
  case u1 => exact hK _ (Le.refl H)
  refine rcheck_spec ha hc hv fun _ _ => ?_
  refine ⟨fun h => ?t2, fun h => ?f2⟩
  case t2 => exact hK _ (Le.refl H)
  have he : checkE p = 0 := nf h
  have hf := check_facts he
  have heq := fold_check he
  have hpq : (foldP p).length ≤ 12 := by rw [foldP_len]; exact hp
  have hlq : ∀ b ∈ foldP p, b.2.1.length ≤ 1000000 := fun b hb => by
    obtain ⟨i, b0, hb0, rfl⟩ := foldP_mem hb
    rw [foldB_len]; exact hl b0 (List.mem_of_getElem? hb0)
  have hcq : stmtsN (foldP p) ≤ 1000000 := by rw [foldP_stmts]; exact hc
  have hvq : cnt (foldP p) < 400000 := by rw [cnt_fold]; exact hv
  refine pfold_spec hp hl hc hv ha (fun hb => absurd he hb) (fun _ aq nq cq H1 hle1 hq => ?_)
  refine all_spec he hp hc hv (by omega) (ha.up hle1) (hI.up hle1) fun a1 n1 c1 a2 n2 c2 H2 hle2 hr1 hr2 => ?_
  have h12 := hle1.trans hle2
  refine all_spec heq hpq hcq hvq (by omega) (hq.up hle2) (hI.up h12) fun a3 n3 c3 a4 n4 c4 H3 hle3 hr3 hr4 => ?_
  rw [fold_it he inn] at hr3 hr4
  have h13 := h12.trans hle3
  refine pfold_spec hpq hlq hcq hvq (hq.up (hle2.trans hle3)) (fun hb => absurd heq hb) (fun _ ag ng cg H4 hle4 hg => ?_)
  rw [fold_idem he] at hg
  have h14 := h13.trans hle4
  dsimp only at hr3 hr4
  refine name_k (itS p inn (start0 p) (min most 25).toNat).1 fun V hV => ?_
  have hin := goodV he inn (min most 25).toNat
  have hs2 : (itS (foldP p) inn (start0 (foldP p)) (min most 25).toNat).2.2 = (itS p inn (start0 p) (min most 25).toNat).2.2 := by rw [fold_it he inn]
  rw [← hV] at hr1 hr3 hin
  rw [hs2]
  have hro : RL H4 a4 n4 c4 (itS p inn (start0 p) (min most 25).toNat).2.1.2.2.2 := hr4.up hle4
  have hnv := hr1.n_eq
  have hnw := hr3.n_eq
  rw [List.length_map] at hnw
  have hmv := hr1.le
  refine ⟨fun _ => ?_, fun h => absurd rfl (nt h)⟩
  refine ⟨fun _ => ?_, fun h => absurd rfl (nt h)⟩
  refine ⟨fun _ => ?_, fun h => absurd rfl (nt h)⟩
  refine psame_spec hg (hq.up ((hle2.trans hle3).trans hle4)) ?_
  refine ⟨fun _ => ?_, fun h => by cases h⟩
  refine nums_spec (hr2.up (hle3.trans hle4)) hro ?_
  refine ⟨fun _ => ?_, fun h => by cases h⟩
  refine ⟨fun _ => ?_, fun h => by simp at h⟩
  refine ⟨fun h => absurd (show (n1 : Int) = n3 by omega) (nt h), fun _ => ?_⟩
  have h24 := (hle3.trans hle4)
  have hr1 := hr1.up h24
  have hr3 := hr3.up hle4
  have haH := ha.up h14
  have hqH := hq.up ((hle2.trans hle3).trans hle4)
  refine ⟨Nat, fun j => ⟨[(3, .ptr 0 0), (7, .ptr 1 0), (11, .ptr 2 0), (107, .v (.slice a1 n1 c1)), (108, .v (.int .i64 n1)), (109, .v (.int .i64 j))], [(0, .cells 24 [.v (.slice a n c)]), (1, .cells 24 [.v (.slice aq nq cq)]), (2, .cells 31 [.v (.slice a3 n3 c3), .v (.slice a4 n4 c4), .v (.bool (!(itS p inn (start0 p) (min most 25).toNat).2.2))])], 3⟩, fun j H' => Le H4 H' ∧ j ≤ V.length, fun j => V.length - j, ⟨0, [(0, 0), (1, 1), (2, 3)], ?_, Le.refl H4, Nat.zero_le _⟩, ?_⟩
  · (repeat' (first | exact trivial | refine ⟨?_, ?_⟩ | exact rfl | assumption))
  rintro j H5 _ ⟨h45, hj⟩
  have h15 := h14.trans h45
  have haH := ha.up h15
  have hqH := hqH.up h45
  have hr1 := hr1.up h45
  have hr3 := hr3.up h45
  refine ⟨fun h => ?_, fun h => ?_⟩
  · have hlt : j < V.length := by have := dt h; omega
    refine name_k V[j] fun s hse => ?_
    have hss : V[j]? = some s := by rw [hse]; exact List.getElem?_eq_getElem hlt
    have hss3 : (V.map (restS p (foldP p)))[j]? = some (restS p (foldP p) s) := by rw [List.getElem?_map, hss]; rfl
    have hgd := hin s (List.mem_of_getElem? hss)
    refine sta_k hr1 hss fun ad a5 n5 c5 a6 n6 c6 e1 hh hr5 hr6 => ?_
    refine ⟨ad, ⟨by omega, by omega, e1⟩, ?_⟩
    refine ⟨_, hh, ?_⟩
    have hn5 := hr5.n_eq
    have hm5 := hr5.le
    refine sta_k hr3 hss3 fun ad3 a7 n7 c7 a8 n8 c8 e3 hh3 hr7 hr8 => ?_
    have hn7 := hr7.n_eq
    rw [show (restS p (foldP p) s).2.1 = restE p (foldP p) s.2.1 from rfl, restE_len] at hn7
    refine ⟨some ([], [0, 1, 2, 3, 4, 5, 6, 7, 8]), by kernel_rfl, ?_⟩
    refine ⟨ad3, ⟨by omega, by omega, e3⟩, ?_⟩
    refine ⟨_, hh3, ?_⟩
    refine ⟨fun h => absurd rfl (nt h), fun _ => ?_⟩
    refine rvars_spec hqH hvq fun av nv cv H6 hle6 hrv => ?_
    have hnvv := hrv.n_eq
    rw [List.length_map] at hnvv
    have hmvv := hrv.le
    refine ⟨Nat, fun k => ⟨[(3, .ptr 0 0), (7, .ptr 1 0), (11, .ptr 2 0), (15, .v (.int .i64 j)), (16, .ptr 3 0), (107, .v (.slice a1 n1 c1)), (108, .v (.int .i64 n1)), (109, .v (.int .i64 j)), (124, .v (.slice av nv cv)), (125, .v (.int .i64 nv)), (126, .v (.int .i64 k))],
      [(0, .cells 24 [.v (.slice a n c)]), (1, .cells 24 [.v (.slice aq nq cq)]), (2, .cells 31 [.v (.slice a3 n3 c3), .v (.slice a4 n4 c4), .v (.bool (!(itS p inn (start0 p) (min most 25).toNat).2.2))]), (3, .cells 40 [.v (.int .i64 s.1), .v (.slice a5 n5 c5), .v (.int .i64 s.2.2.1), .v (.slice a6 n6 c6)])], 4⟩,
      fun k H' => Le H6 H' ∧ k ≤ (varsOf (foldP p)).length, fun k => (varsOf (foldP p)).length - k, ⟨0, [(0, 0), (1, 1), (2, 2), (3, 3)], ?_, Le.refl H6, Nat.zero_le _⟩, ?_⟩
    · (repeat' (first | exact trivial | refine ⟨?_, ?_⟩ | exact rfl | assumption))
    rintro k H7 _ ⟨h67, hk⟩
    have h57 := hle6.trans h67
    refine ⟨fun h => ?_, fun h => ?_⟩
    · have hltk : k < (varsOf (foldP p)).length := by have := dt h; omega
      refine name_k (varsOf (foldP p))[k] fun nm hnm => ?_
      have hmem : nm ∈ varsOf (foldP p) := by rw [hnm]; exact List.getElem_mem hltk
      have hvi := vIdx_mem (vars_fold nm hmem)
      have hx2 : (restE p (foldP p) s.2.1)[k]? = some (s.2.1[(vIdx p nm).toNat]?.getD (0, 0)) := by rw [restE_at hltk, hnm]
      have hlt2 : (vIdx p nm).toNat < s.2.1.length := by rw [hgd.2.1]; omega
      have hx1 := List.getElem?_eq_getElem hlt2
      rw [hx1] at hx2
      refine elem_k (hrv.up h67) (ens_get hltk) fun ad9 cs9 e9 hh9 hR9 => ?_
      rw [← hnm] at hR9
      obtain ⟨rfl, _⟩ := hR9
      refine ⟨ad9, ⟨by omega, by omega, e9⟩, ?_⟩
      refine ⟨_, hh9, ?_⟩
      refine sta_k (hr3.up h57) hss3 fun ad10 a10 n10 c10 a11 n11 c11 e10 hh10 hr10 hr11 => ?_
      have hn10 := hr10.n_eq
      rw [show (restS p (foldP p) s).2.1 = restE p (foldP p) s.2.1 from rfl, restE_len] at hn10
      refine edge_k (x := s.2.1[(vIdx p nm).toNat]'hlt2) hr10 hx2 fun ad12 e12 hh12 => ?_
      refine nm_k (hr5.up h57) (i := vIdx p nm) hvi.1 hx1 fun ad13 e13 hh13 => ?_
      refine ⟨some ([], [0, 1, 2, 3, 4, 5, 6, 7, 8, 9, 10, 11, 12, 13, 14, 15, 16]), by kernel_rfl, ?_⟩
      refine ⟨ad10, ⟨by omega, by omega, e10⟩, ?_⟩
      refine ⟨_, hh10, ?_⟩
      refine ⟨ad12, ⟨by omega, by omega, e12⟩, ?_⟩
      refine ⟨_, hh12, ?_⟩
      refine rvar_spec (haH.up h57) hv fun _ _ => ?_
      have hgl := hgd.2.1
      have hvv : idxS nm (varsOf p) 0 = vIdx p nm := rfl
      rw [hvv]
      refine ⟨ad13, ⟨by omega, by omega, e13⟩, ?_⟩
      refine ⟨_, hh13, ?_⟩
      refine ⟨fun h => by simp at h, fun _ => ?_⟩
      refine ⟨⟨by omega, by omega⟩, k + 1, [(0, 0), (1, 1), (2, 2), (3, 3)], ?_, ⟨h67, hltk⟩, by dsimp only; omega⟩
      (repeat' (first | exact trivial | refine ⟨?_, ?_⟩ | exact rfl | assumption))
    · refine ⟨⟨by omega, by omega⟩, j + 1, [(0, 0), (1, 1), (2, 2)], ?_, ⟨h45.trans h57, hlt⟩, by dsimp only; omega⟩
      (repeat' (first | exact trivial | refine ⟨?_, ?_⟩ | exact rfl | assumption))
  · exact hK _ h15
end Go.Proofs
