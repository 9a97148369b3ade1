/- Part 'E16' of the proof: lemmas, each with its own conditions in its own statement. -/
import Derived.Test.YtmcopfncaehggaaE15
namespace Go.Proofs
open Go.Sy
set_option maxRecDepth 20000
theorem refwindow_spec {n : Int} {l : List Pick} {a1 : Option Addr} {n1 c1 : Nat} {H : Hp} {K : Value → Hp → Prop} (ha : RL H a1 n1 c1 l) (hsm : l.length ≤ 9223372036854775800)
   (hK : ∀ H', Le H H' → K (.int .i64 (winF n l)) H') : Does Try.prog 25 [.slice a1 n1 c1, .int .i64 n] H K := by
  have hn1 := ha.n_eq
  have hwg := winF_ge n l
  refine spec_of cx_ok cx_mix rfl Try.func25 Try.call25 Try.ntmps25 Try.results25 rfl rfl ?_
  refine ⟨Nat, fun k => ⟨[(0, .v (.slice a1 n1 c1)), (1, .v (.int .i64 n)), (5, .v (.int .i64 k))], [], 0⟩, fun k H' => Le H H' ∧ 1 ≤ k ∧ k ≤ l.length + 1 ∧ (k : Int) ≤ winF n l, fun k => l.length + 1 - k, ⟨1, [], ?_, Le.refl H, by omega, by omega, by omega⟩, ?_⟩
  · exact ⟨⟨rfl, rfl, rfl, trivial⟩, trivial⟩
  rintro k H1 _ ⟨hle, hk1, hk2, hk3⟩
  refine ⟨fun h => ?_, fun h => ?_⟩
  · have hlt : k ≤ l.length := by have := dt h; omega
    refine refis_spec (ha.up hle) (by omega) fun b H2 hle2 hb => ?_
    have hiff := isR_iff n k l (by omega) (by omega)
    refine ⟨fun h => ?_, fun h => ?_⟩
    · have e : winF n l = k := by have := hiff.1 (hb.1 h); omega
      have h9 := hK H1 hle
      rw [e] at h9
      exact h9
    · have hn : ¬ winF n l ≤ k := fun hc => by have := hb.2 (hiff.2 hc); rw [h] at this; cases this
      refine ⟨⟨by omega, by omega⟩, k + 1, [], ?_, ⟨hle, by omega, by omega, by omega⟩, by dsimp only; omega⟩
      exact ⟨⟨rfl, rfl, rfl, trivial⟩, trivial⟩
  · have hgt : ¬ k ≤ l.length := by have := df h; omega
    refine ⟨⟨by omega, by omega⟩, ?_⟩
    have e : winF n l = (n1 : Int) + 1 := by omega
    have h9 := hK H1 hle
    rw [e] at h9
    exact h9
theorem is_spec {n k : Int} {l : List Pick} {a1 : Option Addr} {n1 c1 : Nat} {H : Hp} {K : Value → Hp → Prop} (ha : RL H a1 n1 c1 l) (hsm : l.length ≤ 9223372036854775800)
   (hK : ∀ b H', Le H H' → (b = true ↔ isR n k l) → K (.bool b) H') : Does Try.prog 22 [.slice a1 n1 c1, .int .i64 n, .int .i64 k] H K := by
  have hn1 := ha.n_eq
  refine spec_of cx_ok cx_mix rfl Try.func22 Try.call22 Try.ntmps22 Try.results22 rfl rfl ?_
  refine ⟨fun h => ?_, fun h => ?_⟩
  · have hk1 := of_decide_eq_true h
    refine ⟨fun h => ?_, fun h => ?_⟩
    · have hkl : ¬ (n1 : Int) < k := of_decide_eq_false h
      refine window_spec ha hsm ?_
      intro H2 hle2
      have hiff := isR_iff n k l hk1 (by omega)
      exact hK _ H (Le.refl H) (by rw [hiff]; simp)
    · have hkl : (n1 : Int) < k := of_decide_eq_true h
      exact hK true H (Le.refl H) ⟨fun _ => isR_long n k l hk1 (by omega), fun _ => rfl⟩
  · have hk1 : ¬ 1 ≤ k := of_decide_eq_false h
    exact hK false H (Le.refl H) ⟨fun h => (by cases h), fun h => absurd h.1 hk1⟩
def roundL (n : Int) (m : Nat) : List Pick := (List.range m).map fun i : Nat => ((i : Int) % cut n, (0 : Int))
def roundN (long : Int) : Nat := (min (max long 0) 1048576).toNat
def pickC (p : Pick) : List Value := [.int .i64 p.1, .int .i64 p.2]
theorem roundL_snoc (n : Int) (m : Nat) : roundL n (m + 1) = roundL n m ++ [((m : Int) % cut n, (0 : Int))] := by simp [roundL, List.range_succ]
theorem roundL_len (n : Int) (m : Nat) : (roundL n m).length = m := by simp [roundL]
theorem rc_picks {l : List Pick} {H : Hp} (h : ∀ p ∈ l, (-9223372036854775808 ≤ p.1 ∧ p.1 ≤ 9223372036854775807) ∧ (-9223372036854775808 ≤ p.2 ∧ p.2 ≤ 9223372036854775807)) : RC H (l.map pickC) l := by
  refine ⟨by simp, fun i cs x h1 h2 => ?_⟩
  rw [List.getElem?_map, h2] at h1
  simp only [Option.map_some, Option.some.injEq] at h1
  subst h1
  have hx := h x (List.mem_of_getElem? h2)
  exact ⟨_, _, rfl, ⟨rfl, hx.1⟩, ⟨rfl, hx.2⟩⟩
theorem round_spec {n long : Int} {H : Hp} {K : Value → Hp → Prop}
   (hK : ∀ a n1 c1 H', Le H H' → RL H' a n1 c1 (roundL n (roundN long)) → K (.slice a n1 c1) H') : Does Try.prog 26 [.int .i64 n, .int .i64 long] H K := by
  have hc1 : 1 ≤ cut n ∧ cut n ≤ 64 := by unfold cut; omega
  obtain ⟨N, hN⟩ : ∃ N : Nat, N = roundN long := ⟨_, rfl⟩
  have hNm : min (max long 0) 1048576 = (N : Int) := by rw [hN, roundN]; omega
  have eNm : SV.v (.int .i64 (min (max long 0) 1048576)) = SV.v (.int .i64 (N : Int)) := by rw [hNm]
  have hN2 : N ≤ 1048576 := by omega
  rw [← hN] at hK
  have hmod : ∀ i : Nat, (i : Int).tmod (cut n) = (i : Int) % cut n := fun i => Int.tmod_eq_emod_of_nonneg (by omega)
  have hmr : ∀ i : Nat, 0 ≤ (i : Int) % cut n ∧ (i : Int) % cut n < 64 := fun i => ⟨Int.emod_nonneg _ (by omega), by have := Int.emod_lt_of_pos (i : Int) (show 0 < cut n by omega); omega⟩
  refine spec_of cx_ok cx_mix rfl Try.func26 Try.call26 Try.ntmps26 Try.results26 rfl rfl ?_
  refine ⟨Nat, fun i => ⟨[(0, .v (.int .i64 n)), (5, .own 0), (9, .v (.int .i64 (N : Int))), (10, .v (.int .i64 i))], [(0, .row 41 2 ((roundL n i).map pickC))], 1⟩, fun i H' => Le H H' ∧ i ≤ N, fun i => N - i, ⟨0, [], ?_, Le.refl H, by omega⟩, ?_⟩
  · exact ⟨⟨rfl, ⟨rfl, rfl, rfl⟩, eNm, rfl, trivial⟩, ⟨rfl, trivial⟩⟩
  rintro i H1 _ ⟨hle, hi⟩
  refine ⟨fun h => ?_, fun h => ?_⟩
  · have hlt : i < N := by have := dt h; omega
    refine cut_spec ?_
    refine ⟨by omega, ?_⟩
    have hlen : ((roundL n i).map pickC).length = i := by rw [List.length_map, roundL_len]
    have erow : (roundL n i).map pickC ++ [[.int .i64 ((i : Int).tmod (cut n)), .int .i64 0]] = (roundL n (i + 1)).map pickC := by rw [roundL_snoc, List.map_append, hmod]; rfl
    refine ⟨⟨by show (((roundL n i).map pickC).length + 1) * 16 ≤ _; omega, by show ((roundL n i).map pickC).length + 1 ≤ _; omega⟩, ?_⟩
    refine ⟨⟨by omega, by omega⟩, i + 1, [(0, 2)], ?_, ⟨hle, by omega⟩, by dsimp only; omega⟩
    exact ⟨⟨rfl, rfl, rfl, rfl, trivial⟩, ⟨erow, trivial⟩⟩
  · have hiN : i = N := by have := df h; omega
    intro x H2 hle2 hx
    have hrc := rc_picks (l := roundL n i) (H := H2) (fun p hp => by
      simp only [roundL, List.mem_map, List.mem_range] at hp
      obtain ⟨j, _, rfl⟩ := hp
      have := hmr j
      exact ⟨⟨by omega, by omega⟩, by omega⟩)
    obtain ⟨a, n1, c1, e, hr⟩ := RL.of_row (α := Pick) hx hrc
    rw [hiN] at hr
    have h9 := hK a n1 c1 H2 (hle.trans hle2) hr
    rw [← e] at h9
    exact h9
end Go.Proofs
