/- Part 'E23' of the proof: lemmas, each with its own conditions in its own statement. -/
import Derived.Test.YtmcopfncaehggaaE22
namespace Go.Proofs
open Go.Sy
set_option maxRecDepth 20000
theorem weave_spec {n long : Int} {raw : List Int} {a1 : Option Addr} {n1 c1 : Nat} {H : Hp} {K : Value → Hp → Prop} (ha : RL H a1 n1 c1 raw)
    (hK : ∀ a n2 c2 H', Le H H' → RL H' a n2 c2 (wout (cut n).toNat raw (roundN long)) → K (.slice a n2 c2) H') : Does Try.prog 29 [.int .i64 n, .int .i64 long, .slice a1 n1 c1] H K := by
  have hc1 : 1 ≤ cut n ∧ cut n ≤ 64 := by unfold cut; omega
  obtain ⟨N, hN⟩ : ∃ N : Nat, N = (cut n).toNat := ⟨_, rfl⟩
  have ecn : cut n = (N : Int) := by omega
  obtain ⟨M, hM⟩ : ∃ M : Nat, M = roundN long := ⟨_, rfl⟩
  have hMm : min (max long 0) 1048576 = (M : Int) := by rw [hM, roundN]; omega
  have eMm : SV.v (.int .i64 (min (max long 0) 1048576)) = SV.v (.int .i64 (M : Int)) := by rw [hMm]
  have hM2 : M ≤ 1048576 := by omega
  rw [← hN, ← hM] at hK
  have hn1 := ha.n_eq
  have hmx := ha.le
  have hrr := rl_range ha
  refine spec_of cx_ok cx_mix rfl Try.func29 Try.call29 Try.ntmps29 Try.results29 rfl rfl ?_
  refine cut_spec ?_
  rw [ecn]
  refine ⟨Nat, fun i => ⟨[(0, .v (.int .i64 (N : Int))), (2, .v (.slice a1 n1 c1)), (7, .own 0), (8, .own 1), (17, .v (.int .i64 (M : Int))), (18, .v (.int .i64 i))], [(0, .row 41 2 ((wout N raw i).map pickC)), (1, .row 3 1 ((wst N raw i).map intC))], 2⟩, fun i H' => Le H H' ∧ i ≤ M, fun i => M - i, ⟨0, [], ?_, Le.refl H, by omega⟩, ?_⟩
  · exact ⟨⟨rfl, rfl, ⟨rfl, rfl, rfl⟩, ⟨rfl, rfl, rfl⟩, eMm, rfl, trivial⟩, ⟨rfl, rfl, trivial⟩⟩
  rintro i H1 _ ⟨hle, hi⟩
  refine ⟨fun h => ?_, fun h => ?_⟩
  · have hlt : i < M := by have := dt h; omega
    obtain ⟨ewho, hat, h64, hil, hget, eout, hol⟩ := round_facts (n := N) (by omega) (by omega) raw i
    have hwl : ((wst N raw i).map intC).length = 0 ↔ wst N raw i = [] := by rw [List.length_map]; exact List.length_eq_zero_iff
    refine ⟨fun h => ?_, fun h => ?_⟩
    · have h0 : wst N raw i = [] := hwl.1 (by have := dt h; omega)
      have ewf : wsf N raw i = rng N := by unfold wsf; rw [if_pos h0]
      have ew0 : (wst N raw i).map intC = (rng 0).map intC := by rw [h0]; rfl
      refine ⟨Nat, fun t => ⟨[(0, .v (.int .i64 (N : Int))), (2, .v (.slice a1 n1 c1)), (7, .own 0), (8, .own 1), (9, .v (.int .i64 i)), (17, .v (.int .i64 (M : Int))), (18, .v (.int .i64 i)), (24, .v (.int .i64 (N : Int))), (25, .v (.int .i64 t))], [(0, .row 41 2 ((wout N raw i).map pickC)), (1, .row 3 1 ((rng t).map intC))], 2⟩, fun t H' => Le H H' ∧ t ≤ N, fun t => N - t, ⟨0, [(0, 0), (1, 1)], ?_, hle, by omega⟩, ?_⟩
      · exact ⟨⟨rfl, rfl, rfl, rfl, rfl, rfl, rfl, rfl, rfl, trivial⟩, ⟨rfl, ew0, trivial⟩⟩
      rintro k H2 _ ⟨hle2, hk⟩
      refine ⟨fun h => ?_, fun h => ?_⟩
      · have hkN : k < N := by have := dt h; omega
        have hrl : ((rng k).map intC).length = k := by rw [List.length_map, rng_len]
        have erow : (rng k).map intC ++ [[.int .i64 (k : Int)]] = (rng (k + 1)).map intC := by rw [rng_snoc, List.map_append]; rfl
        refine ⟨⟨by show (((rng k).map intC).length + 1) * 8 ≤ _; omega, by show ((rng k).map intC).length + 1 ≤ _; omega⟩, ?_⟩
        refine ⟨⟨by omega, by omega⟩, k + 1, [(0, 0), (1, 3)], ?_, ⟨hle2, by omega⟩, by dsimp only; omega⟩
        exact ⟨⟨rfl, rfl, rfl, rfl, rfl, rfl, rfl, rfl, rfl, trivial⟩, ⟨rfl, erow, trivial⟩⟩
      · have hkN : k = N := by have := df h; omega
        have ew : rng k = wsf N raw i := by rw [ewf, hkN]
        have ewst : (rng k).eraseIdx (wat N raw i) = wst N raw (i + 1) := by rw [ew]; rfl
        rw [← ew] at ewho hat h64 hil hget eout
        refine ⟨fun h => ?_, fun h => ?_⟩
        · have h0 : 0 < raw.length := by have := dt h; omega
          have eti : (i : Int).tmod (n1 : Int) = ((i % raw.length : Nat) : Int) := by rw [Int.tmod_eq_emod_of_nonneg (by omega), hn1]; rfl
          have hml : i % raw.length < raw.length := Nat.mod_lt _ h0
          have hel := (ha.up hle2).elem (wx_at (raw := raw) (i := i) h0)
          obtain ⟨ad, cs, e1, hh, r1⟩ := hel
          rw [int_open r1, ← eti] at hh
          refine ⟨by omega, ?_⟩
          refine ⟨ad, ⟨by omega, by omega, e1⟩, ?_⟩
          refine ⟨_, hh, ?_⟩
          refine swho_spec (by omega) ?_
          rw [ewho]
          refine ⟨⟨by omega, by omega⟩, ?_⟩
          refine ⟨_, hget, ?_⟩
          refine ⟨⟨by show (((wout N raw i).map pickC).length + 1) * 16 ≤ _; omega, by show ((wout N raw i).map pickC).length + 1 ≤ _; omega⟩, ?_⟩
          refine ⟨⟨by omega, by omega⟩, ?_⟩
          refine ⟨[1], rfl, ?_⟩
          refine delete_spec (i := wat N raw i) (j := wat N raw i + 1) rfl (by omega) (by omega) (by omega) (by omega) ?_
          have erow : ((rng k).map intC).take (wat N raw i) ++ ((rng k).map intC).drop (wat N raw i + 1) = (wst N raw (i + 1)).map intC := by rw [← ewst, List.eraseIdx_eq_take_drop_succ, List.map_append, List.map_take, List.map_drop]
          refine ⟨⟨by omega, by omega⟩, i + 1, [(0, 3), (1, 4)], ?_, ⟨hle2, by omega⟩, by dsimp only; omega⟩
          exact ⟨⟨rfl, rfl, rfl, rfl, rfl, rfl, trivial⟩, ⟨eout, erow, trivial⟩⟩
        · have h0 : ¬ 0 < raw.length := by have := df h; omega
          have ex := wx_nil (raw := raw) (i := i) h0
          rw [ex] at ewho eout
          refine swho_spec (by omega) ?_
          rw [ewho]
          refine ⟨⟨by omega, by omega⟩, ?_⟩
          refine ⟨_, hget, ?_⟩
          refine ⟨⟨by show (((wout N raw i).map pickC).length + 1) * 16 ≤ _; omega, by show ((wout N raw i).map pickC).length + 1 ≤ _; omega⟩, ?_⟩
          refine ⟨⟨by omega, by omega⟩, ?_⟩
          refine ⟨[1], rfl, ?_⟩
          refine delete_spec (i := wat N raw i) (j := wat N raw i + 1) rfl (by omega) (by omega) (by omega) (by omega) ?_
          have erow : ((rng k).map intC).take (wat N raw i) ++ ((rng k).map intC).drop (wat N raw i + 1) = (wst N raw (i + 1)).map intC := by rw [← ewst, List.eraseIdx_eq_take_drop_succ, List.map_append, List.map_take, List.map_drop]
          refine ⟨⟨by omega, by omega⟩, i + 1, [(0, 3), (1, 4)], ?_, ⟨hle2, by omega⟩, by dsimp only; omega⟩
          exact ⟨⟨rfl, rfl, rfl, rfl, rfl, rfl, trivial⟩, ⟨eout, erow, trivial⟩⟩
    · have h0 : ¬ wst N raw i = [] := fun e => by have := df h; have := hwl.2 e; omega
      have ew : wst N raw i = wsf N raw i := by unfold wsf; rw [if_neg h0]
      have ewst : (wst N raw i).eraseIdx (wat N raw i) = wst N raw (i + 1) := by
        have := wst_succ N raw i
        rw [← ew] at this
        exact this.symm
      rw [← ew] at ewho hat h64 hil hget eout
      refine ⟨fun h => ?_, fun h => ?_⟩
      · have h0 : 0 < raw.length := by have := dt h; omega
        have eti : (i : Int).tmod (n1 : Int) = ((i % raw.length : Nat) : Int) := by rw [Int.tmod_eq_emod_of_nonneg (by omega), hn1]; rfl
        have hml : i % raw.length < raw.length := Nat.mod_lt _ h0
        have hel := (ha.up hle).elem (wx_at (raw := raw) (i := i) h0)
        obtain ⟨ad, cs, e1, hh, r1⟩ := hel
        rw [int_open r1, ← eti] at hh
        refine ⟨by omega, ?_⟩
        refine ⟨ad, ⟨by omega, by omega, e1⟩, ?_⟩
        refine ⟨_, hh, ?_⟩
        refine swho_spec (by omega) ?_
        rw [ewho]
        refine ⟨⟨by omega, by omega⟩, ?_⟩
        refine ⟨_, hget, ?_⟩
        refine ⟨⟨by show (((wout N raw i).map pickC).length + 1) * 16 ≤ _; omega, by show ((wout N raw i).map pickC).length + 1 ≤ _; omega⟩, ?_⟩
        refine ⟨⟨by omega, by omega⟩, ?_⟩
        refine ⟨[1], rfl, ?_⟩
        refine delete_spec (i := wat N raw i) (j := wat N raw i + 1) rfl (by omega) (by omega) (by omega) (by omega) ?_
        have erow : ((wst N raw i).map intC).take (wat N raw i) ++ ((wst N raw i).map intC).drop (wat N raw i + 1) = (wst N raw (i + 1)).map intC := by rw [← ewst, List.eraseIdx_eq_take_drop_succ, List.map_append, List.map_take, List.map_drop]
        refine ⟨⟨by omega, by omega⟩, i + 1, [(0, 3), (1, 4)], ?_, ⟨hle, by omega⟩, by dsimp only; omega⟩
        exact ⟨⟨rfl, rfl, rfl, rfl, rfl, rfl, trivial⟩, ⟨eout, erow, trivial⟩⟩
      · have h0 : ¬ 0 < raw.length := by have := df h; omega
        have ex := wx_nil (raw := raw) (i := i) h0
        rw [ex] at ewho eout
        refine swho_spec (by omega) ?_
        rw [ewho]
        refine ⟨⟨by omega, by omega⟩, ?_⟩
        refine ⟨_, hget, ?_⟩
        refine ⟨⟨by show (((wout N raw i).map pickC).length + 1) * 16 ≤ _; omega, by show ((wout N raw i).map pickC).length + 1 ≤ _; omega⟩, ?_⟩
        refine ⟨⟨by omega, by omega⟩, ?_⟩
        refine ⟨[1], rfl, ?_⟩
        refine delete_spec (i := wat N raw i) (j := wat N raw i + 1) rfl (by omega) (by omega) (by omega) (by omega) ?_
        have erow : ((wst N raw i).map intC).take (wat N raw i) ++ ((wst N raw i).map intC).drop (wat N raw i + 1) = (wst N raw (i + 1)).map intC := by rw [← ewst, List.eraseIdx_eq_take_drop_succ, List.map_append, List.map_take, List.map_drop]
        refine ⟨⟨by omega, by omega⟩, i + 1, [(0, 3), (1, 4)], ?_, ⟨hle, by omega⟩, by dsimp only; omega⟩
        exact ⟨⟨rfl, rfl, rfl, rfl, rfl, rfl, trivial⟩, ⟨eout, erow, trivial⟩⟩
  · have him : i = M := by have := df h; omega
    intro x H2 hle2 hx
    have hrc := rc_picks (l := wout N raw i) (H := H2) (wout_range (by omega) hrr (by omega) i)
    obtain ⟨a, n2, c2, e, hr⟩ := RL.of_row (α := Pick) hx hrc
    rw [him] at hr
    have h9 := hK a n2 c2 H2 (hle.trans hle2) hr
    rw [← e] at h9
    exact h9
end Go.Proofs
