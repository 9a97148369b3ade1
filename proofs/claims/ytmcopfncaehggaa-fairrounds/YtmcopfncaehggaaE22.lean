/- Part 'E22' of the proof: lemmas, each with its own conditions in its own statement. -/
import Derived.Test.YtmcopfncaehggaaE21
namespace Go.Proofs
open Go.Sy
set_option maxRecDepth 20000
def intC (x : Int) : List Value := [.int .i64 x]
theorem era_step (l : List Int) {k at' : Nat} (hk : k < l.length) : (l.take (k + 1)).eraseIdx at' = if k = at' then (l.take k).eraseIdx at' else (l.take k).eraseIdx at' ++ [l.getD k 0] := by
  have hx := List.getElem?_eq_getElem hk
  have e1 : l.take (k + 1) = l.take k ++ [l.getD k 0] := by rw [List.take_add_one, hx, List.getD_eq_getElem?_getD, hx]; rfl
  have hl : (l.take k).length = k := by rw [List.length_take]; omega
  rw [e1]
  split
  · rename_i h
    rw [List.eraseIdx_append_of_length_le (by omega), hl, List.eraseIdx_of_length_le (l := l.take k) (by omega), h, Nat.sub_self]
    simp
  · rename_i h
    rcases Nat.lt_or_ge at' k with h2 | h2
    · rw [List.eraseIdx_append_of_lt_length (by omega)]
    · rw [List.eraseIdx_append_of_length_le (by omega), hl, List.eraseIdx_of_length_le (l := l.take k) (by omega)]
      congr 1
      rw [List.eraseIdx_of_length_le]
      simp; omega
theorem rng_snoc (k : Nat) : rng (k + 1) = rng k ++ [(k : Int)] := by simp [rng, List.range_succ]
theorem map_getD {l : List Int} {i : Nat} (h : i < l.length) : (l.map intC)[i]? = some (intC (l.getD i 0)) := by
  rw [List.getElem?_map, List.getD_eq_getElem?_getD, List.getElem?_eq_getElem h]; rfl
theorem rc_ints {l : List Int} {H : Hp} (h : ∀ x ∈ l, -9223372036854775808 ≤ x ∧ x ≤ 9223372036854775807) : RC H (l.map intC) l := by
  refine ⟨by simp, fun i cs x h1 h2 => ?_⟩
  rw [List.getElem?_map, h2] at h1
  simp only [Option.map_some, Option.some.injEq] at h1
  subst h1
  exact ⟨rfl, h x (List.mem_of_getElem? h2)⟩
theorem wx_at {raw : List Int} {i : Nat} (h : 0 < raw.length) : raw[i % raw.length]? = some (wx raw i) := by
  have : i % raw.length < raw.length := Nat.mod_lt _ h
  unfold wx
  rw [if_neg (fun e => by rw [e] at h; simp at h), List.getD_eq_getElem?_getD, List.getElem?_eq_getElem this]
  rfl
theorem wx_nil {raw : List Int} {i : Nat} (h : ¬ 0 < raw.length) : wx raw i = 0 := by
  have : raw = [] := List.eq_nil_of_length_eq_zero (by omega)
  unfold wx
  rw [if_pos this]
theorem wx_range {raw : List Int} (h : ∀ x ∈ raw, -9223372036854775808 ≤ x ∧ x ≤ 9223372036854775807) (i : Nat) : -9223372036854775808 ≤ wx raw i ∧ wx raw i ≤ 9223372036854775807 := by
  by_cases h0 : 0 < raw.length
  · exact h _ (List.mem_of_getElem? (wx_at (i := i) h0))
  · rw [wx_nil h0]; omega
theorem int_open {H : Hp} {cs : List Value} {r : Int} (h : Enc.R H cs r) : cs = [.int .i64 r] := h.1
theorem rl_range {H : Hp} {a : Option Addr} {n c : Nat} {l : List Int} (h : RL H a n c l) : ∀ x ∈ l, -9223372036854775808 ≤ x ∧ x ≤ 9223372036854775807 := by
  intro x hx
  obtain ⟨i, hi⟩ := List.mem_iff_getElem?.1 hx
  obtain ⟨ad, cs, _, _, r⟩ := h.elem hi
  exact r.2
theorem wout_range {n : Nat} {raw : List Int} (hn : n ≤ 64) (h : ∀ x ∈ raw, -9223372036854775808 ≤ x ∧ x ≤ 9223372036854775807) (hn1 : 1 ≤ n) (m : Nat) : ∀ p ∈ wout n raw m, (-9223372036854775808 ≤ p.1 ∧ p.1 ≤ 9223372036854775807) ∧ (-9223372036854775808 ≤ p.2 ∧ p.2 ≤ 9223372036854775807) := by
  intro p hp
  obtain ⟨i, hi⟩ := List.mem_iff_getElem?.1 hp
  have hlt := (List.getElem?_eq_some_iff.1 hi).1
  rw [wout_len] at hlt
  rw [wout_at raw m i hlt] at hi
  simp only [Option.some.injEq] at hi
  subst hi
  have hat := wat_lt hn1 raw i
  have hmem := (wst_mem (n := n) raw i).2 ((wsf n raw i).getD (wat n raw i) 0) (by
    rw [List.getD_eq_getElem?_getD, List.getElem?_eq_getElem hat]
    exact List.getElem_mem hat)
  exact ⟨by dsimp only; omega, wx_range h i⟩
/-- What a round of the loop is asked. -/
theorem round_facts {n : Nat} (hn : 1 ≤ n) (h64 : n ≤ 64) (raw : List Int) (i : Nat) :
    who (wx raw i) (((wsf n raw i).map intC).length : Int) = (wat n raw i : Int) ∧ wat n raw i < (wsf n raw i).length ∧ (wsf n raw i).length ≤ 64 ∧
    ((wsf n raw i).map intC).length = (wsf n raw i).length ∧ ((wsf n raw i).map intC)[wat n raw i]? = some [.int .i64 ((wsf n raw i).getD (wat n raw i) 0)] ∧
    (wout n raw i).map pickC ++ [[.int .i64 ((wsf n raw i).getD (wat n raw i) 0), .int .i64 (wx raw i)]] = (wout n raw (i + 1)).map pickC ∧
    ((wout n raw i).map pickC).length = i := by
  have h1 := wsf_pos hn raw i
  have h2 := who_range (p := wx raw i) (n := ((wsf n raw i).length : Int)) (by omega)
  have h3 := wat_lt hn raw i
  have h4 := (wst_len hn raw i).2
  refine ⟨?_, h3, by omega, by simp, map_getD h3, ?_, ?_⟩
  · rw [List.length_map]; unfold wat; omega
  · rw [wout, List.map_append]; rfl
  · rw [List.length_map, wout_len]
theorem refweave_spec {n long : Int} {raw : List Int} {a1 : Option Addr} {n1 c1 : Nat} {H : Hp} {K : Value → Hp → Prop} (ha : RL H a1 n1 c1 raw) (hlong : long ≤ 1000000)
    (hK : ∀ a n2 c2 H', Le H H' → RL H' a n2 c2 (wout (cut n).toNat raw long.toNat) → K (.slice a n2 c2) H') : Does Try.prog 30 [.int .i64 n, .int .i64 long, .slice a1 n1 c1] H K := by
  have hc1 : 1 ≤ cut n ∧ cut n ≤ 64 := by unfold cut; omega
  obtain ⟨N, hN⟩ : ∃ N : Nat, N = (cut n).toNat := ⟨_, rfl⟩
  have ecn : cut n = (N : Int) := by omega
  rw [← hN] at hK
  have hn1 := ha.n_eq
  have hmx := ha.le
  have hrr := rl_range ha
  refine spec_of cx_ok cx_mix rfl Try.func30 Try.call30 Try.ntmps30 Try.results30 rfl rfl ?_
  refine workers_spec ?_
  rw [ecn]
  refine ⟨Nat, fun i => ⟨[(0, .v (.int .i64 (N : Int))), (1, .v (.int .i64 long)), (2, .v (.slice a1 n1 c1)), (7, .own 0), (8, .own 1), (9, .v (.int .i64 i))], [(0, .row 41 2 ((wout N raw i).map pickC)), (1, .row 3 1 ((wst N raw i).map intC))], 2⟩, fun i H' => Le H H' ∧ i ≤ long.toNat, fun i => long.toNat - i, ⟨0, [], ?_, Le.refl H, by omega⟩, ?_⟩
  · exact ⟨⟨rfl, rfl, rfl, ⟨rfl, rfl, rfl⟩, ⟨rfl, rfl, rfl⟩, rfl, trivial⟩, ⟨rfl, rfl, trivial⟩⟩
  rintro i H1 _ ⟨hle, hi⟩
  refine ⟨fun h => ?_, fun h => ?_⟩
  · have hlt : i < long.toNat := by have := dt h; omega
    obtain ⟨ewho, hat, h64, hil, hget, eout, hol⟩ := round_facts (n := N) (by omega) (by omega) raw i
    have hnil := wst_nil (n := N) (by omega) raw i
    have etm : (i : Int).tmod (N : Int) = ((i % N : Nat) : Int) := by rw [Int.tmod_eq_emod_of_nonneg (by omega)]; rfl
    refine ⟨by omega, ?_⟩
    refine ⟨fun h => ?_, fun h => ?_⟩
    · have h0 : i % N = 0 := by have := dt h; omega
      have ewf : wsf N raw i = rng N := by unfold wsf; rw [if_pos (hnil.2 h0)]
      refine ⟨Nat, fun k => ⟨[(0, .v (.int .i64 (N : Int))), (1, .v (.int .i64 long)), (2, .v (.slice a1 n1 c1)), (7, .own 0), (8, .own 1), (9, .v (.int .i64 i)), (10, .v (.int .i64 k))], [(0, .row 41 2 ((wout N raw i).map pickC)), (1, .row 3 1 ((rng k).map intC))], 2⟩, fun k H' => Le H H' ∧ k ≤ N, fun k => N - k, ⟨0, [(0, 0)], ?_, hle, by omega⟩, ?_⟩
      · exact ⟨⟨rfl, rfl, rfl, rfl, ⟨rfl, rfl, rfl⟩, rfl, rfl, trivial⟩, ⟨rfl, rfl, trivial⟩⟩
      rintro k H2 _ ⟨hle2, hk⟩
      refine ⟨fun h => ?_, fun h => ?_⟩
      · have hkN : k < N := by have := dt h; omega
        have hrl : ((rng k).map intC).length = k := by rw [List.length_map, rng_len]
        have erow : (rng k).map intC ++ [[.int .i64 (k : Int)]] = (rng (k + 1)).map intC := by rw [rng_snoc, List.map_append]; rfl
        refine ⟨⟨by show (((rng k).map intC).length + 1) * 8 ≤ _; omega, by show ((rng k).map intC).length + 1 ≤ _; omega⟩, ?_⟩
        refine ⟨⟨by omega, by omega⟩, k + 1, [(0, 0), (1, 3)], ?_, ⟨hle2, by omega⟩, by dsimp only; omega⟩
        exact ⟨⟨rfl, rfl, rfl, rfl, rfl, rfl, rfl, trivial⟩, ⟨rfl, erow, trivial⟩⟩
      · have hkN : k = N := by have := df h; omega
        have ew : rng k = wsf N raw i := by rw [ewf, hkN]
        have ewst : (rng k).eraseIdx (wat N raw i) = wst N raw (i + 1) := by rw [ew]; rfl
        rw [← ew] at ewho hat h64 hil hget eout
        refine ⟨fun h => ?_, fun h => ?_⟩
        · have h0 : 0 < raw.length := by have := dt h; omega
          have eti : (i : Int).tmod (n1 : Int) = ((i % raw.length : Nat) : Int) := by rw [Int.tmod_eq_emod_of_nonneg (by omega), hn1]; rfl
          have hml : i % raw.length < raw.length := Nat.mod_lt _ h0
          have hel := (ha.up hle2).elem (wx_at (raw := raw) (i := i) h0)
          obtain ⟨ad, cs, e1, hh, r1⟩ := hel
          rw [int_open r1, ← eti] at hh
          refine ⟨by omega, ?_⟩
          refine ⟨ad, ⟨by omega, by omega, e1⟩, ?_⟩
          refine ⟨_, hh, ?_⟩
          refine who_spec (by omega) ?_
          rw [ewho]
          refine ⟨⟨by omega, by omega⟩, ?_⟩
          refine ⟨_, hget, ?_⟩
          refine ⟨⟨by show (((wout N raw i).map pickC).length + 1) * 16 ≤ _; omega, by show ((wout N raw i).map pickC).length + 1 ≤ _; omega⟩, ?_⟩
          refine ⟨Nat, fun t => ⟨[(0, .v (.int .i64 (N : Int))), (1, .v (.int .i64 long)), (2, .v (.slice a1 n1 c1)), (7, .own 0), (9, .v (.int .i64 i)), (12, .v (.int .i64 (wat N raw i : Int))), (13, .own 2), (60, .own 1), (61, .v (.int .i64 (((rng k).map intC).length : Int))), (62, .v (.int .i64 t))], [(0, .row 41 2 ((wout N raw (i + 1)).map pickC)), (1, .row 3 1 ((rng k).map intC)), (2, .row 3 1 ((((rng k).take t).eraseIdx (wat N raw i)).map intC))], 3⟩, fun t H' => Le H H' ∧ t ≤ (rng k).length, fun t => (rng k).length - t, ⟨0, [(0, 3), (1, 1)], ?_, hle2, by omega⟩, ?_⟩
          · have enil : (((rng k).take 0).eraseIdx (wat N raw i)).map intC = [] := by simp
            refine ⟨⟨rfl, rfl, rfl, rfl, rfl, rfl, ?_, ?_⟩, ?_⟩
            · exact ⟨rfl, rfl, enil⟩
            · exact ⟨rfl, rfl, rfl, trivial⟩
            · exact ⟨eout, rfl, enil, trivial⟩
          rintro k4 H4 _ ⟨hle4, hk4⟩
          refine ⟨fun h => ?_, fun h => ?_⟩
          · have hkw : k4 < (rng k).length := by have := dt h; omega
            have hst := era_step (rng k) (k := k4) (at' := wat N raw i) hkw
            refine ⟨⟨by omega, by omega⟩, ?_⟩
            refine ⟨_, map_getD hkw, ?_⟩
            refine ⟨fun h => ?_, fun h => ?_⟩
            · have hne : ¬ k4 = wat N raw i := by have := nt h; omega
              rw [if_neg hne] at hst
              have erow : (((rng k).take k4).eraseIdx (wat N raw i)).map intC ++ [[.int .i64 ((rng k).getD k4 0)]] = (((rng k).take (k4 + 1)).eraseIdx (wat N raw i)).map intC := by rw [hst, List.map_append]; rfl
              have hel : ((((rng k).take k4).eraseIdx (wat N raw i)).map intC).length ≤ 64 := by
                rw [List.length_map]
                have := List.length_eraseIdx_le ((rng k).take k4) (wat N raw i)
                rw [List.length_take] at this
                omega
              refine ⟨⟨by show (((((rng k).take k4).eraseIdx (wat N raw i)).map intC).length + 1) * 8 ≤ _; omega, by show ((((rng k).take k4).eraseIdx (wat N raw i)).map intC).length + 1 ≤ _; omega⟩, ?_⟩
              refine ⟨⟨by omega, by omega⟩, k4 + 1, [(0, 0), (1, 1), (2, 4)], ?_, ⟨hle4, by omega⟩, by dsimp only; omega⟩
              exact ⟨⟨rfl, rfl, rfl, rfl, rfl, rfl, rfl, rfl, rfl, rfl, trivial⟩, ⟨rfl, rfl, erow, trivial⟩⟩
            · have heq : k4 = wat N raw i := by have := nf h; omega
              rw [if_pos heq] at hst
              have erow : (((rng k).take k4).eraseIdx (wat N raw i)).map intC = (((rng k).take (k4 + 1)).eraseIdx (wat N raw i)).map intC := by rw [hst]
              refine ⟨⟨by omega, by omega⟩, k4 + 1, [(0, 0), (1, 1), (2, 2)], ?_, ⟨hle4, by omega⟩, by dsimp only; omega⟩
              exact ⟨⟨rfl, rfl, rfl, rfl, rfl, rfl, rfl, rfl, rfl, rfl, trivial⟩, ⟨rfl, rfl, erow, trivial⟩⟩
          · have hkw : k4 = (rng k).length := by have := df h; omega
            have erow : (((rng k).take k4).eraseIdx (wat N raw i)).map intC = (wst N raw (i + 1)).map intC := by rw [hkw, List.take_length, ewst]
            refine ⟨⟨by omega, by omega⟩, i + 1, [(0, 0), (1, 2)], ?_, ⟨hle4, by omega⟩, by dsimp only; omega⟩
            exact ⟨⟨rfl, rfl, rfl, rfl, rfl, rfl, trivial⟩, ⟨rfl, erow, trivial⟩⟩
        · have h0 : ¬ 0 < raw.length := by have := df h; omega
          have ex := wx_nil (raw := raw) (i := i) h0
          rw [ex] at ewho eout
          refine who_spec (by omega) ?_
          rw [ewho]
          refine ⟨⟨by omega, by omega⟩, ?_⟩
          refine ⟨_, hget, ?_⟩
          refine ⟨⟨by show (((wout N raw i).map pickC).length + 1) * 16 ≤ _; omega, by show ((wout N raw i).map pickC).length + 1 ≤ _; omega⟩, ?_⟩
          refine ⟨Nat, fun t => ⟨[(0, .v (.int .i64 (N : Int))), (1, .v (.int .i64 long)), (2, .v (.slice a1 n1 c1)), (7, .own 0), (9, .v (.int .i64 i)), (12, .v (.int .i64 (wat N raw i : Int))), (13, .own 2), (60, .own 1), (61, .v (.int .i64 (((rng k).map intC).length : Int))), (62, .v (.int .i64 t))], [(0, .row 41 2 ((wout N raw (i + 1)).map pickC)), (1, .row 3 1 ((rng k).map intC)), (2, .row 3 1 ((((rng k).take t).eraseIdx (wat N raw i)).map intC))], 3⟩, fun t H' => Le H H' ∧ t ≤ (rng k).length, fun t => (rng k).length - t, ⟨0, [(0, 3), (1, 1)], ?_, hle2, by omega⟩, ?_⟩
          · have enil : (((rng k).take 0).eraseIdx (wat N raw i)).map intC = [] := by simp
            refine ⟨⟨rfl, rfl, rfl, rfl, rfl, rfl, ?_, ?_⟩, ?_⟩
            · exact ⟨rfl, rfl, enil⟩
            · exact ⟨rfl, rfl, rfl, trivial⟩
            · exact ⟨eout, rfl, enil, trivial⟩
          rintro k4 H4 _ ⟨hle4, hk4⟩
          refine ⟨fun h => ?_, fun h => ?_⟩
          · have hkw : k4 < (rng k).length := by have := dt h; omega
            have hst := era_step (rng k) (k := k4) (at' := wat N raw i) hkw
            refine ⟨⟨by omega, by omega⟩, ?_⟩
            refine ⟨_, map_getD hkw, ?_⟩
            refine ⟨fun h => ?_, fun h => ?_⟩
            · have hne : ¬ k4 = wat N raw i := by have := nt h; omega
              rw [if_neg hne] at hst
              have erow : (((rng k).take k4).eraseIdx (wat N raw i)).map intC ++ [[.int .i64 ((rng k).getD k4 0)]] = (((rng k).take (k4 + 1)).eraseIdx (wat N raw i)).map intC := by rw [hst, List.map_append]; rfl
              have hel : ((((rng k).take k4).eraseIdx (wat N raw i)).map intC).length ≤ 64 := by
                rw [List.length_map]
                have := List.length_eraseIdx_le ((rng k).take k4) (wat N raw i)
                rw [List.length_take] at this
                omega
              refine ⟨⟨by show (((((rng k).take k4).eraseIdx (wat N raw i)).map intC).length + 1) * 8 ≤ _; omega, by show ((((rng k).take k4).eraseIdx (wat N raw i)).map intC).length + 1 ≤ _; omega⟩, ?_⟩
              refine ⟨⟨by omega, by omega⟩, k4 + 1, [(0, 0), (1, 1), (2, 4)], ?_, ⟨hle4, by omega⟩, by dsimp only; omega⟩
              exact ⟨⟨rfl, rfl, rfl, rfl, rfl, rfl, rfl, rfl, rfl, rfl, trivial⟩, ⟨rfl, rfl, erow, trivial⟩⟩
            · have heq : k4 = wat N raw i := by have := nf h; omega
              rw [if_pos heq] at hst
              have erow : (((rng k).take k4).eraseIdx (wat N raw i)).map intC = (((rng k).take (k4 + 1)).eraseIdx (wat N raw i)).map intC := by rw [hst]
              refine ⟨⟨by omega, by omega⟩, k4 + 1, [(0, 0), (1, 1), (2, 2)], ?_, ⟨hle4, by omega⟩, by dsimp only; omega⟩
              exact ⟨⟨rfl, rfl, rfl, rfl, rfl, rfl, rfl, rfl, rfl, rfl, trivial⟩, ⟨rfl, rfl, erow, trivial⟩⟩
          · have hkw : k4 = (rng k).length := by have := df h; omega
            have erow : (((rng k).take k4).eraseIdx (wat N raw i)).map intC = (wst N raw (i + 1)).map intC := by rw [hkw, List.take_length, ewst]
            refine ⟨⟨by omega, by omega⟩, i + 1, [(0, 0), (1, 2)], ?_, ⟨hle4, by omega⟩, by dsimp only; omega⟩
            exact ⟨⟨rfl, rfl, rfl, rfl, rfl, rfl, trivial⟩, ⟨rfl, erow, trivial⟩⟩
    · have h0 : ¬ i % N = 0 := by have := df h; omega
      have ew : wst N raw i = wsf N raw i := by unfold wsf; rw [if_neg (fun e => h0 (hnil.1 e))]
      have ewst : (wst N raw i).eraseIdx (wat N raw i) = wst N raw (i + 1) := by
        have := wst_succ N raw i
        rw [← ew] at this
        exact this.symm
      rw [← ew] at ewho hat h64 hil hget eout
      refine ⟨fun h => ?_, fun h => ?_⟩
      · have h0 : 0 < raw.length := by have := dt h; omega
        have eti : (i : Int).tmod (n1 : Int) = ((i % raw.length : Nat) : Int) := by rw [Int.tmod_eq_emod_of_nonneg (by omega), hn1]; rfl
        have hml : i % raw.length < raw.length := Nat.mod_lt _ h0
        have hel := (ha.up hle).elem (wx_at (raw := raw) (i := i) h0)
        obtain ⟨ad, cs, e1, hh, r1⟩ := hel
        rw [int_open r1, ← eti] at hh
        refine ⟨by omega, ?_⟩
        refine ⟨ad, ⟨by omega, by omega, e1⟩, ?_⟩
        refine ⟨_, hh, ?_⟩
        refine who_spec (by omega) ?_
        rw [ewho]
        refine ⟨⟨by omega, by omega⟩, ?_⟩
        refine ⟨_, hget, ?_⟩
        refine ⟨⟨by show (((wout N raw i).map pickC).length + 1) * 16 ≤ _; omega, by show ((wout N raw i).map pickC).length + 1 ≤ _; omega⟩, ?_⟩
        refine ⟨Nat, fun t => ⟨[(0, .v (.int .i64 (N : Int))), (1, .v (.int .i64 long)), (2, .v (.slice a1 n1 c1)), (7, .own 0), (9, .v (.int .i64 i)), (12, .v (.int .i64 (wat N raw i : Int))), (13, .own 2), (60, .own 1), (61, .v (.int .i64 (((wst N raw i).map intC).length : Int))), (62, .v (.int .i64 t))], [(0, .row 41 2 ((wout N raw (i + 1)).map pickC)), (1, .row 3 1 ((wst N raw i).map intC)), (2, .row 3 1 ((((wst N raw i).take t).eraseIdx (wat N raw i)).map intC))], 3⟩, fun t H' => Le H H' ∧ t ≤ (wst N raw i).length, fun t => (wst N raw i).length - t, ⟨0, [(0, 3), (1, 1)], ?_, hle, by omega⟩, ?_⟩
        · have enil : (((wst N raw i).take 0).eraseIdx (wat N raw i)).map intC = [] := by simp
          refine ⟨⟨rfl, rfl, rfl, rfl, rfl, rfl, ?_, ?_⟩, ?_⟩
          · exact ⟨rfl, rfl, enil⟩
          · exact ⟨rfl, rfl, rfl, trivial⟩
          · exact ⟨eout, rfl, enil, trivial⟩
        rintro k4 H4 _ ⟨hle4, hk4⟩
        refine ⟨fun h => ?_, fun h => ?_⟩
        · have hkw : k4 < (wst N raw i).length := by have := dt h; omega
          have hst := era_step (wst N raw i) (k := k4) (at' := wat N raw i) hkw
          refine ⟨⟨by omega, by omega⟩, ?_⟩
          refine ⟨_, map_getD hkw, ?_⟩
          refine ⟨fun h => ?_, fun h => ?_⟩
          · have hne : ¬ k4 = wat N raw i := by have := nt h; omega
            rw [if_neg hne] at hst
            have erow : (((wst N raw i).take k4).eraseIdx (wat N raw i)).map intC ++ [[.int .i64 ((wst N raw i).getD k4 0)]] = (((wst N raw i).take (k4 + 1)).eraseIdx (wat N raw i)).map intC := by rw [hst, List.map_append]; rfl
            have hel : ((((wst N raw i).take k4).eraseIdx (wat N raw i)).map intC).length ≤ 64 := by
              rw [List.length_map]
              have := List.length_eraseIdx_le ((wst N raw i).take k4) (wat N raw i)
              rw [List.length_take] at this
              omega
            refine ⟨⟨by show (((((wst N raw i).take k4).eraseIdx (wat N raw i)).map intC).length + 1) * 8 ≤ _; omega, by show ((((wst N raw i).take k4).eraseIdx (wat N raw i)).map intC).length + 1 ≤ _; omega⟩, ?_⟩
            refine ⟨⟨by omega, by omega⟩, k4 + 1, [(0, 0), (1, 1), (2, 4)], ?_, ⟨hle4, by omega⟩, by dsimp only; omega⟩
            exact ⟨⟨rfl, rfl, rfl, rfl, rfl, rfl, rfl, rfl, rfl, rfl, trivial⟩, ⟨rfl, rfl, erow, trivial⟩⟩
          · have heq : k4 = wat N raw i := by have := nf h; omega
            rw [if_pos heq] at hst
            have erow : (((wst N raw i).take k4).eraseIdx (wat N raw i)).map intC = (((wst N raw i).take (k4 + 1)).eraseIdx (wat N raw i)).map intC := by rw [hst]
            refine ⟨⟨by omega, by omega⟩, k4 + 1, [(0, 0), (1, 1), (2, 2)], ?_, ⟨hle4, by omega⟩, by dsimp only; omega⟩
            exact ⟨⟨rfl, rfl, rfl, rfl, rfl, rfl, rfl, rfl, rfl, rfl, trivial⟩, ⟨rfl, rfl, erow, trivial⟩⟩
        · have hkw : k4 = (wst N raw i).length := by have := df h; omega
          have erow : (((wst N raw i).take k4).eraseIdx (wat N raw i)).map intC = (wst N raw (i + 1)).map intC := by rw [hkw, List.take_length, ewst]
          refine ⟨⟨by omega, by omega⟩, i + 1, [(0, 0), (1, 2)], ?_, ⟨hle4, by omega⟩, by dsimp only; omega⟩
          exact ⟨⟨rfl, rfl, rfl, rfl, rfl, rfl, trivial⟩, ⟨rfl, erow, trivial⟩⟩
      · have h0 : ¬ 0 < raw.length := by have := df h; omega
        have ex := wx_nil (raw := raw) (i := i) h0
        rw [ex] at ewho eout
        refine who_spec (by omega) ?_
        rw [ewho]
        refine ⟨⟨by omega, by omega⟩, ?_⟩
        refine ⟨_, hget, ?_⟩
        refine ⟨⟨by show (((wout N raw i).map pickC).length + 1) * 16 ≤ _; omega, by show ((wout N raw i).map pickC).length + 1 ≤ _; omega⟩, ?_⟩
        refine ⟨Nat, fun t => ⟨[(0, .v (.int .i64 (N : Int))), (1, .v (.int .i64 long)), (2, .v (.slice a1 n1 c1)), (7, .own 0), (9, .v (.int .i64 i)), (12, .v (.int .i64 (wat N raw i : Int))), (13, .own 2), (60, .own 1), (61, .v (.int .i64 (((wst N raw i).map intC).length : Int))), (62, .v (.int .i64 t))], [(0, .row 41 2 ((wout N raw (i + 1)).map pickC)), (1, .row 3 1 ((wst N raw i).map intC)), (2, .row 3 1 ((((wst N raw i).take t).eraseIdx (wat N raw i)).map intC))], 3⟩, fun t H' => Le H H' ∧ t ≤ (wst N raw i).length, fun t => (wst N raw i).length - t, ⟨0, [(0, 3), (1, 1)], ?_, hle, by omega⟩, ?_⟩
        · have enil : (((wst N raw i).take 0).eraseIdx (wat N raw i)).map intC = [] := by simp
          refine ⟨⟨rfl, rfl, rfl, rfl, rfl, rfl, ?_, ?_⟩, ?_⟩
          · exact ⟨rfl, rfl, enil⟩
          · exact ⟨rfl, rfl, rfl, trivial⟩
          · exact ⟨eout, rfl, enil, trivial⟩
        rintro k4 H4 _ ⟨hle4, hk4⟩
        refine ⟨fun h => ?_, fun h => ?_⟩
        · have hkw : k4 < (wst N raw i).length := by have := dt h; omega
          have hst := era_step (wst N raw i) (k := k4) (at' := wat N raw i) hkw
          refine ⟨⟨by omega, by omega⟩, ?_⟩
          refine ⟨_, map_getD hkw, ?_⟩
          refine ⟨fun h => ?_, fun h => ?_⟩
          · have hne : ¬ k4 = wat N raw i := by have := nt h; omega
            rw [if_neg hne] at hst
            have erow : (((wst N raw i).take k4).eraseIdx (wat N raw i)).map intC ++ [[.int .i64 ((wst N raw i).getD k4 0)]] = (((wst N raw i).take (k4 + 1)).eraseIdx (wat N raw i)).map intC := by rw [hst, List.map_append]; rfl
            have hel : ((((wst N raw i).take k4).eraseIdx (wat N raw i)).map intC).length ≤ 64 := by
              rw [List.length_map]
              have := List.length_eraseIdx_le ((wst N raw i).take k4) (wat N raw i)
              rw [List.length_take] at this
              omega
            refine ⟨⟨by show (((((wst N raw i).take k4).eraseIdx (wat N raw i)).map intC).length + 1) * 8 ≤ _; omega, by show ((((wst N raw i).take k4).eraseIdx (wat N raw i)).map intC).length + 1 ≤ _; omega⟩, ?_⟩
            refine ⟨⟨by omega, by omega⟩, k4 + 1, [(0, 0), (1, 1), (2, 4)], ?_, ⟨hle4, by omega⟩, by dsimp only; omega⟩
            exact ⟨⟨rfl, rfl, rfl, rfl, rfl, rfl, rfl, rfl, rfl, rfl, trivial⟩, ⟨rfl, rfl, erow, trivial⟩⟩
          · have heq : k4 = wat N raw i := by have := nf h; omega
            rw [if_pos heq] at hst
            have erow : (((wst N raw i).take k4).eraseIdx (wat N raw i)).map intC = (((wst N raw i).take (k4 + 1)).eraseIdx (wat N raw i)).map intC := by rw [hst]
            refine ⟨⟨by omega, by omega⟩, k4 + 1, [(0, 0), (1, 1), (2, 2)], ?_, ⟨hle4, by omega⟩, by dsimp only; omega⟩
            exact ⟨⟨rfl, rfl, rfl, rfl, rfl, rfl, rfl, rfl, rfl, rfl, trivial⟩, ⟨rfl, rfl, erow, trivial⟩⟩
        · have hkw : k4 = (wst N raw i).length := by have := df h; omega
          have erow : (((wst N raw i).take k4).eraseIdx (wat N raw i)).map intC = (wst N raw (i + 1)).map intC := by rw [hkw, List.take_length, ewst]
          refine ⟨⟨by omega, by omega⟩, i + 1, [(0, 0), (1, 2)], ?_, ⟨hle4, by omega⟩, by dsimp only; omega⟩
          exact ⟨⟨rfl, rfl, rfl, rfl, rfl, rfl, trivial⟩, ⟨rfl, erow, trivial⟩⟩
  · have him : i = long.toNat := by have := df h; omega
    intro x H2 hle2 hx
    have hrc := rc_picks (l := wout N raw i) (H := H2) (wout_range (by omega) hrr (by omega) i)
    obtain ⟨a, n2, c2, e, hr⟩ := RL.of_row (α := Pick) hx hrc
    rw [him] at hr
    have h9 := hK a n2 c2 H2 (hle.trans hle2) hr
    rw [← e] at h9
    exact h9
end Go.Proofs
