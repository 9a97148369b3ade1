/- Part 'P5' of the proof: lemmas, each with its own conditions in its own statement. -/
import Derived.Test.YtjflpceoeofomaaP4
namespace Go.Proofs
open Go.Sy
set_option maxRecDepth 20000
/-- What the k-th of a block's two names gives. -/
def eK (p : Prog) (i : Nat) (b : Block) : Nat → List Edg
  | 0 => if b.2.2.1 = 1 ∨ b.2.2.1 = 2 then eN p i b.2.2.2.2.1.l else []
  | 1 => if b.2.2.1 = 2 then eN p i b.2.2.2.2.2.l else []
  | _ => []
theorem edges_spec {p : Prog} (hp : p.length ≤ 12) {a : Option Addr} {n c : Nat} {H : Hp} {K : Value → Hp → Prop} (ha : RL H a n c p)
   (hK : ∀ a1 n1 c1 H', Le H H' → RL H' a1 n1 c1 (gSort (edgesOf p)) → K (.slice a1 n1 c1) H') : Does Try.prog 18 [.agg #[.slice a n c]] H K := by
  have hn1 := ha.n_eq
  have hmx := ha.le
  refine spec_of cx_ok cx_mix rfl Try.func18 Try.call18 Try.ntmps18 Try.results18 rfl rfl ?_
  refine ⟨Nat, fun i => ⟨[(1, .ptr 0 0), (3, .own 1), (12, .v (.slice a n c)), (13, .v (.int .i64 n)), (14, .v (.int .i64 i))], [(0, .cells 24 [.v (.slice a n c)]), (1, .row 63 2 (eRows (eAll p (p.take i) 0)))], 2⟩,
    fun i H' => H' = H ∧ i ≤ p.length, fun i => p.length - i, ⟨0, [(0, 0)], ?_, rfl, by omega⟩, ?_⟩
  · exact ⟨⟨⟨rfl, rfl⟩, ⟨rfl, rfl, rfl⟩, rfl, rfl, rfl, trivial⟩, ⟨⟨rfl, trivial⟩, rfl, trivial⟩⟩
  rintro i H1 _ ⟨rfl, hi⟩
  refine ⟨fun h => ?_, fun h => ?_⟩
  · have hlt : i < p.length := by have := dt h; omega
    obtain ⟨ad, cs, q1, hh, r1⟩ := ha.elem (List.getElem?_eq_getElem hlt)
    obtain ⟨a2, n2, c2, rfl, hr2, hnm, htm⟩ := block_open r1
    have hst := eAll_take hlt
    have hlen := eAll_len p (p.take i) 0
    rw [List.length_take, Nat.min_eq_left (by omega)] at hlen
    obtain ⟨b, hb⟩ : ∃ b, b = p[i] := ⟨_, rfl⟩
    rw [← hb] at hh hst
    refine ⟨ad, ⟨by omega, by omega, q1⟩, ?_⟩
    refine ⟨_, hh, ?_⟩
    obtain ⟨R, hR⟩ : ∃ R : Nat → List Edg, ∀ k, R k = eAll p (p.take i) 0 ++ ((if 0 < k then eK p i b 0 else []) ++ (if 1 < k then eK p i b 1 else [])) := ⟨_, fun _ => rfl⟩
    refine ⟨Nat, fun k => ⟨[(1, .ptr 0 0), (3, .own 1), (4, .v (.int .i64 i)), (5, .ptr 2 0), (12, .v (.slice a n c)), (13, .v (.int .i64 n)), (14, .v (.int .i64 i)), (25, .agg [.v (.string (bs b.2.2.2.2.1.l)), .v (.string (bs b.2.2.2.2.2.l))]), (26, .v (.int .i64 k))], [(0, .cells 24 [.v (.slice a n c)]), (1, .row 63 2 (eRows (R k))), (2, .cells 36 (cBlk b a2 n2 c2))], 3⟩,
      fun k H' => H' = H1 ∧ k ≤ 2, fun k => 2 - k, ⟨0, [(0, 0), (1, 1), (2, 2)], ?_, rfl, by omega⟩, ?_⟩
    · have e1 : eRows (eAll p (p.take i) 0) = eRows (R 0) := by rw [hR]; simp
      exact ⟨⟨⟨rfl, rfl⟩, rfl, rfl, ⟨rfl, rfl⟩, rfl, rfl, rfl, ⟨rfl, rfl⟩, rfl, trivial⟩, ⟨⟨rfl, trivial⟩, e1, ⟨rfl, rfl, rfl, rfl, rfl, rfl, rfl, rfl, trivial⟩, trivial⟩⟩
    rintro k H2 _ ⟨rfl, hk⟩
    refine ⟨fun h => ?_, fun h => ?_⟩
    · have hk2 : k < 2 := by have := dt h; omega
      obtain ⟨t, ht⟩ : ∃ t : Bs8, t = if k = 0 then b.2.2.2.2.1.l else b.2.2.2.2.2.l := ⟨_, rfl⟩
      have hgt : ([SV.v (.string (bs b.2.2.2.2.1.l)), .v (.string (bs b.2.2.2.2.2.l))] : List SV)[((k : Int)).toNat]? = some (.v (.string (bs t))) := by
        rw [Int.toNat_natCast, ht]
        match k, hk2 with
        | 0, _ => rfl
        | 1, _ => rfl
      refine ⟨.v (.string (bs t)), ⟨by omega, by omega, hgt⟩, ?_⟩
      have hRs : R (k + 1) = R k ++ eK p i b k := by
        rw [hR, hR]
        match k, hk2 with
        | 0, _ => simp
        | 1, _ => simp
      have hRl : (eRows (R k)).length ≤ 2 * i + 2 := by
        have e0 := eN_len p i b.2.2.2.2.1.l
        have e1 := eN_len p i b.2.2.2.2.2.l
        rw [List.length_map, hR, List.length_append, List.length_append]
        match k, hk2 with
        | 0, _ => simp; omega
        | 1, _ =>
          simp only [eK]
          split <;> split <;> simp <;> omega
      refine ⟨fun h => ?_, fun h => ?_⟩
      · have h2 : ¬ b.2.2.1 = 2 := df h
        refine ⟨fun h => ?_, fun h => ?_⟩
        · have h1 : b.2.2.1 = 1 := dt h
          refine block_spec hp ha fun _ _ => ?_
          refine ⟨fun h => ?_, fun h => ?_⟩
          · have hk0 : k = 0 := by have := dt h; omega
            rw [if_pos hk0] at ht
            have hek : eK p i b k = eN p i t := by rw [hk0, eK, if_pos (.inl h1), ht]
            refine ⟨fun h => ?_, fun h => ?_⟩
            · have hx : 0 ≤ idxS t (nms p) 0 := dt h
              have he : eK p i b k = [((i : Int), max (idxS t (nms p) 0) 0)] := by rw [hek, eN, if_pos hx, Int.max_eq_left hx]
              refine ⟨⟨by show ((eRows (R k)).length + 1) * 16 ≤ _; omega, by show (eRows (R k)).length + 1 ≤ _; omega⟩, ?_⟩
              have erow : eRows (R k) ++ [[.int .i64 (i : Int), .int .i64 (max (idxS t (nms p) 0) 0)]] = eRows (R (k + 1)) := by rw [hRs, he]; simp
              refine ⟨⟨by omega, by omega⟩, k + 1, [(0, 0), (1, 4), (2, 2)], ?_, ⟨rfl, by omega⟩, by dsimp only; omega⟩
              exact ⟨⟨⟨rfl, rfl⟩, rfl, rfl, ⟨rfl, rfl⟩, rfl, rfl, rfl, ⟨rfl, rfl⟩, rfl, trivial⟩, ⟨⟨rfl, trivial⟩, erow, ⟨rfl, rfl, rfl, rfl, rfl, rfl, rfl, rfl, trivial⟩, trivial⟩⟩
            · have hx : ¬ 0 ≤ idxS t (nms p) 0 := df h
              have he : eK p i b k = [] := by rw [hek, eN, if_neg hx]
              have erow : eRows (R k) = eRows (R (k + 1)) := by rw [hRs, he, List.append_nil]
              refine ⟨⟨by omega, by omega⟩, k + 1, [(0, 0), (1, 1), (2, 2)], ?_, ⟨rfl, by omega⟩, by dsimp only; omega⟩
              exact ⟨⟨⟨rfl, rfl⟩, rfl, rfl, ⟨rfl, rfl⟩, rfl, rfl, rfl, ⟨rfl, rfl⟩, rfl, trivial⟩, ⟨⟨rfl, trivial⟩, erow, ⟨rfl, rfl, rfl, rfl, rfl, rfl, rfl, rfl, trivial⟩, trivial⟩⟩
          · have hk1 : k = 1 := by have := df h; omega
            have he : eK p i b k = [] := by rw [hk1]; exact if_neg h2
            have erow : eRows (R k) = eRows (R (k + 1)) := by rw [hRs, he, List.append_nil]
            refine ⟨⟨by omega, by omega⟩, k + 1, [(0, 0), (1, 1), (2, 2)], ?_, ⟨rfl, by omega⟩, by dsimp only; omega⟩
            exact ⟨⟨⟨rfl, rfl⟩, rfl, rfl, ⟨rfl, rfl⟩, rfl, rfl, rfl, ⟨rfl, rfl⟩, rfl, trivial⟩, ⟨⟨rfl, trivial⟩, erow, ⟨rfl, rfl, rfl, rfl, rfl, rfl, rfl, rfl, trivial⟩, trivial⟩⟩
        · have h1 : ¬ b.2.2.1 = 1 := df h
          refine block_spec hp ha fun _ _ => ?_
          have he : eK p i b k = [] := by
                      match k, hk2 with
                      | 0, _ => exact if_neg (fun h => h.elim h1 h2)
                      | 1, _ => exact if_neg h2
          have erow : eRows (R k) = eRows (R (k + 1)) := by rw [hRs, he, List.append_nil]
          refine ⟨⟨by omega, by omega⟩, k + 1, [(0, 0), (1, 1), (2, 2)], ?_, ⟨rfl, by omega⟩, by dsimp only; omega⟩
          exact ⟨⟨⟨rfl, rfl⟩, rfl, rfl, ⟨rfl, rfl⟩, rfl, rfl, rfl, ⟨rfl, rfl⟩, rfl, trivial⟩, ⟨⟨rfl, trivial⟩, erow, ⟨rfl, rfl, rfl, rfl, rfl, rfl, rfl, rfl, trivial⟩, trivial⟩⟩
      · have h2 : b.2.2.1 = 2 := dt h
        have hek : eK p i b k = eN p i t := by
          match k, hk2, ht with
          | 0, _, ht => rw [ht, eK, if_pos (.inr h2)]; rfl
          | 1, _, ht => rw [ht, eK, if_pos h2]; rfl
        refine block_spec hp ha fun _ _ => ?_
        refine ⟨fun h => ?_, fun h => ?_⟩
        · have hx : 0 ≤ idxS t (nms p) 0 := dt h
          have he : eK p i b k = [((i : Int), max (idxS t (nms p) 0) 0)] := by rw [hek, eN, if_pos hx, Int.max_eq_left hx]
          refine ⟨⟨by show ((eRows (R k)).length + 1) * 16 ≤ _; omega, by show (eRows (R k)).length + 1 ≤ _; omega⟩, ?_⟩
          have erow : eRows (R k) ++ [[.int .i64 (i : Int), .int .i64 (max (idxS t (nms p) 0) 0)]] = eRows (R (k + 1)) := by rw [hRs, he]; simp
          refine ⟨⟨by omega, by omega⟩, k + 1, [(0, 0), (1, 4), (2, 2)], ?_, ⟨rfl, by omega⟩, by dsimp only; omega⟩
          exact ⟨⟨⟨rfl, rfl⟩, rfl, rfl, ⟨rfl, rfl⟩, rfl, rfl, rfl, ⟨rfl, rfl⟩, rfl, trivial⟩, ⟨⟨rfl, trivial⟩, erow, ⟨rfl, rfl, rfl, rfl, rfl, rfl, rfl, rfl, trivial⟩, trivial⟩⟩
        · have hx : ¬ 0 ≤ idxS t (nms p) 0 := df h
          have he : eK p i b k = [] := by rw [hek, eN, if_neg hx]
          have erow : eRows (R k) = eRows (R (k + 1)) := by rw [hRs, he, List.append_nil]
          refine ⟨⟨by omega, by omega⟩, k + 1, [(0, 0), (1, 1), (2, 2)], ?_, ⟨rfl, by omega⟩, by dsimp only; omega⟩
          exact ⟨⟨⟨rfl, rfl⟩, rfl, rfl, ⟨rfl, rfl⟩, rfl, rfl, rfl, ⟨rfl, rfl⟩, rfl, trivial⟩, ⟨⟨rfl, trivial⟩, erow, ⟨rfl, rfl, rfl, rfl, rfl, rfl, rfl, rfl, trivial⟩, trivial⟩⟩
    · have hk2 : k = 2 := by have := df h; omega
      have e1 : eRows (R k) = eRows (eAll p (p.take (i + 1)) 0) := by rw [hR, hst, hk2]; rfl
      refine ⟨⟨by omega, by omega⟩, i + 1, [(0, 0), (1, 1)], ?_, ⟨rfl, by omega⟩, by dsimp only; omega⟩
      exact ⟨⟨⟨rfl, rfl⟩, rfl, rfl, rfl, rfl, trivial⟩, ⟨⟨rfl, trivial⟩, e1, trivial⟩⟩
  · have hil : i = p.length := by have := df h; omega
    intro x H2 hle2 hx
    rw [hil, List.take_length] at hx
    obtain ⟨a1, n1, c1, rfl, hr⟩ := rE_all hx (eAll_in hp p 0 (by omega))
    refine sorted_spec (by have := eAll_len p p 0; omega) hr ?_
    intro a3 n3 c3 H3 hle3 hr3
    exact hK _ _ _ _ (hle2.trans hle3) hr3
end Go.Proofs
