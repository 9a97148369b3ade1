/- Part 'R1' of the proof: lemmas, each with its own conditions in its own statement. -/
import Derived.Test.YtjflpceoeofomaaQ6

namespace Go.Proofs
open Go.Sy
set_option maxRecDepth 20000
theorem room {n k : Nat} (h : n ≤ 1000000000000 := by omega) (hk : k ≤ 64 := by decide) : (n + 1) * k ≤ 140737488355328 ∧ n + 1 ≤ 9223372036854775807 := by
  have := Nat.mul_le_mul_left (n + 1) hk
  omega
theorem has_spec {l : List Edg} {x y : Int} {a : Option Addr} {n c : Nat} {H : Hp} {K : Value → Hp → Prop} (ha : RL H a n c l)
    (hK : K (.bool (decide ((x, y) ∈ l))) H) : Does Try.prog 84 [.slice a n c, .int .i64 x, .int .i64 y] H K := by
  have hn1 := ha.n_eq
  have hmx := ha.le
  refine spec_of cx_ok cx_mix rfl Try.func84 Try.call84 Try.ntmps84 Try.results84 rfl rfl ?_
  refine ⟨Nat, fun i => ⟨[(1, .v (.int .i64 x)), (2, .v (.int .i64 y)), (9, .v (.slice a n c)), (10, .v (.int .i64 n)), (11, .v (.int .i64 i))], [], 0⟩,
    fun i H' => H' = H ∧ i ≤ l.length ∧ ∀ e ∈ l.take i, e ≠ (x, y), fun i => l.length - i, ⟨0, [], ?_, rfl, by omega, by simp⟩, ?_⟩
  · exact ⟨⟨rfl, rfl, rfl, rfl, rfl, trivial⟩, trivial⟩
  rintro i H1 _ ⟨rfl, hi, hx⟩
  refine ⟨fun h => ?_, fun h => ?_⟩
  · have hlt : i < l.length := by have := dt h; omega
    obtain ⟨ad, cs, q1, hh, r1⟩ := ha.elem (List.getElem?_eq_getElem hlt)
    obtain ⟨rfl, -⟩ := edge_open r1
    have hno : l[i] ≠ (x, y) → ∀ e ∈ l.take (i + 1), e ≠ (x, y) := mem_take_succ (List.getElem?_eq_getElem hlt) hx
    refine ⟨ad, ⟨by omega, by omega, q1⟩, ?_⟩
    refine ⟨_, hh, ?_⟩
    refine ⟨fun h => ?_, fun h => ?_⟩
    · have h1 : l[i].1 = x := dt h
      refine ⟨fun h => ?_, fun h => ?_⟩
      · have h2 : l[i].2 = y := dt h
        refine kbool hK ?_
        have he : l[i] = (x, y) := Prod.ext h1 h2
        exact decide_eq_true (he ▸ List.getElem_mem hlt)
      · have h2 : ¬ l[i].2 = y := df h
        refine ⟨⟨by omega, by omega⟩, i + 1, [], ?_, ⟨rfl, by omega, hno fun e => h2 (by rw [e])⟩, by dsimp only; omega⟩
        exact ⟨⟨rfl, rfl, rfl, rfl, rfl, trivial⟩, trivial⟩
    · have h1 : ¬ l[i].1 = x := df h
      refine ⟨⟨by omega, by omega⟩, i + 1, [], ?_, ⟨rfl, by omega, hno fun e => h1 (by rw [e])⟩, by dsimp only; omega⟩
      exact ⟨⟨rfl, rfl, rfl, rfl, rfl, trivial⟩, trivial⟩
  · have hil : i = l.length := by have := df h; omega
    rw [hil, List.take_length] at hx
    refine kbool hK ?_
    exact decide_eq_false fun h => hx _ h rfl
theorem rright_spec {m : Int} {l : List Edg} {a : Option Addr} {n c : Nat} {H : Hp} {K : Value → Hp → Prop} (ha : RL H a n c l)
    (hK : K (.bool (rightE m l)) H) : Does Try.prog 29 [.int .i64 m, .slice a n c] H K := by
  have hn1 := ha.n_eq
  have hmx := ha.le
  refine spec_of cx_ok cx_mix rfl Try.func29 Try.call29 Try.ntmps29 Try.results29 rfl rfl ?_
  refine ⟨fun h => ?_, fun h => ?_⟩
  · have h1 : ¬ m < 1 := df h
    refine ⟨fun h => ?_, fun h => ?_⟩
    · have h2 : ¬ m > 256 := df h
      refine ⟨fun h => ?_, fun h => ?_⟩
      · have h3 : ¬ l.length ≤ 1024 := by have := dt h; omega
        refine kbool hK ?_
        rw [rightE, decide_eq_false h3]; simp
      · have h3 : l.length ≤ 1024 := by have := df h; omega
        have hK' : K (.bool (!decide (0 ≤ idxB (badE m) l 0))) H := by
          rw [rightE, decide_eq_true h3, decide_eq_true (by omega : 1 ≤ m), decide_eq_true (by omega : m ≤ 256)] at hK
          exact hK
        refine ⟨Nat, fun i => ⟨[(0, .v (.int .i64 m)), (18, .v (.slice a n c)), (19, .v (.int .i64 n)), (20, .v (.int .i64 i))], [], 0⟩,
          fun i H' => H' = H ∧ i ≤ l.length ∧ ∀ e ∈ l.take i, badE m e = false, fun i => l.length - i, ⟨0, [], ?_, rfl, by omega, by simp⟩, ?_⟩
        · exact ⟨⟨rfl, rfl, rfl, rfl, trivial⟩, trivial⟩
        rintro i H1 _ ⟨rfl, hi, hx⟩
        have hbad : ∀ h : i < l.length, badE m l[i] = true → K (.bool false) H1 := fun hlt hb => by
          have := (idxB_none (f := badE m) l 0 (by omega)).2 ⟨_, List.getElem_mem hlt, hb⟩
          rw [decide_eq_true this] at hK'
          exact hK'
        refine ⟨fun h => ?_, fun h => ?_⟩
        · have hlt : i < l.length := by have := dt h; omega
          obtain ⟨ad, cs, q1, hh, r1⟩ := ha.elem (List.getElem?_eq_getElem hlt)
          obtain ⟨rfl, -⟩ := edge_open r1
          have hb := hbad hlt
          have hno : badE m l[i] = false → ∀ e ∈ l.take (i + 1), badE m e = false := mem_take_succ (List.getElem?_eq_getElem hlt) hx
          refine ⟨ad, ⟨by omega, by omega, q1⟩, ?_⟩
          refine ⟨_, hh, ?_⟩
          refine ⟨fun h => ?_, fun h => ?_⟩
          · have k1 : ¬ l[i].1 < 0 := df h
            refine ⟨fun h => ?_, fun h => ?_⟩
            · have k2 : ¬ l[i].1 ≥ m := df h
              refine ⟨fun h => ?_, fun h => ?_⟩
              · have k3 : ¬ l[i].2 < 0 := df h
                refine ⟨fun h => ?_, fun h => ?_⟩
                · have k4 : l[i].2 ≥ m := dt h
                  exact hb (by simp [badE]; omega)
                · have k4 : ¬ l[i].2 ≥ m := df h
                  refine ⟨⟨by omega, by omega⟩, i + 1, [], ?_, ⟨rfl, by omega, hno (by simp [badE]; omega)⟩, by dsimp only; omega⟩
                  exact ⟨⟨rfl, rfl, rfl, rfl, trivial⟩, trivial⟩
              · have k3 : l[i].2 < 0 := dt h
                exact hb (by simp [badE]; omega)
            · have k2 : l[i].1 ≥ m := dt h
              exact hb (by simp [badE]; omega)
          · have k1 : l[i].1 < 0 := dt h
            exact hb (by simp [badE]; omega)
        · have hil : i = l.length := by have := df h; omega
          rw [hil, List.take_length] at hx
          have : ¬ 0 ≤ idxB (badE m) l 0 := fun h => by
            obtain ⟨e, he, hb⟩ := (idxB_none (f := badE m) l 0 (by omega)).1 h
            rw [hx e he] at hb; cases hb
          rw [decide_eq_false this] at hK'
          exact hK'
    · have h2 : ¬ m ≤ 256 := by have := dt h; omega
      refine kbool hK ?_
      rw [rightE, decide_eq_false h2]; simp
  · have h1 : ¬ 1 ≤ m := by have := dt h; omega
    refine kbool hK ?_
    rw [rightE, decide_eq_false h1]; simp
/-- The document's list of those that follow. -/
def rnxt (m x : Int) (l : List Edg) (k : Nat) : List Int := ((List.range k).filter fun (j : Nat) => decide ((x, (j : Int)) ∈ l)).map fun (j : Nat) => (j : Int)
theorem rnxt_snoc (m x : Int) (l : List Edg) (k : Nat) : rnxt m x l (k + 1) = rnxt m x l k ++ (if (x, (k : Int)) ∈ l then [(k : Int)] else []) := by
  rw [rnxt, rnxt, List.range_succ, List.filter_append, List.map_append]
  congr 1
  by_cases h : (x, (k : Int)) ∈ l
  · rw [if_pos h, List.filter_cons_of_pos (by exact decide_eq_true h)]; rfl
  · rw [if_neg h, List.filter_cons_of_neg (by rw [decide_eq_false h]; decide)]; rfl
theorem rnxt_len (m x : Int) (l : List Edg) (k : Nat) : (rnxt m x l k).length ≤ k := by
  rw [rnxt, List.length_map]
  have := List.length_filter_le (fun (j : Nat) => decide ((x, (j : Int)) ∈ l)) (List.range k)
  rwa [List.length_range] at this
theorem rnxt_eq {m x : Int} {l : List Edg} (hx : nodeI m x = true) : rnxt m x l m.toNat = gSort (nxt m x l) := by
  refine gSort_eq ?_ fun t => ?_
  · rw [rnxt, StrictL, List.pairwise_map]
    refine (List.Pairwise.filter _ List.pairwise_lt_range).imp fun {a b} h => ?_
    show (a : Int) < (b : Int)
    omega
  · rw [nxt_mem]
    simp only [rnxt, List.mem_map, List.mem_filter, List.mem_range, decide_eq_true_eq]
    constructor
    · rintro ⟨j, ⟨h1, h2⟩, rfl⟩
      exact ⟨h2, hx, decide_eq_true (by omega)⟩
    · rintro ⟨h1, _, h3⟩
      have := dt h3
      exact ⟨t.toNat, ⟨by omega, by rw [Int.toNat_of_nonneg (by omega)]; exact h1⟩, by omega⟩
theorem nxt_none {m x : Int} {l : List Edg} (hx : nodeI m x = false) : nxt m x l = [] := by
  rw [nxt, List.filter_eq_nil_iff.2 (fun e _ => by rw [goesE, hx]; simp)]; rfl
theorem rnext_spec {m x : Int} (hm : m ≤ 1000) {l : List Edg} {a : Option Addr} {n c : Nat} {H : Hp} {K : Value → Hp → Prop} (ha : RL H a n c l)
    (hK : ∀ a1 n1 c1 H', Le H H' → RL H' a1 n1 c1 (gSort (nxt m x l)) → K (.slice a1 n1 c1) H') : Does Try.prog 44 [.int .i64 m, .slice a n c, .int .i64 x] H K := by
  refine spec_of cx_ok cx_mix rfl Try.func44 Try.call44 Try.ntmps44 Try.results44 rfl rfl ?_
  refine ⟨Nat, fun i => ⟨[(0, .v (.int .i64 m)), (1, .v (.slice a n c)), (2, .v (.int .i64 x)), (7, .own 0), (8, .v (.int .i64 i))], [(0, .row 3 1 (iRows (if nodeI m x then rnxt m x l i else [])))], 1⟩,
    fun i H' => H' = H ∧ (0 < i → i ≤ m.toNat), fun i => m.toNat - i, ⟨0, [], ?_, rfl, by omega⟩, ?_⟩
  · have e0 : iRows (if nodeI m x then rnxt m x l 0 else []) = [] := by split <;> rfl
    exact ⟨⟨rfl, rfl, rfl, ⟨rfl, rfl, e0⟩, rfl, trivial⟩, ⟨e0, trivial⟩⟩
  rintro i H1 _ ⟨rfl, hi⟩
  have hlen : (iRows (if nodeI m x then rnxt m x l i else [])).length ≤ i := by
    rw [List.length_map]
    split
    · exact rnxt_len m x l i
    · exact Nat.zero_le _
  have hend : ∀ R : List Int, (if nodeI m x then rnxt m x l i else []) = R → (nodeI m x = true → i = m.toNat) → R = gSort (nxt m x l) := fun R hR hn => by
    subst hR
    split
    · rename_i h1
      rw [hn h1]; exact rnxt_eq h1
    · rename_i h1
      rw [nxt_none (by simpa using h1)]; rfl
  refine ⟨fun h => ?_, fun h => ?_⟩
  · have h1 : (i : Int) < m := dt h
    refine ⟨fun h => ?_, fun h => ?_⟩
    · have h2 : 0 ≤ x := dt h
      refine ⟨fun h => ?_, fun h => ?_⟩
      · have h3 : x < m := dt h
        have hx : nodeI m x = true := decide_eq_true ⟨h2, h3⟩
        rw [if_pos hx] at hlen
        have hs := rnxt_snoc m x l i
        refine has_spec ha ?_
        have hlen2 := hlen
        refine ⟨fun h => ?_, fun h => ?_⟩
        · have hin : (x, (i : Int)) ∈ l := dt h
          rw [if_pos hin] at hs
          have erow : iRows (if nodeI m x then rnxt m x l i else []) ++ [[.int .i64 (i : Int)]] = iRows (if nodeI m x then rnxt m x l (i + 1) else []) := by rw [if_pos hx, if_pos hx, hs]; simp
          rw [← if_pos (c := nodeI m x = true) (t := rnxt m x l i) (e := []) hx] at hlen
          refine ⟨room, ?_⟩
          refine ⟨⟨by omega, by omega⟩, i + 1, [(0, 2)], ?_, ⟨rfl, by omega⟩, by dsimp only; omega⟩
          (repeat' (first | exact trivial | refine ⟨?_, ?_⟩ | exact rfl | assumption))
        · have hin : ¬ (x, (i : Int)) ∈ l := df h
          rw [if_neg hin, List.append_nil] at hs
          have erow : iRows (if nodeI m x then rnxt m x l i else []) = iRows (if nodeI m x then rnxt m x l (i + 1) else []) := by rw [if_pos hx, if_pos hx, hs]
          refine ⟨⟨by omega, by omega⟩, i + 1, [(0, 0)], ?_, ⟨rfl, by omega⟩, by dsimp only; omega⟩
          exact ⟨⟨rfl, rfl, rfl, rfl, rfl, trivial⟩, ⟨erow, trivial⟩⟩
      · have h3 : ¬ x < m := df h
        intro y H2 hle2 hy
        have hin : ∀ z ∈ gSort (nxt m x l), inI z := fun z hz => nxt_in (RLe_all ha) z ((gSort_mem _ z).1 hz)
        rw [hend _ rfl (fun h => absurd (dt h).2 h3)] at hy
        obtain ⟨a1, n1, c1, rfl, hr⟩ := rI_all hy hin
        exact hK _ _ _ _ hle2 hr
    · have h2 : ¬ 0 ≤ x := df h
      intro y H2 hle2 hy
      have hin : ∀ z ∈ gSort (nxt m x l), inI z := fun z hz => nxt_in (RLe_all ha) z ((gSort_mem _ z).1 hz)
      rw [hend _ rfl (fun h => absurd (dt h).1 h2)] at hy
      obtain ⟨a1, n1, c1, rfl, hr⟩ := rI_all hy hin
      exact hK _ _ _ _ hle2 hr
  · have h1 : ¬ (i : Int) < m := df h
    intro y H2 hle2 hy
    have hin : ∀ z ∈ gSort (nxt m x l), inI z := fun z hz => nxt_in (RLe_all ha) z ((gSort_mem _ z).1 hz)
    rw [hend _ rfl (fun h => by have := dt h; omega)] at hy
    obtain ⟨a1, n1, c1, rfl, hr⟩ := rI_all hy hin
    exact hK _ _ _ _ hle2 hr
end Go.Proofs
