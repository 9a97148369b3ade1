/- Part 'Q1' of the proof: lemmas, each with its own conditions in its own statement. -/
import Derived.Test.YtjflpceoeofomaaSi2
import Derived.Test.YtjflpceoeofomaaP3
namespace Go.Proofs
open Go.Sy
set_option maxRecDepth 20000
def nodeI (m x : Int) : Bool := decide (0 ≤ x ∧ x < m)
def goesE (m x : Int) (e : Edg) : Bool := decide (e.1 = x) && nodeI m x && nodeI m e.2
def nxt (m x : Int) (l : List Edg) : List Int := (l.filter (goesE m x)).map (·.2)
theorem nxt_take {m x : Int} {l : List Edg} {i : Nat} (h : i < l.length) : nxt m x (l.take (i + 1)) = nxt m x (l.take i) ++ (if goesE m x l[i] then [l[i].2] else []) := by
  rw [nxt, nxt, List.take_add_one, List.getElem?_eq_getElem h, Option.toList_some, List.filter_append, List.map_append]
  congr 1
  by_cases hg : goesE m x l[i] = true
  · rw [List.filter_cons_of_pos hg, if_pos hg]; rfl
  · rw [List.filter_cons_of_neg hg, if_neg hg]; rfl
theorem nxt_len (m x : Int) (l : List Edg) : (nxt m x l).length ≤ l.length := by rw [nxt, List.length_map]; exact List.length_filter_le _ _
theorem nxt_mem {m x : Int} {l : List Edg} {y : Int} : y ∈ nxt m x l ↔ (x, y) ∈ l ∧ nodeI m x = true ∧ nodeI m y = true := by
  simp only [nxt, List.mem_map, List.mem_filter, goesE, Bool.and_eq_true, decide_eq_true_eq]
  constructor
  · rintro ⟨⟨a, b⟩, ⟨h1, ⟨rfl, h2⟩, h3⟩, rfl⟩; exact ⟨h1, h2, h3⟩
  · rintro ⟨h1, h2, h3⟩; exact ⟨(x, y), ⟨h1, ⟨rfl, h2⟩, h3⟩, rfl⟩
theorem nxt_in {m x : Int} {l : List Edg} (hl : ∀ e ∈ l, inI e.1 ∧ inI e.2) : ∀ y ∈ nxt m x l, inI y := fun _ hy => (hl _ (nxt_mem.1 hy).1).2
theorem next_spec {m x : Int} {l : List Edg} (hl : l.length ≤ 1000000) {a : Option Addr} {n c : Nat} {H : Hp} {K : Value → Hp → Prop} (ha : RL H a n c l)
    (hK : ∀ a1 n1 c1 H', Le H H' → RL H' a1 n1 c1 (gSort (nxt m x l)) → K (.slice a1 n1 c1) H') : Does Try.prog 39 [.int .i64 m, .slice a n c, .int .i64 x] H K := by
  have hn1 := ha.n_eq
  refine spec_of cx_ok cx_mix rfl Try.func39 Try.call39 Try.ntmps39 Try.results39 rfl rfl ?_
  refine ⟨Nat, fun i => ⟨[(0, .v (.int .i64 m)), (2, .v (.int .i64 x)), (7, .own 0), (10, .v (.slice a n c)), (11, .v (.int .i64 n)), (12, .v (.int .i64 i))], [(0, .row 3 1 (iRows (nxt m x (l.take i))))], 1⟩,
    fun i H' => H' = H ∧ i ≤ l.length, fun i => l.length - i, ⟨0, [], ?_, rfl, by omega⟩, ?_⟩
  · exact ⟨⟨rfl, rfl, ⟨rfl, rfl, rfl⟩, rfl, rfl, rfl, trivial⟩, ⟨rfl, trivial⟩⟩
  rintro i H1 _ ⟨rfl, hi⟩
  refine ⟨fun h => ?_, fun h => ?_⟩
  · have hlt : i < l.length := by have := dt h; omega
    obtain ⟨ad, cs, q1, hh, r1⟩ := ha.elem (List.getElem?_eq_getElem hlt)
    obtain ⟨rfl, hr1, hr2⟩ := edge_open r1
    have hst := nxt_take (m := m) (x := x) hlt
    have hlen := nxt_len m x (l.take i)
    rw [List.length_take, Nat.min_eq_left (by omega)] at hlen
    have hel : (iRows (nxt m x (l.take i))).length = (nxt m x (l.take i)).length := List.length_map _
    refine ⟨ad, ⟨by omega, by omega, q1⟩, ?_⟩
    refine ⟨_, hh, ?_⟩
    refine ⟨fun h => ?_, fun h => ?_⟩
    · have h1 : l[i].1 = x := dt h
      refine node_spec ?_
      refine ⟨fun h => ?_, fun h => ?_⟩
      · have h2 : nodeI m x = true := h
        refine node_spec ?_
        refine ⟨fun h => ?_, fun h => ?_⟩
        · have hg : goesE m x l[i] = true := by rw [goesE, decide_eq_true h1, h2]; exact h
          refine ⟨⟨by show ((iRows (nxt m x (l.take i))).length + 1) * 8 ≤ _; omega, by show (iRows (nxt m x (l.take i))).length + 1 ≤ _; omega⟩, ?_⟩
          have erow : iRows (nxt m x (l.take i)) ++ [[.int .i64 l[i].2]] = iRows (nxt m x (l.take (i + 1))) := by rw [hst, hg]; simp
          refine ⟨⟨by omega, by omega⟩, i + 1, [(0, 3)], ?_, ⟨rfl, by omega⟩, by dsimp only; omega⟩
          exact ⟨⟨rfl, rfl, rfl, rfl, rfl, rfl, trivial⟩, ⟨erow, trivial⟩⟩
        · have hg : goesE m x l[i] = false := by rw [goesE, h2]; simp [show nodeI m l[i].2 = false from h]
          have erow : iRows (nxt m x (l.take i)) = iRows (nxt m x (l.take (i + 1))) := by rw [hst, hg]; simp
          refine ⟨⟨by omega, by omega⟩, i + 1, [(0, 0)], ?_, ⟨rfl, by omega⟩, by dsimp only; omega⟩
          exact ⟨⟨rfl, rfl, rfl, rfl, rfl, rfl, trivial⟩, ⟨erow, trivial⟩⟩
      · have hg : goesE m x l[i] = false := by rw [goesE, show nodeI m x = false from h]; simp
        have erow : iRows (nxt m x (l.take i)) = iRows (nxt m x (l.take (i + 1))) := by rw [hst, hg]; simp
        refine ⟨⟨by omega, by omega⟩, i + 1, [(0, 0)], ?_, ⟨rfl, by omega⟩, by dsimp only; omega⟩
        exact ⟨⟨rfl, rfl, rfl, rfl, rfl, rfl, trivial⟩, ⟨erow, trivial⟩⟩
    · have h1 : ¬ l[i].1 = x := df h
      have hg : goesE m x l[i] = false := by rw [goesE, decide_eq_false h1]; rfl
      have erow : iRows (nxt m x (l.take i)) = iRows (nxt m x (l.take (i + 1))) := by rw [hst, hg]; simp
      refine ⟨⟨by omega, by omega⟩, i + 1, [(0, 0)], ?_, ⟨rfl, by omega⟩, by dsimp only; omega⟩
      exact ⟨⟨rfl, rfl, rfl, rfl, rfl, rfl, trivial⟩, ⟨erow, trivial⟩⟩
  · have hil : i = l.length := by have := df h; omega
    have hlen := nxt_len m x l
    have ei : iRows (nxt m x (l.take i)) = iRows (nxt m x l) := by rw [hil, List.take_length]
    rw [hil, List.take_length]
    refine ⟨[0], rfl, sortI_spec (by omega) fun l' hl' hp hg => ?_⟩
    refine ⟨[0], rfl, compI_spec (l := l') (by omega) ?_⟩
    intro y H2 hle hy
    rw [hg] at hy
    obtain ⟨a1, n1, c1, rfl, hr⟩ := rI_all hy (fun e he => nxt_in (RLe_all ha) e ((gSort_mem _ e).1 he))
    exact hK _ _ _ _ hle hr
end Go.Proofs
