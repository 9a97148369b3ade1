/- Part 'Q2' of the proof: lemmas, each with its own conditions in its own statement. -/
import Derived.Test.YtjflpceoeofomaaQ1
namespace Go.Proofs
open Go.Sy
set_option maxRecDepth 20000
abbrev swp (e : Edg) : Edg := (e.2, e.1)
abbrev revL (l : List Edg) : List Edg := l.map swp
theorem revL_snoc (m : List Edg) (x : Edg) : revL (m ++ [x]) = revL m ++ [swp x] := List.map_append
theorem reverse_spec {l : List Edg} (hl : l.length ≤ 1000000) {a : Option Addr} {n c : Nat} {H : Hp} {K : Value → Hp → Prop} (ha : RL H a n c l)
    (hK : ∀ a1 n1 c1 H', Le H H' → RL H' a1 n1 c1 (gSort (revL l)) → K (.slice a1 n1 c1) H') : Does Try.prog 37 [.slice a n c] H K := by
  have hn1 := ha.n_eq
  refine spec_of cx_ok cx_mix rfl Try.func37 Try.call37 Try.ntmps37 Try.results37 rfl rfl ?_
  refine ⟨Nat, fun i => ⟨[(3, .own 0), (6, .v (.slice a n c)), (7, .v (.int .i64 n)), (8, .v (.int .i64 i))], [(0, .row 63 2 (eRows (revL (l.take i))))], 1⟩,
    fun i H' => H' = H ∧ i ≤ l.length, fun i => l.length - i, ⟨0, [], ?_, rfl, by omega⟩, ?_⟩
  · exact ⟨⟨⟨rfl, rfl, rfl⟩, rfl, rfl, rfl, trivial⟩, ⟨rfl, trivial⟩⟩
  rintro i H1 _ ⟨rfl, hi⟩
  refine ⟨fun h => ?_, fun h => ?_⟩
  · have hlt : i < l.length := by have := dt h; omega
    obtain ⟨ad, cs, q1, hh, r1⟩ := ha.elem (List.getElem?_eq_getElem hlt)
    obtain ⟨rfl, hr1, hr2⟩ := edge_open r1
    have hel : (eRows (revL (l.take i))).length = i := by rw [List.length_map, List.length_map, List.length_take]; omega
    refine ⟨ad, ⟨by omega, by omega, q1⟩, ?_⟩
    refine ⟨_, hh, ?_⟩
    refine ⟨⟨by show ((eRows (revL (l.take i))).length + 1) * 16 ≤ _; omega, by show (eRows (revL (l.take i))).length + 1 ≤ _; omega⟩, ?_⟩
    have erow : eRows (revL (l.take i)) ++ [[.int .i64 l[i].2, .int .i64 l[i].1]] = eRows (revL (l.take (i + 1))) := by rw [List.take_add_one, List.getElem?_eq_getElem hlt, Option.toList_some, revL_snoc]; exact eRows_snoc (revL (l.take i)) (swp l[i])
    refine ⟨⟨by omega, by omega⟩, i + 1, [(0, 3)], ?_, ⟨rfl, by omega⟩, by dsimp only; omega⟩
    exact ⟨⟨rfl, rfl, rfl, rfl, trivial⟩, ⟨erow, trivial⟩⟩
  · have hil : i = l.length := by have := df h; omega
    intro x H2 hle2 hx
    rw [hil, List.take_length] at hx
    obtain ⟨a1, n1, c1, rfl, hr⟩ := rE_all hx (fun e he => by
      obtain ⟨e', he', rfl⟩ := List.mem_map.1 he
      exact ⟨(RLe_all ha e' he').2, (RLe_all ha e' he').1⟩)
    refine sorted_spec (by rw [List.length_map]; omega) hr ?_
    intro a3 n3 c3 H3 hle3 hr3
    exact hK _ _ _ _ (hle2.trans hle3) hr3
theorem rreverse_spec {l : List Edg} (hl : l.length ≤ 1000000) {a : Option Addr} {n c : Nat} {H : Hp} {K : Value → Hp → Prop} (ha : RL H a n c l)
    (hK : ∀ a1 n1 c1 H', Le H H' → RL H' a1 n1 c1 (gSort (revL l)) → K (.slice a1 n1 c1) H') : Does Try.prog 41 [.slice a n c] H K := by
  have hn1 := ha.n_eq
  refine spec_of cx_ok cx_mix rfl Try.func41 Try.call41 Try.ntmps41 Try.results41 rfl rfl ?_
  refine ⟨Nat, fun i => ⟨[(3, .own 0), (6, .v (.slice a n c)), (7, .v (.int .i64 n)), (8, .v (.int .i64 i))], [(0, .row 63 2 (eRows (revL (l.take i))))], 1⟩,
    fun i H' => H' = H ∧ i ≤ l.length, fun i => l.length - i, ⟨0, [], ?_, rfl, by omega⟩, ?_⟩
  · exact ⟨⟨⟨rfl, rfl, rfl⟩, rfl, rfl, rfl, trivial⟩, ⟨rfl, trivial⟩⟩
  rintro i H1 _ ⟨rfl, hi⟩
  refine ⟨fun h => ?_, fun h => ?_⟩
  · have hlt : i < l.length := by have := dt h; omega
    obtain ⟨ad, cs, q1, hh, r1⟩ := ha.elem (List.getElem?_eq_getElem hlt)
    obtain ⟨rfl, hr1, hr2⟩ := edge_open r1
    have hel : (eRows (revL (l.take i))).length = i := by rw [List.length_map, List.length_map, List.length_take]; omega
    refine ⟨ad, ⟨by omega, by omega, q1⟩, ?_⟩
    refine ⟨_, hh, ?_⟩
    refine ⟨⟨by show ((eRows (revL (l.take i))).length + 1) * 16 ≤ _; omega, by show (eRows (revL (l.take i))).length + 1 ≤ _; omega⟩, ?_⟩
    have erow : eRows (revL (l.take i)) ++ [[.int .i64 l[i].2, .int .i64 l[i].1]] = eRows (revL (l.take (i + 1))) := by rw [List.take_add_one, List.getElem?_eq_getElem hlt, Option.toList_some, revL_snoc]; exact eRows_snoc (revL (l.take i)) (swp l[i])
    refine ⟨⟨by omega, by omega⟩, i + 1, [(0, 3)], ?_, ⟨rfl, by omega⟩, by dsimp only; omega⟩
    exact ⟨⟨rfl, rfl, rfl, rfl, trivial⟩, ⟨erow, trivial⟩⟩
  · have hil : i = l.length := by have := df h; omega
    intro x H2 hle2 hx
    rw [hil, List.take_length] at hx
    obtain ⟨a1, n1, c1, rfl, hr⟩ := rE_all hx (fun e he => by
      obtain ⟨e', he', rfl⟩ := List.mem_map.1 he
      exact ⟨(RLe_all ha e' he').2, (RLe_all ha e' he').1⟩)
    refine refSorted_spec (by rw [List.length_map]; omega) hr ?_
    intro a3 n3 c3 H3 hle3 hr3
    exact hK _ _ _ _ (hle2.trans hle3) hr3
theorem back_spec {m x : Int} {l : List Edg} (hl : l.length ≤ 1000000) {a : Option Addr} {n c : Nat} {H : Hp} {K : Value → Hp → Prop} (ha : RL H a n c l)
    (hK : ∀ a1 n1 c1 H', Le H H' → RL H' a1 n1 c1 (gSort (nxt m x (gSort (revL l)))) → K (.slice a1 n1 c1) H') : Does Try.prog 45 [.int .i64 m, .slice a n c, .int .i64 x] H K := by
  refine spec_of cx_ok cx_mix rfl Try.func45 Try.call45 Try.ntmps45 Try.results45 rfl rfl ?_
  refine reverse_spec hl ha fun a1 n1 c1 H1 hle1 hr1 => ?_
  have hlen := gSort_len (revL l)
  rw [List.length_map] at hlen
  refine next_spec (by omega) hr1 fun a2 n2 c2 H2 hle2 hr2 => ?_
  exact hK _ _ _ _ (hle1.trans hle2) hr2
theorem few_spec {m : Int} {l : List Edg} {a : Option Addr} {n c : Nat} {H : Hp} {K : Value → Hp → Prop} (ha : RL H a n c l)
    (hK : ∀ b, (b = true → m ≤ 40 ∧ l.length ≤ 80) → K (.bool b) H) : Does Try.prog 35 [.int .i64 m, .slice a n c] H K := by
  have hn1 := ha.n_eq
  refine spec_of cx_ok cx_mix rfl Try.func35 Try.call35 Try.ntmps35 Try.results35 rfl rfl ?_
  refine ⟨fun h => ?_, fun h => ?_⟩
  · have h1 : m ≤ 40 := dt h
    exact hK _ fun h2 => ⟨h1, by have := dt h2; omega⟩
  · exact hK _ fun h2 => by first | (rw [h] at h2; cases h2) | cases h2
theorem in_spec {l : List Int} {x : Int} {a : Option Addr} {n c : Nat} {H : Hp} {K : Value → Hp → Prop} (ha : RL H a n c l)
    (hK : K (.bool (decide (x ∈ l))) H) : Does Try.prog 40 [.slice a n c, .int .i64 x] H K := by
  have hn1 := ha.n_eq
  have hmx := ha.le
  refine spec_of cx_ok cx_mix rfl Try.func40 Try.call40 Try.ntmps40 Try.results40 rfl rfl ?_
  refine ⟨Nat, fun i => ⟨[(1, .v (.int .i64 x)), (7, .v (.slice a n c)), (8, .v (.int .i64 n)), (9, .v (.int .i64 i))], [], 0⟩,
    fun i H' => H' = H ∧ i ≤ l.length ∧ ∀ y ∈ l.take i, y ≠ x, fun i => l.length - i, ⟨0, [], ?_, rfl, by omega, by simp⟩, ?_⟩
  · exact ⟨⟨rfl, rfl, rfl, rfl, trivial⟩, trivial⟩
  rintro i H1 _ ⟨rfl, hi, hx⟩
  refine ⟨fun h => ?_, fun h => ?_⟩
  · have hlt : i < l.length := by have := dt h; omega
    obtain ⟨ad, cs, q1, hh, r1⟩ := ha.elem (List.getElem?_eq_getElem hlt)
    obtain ⟨rfl, -⟩ := r1
    refine ⟨ad, ⟨by omega, by omega, q1⟩, ?_⟩
    refine ⟨_, hh, ?_⟩
    refine ⟨fun h => ?_, fun h => ?_⟩
    · have he : l[i] = x := dt h
      refine kbool hK ?_
      exact decide_eq_true (he ▸ List.getElem_mem hlt)
    · have he : ¬ l[i] = x := df h
      refine ⟨⟨by omega, by omega⟩, i + 1, [], ?_, ⟨rfl, by omega, mem_take_succ (List.getElem?_eq_getElem hlt) hx he⟩, by dsimp only; omega⟩
      exact ⟨⟨rfl, rfl, rfl, rfl, trivial⟩, trivial⟩
  · have hil : i = l.length := by have := df h; omega
    rw [hil, List.take_length] at hx
    refine kbool hK ?_
    exact decide_eq_false fun h => hx x h rfl
end Go.Proofs
