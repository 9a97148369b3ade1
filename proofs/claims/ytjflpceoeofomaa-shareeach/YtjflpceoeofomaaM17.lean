/- Part 'M17' of the proof (Q1, Q2, Q3, Q4, Q5, Q6, R1, R2, R3, R4, O1, O2, O3, O4, O5, O6, T1): lemmas, each with its own conditions in its own statement. -/
import Derived.Test.YtjflpceoeofomaaM13
import Derived.Test.YtjflpceoeofomaaM16
section
namespace Go.Proofs
open Go.Sy
set_option maxRecDepth 20000
def nodeI (m x : Int) : Bool := decide (0 ≤ x ∧ x < m)
def goesE (m x : Int) (e : Edg) : Bool := decide (e.1 = x) && nodeI m x && nodeI m e.2
def nxt (m x : Int) (l : List Edg) : List Int := (l.filter (goesE m x)).map (·.2)
theorem nxt_take {m x : Int} {l : List Edg} {i : Nat} (h : i < l.length) : nxt m x (l.take (i + 1)) = nxt m x (l.take i) ++ (if goesE m x l[i] then [l[i].2] else []) := by
  rw [nxt, nxt, List.take_add_one, List.getElem?_eq_getElem h, Option.toList_some, List.filter_append, List.map_append]
  congr 1
  by_cases hg : goesE m x l[i] = true
  · rw [List.filter_cons_of_pos hg, if_pos hg]; rfl
  · rw [List.filter_cons_of_neg hg, if_neg hg]; rfl
theorem nxt_len (m x : Int) (l : List Edg) : (nxt m x l).length ≤ l.length := by rw [nxt, List.length_map]; exact List.length_filter_le _ _
theorem nxt_mem {m x : Int} {l : List Edg} {y : Int} : y ∈ nxt m x l ↔ (x, y) ∈ l ∧ nodeI m x = true ∧ nodeI m y = true := by
  simp only [nxt, List.mem_map, List.mem_filter, goesE, Bool.and_eq_true, decide_eq_true_eq]
  constructor
  · rintro ⟨⟨a, b⟩, ⟨h1, ⟨rfl, h2⟩, h3⟩, rfl⟩; exact ⟨h1, h2, h3⟩
  · rintro ⟨h1, h2, h3⟩; exact ⟨(x, y), ⟨h1, ⟨rfl, h2⟩, h3⟩, rfl⟩
theorem nxt_in {m x : Int} {l : List Edg} (hl : ∀ e ∈ l, inI e.1 ∧ inI e.2) : ∀ y ∈ nxt m x l, inI y := fun _ hy => (hl _ (nxt_mem.1 hy).1).2
theorem next_spec {m x : Int} {l : List Edg} (hl : l.length ≤ 1000000) {a : Option Addr} {n c : Nat} {H : Hp} {K : Value → Hp → Prop} (ha : RL H a n c l)
    (hK : ∀ a1 n1 c1 H', Le H H' → RL H' a1 n1 c1 (gSort (nxt m x l)) → K (.slice a1 n1 c1) H') : Does Try.prog 39 [.int .i64 m, .slice a n c, .int .i64 x] H K := by
  have hn1 := ha.n_eq
  refine spec_of cx_ok cx_mix rfl Try.func39 Try.call39 Try.ntmps39 Try.results39 rfl rfl ?_
  refine ⟨Nat, fun i => ⟨[(0, .v (.int .i64 m)), (2, .v (.int .i64 x)), (7, .own 0), (10, .v (.slice a n c)), (11, .v (.int .i64 n)), (12, .v (.int .i64 i))], [(0, .row 3 1 (iRows (nxt m x (l.take i))))], 1⟩,
    fun i H' => H' = H ∧ i ≤ l.length, fun i => l.length - i, ⟨0, [], ?_, rfl, by omega⟩, ?_⟩
  · exact ⟨⟨rfl, rfl, ⟨rfl, rfl, rfl⟩, rfl, rfl, rfl, trivial⟩, ⟨rfl, trivial⟩⟩
  rintro i H1 _ ⟨rfl, hi⟩
  refine ⟨fun h => ?_, fun h => ?_⟩
  · have hlt : i < l.length := by have := dt h; omega
    obtain ⟨ad, cs, q1, hh, r1⟩ := ha.elem (List.getElem?_eq_getElem hlt)
    obtain ⟨rfl, hr1, hr2⟩ := edge_open r1
    have hst := nxt_take (m := m) (x := x) hlt
    have hlen := nxt_len m x (l.take i)
    rw [List.length_take, Nat.min_eq_left (by omega)] at hlen
    have hel : (iRows (nxt m x (l.take i))).length = (nxt m x (l.take i)).length := List.length_map _
    refine ⟨ad, ⟨by omega, by omega, q1⟩, ?_⟩
    refine ⟨_, hh, ?_⟩
    refine ⟨fun h => ?_, fun h => ?_⟩
    · have h1 : l[i].1 = x := dt h
      refine node_spec ?_
      refine ⟨fun h => ?_, fun h => ?_⟩
      · have h2 : nodeI m x = true := h
        refine node_spec ?_
        refine ⟨fun h => ?_, fun h => ?_⟩
        · have hg : goesE m x l[i] = true := by rw [goesE, decide_eq_true h1, h2]; exact h
          refine ⟨⟨by show ((iRows (nxt m x (l.take i))).length + 1) * 8 ≤ _; omega, by show (iRows (nxt m x (l.take i))).length + 1 ≤ _; omega⟩, ?_⟩
          have erow : iRows (nxt m x (l.take i)) ++ [[.int .i64 l[i].2]] = iRows (nxt m x (l.take (i + 1))) := by rw [hst, hg]; simp
          refine ⟨⟨by omega, by omega⟩, i + 1, [(0, 3)], ?_, ⟨rfl, by omega⟩, by dsimp only; omega⟩
          exact ⟨⟨rfl, rfl, rfl, rfl, rfl, rfl, trivial⟩, ⟨erow, trivial⟩⟩
        · have hg : goesE m x l[i] = false := by rw [goesE, h2]; simp [show nodeI m l[i].2 = false from h]
          have erow : iRows (nxt m x (l.take i)) = iRows (nxt m x (l.take (i + 1))) := by rw [hst, hg]; simp
          refine ⟨⟨by omega, by omega⟩, i + 1, [(0, 0)], ?_, ⟨rfl, by omega⟩, by dsimp only; omega⟩
          exact ⟨⟨rfl, rfl, rfl, rfl, rfl, rfl, trivial⟩, ⟨erow, trivial⟩⟩
      · have hg : goesE m x l[i] = false := by rw [goesE, show nodeI m x = false from h]; simp
        have erow : iRows (nxt m x (l.take i)) = iRows (nxt m x (l.take (i + 1))) := by rw [hst, hg]; simp
        refine ⟨⟨by omega, by omega⟩, i + 1, [(0, 0)], ?_, ⟨rfl, by omega⟩, by dsimp only; omega⟩
        exact ⟨⟨rfl, rfl, rfl, rfl, rfl, rfl, trivial⟩, ⟨erow, trivial⟩⟩
    · have h1 : ¬ l[i].1 = x := df h
      have hg : goesE m x l[i] = false := by rw [goesE, decide_eq_false h1]; rfl
      have erow : iRows (nxt m x (l.take i)) = iRows (nxt m x (l.take (i + 1))) := by rw [hst, hg]; simp
      refine ⟨⟨by omega, by omega⟩, i + 1, [(0, 0)], ?_, ⟨rfl, by omega⟩, by dsimp only; omega⟩
      exact ⟨⟨rfl, rfl, rfl, rfl, rfl, rfl, trivial⟩, ⟨erow, trivial⟩⟩
  · have hil : i = l.length := by have := df h; omega
    have hlen := nxt_len m x l
    have ei : iRows (nxt m x (l.take i)) = iRows (nxt m x l) := by rw [hil, List.take_length]
    rw [hil, List.take_length]
    refine ⟨[0], rfl, sortI_spec (by omega) fun l' hl' hp hg => ?_⟩
    refine ⟨[0], rfl, compI_spec (l := l') (by omega) ?_⟩
    intro y H2 hle hy
    rw [hg] at hy
    obtain ⟨a1, n1, c1, rfl, hr⟩ := rI_all hy (fun e he => nxt_in (RLe_all ha) e ((gSort_mem _ e).1 he))
    exact hK _ _ _ _ hle hr
end Go.Proofs
end
section
namespace Go.Proofs
open Go.Sy
set_option maxRecDepth 20000
abbrev swp (e : Edg) : Edg := (e.2, e.1)
abbrev revL (l : List Edg) : List Edg := l.map swp
theorem revL_snoc (m : List Edg) (x : Edg) : revL (m ++ [x]) = revL m ++ [swp x] := List.map_append
theorem reverse_spec {l : List Edg} (hl : l.length ≤ 1000000) {a : Option Addr} {n c : Nat} {H : Hp} {K : Value → Hp → Prop} (ha : RL H a n c l)
    (hK : ∀ a1 n1 c1 H', Le H H' → RL H' a1 n1 c1 (gSort (revL l)) → K (.slice a1 n1 c1) H') : Does Try.prog 37 [.slice a n c] H K := by
  have hn1 := ha.n_eq
  refine spec_of cx_ok cx_mix rfl Try.func37 Try.call37 Try.ntmps37 Try.results37 rfl rfl ?_
  refine ⟨Nat, fun i => ⟨[(3, .own 0), (6, .v (.slice a n c)), (7, .v (.int .i64 n)), (8, .v (.int .i64 i))], [(0, .row 63 2 (eRows (revL (l.take i))))], 1⟩,
    fun i H' => H' = H ∧ i ≤ l.length, fun i => l.length - i, ⟨0, [], ?_, rfl, by omega⟩, ?_⟩
  · exact ⟨⟨⟨rfl, rfl, rfl⟩, rfl, rfl, rfl, trivial⟩, ⟨rfl, trivial⟩⟩
  rintro i H1 _ ⟨rfl, hi⟩
  refine ⟨fun h => ?_, fun h => ?_⟩
  · have hlt : i < l.length := by have := dt h; omega
    obtain ⟨ad, cs, q1, hh, r1⟩ := ha.elem (List.getElem?_eq_getElem hlt)
    obtain ⟨rfl, hr1, hr2⟩ := edge_open r1
    have hel : (eRows (revL (l.take i))).length = i := by rw [List.length_map, List.length_map, List.length_take]; omega
    refine ⟨ad, ⟨by omega, by omega, q1⟩, ?_⟩
    refine ⟨_, hh, ?_⟩
    refine ⟨⟨by show ((eRows (revL (l.take i))).length + 1) * 16 ≤ _; omega, by show (eRows (revL (l.take i))).length + 1 ≤ _; omega⟩, ?_⟩
    have erow : eRows (revL (l.take i)) ++ [[.int .i64 l[i].2, .int .i64 l[i].1]] = eRows (revL (l.take (i + 1))) := by rw [List.take_add_one, List.getElem?_eq_getElem hlt, Option.toList_some, revL_snoc]; exact eRows_snoc (revL (l.take i)) (swp l[i])
    refine ⟨⟨by omega, by omega⟩, i + 1, [(0, 3)], ?_, ⟨rfl, by omega⟩, by dsimp only; omega⟩
    exact ⟨⟨rfl, rfl, rfl, rfl, trivial⟩, ⟨erow, trivial⟩⟩
  · have hil : i = l.length := by have := df h; omega
    intro x H2 hle2 hx
    rw [hil, List.take_length] at hx
    obtain ⟨a1, n1, c1, rfl, hr⟩ := rE_all hx (fun e he => by
      obtain ⟨e', he', rfl⟩ := List.mem_map.1 he
      exact ⟨(RLe_all ha e' he').2, (RLe_all ha e' he').1⟩)
    refine sorted_spec (by rw [List.length_map]; omega) hr ?_
    intro a3 n3 c3 H3 hle3 hr3
    exact hK _ _ _ _ (hle2.trans hle3) hr3
theorem rreverse_spec {l : List Edg} (hl : l.length ≤ 1000000) {a : Option Addr} {n c : Nat} {H : Hp} {K : Value → Hp → Prop} (ha : RL H a n c l)
    (hK : ∀ a1 n1 c1 H', Le H H' → RL H' a1 n1 c1 (gSort (revL l)) → K (.slice a1 n1 c1) H') : Does Try.prog 41 [.slice a n c] H K := by
  have hn1 := ha.n_eq
  refine spec_of cx_ok cx_mix rfl Try.func41 Try.call41 Try.ntmps41 Try.results41 rfl rfl ?_
  refine ⟨Nat, fun i => ⟨[(3, .own 0), (6, .v (.slice a n c)), (7, .v (.int .i64 n)), (8, .v (.int .i64 i))], [(0, .row 63 2 (eRows (revL (l.take i))))], 1⟩,
    fun i H' => H' = H ∧ i ≤ l.length, fun i => l.length - i, ⟨0, [], ?_, rfl, by omega⟩, ?_⟩
  · exact ⟨⟨⟨rfl, rfl, rfl⟩, rfl, rfl, rfl, trivial⟩, ⟨rfl, trivial⟩⟩
  rintro i H1 _ ⟨rfl, hi⟩
  refine ⟨fun h => ?_, fun h => ?_⟩
  · have hlt : i < l.length := by have := dt h; omega
    obtain ⟨ad, cs, q1, hh, r1⟩ := ha.elem (List.getElem?_eq_getElem hlt)
    obtain ⟨rfl, hr1, hr2⟩ := edge_open r1
    have hel : (eRows (revL (l.take i))).length = i := by rw [List.length_map, List.length_map, List.length_take]; omega
    refine ⟨ad, ⟨by omega, by omega, q1⟩, ?_⟩
    refine ⟨_, hh, ?_⟩
    refine ⟨⟨by show ((eRows (revL (l.take i))).length + 1) * 16 ≤ _; omega, by show (eRows (revL (l.take i))).length + 1 ≤ _; omega⟩, ?_⟩
    have erow : eRows (revL (l.take i)) ++ [[.int .i64 l[i].2, .int .i64 l[i].1]] = eRows (revL (l.take (i + 1))) := by rw [List.take_add_one, List.getElem?_eq_getElem hlt, Option.toList_some, revL_snoc]; exact eRows_snoc (revL (l.take i)) (swp l[i])
    refine ⟨⟨by omega, by omega⟩, i + 1, [(0, 3)], ?_, ⟨rfl, by omega⟩, by dsimp only; omega⟩
    exact ⟨⟨rfl, rfl, rfl, rfl, trivial⟩, ⟨erow, trivial⟩⟩
  · have hil : i = l.length := by have := df h; omega
    intro x H2 hle2 hx
    rw [hil, List.take_length] at hx
    obtain ⟨a1, n1, c1, rfl, hr⟩ := rE_all hx (fun e he => by
      obtain ⟨e', he', rfl⟩ := List.mem_map.1 he
      exact ⟨(RLe_all ha e' he').2, (RLe_all ha e' he').1⟩)
    refine refSorted_spec (by rw [List.length_map]; omega) hr ?_
    intro a3 n3 c3 H3 hle3 hr3
    exact hK _ _ _ _ (hle2.trans hle3) hr3
theorem back_spec {m x : Int} {l : List Edg} (hl : l.length ≤ 1000000) {a : Option Addr} {n c : Nat} {H : Hp} {K : Value → Hp → Prop} (ha : RL H a n c l)
    (hK : ∀ a1 n1 c1 H', Le H H' → RL H' a1 n1 c1 (gSort (nxt m x (gSort (revL l)))) → K (.slice a1 n1 c1) H') : Does Try.prog 45 [.int .i64 m, .slice a n c, .int .i64 x] H K := by
  refine spec_of cx_ok cx_mix rfl Try.func45 Try.call45 Try.ntmps45 Try.results45 rfl rfl ?_
  refine reverse_spec hl ha fun a1 n1 c1 H1 hle1 hr1 => ?_
  have hlen := gSort_len (revL l)
  rw [List.length_map] at hlen
  refine next_spec (by omega) hr1 fun a2 n2 c2 H2 hle2 hr2 => ?_
  exact hK _ _ _ _ (hle1.trans hle2) hr2
theorem few_spec {m : Int} {l : List Edg} {a : Option Addr} {n c : Nat} {H : Hp} {K : Value → Hp → Prop} (ha : RL H a n c l)
    (hK : ∀ b, (b = true → m ≤ 40 ∧ l.length ≤ 80) → K (.bool b) H) : Does Try.prog 35 [.int .i64 m, .slice a n c] H K := by
  have hn1 := ha.n_eq
  refine spec_of cx_ok cx_mix rfl Try.func35 Try.call35 Try.ntmps35 Try.results35 rfl rfl ?_
  refine ⟨fun h => ?_, fun h => ?_⟩
  · have h1 : m ≤ 40 := dt h
    exact hK _ fun h2 => ⟨h1, by have := dt h2; omega⟩
  · exact hK _ fun h2 => by first | (rw [h] at h2; cases h2) | cases h2
theorem in_spec {l : List Int} {x : Int} {a : Option Addr} {n c : Nat} {H : Hp} {K : Value → Hp → Prop} (ha : RL H a n c l)
    (hK : K (.bool (decide (x ∈ l))) H) : Does Try.prog 40 [.slice a n c, .int .i64 x] H K := by
  have hn1 := ha.n_eq
  have hmx := ha.le
  refine spec_of cx_ok cx_mix rfl Try.func40 Try.call40 Try.ntmps40 Try.results40 rfl rfl ?_
  refine ⟨Nat, fun i => ⟨[(1, .v (.int .i64 x)), (7, .v (.slice a n c)), (8, .v (.int .i64 n)), (9, .v (.int .i64 i))], [], 0⟩,
    fun i H' => H' = H ∧ i ≤ l.length ∧ ∀ y ∈ l.take i, y ≠ x, fun i => l.length - i, ⟨0, [], ?_, rfl, by omega, by simp⟩, ?_⟩
  · exact ⟨⟨rfl, rfl, rfl, rfl, trivial⟩, trivial⟩
  rintro i H1 _ ⟨rfl, hi, hx⟩
  refine ⟨fun h => ?_, fun h => ?_⟩
  · have hlt : i < l.length := by have := dt h; omega
    obtain ⟨ad, cs, q1, hh, r1⟩ := ha.elem (List.getElem?_eq_getElem hlt)
    obtain ⟨rfl, -⟩ := r1
    refine ⟨ad, ⟨by omega, by omega, q1⟩, ?_⟩
    refine ⟨_, hh, ?_⟩
    refine ⟨fun h => ?_, fun h => ?_⟩
    · have he : l[i] = x := dt h
      refine kbool hK ?_
      exact decide_eq_true (he ▸ List.getElem_mem hlt)
    · have he : ¬ l[i] = x := df h
      refine ⟨⟨by omega, by omega⟩, i + 1, [], ?_, ⟨rfl, by omega, mem_take_succ (List.getElem?_eq_getElem hlt) hx he⟩, by dsimp only; omega⟩
      exact ⟨⟨rfl, rfl, rfl, rfl, trivial⟩, trivial⟩
  · have hil : i = l.length := by have := df h; omega
    rw [hil, List.take_length] at hx
    refine kbool hK ?_
    exact decide_eq_false fun h => hx x h rfl
end Go.Proofs
end
section
namespace Go.Proofs
open Go.Sy
set_option maxRecDepth 20000
theorem keyI {x : Int} (hx : inI x) : keyOf Try.prog 3 (.int .i64 x) = some (.int .i64 x) := by
  unfold keyOf
  rw [(tt_ok 3 _ _ rfl).2]
  show mapKey Try.prog 3 (.int .i64 x) = _
  unfold mapKey
  rw [(tt_ok 3 _ _ rfl).2]
  show (if IntKind.i64 = IntKind.i64 ∧ (Lit.int .i64 x).wf = true then some (Lit.int .i64 x) else none) = _
  have hw : (Lit.int .i64 x).wf = true := by
    have h1 := hx.1
    have h2 := hx.2
    have e1 : IntKind.i64.min = -9223372036854775808 := by decide
    have e2 : IntKind.i64.max = 9223372036854775807 := by decide
    show (decide _ && decide _) = true
    rw [e1, e2, decide_eq_true h1, decide_eq_true h2]; rfl
  rw [if_pos ⟨rfl, hw⟩]
theorem mapOK3 : MapOK Try.prog 3 3 := ⟨Maps.int_keyed (tt_ok 3 _ _ rfl).2, (tt_ok 3 _ _ rfl).2, Try.zeroValue3⟩
open Classical in
noncomputable def seenG (s : List Int) : Lit → Int := fun kl => if ∃ x ∈ s, kl = .int .i64 x then 1 else 0
theorem seenG_at (s : List Int) (x : Int) : seenG s (.int .i64 x) = if x ∈ s then 1 else 0 := by
  unfold seenG
  by_cases h : x ∈ s
  · rw [if_pos ⟨x, h, rfl⟩, if_pos h]
  · rw [if_neg (fun ⟨y, hy, e⟩ => h (by cases e; exact hy)), if_neg h]
theorem seenG_nil : (fun _ => 0) = seenG [] := by
  funext kl
  unfold seenG
  rw [if_neg (fun ⟨_, h, _⟩ => by cases h)]
theorem seenG_snoc (s : List Int) (x : Int) : updL (seenG s) (.int .i64 x) 1 = seenG (s ++ [x]) := by
  funext kl
  unfold updL seenG
  by_cases h : kl = .int .i64 x
  · rw [if_pos h, if_pos ⟨x, by simp, h⟩]
  · rw [if_neg h]
    by_cases h2 : ∃ y ∈ s, kl = .int .i64 y
    · obtain ⟨y, hy, e⟩ := h2
      rw [if_pos ⟨y, hy, e⟩, if_pos ⟨y, List.mem_append_left _ hy, e⟩]
    · rw [if_neg h2, if_neg]
      rintro ⟨y, hy, e⟩
      rcases List.mem_append.1 hy with hy | hy
      · exact h2 ⟨y, hy, e⟩
      · rw [List.mem_singleton] at hy; subst hy; exact h e
/-- What is put on the list that waits: the seen ones, those that wait. -/
def pst (m : Int) (l : List Int) (q : List Int × List Int) : List Int × List Int :=
  l.foldl (fun q x => if nodeI m x = true ∧ x ∉ q.1 then (q.1 ++ [x], q.2 ++ [x]) else q) q
theorem pst_take {m : Int} {l : List Int} {q : List Int × List Int} {i : Nat} (h : i < l.length) : pst m (l.take (i + 1)) q = if nodeI m l[i] = true ∧ l[i] ∉ (pst m (l.take i) q).1 then ((pst m (l.take i) q).1 ++ [l[i]], (pst m (l.take i) q).2 ++ [l[i]]) else pst m (l.take i) q := take_step _ q (List.getElem?_eq_getElem h)
theorem pst_len (m : Int) : ∀ (l : List Int) (q : List Int × List Int), (pst m l q).2.length ≤ q.2.length + l.length ∧ (pst m l q).1.length ≤ q.1.length + l.length
  | [], q => ⟨Nat.le_refl _, Nat.le_refl _⟩
  | x :: r, q => by
    rw [pst, List.foldl_cons]
    have := pst_len m r (if nodeI m x = true ∧ x ∉ q.1 then (q.1 ++ [x], q.2 ++ [x]) else q)
    rw [pst] at this
    split at this <;> rename_i hc
    · rw [if_pos hc]
      simp only [List.length_append, List.length_cons, List.length_nil] at this ⊢
      omega
    · rw [if_neg hc]
      simp only [List.length_cons]
      omega
noncomputable abbrev seenP (s : List Int) : Obj → Prop := MapI Try.prog 3 3 s.length (seenG s)
noncomputable abbrev seenB (s : List Int) : Bx := .obj (seenP s)
theorem push0_spec {m : Int} {l seen todo : List Int} {a : Option Addr} {n c : Nat} {H : Hp} {K : SV → St → Hp → Prop} (ha : RL H a n c l) (hb : todo.length + l.length ≤ 1000000000 ∧ seen.length + l.length ≤ 1000000000) (ht : todo = [])
    (hK : K (.tup []) ⟨[], [(0, .cells 3 [.v (.int .i64 m)]), (1, .cells 88 [.mp 3]), (2, .cells 27 [.own 4]), (3, seenB (pst m l (seen, todo)).1), (4, .row 3 1 (iRows (pst m l (seen, todo)).2))], 5⟩ H) : DoesG Try.prog 72 [.v (.slice a n c), .ptr 0 0, .ptr 1 0, .ptr 2 0] ([(0, .cells 3 [.v (.int .i64 m)]), (1, .cells 88 [.mp 3]), (2, .cells 27 [.v (.slice none 0 0)]), (3, seenB seen)]) 4 H K := by
  have hn1 := ha.n_eq
  have hmx := ha.le
  refine spec_ofG cx_ok cx_mix Try.func72 Try.call72 Try.ntmps72 Try.results72 rfl rfl ?_
  obtain ⟨q, hq⟩ : ∃ q : Nat → List Int × List Int, ∀ i, q i = pst m (l.take i) (seen, todo) := ⟨_, fun _ => rfl⟩
  have hq0 : q 0 = (seen, todo) := hq 0
  refine ⟨Nat, fun i => ⟨[(1, .ptr 0 0), (2, .ptr 1 0), (3, .ptr 2 0), (7, .v (.slice a n c)), (8, .v (.int .i64 n)), (9, .v (.int .i64 i))], [(0, .cells 3 [.v (.int .i64 m)]), (1, .cells 88 [.mp 3]), (2, .cells 27 [.own 4]), (3, seenB (q i).1), (4, .row 3 1 (iRows (q i).2))], 5⟩,
    fun i H' => H' = H ∧ i ≤ l.length, fun i => l.length - i, ⟨0, [(0, 0), (1, 1), (2, 2), (3, 3)], ?_, rfl, by omega⟩, ?_⟩
  · have e3 : seenP seen = seenP (q 0).1 := by rw [hq0]
    have e4 : iRows (q 0).2 = [] := by rw [hq0, ht]; rfl
    exact ⟨⟨⟨rfl, rfl⟩, ⟨rfl, rfl⟩, ⟨rfl, rfl⟩, rfl, rfl, rfl, trivial⟩, ⟨⟨rfl, trivial⟩, ⟨rfl, trivial⟩, ⟨⟨rfl, rfl, e4⟩, trivial⟩, e3, e4, trivial⟩⟩
  rintro i H1 _ ⟨rfl, hi⟩
  refine ⟨fun h => ?_, fun h => ?_⟩
  · have hlt : i < l.length := by have := dt h; omega
    obtain ⟨ad, cs, q1, hh, r1⟩ := ha.elem (List.getElem?_eq_getElem hlt)
    obtain ⟨rfl, r2⟩ := r1
    have hst := pst_take (m := m) (q := (seen, todo)) hlt
    rw [← hq, ← hq] at hst
    have hlen := pst_len m (l.take i) (seen, todo)
    rw [← hq, List.length_take, Nat.min_eq_left (by omega)] at hlen
    simp only at hlen
    refine ⟨ad, ⟨by omega, by omega, q1⟩, ?_⟩
    refine ⟨_, hh, ?_⟩
    refine node_spec ?_
    refine ⟨fun h => ?_, fun h => ?_⟩
    · have h1 : nodeI m l[i] = true := h
      refine ⟨_, _, _, rfl, keyI r2, ?_⟩
      refine ⟨fun h => ?_, fun h => ?_⟩
      · have hs := seenG_at (q i).1 l[i]
        have h2 : l[i] ∉ (q i).1 := fun hm => by rw [if_pos hm] at hs; have := dt h; omega
        rw [if_pos ⟨h1, h2⟩] at hst
        have hel : (iRows (q i).2).length = (q i).2.length := List.length_map _
        refine ⟨_, _, _, rfl, keyI r2, ⟨by omega, by decide, by decide⟩, ?_⟩
        refine ⟨⟨by show ((iRows (q i).2).length + 1) * 8 ≤ _; omega, by show (iRows (q i).2).length + 1 ≤ _; omega⟩, ?_⟩
        have e3 : MapI Try.prog 3 3 ((q i).1.length + 1) (updL (seenG (q i).1) (.int .i64 l[i]) 1) = seenP (q (i + 1)).1 := by rw [hst, seenG_snoc]; simp only [seenP, List.length_append, List.length_cons, List.length_nil, Nat.zero_add]
        have e4 : iRows (q i).2 ++ [[.int .i64 l[i]]] = iRows (q (i + 1)).2 := by rw [hst]; simp
        refine ⟨⟨by omega, by omega⟩, i + 1, [(0, 0), (1, 1), (2, 2), (3, 3), (4, 6)], ?_, ⟨rfl, by omega⟩, by dsimp only; omega⟩
        exact ⟨⟨⟨rfl, rfl⟩, ⟨rfl, rfl⟩, ⟨rfl, rfl⟩, rfl, rfl, rfl, trivial⟩, ⟨⟨rfl, trivial⟩, ⟨rfl, trivial⟩, ⟨rfl, trivial⟩, e3, e4, trivial⟩⟩
      · have hs := seenG_at (q i).1 l[i]
        have hc : ¬ (nodeI m l[i] = true ∧ l[i] ∉ (q i).1) := fun h2 => by rw [if_neg h2.2] at hs; exact (df h) hs
        rw [if_neg hc] at hst
        have e3 : seenP (q i).1 = seenP (q (i + 1)).1 := by rw [hst]
        have e4 : iRows (q i).2 = iRows (q (i + 1)).2 := by rw [hst]
        refine ⟨⟨by omega, by omega⟩, i + 1, [(0, 0), (1, 1), (2, 2), (3, 3), (4, 4)], ?_, ⟨rfl, by omega⟩, by dsimp only; omega⟩
        exact ⟨⟨⟨rfl, rfl⟩, ⟨rfl, rfl⟩, ⟨rfl, rfl⟩, rfl, rfl, rfl, trivial⟩, ⟨⟨rfl, trivial⟩, ⟨rfl, trivial⟩, ⟨rfl, trivial⟩, e3, e4, trivial⟩⟩
    · have hc : ¬ (nodeI m l[i] = true ∧ l[i] ∉ (q i).1) := fun h2 => by have := h2.1; rw [show nodeI m l[i] = false from h] at this; cases this
      rw [if_neg hc] at hst
      have e3 : seenP (q i).1 = seenP (q (i + 1)).1 := by rw [hst]
      have e4 : iRows (q i).2 = iRows (q (i + 1)).2 := by rw [hst]
      refine ⟨⟨by omega, by omega⟩, i + 1, [(0, 0), (1, 1), (2, 2), (3, 3), (4, 4)], ?_, ⟨rfl, by omega⟩, by dsimp only; omega⟩
      exact ⟨⟨⟨rfl, rfl⟩, ⟨rfl, rfl⟩, ⟨rfl, rfl⟩, rfl, rfl, rfl, trivial⟩, ⟨⟨rfl, trivial⟩, ⟨rfl, trivial⟩, ⟨rfl, trivial⟩, e3, e4, trivial⟩⟩
  · have hil : i = l.length := by have := df h; omega
    rw [← List.take_length (l := l), ← hil, ← hq] at hK
    exact ⟨.tup [], [(0, .cells 3 [.v (.int .i64 m)]), (1, .cells 88 [.mp 3]), (2, .cells 27 [.own 4]), (3, seenB (q i).1), (4, .row 3 1 (iRows (q i).2))], 5, [(0, 0), (1, 1), (2, 2), (3, 3), (4, 4)], ⟨⟨⟨rfl, rfl⟩, trivial⟩, ⟨⟨rfl, trivial⟩, ⟨rfl, trivial⟩, ⟨rfl, trivial⟩, rfl, rfl, trivial⟩⟩, hK⟩
theorem push1_spec {m : Int} {l seen todo : List Int} {a : Option Addr} {n c : Nat} {H : Hp} {K : SV → St → Hp → Prop} (ha : RL H a n c l) (hb : todo.length + l.length ≤ 1000000000 ∧ seen.length + l.length ≤ 1000000000)
    (hK : K (.tup []) ⟨[], [(0, .cells 3 [.v (.int .i64 m)]), (1, .cells 88 [.mp 3]), (2, .cells 27 [.own 5]), (3, seenB (pst m l (seen, todo)).1), (4, .dead), (5, .row 3 1 (iRows (pst m l (seen, todo)).2))], 6⟩ H) : DoesG Try.prog 72 [.v (.slice a n c), .ptr 0 0, .ptr 1 0, .ptr 2 0] ([(0, .cells 3 [.v (.int .i64 m)]), (1, .cells 88 [.mp 3]), (2, .cells 27 [.own 4]), (3, seenB seen)] ++ [(4, .row 3 1 (iRows todo))]) 5 H K := by
  have hn1 := ha.n_eq
  have hmx := ha.le
  refine spec_ofG cx_ok cx_mix Try.func72 Try.call72 Try.ntmps72 Try.results72 rfl rfl ?_
  obtain ⟨q, hq⟩ : ∃ q : Nat → List Int × List Int, ∀ i, q i = pst m (l.take i) (seen, todo) := ⟨_, fun _ => rfl⟩
  have hq0 : q 0 = (seen, todo) := hq 0
  refine ⟨Nat, fun i => ⟨[(1, .ptr 0 0), (2, .ptr 1 0), (3, .ptr 2 0), (7, .v (.slice a n c)), (8, .v (.int .i64 n)), (9, .v (.int .i64 i))], [(0, .cells 3 [.v (.int .i64 m)]), (1, .cells 88 [.mp 3]), (2, .cells 27 [.own 5]), (3, seenB (q i).1), (4, .dead), (5, .row 3 1 (iRows (q i).2))], 6⟩,
    fun i H' => H' = H ∧ i ≤ l.length, fun i => l.length - i, ⟨0, [(0, 0), (1, 1), (2, 2), (3, 3), (5, 4)], ?_, rfl, by omega⟩, ?_⟩
  · have e3 : seenP seen = seenP (q 0).1 := by rw [hq0]
    have e4 : iRows todo = iRows (q 0).2 := by rw [hq0]
    exact ⟨⟨⟨rfl, rfl⟩, ⟨rfl, rfl⟩, ⟨rfl, rfl⟩, rfl, rfl, rfl, trivial⟩, ⟨⟨rfl, trivial⟩, ⟨rfl, trivial⟩, ⟨rfl, trivial⟩, e3, trivial, e4, trivial⟩⟩
  rintro i H1 _ ⟨rfl, hi⟩
  refine ⟨fun h => ?_, fun h => ?_⟩
  · have hlt : i < l.length := by have := dt h; omega
    obtain ⟨ad, cs, q1, hh, r1⟩ := ha.elem (List.getElem?_eq_getElem hlt)
    obtain ⟨rfl, r2⟩ := r1
    have hst := pst_take (m := m) (q := (seen, todo)) hlt
    rw [← hq, ← hq] at hst
    have hlen := pst_len m (l.take i) (seen, todo)
    rw [← hq, List.length_take, Nat.min_eq_left (by omega)] at hlen
    simp only at hlen
    refine ⟨ad, ⟨by omega, by omega, q1⟩, ?_⟩
    refine ⟨_, hh, ?_⟩
    refine node_spec ?_
    refine ⟨fun h => ?_, fun h => ?_⟩
    · have h1 : nodeI m l[i] = true := h
      refine ⟨_, _, _, rfl, keyI r2, ?_⟩
      refine ⟨fun h => ?_, fun h => ?_⟩
      · have hs := seenG_at (q i).1 l[i]
        have h2 : l[i] ∉ (q i).1 := fun hm => by rw [if_pos hm] at hs; have := dt h; omega
        rw [if_pos ⟨h1, h2⟩] at hst
        have hel : (iRows (q i).2).length = (q i).2.length := List.length_map _
        refine ⟨_, _, _, rfl, keyI r2, ⟨by omega, by decide, by decide⟩, ?_⟩
        refine ⟨⟨by show ((iRows (q i).2).length + 1) * 8 ≤ _; omega, by show (iRows (q i).2).length + 1 ≤ _; omega⟩, ?_⟩
        have e3 : MapI Try.prog 3 3 ((q i).1.length + 1) (updL (seenG (q i).1) (.int .i64 l[i]) 1) = seenP (q (i + 1)).1 := by rw [hst, seenG_snoc]; simp only [seenP, List.length_append, List.length_cons, List.length_nil, Nat.zero_add]
        have e4 : iRows (q i).2 ++ [[.int .i64 l[i]]] = iRows (q (i + 1)).2 := by rw [hst]; simp
        refine ⟨⟨by omega, by omega⟩, i + 1, [(0, 0), (1, 1), (2, 2), (3, 3), (5, 7)], ?_, ⟨rfl, by omega⟩, by dsimp only; omega⟩
        exact ⟨⟨⟨rfl, rfl⟩, ⟨rfl, rfl⟩, ⟨rfl, rfl⟩, rfl, rfl, rfl, trivial⟩, ⟨⟨rfl, trivial⟩, ⟨rfl, trivial⟩, ⟨rfl, trivial⟩, e3, trivial, e4, trivial⟩⟩
      · have hs := seenG_at (q i).1 l[i]
        have hc : ¬ (nodeI m l[i] = true ∧ l[i] ∉ (q i).1) := fun h2 => by rw [if_neg h2.2] at hs; exact (df h) hs
        rw [if_neg hc] at hst
        have e3 : seenP (q i).1 = seenP (q (i + 1)).1 := by rw [hst]
        have e4 : iRows (q i).2 = iRows (q (i + 1)).2 := by rw [hst]
        refine ⟨⟨by omega, by omega⟩, i + 1, [(0, 0), (1, 1), (2, 2), (3, 3), (5, 5)], ?_, ⟨rfl, by omega⟩, by dsimp only; omega⟩
        exact ⟨⟨⟨rfl, rfl⟩, ⟨rfl, rfl⟩, ⟨rfl, rfl⟩, rfl, rfl, rfl, trivial⟩, ⟨⟨rfl, trivial⟩, ⟨rfl, trivial⟩, ⟨rfl, trivial⟩, e3, trivial, e4, trivial⟩⟩
    · have hc : ¬ (nodeI m l[i] = true ∧ l[i] ∉ (q i).1) := fun h2 => by have := h2.1; rw [show nodeI m l[i] = false from h] at this; cases this
      rw [if_neg hc] at hst
      have e3 : seenP (q i).1 = seenP (q (i + 1)).1 := by rw [hst]
      have e4 : iRows (q i).2 = iRows (q (i + 1)).2 := by rw [hst]
      refine ⟨⟨by omega, by omega⟩, i + 1, [(0, 0), (1, 1), (2, 2), (3, 3), (5, 5)], ?_, ⟨rfl, by omega⟩, by dsimp only; omega⟩
      exact ⟨⟨⟨rfl, rfl⟩, ⟨rfl, rfl⟩, ⟨rfl, rfl⟩, rfl, rfl, rfl, trivial⟩, ⟨⟨rfl, trivial⟩, ⟨rfl, trivial⟩, ⟨rfl, trivial⟩, e3, trivial, e4, trivial⟩⟩
  · have hil : i = l.length := by have := df h; omega
    rw [← List.take_length (l := l), ← hil, ← hq] at hK
    exact ⟨.tup [], [(0, .cells 3 [.v (.int .i64 m)]), (1, .cells 88 [.mp 3]), (2, .cells 27 [.own 5]), (3, seenB (q i).1), (4, .dead), (5, .row 3 1 (iRows (q i).2))], 6, [(0, 0), (1, 1), (2, 2), (3, 3), (5, 5)], ⟨⟨⟨rfl, rfl⟩, trivial⟩, ⟨⟨rfl, trivial⟩, ⟨rfl, trivial⟩, ⟨rfl, trivial⟩, rfl, trivial, rfl, trivial⟩⟩, hK⟩
end Go.Proofs
end
section
namespace Go.Proofs
open Go.Sy
/-- R has the nodes of f and what they lead to, and nothing else. -/
structure IsReach (m : Int) (l : List Edg) (f R : List Int) : Prop where
  from' : ∀ x ∈ f, nodeI m x = true → x ∈ R
  closed : ∀ x ∈ R, ∀ y ∈ nxt m x l, y ∈ R
  least : ∀ S : Int → Prop, (∀ x ∈ f, nodeI m x = true → S x) → (∀ x, S x → ∀ y ∈ nxt m x l, S y) → ∀ x ∈ R, S x
theorem IsReach.mem {m : Int} {l : List Edg} {f R R' : List Int} (h : IsReach m l f R) (h' : IsReach m l f R') (x : Int) : x ∈ R ↔ x ∈ R' :=
  ⟨h.least (· ∈ R') h'.from' h'.closed x, h'.least (· ∈ R) h.from' h.closed x⟩
theorem IsReach.node {m : Int} {l : List Edg} {f R : List Int} (h : IsReach m l f R) : ∀ x ∈ R, nodeI m x = true :=
  h.least (fun x => nodeI m x = true) (fun _ _ h => h) (fun _ _ _ hy => (nxt_mem.1 hy).2.2)
theorem IsReach.again {m : Int} {l : List Edg} {f R R' : List Int} (h : IsReach m l f R) (h' : IsReach m l R R') (x : Int) : x ∈ R' ↔ x ∈ R :=
  ⟨h'.least (· ∈ R) (fun _ hx _ => hx) h.closed x, fun hx => h'.from' x hx (h.node x hx)⟩
theorem pst_inv {m : Int} : ∀ (l : List Int) {s t o : List Int}, s.Nodup → (∀ x ∈ s, nodeI m x = true) → (o ++ t).Perm s →
    (pst m l (s, t)).1.Nodup ∧ (∀ x ∈ (pst m l (s, t)).1, nodeI m x = true) ∧ (o ++ (pst m l (s, t)).2).Perm (pst m l (s, t)).1 ∧ ∀ x, x ∈ (pst m l (s, t)).1 ↔ x ∈ s ∨ (x ∈ l ∧ nodeI m x = true)
  | [], s, t, o, h1, h2, h3 => ⟨h1, h2, h3, fun x => by simp [pst]⟩
  | y :: r, s, t, o, h1, h2, h3 => by
    rw [pst, List.foldl_cons]
    by_cases hc : nodeI m y = true ∧ y ∉ s
    · rw [if_pos hc]
      have ih := pst_inv (m := m) r (s := s ++ [y]) (t := t ++ [y]) (o := o) (by
          rw [List.nodup_append]
          refine ⟨h1, by simp, fun a ha b hb => ?_⟩
          rw [List.mem_singleton] at hb
          subst hb
          exact fun e => hc.2 (e ▸ ha)) (fun x hx => by
          rcases List.mem_append.1 hx with hx | hx
          · exact h2 x hx
          · rw [List.mem_singleton] at hx; subst hx; exact hc.1) (by rw [← List.append_assoc]; exact h3.append (List.Perm.refl _))
      refine ⟨ih.1, ih.2.1, ih.2.2.1, fun x => ?_⟩
      have := ih.2.2.2 x
      rw [pst] at this
      rw [this, List.mem_append, List.mem_singleton, List.mem_cons]
      constructor
      · rintro ((h | h) | h)
        · exact .inl h
        · exact .inr ⟨.inl h, h ▸ hc.1⟩
        · exact .inr ⟨.inr h.1, h.2⟩
      · rintro (h | ⟨h | h, h'⟩)
        · exact .inl (.inl h)
        · exact .inl (.inr h)
        · exact .inr ⟨h, h'⟩
    · rw [if_neg hc]
      have ih := pst_inv (m := m) r h1 h2 h3
      refine ⟨ih.1, ih.2.1, ih.2.2.1, fun x => ?_⟩
      have := ih.2.2.2 x
      rw [pst] at this
      rw [this, List.mem_cons]
      constructor
      · rintro (h | h)
        · exact .inl h
        · exact .inr ⟨.inr h.1, h.2⟩
      · rintro (h | ⟨h | h, h'⟩)
        · exact .inl h
        · subst h
          by_cases hs : x ∈ s
          · exact .inl hs
          · exact absurd ⟨h', hs⟩ hc
        · exact .inr ⟨h, h'⟩
/-- The work under way: seen, waiting, done. -/
structure RInv (m : Int) (l : List Edg) (f s t o : List Int) : Prop where
  nd : s.Nodup
  node : ∀ x ∈ s, nodeI m x = true
  perm : (o ++ t).Perm s
  from' : ∀ x ∈ f, nodeI m x = true → x ∈ s
  done : ∀ x ∈ o, ∀ y ∈ nxt m x l, y ∈ s
  least : ∀ S : Int → Prop, (∀ x ∈ f, nodeI m x = true → S x) → (∀ x, S x → ∀ y ∈ nxt m x l, S y) → ∀ x ∈ s, S x
theorem rinv_zero (m : Int) (l : List Edg) (f : List Int) : RInv m l f (pst m f ([], [])).1 (pst m f ([], [])).2 [] := by
  have h := pst_inv (m := m) f (s := []) (t := []) (o := []) List.nodup_nil (by simp) (List.Perm.refl _)
  refine ⟨h.1, h.2.1, h.2.2.1, fun x hx hn => (h.2.2.2 x).2 (.inr ⟨hx, hn⟩), by simp, fun S h1 _ x hx => ?_⟩
  rcases (h.2.2.2 x).1 hx with h' | h'
  · cases h'
  · exact h1 x h'.1 h'.2
theorem rinv_step {m : Int} {l : List Edg} {f s t o : List Int} {x : Int} (h : RInv m l f s (t ++ [x]) o) {g : List Int} (hg : ∀ y, y ∈ g ↔ y ∈ nxt m x l) :
    RInv m l f (pst m g (s, t)).1 (pst m g (s, t)).2 (o ++ [x]) := by
  have hp : ((o ++ [x]) ++ t).Perm s := by
    refine List.Perm.trans ?_ h.perm
    rw [List.append_assoc]
    exact List.Perm.append_left o (List.perm_append_comm)
  have k := pst_inv (m := m) g h.nd h.node hp
  have hx : x ∈ s := h.perm.mem_iff.1 (by simp)
  refine ⟨k.1, k.2.1, k.2.2.1, fun y hy hn => (k.2.2.2 y).2 (.inl (h.from' y hy hn)), fun y hy z hz => ?_, fun S h1 h2 y hy => ?_⟩
  · rcases List.mem_append.1 hy with hy | hy
    · exact (k.2.2.2 z).2 (.inl (h.done y hy z hz))
    · rw [List.mem_singleton] at hy
      subst hy
      exact (k.2.2.2 z).2 (.inr ⟨(hg z).2 hz, (nxt_mem.1 hz).2.2⟩)
  · rcases (k.2.2.2 y).1 hy with h' | h'
    · exact h.least S h1 h2 y h'
    · exact h2 x (h.least S h1 h2 x hx) y ((hg y).1 h'.1)
theorem rinv_end {m : Int} {l : List Edg} {f s o : List Int} (h : RInv m l f s [] o) : IsReach m l f o ∧ o.Nodup := by
  have hp : o.Perm s := by have := h.perm; rw [List.append_nil] at this; exact this
  exact ⟨⟨fun x hx hn => hp.mem_iff.2 (h.from' x hx hn), fun x hx y hy => hp.mem_iff.2 (h.done x hx y hy), fun S h1 h2 x hx => h.least S h1 h2 x (hp.mem_iff.1 hx)⟩, hp.nodup_iff.2 h.nd⟩
theorem nat_few : ∀ (n : Nat) (s : List Nat), s.Nodup → (∀ x ∈ s, x < n) → s.length ≤ n
  | 0, s, _, h => by
    match s, h with
    | [], _ => exact Nat.le_refl _
    | x :: r, h => exact absurd (h x List.mem_cons_self) (Nat.not_lt_zero x)
  | n + 1, s, hn, h => by
    by_cases hm : n ∈ s
    · have h2 := nat_few n (s.erase n) (hn.erase n) (fun x hx => by
        have h3 := (hn.mem_erase_iff).1 hx
        have := h x h3.2
        have := h3.1
        omega)
      rw [List.length_erase_of_mem hm] at h2
      omega
    · have := nat_few n s hn (fun x hx => by
        have := h x hx
        have : x ≠ n := fun e => hm (e ▸ hx)
        omega)
      omega
/-- Nodes that differ are few. -/
theorem nodes_len {m : Int} {s : List Int} (h1 : s.Nodup) (h2 : ∀ x ∈ s, nodeI m x = true) : s.length ≤ m.toNat := by
  have h3 : (s.map Int.toNat).Nodup := by
    rw [List.nodup_iff_pairwise_ne, List.pairwise_map]
    refine (List.Pairwise.and_mem.1 h1).imp fun {a b} ⟨ha, hb, hab⟩ e => hab ?_
    have := dt (h2 a ha)
    have := dt (h2 b hb)
    omega
  have := nat_few m.toNat _ h3 (fun x hx => by
    obtain ⟨y, hy, rfl⟩ := List.mem_map.1 hx
    have := dt (h2 y hy)
    omega)
  rwa [List.length_map] at this
theorem gComp_nodup {α : Type} [LO α] : ∀ {l : List α}, l.Nodup → gComp l = l
  | [], _ => rfl
  | [_], _ => rfl
  | x :: y :: s, h => by
    have h1 := List.nodup_cons.1 h
    rw [gComp, if_neg (fun e => h1.1 (by rw [e]; exact List.mem_cons_self)), gComp_nodup h1.2]
end Go.Proofs
end
section
namespace Go.Proofs
open Go.Sy
set_option maxRecDepth 20000
theorem seenP_nil : seenP [] = MapI Try.prog 3 3 0 fun _ => 0 := by rw [seenP, seenG_nil]; rfl
theorem push00_spec {m : Int} {l : List Int} {a : Option Addr} {n c : Nat} {H : Hp} {K : SV → St → Hp → Prop} (ha : RL H a n c l) (hb : l.length ≤ 1000000)
    (hK : K (.tup []) ⟨[], [(0, .cells 3 [.v (.int .i64 m)]), (1, .cells 88 [.mp 3]), (2, .cells 27 [.own 4]), (3, seenB (pst m l ([], [])).1), (4, .row 3 1 (iRows (pst m l ([], [])).2))], 5⟩ H) :
    DoesG Try.prog 72 [.v (.slice a n c), .ptr 0 0, .ptr 1 0, .ptr 2 0] [(0, .cells 3 [.v (.int .i64 m)]), (1, .cells 88 [.mp 3]), (2, .cells 27 [.v (.slice none 0 0)]), (3, .obj (MapI Try.prog 3 3 0 fun _ => 0))] 4 H K := by
  rw [← seenP_nil]
  exact push0_spec ha (by simp only [List.length_nil]; omega) rfl hK
theorem push11_spec {m : Int} {l seen todo : List Int} {rt : List (List Value)} {a : Option Addr} {n c : Nat} {H : Hp} {K : SV → St → Hp → Prop} (ha : RL H a n c l) (hrt : rt = iRows todo) (hb : todo.length + l.length ≤ 1000000000 ∧ seen.length + l.length ≤ 1000000000)
    (hK : K (.tup []) ⟨[], [(0, .cells 3 [.v (.int .i64 m)]), (1, .cells 88 [.mp 3]), (2, .cells 27 [.own 5]), (3, seenB (pst m l (seen, todo)).1), (4, .dead), (5, .row 3 1 (iRows (pst m l (seen, todo)).2))], 6⟩ H) :
    DoesG Try.prog 72 [.v (.slice a n c), .ptr 0 0, .ptr 1 0, .ptr 2 0] [(0, .cells 3 [.v (.int .i64 m)]), (1, .cells 88 [.mp 3]), (2, .cells 27 [.own 4]), (3, seenB seen), (4, .row 3 1 rt)] 5 H K := by
  rw [hrt]
  exact push1_spec ha hb hK
theorem sortN_spec {H : Hp} {K : SV → St → Hp → Prop} (hK : K (.tup []) ⟨[], [], 0⟩ H) : DoesG Try.prog 67 [.v (.slice none 0 0)] [] 0 H K :=
  ⟨Try.call67, fun w ρ hm _ => (Any.slices_Sort_int_none Try.lays189 none 0 w).mono fun _ _ ⟨e1, e2⟩ => ⟨.tup [], ⟨[], [], 0⟩, H, ρ, e1, hK, rfl, by rw [e2]; exact hm⟩⟩
theorem reached_spec {m : Int} (hm : m ≤ 1000) {l : List Edg} (hl : l.length ≤ 100000) {f : List Int} (hf : f.length ≤ 100000) {a a3 : Option Addr} {n c n3 c3 : Nat} {H : Hp} {K : Value → Hp → Prop} (ha : RL H a n c l) (hb : RL H a3 n3 c3 f)
    (hK : ∀ a1 n1 c1 R H', Le H H' → RL H' a1 n1 c1 R → StrictL R → IsReach m l f R → K (.slice a1 n1 c1) H') : Does Try.prog 36 [.int .i64 m, .slice a n c, .slice a3 n3 c3] H K := by
  refine spec_of cx_ok cx_mix rfl Try.func36 Try.call36 Try.ntmps36 Try.results36 rfl rfl ?_
  refine .inr ⟨List Int × List Int × List Int, fun _ => 0, fun q => ⟨[(1, .v (.slice a n c)), (3, .ptr 0 0), (7, .own 5), (8, .ptr 1 0), (10, .fn 72 [.ptr 0 0, .ptr 3 0, .ptr 1 0])],
      [(0, .cells 3 [.v (.int .i64 m)]), (1, .cells 27 [.own 4]), (2, seenB q.1), (3, .cells 88 [.mp 2]), (4, .row 3 1 (iRows q.2.1)), (5, .row 3 1 (iRows q.2.2))], 6⟩,
    fun q H' => Le H H' ∧ RInv m l f q.1 q.2.1 q.2.2, fun q => m.toNat - q.2.2.length, ?_, ?_⟩
  · refine ⟨mapOK3, ?_⟩
    refine ⟨[0, 3, 1, 2], rfl, push00_spec hb (by omega) ?_⟩
    obtain ⟨s, hs⟩ : ∃ s, s = (pst m f ([], [])).1 := ⟨_, rfl⟩
    obtain ⟨t, ht0⟩ : ∃ t, t = (pst m f ([], [])).2 := ⟨_, rfl⟩
    have hI := rinv_zero m l f
    rw [← hs, ← ht0] at hI ⊢
    have hel : (iRows t).length = t.length := List.length_map _
    have hM : s.length ≤ 1000 := by have := nodes_len hI.nd hI.node; omega
    have hpl := hI.perm.length_eq
    rw [List.nil_append] at hpl
    refine ⟨fun h => ?_, fun h => ?_⟩
    · have hpos : 0 < t.length := by have := dt h; omega
      obtain ⟨t', x, htx⟩ : ∃ t' x, t = t' ++ [x] := ⟨t.dropLast, t.getLast (by intro e; rw [e] at hpos; cases hpos), (List.dropLast_concat_getLast _).symm⟩
      have eln : (((iRows t).length : Int) - 1).toNat = t'.length := by rw [hel, htx, List.length_append, List.length_singleton]; omega
      have hgx : (iRows t)[(((iRows t).length : Int) - 1).toNat]? = some [.int .i64 x] := by rw [eln, htx]; simp
      refine ⟨⟨by omega, by omega⟩, ?_⟩
      refine ⟨⟨by omega, by omega⟩, ?_⟩
      refine ⟨_, hgx, ?_⟩
      refine ⟨⟨by omega, by omega⟩, ?_⟩
      refine .inl ⟨⟨by omega, by omega⟩, ?_⟩
      refine ⟨⟨by show 1 * 8 ≤ _; omega, by show 1 ≤ _; omega⟩, ?_⟩
      refine next_spec (by omega) ha fun a5 n5 c5 H2 hle2 hr5 => ?_
      have hg5 := gSort_len (nxt m x l)
      have hg6 := nxt_len m x l
      have hrt : (iRows t).take (((iRows t).length : Int) - 1).toNat = iRows t' := by rw [eln, htx]; simp
      refine ⟨[0, 3, 1, 2, 5], rfl, push11_spec (m := m) (seen := s) (todo := t') hr5 hrt ⟨by rw [htx] at hpl; rw [List.length_append] at hpl; omega, by omega⟩ ?_⟩
      rw [htx] at hI
      have hstep := rinv_step hI (g := gSort (nxt m x l)) (fun y => gSort_mem _ y)
      refine ⟨((pst m (gSort (nxt m x l)) (s, t')).1, (pst m (gSort (nxt m x l)) (s, t')).2, [x]), [(0, 0), (1, 1), (2, 2), (3, 3), (4, 8), (5, 7)], rfl, ?_, ⟨hle2, hstep⟩⟩
      exact ⟨⟨rfl, ⟨rfl, rfl⟩, rfl, ⟨rfl, rfl⟩, ⟨rfl, rfl⟩, trivial⟩, ⟨⟨rfl, trivial⟩, ⟨rfl, trivial⟩, rfl, ⟨rfl, trivial⟩, rfl, rfl, trivial⟩⟩
    · have ht : t = [] := List.eq_nil_of_length_eq_zero (by have := df h; omega)
      rw [ht] at hI
      obtain ⟨hR, hnd⟩ := rinv_end hI
      refine ⟨[], rfl, sortN_spec ?_⟩
      exact hK _ _ _ [] _ (Le.refl H) ⟨rfl, Nat.le_refl _, by omega, .inl rfl⟩ List.Pairwise.nil hR
  · rintro ⟨s, t, o⟩ H1 _ ⟨hle, hI⟩
    have hI : RInv m l f s t o := hI
    have hle : Le H H1 := hle
    have hel : (iRows t).length = t.length := List.length_map _
    have hM : s.length ≤ 1000 := by have := nodes_len hI.nd hI.node; omega
    have hpl := hI.perm.length_eq
    rw [List.length_append] at hpl
    refine ⟨fun h => ?_, fun h => ?_⟩
    · have hpos : 0 < t.length := by have := dt h; simp only at this; omega
      obtain ⟨t', x, rfl⟩ : ∃ t' x, t = t' ++ [x] := ⟨t.dropLast, t.getLast (by intro e; rw [e] at hpos; cases hpos), (List.dropLast_concat_getLast _).symm⟩
      have eln : (((iRows (t' ++ [x])).length : Int) - 1).toNat = t'.length := by rw [hel, List.length_append, List.length_singleton]; omega
      have hgx : (iRows (t' ++ [x]))[(((iRows (t' ++ [x])).length : Int) - 1).toNat]? = some [.int .i64 x] := by rw [eln]; simp
      have hel2 : (iRows (t' ++ [x])).length = t'.length + 1 := by rw [hel, List.length_append]; rfl
      have hpl2 : o.length + (t'.length + 1) = s.length := by rw [List.length_append] at hpl; exact hpl
      refine ⟨⟨by show _ ≤ ((iRows (t' ++ [x])).length : Int) - 1; omega, by show ((iRows (t' ++ [x])).length : Int) - 1 ≤ _; omega⟩, ?_⟩
      refine ⟨⟨by show 0 ≤ ((iRows (t' ++ [x])).length : Int) - 1; omega, by show ((iRows (t' ++ [x])).length : Int) - 1 < ((iRows (t' ++ [x])).length : Int); omega⟩, ?_⟩
      refine ⟨_, hgx, ?_⟩
      refine ⟨⟨by show _ ≤ ((iRows (t' ++ [x])).length : Int) - 1; omega, by show ((iRows (t' ++ [x])).length : Int) - 1 ≤ _; omega⟩, ?_⟩
      refine .inl ⟨⟨by show 0 ≤ ((iRows (t' ++ [x])).length : Int) - 1; omega, by show ((iRows (t' ++ [x])).length : Int) - 1 ≤ ((iRows (t' ++ [x])).length : Int); omega⟩, ?_⟩
      have heo : (iRows o).length = o.length := List.length_map _
      refine ⟨⟨by show ((iRows o).length + 1) * 8 ≤ _; omega, by show (iRows o).length + 1 ≤ _; omega⟩, ?_⟩
      refine next_spec (by omega) (ha.up hle) fun a5 n5 c5 H2 hle2 hr5 => ?_
      have hg5 := gSort_len (nxt m x l)
      have hg6 := nxt_len m x l
      have hrt : (iRows (t' ++ [x])).take (((iRows (t' ++ [x])).length : Int) - 1).toNat = iRows t' := by rw [eln]; simp
      refine ⟨[0, 3, 1, 2, 6], rfl, push11_spec (m := m) (seen := s) (todo := t') hr5 hrt ⟨by omega, by omega⟩ ?_⟩
      have erow : iRows o ++ [[.int .i64 x]] = iRows (o ++ [x]) := by simp
      have hstep := rinv_step hI (g := gSort (nxt m x l)) (fun y => gSort_mem _ y)
      refine ⟨((pst m (gSort (nxt m x l)) (s, t')).1, (pst m (gSort (nxt m x l)) (s, t')).2, o ++ [x]), [(0, 0), (1, 1), (2, 2), (3, 3), (4, 9), (5, 8)], rfl, ?_, ⟨hle.trans hle2, hstep⟩, ?_⟩
      · exact ⟨⟨rfl, ⟨rfl, rfl⟩, rfl, ⟨rfl, rfl⟩, ⟨rfl, rfl⟩, trivial⟩, ⟨⟨rfl, trivial⟩, ⟨rfl, trivial⟩, rfl, ⟨rfl, trivial⟩, rfl, erow, trivial⟩⟩
      · have := nodes_len hI.nd hI.node
        show m.toNat - (o ++ [x]).length < m.toNat - o.length
        rw [List.length_append, List.length_singleton]
        omega
    · have ht : t = [] := List.eq_nil_of_length_eq_zero (by have := df h; simp only at this; omega)
      subst ht
      obtain ⟨hR, hnd⟩ := rinv_end hI
      have hol : o.length ≤ 1000 := by rw [List.length_nil] at hpl; omega
      refine ⟨[5], rfl, sortI_spec (l := o) (by omega) fun l' hl' hp hg => ?_⟩
      intro y H2 hle2 hy
      rw [gComp_nodup (hp.nodup_iff.2 hnd)] at hg
      subst hg
      have hin : ∀ z ∈ gSort o, inI z := fun z hz => by
        have h1 := dt (hI.node z (hI.perm.mem_iff.1 (by simpa using (gSort_mem o z).1 hz)))
        exact ⟨by omega, by omega⟩
      obtain ⟨a1, n1, c1, rfl, hr⟩ := rI_all hy hin
      refine hK _ _ _ _ _ (hle.trans hle2) hr (gSort_strict o) ⟨fun z hz hn => (gSort_mem o z).2 (hR.from' z hz hn), fun z hz w hw => (gSort_mem o w).2 (hR.closed z ((gSort_mem o z).1 hz) w hw), fun S h1 h2 z hz => hR.least S h1 h2 z ((gSort_mem o z).1 hz)⟩
end Go.Proofs
end
section
namespace Go.Proofs
open Go.Sy
set_option maxRecDepth 20000
theorem rev_rev (l : List Edg) : gSort (revL (gSort (revL l))) = gSort l := by
  refine gSort_eq (gSort_strict _) fun t => ?_
  rw [gSort_mem]
  constructor
  · intro h
    obtain ⟨u, hu, rfl⟩ := List.mem_map.1 h
    obtain ⟨v, hv, rfl⟩ := List.mem_map.1 ((gSort_mem _ u).1 hu)
    exact hv
  · intro h
    exact List.mem_map.2 ⟨swp t, (gSort_mem _ _).2 (List.mem_map.2 ⟨t, h, rfl⟩), rfl⟩
theorem strict_nodup {α : Type} [LO α] {l : List α} (h : StrictL l) : l.Nodup := h.imp fun {x y} h e => by
  rw [e] at h
  exact LO.irrefl y h
theorem FlowTurns_spec {m : Int} {l : List Edg} {f : List Int} {a a3 : Option Addr} {n c n3 c3 : Nat} {H : Hp} {K : Value → Hp → Prop} (ha : RL H a n c l) (hb : RL H a3 n3 c3 f) (hK : ∀ H', Le H H' → K (.bool true) H') :
    Does Try.prog 7 [.int .i64 m, .slice a n c, .slice a3 n3 c3] H K := by
  have hn3 := hb.n_eq
  refine spec_of cx_ok cx_mix rfl Try.func7 Try.call7 Try.ntmps7 Try.results7 rfl rfl ?_
  refine awake_spec fun _ _ => ?_
  refine ⟨(fun h => by cases h), fun _ => ?_⟩
  refine few_spec ha fun b hfew => ?_
  refine ⟨fun h => ?_, fun h => hK _ (Le.refl H)⟩
  obtain ⟨hm, hl⟩ := hfew (by simpa using h)
  refine ⟨fun h => hK _ (Le.refl H), fun h => ?_⟩
  have hf : f.length ≤ 40 := by have := df h; omega
  refine reached_spec (by omega) (by omega) (by omega) ha hb fun a1 n1 c1 R H1 hle1 hr1 hR1 hR2 => ?_
  have hrl := gSort_len (revL l)
  rw [List.length_map] at hrl
  have hnR : R.length ≤ 1000 := by
    have := nodes_len (s := R) (m := m) (strict_nodup hR1) hR2.node
    omega
  refine reverse_spec (by omega) (ha.up hle1) fun a4 n4 c4 H4 hle4 hr4 => ?_
  refine reverse_spec (by omega) hr4 fun a5 n5 c5 H5 hle5 hr5 => ?_
  refine sorted_spec (by omega) ((ha.up hle1).up (hle4.trans hle5)) fun a6 n6 c6 H6 hle6 hr6 => ?_
  rw [rev_rev] at hr5
  refine same_spec (hr5.up hle6) hr6 ?_
  have hle16 := (hle4.trans hle5).trans hle6
  refine ⟨fun _ => ?_, fun h => by simp at h⟩
  refine reached_spec (by omega) (by omega) (by omega) ((ha.up hle1).up hle16) (hr1.up hle16) fun a7 n7 c7 R' H7 hle7 hr7 hS1 hS2 => ?_
  have hRR : R' = R := strict_ext hS1 hR1 (hR2.again hS2)
  subst hRR
  refine ints_spec hr7 ((hr1.up hle16).up hle7) ?_
  refine ⟨fun h => by simp at h, fun _ => ?_⟩
  have hn1 := hr1.n_eq
  have hmx1 := hr1.le
  have hle17 := hle16.trans hle7
  refine ⟨Nat, fun i => ⟨[(0, .v (.int .i64 m)), (1, .v (.slice a n c)), (7, .v (.slice a1 n1 c1)), (43, .v (.slice a1 n1 c1)), (44, .v (.int .i64 n1)), (45, .v (.int .i64 i))], [], 0⟩,
    fun i H' => Le H7 H' ∧ i ≤ R'.length, fun i => R'.length - i, ⟨0, [], ?_, Le.refl H7, by omega⟩, ?_⟩
  · exact ⟨⟨rfl, rfl, rfl, rfl, rfl, rfl, trivial⟩, trivial⟩
  rintro i H8 _ ⟨hle8, hi⟩
  have hr18 := (hr1.up hle17).up hle8
  have ha8 := ((ha.up hle1).up hle17).up hle8
  refine ⟨fun h => ?_, fun h => ?_⟩
  · have hlt : i < R'.length := by have := dt h; omega
    obtain ⟨ad, cs, q1, hh, r1⟩ := hr18.elem (List.getElem?_eq_getElem hlt)
    obtain ⟨rfl, r2⟩ := r1
    refine ⟨ad, ⟨by omega, by omega, q1⟩, ?_⟩
    refine ⟨_, hh, ?_⟩
    refine next_spec (by omega) ha8 fun a9 n9 c9 H9 hle9 hr9 => ?_
    have hn9 := hr9.n_eq
    have hmx9 := hr9.le
    refine ⟨Nat, fun j => ⟨[(0, .v (.int .i64 m)), (1, .v (.slice a n c)), (7, .v (.slice a1 n1 c1)), (43, .v (.slice a1 n1 c1)), (44, .v (.int .i64 n1)), (45, .v (.int .i64 i)), (52, .v (.slice a9 n9 c9)), (53, .v (.int .i64 n9)), (54, .v (.int .i64 j))], [], 0⟩,
      fun j H' => H' = H9 ∧ j ≤ (gSort (nxt m R'[i] l)).length, fun j => (gSort (nxt m R'[i] l)).length - j, ⟨0, [], ?_, rfl, by omega⟩, ?_⟩
    · exact ⟨⟨rfl, rfl, rfl, rfl, rfl, rfl, rfl, rfl, rfl, trivial⟩, trivial⟩
    rintro j H10 _ ⟨rfl, hj⟩
    refine ⟨fun h => ?_, fun h => ?_⟩
    · have hltj : j < (gSort (nxt m R'[i] l)).length := by have := dt h; omega
      obtain ⟨ad2, cs2, q2, hh2, r3⟩ := hr9.elem (List.getElem?_eq_getElem hltj)
      obtain ⟨rfl, r4⟩ := r3
      refine ⟨ad2, ⟨by omega, by omega, q2⟩, ?_⟩
      refine ⟨_, hh2, ?_⟩
      have hin : (gSort (nxt m R'[i] l))[j] ∈ R' := hR2.closed _ (List.getElem_mem hlt) _ ((gSort_mem _ _).1 (List.getElem_mem hltj))
      refine in_spec (hr18.up hle9) ?_
      refine ⟨(fun h => by rw [decide_eq_true hin] at h; cases h), fun _ => ?_⟩
      refine ⟨⟨by omega, by omega⟩, j + 1, [], ?_, ⟨rfl, by omega⟩, by dsimp only; omega⟩
      exact ⟨⟨rfl, rfl, rfl, rfl, rfl, rfl, rfl, rfl, rfl, trivial⟩, trivial⟩
    · refine ⟨⟨by omega, by omega⟩, i + 1, [], ?_, ⟨hle8.trans hle9, by omega⟩, by dsimp only; omega⟩
      exact ⟨⟨rfl, rfl, rfl, rfl, rfl, rfl, trivial⟩, trivial⟩
  · exact hK _ ((hle1.trans hle17).trans hle8)
end Go.Proofs
end
section
namespace Go.Proofs
open Go.Sy
set_option maxRecDepth 20000
theorem room {n k : Nat} (h : n ≤ 1000000000000 := by omega) (hk : k ≤ 64 := by decide) : (n + 1) * k ≤ 140737488355328 ∧ n + 1 ≤ 9223372036854775807 := by
  have := Nat.mul_le_mul_left (n + 1) hk
  omega
theorem has_spec {l : List Edg} {x y : Int} {a : Option Addr} {n c : Nat} {H : Hp} {K : Value → Hp → Prop} (ha : RL H a n c l)
    (hK : K (.bool (decide ((x, y) ∈ l))) H) : Does Try.prog 84 [.slice a n c, .int .i64 x, .int .i64 y] H K := by
  have hn1 := ha.n_eq
  have hmx := ha.le
  refine spec_of cx_ok cx_mix rfl Try.func84 Try.call84 Try.ntmps84 Try.results84 rfl rfl ?_
  refine ⟨Nat, fun i => ⟨[(1, .v (.int .i64 x)), (2, .v (.int .i64 y)), (9, .v (.slice a n c)), (10, .v (.int .i64 n)), (11, .v (.int .i64 i))], [], 0⟩,
    fun i H' => H' = H ∧ i ≤ l.length ∧ ∀ e ∈ l.take i, e ≠ (x, y), fun i => l.length - i, ⟨0, [], ?_, rfl, by omega, by simp⟩, ?_⟩
  · exact ⟨⟨rfl, rfl, rfl, rfl, rfl, trivial⟩, trivial⟩
  rintro i H1 _ ⟨rfl, hi, hx⟩
  refine ⟨fun h => ?_, fun h => ?_⟩
  · have hlt : i < l.length := by have := dt h; omega
    obtain ⟨ad, cs, q1, hh, r1⟩ := ha.elem (List.getElem?_eq_getElem hlt)
    obtain ⟨rfl, -⟩ := edge_open r1
    have hno : l[i] ≠ (x, y) → ∀ e ∈ l.take (i + 1), e ≠ (x, y) := mem_take_succ (List.getElem?_eq_getElem hlt) hx
    refine ⟨ad, ⟨by omega, by omega, q1⟩, ?_⟩
    refine ⟨_, hh, ?_⟩
    refine ⟨fun h => ?_, fun h => ?_⟩
    · have h1 : l[i].1 = x := dt h
      refine ⟨fun h => ?_, fun h => ?_⟩
      · have h2 : l[i].2 = y := dt h
        refine kbool hK ?_
        have he : l[i] = (x, y) := Prod.ext h1 h2
        exact decide_eq_true (he ▸ List.getElem_mem hlt)
      · have h2 : ¬ l[i].2 = y := df h
        refine ⟨⟨by omega, by omega⟩, i + 1, [], ?_, ⟨rfl, by omega, hno fun e => h2 (by rw [e])⟩, by dsimp only; omega⟩
        exact ⟨⟨rfl, rfl, rfl, rfl, rfl, trivial⟩, trivial⟩
    · have h1 : ¬ l[i].1 = x := df h
      refine ⟨⟨by omega, by omega⟩, i + 1, [], ?_, ⟨rfl, by omega, hno fun e => h1 (by rw [e])⟩, by dsimp only; omega⟩
      exact ⟨⟨rfl, rfl, rfl, rfl, rfl, trivial⟩, trivial⟩
  · have hil : i = l.length := by have := df h; omega
    rw [hil, List.take_length] at hx
    refine kbool hK ?_
    exact decide_eq_false fun h => hx _ h rfl
theorem rright_spec {m : Int} {l : List Edg} {a : Option Addr} {n c : Nat} {H : Hp} {K : Value → Hp → Prop} (ha : RL H a n c l)
    (hK : K (.bool (rightE m l)) H) : Does Try.prog 29 [.int .i64 m, .slice a n c] H K := by
  have hn1 := ha.n_eq
  have hmx := ha.le
  refine spec_of cx_ok cx_mix rfl Try.func29 Try.call29 Try.ntmps29 Try.results29 rfl rfl ?_
  refine ⟨fun h => ?_, fun h => ?_⟩
  · have h1 : ¬ m < 1 := df h
    refine ⟨fun h => ?_, fun h => ?_⟩
    · have h2 : ¬ m > 256 := df h
      refine ⟨fun h => ?_, fun h => ?_⟩
      · have h3 : ¬ l.length ≤ 1024 := by have := dt h; omega
        refine kbool hK ?_
        rw [rightE, decide_eq_false h3]; simp
      · have h3 : l.length ≤ 1024 := by have := df h; omega
        have hK' : K (.bool (!decide (0 ≤ idxB (badE m) l 0))) H := by
          rw [rightE, decide_eq_true h3, decide_eq_true (by omega : 1 ≤ m), decide_eq_true (by omega : m ≤ 256)] at hK
          exact hK
        refine ⟨Nat, fun i => ⟨[(0, .v (.int .i64 m)), (18, .v (.slice a n c)), (19, .v (.int .i64 n)), (20, .v (.int .i64 i))], [], 0⟩,
          fun i H' => H' = H ∧ i ≤ l.length ∧ ∀ e ∈ l.take i, badE m e = false, fun i => l.length - i, ⟨0, [], ?_, rfl, by omega, by simp⟩, ?_⟩
        · exact ⟨⟨rfl, rfl, rfl, rfl, trivial⟩, trivial⟩
        rintro i H1 _ ⟨rfl, hi, hx⟩
        have hbad : ∀ h : i < l.length, badE m l[i] = true → K (.bool false) H1 := fun hlt hb => by
          have := (idxB_none (f := badE m) l 0 (by omega)).2 ⟨_, List.getElem_mem hlt, hb⟩
          rw [decide_eq_true this] at hK'
          exact hK'
        refine ⟨fun h => ?_, fun h => ?_⟩
        · have hlt : i < l.length := by have := dt h; omega
          obtain ⟨ad, cs, q1, hh, r1⟩ := ha.elem (List.getElem?_eq_getElem hlt)
          obtain ⟨rfl, -⟩ := edge_open r1
          have hb := hbad hlt
          have hno : badE m l[i] = false → ∀ e ∈ l.take (i + 1), badE m e = false := mem_take_succ (List.getElem?_eq_getElem hlt) hx
          refine ⟨ad, ⟨by omega, by omega, q1⟩, ?_⟩
          refine ⟨_, hh, ?_⟩
          refine ⟨fun h => ?_, fun h => ?_⟩
          · have k1 : ¬ l[i].1 < 0 := df h
            refine ⟨fun h => ?_, fun h => ?_⟩
            · have k2 : ¬ l[i].1 ≥ m := df h
              refine ⟨fun h => ?_, fun h => ?_⟩
              · have k3 : ¬ l[i].2 < 0 := df h
                refine ⟨fun h => ?_, fun h => ?_⟩
                · have k4 : l[i].2 ≥ m := dt h
                  exact hb (by simp [badE]; omega)
                · have k4 : ¬ l[i].2 ≥ m := df h
                  refine ⟨⟨by omega, by omega⟩, i + 1, [], ?_, ⟨rfl, by omega, hno (by simp [badE]; omega)⟩, by dsimp only; omega⟩
                  exact ⟨⟨rfl, rfl, rfl, rfl, trivial⟩, trivial⟩
              · have k3 : l[i].2 < 0 := dt h
                exact hb (by simp [badE]; omega)
            · have k2 : l[i].1 ≥ m := dt h
              exact hb (by simp [badE]; omega)
          · have k1 : l[i].1 < 0 := dt h
            exact hb (by simp [badE]; omega)
        · have hil : i = l.length := by have := df h; omega
          rw [hil, List.take_length] at hx
          have : ¬ 0 ≤ idxB (badE m) l 0 := fun h => by
            obtain ⟨e, he, hb⟩ := (idxB_none (f := badE m) l 0 (by omega)).1 h
            rw [hx e he] at hb; cases hb
          rw [decide_eq_false this] at hK'
          exact hK'
    · have h2 : ¬ m ≤ 256 := by have := dt h; omega
      refine kbool hK ?_
      rw [rightE, decide_eq_false h2]; simp
  · have h1 : ¬ 1 ≤ m := by have := dt h; omega
    refine kbool hK ?_
    rw [rightE, decide_eq_false h1]; simp
/-- The document's list of those that follow. -/
def rnxt (m x : Int) (l : List Edg) (k : Nat) : List Int := ((List.range k).filter fun (j : Nat) => decide ((x, (j : Int)) ∈ l)).map fun (j : Nat) => (j : Int)
theorem rnxt_snoc (m x : Int) (l : List Edg) (k : Nat) : rnxt m x l (k + 1) = rnxt m x l k ++ (if (x, (k : Int)) ∈ l then [(k : Int)] else []) := by
  rw [rnxt, rnxt, List.range_succ, List.filter_append, List.map_append]
  congr 1
  by_cases h : (x, (k : Int)) ∈ l
  · rw [if_pos h, List.filter_cons_of_pos (by exact decide_eq_true h)]; rfl
  · rw [if_neg h, List.filter_cons_of_neg (by rw [decide_eq_false h]; decide)]; rfl
theorem rnxt_len (m x : Int) (l : List Edg) (k : Nat) : (rnxt m x l k).length ≤ k := by
  rw [rnxt, List.length_map]
  have := List.length_filter_le (fun (j : Nat) => decide ((x, (j : Int)) ∈ l)) (List.range k)
  rwa [List.length_range] at this
theorem rnxt_eq {m x : Int} {l : List Edg} (hx : nodeI m x = true) : rnxt m x l m.toNat = gSort (nxt m x l) := by
  refine gSort_eq ?_ fun t => ?_
  · rw [rnxt, StrictL, List.pairwise_map]
    refine (List.Pairwise.filter _ List.pairwise_lt_range).imp fun {a b} h => ?_
    show (a : Int) < (b : Int)
    omega
  · rw [nxt_mem]
    simp only [rnxt, List.mem_map, List.mem_filter, List.mem_range, decide_eq_true_eq]
    constructor
    · rintro ⟨j, ⟨h1, h2⟩, rfl⟩
      exact ⟨h2, hx, decide_eq_true (by omega)⟩
    · rintro ⟨h1, _, h3⟩
      have := dt h3
      exact ⟨t.toNat, ⟨by omega, by rw [Int.toNat_of_nonneg (by omega)]; exact h1⟩, by omega⟩
theorem nxt_none {m x : Int} {l : List Edg} (hx : nodeI m x = false) : nxt m x l = [] := by
  rw [nxt, List.filter_eq_nil_iff.2 (fun e _ => by rw [goesE, hx]; simp)]; rfl
theorem rnext_spec {m x : Int} (hm : m ≤ 1000) {l : List Edg} {a : Option Addr} {n c : Nat} {H : Hp} {K : Value → Hp → Prop} (ha : RL H a n c l)
    (hK : ∀ a1 n1 c1 H', Le H H' → RL H' a1 n1 c1 (gSort (nxt m x l)) → K (.slice a1 n1 c1) H') : Does Try.prog 44 [.int .i64 m, .slice a n c, .int .i64 x] H K := by
  refine spec_of cx_ok cx_mix rfl Try.func44 Try.call44 Try.ntmps44 Try.results44 rfl rfl ?_
  refine ⟨Nat, fun i => ⟨[(0, .v (.int .i64 m)), (1, .v (.slice a n c)), (2, .v (.int .i64 x)), (7, .own 0), (8, .v (.int .i64 i))], [(0, .row 3 1 (iRows (if nodeI m x then rnxt m x l i else [])))], 1⟩,
    fun i H' => H' = H ∧ (0 < i → i ≤ m.toNat), fun i => m.toNat - i, ⟨0, [], ?_, rfl, by omega⟩, ?_⟩
  · have e0 : iRows (if nodeI m x then rnxt m x l 0 else []) = [] := by split <;> rfl
    exact ⟨⟨rfl, rfl, rfl, ⟨rfl, rfl, e0⟩, rfl, trivial⟩, ⟨e0, trivial⟩⟩
  rintro i H1 _ ⟨rfl, hi⟩
  have hlen : (iRows (if nodeI m x then rnxt m x l i else [])).length ≤ i := by
    rw [List.length_map]
    split
    · exact rnxt_len m x l i
    · exact Nat.zero_le _
  have hend : ∀ R : List Int, (if nodeI m x then rnxt m x l i else []) = R → (nodeI m x = true → i = m.toNat) → R = gSort (nxt m x l) := fun R hR hn => by
    subst hR
    split
    · rename_i h1
      rw [hn h1]; exact rnxt_eq h1
    · rename_i h1
      rw [nxt_none (by simpa using h1)]; rfl
  refine ⟨fun h => ?_, fun h => ?_⟩
  · have h1 : (i : Int) < m := dt h
    refine ⟨fun h => ?_, fun h => ?_⟩
    · have h2 : 0 ≤ x := dt h
      refine ⟨fun h => ?_, fun h => ?_⟩
      · have h3 : x < m := dt h
        have hx : nodeI m x = true := decide_eq_true ⟨h2, h3⟩
        rw [if_pos hx] at hlen
        have hs := rnxt_snoc m x l i
        refine has_spec ha ?_
        have hlen2 := hlen
        refine ⟨fun h => ?_, fun h => ?_⟩
        · have hin : (x, (i : Int)) ∈ l := dt h
          rw [if_pos hin] at hs
          have erow : iRows (if nodeI m x then rnxt m x l i else []) ++ [[.int .i64 (i : Int)]] = iRows (if nodeI m x then rnxt m x l (i + 1) else []) := by rw [if_pos hx, if_pos hx, hs]; simp
          rw [← if_pos (c := nodeI m x = true) (t := rnxt m x l i) (e := []) hx] at hlen
          refine ⟨room, ?_⟩
          refine ⟨⟨by omega, by omega⟩, i + 1, [(0, 2)], ?_, ⟨rfl, by omega⟩, by dsimp only; omega⟩
          (repeat' (first | exact trivial | refine ⟨?_, ?_⟩ | exact rfl | assumption))
        · have hin : ¬ (x, (i : Int)) ∈ l := df h
          rw [if_neg hin, List.append_nil] at hs
          have erow : iRows (if nodeI m x then rnxt m x l i else []) = iRows (if nodeI m x then rnxt m x l (i + 1) else []) := by rw [if_pos hx, if_pos hx, hs]
          refine ⟨⟨by omega, by omega⟩, i + 1, [(0, 0)], ?_, ⟨rfl, by omega⟩, by dsimp only; omega⟩
          exact ⟨⟨rfl, rfl, rfl, rfl, rfl, trivial⟩, ⟨erow, trivial⟩⟩
      · have h3 : ¬ x < m := df h
        intro y H2 hle2 hy
        have hin : ∀ z ∈ gSort (nxt m x l), inI z := fun z hz => nxt_in (RLe_all ha) z ((gSort_mem _ z).1 hz)
        rw [hend _ rfl (fun h => absurd (dt h).2 h3)] at hy
        obtain ⟨a1, n1, c1, rfl, hr⟩ := rI_all hy hin
        exact hK _ _ _ _ hle2 hr
    · have h2 : ¬ 0 ≤ x := df h
      intro y H2 hle2 hy
      have hin : ∀ z ∈ gSort (nxt m x l), inI z := fun z hz => nxt_in (RLe_all ha) z ((gSort_mem _ z).1 hz)
      rw [hend _ rfl (fun h => absurd (dt h).1 h2)] at hy
      obtain ⟨a1, n1, c1, rfl, hr⟩ := rI_all hy hin
      exact hK _ _ _ _ hle2 hr
  · have h1 : ¬ (i : Int) < m := df h
    intro y H2 hle2 hy
    have hin : ∀ z ∈ gSort (nxt m x l), inI z := fun z hz => nxt_in (RLe_all ha) z ((gSort_mem _ z).1 hz)
    rw [hend _ rfl (fun h => by have := dt h; omega)] at hy
    obtain ⟨a1, n1, c1, rfl, hr⟩ := rI_all hy hin
    exact hK _ _ _ _ hle2 hr
end Go.Proofs
end
section
namespace Go.Proofs
open Go.Sy
/-! The document's way to what is reached: marks, turned in as many rounds as there are nodes. -/
def bget (M : List Bool) (x : Int) : Bool := M[x.toNat]?.getD false
def relax (m : Int) (M : List Bool) (e : Edg) : List Bool := if nodeI m e.1 && nodeI m e.2 && bget M e.1 then M.set e.2.toNat true else M
def round (m : Int) (l : List Edg) (M : List Bool) : List Bool := l.foldl (relax m) M
def LeM (M M' : List Bool) : Prop := M.length = M'.length ∧ ∀ i : Nat, M[i]? = some true → M'[i]? = some true
theorem LeM.refl (M : List Bool) : LeM M M := ⟨rfl, fun _ h => h⟩
theorem LeM.trans {A B C : List Bool} (h : LeM A B) (h' : LeM B C) : LeM A C := ⟨h.1.trans h'.1, fun i hi => h'.2 i (h.2 i hi)⟩
theorem bget_true {M : List Bool} {x : Int} : bget M x = true ↔ M[x.toNat]? = some true := by
  rw [bget]
  cases M[x.toNat]? with
  | none => simp
  | some b => cases b <;> simp
theorem LeM.get {M M' : List Bool} (h : LeM M M') {x : Int} (hx : bget M x = true) : bget M' x = true := bget_true.2 (h.2 _ (bget_true.1 hx))
theorem LeM.set (M : List Bool) (k : Nat) : LeM M (M.set k true) := by
  refine ⟨(List.length_set).symm, fun i hi => ?_⟩
  rw [List.getElem?_set]
  split
  · rename_i e
    subst e
    rw [if_pos (List.getElem?_eq_some_iff.1 hi).1]
  · exact hi
theorem relax_le (m : Int) (M : List Bool) (e : Edg) : LeM M (relax m M e) := by
  rw [relax]; split
  · exact LeM.set _ _
  · exact LeM.refl _
theorem round_le (m : Int) : ∀ (l : List Edg) (M : List Bool), LeM M (round m l M)
  | [], M => LeM.refl M
  | e :: r, M => (relax_le m M e).trans (round_le m r (relax m M e))
theorem LeM.count : ∀ {M M' : List Bool}, LeM M M' → M.count true ≤ M'.count true ∧ (M.count true = M'.count true → M = M')
  | [], [], _ => ⟨Nat.le_refl _, fun _ => rfl⟩
  | [], _ :: _, h => by cases h.1
  | _ :: _, [], h => by cases h.1
  | a :: M, b :: M', h => by
    have h2 := LeM.count (M := M) (M' := M') ⟨by simpa using h.1, fun i hi => by simpa using h.2 (i + 1) (by simpa using hi)⟩
    have h0 := h.2 0
    simp only [List.getElem?_cons_zero, Option.some.injEq] at h0
    cases a <;> cases b
    · refine ⟨by simpa using h2.1, fun e => ?_⟩
      rw [h2.2 (by simpa using e)]
    · simp only [List.count_cons, beq_self_eq_true, if_true]
      refine ⟨by simp; omega, fun e => ?_⟩
      simp at e
      omega
    · exact absurd (h0 rfl) (by decide)
    · simp only [List.count_cons, beq_self_eq_true, if_true]
      refine ⟨by omega, fun e => ?_⟩
      rw [h2.2 (by omega)]
def rounds (m : Int) (l : List Edg) (M : List Bool) : Nat → List Bool
  | 0 => M
  | k + 1 => round m l (rounds m l M k)
theorem rounds_len (m : Int) (l : List Edg) (M : List Bool) : ∀ k, (rounds m l M k).length = M.length
  | 0 => rfl
  | k + 1 => by rw [rounds, ← (round_le m l _).1, rounds_len m l M k]
theorem rounds_le (m : Int) (l : List Edg) (M : List Bool) : ∀ k, LeM M (rounds m l M k)
  | 0 => LeM.refl M
  | k + 1 => (rounds_le m l M k).trans (round_le m l _)
theorem rounds_grow (m : Int) (l : List Edg) (M : List Bool) : ∀ k, round m l (rounds m l M k) = rounds m l M k ∨ k ≤ (rounds m l M k).count true
  | 0 => .inr (Nat.zero_le _)
  | k + 1 => by
    rcases rounds_grow m l M k with h | h
    · left
      rw [rounds, h, h]
    · have h2 := (round_le m l (rounds m l M k)).count
      by_cases e : (rounds m l M k).count true = (round m l (rounds m l M k)).count true
      · left
        have := h2.2 e
        rw [rounds, ← this, ← this]
      · right
        rw [rounds]
        omega
theorem count_full : ∀ {M : List Bool}, M.length ≤ M.count true → ∀ i : Nat, i < M.length → M[i]? = some true
  | [], _, i, hi => by cases hi
  | b :: M, h, i, hi => by
    have hc : M.count true ≤ M.length := List.count_le_length
    cases b
    · simp at h
      omega
    · match i with
      | 0 => rfl
      | i + 1 =>
        rw [List.getElem?_cons_succ]
        refine count_full ?_ i (by simpa using hi)
        simpa using h
/-- Closed under the edges. -/
def ClosedM (m : Int) (l : List Edg) (M : List Bool) : Prop := ∀ e ∈ l, nodeI m e.1 = true → nodeI m e.2 = true → bget M e.1 = true → bget M e.2 = true
theorem leM_anti {A B : List Bool} (h : LeM A B) (h' : LeM B A) : A = B := h.count.2 (Nat.le_antisymm h.count.1 h'.count.1)
theorem closed_of_round {m : Int} : ∀ (l : List Edg) {M : List Bool}, M.length = m.toNat → round m l M = M → ClosedM m l M
  | [], _, _, _ => fun e he => by cases he
  | a :: r, M, hl, h => by
    have h1 : relax m M a = M := by
      refine leM_anti ?_ (relax_le m M a)
      have h2 := round_le m r (relax m M a)
      rw [show round m r (relax m M a) = M from h] at h2
      exact h2
    have h3 : round m r M = M := by
      have : round m r (relax m M a) = M := h
      rwa [h1] at this
    intro e he g1 g2 g3
    rcases List.mem_cons.1 he with rfl | he
    · rw [relax, if_pos (by rw [g1, g2, g3]; rfl)] at h1
      rw [bget_true, ← h1, List.getElem?_set_self]
      have := dt g2
      omega
    · exact closed_of_round r hl h3 e he g1 g2 g3
theorem closed_rounds {m : Int} (l : List Edg) {M : List Bool} (hl : M.length = m.toNat) : ClosedM m l (rounds m l M m.toNat) := by
  have hln := rounds_len m l M m.toNat
  rcases rounds_grow m l M m.toNat with h | h
  · exact closed_of_round l (by omega) h
  · intro e _ _ g2 _
    rw [bget_true]
    have := dt g2
    exact count_full (by omega) _ (by omega)
/-- Marks that are reached. -/
def SoundM (S : Int → Prop) (m : Int) (M : List Bool) : Prop := ∀ x, nodeI m x = true → bget M x = true → S x
theorem sound_relax {S : Int → Prop} {m : Int} {l : List Edg} (hS : ∀ x, S x → ∀ y ∈ nxt m x l, S y) {M : List Bool} (h : SoundM S m M) {e : Edg} (he : e ∈ l) : SoundM S m (relax m M e) := by
  rw [relax]; split
  · rename_i hc
    simp only [Bool.and_eq_true] at hc
    obtain ⟨⟨g1, g2⟩, g3⟩ := hc
    intro x hx hb
    rw [bget_true, List.getElem?_set] at hb
    split at hb
    · rename_i hk
      have h1 := dt hx
      have h2 := dt g2
      obtain rfl : e.2 = x := by omega
      exact hS _ (h _ g1 g3) _ (nxt_mem.2 ⟨he, g1, g2⟩)
    · exact h x hx (bget_true.2 hb)
  · exact h
theorem sound_round {S : Int → Prop} {m : Int} {l : List Edg} (hS : ∀ x, S x → ∀ y ∈ nxt m x l, S y) : ∀ (r : List Edg) {M : List Bool}, (∀ e ∈ r, e ∈ l) → SoundM S m M → SoundM S m (round m r M)
  | [], _, _, h => h
  | e :: r, M, hr, h => sound_round hS r (fun x hx => hr x (List.mem_cons_of_mem _ hx)) (sound_relax hS h (hr e List.mem_cons_self))
theorem sound_rounds {S : Int → Prop} {m : Int} {l : List Edg} (hS : ∀ x, S x → ∀ y ∈ nxt m x l, S y) {M : List Bool} (h : SoundM S m M) : ∀ k, SoundM S m (rounds m l M k)
  | 0 => h
  | k + 1 => sound_round hS l (fun _ h => h) (sound_rounds hS h k)
/-- The first marks. -/
def mark (m : Int) (M : List Bool) (x : Int) : List Bool := if nodeI m x then M.set x.toNat true else M
def marks (m : Int) (f : List Int) (M : List Bool) : List Bool := f.foldl (mark m) M
theorem marks_len (m : Int) : ∀ (f : List Int) (M : List Bool), (marks m f M).length = M.length
  | [], _ => rfl
  | x :: f, M => by
    rw [marks, List.foldl_cons, ← marks, marks_len, mark]
    split
    · exact List.length_set
    · rfl
theorem marks_get {m : Int} : ∀ {f : List Int} {M : List Bool} {x : Int}, M.length = m.toNat → nodeI m x = true → (bget (marks m f M) x = true ↔ x ∈ f ∨ bget M x = true)
  | [], M, x, _, _ => by simp [marks]
  | y :: f, M, x, hl, hx => by
    have hl2 : (mark m M y).length = m.toNat := by rw [mark]; split <;> simp [hl]
    rw [marks, List.foldl_cons, ← marks, marks_get (f := f) hl2 hx, List.mem_cons]
    have h1 := dt hx
    have : bget (mark m M y) x = true ↔ x = y ∨ bget M x = true := by
      rw [mark]
      by_cases hy : nodeI m y = true
      · have h2 := dt hy
        rw [if_pos hy, bget_true, bget_true, List.getElem?_set]
        by_cases e : y.toNat = x.toNat
        · rw [if_pos e, if_pos (by omega)]
          exact ⟨fun _ => .inl (by omega), fun _ => rfl⟩
        · rw [if_neg e]
          exact ⟨.inr, fun h => h.resolve_left (fun h3 => e (by rw [h3]))⟩
      · rw [if_neg hy]
        refine ⟨.inr, fun h => h.resolve_left (fun h3 => hy (h3 ▸ hx))⟩
    rw [this]
    constructor
    · rintro (h | h | h)
      · exact .inl (.inr h)
      · exact .inl (.inl h)
      · exact .inr h
    · rintro ((h | h) | h)
      · exact .inr (.inl h)
      · exact .inl h
      · exact .inr (.inr h)
/-- The nodes that are marked. -/
def told (M : List Bool) (k : Nat) : List Int := ((List.range k).filter fun (j : Nat) => bget M (j : Int)).map fun (j : Nat) => (j : Int)
theorem told_snoc (M : List Bool) (k : Nat) : told M (k + 1) = told M k ++ (if bget M (k : Int) then [(k : Int)] else []) := by
  rw [told, told, List.range_succ, List.filter_append, List.map_append]
  congr 1
  by_cases h : bget M (k : Int) = true
  · rw [if_pos h, List.filter_cons_of_pos (by exact h)]; rfl
  · rw [if_neg h, List.filter_cons_of_neg (by exact h)]; rfl
theorem told_len (M : List Bool) (k : Nat) : (told M k).length ≤ k := by
  rw [told, List.length_map]
  have := List.length_filter_le (fun (j : Nat) => bget M (j : Int)) (List.range k)
  rwa [List.length_range] at this
theorem told_strict (M : List Bool) (k : Nat) : StrictL (told M k) := by
  rw [told, StrictL, List.pairwise_map]
  refine (List.Pairwise.filter _ List.pairwise_lt_range).imp fun {a b} h => ?_
  show (a : Int) < (b : Int)
  omega
theorem told_mem {M : List Bool} {m : Int} {x : Int} : x ∈ told M m.toNat ↔ nodeI m x = true ∧ bget M x = true := by
  simp only [told, List.mem_map, List.mem_filter, List.mem_range]
  constructor
  · rintro ⟨j, ⟨h1, h2⟩, rfl⟩
    exact ⟨decide_eq_true (by omega), h2⟩
  · rintro ⟨h1, h2⟩
    have := dt h1
    exact ⟨x.toNat, ⟨by omega, by rw [Int.toNat_of_nonneg (by omega)]; exact h2⟩, by omega⟩
theorem zero_get (k : Nat) (x : Int) : bget (List.replicate k false) x = false := by
  rw [bget, List.getElem?_replicate]
  split <;> rfl
theorem told_reach (m : Int) (l : List Edg) (f : List Int) : IsReach m l f (told (rounds m l (marks m f (List.replicate m.toNat false)) m.toNat) m.toNat) := by
  obtain ⟨M, hM⟩ : ∃ M, M = marks m f (List.replicate m.toNat false) := ⟨_, rfl⟩
  have hl : M.length = m.toNat := by rw [hM, marks_len, List.length_replicate]
  rw [← hM]
  have hg : ∀ x, nodeI m x = true → (bget M x = true ↔ x ∈ f) := fun x hx => by
    rw [hM, marks_get (List.length_replicate) hx, zero_get]
    simp
  refine ⟨fun x hx hn => told_mem.2 ⟨hn, (rounds_le m l M _).get ((hg x hn).2 hx)⟩, fun x hx y hy => ?_, fun S h1 h2 x hx => ?_⟩
  · obtain ⟨g1, g2, g3⟩ := nxt_mem.1 hy
    exact told_mem.2 ⟨g3, closed_rounds l hl (x, y) g1 g2 g3 (told_mem.1 hx).2⟩
  · obtain ⟨g1, g2⟩ := told_mem.1 hx
    exact sound_rounds h2 (fun y hy hb => h1 y ((hg y hy).1 hb) hy) _ x g1 g2
end Go.Proofs
end
section
namespace Go.Proofs
open Go.Sy
set_option maxRecDepth 20000
set_option maxHeartbeats 4000000
abbrev bRows (M : List Bool) : List (List Value) := M.map fun b => [.bool b]
theorem bRows_get {M : List Bool} {x : Int} (h0 : 0 ≤ x) (h : x < M.length) : (bRows M)[x.toNat]? = some [.bool (bget M x)] := by
  have : x.toNat < M.length := by omega
  rw [List.getElem?_map, bget, List.getElem?_eq_getElem this]; rfl
theorem bRows_set (M : List Bool) (i : Nat) (b : Bool) : (bRows M).set i [.bool b] = bRows (M.set i b) := (List.map_set).symm
theorem bRows_len (M : List Bool) : (bRows M).length = M.length := List.length_map _
theorem bRows_rep (k : Nat) : List.replicate k [Value.bool false] = bRows (List.replicate k false) := by rw [bRows, List.map_replicate]
theorem rreached_spec {m : Int} (h0 : 0 ≤ m) (hm : m ≤ 1000) {l : List Edg} (hl : l.length ≤ 100000) {f : List Int} (hf : f.length ≤ 100000) {a a3 : Option Addr} {n c n3 c3 : Nat} {H : Hp} {K : Value → Hp → Prop} (ha : RL H a n c l) (hb : RL H a3 n3 c3 f)
    (hK : ∀ a1 n1 c1 R H', Le H H' → RL H' a1 n1 c1 R → StrictL R → IsReach m l f R → K (.slice a1 n1 c1) H') : Does Try.prog 46 [.int .i64 m, .slice a n c, .slice a3 n3 c3] H K := by
  have hn := ha.n_eq
  have hn3 := hb.n_eq
  obtain ⟨M0, hM0⟩ : ∃ M0, M0 = List.replicate m.toNat false := ⟨_, rfl⟩
  have hl0 : M0.length = m.toNat := by rw [hM0, List.length_replicate]
  refine spec_of cx_ok cx_mix rfl Try.func46 Try.call46 Try.ntmps46 Try.results46 rfl rfl ?_
  refine ⟨⟨rfl, by omega, by show m * 1 ≤ _; omega, by omega⟩, ?_⟩
  refine ⟨Nat × List Bool, fun q => ⟨[(0, .v (.int .i64 m)), (1, .v (.slice a n c)), (7, .own 0), (17, .v (.slice a3 n3 c3)), (18, .v (.int .i64 n3)), (19, .v (.int .i64 q.1))], [(0, .row 4 1 (bRows q.2))], 1⟩,
    fun q H' => H' = H ∧ q.1 ≤ f.length ∧ q.2 = marks m (f.take q.1) M0, fun q => f.length - q.1, ⟨(0, M0), [(0, 0)], ?_, rfl, by dsimp only; omega, rfl⟩, ?_⟩
  · have erow : List.replicate m.toNat [Value.bool false] = bRows M0 := by rw [bRows_rep, ← hM0]
    (repeat' (first | exact trivial | refine ⟨?_, ?_⟩ | exact rfl | assumption))
  rintro ⟨i, M⟩ H1 _ ⟨rfl, hi, hM⟩
  dsimp only at hi hM
  have hlM : M.length = m.toNat := by rw [hM, marks_len, hl0]
  refine ⟨fun h => ?_, fun h => ?_⟩
  · have hlt : i < f.length := by have := dt h; dsimp only at this; omega
    obtain ⟨ad, cs, q1, hh, r1⟩ := hb.elem (List.getElem?_eq_getElem hlt)
    obtain ⟨rfl, hr1, hr2⟩ := r1
    have hst : marks m (f.take (i + 1)) M0 = mark m M f[i] := by rw [hM, marks, take_step _ _ (List.getElem?_eq_getElem hlt)]; rfl
    refine ⟨ad, ⟨by omega, by omega, q1⟩, ?_⟩
    refine ⟨_, hh, ?_⟩
    refine ⟨fun h => ?_, fun h => ?_⟩
    · have h1 : 0 ≤ f[i] := dt h
      refine ⟨fun h => ?_, fun h => ?_⟩
      · have h2 : f[i] < m := dt h
        have erow : (bRows M).set f[i].toNat [.bool true] = bRows (mark m M f[i]) := by rw [bRows_set, mark, if_pos (by exact decide_eq_true ⟨h1, h2⟩)]
        refine ⟨⟨by omega, by rw [bRows_len]; dsimp only; omega⟩, ?_⟩
        refine ⟨_, bRows_get (M := M) h1 (by omega), ?_⟩
        refine ⟨⟨by omega, by omega⟩, (i + 1, mark m M f[i]), [(0, 0)], ?_, ⟨rfl, by dsimp only; omega, hst.symm⟩, by dsimp only; omega⟩
        (repeat' (first | exact trivial | refine ⟨?_, ?_⟩ | exact rfl | assumption))
      · have h2 : ¬ f[i] < m := df h
        have erow : bRows M = bRows (mark m M f[i]) := by rw [mark, if_neg (fun h => h2 (dt h).2)]
        refine ⟨⟨by omega, by omega⟩, (i + 1, mark m M f[i]), [(0, 0)], ?_, ⟨rfl, by dsimp only; omega, hst.symm⟩, by dsimp only; omega⟩
        (repeat' (first | exact trivial | refine ⟨?_, ?_⟩ | exact rfl | assumption))
    · have h1 : ¬ 0 ≤ f[i] := df h
      have erow : bRows M = bRows (mark m M f[i]) := by rw [mark, if_neg (fun h => h1 (dt h).1)]
      refine ⟨⟨by omega, by omega⟩, (i + 1, mark m M f[i]), [(0, 0)], ?_, ⟨rfl, by dsimp only; omega, hst.symm⟩, by dsimp only; omega⟩
      (repeat' (first | exact trivial | refine ⟨?_, ?_⟩ | exact rfl | assumption))
  · have hil : i = f.length := by have := df h; dsimp only at this; omega
    obtain ⟨M1, hM1⟩ : ∃ M1, M1 = marks m f M0 := ⟨_, rfl⟩
    have hM1M : M = M1 := by rw [hM, hM1, hil, List.take_length]
    have hl1 : M1.length = m.toNat := by rw [← hM1M]; exact hlM
    refine ⟨Nat × List Bool, fun q => ⟨[(0, .v (.int .i64 m)), (1, .v (.slice a n c)), (7, .own 0), (10, .v (.int .i64 q.1))], [(0, .row 4 1 (bRows q.2))], 1⟩,
      fun q H' => H' = H1 ∧ q.1 ≤ m.toNat ∧ q.2 = rounds m l M1 q.1, fun q => m.toNat - q.1, ⟨(0, M), [(0, 0)], ?_, rfl, by dsimp only; omega, hM1M⟩, ?_⟩
    · (repeat' (first | exact trivial | refine ⟨?_, ?_⟩ | exact rfl | assumption))
    rintro ⟨k, Q⟩ H2 _ ⟨rfl, hk, hQ⟩
    dsimp only at hk hQ
    have hlQ : Q.length = m.toNat := by rw [hQ, rounds_len, hl1]
    refine ⟨fun h => ?_, fun h => ?_⟩
    · have hkm : k < m.toNat := by have := dt h; dsimp only at this; omega
      refine ⟨Nat × List Bool, fun q => ⟨[(0, .v (.int .i64 m)), (1, .v (.slice a n c)), (7, .own 0), (10, .v (.int .i64 k)), (39, .v (.slice a n c)), (40, .v (.int .i64 n)), (41, .v (.int .i64 q.1))], [(0, .row 4 1 (bRows q.2))], 1⟩,
        fun q H' => H' = H2 ∧ q.1 ≤ l.length ∧ q.2 = round m (l.take q.1) Q, fun q => l.length - q.1, ⟨(0, Q), [(0, 0)], ?_, rfl, by dsimp only; omega, rfl⟩, ?_⟩
      · (repeat' (first | exact trivial | refine ⟨?_, ?_⟩ | exact rfl | assumption))
      rintro ⟨j, R⟩ H3 _ ⟨rfl, hj, hR⟩
      dsimp only at hj hR
      have hlR : R.length = m.toNat := by rw [hR, ← (round_le m _ Q).1, hlQ]
      refine ⟨fun h => ?_, fun h => ?_⟩
      · have hlt : j < l.length := by have := dt h; dsimp only at this; omega
        obtain ⟨ad, cs, q1, hh, r1⟩ := ha.elem (List.getElem?_eq_getElem hlt)
        obtain ⟨rfl, -⟩ := edge_open r1
        have hst : round m (l.take (j + 1)) Q = relax m R l[j] := by rw [hR, round, take_step _ _ (List.getElem?_eq_getElem hlt)]; rfl
        obtain ⟨e, he⟩ : ∃ e, e = l[j] := ⟨_, rfl⟩
        rw [← he] at hh hst
        refine ⟨ad, ⟨by omega, by omega, q1⟩, ?_⟩
        refine ⟨_, hh, ?_⟩
        have hno : (nodeI m e.1 && nodeI m e.2 && bget R e.1) = false → bRows R = bRows (relax m R e) := fun h => by rw [relax, h]; rfl
        refine ⟨fun h => ?_, fun h => ?_⟩
        · have h1 : 0 ≤ e.1 := dt h
          refine ⟨fun h => ?_, fun h => ?_⟩
          · have h2 : e.1 < m := dt h
            refine ⟨fun h => ?_, fun h => ?_⟩
            · have h3 : 0 ≤ e.2 := dt h
              refine ⟨fun h => ?_, fun h => ?_⟩
              · have h4 : e.2 < m := dt h
                have g1 : nodeI m e.1 = true := decide_eq_true ⟨h1, h2⟩
                have g2 : nodeI m e.2 = true := decide_eq_true ⟨h3, h4⟩
                refine ⟨⟨by omega, by rw [bRows_len]; dsimp only; omega⟩, ?_⟩
                refine ⟨_, bRows_get (M := R) h1 (by omega), ?_⟩
                refine ⟨fun h => ?_, fun h => ?_⟩
                · have erow : (bRows R).set e.2.toNat [.bool true] = bRows (relax m R e) := by rw [bRows_set, relax, g1, g2, h]; rfl
                  refine ⟨⟨by omega, by rw [bRows_len]; dsimp only; omega⟩, ?_⟩
                  refine ⟨_, bRows_get (M := R) h3 (by omega), ?_⟩
                  refine ⟨⟨by omega, by omega⟩, (j + 1, relax m R e), [(0, 0)], ?_, ⟨rfl, by dsimp only; omega, hst.symm⟩, by dsimp only; omega⟩
                  (repeat' (first | exact trivial | refine ⟨?_, ?_⟩ | exact rfl | assumption))
                · have erow := hno (by rw [h]; simp)
                  refine ⟨⟨by omega, by omega⟩, (j + 1, relax m R e), [(0, 0)], ?_, ⟨rfl, by dsimp only; omega, hst.symm⟩, by dsimp only; omega⟩
                  (repeat' (first | exact trivial | refine ⟨?_, ?_⟩ | exact rfl | assumption))
              · have h4 : ¬ e.2 < m := df h
                have erow := hno (by rw [show nodeI m e.2 = false from decide_eq_false (fun h => h4 h.2)]; simp)
                refine ⟨⟨by omega, by omega⟩, (j + 1, relax m R e), [(0, 0)], ?_, ⟨rfl, by dsimp only; omega, hst.symm⟩, by dsimp only; omega⟩
                (repeat' (first | exact trivial | refine ⟨?_, ?_⟩ | exact rfl | assumption))
            · have h3 : ¬ 0 ≤ e.2 := df h
              have erow := hno (by rw [show nodeI m e.2 = false from decide_eq_false (fun h => h3 h.1)]; simp)
              refine ⟨⟨by omega, by omega⟩, (j + 1, relax m R e), [(0, 0)], ?_, ⟨rfl, by dsimp only; omega, hst.symm⟩, by dsimp only; omega⟩
              (repeat' (first | exact trivial | refine ⟨?_, ?_⟩ | exact rfl | assumption))
          · have h2 : ¬ e.1 < m := df h
            have erow := hno (by rw [show nodeI m e.1 = false from decide_eq_false (fun h => h2 h.2)]; simp)
            refine ⟨⟨by omega, by omega⟩, (j + 1, relax m R e), [(0, 0)], ?_, ⟨rfl, by dsimp only; omega, hst.symm⟩, by dsimp only; omega⟩
            (repeat' (first | exact trivial | refine ⟨?_, ?_⟩ | exact rfl | assumption))
        · have h1 : ¬ 0 ≤ e.1 := df h
          have erow := hno (by rw [show nodeI m e.1 = false from decide_eq_false (fun h => h1 h.1)]; simp)
          refine ⟨⟨by omega, by omega⟩, (j + 1, relax m R e), [(0, 0)], ?_, ⟨rfl, by dsimp only; omega, hst.symm⟩, by dsimp only; omega⟩
          (repeat' (first | exact trivial | refine ⟨?_, ?_⟩ | exact rfl | assumption))
      · have hjl : j = l.length := by have := df h; dsimp only at this; omega
        refine ⟨⟨by omega, by omega⟩, (k + 1, R), [(0, 0)], ?_, ⟨rfl, by dsimp only; omega, by rw [hR, hjl, List.take_length, hQ]; rfl⟩, by dsimp only; omega⟩
        (repeat' (first | exact trivial | refine ⟨?_, ?_⟩ | exact rfl | assumption))
    · have hkm : k = m.toNat := by have := df h; dsimp only at this; omega
      have hreach := told_reach m l f
      rw [← hM0, ← hM1, ← hkm, ← hQ, hkm] at hreach
      refine ⟨Nat, fun i => ⟨[(0, .v (.int .i64 m)), (7, .own 0), (13, .own 1), (14, .v (.int .i64 i))], [(0, .row 4 1 (bRows Q)), (1, .row 3 1 (iRows (told Q i)))], 2⟩,
        fun i H' => H' = H2 ∧ i ≤ m.toNat, fun i => m.toNat - i, ⟨0, [(0, 0)], ?_, rfl, by omega⟩, ?_⟩
      · (repeat' (first | exact trivial | refine ⟨?_, ?_⟩ | exact rfl | assumption))
      rintro i H3 _ ⟨rfl, hi⟩
      have htl := told_len Q i
      have htl2 : (iRows (told Q i)).length = (told Q i).length := List.length_map _
      have hsn := told_snoc Q i
      refine ⟨fun h => ?_, fun h => ?_⟩
      · have h1 : (i : Int) < m := dt h
        refine ⟨⟨by omega, by rw [bRows_len]; omega⟩, ?_⟩
        refine ⟨_, bRows_get (M := Q) (by omega) (by omega), ?_⟩
        refine ⟨fun h => ?_, fun h => ?_⟩
        · have erow : iRows (told Q i) ++ [[.int .i64 (i : Int)]] = iRows (told Q (i + 1)) := by rw [hsn, if_pos h]; simp
          refine ⟨room, ?_⟩
          refine ⟨⟨by omega, by omega⟩, i + 1, [(0, 0), (1, 3)], ?_, ⟨rfl, by omega⟩, by dsimp only; omega⟩
          (repeat' (first | exact trivial | refine ⟨?_, ?_⟩ | exact rfl | assumption))
        · have erow : iRows (told Q i) = iRows (told Q (i + 1)) := by rw [hsn, if_neg (by rw [h]; decide), List.append_nil]
          refine ⟨⟨by omega, by omega⟩, i + 1, [(0, 0), (1, 1)], ?_, ⟨rfl, by omega⟩, by dsimp only; omega⟩
          (repeat' (first | exact trivial | refine ⟨?_, ?_⟩ | exact rfl | assumption))
      · have hie : i = m.toNat := by have := df h; omega
        intro y H4 hle4 hy
        have hin : ∀ z ∈ told Q i, inI z := fun z hz => by
          rw [hie] at hz
          have := dt (told_mem.1 hz).1
          exact ⟨by omega, by omega⟩
        obtain ⟨a1, n1, c1, rfl, hr⟩ := rI_all hy hin
        rw [hie] at hr
        exact hK _ _ _ _ _ hle4 hr (told_strict Q _) hreach
end Go.Proofs
end
section
namespace Go.Proofs
open Go.Sy
set_option maxRecDepth 20000
set_option maxHeartbeats 400000
theorem FlowGraphs_spec {m x : Int} {l : List Edg} {f : List Int} {a a3 : Option Addr} {n c n3 c3 : Nat} {H : Hp} {K : Value → Hp → Prop} (ha : RL H a n c l) (hb : RL H a3 n3 c3 f) (hK : ∀ H', Le H H' → K (.bool true) H') :
    Does Try.prog 8 [.int .i64 m, .slice a n c, .int .i64 x, .slice a3 n3 c3] H K := by
  have hn3 := hb.n_eq
  refine spec_of cx_ok cx_mix rfl Try.func8 Try.call8 Try.ntmps8 Try.results8 rfl rfl ?_
  refine awake_spec fun _ _ => ?_
  refine ⟨(fun h => by cases h), fun _ => ?_⟩
  refine few_spec ha fun b hfew => ?_
  refine ⟨fun h => ?_, fun h => hK _ (Le.refl H)⟩
  obtain ⟨hm, hl⟩ := hfew (by simpa using h)
  refine ⟨fun h => hK _ (Le.refl H), fun h => ?_⟩
  have hf : f.length ≤ 40 := by have := df h; omega
  have hM0 : 0 ≤ max m 0 := by omega
  have hM1 : max m 0 ≤ 40 := by omega
  have hrl := gSort_len (revL l)
  rw [List.length_map] at hrl
  refine rreverse_spec (by omega) ha fun a4 n4 c4 H4 hle4 hr4 => ?_
  have ha4 := ha.up hle4
  refine sorted_spec (by omega) ha4 fun a5 n5 c5 H5 hle5 hr5 => ?_
  refine refSorted_spec (by omega) (ha4.up hle5) fun a6 n6 c6 H6 hle6 hr6 => ?_
  refine same_spec (hr5.up hle6) hr6 ?_
  have ha6 := (ha4.up hle5).up hle6
  have hr46 := (hr4.up hle5).up hle6
  refine ⟨fun _ => ?_, fun h => by simp at h⟩
  refine reverse_spec (by omega) ha6 fun a7 n7 c7 H7 hle7 hr7 => ?_
  refine same_spec hr7 (hr46.up hle7) ?_
  refine ⟨fun _ => ?_, fun h => by simp at h⟩
  have ha7 := ha6.up hle7
  have hr47 := hr46.up hle7
  refine right_spec ha7 ?_
  refine rright_spec ha7 ?_
  refine ⟨fun h => by simp at h, fun _ => ?_⟩
  refine next_spec (by omega) ha7 fun a8 n8 c8 H8 hle8 hr8 => ?_
  have ha8 := ha7.up hle8
  refine rnext_spec (by omega) ha8 fun a9 n9 c9 H9 hle9 hr9 => ?_
  refine ints_spec (hr8.up hle9) hr9 ?_
  have ha9 := ha8.up hle9
  refine ⟨fun _ => ?_, fun h => by simp at h⟩
  refine back_spec (by omega) ha9 fun a10 n10 c10 H10 hle10 hr10 => ?_
  refine rnext_spec (by omega) (((hr47.up hle8).up hle9).up hle10) fun a11 n11 c11 H11 hle11 hr11 => ?_
  refine ints_spec (hr10.up hle11) hr11 ?_
  have ha11 := (ha9.up hle10).up hle11
  have hle := ((((((hle4.trans hle5).trans hle6).trans hle7).trans hle8).trans hle9).trans hle10).trans hle11
  refine ⟨fun _ => ?_, fun h => by simp at h⟩
  refine reached_spec (by omega) (by omega) (by omega) ha11 (hb.up hle) fun a12 n12 c12 R H12 hle12 hr12 hS1 hS2 => ?_
  refine rreached_spec (by omega) (by omega) (by omega) (by omega) (ha11.up hle12) ((hb.up hle).up hle12) fun a13 n13 c13 R' H13 hle13 hr13 hS3 hS4 => ?_
  refine ints_spec (hr12.up hle13) hr13 ?_
  have e : R = R' := strict_ext hS1 hS3 (hS2.mem hS4)
  have hK' := hK H13 ((hle.trans hle12).trans hle13)
  exact kbool hK' (by rw [e]; simp)
end Go.Proofs
end
section
namespace Go.Proofs
open Go.Sy
set_option maxRecDepth 20000
set_option maxHeartbeats 1000000
theorem RLi_in {H : Hp} {a : Option Addr} {n c : Nat} {l : List Int} (h : RL H a n c l) : ∀ x ∈ l, inI x := fun x hx => by
  obtain ⟨i, hi, rfl⟩ := List.getElem_of_mem hx
  obtain ⟨ad, cs, _, _, h1⟩ := h.elem (List.getElem?_eq_getElem hi)
  exact h1.2
theorem cloneI_spec {l : List Int} {a : Option Addr} {n c : Nat} {H : Hp} {K : SV → St → Hp → Prop} (ha : RL H a n c l) (hn : l.length < 8000000000000) (hK : K (.own 0) ⟨[], [(0, .row 3 1 (iRows l))], 1⟩ H) :
    DoesG Try.prog 66 [.v (.slice a n c)] [] 0 H K := by
  refine spec_ofG cx_ok cx_mix Try.func66 Try.call66 Try.ntmps66 Try.results66 rfl rfl ?_
  refine ⟨fun h => ?_, fun h => ?_⟩
  · have ha0 : a = none := by cases a <;> simp_all
    subst ha0
    have hl := RL_nil ha
    subst hl
    exact ⟨.own 0, [(0, .row 3 1 (iRows []))], 1, [], ⟨⟨⟨rfl, rfl, rfl⟩, trivial⟩, ⟨rfl, trivial⟩⟩, hK⟩
  · refine ⟨iRows l, RLi_row ha, ⟨⟨by show (0 + (iRows l).length) * 8 ≤ _; rw [List.length_map]; omega, by show 0 + (iRows l).length ≤ _; rw [List.length_map]; omega⟩, ?_⟩⟩
    exact ⟨.own 0, [(0, .row 3 1 (iRows l))], 1, [(0, 1)], ⟨⟨rfl, trivial⟩, ⟨rfl, trivial⟩⟩, hK⟩
/-- A list has each of the first n numbers once. -/
def isE (m : Int) (l : List Int) : Bool := decide (∀ i : Nat, i < l.length → (i : Int) ∈ l) && decide (m = l.length)
theorem perm_range {l : List Int} (h : ∀ i : Nat, i < l.length → (i : Int) ∈ l) : l.Nodup ∧ ∀ x ∈ l, 0 ≤ x ∧ x < l.length := by
  have key : ∀ (k : Nat) (l : List Int), (∀ i : Nat, i < k → (i : Int) ∈ l) → l.length ≤ k → l.Nodup ∧ ∀ x ∈ l, 0 ≤ x ∧ x < k := by
    intro k
    induction k with
    | zero =>
      intro l _ hl
      have : l = [] := List.eq_nil_of_length_eq_zero (by omega)
      subst this
      exact ⟨List.nodup_nil, by simp⟩
    | succ k ih =>
      intro l h hl
      have hk := h k (by omega)
      have h2 := ih (l.erase (k : Int)) (fun i hi => (List.mem_erase_of_ne (by omega)).2 (h i (by omega))) (by rw [List.length_erase_of_mem hk]; omega)
      have hp := List.perm_cons_erase hk
      refine ⟨hp.nodup_iff.2 (List.nodup_cons.2 ⟨fun hm => ?_, h2.1⟩), fun x hx => ?_⟩
      · have := h2.2 _ hm; omega
      · rcases List.mem_cons.1 (hp.mem_iff.1 hx) with rfl | hx
        · omega
        · have := h2.2 x hx; omega
  exact key l.length l h (Nat.le_refl _)
theorem sorted_is {l l' : List Int} (hp : l'.Perm l) (hg : gComp l' = gSort l) : (∀ i, (h : i < l'.length) → l'[i] = i) ↔ ∀ i : Nat, i < l.length → (i : Int) ∈ l := by
  have hlen := hp.length_eq
  constructor
  · intro h i hi
    exact hp.mem_iff.1 (h i (by omega) ▸ List.getElem_mem _)
  · intro h
    obtain ⟨h1, h2⟩ := perm_range h
    have h3 := gComp_nodup (hp.nodup_iff.2 h1)
    rw [h3] at hg
    have hs : StrictL l' := hg ▸ gSort_strict l
    have hr : StrictL ((List.range l'.length).map fun (j : Nat) => (j : Int)) := by
      rw [StrictL, List.pairwise_map]
      refine List.pairwise_lt_range.imp fun {a b} h => ?_
      show (a : Int) < (b : Int)
      omega
    have e : l' = (List.range l'.length).map fun (j : Nat) => (j : Int) := strict_ext hs hr fun x => by
      rw [hp.mem_iff]
      simp only [List.mem_map, List.mem_range]
      constructor
      · intro hx
        have := h2 x hx
        exact ⟨x.toNat, by omega, by omega⟩
      · rintro ⟨j, hj, rfl⟩
        exact h j (by omega)
    intro i hi
    have := congrArg (fun z => z[i]?) e
    simp only [List.getElem?_map, List.getElem?_range hi, List.getElem?_eq_getElem hi, Option.map_some, Option.some.injEq] at this
    exact this
theorem is_spec {m : Int} {l : List Int} (hl : l.length < 1000000) {a : Option Addr} {n c : Nat} {H : Hp} {K : Value → Hp → Prop} (ha : RL H a n c l) (hK : K (.bool (isE m l)) H) : Does Try.prog 23 [.int .i64 m, .slice a n c] H K := by
  have hn1 := ha.n_eq
  refine spec_of cx_ok cx_mix rfl Try.func23 Try.call23 Try.ntmps23 Try.results23 rfl rfl ?_
  refine ⟨[], rfl, cloneI_spec ha (by omega) ?_⟩
  refine ⟨[0], rfl, sortI_spec (by omega) fun l' hl' hp hg => ?_⟩
  have hs := sorted_is hp hg
  have hel : (iRows l').length = l'.length := List.length_map _
  refine ⟨Nat, fun i => ⟨[(0, .v (.int .i64 m)), (1, .own 0), (11, .own 0), (12, .v (.int .i64 l'.length)), (13, .v (.int .i64 i))], [(0, .row 3 1 (iRows l'))], 1⟩,
    fun i H' => H' = H ∧ i ≤ l'.length ∧ ∀ j, (h : j < l'.length) → j < i → l'[j] = j, fun i => l'.length - i, ⟨0, [(0, 0)], ?_, rfl, by omega, by omega⟩, ?_⟩
  · have e12 : SV.v (.int .i64 ((iRows l').length : Nat)) = SV.v (.int .i64 (l'.length : Nat)) := by rw [hel]
    (repeat' (first | exact trivial | refine ⟨?_, ?_⟩ | exact rfl | assumption))
  rintro i H1 _ ⟨rfl, hi, hx⟩
  refine ⟨fun h => ?_, fun h => ?_⟩
  · have hlt : i < l'.length := by have := dt h; omega
    refine ⟨⟨by omega, by rw [hel]; omega⟩, ?_⟩
    have hgi : (iRows l')[((i : Int)).toNat]? = some [.int .i64 l'[i]] := by rw [Int.toNat_natCast]; exact iRows_get hlt
    refine ⟨_, hgi, ?_⟩
    refine ⟨fun h => ?_, fun h => ?_⟩
    · have h1 : ¬ (i : Int) = l'[i] := nt h
      refine kbool hK ?_
      rw [isE, decide_eq_false (fun hh => h1 (hs.2 hh i hlt).symm)]; rfl
    · have h1 : (i : Int) = l'[i] := nf h
      refine ⟨⟨by omega, by omega⟩, i + 1, [(0, 0)], ?_, ⟨rfl, by omega, fun j hj hji => ?_⟩, by dsimp only; omega⟩
      · (repeat' (first | exact trivial | refine ⟨?_, ?_⟩ | exact rfl | assumption))
      · by_cases e : j = i
        · subst e; exact h1.symm
        · exact hx j hj (by omega)
  · have hil : i = l'.length := by have := df h; omega
    refine kbool hK ?_
    have h2 := hs.1 fun j hj => hx j hj (by omega)
    rw [isE, decide_eq_true h2, hel, hl']; rfl
theorem refIs_spec {m : Int} (hm9 : m ≤ 1000000) {l : List Int} (hl : l.length < 1000000) {a : Option Addr} {n c : Nat} {H : Hp} {K : Value → Hp → Prop} (ha : RL H a n c l) (hK : K (.bool (isE m l)) H) : Does Try.prog 24 [.int .i64 m, .slice a n c] H K := by
  have hn1 := ha.n_eq
  refine spec_of cx_ok cx_mix rfl Try.func24 Try.call24 Try.ntmps24 Try.results24 rfl rfl ?_
  refine ⟨Nat, fun i => ⟨[(0, .v (.int .i64 m)), (1, .v (.slice a n c)), (5, .v (.int .i64 i))], [], 0⟩,
    fun i H' => H' = H ∧ (0 < i → i ≤ m.toNat) ∧ ∀ j : Nat, j < i → (j : Int) ∈ l, fun i => m.toNat - i, ⟨0, [], ?_, rfl, by omega, by omega⟩, ?_⟩
  · (repeat' (first | exact trivial | refine ⟨?_, ?_⟩ | exact rfl | assumption))
  rintro i H1 _ ⟨rfl, hi, hx⟩
  refine ⟨fun h => ?_, fun h => ?_⟩
  · have h1 : (i : Int) < m := dt h
    refine in_spec ha ?_
    refine ⟨fun h => ?_, fun h => ?_⟩
    · have h2 : ¬ (i : Int) ∈ l := by simpa using h
      refine kbool hK ?_
      by_cases hm : m = l.length
      · rw [isE, decide_eq_false (fun hh => h2 (hh i (by omega)))]; rfl
      · rw [isE, decide_eq_false hm]; simp
    · have h2 : (i : Int) ∈ l := by simpa using h
      refine ⟨⟨by omega, by omega⟩, i + 1, [], ?_, ⟨rfl, by omega, fun j hj => ?_⟩, by dsimp only; omega⟩
      · (repeat' (first | exact trivial | refine ⟨?_, ?_⟩ | exact rfl | assumption))
      · by_cases e : j = i
        · subst e; exact h2
        · exact hx j (by omega)
  · have h1 : ¬ (i : Int) < m := df h
    refine kbool hK ?_
    by_cases hm : m = l.length
    · rw [isE, decide_eq_true (fun j hj => hx j (by omega)), decide_eq_true hm, hn1, decide_eq_true hm]; rfl
    · rw [isE, decide_eq_false hm, hn1, decide_eq_false hm]; simp
end Go.Proofs
end
section
namespace Go.Proofs
open Go.Sy
/-! The order in which nodes are told. -/
/-- The document's visit. -/
def visS (f : Int → List Int → List Int) (q : List Int × List Int) (b : Int) : List Int × List Int := (q.1 ++ f b q.2, q.2 ++ f b q.2)
def vis (nx : Int → List Int) : Nat → Int → List Int → List Int
  | 0, _, _ => []
  | k + 1, a, met => if a ∈ met then [] else ((nx a).foldl (visS (vis nx k)) ([], met ++ [a])).1 ++ [a]
/-- Marks. -/
def mkM (N : Nat) (S : List Int) : List Bool := (List.range N).map fun (i : Nat) => decide ((i : Int) ∈ S)
theorem mkM_len (N : Nat) (S : List Int) : (mkM N S).length = N := by rw [mkM, List.length_map, List.length_range]
theorem mkM_get {N : Nat} {S : List Int} {x : Int} (h : nodeI N x = true) : bget (mkM N S) x = decide (x ∈ S) := by
  have h1 := dt h
  rw [bget, mkM, List.getElem?_map, List.getElem?_range (by omega)]
  simp only [Option.map_some, Option.getD_some]
  rw [Int.toNat_of_nonneg h1.1]
theorem mkM_ext {N : Nat} {S S' : List Int} (h : ∀ x, x ∈ S ↔ x ∈ S') : mkM N S = mkM N S' := by
  rw [mkM, mkM]
  refine List.map_congr_left fun i _ => ?_
  rw [decide_eq_decide]
  exact h _
theorem mkM_set {N : Nat} {S : List Int} {x : Int} (h : nodeI N x = true) : (mkM N S).set x.toNat true = mkM N (S ++ [x]) := by
  have h1 := dt h
  refine List.ext_getElem? fun i => ?_
  rw [List.getElem?_set, mkM_len, mkM, mkM, List.getElem?_map, List.getElem?_map]
  by_cases hi : i < N
  · rw [List.getElem?_range hi]
    by_cases e : x.toNat = i
    · rw [if_pos e, if_pos (by omega)]
      have : (i : Int) = x := by omega
      simp [this]
    · rw [if_neg e]
      have : ¬ (i : Int) = x := by omega
      simp [this]
  · rw [if_neg (by omega), List.getElem?_eq_none (by rw [List.length_range]; omega)]
    rfl
/-- The walk's state: marks, the way, its last place, what is told. -/
structure VS where
  M : List Bool
  W : List (Int × Int)
  v : Int
  k : Nat
  O : List Int
def popV (M : List Bool) (W : List (Int × Int)) (O : List Int) : VS ⊕ (List Bool × List Int) := match W.getLast? with
  | none => .inr (M, O)
  | some (u, j) => .inl ⟨M, W.dropLast, u, j.toNat, O⟩
def stpV (nx : Int → List Int) (s : VS) : VS ⊕ (List Bool × List Int) := match (nx s.v)[s.k]? with
  | some b => if bget s.M b then .inl ⟨s.M, s.W, s.v, s.k + 1, s.O⟩ else .inl ⟨s.M.set b.toNat true, s.W ++ [(s.v, ((s.k + 1 : Nat) : Int))], b, 0, s.O⟩
  | none => popV s.M s.W (s.O ++ [s.v])
def runS (nx : Int → List Int) : Nat → VS ⊕ (List Bool × List Int) → Option (List Bool × List Int)
  | _, .inr r => some r
  | 0, .inl _ => none
  | n + 1, .inl s => runS nx n (stpV nx s)
theorem runS_step {nx : Int → List Int} {s : VS} {r : List Bool × List Int} (h : ∃ n, runS nx n (stpV nx s) = some r) : ∃ n, runS nx n (.inl s) = some r := by
  obtain ⟨n, h⟩ := h
  exact ⟨n + 1, h⟩
theorem nodup_sub {α : Type} [DecidableEq α] : ∀ {l l' : List α}, l.Nodup → (∀ x ∈ l, x ∈ l') → l.length ≤ l'.length
  | [], l', _, _ => Nat.zero_le _
  | x :: r, l', h, hs => by
    have h1 := List.nodup_cons.1 h
    have hx := hs x List.mem_cons_self
    have := nodup_sub (l := r) (l' := l'.erase x) h1.2 fun y hy => (List.mem_erase_of_ne (fun (e : y = x) => h1.1 (e ▸ hy))).2 (hs y (List.mem_cons_of_mem _ hy))
    have h3 := List.length_erase_of_mem hx
    have h4 := List.length_pos_of_mem hx
    rw [List.length_cons]
    omega
/-- Nodes that are not met. -/
def left (N : Nat) (S : List Int) : List Nat := (List.range N).filter fun (i : Nat) => !decide ((i : Int) ∈ S)
theorem left_lt {N : Nat} {S : List Int} {x : Int} (hn : nodeI N x = true) (hx : x ∉ S) (T : List Int) : (left N (S ++ [x] ++ T)).length < (left N S).length := by
  have h1 := dt hn
  have hsub : ((left N (S ++ [x] ++ T)) ++ [x.toNat]).length ≤ (left N S).length := by
    refine nodup_sub ?_ ?_
    · rw [List.nodup_append]
      refine ⟨List.nodup_range.filter _, by simp, fun a ha b hb => ?_⟩
      rw [List.mem_singleton] at hb
      subst hb
      rintro rfl
      have h2 := (List.mem_filter.1 ha).2
      rw [Int.toNat_of_nonneg h1.1] at h2
      simp at h2
    · intro i hi
      rcases List.mem_append.1 hi with hi | hi
      · have h2 := List.mem_filter.1 hi
        refine List.mem_filter.2 ⟨h2.1, ?_⟩
        have h3 := h2.2
        simp only [List.mem_append, Bool.not_eq_true', decide_eq_false_iff_not, not_or] at h3 ⊢
        exact h3.1.1
      · rw [List.mem_singleton] at hi
        subst hi
        refine List.mem_filter.2 ⟨List.mem_range.2 (by omega), ?_⟩
        rw [Int.toNat_of_nonneg h1.1]
        simp [hx]
  rw [List.length_append, List.length_singleton] at hsub
  omega
theorem left_le {N : Nat} {S : List Int} (T : List Int) : (left N (S ++ T)).length ≤ (left N S).length := by
  refine nodup_sub (List.nodup_range.filter _) fun i hi => ?_
  have h2 := List.mem_filter.1 hi
  refine List.mem_filter.2 ⟨h2.1, ?_⟩
  have h3 := h2.2
  simp only [List.mem_append, Bool.not_eq_true', decide_eq_false_iff_not, not_or] at h3 ⊢
  exact h3.1
theorem vis_met {nx : Int → List Int} {k : Nat} {a : Int} {S : List Int} (h : a ∈ S) : vis nx k a S = [] := by
  cases k with
  | zero => rfl
  | succ k => rw [vis, if_pos h]
/-- What is told, from a node on: the machine comes to what the document says. -/
theorem vis_run {nx : Int → List Int} {N : Nat} (hnx : ∀ v, ∀ b ∈ nx v, nodeI N b = true) : ∀ (k : Nat) (a : Int) (S : List Int), nodeI N a = true → a ∉ S → (left N S).length ≤ k →
    ∀ (W : List (Int × Int)) (O : List Int) (r : List Bool × List Int), (∃ n, runS nx n (popV (mkM N (S ++ vis nx k a S)) W (O ++ vis nx k a S)) = some r) →
      ∃ n, runS nx n (.inl ⟨mkM N (S ++ [a]), W, a, 0, O⟩) = some r
  | 0, a, S, ha, hS, hk, W, O, r, _ => by
    have := left_lt ha hS []
    omega
  | k + 1, a, S, ha, hS, hk, W, O, r, h => by
    have e : vis nx (k + 1) a S = ((nx a).foldl (visS (vis nx k)) ([], S ++ [a])).1 ++ [a] := by rw [vis, if_neg hS]
    have inner : ∀ (d j : Nat) (q : List Int × List Int), d + j = (nx a).length → q = ((nx a).take j).foldl (visS (vis nx k)) ([], S ++ [a]) →
        q.2 = S ++ [a] ++ q.1 ∧ ∃ n, runS nx n (.inl ⟨mkM N q.2, W, a, j, O ++ q.1⟩) = some r := by
      have hq2 : ∀ (l : List Int) (q : List Int × List Int), q.2 = S ++ [a] ++ q.1 → (l.foldl (visS (vis nx k)) q).2 = S ++ [a] ++ (l.foldl (visS (vis nx k)) q).1 := by
        intro l
        induction l with
        | nil => intro q h; exact h
        | cons b l ih =>
          intro q h
          rw [List.foldl_cons]
          exact ih _ (by rw [visS, h]; simp only [List.append_assoc])
      intro d
      induction d with
      | zero =>
        intro j q hd hq
        have hqq := hq2 ((nx a).take j) ([], S ++ [a]) (by simp)
        rw [← hq] at hqq
        refine ⟨hqq, runS_step ?_⟩
        have hj : j = (nx a).length := by omega
        rw [stpV]
        simp only [hj, List.getElem?_eq_none (Nat.le_refl _)]
        rw [hj, List.take_length] at hq
        rw [e, ← hq] at h
        have e2 : mkM N (S ++ (q.1 ++ [a])) = mkM N q.2 := mkM_ext fun x => by rw [hqq]; simp only [List.mem_append]; grind
        rw [e2, ← List.append_assoc] at h
        exact h
      | succ d ih =>
        intro j q hd hq
        have hqq := hq2 ((nx a).take j) ([], S ++ [a]) (by simp)
        rw [← hq] at hqq
        refine ⟨hqq, runS_step ?_⟩
        have hlt : j < (nx a).length := by omega
        have hb : nodeI N (nx a)[j] = true := hnx a _ (List.getElem_mem hlt)
        rw [stpV]
        simp only [List.getElem?_eq_getElem hlt, mkM_get hb]
        have hstep : ∀ q', q' = visS (vis nx k) q (nx a)[j] → q' = ((nx a).take (j + 1)).foldl (visS (vis nx k)) ([], S ++ [a]) := fun q' hq' => by
          rw [take_step _ _ (List.getElem?_eq_getElem hlt), ← hq, hq']
        by_cases hm : (nx a)[j] ∈ q.2
        · rw [if_pos (decide_eq_true hm)]
          have hq' : q = visS (vis nx k) q (nx a)[j] := by rw [visS, vis_met hm]; simp
          exact (ih (j + 1) q (by omega) (hstep q hq')).2
        · rw [if_neg (by rw [decide_eq_false hm]; decide), mkM_set hb]
          have hl : (left N q.2).length ≤ k := by
            have := left_lt ha hS q.1
            rw [← hqq] at this
            omega
          refine vis_run hnx k (nx a)[j] q.2 hb hm hl _ _ _ ?_
          have h3 := (ih (j + 1) (visS (vis nx k) q (nx a)[j]) (by omega) (hstep _ rfl)).2
          rw [popV, List.getLast?_concat]
          simp only [List.dropLast_concat]
          rw [visS] at h3
          simp only [← List.append_assoc] at h3
          exact h3
    have h2 := (inner (nx a).length 0 ([], S ++ [a]) rfl rfl).2
    rw [List.append_nil] at h2
    exact h2
end Go.Proofs
end
section
namespace Go.Proofs
open Go.Sy
set_option maxRecDepth 20000
set_option maxHeartbeats 4000000
theorem list_elem {H : Hp} {a : Option Addr} {n c : Nat} {NX : List (List Int)} (h : RL H a n c NX) {i : Nat} {L : List Int} (hi : NX[i]? = some L) : ∃ ad a1 n1 c1, a = some ad ∧ ElemH H ad (i : Int) 1 [.slice a1 n1 c1] ∧ RL H a1 n1 c1 L := by
  obtain ⟨ad, cs, h1, h2, a1, n1, c1, rfl, h4⟩ := h.elem hi
  exact ⟨ad, a1, n1, c1, h1, h2, h4⟩
def nxL (NX : List (List Int)) (v : Int) : List Int := if nodeI NX.length v then NX[v.toNat]?.getD [] else []
theorem nxL_get {NX : List (List Int)} {v : Int} (h : nodeI NX.length v = true) : NX[v.toNat]? = some (nxL NX v) := by
  have := dt h
  rw [nxL, if_pos h, List.getElem?_eq_getElem (by omega)]; rfl
theorem nxL_mem {NX : List (List Int)} {v : Int} (h : nodeI NX.length v = true) : nxL NX v ∈ NX := List.mem_of_getElem? (nxL_get h)
theorem count_set {M : List Bool} {x : Int} (h0 : 0 ≤ x) (h : x < M.length) (hf : bget M x = false) : (M.set x.toNat true).count true = M.count true + 1 := by
  have hlt : x.toNat < M.length := by omega
  rw [List.count_set hlt]
  have : M[x.toNat] = false := by
    rw [bget, List.getElem?_eq_getElem hlt] at hf
    exact hf
  rw [this]
  simp
/-- Lists of nodes. -/
def Nexts (NX : List (List Int)) : Prop := NX.length ≤ 1000 ∧ ∀ L ∈ NX, L.length ≤ 1000 ∧ ∀ x ∈ L, nodeI NX.length x = true
/-- What holds along the walk. -/
structure VJ (NX : List (List Int)) (c0 e0 : Nat) (s : VS) : Prop where
  len : s.M.length = NX.length
  v : nodeI NX.length s.v = true
  w : ∀ p ∈ s.W, nodeI NX.length p.1 = true ∧ 0 ≤ p.2 ∧ p.2 ≤ 1000
  k : s.k ≤ 1000
  cnt : s.O.length + s.W.length + 1 + e0 ≤ c0 + s.M.count true
theorem VJ.bounds {NX : List (List Int)} {c0 e0 : Nat} {s : VS} (hX : Nexts NX) (hc : c0 ≤ 1000000000) (h : VJ NX c0 e0 s) : s.O.length ≤ 2000000000 ∧ s.W.length ≤ 2000000000 := by
  have h1 := h.cnt
  have h2 : s.M.count true ≤ s.M.length := List.count_le_length
  have h3 := h.len
  have h4 := hX.1
  omega
theorem VJ.next {NX : List (List Int)} {c0 e0 : Nat} {M : List Bool} {W : List (Int × Int)} {v : Int} {k : Nat} {O : List Int} (hX : Nexts NX) (h : VJ NX c0 e0 ⟨M, W, v, k, O⟩) (hk : k < (nxL NX v).length) : VJ NX c0 e0 ⟨M, W, v, k + 1, O⟩ := by
  have : (nxL NX v).length ≤ 1000 := (hX.2 _ (nxL_mem h.v)).1
  exact ⟨h.len, h.v, h.w, by dsimp only; omega, h.cnt⟩
theorem VJ.push {NX : List (List Int)} {c0 e0 : Nat} {M : List Bool} {W : List (Int × Int)} {v b : Int} {k : Nat} {O : List Int} (hX : Nexts NX) (h : VJ NX c0 e0 ⟨M, W, v, k, O⟩) (hk : k < (nxL NX v).length) (hb : nodeI NX.length b = true) (hm : bget M b = false) :
    VJ NX c0 e0 ⟨M.set b.toNat true, W ++ [(v, ((k + 1 : Nat) : Int))], b, 0, O⟩ := by
  have h1 : (nxL NX v).length ≤ 1000 := (hX.2 _ (nxL_mem h.v)).1
  have h2 := dt hb
  have h3 := h.len
  have h4 := h.cnt
  dsimp only at h3 h4
  refine ⟨by dsimp only; rw [List.length_set]; exact h3, hb, fun p hp => ?_, Nat.zero_le _, ?_⟩
  · rcases List.mem_append.1 hp with hp | hp
    · exact h.w p hp
    · rw [List.mem_singleton] at hp
      subst hp
      exact ⟨h.v, by dsimp only; omega, by dsimp only; omega⟩
  · dsimp only
    rw [count_set h2.1 (by omega) hm, List.length_append, List.length_singleton]
    omega
theorem VJ.pop {NX : List (List Int)} {c0 e0 : Nat} {M : List Bool} {W : List (Int × Int)} {v u j : Int} {k : Nat} {O : List Int} (h : VJ NX c0 e0 ⟨M, W ++ [(u, j)], v, k, O⟩) : VJ NX c0 e0 ⟨M, W, u, j.toNat, O ++ [v]⟩ := by
  have h1 := h.w (u, j) (by simp)
  have h4 := h.cnt
  dsimp only at h1 h4
  rw [List.length_append, List.length_singleton] at h4
  refine ⟨h.len, h1.1, fun p hp => h.w p (List.mem_append_left _ hp), by dsimp only; omega, ?_⟩
  dsimp only
  rw [List.length_append, List.length_singleton]
  omega
theorem visit_spec {NX : List (List Int)} (hX : Nexts NX) {M0 : List Bool} (hM : M0.length = NX.length) {v : Int} (ha : nodeI NX.length v = true) {O : List Int} (hO : O.length ≤ 1000000000)
    {an : Option Addr} {nn cn : Nat} {H : Hp} {K : SV → St → Hp → Prop} (hx : RL H an nn cn NX) {r : List Bool × List Int}
    (hr : if bget M0 v then r = (M0, O) else ∃ n, runS (nxL NX) n (.inl ⟨M0.set v.toNat true, [], v, 0, O⟩) = some r)
    (hK : K (.own 2) ⟨[], [(0, .row 4 1 (bRows r.1)), (2, .row 3 1 (iRows r.2))], 3⟩ H) :
    DoesG Try.prog 86 [.v (.slice an nn cn), .own 0, .v (.int .i64 v), .own 1] [(0, .row 4 1 (bRows M0)), (1, .row 3 1 (iRows O))] 2 H K := by
  obtain ⟨c0, hc0⟩ : ∃ c0, c0 = O.length := ⟨_, rfl⟩
  have hO1 := hO
  rw [← hc0] at hO
  have hnn := hx.n_eq
  have hmx := hx.le
  have hN := hX.1
  have ha2 := dt ha
  refine spec_ofG cx_ok cx_mix Try.func86 Try.call86 Try.ntmps86 Try.results86 rfl rfl ?_
  refine .inr ⟨Bool × VS × Nat, fun q => bif q.1 then 0 else 1, fun q => bif q.1 then ⟨[(0, .v (.slice an nn cn)), (1, .own 0), (2, .v (.int .i64 q.2.1.v)), (3, .own 2), (9, .own 3)],
      [(0, .row 4 1 (bRows q.2.1.M)), (2, .row 3 1 (iRows q.2.1.O)), (3, .row 122 2 (eRows q.2.1.W))], 4⟩ else
      ⟨[(0, .v (.slice an nn cn)), (1, .own 0), (3, .own 2), (9, .own 3)],
      [(0, .row 4 1 (bRows q.2.1.M)), (2, .row 3 1 (iRows q.2.1.O)), (3, .row 122 2 (eRows (q.2.1.W ++ [(q.2.1.v, (q.2.1.k : Int))])))], 4⟩,
    fun q H' => H' = H ∧ (bif q.1 then bget q.2.1.M q.2.1.v = false ∧ q.2.1.k = 0 ∧ VJ NX c0 (M0.count true) { q.2.1 with M := q.2.1.M.set q.2.1.v.toNat true } ∧ runS (nxL NX) q.2.2 (.inl { q.2.1 with M := q.2.1.M.set q.2.1.v.toNat true }) = some r
      else VJ NX c0 (M0.count true) q.2.1 ∧ runS (nxL NX) q.2.2 (.inl q.2.1) = some r), fun q => q.2.2, ?_, ?_⟩
  · refine ⟨⟨by omega, by rw [bRows_len]; omega⟩, ?_⟩
    refine ⟨_, bRows_get (M := M0) ha2.1 (by omega), ?_⟩
    refine ⟨fun h => ?_, fun h => ?_⟩
    · rw [if_pos h] at hr
      subst hr
      exact ⟨.own 2, [(0, .row 4 1 (bRows M0)), (2, .row 3 1 (iRows O))], 3, [(0, 0), (2, 1)], by (repeat' (first | exact trivial | refine ⟨?_, ?_⟩ | exact rfl | assumption)), hK⟩
    · rw [if_neg (by rw [h]; decide)] at hr
      obtain ⟨n, hrun⟩ := hr
      have hJ : VJ NX c0 (M0.count true) ⟨M0.set v.toNat true, [], v, 0, O⟩ := ⟨by dsimp only; rw [List.length_set]; exact hM, ha, by simp, Nat.zero_le _, by dsimp only; rw [count_set ha2.1 (by omega) h]; simp only [List.length_nil]; omega⟩
      obtain ⟨M, hMM⟩ : ∃ M, M = M0.set v.toNat true := ⟨_, rfl⟩
      obtain ⟨W, hWW⟩ : ∃ W : List (Int × Int), W = [] := ⟨_, rfl⟩
      obtain ⟨k, hkk⟩ : ∃ k : Nat, k = 0 := ⟨_, rfl⟩
      have hmr : (bRows M0).set v.toNat [.bool true] = bRows M := by rw [bRows_set, hMM]
      have hwr : [[Value.int .i64 v, .int .i64 0]] = eRows (W ++ [(v, (k : Int))]) := by rw [hWW, hkk]; rfl
      rw [← hMM, ← hWW, ← hkk] at hJ hrun
      refine ⟨⟨by omega, by rw [bRows_len]; omega⟩, ?_⟩
      refine ⟨_, bRows_get (M := M0) ha2.1 (by omega), ?_⟩
      refine ⟨⟨by show 1 * 16 ≤ _; omega, by show 1 ≤ _; omega⟩, ?_⟩
      obtain ⟨n, rfl⟩ : ∃ n', n = n' + 1 := by
        cases n with
        | zero => cases hrun
        | succ n => exact ⟨n, rfl⟩
      have hrun : runS (nxL NX) n (stpV (nxL NX) ⟨M, W, v, k, O⟩) = some r := hrun
      rw [stpV] at hrun
      dsimp only at hrun
      have hbd := hJ.bounds hX hO
      dsimp only at hbd
      have hlM := hJ.len
      dsimp only at hlM
      have hv := hJ.v
      dsimp only at hv
      have hv2 := dt hv
      have hew : ([[Value.int .i64 v, .int .i64 0]] : List (List Value)).length = W.length + 1 := by rw [hwr, List.length_map, List.length_append]; rfl
      have hgw : ([[Value.int .i64 v, .int .i64 0]] : List (List Value))[((([[Value.int .i64 v, .int .i64 0]] : List (List Value)).length : Int) - 1).toNat]? = some [.int .i64 v, .int .i64 k] := by
        rw [hew, show (((W.length + 1 : Nat) : Int) - 1).toNat = W.length by omega, hwr, List.getElem?_map, List.getElem?_append_right (Nat.le_refl _), Nat.sub_self]; rfl
      obtain ⟨ad, a1, n1, c1, q1, hh, hr1⟩ := list_elem hx (i := v.toNat) (nxL_get hv)
      rw [Int.toNat_of_nonneg hv2.1] at hh
      have hn1 := hr1.n_eq
      have hL1 := (hX.2 _ (nxL_mem hv)).1
      have hL2 := (hX.2 _ (nxL_mem hv)).2
      have hk1 := hJ.k
      dsimp only at hk1
      refine ⟨⟨by show _ ≤ (([[Value.int .i64 v, .int .i64 0]] : List (List Value)).length : Int) - 1; omega, by show (([[Value.int .i64 v, .int .i64 0]] : List (List Value)).length : Int) - 1 ≤ _; omega⟩, ?_⟩
      refine ⟨⟨by show _ ≤ (([[Value.int .i64 v, .int .i64 0]] : List (List Value)).length : Int) - 1; omega, by show (([[Value.int .i64 v, .int .i64 0]] : List (List Value)).length : Int) - 1 < (([[Value.int .i64 v, .int .i64 0]] : List (List Value)).length : Int); omega⟩, ?_⟩
      refine ⟨some ([], [0, 1, 2, 3, 4, 5, 6, 7, 8, 9, 10, 11, 12]), by kernel_rfl, ?_⟩
      refine ⟨_, hgw, ?_⟩
      refine ⟨_, hgw, ?_⟩
      refine ⟨ad, ⟨by (try dsimp only); omega, by (try dsimp only); omega, q1⟩, ?_⟩
      refine ⟨_, hh, ?_⟩
      refine ⟨fun h => ?_, fun h => ?_⟩
      · have hlt : k < (nxL NX v).length := by have := dt h; omega
        have hb : nodeI NX.length (nxL NX v)[k] = true := hL2 _ (List.getElem_mem hlt)
        rw [List.getElem?_eq_getElem hlt] at hrun
        dsimp only at hrun
        obtain ⟨ad2, cs2, q2, hh2, r3⟩ := hr1.elem (List.getElem?_eq_getElem hlt)
        obtain ⟨rfl, -⟩ := r3
        obtain ⟨b, hbb⟩ : ∃ b, b = (nxL NX v)[k] := ⟨_, rfl⟩
        rw [← hbb] at hb hrun hh2
        have hb2 := dt hb
        refine ⟨some ([], [0, 1, 2, 3, 4, 5, 6, 7, 8, 9, 10, 11, 12, 13]), by kernel_rfl, ?_⟩
        refine ⟨_, hgw, ?_⟩
        refine ⟨ad, ⟨by (try dsimp only); omega, by (try dsimp only); omega, q1⟩, ?_⟩
        refine ⟨_, hh, ?_⟩
        refine ⟨_, hgw, ?_⟩
        refine ⟨ad2, ⟨by (try dsimp only); omega, by (try dsimp only); omega, q2⟩, ?_⟩
        refine ⟨_, hh2, ?_⟩
        refine ⟨_, hgw, ?_⟩
        refine ⟨⟨by (try dsimp only); omega, by (try dsimp only); omega⟩, ?_⟩
        refine ⟨_, hgw, ?_⟩
        have hset : ([[Value.int .i64 v, .int .i64 0]] : List (List Value)).set ((([[Value.int .i64 v, .int .i64 0]] : List (List Value)).length : Int) - 1).toNat [.int .i64 v, .int .i64 (k + 1)] = eRows (W ++ [(v, ((k + 1 : Nat) : Int))]) := by
          rw [hew, show (((W.length + 1 : Nat) : Int) - 1).toNat = W.length by omega, hwr]
          refine (eRows_set (W ++ [(v, (k : Int))]) W.length (v, (k : Int) + 1)).trans ?_
          rw [List.set_append_right _ _ (Nat.le_refl _), Nat.sub_self]
          rfl
        refine ⟨⟨by (try dsimp only); omega, by show _ < (((bRows M0).set v.toNat [.bool true] : List (List Value)).length : Int); rw [hmr, bRows_len]; (try dsimp only); omega⟩, ?_⟩
        have hgm : ((bRows M0).set v.toNat [.bool true] : List (List Value))[b.toNat]? = some [.bool (bget M b)] := by rw [hmr]; exact bRows_get hb2.1 (by omega)
        refine ⟨_, hgm, ?_⟩
        refine ⟨fun h => ?_, fun h => ?_⟩
        · rw [if_pos h] at hrun
          refine ⟨(false, ⟨M, W, v, k + 1, O⟩, n), [(0, 0), (2, 1), (3, 3)], rfl, ?_, ⟨rfl, hJ.next hX hlt, hrun⟩⟩
          (repeat' (first | exact trivial | refine ⟨?_, ?_⟩ | exact rfl | assumption))
        · rw [if_neg (by rw [h]; decide)] at hrun
          refine ⟨(true, ⟨M, W ++ [(v, ((k + 1 : Nat) : Int))], b, 0, O⟩, n), [(0, 0), (2, 1), (3, 3)], rfl, ?_, ⟨rfl, h, rfl, hJ.push hX hlt hb h, hrun⟩⟩
          (repeat' (first | exact trivial | refine ⟨?_, ?_⟩ | exact rfl | assumption))
      · have hge : (nxL NX v).length ≤ k := by have := df h; omega
        rw [List.getElem?_eq_none hge] at hrun
        dsimp only at hrun
        have heo : (iRows O).length = O.length := List.length_map _
        have eo : iRows O ++ [[.int .i64 v]] = iRows (O ++ [v]) := by simp
        have ew : ([[Value.int .i64 v, .int .i64 0]] : List (List Value)).take ((([[Value.int .i64 v, .int .i64 0]] : List (List Value)).length : Int) - 1).toNat = eRows W := by
          rw [hew, show (((W.length + 1 : Nat) : Int) - 1).toNat = W.length by omega, hwr]; simp
        refine ⟨_, hgw, ?_⟩
        refine ⟨room (by rw [heo]; omega), ?_⟩
        refine ⟨⟨by show _ ≤ (([[Value.int .i64 v, .int .i64 0]] : List (List Value)).length : Int) - 1; omega, by show (([[Value.int .i64 v, .int .i64 0]] : List (List Value)).length : Int) - 1 ≤ _; omega⟩, ?_⟩
        refine .inl ⟨⟨by show _ ≤ (([[Value.int .i64 v, .int .i64 0]] : List (List Value)).length : Int) - 1; omega, by show (([[Value.int .i64 v, .int .i64 0]] : List (List Value)).length : Int) - 1 ≤ (([[Value.int .i64 v, .int .i64 0]] : List (List Value)).length : Int); omega⟩, ?_⟩
        have hwl : (([[Value.int .i64 v, .int .i64 0]] : List (List Value)).take ((([[Value.int .i64 v, .int .i64 0]] : List (List Value)).length : Int) - 1).toNat).length = W.length := by rw [ew, List.length_map]
        refine ⟨fun h => ?_, fun h => ?_⟩
        · have hpos : 0 < W.length := by
            have this : (0 : Int) < ((([[Value.int .i64 v, .int .i64 0]] : List (List Value)).take ((([[Value.int .i64 v, .int .i64 0]] : List (List Value)).length : Int) - 1).toNat).length : Int) := dt h
            rw [hwl] at this
            omega
          obtain ⟨W1, u, j, hW1⟩ : ∃ (W1 : List (Int × Int)) (u : Int) (j : Nat), W = W1 ++ [(u, (j : Int))] := by
            have hne : W ≠ [] := by intro e; rw [e] at hpos; cases hpos
            have hw := (hJ.w (W.getLast hne) (List.getLast_mem hne)).2.1
            refine ⟨W.dropLast, (W.getLast hne).1, (W.getLast hne).2.toNat, ?_⟩
            rw [Int.toNat_of_nonneg hw]
            exact (List.dropLast_concat_getLast hne).symm
          have ew3 : eRows W = eRows (W1 ++ [(u, (j : Int))]) := by rw [hW1]
          have ew2 := ew.trans ew3
          rw [hW1] at hrun hJ
          rw [popV, List.getLast?_concat, List.dropLast_concat] at hrun
          dsimp only at hrun
          have hJ2 := hJ.pop
          rw [Int.toNat_natCast] at hrun hJ2
          refine ⟨(false, ⟨M, W1, u, j, O ++ [v]⟩, n), [(0, 0), (2, 5), (3, 6)], rfl, ?_, ⟨rfl, hJ2, hrun⟩⟩
          (repeat' (first | exact trivial | refine ⟨?_, ?_⟩ | exact rfl | assumption))
        · have h0 : W = [] := List.eq_nil_of_length_eq_zero (by
            have this : ¬ (0 : Int) < ((([[Value.int .i64 v, .int .i64 0]] : List (List Value)).take ((([[Value.int .i64 v, .int .i64 0]] : List (List Value)).length : Int) - 1).toNat).length : Int) := df h
            rw [hwl] at this
            omega)
          rw [h0, popV] at hrun
          have hrun : some (M, O ++ [v]) = some r := by rw [← hrun]; cases n <;> rfl
          simp only [Option.some.injEq] at hrun
          subst hrun
          exact ⟨.own 2, [(0, .row 4 1 (bRows M)), (2, .row 3 1 (iRows (O ++ [v])))], 3, [(0, 0), (2, 5)], by (repeat' (first | exact trivial | refine ⟨?_, ?_⟩ | exact rfl | assumption)), hK⟩
  · rintro ⟨_ | _, s, n⟩ H1 _ ⟨rfl, hJ⟩
    · obtain ⟨hJ, hrun⟩ := hJ
      obtain ⟨M, W, v, k, O⟩ := s
      change VJ NX c0 (M0.count true) ⟨M, W, v, k, O⟩ at hJ
      have hmr : bRows M = bRows M := rfl
      have hwr : eRows (W ++ [(v, (k : Int))]) = eRows (W ++ [(v, (k : Int))]) := rfl
      obtain ⟨n, rfl⟩ : ∃ n', n = n' + 1 := by
        cases n with
        | zero => cases hrun
        | succ n => exact ⟨n, rfl⟩
      have hrun : runS (nxL NX) n (stpV (nxL NX) ⟨M, W, v, k, O⟩) = some r := hrun
      rw [stpV] at hrun
      dsimp only at hrun
      have hbd := hJ.bounds hX hO
      dsimp only at hbd
      have hlM := hJ.len
      dsimp only at hlM
      have hv := hJ.v
      dsimp only at hv
      have hv2 := dt hv
      have hew : (eRows (W ++ [(v, (k : Int))]) : List (List Value)).length = W.length + 1 := by rw [hwr, List.length_map, List.length_append]; rfl
      have hgw : (eRows (W ++ [(v, (k : Int))]) : List (List Value))[(((eRows (W ++ [(v, (k : Int))]) : List (List Value)).length : Int) - 1).toNat]? = some [.int .i64 v, .int .i64 k] := by
        rw [hew, show (((W.length + 1 : Nat) : Int) - 1).toNat = W.length by omega, hwr, List.getElem?_map, List.getElem?_append_right (Nat.le_refl _), Nat.sub_self]; rfl
      obtain ⟨ad, a1, n1, c1, q1, hh, hr1⟩ := list_elem hx (i := v.toNat) (nxL_get hv)
      rw [Int.toNat_of_nonneg hv2.1] at hh
      have hn1 := hr1.n_eq
      have hL1 := (hX.2 _ (nxL_mem hv)).1
      have hL2 := (hX.2 _ (nxL_mem hv)).2
      have hk1 := hJ.k
      dsimp only at hk1
      refine ⟨⟨by show _ ≤ ((eRows (W ++ [(v, (k : Int))]) : List (List Value)).length : Int) - 1; omega, by show ((eRows (W ++ [(v, (k : Int))]) : List (List Value)).length : Int) - 1 ≤ _; omega⟩, ?_⟩
      refine ⟨⟨by show _ ≤ ((eRows (W ++ [(v, (k : Int))]) : List (List Value)).length : Int) - 1; omega, by show ((eRows (W ++ [(v, (k : Int))]) : List (List Value)).length : Int) - 1 < ((eRows (W ++ [(v, (k : Int))]) : List (List Value)).length : Int); omega⟩, ?_⟩
      refine ⟨some ([], [0, 1, 2, 3, 4, 5, 6, 7, 8, 9, 10, 11, 12]), by kernel_rfl, ?_⟩
      refine ⟨_, hgw, ?_⟩
      refine ⟨_, hgw, ?_⟩
      refine ⟨ad, ⟨by (try dsimp only); omega, by (try dsimp only); omega, q1⟩, ?_⟩
      refine ⟨_, hh, ?_⟩
      refine ⟨fun h => ?_, fun h => ?_⟩
      · have hlt : k < (nxL NX v).length := by have := dt h; omega
        have hb : nodeI NX.length (nxL NX v)[k] = true := hL2 _ (List.getElem_mem hlt)
        rw [List.getElem?_eq_getElem hlt] at hrun
        dsimp only at hrun
        obtain ⟨ad2, cs2, q2, hh2, r3⟩ := hr1.elem (List.getElem?_eq_getElem hlt)
        obtain ⟨rfl, -⟩ := r3
        obtain ⟨b, hbb⟩ : ∃ b, b = (nxL NX v)[k] := ⟨_, rfl⟩
        rw [← hbb] at hb hrun hh2
        have hb2 := dt hb
        refine ⟨some ([], [0, 1, 2, 3, 4, 5, 6, 7, 8, 9, 10, 11, 12, 13]), by kernel_rfl, ?_⟩
        refine ⟨_, hgw, ?_⟩
        refine ⟨ad, ⟨by (try dsimp only); omega, by (try dsimp only); omega, q1⟩, ?_⟩
        refine ⟨_, hh, ?_⟩
        refine ⟨_, hgw, ?_⟩
        refine ⟨ad2, ⟨by (try dsimp only); omega, by (try dsimp only); omega, q2⟩, ?_⟩
        refine ⟨_, hh2, ?_⟩
        refine ⟨_, hgw, ?_⟩
        refine ⟨⟨by (try dsimp only); omega, by (try dsimp only); omega⟩, ?_⟩
        refine ⟨_, hgw, ?_⟩
        have hset : (eRows (W ++ [(v, (k : Int))]) : List (List Value)).set (((eRows (W ++ [(v, (k : Int))]) : List (List Value)).length : Int) - 1).toNat [.int .i64 v, .int .i64 (k + 1)] = eRows (W ++ [(v, ((k + 1 : Nat) : Int))]) := by
          rw [hew, show (((W.length + 1 : Nat) : Int) - 1).toNat = W.length by omega, hwr]
          refine (eRows_set (W ++ [(v, (k : Int))]) W.length (v, (k : Int) + 1)).trans ?_
          rw [List.set_append_right _ _ (Nat.le_refl _), Nat.sub_self]
          rfl
        refine ⟨⟨by (try dsimp only); omega, by show _ < ((bRows M : List (List Value)).length : Int); rw [hmr, bRows_len]; (try dsimp only); omega⟩, ?_⟩
        have hgm : (bRows M : List (List Value))[b.toNat]? = some [.bool (bget M b)] := by rw [hmr]; exact bRows_get hb2.1 (by omega)
        refine ⟨_, hgm, ?_⟩
        refine ⟨fun h => ?_, fun h => ?_⟩
        · rw [if_pos h] at hrun
          refine ⟨(false, ⟨M, W, v, k + 1, O⟩, n), [(0, 0), (2, 2), (3, 3)], rfl, ?_, ⟨rfl, hJ.next hX hlt, hrun⟩, Nat.lt_succ_self _⟩
          (repeat' (first | exact trivial | refine ⟨?_, ?_⟩ | exact rfl | assumption))
        · rw [if_neg (by rw [h]; decide)] at hrun
          refine ⟨(true, ⟨M, W ++ [(v, ((k + 1 : Nat) : Int))], b, 0, O⟩, n), [(0, 0), (2, 2), (3, 3)], rfl, ?_, ⟨rfl, h, rfl, hJ.push hX hlt hb h, hrun⟩, Nat.lt_succ_self _⟩
          (repeat' (first | exact trivial | refine ⟨?_, ?_⟩ | exact rfl | assumption))
      · have hge : (nxL NX v).length ≤ k := by have := df h; omega
        rw [List.getElem?_eq_none hge] at hrun
        dsimp only at hrun
        have heo : (iRows O).length = O.length := List.length_map _
        have eo : iRows O ++ [[.int .i64 v]] = iRows (O ++ [v]) := by simp
        have ew : (eRows (W ++ [(v, (k : Int))]) : List (List Value)).take (((eRows (W ++ [(v, (k : Int))]) : List (List Value)).length : Int) - 1).toNat = eRows W := by
          rw [hew, show (((W.length + 1 : Nat) : Int) - 1).toNat = W.length by omega, hwr]; simp
        refine ⟨_, hgw, ?_⟩
        refine ⟨room (by rw [heo]; omega), ?_⟩
        refine ⟨⟨by show _ ≤ ((eRows (W ++ [(v, (k : Int))]) : List (List Value)).length : Int) - 1; omega, by show ((eRows (W ++ [(v, (k : Int))]) : List (List Value)).length : Int) - 1 ≤ _; omega⟩, ?_⟩
        refine .inl ⟨⟨by show _ ≤ ((eRows (W ++ [(v, (k : Int))]) : List (List Value)).length : Int) - 1; omega, by show ((eRows (W ++ [(v, (k : Int))]) : List (List Value)).length : Int) - 1 ≤ ((eRows (W ++ [(v, (k : Int))]) : List (List Value)).length : Int); omega⟩, ?_⟩
        have hwl : ((eRows (W ++ [(v, (k : Int))]) : List (List Value)).take (((eRows (W ++ [(v, (k : Int))]) : List (List Value)).length : Int) - 1).toNat).length = W.length := by rw [ew, List.length_map]
        refine ⟨fun h => ?_, fun h => ?_⟩
        · have hpos : 0 < W.length := by
            have this : (0 : Int) < (((eRows (W ++ [(v, (k : Int))]) : List (List Value)).take (((eRows (W ++ [(v, (k : Int))]) : List (List Value)).length : Int) - 1).toNat).length : Int) := dt h
            rw [hwl] at this
            omega
          obtain ⟨W1, u, j, hW1⟩ : ∃ (W1 : List (Int × Int)) (u : Int) (j : Nat), W = W1 ++ [(u, (j : Int))] := by
            have hne : W ≠ [] := by intro e; rw [e] at hpos; cases hpos
            have hw := (hJ.w (W.getLast hne) (List.getLast_mem hne)).2.1
            refine ⟨W.dropLast, (W.getLast hne).1, (W.getLast hne).2.toNat, ?_⟩
            rw [Int.toNat_of_nonneg hw]
            exact (List.dropLast_concat_getLast hne).symm
          have ew3 : eRows W = eRows (W1 ++ [(u, (j : Int))]) := by rw [hW1]
          have ew2 := ew.trans ew3
          rw [hW1] at hrun hJ
          rw [popV, List.getLast?_concat, List.dropLast_concat] at hrun
          dsimp only at hrun
          have hJ2 := hJ.pop
          rw [Int.toNat_natCast] at hrun hJ2
          refine ⟨(false, ⟨M, W1, u, j, O ++ [v]⟩, n), [(0, 0), (2, 5), (3, 6)], rfl, ?_, ⟨rfl, hJ2, hrun⟩, Nat.lt_succ_self _⟩
          (repeat' (first | exact trivial | refine ⟨?_, ?_⟩ | exact rfl | assumption))
        · have h0 : W = [] := List.eq_nil_of_length_eq_zero (by
            have this : ¬ (0 : Int) < (((eRows (W ++ [(v, (k : Int))]) : List (List Value)).take (((eRows (W ++ [(v, (k : Int))]) : List (List Value)).length : Int) - 1).toNat).length : Int) := df h
            rw [hwl] at this
            omega)
          rw [h0, popV] at hrun
          have hrun : some (M, O ++ [v]) = some r := by rw [← hrun]; cases n <;> rfl
          simp only [Option.some.injEq] at hrun
          subst hrun
          exact ⟨.own 2, [(0, .row 4 1 (bRows M)), (2, .row 3 1 (iRows (O ++ [v])))], 3, [(0, 0), (2, 5)], by (repeat' (first | exact trivial | refine ⟨?_, ?_⟩ | exact rfl | assumption)), hK⟩
    · obtain ⟨hb0, hk00, hJ0, hrun0⟩ := hJ
      obtain ⟨M1, W, v, k0, O⟩ := s
      have hv0 := hJ0.v
      dsimp only at hv0
      have hv20 := dt hv0
      have hl0 := hJ0.len
      dsimp only at hl0
      rw [List.length_set] at hl0
      refine ⟨⟨by dsimp only; omega, by show v < ((bRows M1).length : Int); rw [bRows_len]; omega⟩, ?_⟩
      refine ⟨_, bRows_get (M := M1) (x := v) hv20.1 (by omega), ?_⟩
      have hwl0 := (hJ0.bounds hX hO).2
      dsimp only at hwl0
      refine ⟨room (n := (eRows W).length) (by rw [List.length_map]; omega), ?_⟩
      obtain ⟨M, hMM⟩ : ∃ M, M = M1.set v.toNat true := ⟨_, rfl⟩
      obtain ⟨k, hkk⟩ : ∃ k : Nat, k = 0 := ⟨_, rfl⟩
      have hrun : runS (nxL NX) n (.inl ⟨M1.set v.toNat true, W, v, k0, O⟩) = some r := hrun0
      have hJ : VJ NX c0 (M0.count true) ⟨M1.set v.toNat true, W, v, k0, O⟩ := hJ0
      obtain rfl : k0 = 0 := hk00
      have hmr : (bRows M1).set v.toNat [.bool true] = bRows M := by rw [bRows_set, hMM]
      have hwr : eRows W ++ [[Value.int .i64 v, .int .i64 0]] = eRows (W ++ [(v, (k : Int))]) := by rw [hkk]; simp
      rw [← hMM, ← hkk] at hJ hrun
      obtain ⟨n, rfl⟩ : ∃ n', n = n' + 1 := by
        cases n with
        | zero => cases hrun
        | succ n => exact ⟨n, rfl⟩
      have hrun : runS (nxL NX) n (stpV (nxL NX) ⟨M, W, v, k, O⟩) = some r := hrun
      rw [stpV] at hrun
      dsimp only at hrun
      have hbd := hJ.bounds hX hO
      dsimp only at hbd
      have hlM := hJ.len
      dsimp only at hlM
      have hv := hJ.v
      dsimp only at hv
      have hv2 := dt hv
      have hew : (eRows W ++ [[Value.int .i64 v, .int .i64 0]] : List (List Value)).length = W.length + 1 := by rw [hwr, List.length_map, List.length_append]; rfl
      have hgw : (eRows W ++ [[Value.int .i64 v, .int .i64 0]] : List (List Value))[(((eRows W ++ [[Value.int .i64 v, .int .i64 0]] : List (List Value)).length : Int) - 1).toNat]? = some [.int .i64 v, .int .i64 k] := by
        rw [hew, show (((W.length + 1 : Nat) : Int) - 1).toNat = W.length by omega, hwr, List.getElem?_map, List.getElem?_append_right (Nat.le_refl _), Nat.sub_self]; rfl
      obtain ⟨ad, a1, n1, c1, q1, hh, hr1⟩ := list_elem hx (i := v.toNat) (nxL_get hv)
      rw [Int.toNat_of_nonneg hv2.1] at hh
      have hn1 := hr1.n_eq
      have hL1 := (hX.2 _ (nxL_mem hv)).1
      have hL2 := (hX.2 _ (nxL_mem hv)).2
      have hk1 := hJ.k
      dsimp only at hk1
      refine ⟨⟨by show _ ≤ ((eRows W ++ [[Value.int .i64 v, .int .i64 0]] : List (List Value)).length : Int) - 1; omega, by show ((eRows W ++ [[Value.int .i64 v, .int .i64 0]] : List (List Value)).length : Int) - 1 ≤ _; omega⟩, ?_⟩
      refine ⟨⟨by show _ ≤ ((eRows W ++ [[Value.int .i64 v, .int .i64 0]] : List (List Value)).length : Int) - 1; omega, by show ((eRows W ++ [[Value.int .i64 v, .int .i64 0]] : List (List Value)).length : Int) - 1 < ((eRows W ++ [[Value.int .i64 v, .int .i64 0]] : List (List Value)).length : Int); omega⟩, ?_⟩
      refine ⟨some ([], [0, 1, 2, 3, 4, 5, 6, 7, 8, 9, 10, 11, 12]), by kernel_rfl, ?_⟩
      refine ⟨_, hgw, ?_⟩
      refine ⟨_, hgw, ?_⟩
      refine ⟨ad, ⟨by (try dsimp only); omega, by (try dsimp only); omega, q1⟩, ?_⟩
      refine ⟨_, hh, ?_⟩
      refine ⟨fun h => ?_, fun h => ?_⟩
      · have hlt : k < (nxL NX v).length := by have := dt h; omega
        have hb : nodeI NX.length (nxL NX v)[k] = true := hL2 _ (List.getElem_mem hlt)
        rw [List.getElem?_eq_getElem hlt] at hrun
        dsimp only at hrun
        obtain ⟨ad2, cs2, q2, hh2, r3⟩ := hr1.elem (List.getElem?_eq_getElem hlt)
        obtain ⟨rfl, -⟩ := r3
        obtain ⟨b, hbb⟩ : ∃ b, b = (nxL NX v)[k] := ⟨_, rfl⟩
        rw [← hbb] at hb hrun hh2
        have hb2 := dt hb
        refine ⟨some ([], [0, 1, 2, 3, 4, 5, 6, 7, 8, 9, 10, 11, 12, 13]), by kernel_rfl, ?_⟩
        refine ⟨_, hgw, ?_⟩
        refine ⟨ad, ⟨by (try dsimp only); omega, by (try dsimp only); omega, q1⟩, ?_⟩
        refine ⟨_, hh, ?_⟩
        refine ⟨_, hgw, ?_⟩
        refine ⟨ad2, ⟨by (try dsimp only); omega, by (try dsimp only); omega, q2⟩, ?_⟩
        refine ⟨_, hh2, ?_⟩
        refine ⟨_, hgw, ?_⟩
        refine ⟨⟨by (try dsimp only); omega, by (try dsimp only); omega⟩, ?_⟩
        refine ⟨_, hgw, ?_⟩
        have hset : (eRows W ++ [[Value.int .i64 v, .int .i64 0]] : List (List Value)).set (((eRows W ++ [[Value.int .i64 v, .int .i64 0]] : List (List Value)).length : Int) - 1).toNat [.int .i64 v, .int .i64 (k + 1)] = eRows (W ++ [(v, ((k + 1 : Nat) : Int))]) := by
          rw [hew, show (((W.length + 1 : Nat) : Int) - 1).toNat = W.length by omega, hwr]
          refine (eRows_set (W ++ [(v, (k : Int))]) W.length (v, (k : Int) + 1)).trans ?_
          rw [List.set_append_right _ _ (Nat.le_refl _), Nat.sub_self]
          rfl
        refine ⟨⟨by (try dsimp only); omega, by show _ < (((bRows M1).set v.toNat [.bool true] : List (List Value)).length : Int); rw [hmr, bRows_len]; (try dsimp only); omega⟩, ?_⟩
        have hgm : ((bRows M1).set v.toNat [.bool true] : List (List Value))[b.toNat]? = some [.bool (bget M b)] := by rw [hmr]; exact bRows_get hb2.1 (by omega)
        refine ⟨_, hgm, ?_⟩
        refine ⟨fun h => ?_, fun h => ?_⟩
        · rw [if_pos h] at hrun
          refine ⟨(false, ⟨M, W, v, k + 1, O⟩, n), [(0, 0), (2, 2), (3, 5)], rfl, ?_, ⟨rfl, hJ.next hX hlt, hrun⟩, Nat.lt_succ_self _⟩
          (repeat' (first | exact trivial | refine ⟨?_, ?_⟩ | exact rfl | assumption))
        · rw [if_neg (by rw [h]; decide)] at hrun
          refine ⟨(true, ⟨M, W ++ [(v, ((k + 1 : Nat) : Int))], b, 0, O⟩, n), [(0, 0), (2, 2), (3, 5)], rfl, ?_, ⟨rfl, h, rfl, hJ.push hX hlt hb h, hrun⟩, Nat.lt_succ_self _⟩
          (repeat' (first | exact trivial | refine ⟨?_, ?_⟩ | exact rfl | assumption))
      · have hge : (nxL NX v).length ≤ k := by have := df h; omega
        rw [List.getElem?_eq_none hge] at hrun
        dsimp only at hrun
        have heo : (iRows O).length = O.length := List.length_map _
        have eo : iRows O ++ [[.int .i64 v]] = iRows (O ++ [v]) := by simp
        have ew : (eRows W ++ [[Value.int .i64 v, .int .i64 0]] : List (List Value)).take (((eRows W ++ [[Value.int .i64 v, .int .i64 0]] : List (List Value)).length : Int) - 1).toNat = eRows W := by
          rw [hew, show (((W.length + 1 : Nat) : Int) - 1).toNat = W.length by omega, hwr]; simp
        refine ⟨_, hgw, ?_⟩
        refine ⟨room (by rw [heo]; omega), ?_⟩
        refine ⟨⟨by show _ ≤ ((eRows W ++ [[Value.int .i64 v, .int .i64 0]] : List (List Value)).length : Int) - 1; omega, by show ((eRows W ++ [[Value.int .i64 v, .int .i64 0]] : List (List Value)).length : Int) - 1 ≤ _; omega⟩, ?_⟩
        refine .inl ⟨⟨by show _ ≤ ((eRows W ++ [[Value.int .i64 v, .int .i64 0]] : List (List Value)).length : Int) - 1; omega, by show ((eRows W ++ [[Value.int .i64 v, .int .i64 0]] : List (List Value)).length : Int) - 1 ≤ ((eRows W ++ [[Value.int .i64 v, .int .i64 0]] : List (List Value)).length : Int); omega⟩, ?_⟩
        have hwl : ((eRows W ++ [[Value.int .i64 v, .int .i64 0]] : List (List Value)).take (((eRows W ++ [[Value.int .i64 v, .int .i64 0]] : List (List Value)).length : Int) - 1).toNat).length = W.length := by rw [ew, List.length_map]
        refine ⟨fun h => ?_, fun h => ?_⟩
        · have hpos : 0 < W.length := by
            have this : (0 : Int) < (((eRows W ++ [[Value.int .i64 v, .int .i64 0]] : List (List Value)).take (((eRows W ++ [[Value.int .i64 v, .int .i64 0]] : List (List Value)).length : Int) - 1).toNat).length : Int) := dt h
            rw [hwl] at this
            omega
          obtain ⟨W1, u, j, hW1⟩ : ∃ (W1 : List (Int × Int)) (u : Int) (j : Nat), W = W1 ++ [(u, (j : Int))] := by
            have hne : W ≠ [] := by intro e; rw [e] at hpos; cases hpos
            have hw := (hJ.w (W.getLast hne) (List.getLast_mem hne)).2.1
            refine ⟨W.dropLast, (W.getLast hne).1, (W.getLast hne).2.toNat, ?_⟩
            rw [Int.toNat_of_nonneg hw]
            exact (List.dropLast_concat_getLast hne).symm
          have ew3 : eRows W = eRows (W1 ++ [(u, (j : Int))]) := by rw [hW1]
          have ew2 := ew.trans ew3
          rw [hW1] at hrun hJ
          rw [popV, List.getLast?_concat, List.dropLast_concat] at hrun
          dsimp only at hrun
          have hJ2 := hJ.pop
          rw [Int.toNat_natCast] at hrun hJ2
          refine ⟨(false, ⟨M, W1, u, j, O ++ [v]⟩, n), [(0, 0), (2, 7), (3, 8)], rfl, ?_, ⟨rfl, hJ2, hrun⟩, Nat.lt_succ_self _⟩
          (repeat' (first | exact trivial | refine ⟨?_, ?_⟩ | exact rfl | assumption))
        · have h0 : W = [] := List.eq_nil_of_length_eq_zero (by
            have this : ¬ (0 : Int) < (((eRows W ++ [[Value.int .i64 v, .int .i64 0]] : List (List Value)).take (((eRows W ++ [[Value.int .i64 v, .int .i64 0]] : List (List Value)).length : Int) - 1).toNat).length : Int) := df h
            rw [hwl] at this
            omega)
          rw [h0, popV] at hrun
          have hrun : some (M, O ++ [v]) = some r := by rw [← hrun]; cases n <;> rfl
          simp only [Option.some.injEq] at hrun
          subst hrun
          exact ⟨.own 2, [(0, .row 4 1 (bRows M)), (2, .row 3 1 (iRows (O ++ [v])))], 3, [(0, 0), (2, 7)], by (repeat' (first | exact trivial | refine ⟨?_, ?_⟩ | exact rfl | assumption)), hK⟩
end Go.Proofs
end
section
namespace Go.Proofs
open Go.Sy
set_option maxRecDepth 20000
set_option maxHeartbeats 4000000
/-! What order.check says. -/
def outI (m : Int) (x : Int) : Bool := !(nodeI m x)
def idxI (f : Int → Bool) : List Int → Int → Int
  | [], _ => -1
  | x :: r, i => if f x then i else idxI f r (i + 1)
theorem idxI_step {f : Int → Bool} {l : List Int} {i : Nat} (h : i < l.length) : idxI f (l.drop i) i = if f l[i] then (i : Int) else idxI f (l.drop (i + 1)) ((i : Int) + 1) := by
  rw [List.drop_eq_getElem_cons h, idxI]
theorem idxI_none {f : Int → Bool} : ∀ (l : List Int) (i : Int), 0 ≤ i → (0 ≤ idxI f l i ↔ ∃ x ∈ l, f x = true)
  | [], i, _ => by simp [idxI]
  | x :: r, i, h => by
    rw [idxI]
    by_cases hf : f x = true
    · rw [if_pos hf]
      exact ⟨fun _ => ⟨x, List.mem_cons_self, hf⟩, fun _ => h⟩
    · rw [if_neg hf, idxI_none r (i + 1) (by omega)]
      constructor
      · rintro ⟨y, hy, h2⟩; exact ⟨y, List.mem_cons_of_mem _ hy, h2⟩
      · rintro ⟨y, hy, h2⟩
        rcases List.mem_cons.1 hy with rfl | hy
        · exact absurd h2 hf
        · exact ⟨y, hy, h2⟩
theorem out_spec {m x : Int} {H : Hp} {K : SV → St → Hp → Prop} (hK : K (.v (.bool (outI m x))) ⟨[], [(0, .cells 3 [.v (.int .i64 m)])], 1⟩ H) : DoesG Try.prog 106 [.v (.int .i64 x), .ptr 0 0] [(0, .cells 3 [.v (.int .i64 m)])] 1 H K := by
  refine spec_ofG cx_ok cx_mix Try.func106 Try.call106 Try.ntmps106 Try.results106 rfl rfl ?_
  refine ⟨fun h => ?_, fun h => ?_⟩
  · have h1 : ¬ x < 0 := df h
    have e1 : outI m x = decide (m ≤ x) := by rw [outI, nodeI, Bool.eq_iff_iff]; simp; omega
    rw [e1] at hK
    exact ⟨.v (.bool (decide (m ≤ x))), [(0, .cells 3 [.v (.int .i64 m)])], 1, [(0, 0)], by (repeat' (first | exact trivial | refine ⟨?_, ?_⟩ | exact rfl | assumption)), hK⟩
  · have h1 : x < 0 := dt h
    have e1 : outI m x = true := by rw [outI, nodeI]; simp; omega
    rw [e1] at hK
    exact ⟨.v (.bool true), [(0, .cells 3 [.v (.int .i64 m)])], 1, [(0, 0)], by (repeat' (first | exact trivial | refine ⟨?_, ?_⟩ | exact rfl | assumption)), hK⟩
theorem indexFI_spec {m : Int} {l : List Int} {a : Option Addr} {n c : Nat} {H : Hp} {K : SV → St → Hp → Prop} (ha : RL H a n c l)
    (hK : K (.v (.int .i64 (idxI (outI m) l 0))) ⟨[], [(0, .cells 3 [.v (.int .i64 m)])], 1⟩ H) : DoesG Try.prog 129 [.v (.slice a n c), .fn 106 [.ptr 0 0]] [(0, .cells 3 [.v (.int .i64 m)])] 1 H K := by
  have hn1 := ha.n_eq
  have hmx := ha.le
  refine spec_ofG cx_ok cx_mix Try.func129 Try.call129 Try.ntmps129 Try.results129 rfl rfl ?_
  refine ⟨Nat, fun i => ⟨[(0, .v (.slice a n c)), (1, .fn 106 [.ptr 0 0]), (7, .v (.int .i64 n)), (8, .v (.int .i64 i))], [(0, .cells 3 [.v (.int .i64 m)])], 1⟩, fun i H' => H' = H ∧ i ≤ l.length ∧ idxI (outI m) l 0 = idxI (outI m) (l.drop i) i,
    fun i => l.length - i, ⟨0, [(0, 0)], ?_, rfl, by omega, rfl⟩, ?_⟩
  · (repeat' (first | exact trivial | refine ⟨?_, ?_⟩ | exact rfl | assumption))
  rintro i H1 _ ⟨rfl, hi, hx⟩
  refine ⟨fun h => ?_, fun h => ?_⟩
  · have hlt : i < l.length := by have := dt h; omega
    obtain ⟨ad, cs, q1, hh, r1⟩ := ha.elem (List.getElem?_eq_getElem hlt)
    obtain ⟨rfl, -⟩ := r1
    rw [idxI_step hlt] at hx
    refine ⟨ad, ⟨by omega, by omega, q1⟩, ?_⟩
    refine ⟨_, hh, ?_⟩
    refine ⟨[0], rfl, out_spec ?_⟩
    refine ⟨fun h => ?_, fun h => ?_⟩
    · rw [if_pos h] at hx
      rw [hx] at hK
      exact ⟨.v (.int .i64 (i : Int)), [(0, .cells 3 [.v (.int .i64 m)])], 1, [(0, 0)], by (repeat' (first | exact trivial | refine ⟨?_, ?_⟩ | exact rfl | assumption)), hK⟩
    · rw [if_neg (by rw [h]; decide)] at hx
      refine ⟨⟨by omega, by omega⟩, i + 1, [(0, 0)], ?_, ⟨rfl, by omega, hx⟩, by dsimp only; omega⟩
      (repeat' (first | exact trivial | refine ⟨?_, ?_⟩ | exact rfl | assumption))
  · have hil : i = l.length := by have := df h; omega
    rw [hil, List.drop_length, idxI] at hx
    rw [hx] at hK
    exact ⟨.v (.int .i64 (-1)), [(0, .cells 3 [.v (.int .i64 m)])], 1, [(0, 0)], by (repeat' (first | exact trivial | refine ⟨?_, ?_⟩ | exact rfl | assumption)), hK⟩
theorem contFI_spec {m : Int} {l : List Int} {a : Option Addr} {n c : Nat} {H : Hp} {K : SV → St → Hp → Prop} (ha : RL H a n c l)
    (hK : K (.v (.bool (decide (0 ≤ idxI (outI m) l 0)))) ⟨[], [(0, .cells 3 [.v (.int .i64 m)])], 1⟩ H) : DoesG Try.prog 105 [.v (.slice a n c), .fn 106 [.ptr 0 0]] [(0, .cells 3 [.v (.int .i64 m)])] 1 H K := by
  refine spec_ofG cx_ok cx_mix Try.func105 Try.call105 Try.ntmps105 Try.results105 rfl rfl ?_
  refine ⟨[0], rfl, indexFI_spec ha ?_⟩
  exact ⟨.v (.bool (decide (0 ≤ idxI (outI m) l 0))), [(0, .cells 3 [.v (.int .i64 m)])], 1, [(0, 0)], by (repeat' (first | exact trivial | refine ⟨?_, ?_⟩ | exact rfl | assumption)), hK⟩
/-- What is wrong with a graph, and with where to begin. -/
def errE (m : Int) (l : List Edg) (f : List Int) : Int := if rightE m l then (if f.all (nodeI m) then 0 else 2) else 1
theorem kint {K : Value → Hp → Prop} {H : Hp} {a b : Int} (h : K (.int .i64 a) H) (e : a = b) : K (.int .i64 b) H := e ▸ h
theorem check_spec {m : Int} {l : List Edg} {f : List Int} {a a3 : Option Addr} {n c n3 c3 : Nat} {H : Hp} {K : Value → Hp → Prop} (ha : RL H a n c l) (hb : RL H a3 n3 c3 f) (hK : K (.int .i64 (errE m l f)) H) :
    Does Try.prog 85 [.int .i64 m, .slice a n c, .slice a3 n3 c3] H K := by
  refine spec_of cx_ok cx_mix rfl Try.func85 Try.call85 Try.ntmps85 Try.results85 rfl rfl ?_
  refine right_spec ha ?_
  refine ⟨fun h => ?_, fun h => ?_⟩
  · refine kint hK ?_
    have h1 : rightE m l = false := by simpa using h
    rw [errE, h1]; rfl
  · have h1 : rightE m l = true := by simpa using h
    refine ⟨[0], rfl, contFI_spec (m := m) hb ?_⟩
    have h2 := idxI_none (f := outI m) f 0 (by omega)
    refine ⟨fun h => ?_, fun h => ?_⟩
    · obtain ⟨x, hx, h3⟩ := h2.1 (dt h)
      refine kint hK ?_
      rw [errE, if_pos h1, if_neg]
      intro hh
      have := List.all_eq_true.1 hh x hx
      rw [outI, this] at h3; cases h3
    · refine kint hK ?_
      rw [errE, if_pos h1, if_pos]
      refine List.all_eq_true.2 fun x hx => ?_
      cases hn : nodeI m x with
      | true => rfl
      | false => exact absurd (h2.2 ⟨x, hx, by rw [outI, hn]; rfl⟩) (df h)
theorem rerr_spec {m : Int} {l : List Edg} {f : List Int} {a a3 : Option Addr} {n c n3 c3 : Nat} {H : Hp} {K : Value → Hp → Prop} (ha : RL H a n c l) (hb : RL H a3 n3 c3 f) (hK : K (.int .i64 (errE m l f)) H) :
    Does Try.prog 51 [.int .i64 m, .slice a n c, .slice a3 n3 c3] H K := by
  have hn3 := hb.n_eq
  have hmx3 := hb.le
  refine spec_of cx_ok cx_mix rfl Try.func51 Try.call51 Try.ntmps51 Try.results51 rfl rfl ?_
  refine rright_spec ha ?_
  refine ⟨fun h => ?_, fun h => ?_⟩
  · refine kint hK ?_
    have h1 : rightE m l = false := by simpa using h
    rw [errE, h1]; rfl
  · have h1 : rightE m l = true := by simpa using h
    refine ⟨Nat, fun i => ⟨[(0, .v (.int .i64 m)), (13, .v (.slice a3 n3 c3)), (14, .v (.int .i64 n3)), (15, .v (.int .i64 i))], [], 0⟩,
      fun i H' => H' = H ∧ i ≤ f.length ∧ ∀ e ∈ f.take i, nodeI m e = true, fun i => f.length - i, ⟨0, [], ?_, rfl, by omega, by simp⟩, ?_⟩
    · (repeat' (first | exact trivial | refine ⟨?_, ?_⟩ | exact rfl | assumption))
    rintro i H1 _ ⟨rfl, hi, hx⟩
    refine ⟨fun h => ?_, fun h => ?_⟩
    · have hlt : i < f.length := by have := dt h; omega
      obtain ⟨ad, cs, q1, hh, r1⟩ := hb.elem (List.getElem?_eq_getElem hlt)
      obtain ⟨rfl, -⟩ := r1
      have hbad : nodeI m f[i] = false → K (.int .i64 2) H1 := fun hn => by
        refine kint hK ?_
        rw [errE, if_pos h1, if_neg]
        intro hh
        rw [List.all_eq_true.1 hh _ (List.getElem_mem hlt)] at hn; cases hn
      have hgood : nodeI m f[i] = true → ∀ e ∈ f.take (i + 1), nodeI m e = true := mem_take_succ (List.getElem?_eq_getElem hlt) hx
      refine ⟨ad, ⟨by omega, by omega, q1⟩, ?_⟩
      refine ⟨_, hh, ?_⟩
      refine ⟨fun h => ?_, fun h => ?_⟩
      · have h2 : ¬ f[i] < 0 := df h
        refine ⟨fun h => ?_, fun h => ?_⟩
        · have h3 : f[i] ≥ m := dt h
          exact hbad (decide_eq_false (by omega))
        · have h3 : ¬ f[i] ≥ m := df h
          refine ⟨⟨by omega, by omega⟩, i + 1, [], ?_, ⟨rfl, by omega, hgood (decide_eq_true (by omega))⟩, by dsimp only; omega⟩
          (repeat' (first | exact trivial | refine ⟨?_, ?_⟩ | exact rfl | assumption))
      · have h2 : f[i] < 0 := dt h
        exact hbad (decide_eq_false (by omega))
    · have hil : i = f.length := by have := df h; omega
      rw [hil, List.take_length] at hx
      refine kint hK ?_
      rw [errE, if_pos h1, if_pos (List.all_eq_true.2 hx)]
end Go.Proofs
end
section
namespace Go.Proofs
open Go.Sy
set_option maxRecDepth 20000
set_option maxHeartbeats 4000000
/-! order.Post -/
abbrev gnx (m : Int) (l : List Edg) (v : Int) : List Int := gSort (nxt m v l)
def nexts (m : Int) (l : List Edg) (k : Nat) : List (List Int) := (List.range k).map fun (v : Nat) => gnx m l (v : Int)
theorem nexts_len (m : Int) (l : List Edg) (k : Nat) : (nexts m l k).length = k := by rw [nexts, List.length_map, List.length_range]
theorem nexts_snoc (m : Int) (l : List Edg) (k : Nat) : nexts m l (k + 1) = nexts m l k ++ [gnx m l (k : Int)] := by rw [nexts, nexts, List.range_succ, List.map_append]; rfl
theorem toNat_nat (m : Int) (h : 0 ≤ m) : ((m.toNat : Nat) : Int) = m := Int.toNat_of_nonneg h
theorem nxL_nexts {m : Int} (hm : 0 ≤ m) (l : List Edg) : nxL (nexts m l m.toNat) = gnx m l := by
  funext v
  rw [nxL, nexts_len, toNat_nat m hm]
  by_cases h : nodeI m v = true
  · have h1 := dt h
    rw [if_pos h, nexts, List.getElem?_map, List.getElem?_range (by omega)]
    simp only [Option.map_some, Option.getD_some]
    rw [Int.toNat_of_nonneg h1.1]
  · rw [if_neg h, gnx, nxt_none (by simpa using h)]; rfl
theorem nexts_ok {m : Int} (h0 : 0 ≤ m) (hm : m ≤ 1000) {l : List Edg} : Nexts (nexts m l m.toNat) := by
  rw [Nexts, nexts_len, toNat_nat m h0]
  refine ⟨by omega, fun L hL => ?_⟩
  obtain ⟨v, hv, rfl⟩ := List.mem_map.1 hL
  have hn : ∀ x ∈ gnx m l (v : Int), nodeI m x = true := fun x hx => (nxt_mem.1 ((gSort_mem _ x).1 hx)).2.2
  refine ⟨?_, hn⟩
  have := nodes_len (s := gnx m l (v : Int)) (m := m) (strict_nodup (gSort_strict _)) hn
  omega
/-- All nodes in the order in which they are told, from some on. -/
def postL (nx : Int → List Int) (N : Nat) (f : List Int) : List Int := f.foldl (fun o a => o ++ vis nx (N + 1) a o) []
theorem postL_snoc (nx : Int → List Int) (N : Nat) (f : List Int) (a : Int) : postL nx N (f ++ [a]) = postL nx N f ++ vis nx (N + 1) a (postL nx N f) := by rw [postL, List.foldl_append]; rfl
def nodesL (k : Nat) : List Int := (List.range k).map fun (v : Nat) => (v : Int)
theorem nodesL_snoc (k : Nat) : nodesL (k + 1) = nodesL k ++ [(k : Int)] := by rw [nodesL, nodesL, List.range_succ, List.map_append]; rfl
theorem left_len (N : Nat) (S : List Int) : (left N S).length ≤ N := by
  have := List.length_filter_le (fun (i : Nat) => !decide ((i : Int) ∈ S)) (List.range N)
  rwa [List.length_range] at this
/-- One call of visit. -/
theorem visit1_spec {NX : List (List Int)} (hX : Nexts NX) {N : Nat} (hN : NX.length = N) {nx : Int → List Int} (hnx : nxL NX = nx) {S : List Int} {v : Int} (hv : nodeI N v = true) (hO : S.length ≤ 1000000000)
    {an : Option Addr} {nn cn : Nat} {H : Hp} {K : SV → St → Hp → Prop} (hx : RL H an nn cn NX)
    (hK : K (.own 2) ⟨[], [(0, .row 4 1 (bRows (mkM N (S ++ vis nx (N + 1) v S)))), (2, .row 3 1 (iRows (S ++ vis nx (N + 1) v S)))], 3⟩ H) :
    DoesG Try.prog 86 [.v (.slice an nn cn), .own 0, .v (.int .i64 v), .own 1] [(0, .row 4 1 (bRows (mkM N S))), (1, .row 3 1 (iRows S))] 2 H K := by
  subst hN hnx
  refine visit_spec hX (mkM_len _ _) hv hO hx (r := (mkM NX.length (S ++ vis (nxL NX) (NX.length + 1) v S), S ++ vis (nxL NX) (NX.length + 1) v S)) ?_ hK
  rw [mkM_get hv]
  by_cases h : v ∈ S
  · rw [if_pos (decide_eq_true h), vis_met h, List.append_nil]
  · rw [if_neg (by rw [decide_eq_false h]; decide), mkM_set hv]
    have hn : ∀ v, ∀ b ∈ nxL NX v, nodeI NX.length b = true := fun v b hb => by
      rw [nxL] at hb
      split at hb
      · rename_i hv
        have h1 := nxL_mem hv
        rw [nxL, if_pos hv] at h1
        exact (hX.2 _ h1).2 b hb
      · cases hb
    have := left_len NX.length S
    refine vis_run hn (NX.length + 1) v S hv h (by omega) [] S _ ⟨0, rfl⟩
/-- What is told is new, each node once. -/
theorem vis_ok {nx : Int → List Int} {N : Nat} (hn : ∀ v, ∀ b ∈ nx v, nodeI N b = true) : ∀ (k : Nat) (a : Int) (S : List Int), nodeI N a = true → (vis nx k a S).Nodup ∧ ∀ x ∈ vis nx k a S, x ∉ S ∧ nodeI N x = true
  | 0, _, _, _ => ⟨List.nodup_nil, by simp [vis]⟩
  | k + 1, a, S, ha => by
    rw [vis]
    by_cases h : a ∈ S
    · rw [if_pos h]; exact ⟨List.nodup_nil, by simp⟩
    · rw [if_neg h]
      have key : ∀ (r : List Int) (q : List Int × List Int), (∀ b ∈ r, nodeI N b = true) → q.2 = S ++ [a] ++ q.1 → q.1.Nodup → (∀ x ∈ q.1, x ∉ S ++ [a] ∧ nodeI N x = true) →
          (r.foldl (visS (vis nx k)) q).1.Nodup ∧ ∀ x ∈ (r.foldl (visS (vis nx k)) q).1, x ∉ S ++ [a] ∧ nodeI N x = true := by
        intro r
        induction r with
        | nil => intro q _ _ h1 h2; exact ⟨h1, h2⟩
        | cons b r ih =>
          intro q hr hq h1 h2
          rw [List.foldl_cons]
          obtain ⟨g1, g2⟩ := vis_ok hn k b q.2 (hr b List.mem_cons_self)
          refine ih _ (fun x hx => hr x (List.mem_cons_of_mem _ hx)) (by rw [visS, hq]; simp only [List.append_assoc]) ?_ ?_
          · rw [visS, List.nodup_append]
            refine ⟨h1, g1, fun x hx y hy e => ?_⟩
            subst e
            exact (g2 x hy).1 (by rw [hq]; exact List.mem_append_right _ hx)
          · intro x hx
            rcases List.mem_append.1 hx with hx | hx
            · exact h2 x hx
            · have := g2 x hx
              exact ⟨fun h => this.1 (by rw [hq]; exact List.mem_append_left _ h), this.2⟩
      obtain ⟨g1, g2⟩ := key (nx a) ([], S ++ [a]) (hn a) (by simp) List.nodup_nil (by simp)
      refine ⟨?_, fun x hx => ?_⟩
      · rw [List.nodup_append]
        refine ⟨g1, by simp, fun x hx y hy e => ?_⟩
        rw [List.mem_singleton] at hy
        subst hy e
        exact (g2 x hx).1 (by simp)
      · rcases List.mem_append.1 hx with hx | hx
        · exact ⟨fun h => (g2 x hx).1 (List.mem_append_left _ h), (g2 x hx).2⟩
        · rw [List.mem_singleton] at hx
          subst hx
          exact ⟨h, ha⟩
theorem postL_ok {nx : Int → List Int} {N : Nat} (hn : ∀ v, ∀ b ∈ nx v, nodeI N b = true) {f : List Int} (hf : ∀ a ∈ f, nodeI N a = true) : (postL nx N f).Nodup ∧ ∀ x ∈ postL nx N f, nodeI N x = true := by
  have key : ∀ (f o : List Int), (∀ a ∈ f, nodeI N a = true) → o.Nodup → (∀ x ∈ o, nodeI N x = true) → (f.foldl (fun o a => o ++ vis nx (N + 1) a o) o).Nodup ∧ ∀ x ∈ f.foldl (fun o a => o ++ vis nx (N + 1) a o) o, nodeI N x = true := by
    intro f
    induction f with
    | nil => intro o _ h1 h2; exact ⟨h1, h2⟩
    | cons a f ih =>
      intro o hf h1 h2
      rw [List.foldl_cons]
      obtain ⟨g1, g2⟩ := vis_ok hn (N + 1) a o (hf a List.mem_cons_self)
      refine ih _ (fun x hx => hf x (List.mem_cons_of_mem _ hx)) ?_ ?_
      · rw [List.nodup_append]
        refine ⟨h1, g1, fun x hx y hy e => ?_⟩
        subst e
        exact (g2 x hy).1 hx
      · intro x hx
        rcases List.mem_append.1 hx with hx | hx
        · exact h2 x hx
        · exact (g2 x hx).2
  exact key f [] hf List.nodup_nil (by simp)
theorem postL_len {nx : Int → List Int} {N : Nat} (hn : ∀ v, ∀ b ∈ nx v, nodeI N b = true) {f : List Int} (hf : ∀ a ∈ f, nodeI N a = true) : (postL nx N f).length ≤ N := by
  obtain ⟨h1, h2⟩ := postL_ok hn hf
  have := nodes_len h1 h2
  simpa using this
theorem gnx_node {m : Int} {l : List Edg} : ∀ v, ∀ b ∈ gnx m l v, nodeI m b = true := fun _ b hb => (nxt_mem.1 ((gSort_mem _ b).1 hb)).2.2
theorem err_ok {m : Int} {l : List Edg} {f : List Int} (h : errE m l f = 0) : rightE m l = true ∧ ∀ x ∈ f, nodeI m x = true := by
  rw [errE] at h
  split at h
  · rename_i h1
    split at h
    · rename_i h2; exact ⟨h1, List.all_eq_true.1 h2⟩
    · cases h
  · cases h
theorem right_ok {m : Int} {l : List Edg} (h : rightE m l = true) : 1 ≤ m ∧ m ≤ 256 ∧ l.length ≤ 1024 := by
  rw [rightE] at h
  simp only [Bool.and_eq_true, decide_eq_true_eq] at h
  exact ⟨h.1.1.1, h.1.1.2, h.1.2⟩
theorem chop1 (x : Value) : chop 1 1 [x] = [[x]] := rfl
theorem post_spec {m : Int} {l : List Edg} {f : List Int} (hl : l.length ≤ 1000000) (hf : f.length ≤ 1000000) {a a3 : Option Addr} {n c n3 c3 : Nat} {H : Hp} {K : Value → Hp → Prop} (ha : RL H a n c l) (hb : RL H a3 n3 c3 f)
    (hbad : errE m l f ≠ 0 → K (.tuple #[.slice none 0 0, .int .i64 (errE m l f)]) H)
    (hK : errE m l f = 0 → ∀ a1 n1 c1 H', Le H H' → RL H' a1 n1 c1 (postL (gnx m l) m.toNat (f ++ nodesL m.toNat)) → K (.tuple #[.slice a1 n1 c1, .int .i64 0]) H') :
    Does Try.prog 48 [.int .i64 m, .slice a n c, .slice a3 n3 c3] H K := by
  have hn3 := hb.n_eq
  have hmx3 := hb.le
  refine spec_of cx_ok cx_mix rfl Try.func48 Try.call48 Try.ntmps48 Try.results48 rfl rfl ?_
  refine check_spec ha hb ?_
  refine ⟨fun h => ?_, fun h => ?_⟩
  · exact hbad (nt h)
  · have he := nf h
    have hK := hK he
    obtain ⟨h1, hf2⟩ := err_ok he
    obtain ⟨hm1, hm2, hl2⟩ := right_ok h1
    have hN : ((m.toNat : Nat) : Int) = m := toNat_nat m (by omega)
    have hNX := nexts_ok (m := m) (by omega) (by omega) (l := l)
    have hnl := nexts_len m l m.toNat
    have hnx := nxL_nexts (m := m) (by omega) l
    refine ⟨Nat × List (List Value), fun q => ⟨[(0, .v (.int .i64 m)), (1, .v (.slice a n c)), (2, .v (.slice a3 n3 c3)), (9, .own 0), (23, .v (.int .i64 m)), (24, .v (.int .i64 q.1))], [(0, .row 27 1 q.2)], 1⟩,
      fun q H' => Le H H' ∧ q.1 ≤ m.toNat ∧ RC H' q.2 (nexts m l q.1), fun q => m.toNat - q.1, ⟨(0, []), [], ?_, Le.refl H, Nat.zero_le _, RC.nil⟩, ?_⟩
    · (repeat' (first | exact trivial | refine ⟨?_, ?_⟩ | exact rfl | assumption))
    rintro ⟨i, css⟩ H1 _ ⟨hle, hi, hrc⟩
    dsimp only at hle hi hrc
    refine ⟨fun h => ?_, fun h => ?_⟩
    · have hlt : (i : Int) < m := dt h
      refine next_spec hl (ha.up hle) fun a5 n5 c5 H2 hle2 hr5 => ?_
      have hcl : css.length = i := by rw [hrc.1, nexts_len]
      refine ⟨room (n := css.length), ?_⟩
      have hrc2 : RC H2 (css ++ [[.slice a5 n5 c5]]) (nexts m l (i + 1)) := by rw [nexts_snoc]; exact (hrc.up hle2).snoc ⟨a5, n5, c5, rfl, hr5⟩
      refine ⟨⟨by omega, by omega⟩, (i + 1, css ++ [[.slice a5 n5 c5]]), [(0, 2)], ?_, ⟨hle.trans hle2, by dsimp only; omega, hrc2⟩, by dsimp only; omega⟩
      (repeat' (first | exact trivial | refine ⟨?_, ?_⟩ | exact rfl | assumption))
    · have him : i = m.toNat := by have := df h; dsimp only at this; omega
      subst him
      refine ⟨⟨rfl, by omega, by show m * 1 ≤ _; omega, by omega⟩, ?_⟩
      refine ⟨Bool × List (List Value) × (Option Addr × Nat × Nat) × Nat, fun q => ⟨[(0, .v (.int .i64 m)), (9, .own 0), (11, .own 1), (12, .own 2), (37, .v (.slice a3 n3 c3)), (38, .v (.int .i64 n3)), (39, .v (.int .i64 q.2.2.2))],
          [(0, bif q.1 then .frz (.slice q.2.2.1.1 q.2.2.1.2.1 q.2.2.1.2.2) else .row 27 1 q.2.1), (1, .row 4 1 (bRows (mkM m.toNat (postL (gnx m l) m.toNat (f.take q.2.2.2))))), (2, .row 3 1 (iRows (postL (gnx m l) m.toNat (f.take q.2.2.2))))], 3⟩,
        fun q H' => Le H H' ∧ q.2.2.2 ≤ f.length ∧ (bif q.1 then RL H' q.2.2.1.1 q.2.2.1.2.1 q.2.2.1.2.2 (nexts m l m.toNat) else RC H' q.2.1 (nexts m l m.toNat)), fun q => f.length - q.2.2.2,
        ⟨(false, css, (none, 0, 0), 0), [(0, 0), (1, 1)], ?_, hle, Nat.zero_le _, hrc⟩, ?_⟩
      · have e1 : List.replicate m.toNat [Value.bool false] = bRows (mkM m.toNat (postL (gnx m l) m.toNat (f.take 0))) := by
          rw [bRows_rep]
          congr 1
          refine List.ext_getElem? fun i => ?_
          rw [mkM, List.getElem?_map, List.getElem?_replicate]
          by_cases hi : i < m.toNat
          · rw [if_pos hi, List.getElem?_range hi]; simp [postL]
          · rw [if_neg hi, List.getElem?_eq_none (by rw [List.length_range]; omega)]; rfl
        (repeat' (first | exact trivial | refine ⟨?_, ?_⟩ | exact rfl | assumption))
      rintro ⟨_ | _, css, ⟨a5, n5, c5⟩, i⟩ H1 _ ⟨hle, hi, hrc⟩
      · dsimp only at hle hi
        have hrc : RC H1 css (nexts m l m.toNat) := hrc
        refine ⟨fun h => ?_, fun h => ?_⟩
        · have hlt : i < f.length := by have := dt h; dsimp only at this; omega
          obtain ⟨ad, cs, q1, hh, r1⟩ := (hb.up hle).elem (List.getElem?_eq_getElem hlt)
          obtain ⟨rfl, -⟩ := r1
          refine ⟨ad, ⟨by dsimp only; omega, by dsimp only; omega, q1⟩, ?_⟩
          refine ⟨_, hh, ?_⟩
          refine ⟨[1, 2], rfl, ?_⟩
          intro x H2 hle2 hrow
          obtain ⟨a6, n6, c6, rfl, hrr⟩ := RL.of_row (α := List Int) hrow (hrc.up hle2)
          have hv := hf2 _ (List.getElem_mem hlt)
          have hlst : ∀ x ∈ f.take i, nodeI m x = true := fun x hx => hf2 x (List.mem_of_mem_take hx)
          have htk : f.take (i + 1) = f.take i ++ [f[i]] := by rw [List.take_add_one, List.getElem?_eq_getElem hlt]; rfl
          have hsn : postL (gnx m l) m.toNat (f.take (i + 1)) = postL (gnx m l) m.toNat (f.take i) ++ vis (gnx m l) (m.toNat + 1) f[i] (postL (gnx m l) m.toNat (f.take i)) := by rw [← postL_snoc]; congr 1
          have hpl := postL_len (N := m.toNat) (nx := gnx m l) (by rw [hN]; exact gnx_node) (f := f.take i) (by rw [hN]; exact hlst)
          refine visit1_spec hNX hnl hnx (by rw [hN]; exact hv) (by (try dsimp only); omega) hrr ?_
          have e1 : bRows (mkM m.toNat (postL (gnx m l) m.toNat (f.take i) ++ vis (gnx m l) (m.toNat + 1) f[i] (postL (gnx m l) m.toNat (f.take i)))) = bRows (mkM m.toNat (postL (gnx m l) m.toNat (f.take (i + 1)))) := by rw [hsn]
          have e2 : iRows (postL (gnx m l) m.toNat (f.take i) ++ vis (gnx m l) (m.toNat + 1) f[i] (postL (gnx m l) m.toNat (f.take i))) = iRows (postL (gnx m l) m.toNat (f.take (i + 1))) := by rw [hsn]
          refine ⟨⟨by (try dsimp only); omega, by (try dsimp only); omega⟩, (true, [], (a6, n6, c6), i + 1), [(0, 0), (1, 1), (2, 3)], ?_, ⟨hle.trans hle2, by dsimp only; omega, hrr⟩, by dsimp only; omega⟩
          (repeat' (first | exact trivial | refine ⟨?_, ?_⟩ | exact rfl | assumption))
        · have hif : i = f.length := by have := df h; dsimp only at this; omega
          refine ⟨Bool × List (List Value) × (Option Addr × Nat × Nat) × Nat, fun q => ⟨[(9, .own 0), (11, .own 1), (12, .own 2), (49, .v (.int .i64 m)), (50, .v (.int .i64 q.2.2.2))],
              [(0, bif q.1 then .frz (.slice q.2.2.1.1 q.2.2.1.2.1 q.2.2.1.2.2) else .row 27 1 q.2.1), (1, .row 4 1 (bRows (mkM m.toNat (postL (gnx m l) m.toNat (f ++ nodesL q.2.2.2))))), (2, .row 3 1 (iRows (postL (gnx m l) m.toNat (f ++ nodesL q.2.2.2))))], 3⟩,
            fun q H' => Le H H' ∧ q.2.2.2 ≤ m.toNat ∧ (bif q.1 then RL H' q.2.2.1.1 q.2.2.1.2.1 q.2.2.1.2.2 (nexts m l m.toNat) else RC H' q.2.1 (nexts m l m.toNat)), fun q => m.toNat - q.2.2.2,
            ⟨(false, css, (none, 0, 0), 0), [(0, 0), (1, 1), (2, 2)], ?_, hle, Nat.zero_le _, hrc⟩, ?_⟩
          · have e0 : postL (gnx m l) m.toNat (f.take i) = postL (gnx m l) m.toNat (f ++ nodesL 0) := by rw [hif, List.take_length]; simp [nodesL]
            have e1 : bRows (mkM m.toNat (postL (gnx m l) m.toNat (f.take i))) = bRows (mkM m.toNat (postL (gnx m l) m.toNat (f ++ nodesL 0))) := by rw [e0]
            have e2 : iRows (postL (gnx m l) m.toNat (f.take i)) = iRows (postL (gnx m l) m.toNat (f ++ nodesL 0)) := by rw [e0]
            (repeat' (first | exact trivial | refine ⟨?_, ?_⟩ | exact rfl | assumption))
          clear hrc
          rintro ⟨_ | _, css, ⟨a5, n5, c5⟩, i⟩ H1 _ ⟨hle, hi, hrc⟩
          · dsimp only at hle hi
            have hrc : RC H1 css (nexts m l m.toNat) := hrc
            refine ⟨fun h => ?_, fun h => ?_⟩
            ·
              have hlt : i < m.toNat := by have := dt h; dsimp only at this; omega
              have hv : nodeI m (i : Int) = true := decide_eq_true (by omega)
              have hlst : ∀ x ∈ f ++ nodesL i, nodeI m x = true := fun x hx => by
                rcases List.mem_append.1 hx with hx | hx
                · exact hf2 x hx
                · obtain ⟨j, hj, rfl⟩ := List.mem_map.1 hx
                  rw [List.mem_range] at hj
                  exact decide_eq_true (by omega)
              have hassoc : f ++ nodesL (i + 1) = f ++ nodesL i ++ [(i : Int)] := by rw [nodesL_snoc, List.append_assoc]
              refine ⟨[1, 2], rfl, ?_⟩
              intro x H2 hle2 hrow
              obtain ⟨a6, n6, c6, rfl, hrr⟩ := RL.of_row (α := List Int) hrow (hrc.up hle2)
              have hsn : postL (gnx m l) m.toNat (f ++ nodesL (i + 1)) = postL (gnx m l) m.toNat (f ++ nodesL i) ++ vis (gnx m l) (m.toNat + 1) (i : Int) (postL (gnx m l) m.toNat (f ++ nodesL i)) := by rw [← postL_snoc]; congr 1
              have hpl := postL_len (N := m.toNat) (nx := gnx m l) (by rw [hN]; exact gnx_node) (f := f ++ nodesL i) (by rw [hN]; exact hlst)
              refine visit1_spec hNX hnl hnx (by rw [hN]; exact hv) (by (try dsimp only); omega) hrr ?_
              have e1 : bRows (mkM m.toNat (postL (gnx m l) m.toNat (f ++ nodesL i) ++ vis (gnx m l) (m.toNat + 1) (i : Int) (postL (gnx m l) m.toNat (f ++ nodesL i)))) = bRows (mkM m.toNat (postL (gnx m l) m.toNat (f ++ nodesL (i + 1)))) := by rw [hsn]
              have e2 : iRows (postL (gnx m l) m.toNat (f ++ nodesL i) ++ vis (gnx m l) (m.toNat + 1) (i : Int) (postL (gnx m l) m.toNat (f ++ nodesL i))) = iRows (postL (gnx m l) m.toNat (f ++ nodesL (i + 1))) := by rw [hsn]
              refine ⟨⟨by (try dsimp only); omega, by (try dsimp only); omega⟩, (true, [], (a6, n6, c6), i + 1), [(0, 0), (1, 1), (2, 3)], ?_, ⟨hle.trans hle2, by dsimp only; omega, hrr⟩, by dsimp only; omega⟩
              (repeat' (first | exact trivial | refine ⟨?_, ?_⟩ | exact rfl | assumption))
            ·
              have him : i = m.toNat := by have := df h; dsimp only at this; omega
              subst him
              intro y H4 hle4 hy
              have hin : ∀ z ∈ postL (gnx m l) m.toNat (f ++ nodesL m.toNat), inI z := fun z hz => by
                have := (postL_ok (N := m.toNat) (nx := gnx m l) (by rw [hN]; exact gnx_node) (f := f ++ nodesL m.toNat) (by
                  rw [hN]
                  intro x hx
                  rcases List.mem_append.1 hx with hx | hx
                  · exact hf2 x hx
                  · obtain ⟨j, hj, rfl⟩ := List.mem_map.1 hx
                    rw [List.mem_range] at hj
                    exact decide_eq_true (by omega))).2 z hz
                have := dt this
                exact ⟨by omega, by omega⟩
              obtain ⟨a1, n1, c1, rfl, hr⟩ := rI_all hy hin
              exact hK _ _ _ _ (hle.trans hle4) hr
          · dsimp only at hle hi
            have hrr : RL H1 a5 n5 c5 (nexts m l m.toNat) := hrc
            refine ⟨fun h => ?_, fun h => ?_⟩
            ·
              have hlt : i < m.toNat := by have := dt h; dsimp only at this; omega
              have hv : nodeI m (i : Int) = true := decide_eq_true (by omega)
              have hlst : ∀ x ∈ f ++ nodesL i, nodeI m x = true := fun x hx => by
                rcases List.mem_append.1 hx with hx | hx
                · exact hf2 x hx
                · obtain ⟨j, hj, rfl⟩ := List.mem_map.1 hx
                  rw [List.mem_range] at hj
                  exact decide_eq_true (by omega)
              have hassoc : f ++ nodesL (i + 1) = f ++ nodesL i ++ [(i : Int)] := by rw [nodesL_snoc, List.append_assoc]
              refine ⟨[1, 2], rfl, ?_⟩
              have hsn : postL (gnx m l) m.toNat (f ++ nodesL (i + 1)) = postL (gnx m l) m.toNat (f ++ nodesL i) ++ vis (gnx m l) (m.toNat + 1) (i : Int) (postL (gnx m l) m.toNat (f ++ nodesL i)) := by rw [← postL_snoc]; congr 1
              have hpl := postL_len (N := m.toNat) (nx := gnx m l) (by rw [hN]; exact gnx_node) (f := f ++ nodesL i) (by rw [hN]; exact hlst)
              refine visit1_spec hNX hnl hnx (by rw [hN]; exact hv) (by (try dsimp only); omega) hrr ?_
              have e1 : bRows (mkM m.toNat (postL (gnx m l) m.toNat (f ++ nodesL i) ++ vis (gnx m l) (m.toNat + 1) (i : Int) (postL (gnx m l) m.toNat (f ++ nodesL i)))) = bRows (mkM m.toNat (postL (gnx m l) m.toNat (f ++ nodesL (i + 1)))) := by rw [hsn]
              have e2 : iRows (postL (gnx m l) m.toNat (f ++ nodesL i) ++ vis (gnx m l) (m.toNat + 1) (i : Int) (postL (gnx m l) m.toNat (f ++ nodesL i))) = iRows (postL (gnx m l) m.toNat (f ++ nodesL (i + 1))) := by rw [hsn]
              refine ⟨⟨by (try dsimp only); omega, by (try dsimp only); omega⟩, (true, [], (a5, n5, c5), i + 1), [(0, 0), (1, 1), (2, 3)], ?_, ⟨hle, by dsimp only; omega, hrr⟩, by dsimp only; omega⟩
              (repeat' (first | exact trivial | refine ⟨?_, ?_⟩ | exact rfl | assumption))
            ·
              have him : i = m.toNat := by have := df h; dsimp only at this; omega
              subst him
              intro y H4 hle4 hy
              have hin : ∀ z ∈ postL (gnx m l) m.toNat (f ++ nodesL m.toNat), inI z := fun z hz => by
                have := (postL_ok (N := m.toNat) (nx := gnx m l) (by rw [hN]; exact gnx_node) (f := f ++ nodesL m.toNat) (by
                  rw [hN]
                  intro x hx
                  rcases List.mem_append.1 hx with hx | hx
                  · exact hf2 x hx
                  · obtain ⟨j, hj, rfl⟩ := List.mem_map.1 hx
                    rw [List.mem_range] at hj
                    exact decide_eq_true (by omega))).2 z hz
                have := dt this
                exact ⟨by omega, by omega⟩
              obtain ⟨a1, n1, c1, rfl, hr⟩ := rI_all hy hin
              exact hK _ _ _ _ (hle.trans hle4) hr
      · dsimp only at hle hi
        have hrr : RL H1 a5 n5 c5 (nexts m l m.toNat) := hrc
        refine ⟨fun h => ?_, fun h => ?_⟩
        · have hlt : i < f.length := by have := dt h; dsimp only at this; omega
          obtain ⟨ad, cs, q1, hh, r1⟩ := (hb.up hle).elem (List.getElem?_eq_getElem hlt)
          obtain ⟨rfl, -⟩ := r1
          refine ⟨ad, ⟨by dsimp only; omega, by dsimp only; omega, q1⟩, ?_⟩
          refine ⟨_, hh, ?_⟩
          refine ⟨[1, 2], rfl, ?_⟩
          have hv := hf2 _ (List.getElem_mem hlt)
          have hlst : ∀ x ∈ f.take i, nodeI m x = true := fun x hx => hf2 x (List.mem_of_mem_take hx)
          have htk : f.take (i + 1) = f.take i ++ [f[i]] := by rw [List.take_add_one, List.getElem?_eq_getElem hlt]; rfl
          have hsn : postL (gnx m l) m.toNat (f.take (i + 1)) = postL (gnx m l) m.toNat (f.take i) ++ vis (gnx m l) (m.toNat + 1) f[i] (postL (gnx m l) m.toNat (f.take i)) := by rw [← postL_snoc]; congr 1
          have hpl := postL_len (N := m.toNat) (nx := gnx m l) (by rw [hN]; exact gnx_node) (f := f.take i) (by rw [hN]; exact hlst)
          refine visit1_spec hNX hnl hnx (by rw [hN]; exact hv) (by (try dsimp only); omega) hrr ?_
          have e1 : bRows (mkM m.toNat (postL (gnx m l) m.toNat (f.take i) ++ vis (gnx m l) (m.toNat + 1) f[i] (postL (gnx m l) m.toNat (f.take i)))) = bRows (mkM m.toNat (postL (gnx m l) m.toNat (f.take (i + 1)))) := by rw [hsn]
          have e2 : iRows (postL (gnx m l) m.toNat (f.take i) ++ vis (gnx m l) (m.toNat + 1) f[i] (postL (gnx m l) m.toNat (f.take i))) = iRows (postL (gnx m l) m.toNat (f.take (i + 1))) := by rw [hsn]
          refine ⟨⟨by (try dsimp only); omega, by (try dsimp only); omega⟩, (true, [], (a5, n5, c5), i + 1), [(0, 0), (1, 1), (2, 3)], ?_, ⟨hle, by dsimp only; omega, hrr⟩, by dsimp only; omega⟩
          (repeat' (first | exact trivial | refine ⟨?_, ?_⟩ | exact rfl | assumption))
        · have hif : i = f.length := by have := df h; dsimp only at this; omega
          refine ⟨Bool × List (List Value) × (Option Addr × Nat × Nat) × Nat, fun q => ⟨[(9, .own 0), (11, .own 1), (12, .own 2), (49, .v (.int .i64 m)), (50, .v (.int .i64 q.2.2.2))],
              [(0, bif q.1 then .frz (.slice q.2.2.1.1 q.2.2.1.2.1 q.2.2.1.2.2) else .row 27 1 q.2.1), (1, .row 4 1 (bRows (mkM m.toNat (postL (gnx m l) m.toNat (f ++ nodesL q.2.2.2))))), (2, .row 3 1 (iRows (postL (gnx m l) m.toNat (f ++ nodesL q.2.2.2))))], 3⟩,
            fun q H' => Le H H' ∧ q.2.2.2 ≤ m.toNat ∧ (bif q.1 then RL H' q.2.2.1.1 q.2.2.1.2.1 q.2.2.1.2.2 (nexts m l m.toNat) else RC H' q.2.1 (nexts m l m.toNat)), fun q => m.toNat - q.2.2.2,
            ⟨(true, [], (a5, n5, c5), 0), [(0, 0), (1, 1), (2, 2)], ?_, hle, Nat.zero_le _, hrr⟩, ?_⟩
          · have e0 : postL (gnx m l) m.toNat (f.take i) = postL (gnx m l) m.toNat (f ++ nodesL 0) := by rw [hif, List.take_length]; simp [nodesL]
            have e1 : bRows (mkM m.toNat (postL (gnx m l) m.toNat (f.take i))) = bRows (mkM m.toNat (postL (gnx m l) m.toNat (f ++ nodesL 0))) := by rw [e0]
            have e2 : iRows (postL (gnx m l) m.toNat (f.take i)) = iRows (postL (gnx m l) m.toNat (f ++ nodesL 0)) := by rw [e0]
            (repeat' (first | exact trivial | refine ⟨?_, ?_⟩ | exact rfl | assumption))
          clear hrc
          rintro ⟨_ | _, css, ⟨a5, n5, c5⟩, i⟩ H1 _ ⟨hle, hi, hrc⟩
          · dsimp only at hle hi
            have hrc : RC H1 css (nexts m l m.toNat) := hrc
            refine ⟨fun h => ?_, fun h => ?_⟩
            ·
              have hlt : i < m.toNat := by have := dt h; dsimp only at this; omega
              have hv : nodeI m (i : Int) = true := decide_eq_true (by omega)
              have hlst : ∀ x ∈ f ++ nodesL i, nodeI m x = true := fun x hx => by
                rcases List.mem_append.1 hx with hx | hx
                · exact hf2 x hx
                · obtain ⟨j, hj, rfl⟩ := List.mem_map.1 hx
                  rw [List.mem_range] at hj
                  exact decide_eq_true (by omega)
              have hassoc : f ++ nodesL (i + 1) = f ++ nodesL i ++ [(i : Int)] := by rw [nodesL_snoc, List.append_assoc]
              refine ⟨[1, 2], rfl, ?_⟩
              intro x H2 hle2 hrow
              obtain ⟨a6, n6, c6, rfl, hrr⟩ := RL.of_row (α := List Int) hrow (hrc.up hle2)
              have hsn : postL (gnx m l) m.toNat (f ++ nodesL (i + 1)) = postL (gnx m l) m.toNat (f ++ nodesL i) ++ vis (gnx m l) (m.toNat + 1) (i : Int) (postL (gnx m l) m.toNat (f ++ nodesL i)) := by rw [← postL_snoc]; congr 1
              have hpl := postL_len (N := m.toNat) (nx := gnx m l) (by rw [hN]; exact gnx_node) (f := f ++ nodesL i) (by rw [hN]; exact hlst)
              refine visit1_spec hNX hnl hnx (by rw [hN]; exact hv) (by (try dsimp only); omega) hrr ?_
              have e1 : bRows (mkM m.toNat (postL (gnx m l) m.toNat (f ++ nodesL i) ++ vis (gnx m l) (m.toNat + 1) (i : Int) (postL (gnx m l) m.toNat (f ++ nodesL i)))) = bRows (mkM m.toNat (postL (gnx m l) m.toNat (f ++ nodesL (i + 1)))) := by rw [hsn]
              have e2 : iRows (postL (gnx m l) m.toNat (f ++ nodesL i) ++ vis (gnx m l) (m.toNat + 1) (i : Int) (postL (gnx m l) m.toNat (f ++ nodesL i))) = iRows (postL (gnx m l) m.toNat (f ++ nodesL (i + 1))) := by rw [hsn]
              refine ⟨⟨by (try dsimp only); omega, by (try dsimp only); omega⟩, (true, [], (a6, n6, c6), i + 1), [(0, 0), (1, 1), (2, 3)], ?_, ⟨hle.trans hle2, by dsimp only; omega, hrr⟩, by dsimp only; omega⟩
              (repeat' (first | exact trivial | refine ⟨?_, ?_⟩ | exact rfl | assumption))
            ·
              have him : i = m.toNat := by have := df h; dsimp only at this; omega
              subst him
              intro y H4 hle4 hy
              have hin : ∀ z ∈ postL (gnx m l) m.toNat (f ++ nodesL m.toNat), inI z := fun z hz => by
                have := (postL_ok (N := m.toNat) (nx := gnx m l) (by rw [hN]; exact gnx_node) (f := f ++ nodesL m.toNat) (by
                  rw [hN]
                  intro x hx
                  rcases List.mem_append.1 hx with hx | hx
                  · exact hf2 x hx
                  · obtain ⟨j, hj, rfl⟩ := List.mem_map.1 hx
                    rw [List.mem_range] at hj
                    exact decide_eq_true (by omega))).2 z hz
                have := dt this
                exact ⟨by omega, by omega⟩
              obtain ⟨a1, n1, c1, rfl, hr⟩ := rI_all hy hin
              exact hK _ _ _ _ (hle.trans hle4) hr
          · dsimp only at hle hi
            have hrr : RL H1 a5 n5 c5 (nexts m l m.toNat) := hrc
            refine ⟨fun h => ?_, fun h => ?_⟩
            ·
              have hlt : i < m.toNat := by have := dt h; dsimp only at this; omega
              have hv : nodeI m (i : Int) = true := decide_eq_true (by omega)
              have hlst : ∀ x ∈ f ++ nodesL i, nodeI m x = true := fun x hx => by
                rcases List.mem_append.1 hx with hx | hx
                · exact hf2 x hx
                · obtain ⟨j, hj, rfl⟩ := List.mem_map.1 hx
                  rw [List.mem_range] at hj
                  exact decide_eq_true (by omega)
              have hassoc : f ++ nodesL (i + 1) = f ++ nodesL i ++ [(i : Int)] := by rw [nodesL_snoc, List.append_assoc]
              refine ⟨[1, 2], rfl, ?_⟩
              have hsn : postL (gnx m l) m.toNat (f ++ nodesL (i + 1)) = postL (gnx m l) m.toNat (f ++ nodesL i) ++ vis (gnx m l) (m.toNat + 1) (i : Int) (postL (gnx m l) m.toNat (f ++ nodesL i)) := by rw [← postL_snoc]; congr 1
              have hpl := postL_len (N := m.toNat) (nx := gnx m l) (by rw [hN]; exact gnx_node) (f := f ++ nodesL i) (by rw [hN]; exact hlst)
              refine visit1_spec hNX hnl hnx (by rw [hN]; exact hv) (by (try dsimp only); omega) hrr ?_
              have e1 : bRows (mkM m.toNat (postL (gnx m l) m.toNat (f ++ nodesL i) ++ vis (gnx m l) (m.toNat + 1) (i : Int) (postL (gnx m l) m.toNat (f ++ nodesL i)))) = bRows (mkM m.toNat (postL (gnx m l) m.toNat (f ++ nodesL (i + 1)))) := by rw [hsn]
              have e2 : iRows (postL (gnx m l) m.toNat (f ++ nodesL i) ++ vis (gnx m l) (m.toNat + 1) (i : Int) (postL (gnx m l) m.toNat (f ++ nodesL i))) = iRows (postL (gnx m l) m.toNat (f ++ nodesL (i + 1))) := by rw [hsn]
              refine ⟨⟨by (try dsimp only); omega, by (try dsimp only); omega⟩, (true, [], (a5, n5, c5), i + 1), [(0, 0), (1, 1), (2, 3)], ?_, ⟨hle, by dsimp only; omega, hrr⟩, by dsimp only; omega⟩
              (repeat' (first | exact trivial | refine ⟨?_, ?_⟩ | exact rfl | assumption))
            ·
              have him : i = m.toNat := by have := df h; dsimp only at this; omega
              subst him
              intro y H4 hle4 hy
              have hin : ∀ z ∈ postL (gnx m l) m.toNat (f ++ nodesL m.toNat), inI z := fun z hz => by
                have := (postL_ok (N := m.toNat) (nx := gnx m l) (by rw [hN]; exact gnx_node) (f := f ++ nodesL m.toNat) (by
                  rw [hN]
                  intro x hx
                  rcases List.mem_append.1 hx with hx | hx
                  · exact hf2 x hx
                  · obtain ⟨j, hj, rfl⟩ := List.mem_map.1 hx
                    rw [List.mem_range] at hj
                    exact decide_eq_true (by omega))).2 z hz
                have := dt this
                exact ⟨by omega, by omega⟩
              obtain ⟨a1, n1, c1, rfl, hr⟩ := rI_all hy hin
              exact hK _ _ _ _ (hle.trans hle4) hr
end Go.Proofs
end
section
namespace Go.Proofs
open Go.Sy
set_option maxRecDepth 20000
set_option maxHeartbeats 4000000
/-- Of each node how many are told behind it: after the first k of a list. -/
def rankL (m : Int) (p : List Int) : Nat → List Int
  | 0 => List.replicate m.toNat 0
  | k + 1 => (rankL m p k).set (p[k]?.getD 0).toNat (m - 1 - k)
theorem rankL_len (m : Int) (p : List Int) : ∀ k, (rankL m p k).length = m.toNat
  | 0 => List.length_replicate
  | k + 1 => by rw [rankL, List.length_set, rankL_len m p k]
theorem rankL_in {m : Int} (h0 : 0 ≤ m) (hm : m ≤ 1000) {p : List Int} : ∀ {k : Nat}, k ≤ 1000 → ∀ x ∈ rankL m p k, inI x
  | 0, _, x, hx => by
    have := List.eq_of_mem_replicate hx
    subst this
    exact ⟨by omega, by omega⟩
  | k + 1, hk, x, hx => by
    rw [rankL] at hx
    rcases List.mem_or_eq_of_mem_set hx with hx | rfl
    · exact rankL_in h0 hm (by omega) x hx
    · exact ⟨by omega, by omega⟩
def ranks (m : Int) (l : List Edg) (f : List Int) : List Int := rankL m (postL (gnx m l) m.toNat (f ++ nodesL m.toNat)) (postL (gnx m l) m.toNat (f ++ nodesL m.toNat)).length
theorem iRows_rep (k : Nat) : List.replicate k [Value.int .i64 0] = iRows (List.replicate k 0) := by rw [iRows, List.map_replicate]
theorem postN {m : Int} (h0 : 0 ≤ m) {l : List Edg} {f : List Int} (hf : ∀ x ∈ f, nodeI m x = true) : (postL (gnx m l) m.toNat (f ++ nodesL m.toNat)).length ≤ m.toNat ∧ (postL (gnx m l) m.toNat (f ++ nodesL m.toNat)).Nodup ∧
    ∀ x ∈ postL (gnx m l) m.toNat (f ++ nodesL m.toNat), nodeI m x = true := by
  have hN := toNat_nat m h0
  have h1 : ∀ x ∈ f ++ nodesL m.toNat, nodeI m.toNat x = true := fun x hx => by
    rw [hN]
    rcases List.mem_append.1 hx with hx | hx
    · exact hf x hx
    · obtain ⟨j, hj, rfl⟩ := List.mem_map.1 hx
      rw [List.mem_range] at hj
      exact decide_eq_true (by omega)
  have hn : ∀ v, ∀ b ∈ gnx m l v, nodeI m.toNat b = true := by rw [hN]; exact gnx_node
  have h2 := postL_ok hn h1
  rw [hN] at h2
  exact ⟨postL_len hn h1, h2⟩
theorem ranks_spec {m : Int} {l : List Edg} {f : List Int} (hl : l.length ≤ 1000000) (hf : f.length ≤ 1000000) {a a3 : Option Addr} {n c n3 c3 : Nat} {H : Hp} {K : Value → Hp → Prop} (ha : RL H a n c l) (hb : RL H a3 n3 c3 f)
    (hbad : errE m l f ≠ 0 → K (.tuple #[.slice none 0 0, .int .i64 (errE m l f)]) H)
    (hK : errE m l f = 0 → ∀ a1 n1 c1 H', Le H H' → RL H' a1 n1 c1 (ranks m l f) → K (.tuple #[.slice a1 n1 c1, .int .i64 0]) H') :
    Does Try.prog 49 [.int .i64 m, .slice a n c, .slice a3 n3 c3] H K := by
  refine spec_of cx_ok cx_mix rfl Try.func49 Try.call49 Try.ntmps49 Try.results49 rfl rfl ?_
  refine post_spec hl hf ha hb (fun he => ?_) (fun he a1 n1 c1 H1 hle1 hrp => ?_)
  · refine ⟨fun h => ?_, fun h => ?_⟩
    · exact hbad (nt h)
    · exact absurd (nf h) he
  · have hK := hK he
    obtain ⟨h1, hf2⟩ := err_ok he
    obtain ⟨hm1, hm2, hl2⟩ := right_ok h1
    obtain ⟨hp1, hp2, hp3⟩ := postN (m := m) (by omega) (l := l) hf2
    obtain ⟨p, hpp⟩ : ∃ p, p = postL (gnx m l) m.toNat (f ++ nodesL m.toNat) := ⟨_, rfl⟩
    rw [← hpp] at hrp hp1 hp2 hp3
    have hpn := hrp.n_eq
    refine ⟨fun h => by simp at h, fun _ => ?_⟩
    refine ⟨⟨rfl, by omega, by show m * 8 ≤ _; omega, by omega⟩, ?_⟩
    refine ⟨Nat × List Int, fun q => ⟨[(0, .v (.int .i64 m)), (10, .own 0), (25, .v (.slice a1 n1 c1)), (26, .v (.int .i64 n1)), (27, .v (.int .i64 q.1))], [(0, .row 3 1 (iRows q.2))], 1⟩,
      fun q H' => H' = H1 ∧ q.1 ≤ p.length ∧ q.2 = rankL m p q.1, fun q => p.length - q.1, ⟨(0, List.replicate m.toNat 0), [(0, 0)], ?_, rfl, Nat.zero_le _, rfl⟩, ?_⟩
    · have e1 := iRows_rep m.toNat
      (repeat' (first | exact trivial | refine ⟨?_, ?_⟩ | exact rfl | assumption))
    rintro ⟨i, R⟩ H2 _ ⟨rfl, hi, hR⟩
    dsimp only at hi hR
    have hlR : R.length = m.toNat := by rw [hR, rankL_len]
    have heR : (iRows R).length = R.length := List.length_map _
    refine ⟨fun h => ?_, fun h => ?_⟩
    · have hlt : i < p.length := by have := dt h; dsimp only at this; omega
      obtain ⟨ad, cs, q1, hh, r1⟩ := hrp.elem (List.getElem?_eq_getElem hlt)
      obtain ⟨rfl, -⟩ := r1
      have hv := dt (hp3 _ (List.getElem_mem hlt))
      refine ⟨ad, ⟨by dsimp only; omega, by dsimp only; omega, q1⟩, ?_⟩
      refine ⟨_, hh, ?_⟩
      refine ⟨⟨by omega, by omega⟩, ?_⟩; refine ⟨⟨by (try dsimp only); omega, by (try dsimp only); omega⟩, ?_⟩
      have hg : (iRows R)[p[i].toNat]? = some [.int .i64 R[p[i].toNat]!] := by rw [List.getElem?_map, List.getElem?_eq_getElem (by omega), List.getElem!_eq_getElem?_getD, List.getElem?_eq_getElem (by omega)]; rfl
      refine ⟨⟨by (try dsimp only); omega, by (try dsimp only); rw [heR]; omega⟩, ?_⟩
      refine ⟨_, hg, ?_⟩
      have hst : R.set p[i].toNat (m - 1 - i) = rankL m p (i + 1) := by rw [rankL, ← hR, List.getElem?_eq_getElem hlt]; rfl
      have e1 : (iRows R).set p[i].toNat [.int .i64 (m - 1 - (i : Int))] = iRows (R.set p[i].toNat (m - 1 - i)) := iRows_set _ _ _
      refine ⟨⟨by (try dsimp only); omega, by (try dsimp only); omega⟩, (i + 1, R.set p[i].toNat (m - 1 - i)), [(0, 0)], ?_, ⟨rfl, by dsimp only; omega, hst⟩, by dsimp only; omega⟩
      (repeat' (first | exact trivial | refine ⟨?_, ?_⟩ | exact rfl | assumption))
    · have hip : i = p.length := by have := df h; dsimp only at this; omega
      intro y H4 hle4 hy
      have hin : ∀ z ∈ R, inI z := by rw [hR]; exact rankL_in (by omega) (by omega) (by omega)
      obtain ⟨a1, n1, c1, rfl, hr⟩ := rI_all hy hin
      rw [hip] at hR
      rw [hR, hpp] at hr
      exact hK _ _ _ _ (hle1.trans hle4) hr
theorem lit_edges {H' : Hp} {x : Value} {l : List Edg} (hr : RowAt H' x 2 (eRows l)) (hin : ∀ e ∈ l, inI e.1 ∧ inI e.2) : ∃ a n c, x = .slice a n c ∧ RL H' a n c l := rE_all hr hin
abbrev lA : List Edg := [(0, 1), (1, 2)]
theorem lA_in : ∀ e ∈ lA, inI e.1 ∧ inI e.2 := fun e he => by
  simp only [List.mem_cons, List.not_mem_nil, or_false] at he
  rcases he with rfl | rfl <;> exact ⟨⟨by omega, by omega⟩, ⟨by omega, by omega⟩⟩
theorem i3_in : ∀ e ∈ [(2 : Int), 1, 0], inI e := fun e he => by
  simp only [List.mem_cons, List.not_mem_nil, or_false] at he
  rcases he with rfl | rfl | rfl <;> exact ⟨by omega, by omega⟩
theorem i4_in : ∀ e ∈ [(0 : Int), 1, 2], inI e := fun e he => by
  simp only [List.mem_cons, List.not_mem_nil, or_false] at he
  rcases he with rfl | rfl | rfl <;> exact ⟨by omega, by omega⟩
theorem i0_in : ∀ e ∈ [(0 : Int)], inI e := fun e he => by
  rw [List.mem_singleton] at he
  subst he
  exact ⟨by omega, by omega⟩
theorem eA : errE 3 lA [0] = 0 := by decide +kernel
theorem pA : postL (gnx 3 lA) (3 : Int).toNat ([0] ++ nodesL (3 : Int).toNat) = [2, 1, 0] := by decide +kernel
theorem rA : ranks 3 lA [0] = [0, 1, 2] := by decide +kernel
theorem awake14_spec {H : Hp} {K : Value → Hp → Prop} (hK : ∀ H', Le H H' → K (.bool true) H') : Does Try.prog 22 [] H K := by
  refine spec_of cx_ok cx_mix rfl Try.func22 Try.call22 Try.ntmps22 Try.results22 rfl rfl ?_
  intro x1 H1 hle1 hx1
  obtain ⟨a1, n1, c1, rfl, hr1⟩ := lit_edges (l := lA) hx1 lA_in
  intro x2 H2 hle2 hx2
  obtain ⟨a2, n2, c2, rfl, hr2⟩ := rI_all (l := [0]) hx2 i0_in
  refine post_spec (by decide) (by decide) (hr1.up hle2) hr2 (fun he => absurd eA he) (fun _ a3 n3 c3 H3 hle3 hr3 => ?_)
  rw [pA] at hr3
  intro x4 H4 hle4 hx4
  obtain ⟨a4, n4, c4, rfl, hr4⟩ := rI_all (l := [0]) hx4 i0_in
  refine ranks_spec (by decide) (by decide) (((hr1.up hle2).up hle3).up hle4) hr4 (fun he => absurd eA he) (fun _ a5 n5 c5 H5 hle5 hr5 => ?_)
  rw [rA] at hr5
  refine ⟨fun _ => ?_, fun h => by simp at h⟩
  intro x6 H6 hle6 hx6
  obtain ⟨a6, n6, c6, rfl, hr6⟩ := rI_all (l := [2, 1, 0]) hx6 i3_in
  refine ints_spec (((hr3.up hle4).up hle5).up hle6) hr6 ?_
  refine ⟨fun _ => ?_, fun h => by simp at h⟩
  intro x7 H7 hle7 hx7
  obtain ⟨a7, n7, c7, rfl, hr7⟩ := rI_all (l := [0, 1, 2]) hx7 i4_in
  refine ints_spec (hr5.up hle7) hr7 ?_
  have hle := ((((hle1.trans hle2).trans hle3).trans hle4).trans hle5)
  exact kbool (hK _ hle) (by simp)
theorem OrderIs_spec {m : Int} {l : List Int} {a : Option Addr} {n c : Nat} {H : Hp} {K : Value → Hp → Prop} (ha : RL H a n c l) (hK : ∀ H', Le H H' → K (.bool true) H') : Does Try.prog 4 [.int .i64 m, .slice a n c] H K := by
  have hn1 := ha.n_eq
  refine spec_of cx_ok cx_mix rfl Try.func4 Try.call4 Try.ntmps4 Try.results4 rfl rfl ?_
  refine awake14_spec fun H1 hle1 => ?_
  refine ⟨(fun h => by cases h), fun _ => ?_⟩
  have hend := hK H1 hle1
  refine ⟨fun h => ?_, fun h => ?_⟩
  · have h1 : ¬ n > 40 := by have := df h; omega
    refine ⟨fun h => ?_, fun h => ?_⟩
    · have h2 : m > 100 := dt h
      exact hK _ (Le.refl H)
    · have h2 : ¬ m > 100 := df h
      refine is_spec (by omega) ha ?_
      refine refIs_spec (by omega) (by omega) ha ?_
      exact kbool (hK _ (Le.refl H)) (by simp)
  · exact hK _ (Le.refl H)
end Go.Proofs
end
section
namespace Go.Proofs
open Go.Sy
/-! The parts of a graph: Tarjan's walk, in plain Lean. -/
inductive Rch (nx : Int → List Int) : Int → Int → Prop
  | refl (x : Int) : Rch nx x x
  | step {x y z : Int} : Rch nx x y → z ∈ nx y → Rch nx x z
theorem Rch.trans {nx : Int → List Int} {x y z : Int} (h : Rch nx x y) (h' : Rch nx y z) : Rch nx x z := by
  induction h' with
  | refl => exact h
  | step _ hz ih => exact .step ih hz
theorem Rch.closed {nx : Int → List Int} {D : List Int} (hD : ∀ x ∈ D, ∀ y ∈ nx x, y ∈ D) {x y : Int} (h : Rch nx x y) (hx : x ∈ D) : y ∈ D := by
  induction h with
  | refl => exact hx
  | step _ hz ih => exact hD _ ih _ hz
def ig (L : List Int) (x : Int) : Int := L[x.toNat]?.getD 0
theorem ig_set {N : Nat} {L : List Int} (hl : L.length = N) {x : Int} (hx : nodeI N x = true) (a : Int) {y : Int} (hy : nodeI N y = true) : ig (L.set x.toNat a) y = if y = x then a else ig L y := by
  have h1 := dt hx
  have h2 := dt hy
  rw [ig, ig, List.getElem?_set]
  by_cases e : y = x
  · subst e
    rw [if_pos rfl, if_pos rfl, if_pos (by omega)]; rfl
  · rw [if_neg e, if_neg (by omega)]
theorem bget_set {N : Nat} {M : List Bool} (hl : M.length = N) {x : Int} (hx : nodeI N x = true) (a : Bool) {y : Int} (hy : nodeI N y = true) : bget (M.set x.toNat a) y = if y = x then a else bget M y := by
  have h1 := dt hx
  have h2 := dt hy
  rw [bget, bget, List.getElem?_set]
  by_cases e : y = x
  · subst e
    rw [if_pos rfl, if_pos rfl, if_pos (by omega)]; rfl
  · rw [if_neg e, if_neg (by omega)]
def clearM (M : List Bool) (P : List Int) : List Bool := P.foldl (fun M b => M.set b.toNat false) M
theorem clearM_len : ∀ (P : List Int) (M : List Bool), (clearM M P).length = M.length
  | [], _ => rfl
  | b :: P, M => by rw [clearM, List.foldl_cons, ← clearM, clearM_len P, List.length_set]
theorem clearM_get {N : Nat} : ∀ (P : List Int) {M : List Bool}, M.length = N → (∀ x ∈ P, nodeI N x = true) → ∀ {y : Int}, nodeI N y = true → bget (clearM M P) y = if y ∈ P then false else bget M y
  | [], M, _, _, y, _ => by simp [clearM]
  | b :: P, M, hl, hP, y, hy => by
    rw [clearM, List.foldl_cons, ← clearM, clearM_get P (by rw [List.length_set]; exact hl) (fun x hx => hP x (List.mem_cons_of_mem _ hx)) hy, bget_set hl (hP b List.mem_cons_self) _ hy]
    by_cases h1 : y ∈ P
    · rw [if_pos h1, if_pos (List.mem_cons_of_mem _ h1)]
    · rw [if_neg h1]
      by_cases h2 : y = b
      · rw [if_pos h2, if_pos (by rw [h2]; exact List.mem_cons_self)]
      · rw [if_neg h2, if_neg (by simp [h1, h2])]
structure TS where
  ix : List Int
  lo : List Int
  on : List Bool
  st : List Int
  ct : Nat
  pa : List (List Int)
structure TW where
  s : TS
  W : List (Int × Nat)
  v : Int
  k : Nat
def enterT (s : TS) (b : Int) : TS := ⟨s.ix.set b.toNat (s.ct + 1 : Nat), s.lo.set b.toNat (s.ct + 1 : Nat), s.on.set b.toNat true, s.st ++ [b], s.ct + 1, s.pa⟩
def leaveT (s : TS) (v : Int) : TS := if ig s.lo v = ig s.ix v then { s with st := s.st.take (s.st.idxOf v), on := clearM s.on (s.st.drop (s.st.idxOf v)), pa := s.pa ++ [gSort (s.st.drop (s.st.idxOf v))] } else s
def lowT (s : TS) (v : Int) (a : Int) : TS := { s with lo := s.lo.set v.toNat (min (ig s.lo v) a) }
def stpT (nx : Int → List Int) (t : TW) : TW ⊕ TS := match (nx t.v)[t.k]? with
  | some b => if ig t.s.ix b = 0 then .inl ⟨enterT t.s b, t.W ++ [(t.v, t.k + 1)], b, 0⟩ else if bget t.s.on b then .inl ⟨lowT t.s t.v (ig t.s.ix b), t.W, t.v, t.k + 1⟩ else .inl ⟨t.s, t.W, t.v, t.k + 1⟩
  | none => match t.W.getLast? with
    | none => .inr (leaveT t.s t.v)
    | some (u, j) => .inl ⟨lowT (leaveT t.s t.v) u (ig (leaveT t.s t.v).lo t.v), t.W.dropLast, u, j⟩
def runT (nx : Int → List Int) : Nat → TW ⊕ TS → Option TS
  | _, .inr r => some r
  | 0, .inl _ => none
  | n + 1, .inl t => runT nx n (stpT nx t)
/-- The nodes on the way. -/
def TW.g (t : TW) : List Int := t.W.map (·.1) ++ [t.v]
/-- Edges that were looked at. -/
def Expl (nx : Int → List Int) (t : TW) (z y : Int) : Prop := (z = t.v → y ∈ (nx t.v).take t.k) ∧ (∀ p ∈ t.W, p.1 = z → y ∈ (nx z).take p.2) ∧ y ∈ nx z
/-- A part: nodes that lead to each other, all of them. -/
structure PartOK (nx : Int → List Int) (p : List Int) : Prop where
  ne : p ≠ []
  str : StrictL p
  mem : ∀ x ∈ p, ∀ y, y ∈ p ↔ Rch nx x y ∧ Rch nx y x
/-- What is told: parts, closed from the first on. -/
structure TP (N : Nat) (nx : Int → List Int) (pa : List (List Int)) : Prop where
  node : ∀ x ∈ pa.flatten, nodeI N x = true
  nd : pa.flatten.Nodup
  ok : ∀ p ∈ pa, PartOK nx p
  cl : ∀ A B, pa = A ++ B → ∀ x ∈ A.flatten, ∀ y ∈ nx x, y ∈ A.flatten
structure TJ (N : Nat) (nx : Int → List Int) (t : TW) : Prop where
  lx : t.s.ix.length = N
  ll : t.s.lo.length = N
  lon : t.s.on.length = N
  nd : t.s.st.Nodup
  nn : ∀ x ∈ t.s.st, nodeI N x = true
  seen : ∀ x, nodeI N x = true → (ig t.s.ix x ≠ 0 ↔ x ∈ t.s.st ∨ x ∈ t.s.pa.flatten)
  dsj : ∀ x ∈ t.s.st, x ∉ t.s.pa.flatten
  on : ∀ x, nodeI N x = true → (bget t.s.on x = true ↔ x ∈ t.s.st)
  asc : t.s.st.Pairwise fun x y => ig t.s.ix x < ig t.s.ix y
  pos : ∀ x ∈ t.s.st, 1 ≤ ig t.s.ix x ∧ ig t.s.ix x ≤ t.s.ct
  gr : ∀ w ∈ t.g, w ∈ t.s.st
  ginc : t.g.Pairwise fun x y => ig t.s.ix x < ig t.s.ix y
  ks : ∀ p ∈ t.W, p.2 ≤ (nx p.1).length
  k : t.k ≤ (nx t.v).length
  ex : ∀ z ∈ t.s.st, ∀ y, Expl nx t z y → ig t.s.ix y ≠ 0
  dn : ∀ z ∈ t.s.st, ∀ w ∈ t.g, ig t.s.ix w ≤ ig t.s.ix z → Rch nx w z
  up : ∀ z ∈ t.s.st, ∃ w ∈ t.g, ig t.s.ix w ≤ ig t.s.ix z ∧ Rch nx z w
  los : ∀ u ∈ t.g, ig t.s.lo u ≤ ig t.s.ix u ∧ ∃ y ∈ t.s.st, ig t.s.ix y = ig t.s.lo u ∧ Rch nx u y
  loc : ∀ z ∈ t.s.st, ∀ u ∈ t.g, ig t.s.ix u ≤ ig t.s.ix z → (∀ w ∈ t.g, ig t.s.ix w ≤ ig t.s.ix z → ig t.s.ix w ≤ ig t.s.ix u) → ∀ y, Expl nx t z y → y ∈ t.s.st → ig t.s.lo u ≤ ig t.s.ix y
  pa : TP N nx t.s.pa
theorem TJ.vin {N : Nat} {nx : Int → List Int} (_hnx : ∀ v, ∀ b ∈ nx v, nodeI N b = true) {t : TW} (h : TJ N nx t) : t.v ∈ t.s.st := h.gr _ (by simp [TW.g])
theorem expl_next {N : Nat} {nx : Int → List Int} (_hnx : ∀ v, ∀ b ∈ nx v, nodeI N b = true) {t : TW} {b : Int} (hb : (nx t.v)[t.k]? = some b) {s' : TS} {z y : Int} (h : Expl nx ⟨s', t.W, t.v, t.k + 1⟩ z y) : Expl nx t z y ∨ (z = t.v ∧ y = b) := by
  obtain ⟨h1, h2, h3⟩ := h
  by_cases hz : z = t.v
  · have h4 := h1 hz
    dsimp only at h4
    rw [List.take_add_one, hb, Option.toList_some] at h4
    rcases List.mem_append.1 h4 with h4 | h4
    · exact .inl ⟨fun _ => h4, h2, h3⟩
    · rw [List.mem_singleton] at h4
      exact .inr ⟨hz, h4⟩
  · exact .inl ⟨fun e => absurd e hz, h2, h3⟩
section
variable {N : Nat} {nx : Int → List Int} (hnx : ∀ v, ∀ b ∈ nx v, nodeI N b = true)
include hnx
/-- An edge to a node that was met. -/
theorem TJ.edge {t : TW} (h : TJ N nx t) {b : Int} (hb : (nx t.v)[t.k]? = some b) (h0 : ig t.s.ix b ≠ 0) : TJ N nx ⟨bif bget t.s.on b then lowT t.s t.v (ig t.s.ix b) else t.s, t.W, t.v, t.k + 1⟩ := by
  have hlt := (List.getElem?_eq_some_iff.1 hb).1
  have hbm : b ∈ nx t.v := List.mem_of_getElem? hb
  have hbn := hnx _ b hbm
  have hv := h.vin hnx
  have hvn := h.nn _ hv
  have hex : ∀ (s' : TS) z y, Expl nx ⟨s', t.W, t.v, t.k + 1⟩ z y → ig t.s.ix y ≠ 0 ∨ False → ig t.s.ix y ≠ 0 := fun _ _ _ _ h => h.resolve_right id
  cases hon : bget t.s.on b with
  | false =>
    have hnb : b ∉ t.s.st := fun hm => by rw [(h.on b hbn).2 hm] at hon; cases hon
    exact
    { lx := h.lx, ll := h.ll, lon := h.lon, nd := h.nd, nn := h.nn, seen := h.seen, dsj := h.dsj, on := h.on, asc := h.asc, pos := h.pos, gr := h.gr, ginc := h.ginc, ks := h.ks
      k := hlt
      ex := fun z hz y he => by
        rcases expl_next hnx hb he with he | ⟨_, rfl⟩
        · exact h.ex z hz y he
        · exact h0
      dn := h.dn, up := h.up, los := h.los
      loc := fun z hz u hu h1 h2 y he hy => by
        rcases expl_next hnx hb he with he | ⟨_, rfl⟩
        · exact h.loc z hz u hu h1 h2 y he hy
        · exact absurd hy hnb
      pa := h.pa }
  | true =>
    have hbs := (h.on b hbn).1 hon
    have hlo : ∀ u, nodeI N u = true → ig (lowT t.s t.v (ig t.s.ix b)).lo u = if u = t.v then min (ig t.s.lo t.v) (ig t.s.ix b) else ig t.s.lo u := fun u hu => ig_set h.ll hvn _ hu
    exact
    { lx := h.lx, ll := by rw [cond_true, lowT]; dsimp only; rw [List.length_set]; exact h.ll
      lon := h.lon, nd := h.nd, nn := h.nn, seen := h.seen, dsj := h.dsj, on := h.on, asc := h.asc, pos := h.pos, gr := h.gr, ginc := h.ginc, ks := h.ks
      k := hlt
      ex := fun z hz y he => by
        rcases expl_next hnx hb he with he | ⟨_, rfl⟩
        · exact h.ex z hz y he
        · exact h0
      dn := h.dn, up := h.up
      los := fun u hu => by
        have hu' := h.nn _ (h.gr u hu)
        obtain ⟨g1, y, g2, g3, g4⟩ := h.los u hu
        rw [cond_true, hlo u hu']
        show _ ≤ ig t.s.ix u ∧ ∃ y ∈ t.s.st, ig t.s.ix y = _ ∧ _
        by_cases e : u = t.v
        · subst e
          rw [if_pos rfl]
          refine ⟨by omega, ?_⟩
          by_cases hc : ig t.s.lo t.v ≤ ig t.s.ix b
          · exact ⟨y, g2, by omega, g4⟩
          · exact ⟨b, hbs, by omega, .step (.refl _) hbm⟩
        · rw [if_neg e]
          exact ⟨g1, y, g2, g3, g4⟩
      loc := fun z hz u hu h1 h2 y he hy => by
        have hu' := h.nn _ (h.gr u hu)
        rw [cond_true, hlo u hu']
        show _ ≤ ig t.s.ix y
        rcases expl_next hnx hb he with he | ⟨hz', rfl⟩
        · have := h.loc z hz u hu h1 h2 y he hy
          by_cases e : u = t.v
          · subst e; rw [if_pos rfl]; omega
          · rw [if_neg e]; exact this
        · subst hz'
          have e : u = t.v := by
            have h3 : ig t.s.ix t.v ≤ ig t.s.ix u := h2 t.v (by simp [TW.g]) (Int.le_refl _)
            have h1 : ig t.s.ix u ≤ ig t.s.ix t.v := h1
            have hg := h.ginc
            rw [TW.g, List.pairwise_append] at hg
            rcases List.mem_append.1 hu with hu | hu
            · have := hg.2.2 u hu t.v (by simp)
              omega
            · exact List.mem_singleton.1 hu
          rw [if_pos e]
          omega
      pa := h.pa }
end
end Go.Proofs
end
