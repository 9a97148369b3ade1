/- Part 'Q3' of the proof: lemmas, each with its own conditions in its own statement. -/
import Derived.Test.YtjflpceoeofomaaQ2
namespace Go.Proofs
open Go.Sy
set_option maxRecDepth 20000
theorem keyI {x : Int} (hx : inI x) : keyOf Try.prog 3 (.int .i64 x) = some (.int .i64 x) := by
  unfold keyOf
  rw [(tt_ok 3 _ _ rfl).2]
  show mapKey Try.prog 3 (.int .i64 x) = _
  unfold mapKey
  rw [(tt_ok 3 _ _ rfl).2]
  show (if IntKind.i64 = IntKind.i64 ∧ (Lit.int .i64 x).wf = true then some (Lit.int .i64 x) else none) = _
  have hw : (Lit.int .i64 x).wf = true := by
    have h1 := hx.1
    have h2 := hx.2
    have e1 : IntKind.i64.min = -9223372036854775808 := by decide
    have e2 : IntKind.i64.max = 9223372036854775807 := by decide
    show (decide _ && decide _) = true
    rw [e1, e2, decide_eq_true h1, decide_eq_true h2]; rfl
  rw [if_pos ⟨rfl, hw⟩]
theorem mapOK3 : MapOK Try.prog 3 3 := ⟨Maps.int_keyed (tt_ok 3 _ _ rfl).2, (tt_ok 3 _ _ rfl).2, Try.zeroValue3⟩
open Classical in
noncomputable def seenG (s : List Int) : Lit → Int := fun kl => if ∃ x ∈ s, kl = .int .i64 x then 1 else 0
theorem seenG_at (s : List Int) (x : Int) : seenG s (.int .i64 x) = if x ∈ s then 1 else 0 := by
  unfold seenG
  by_cases h : x ∈ s
  · rw [if_pos ⟨x, h, rfl⟩, if_pos h]
  · rw [if_neg (fun ⟨y, hy, e⟩ => h (by cases e; exact hy)), if_neg h]
theorem seenG_nil : (fun _ => 0) = seenG [] := by
  funext kl
  unfold seenG
  rw [if_neg (fun ⟨_, h, _⟩ => by cases h)]
theorem seenG_snoc (s : List Int) (x : Int) : updL (seenG s) (.int .i64 x) 1 = seenG (s ++ [x]) := by
  funext kl
  unfold updL seenG
  by_cases h : kl = .int .i64 x
  · rw [if_pos h, if_pos ⟨x, by simp, h⟩]
  · rw [if_neg h]
    by_cases h2 : ∃ y ∈ s, kl = .int .i64 y
    · obtain ⟨y, hy, e⟩ := h2
      rw [if_pos ⟨y, hy, e⟩, if_pos ⟨y, List.mem_append_left _ hy, e⟩]
    · rw [if_neg h2, if_neg]
      rintro ⟨y, hy, e⟩
      rcases List.mem_append.1 hy with hy | hy
      · exact h2 ⟨y, hy, e⟩
      · rw [List.mem_singleton] at hy; subst hy; exact h e
/-- What is put on the list that waits: the seen ones, those that wait. -/
def pst (m : Int) (l : List Int) (q : List Int × List Int) : List Int × List Int :=
  l.foldl (fun q x => if nodeI m x = true ∧ x ∉ q.1 then (q.1 ++ [x], q.2 ++ [x]) else q) q
theorem pst_take {m : Int} {l : List Int} {q : List Int × List Int} {i : Nat} (h : i < l.length) : pst m (l.take (i + 1)) q = if nodeI m l[i] = true ∧ l[i] ∉ (pst m (l.take i) q).1 then ((pst m (l.take i) q).1 ++ [l[i]], (pst m (l.take i) q).2 ++ [l[i]]) else pst m (l.take i) q := take_step _ q (List.getElem?_eq_getElem h)
theorem pst_len (m : Int) : ∀ (l : List Int) (q : List Int × List Int), (pst m l q).2.length ≤ q.2.length + l.length ∧ (pst m l q).1.length ≤ q.1.length + l.length
  | [], q => ⟨Nat.le_refl _, Nat.le_refl _⟩
  | x :: r, q => by
    rw [pst, List.foldl_cons]
    have := pst_len m r (if nodeI m x = true ∧ x ∉ q.1 then (q.1 ++ [x], q.2 ++ [x]) else q)
    rw [pst] at this
    split at this <;> rename_i hc
    · rw [if_pos hc]
      simp only [List.length_append, List.length_cons, List.length_nil] at this ⊢
      omega
    · rw [if_neg hc]
      simp only [List.length_cons]
      omega
noncomputable abbrev seenP (s : List Int) : Obj → Prop := MapI Try.prog 3 3 s.length (seenG s)
noncomputable abbrev seenB (s : List Int) : Bx := .obj (seenP s)
theorem push0_spec {m : Int} {l seen todo : List Int} {a : Option Addr} {n c : Nat} {H : Hp} {K : SV → St → Hp → Prop} (ha : RL H a n c l) (hb : todo.length + l.length ≤ 1000000000 ∧ seen.length + l.length ≤ 1000000000) (ht : todo = [])
    (hK : K (.tup []) ⟨[], [(0, .cells 3 [.v (.int .i64 m)]), (1, .cells 88 [.mp 3]), (2, .cells 27 [.own 4]), (3, seenB (pst m l (seen, todo)).1), (4, .row 3 1 (iRows (pst m l (seen, todo)).2))], 5⟩ H) : DoesG Try.prog 72 [.v (.slice a n c), .ptr 0 0, .ptr 1 0, .ptr 2 0] ([(0, .cells 3 [.v (.int .i64 m)]), (1, .cells 88 [.mp 3]), (2, .cells 27 [.v (.slice none 0 0)]), (3, seenB seen)]) 4 H K := by
  have hn1 := ha.n_eq
  have hmx := ha.le
  refine spec_ofG cx_ok cx_mix Try.func72 Try.call72 Try.ntmps72 Try.results72 rfl rfl ?_
  obtain ⟨q, hq⟩ : ∃ q : Nat → List Int × List Int, ∀ i, q i = pst m (l.take i) (seen, todo) := ⟨_, fun _ => rfl⟩
  have hq0 : q 0 = (seen, todo) := hq 0
  refine ⟨Nat, fun i => ⟨[(1, .ptr 0 0), (2, .ptr 1 0), (3, .ptr 2 0), (7, .v (.slice a n c)), (8, .v (.int .i64 n)), (9, .v (.int .i64 i))], [(0, .cells 3 [.v (.int .i64 m)]), (1, .cells 88 [.mp 3]), (2, .cells 27 [.own 4]), (3, seenB (q i).1), (4, .row 3 1 (iRows (q i).2))], 5⟩,
    fun i H' => H' = H ∧ i ≤ l.length, fun i => l.length - i, ⟨0, [(0, 0), (1, 1), (2, 2), (3, 3)], ?_, rfl, by omega⟩, ?_⟩
  · have e3 : seenP seen = seenP (q 0).1 := by rw [hq0]
    have e4 : iRows (q 0).2 = [] := by rw [hq0, ht]; rfl
    exact ⟨⟨⟨rfl, rfl⟩, ⟨rfl, rfl⟩, ⟨rfl, rfl⟩, rfl, rfl, rfl, trivial⟩, ⟨⟨rfl, trivial⟩, ⟨rfl, trivial⟩, ⟨⟨rfl, rfl, e4⟩, trivial⟩, e3, e4, trivial⟩⟩
  rintro i H1 _ ⟨rfl, hi⟩
  refine ⟨fun h => ?_, fun h => ?_⟩
  · have hlt : i < l.length := by have := dt h; omega
    obtain ⟨ad, cs, q1, hh, r1⟩ := ha.elem (List.getElem?_eq_getElem hlt)
    obtain ⟨rfl, r2⟩ := r1
    have hst := pst_take (m := m) (q := (seen, todo)) hlt
    rw [← hq, ← hq] at hst
    have hlen := pst_len m (l.take i) (seen, todo)
    rw [← hq, List.length_take, Nat.min_eq_left (by omega)] at hlen
    simp only at hlen
    refine ⟨ad, ⟨by omega, by omega, q1⟩, ?_⟩
    refine ⟨_, hh, ?_⟩
    refine node_spec ?_
    refine ⟨fun h => ?_, fun h => ?_⟩
    · have h1 : nodeI m l[i] = true := h
      refine ⟨_, _, _, rfl, keyI r2, ?_⟩
      refine ⟨fun h => ?_, fun h => ?_⟩
      · have hs := seenG_at (q i).1 l[i]
        have h2 : l[i] ∉ (q i).1 := fun hm => by rw [if_pos hm] at hs; have := dt h; omega
        rw [if_pos ⟨h1, h2⟩] at hst
        have hel : (iRows (q i).2).length = (q i).2.length := List.length_map _
        refine ⟨_, _, _, rfl, keyI r2, ⟨by omega, by decide, by decide⟩, ?_⟩
        refine ⟨⟨by show ((iRows (q i).2).length + 1) * 8 ≤ _; omega, by show (iRows (q i).2).length + 1 ≤ _; omega⟩, ?_⟩
        have e3 : MapI Try.prog 3 3 ((q i).1.length + 1) (updL (seenG (q i).1) (.int .i64 l[i]) 1) = seenP (q (i + 1)).1 := by rw [hst, seenG_snoc]; simp only [seenP, List.length_append, List.length_cons, List.length_nil, Nat.zero_add]
        have e4 : iRows (q i).2 ++ [[.int .i64 l[i]]] = iRows (q (i + 1)).2 := by rw [hst]; simp
        refine ⟨⟨by omega, by omega⟩, i + 1, [(0, 0), (1, 1), (2, 2), (3, 3), (4, 6)], ?_, ⟨rfl, by omega⟩, by dsimp only; omega⟩
        exact ⟨⟨⟨rfl, rfl⟩, ⟨rfl, rfl⟩, ⟨rfl, rfl⟩, rfl, rfl, rfl, trivial⟩, ⟨⟨rfl, trivial⟩, ⟨rfl, trivial⟩, ⟨rfl, trivial⟩, e3, e4, trivial⟩⟩
      · have hs := seenG_at (q i).1 l[i]
        have hc : ¬ (nodeI m l[i] = true ∧ l[i] ∉ (q i).1) := fun h2 => by rw [if_neg h2.2] at hs; exact (df h) hs
        rw [if_neg hc] at hst
        have e3 : seenP (q i).1 = seenP (q (i + 1)).1 := by rw [hst]
        have e4 : iRows (q i).2 = iRows (q (i + 1)).2 := by rw [hst]
        refine ⟨⟨by omega, by omega⟩, i + 1, [(0, 0), (1, 1), (2, 2), (3, 3), (4, 4)], ?_, ⟨rfl, by omega⟩, by dsimp only; omega⟩
        exact ⟨⟨⟨rfl, rfl⟩, ⟨rfl, rfl⟩, ⟨rfl, rfl⟩, rfl, rfl, rfl, trivial⟩, ⟨⟨rfl, trivial⟩, ⟨rfl, trivial⟩, ⟨rfl, trivial⟩, e3, e4, trivial⟩⟩
    · have hc : ¬ (nodeI m l[i] = true ∧ l[i] ∉ (q i).1) := fun h2 => by have := h2.1; rw [show nodeI m l[i] = false from h] at this; cases this
      rw [if_neg hc] at hst
      have e3 : seenP (q i).1 = seenP (q (i + 1)).1 := by rw [hst]
      have e4 : iRows (q i).2 = iRows (q (i + 1)).2 := by rw [hst]
      refine ⟨⟨by omega, by omega⟩, i + 1, [(0, 0), (1, 1), (2, 2), (3, 3), (4, 4)], ?_, ⟨rfl, by omega⟩, by dsimp only; omega⟩
      exact ⟨⟨⟨rfl, rfl⟩, ⟨rfl, rfl⟩, ⟨rfl, rfl⟩, rfl, rfl, rfl, trivial⟩, ⟨⟨rfl, trivial⟩, ⟨rfl, trivial⟩, ⟨rfl, trivial⟩, e3, e4, trivial⟩⟩
  · have hil : i = l.length := by have := df h; omega
    rw [← List.take_length (l := l), ← hil, ← hq] at hK
    exact ⟨.tup [], [(0, .cells 3 [.v (.int .i64 m)]), (1, .cells 88 [.mp 3]), (2, .cells 27 [.own 4]), (3, seenB (q i).1), (4, .row 3 1 (iRows (q i).2))], 5, [(0, 0), (1, 1), (2, 2), (3, 3), (4, 4)], ⟨⟨⟨rfl, rfl⟩, trivial⟩, ⟨⟨rfl, trivial⟩, ⟨rfl, trivial⟩, ⟨rfl, trivial⟩, rfl, rfl, trivial⟩⟩, hK⟩
theorem push1_spec {m : Int} {l seen todo : List Int} {a : Option Addr} {n c : Nat} {H : Hp} {K : SV → St → Hp → Prop} (ha : RL H a n c l) (hb : todo.length + l.length ≤ 1000000000 ∧ seen.length + l.length ≤ 1000000000)
    (hK : K (.tup []) ⟨[], [(0, .cells 3 [.v (.int .i64 m)]), (1, .cells 88 [.mp 3]), (2, .cells 27 [.own 5]), (3, seenB (pst m l (seen, todo)).1), (4, .dead), (5, .row 3 1 (iRows (pst m l (seen, todo)).2))], 6⟩ H) : DoesG Try.prog 72 [.v (.slice a n c), .ptr 0 0, .ptr 1 0, .ptr 2 0] ([(0, .cells 3 [.v (.int .i64 m)]), (1, .cells 88 [.mp 3]), (2, .cells 27 [.own 4]), (3, seenB seen)] ++ [(4, .row 3 1 (iRows todo))]) 5 H K := by
  have hn1 := ha.n_eq
  have hmx := ha.le
  refine spec_ofG cx_ok cx_mix Try.func72 Try.call72 Try.ntmps72 Try.results72 rfl rfl ?_
  obtain ⟨q, hq⟩ : ∃ q : Nat → List Int × List Int, ∀ i, q i = pst m (l.take i) (seen, todo) := ⟨_, fun _ => rfl⟩
  have hq0 : q 0 = (seen, todo) := hq 0
  refine ⟨Nat, fun i => ⟨[(1, .ptr 0 0), (2, .ptr 1 0), (3, .ptr 2 0), (7, .v (.slice a n c)), (8, .v (.int .i64 n)), (9, .v (.int .i64 i))], [(0, .cells 3 [.v (.int .i64 m)]), (1, .cells 88 [.mp 3]), (2, .cells 27 [.own 5]), (3, seenB (q i).1), (4, .dead), (5, .row 3 1 (iRows (q i).2))], 6⟩,
    fun i H' => H' = H ∧ i ≤ l.length, fun i => l.length - i, ⟨0, [(0, 0), (1, 1), (2, 2), (3, 3), (5, 4)], ?_, rfl, by omega⟩, ?_⟩
  · have e3 : seenP seen = seenP (q 0).1 := by rw [hq0]
    have e4 : iRows todo = iRows (q 0).2 := by rw [hq0]
    exact ⟨⟨⟨rfl, rfl⟩, ⟨rfl, rfl⟩, ⟨rfl, rfl⟩, rfl, rfl, rfl, trivial⟩, ⟨⟨rfl, trivial⟩, ⟨rfl, trivial⟩, ⟨rfl, trivial⟩, e3, trivial, e4, trivial⟩⟩
  rintro i H1 _ ⟨rfl, hi⟩
  refine ⟨fun h => ?_, fun h => ?_⟩
  · have hlt : i < l.length := by have := dt h; omega
    obtain ⟨ad, cs, q1, hh, r1⟩ := ha.elem (List.getElem?_eq_getElem hlt)
    obtain ⟨rfl, r2⟩ := r1
    have hst := pst_take (m := m) (q := (seen, todo)) hlt
    rw [← hq, ← hq] at hst
    have hlen := pst_len m (l.take i) (seen, todo)
    rw [← hq, List.length_take, Nat.min_eq_left (by omega)] at hlen
    simp only at hlen
    refine ⟨ad, ⟨by omega, by omega, q1⟩, ?_⟩
    refine ⟨_, hh, ?_⟩
    refine node_spec ?_
    refine ⟨fun h => ?_, fun h => ?_⟩
    · have h1 : nodeI m l[i] = true := h
      refine ⟨_, _, _, rfl, keyI r2, ?_⟩
      refine ⟨fun h => ?_, fun h => ?_⟩
      · have hs := seenG_at (q i).1 l[i]
        have h2 : l[i] ∉ (q i).1 := fun hm => by rw [if_pos hm] at hs; have := dt h; omega
        rw [if_pos ⟨h1, h2⟩] at hst
        have hel : (iRows (q i).2).length = (q i).2.length := List.length_map _
        refine ⟨_, _, _, rfl, keyI r2, ⟨by omega, by decide, by decide⟩, ?_⟩
        refine ⟨⟨by show ((iRows (q i).2).length + 1) * 8 ≤ _; omega, by show (iRows (q i).2).length + 1 ≤ _; omega⟩, ?_⟩
        have e3 : MapI Try.prog 3 3 ((q i).1.length + 1) (updL (seenG (q i).1) (.int .i64 l[i]) 1) = seenP (q (i + 1)).1 := by rw [hst, seenG_snoc]; simp only [seenP, List.length_append, List.length_cons, List.length_nil, Nat.zero_add]
        have e4 : iRows (q i).2 ++ [[.int .i64 l[i]]] = iRows (q (i + 1)).2 := by rw [hst]; simp
        refine ⟨⟨by omega, by omega⟩, i + 1, [(0, 0), (1, 1), (2, 2), (3, 3), (5, 7)], ?_, ⟨rfl, by omega⟩, by dsimp only; omega⟩
        exact ⟨⟨⟨rfl, rfl⟩, ⟨rfl, rfl⟩, ⟨rfl, rfl⟩, rfl, rfl, rfl, trivial⟩, ⟨⟨rfl, trivial⟩, ⟨rfl, trivial⟩, ⟨rfl, trivial⟩, e3, trivial, e4, trivial⟩⟩
      · have hs := seenG_at (q i).1 l[i]
        have hc : ¬ (nodeI m l[i] = true ∧ l[i] ∉ (q i).1) := fun h2 => by rw [if_neg h2.2] at hs; exact (df h) hs
        rw [if_neg hc] at hst
        have e3 : seenP (q i).1 = seenP (q (i + 1)).1 := by rw [hst]
        have e4 : iRows (q i).2 = iRows (q (i + 1)).2 := by rw [hst]
        refine ⟨⟨by omega, by omega⟩, i + 1, [(0, 0), (1, 1), (2, 2), (3, 3), (5, 5)], ?_, ⟨rfl, by omega⟩, by dsimp only; omega⟩
        exact ⟨⟨⟨rfl, rfl⟩, ⟨rfl, rfl⟩, ⟨rfl, rfl⟩, rfl, rfl, rfl, trivial⟩, ⟨⟨rfl, trivial⟩, ⟨rfl, trivial⟩, ⟨rfl, trivial⟩, e3, trivial, e4, trivial⟩⟩
    · have hc : ¬ (nodeI m l[i] = true ∧ l[i] ∉ (q i).1) := fun h2 => by have := h2.1; rw [show nodeI m l[i] = false from h] at this; cases this
      rw [if_neg hc] at hst
      have e3 : seenP (q i).1 = seenP (q (i + 1)).1 := by rw [hst]
      have e4 : iRows (q i).2 = iRows (q (i + 1)).2 := by rw [hst]
      refine ⟨⟨by omega, by omega⟩, i + 1, [(0, 0), (1, 1), (2, 2), (3, 3), (5, 5)], ?_, ⟨rfl, by omega⟩, by dsimp only; omega⟩
      exact ⟨⟨⟨rfl, rfl⟩, ⟨rfl, rfl⟩, ⟨rfl, rfl⟩, rfl, rfl, rfl, trivial⟩, ⟨⟨rfl, trivial⟩, ⟨rfl, trivial⟩, ⟨rfl, trivial⟩, e3, trivial, e4, trivial⟩⟩
  · have hil : i = l.length := by have := df h; omega
    rw [← List.take_length (l := l), ← hil, ← hq] at hK
    exact ⟨.tup [], [(0, .cells 3 [.v (.int .i64 m)]), (1, .cells 88 [.mp 3]), (2, .cells 27 [.own 5]), (3, seenB (q i).1), (4, .dead), (5, .row 3 1 (iRows (q i).2))], 6, [(0, 0), (1, 1), (2, 2), (3, 3), (5, 5)], ⟨⟨⟨rfl, rfl⟩, trivial⟩, ⟨⟨rfl, trivial⟩, ⟨rfl, trivial⟩, ⟨rfl, trivial⟩, rfl, trivial, rfl, trivial⟩⟩, hK⟩
end Go.Proofs
