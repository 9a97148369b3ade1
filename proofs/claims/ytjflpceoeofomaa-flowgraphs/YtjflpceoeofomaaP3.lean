/- Part 'P3' of the proof: lemmas, each with its own conditions in its own statement. -/
import Derived.Test.YtjflpceoeofomaaP2
import Derived.Test.YtjflpceoeofomaaSf1
namespace Go.Proofs
open Go.Sy
set_option maxRecDepth 20000
theorem rE_all {x : Value} {H : Hp} {l : List Edg} (h : RowAt H x 2 (eRows l)) (hl : ∀ e ∈ l, inI e.1 ∧ inI e.2) : ∃ a n c, x = .slice a n c ∧ RL H a n c l := RL.of_row (α := Edg) h (rc_eRows hl)
theorem sorted_spec {l : List Edg} (hl : l.length < 8000000000000) {a : Option Addr} {n c : Nat} {H : Hp} {K : Value → Hp → Prop} (ha : RL H a n c l)
    (hK : ∀ a1 n1 c1 H', Le H H' → RL H' a1 n1 c1 (gSort l) → K (.slice a1 n1 c1) H') : Does Try.prog 38 [.slice a n c] H K := by
  refine spec_of cx_ok cx_mix rfl Try.func38 Try.call38 Try.ntmps38 Try.results38 rfl rfl ?_
  refine ⟨[], rfl, cloneE_spec ha hl ?_⟩
  refine ⟨[0], rfl, sortE_spec hl fun l' hl' hg => ?_⟩
  refine ⟨[0], rfl, compE_spec (l := l') (by omega) ?_⟩
  intro x H1 hle hx
  rw [hg] at hx
  obtain ⟨a1, n1, c1, rfl, hr⟩ := rE_all hx (fun e he => RLe_all ha e ((gSort_mem l e).1 he))
  exact hK _ _ _ _ hle hr
theorem eRows_snoc (m : List Edg) (x : Edg) : eRows m ++ [[.int .i64 x.1, .int .i64 x.2]] = eRows (m ++ [x]) := by simp
theorem refSorted_spec {l : List Edg} (hl : l.length < 8000000) {a : Option Addr} {n c : Nat} {H : Hp} {K : Value → Hp → Prop} (ha : RL H a n c l)
    (hK : ∀ a1 n1 c1 H', Le H H' → RL H' a1 n1 c1 (gSort l) → K (.slice a1 n1 c1) H') : Does Try.prog 42 [.slice a n c] H K := by
  have hn1 := ha.n_eq
  refine spec_of cx_ok cx_mix rfl Try.func42 Try.call42 Try.ntmps42 Try.results42 rfl rfl ?_
  refine ⟨Nat, fun i => ⟨[(3, .own 0), (10, .v (.slice a n c)), (11, .v (.int .i64 n)), (12, .v (.int .i64 i))], [(0, .row 63 2 (eRows ((l.take i).foldl (fun o x => gIns x o) [])))], 1⟩,
    fun i H' => H' = H ∧ i ≤ l.length, fun i => l.length - i, ⟨0, [], ?_, rfl, by omega⟩, ?_⟩
  · exact ⟨⟨⟨rfl, rfl, rfl⟩, rfl, rfl, rfl, trivial⟩, ⟨rfl, trivial⟩⟩
  rintro i H1 _ ⟨rfl, hi⟩
  refine ⟨fun h => ?_, fun h => ?_⟩
  · have hlt : i < l.length := by have := dt h; omega
    obtain ⟨ad, cs, q1, hh, r1⟩ := ha.elem (List.getElem?_eq_getElem hlt)
    obtain ⟨rfl, hr1, hr2⟩ := edge_open r1
    obtain ⟨s, hs⟩ : ∃ s, s = l[i] := ⟨_, rfl⟩
    rw [← hs] at hh hr1 hr2
    obtain ⟨o, ho⟩ : ∃ o, o = (l.take i).foldl (fun o x => gIns x o) [] := ⟨_, rfl⟩
    rw [← ho]
    refine ⟨ad, ⟨by omega, by omega, q1⟩, ?_⟩
    refine ⟨_, hh, ?_⟩
    have hol : o.length ≤ i := by
      have := gSort_len (l.take i)
      rw [List.length_take, Nat.min_eq_left (by omega)] at this
      rw [ho]; exact this
    have heo : (eRows o).length = o.length := List.length_map _
    obtain ⟨q, hq⟩ : ∃ q : Nat → List Edg × Bool, ∀ j, q j = (o.take j).foldl (gStep s) ([], false) := ⟨_, fun _ => rfl⟩
    have hq0 : q 0 = ([], false) := hq 0
    refine ⟨Nat, fun j => ⟨[(3, .own 0), (5, .ptr 1 0), (6, .own 2), (7, .v (.bool (q j).2)), (10, .v (.slice a n c)), (11, .v (.int .i64 n)), (12, .v (.int .i64 i)), (16, .own 0), (17, .v (.int .i64 o.length)), (18, .v (.int .i64 j))],
        [(0, .row 63 2 (eRows o)), (1, .cells 63 [.v (.int .i64 s.1), .v (.int .i64 s.2)]), (2, .row 63 2 (eRows (q j).1))], 3⟩,
      fun j H' => H' = H1 ∧ j ≤ o.length ∧ (q j).1.length ≤ 2 * j, fun j => o.length - j, ⟨0, [(0, 0), (1, 1)], ?_, rfl, by omega, by rw [hq0]; simp⟩, ?_⟩
    · have e17 : SV.v (.int .i64 ((eRows o).length : Nat)) = SV.v (.int .i64 (o.length : Nat)) := by rw [heo]
      have e7 : Value.bool (q 0).2 = .bool false := by rw [hq0]
      have e2 : eRows (q 0).1 = [] := by rw [hq0]; rfl
      exact ⟨⟨rfl, ⟨rfl, rfl⟩, ⟨rfl, rfl, e2⟩, e7, rfl, rfl, rfl, rfl, e17, rfl, trivial⟩, ⟨rfl, ⟨rfl, rfl, trivial⟩, e2, trivial⟩⟩
    rintro j H2 _ ⟨rfl, hj, hol2⟩
    refine ⟨fun h => ?_, fun h => ?_⟩
    · have hltj : j < o.length := by have := dt h; omega
      have hgj : (eRows o)[((j : Int)).toNat]? = some [.int .i64 o[j].1, .int .i64 o[j].2] := by rw [Int.toNat_natCast]; exact eRows_get hltj
      have hstep := take_step (gStep s) ([], false) (List.getElem?_eq_getElem hltj)
      rw [← hq, ← hq] at hstep
      refine ⟨⟨by omega, by rw [heo]; omega⟩, ?_⟩
      refine ⟨_, hgj, ?_⟩
      have hel : (eRows (q j).1).length = (q j).1.length := List.length_map _
      refine ⟨fun h => ?_, fun h => ?_⟩
      · have hd : (q j).2 = false := by simpa using h
        refine ⟨fun h => ?_, fun h => ?_⟩
        · have h1 : ¬ s.1 < o[j].1 := df h
          refine ⟨fun h => ?_, fun h => ?_⟩
          · have h2 : s.1 = o[j].1 := dt h
            refine ⟨fun h => ?_, fun h => ?_⟩
            · have h3 : s.2 ≤ o[j].2 := dt h
              have hle : LO.lt s o[j] ∨ s = o[j] := by
                              rcases Int.lt_or_eq_of_le h3 with h4 | h4
                              · exact .inl (.inr ⟨h2, h4⟩)
                              · exact .inr (Prod.ext h2 h4)
              refine ⟨fun h => ?_, fun h => ?_⟩
              · have hne : s ≠ o[j] := fun e => by rw [← e] at h; simp at h
                refine ⟨⟨by show ((eRows (q j).1).length + 1) * 16 ≤ _; omega, by show (eRows (q j).1).length + 1 ≤ _; omega⟩, ?_⟩
                refine ⟨⟨by show ((eRows (q j).1 ++ [[Value.int .i64 s.1, Value.int .i64 s.2]]).length + 1) * 16 ≤ _; rw [List.length_append, List.length_singleton]; omega, by show (eRows (q j).1 ++ [[Value.int .i64 s.1, Value.int .i64 s.2]]).length + 1 ≤ _; rw [List.length_append, List.length_singleton]; omega⟩, ?_⟩
                have hst : q (j + 1) = ((q j).1 ++ [s] ++ [o[j]], true) := by rw [hstep, gStep, if_pos ⟨hd, hle⟩, if_neg hne]
                have erow : eRows (q j).1 ++ [[.int .i64 s.1, .int .i64 s.2]] ++ [[.int .i64 o[j].1, .int .i64 o[j].2]] = eRows (q (j + 1)).1 := by rw [hst, eRows_snoc]; exact eRows_snoc _ _
                have ed : Value.bool (q (j + 1)).2 = .bool true := by rw [hst]
                refine ⟨⟨by omega, by omega⟩, j + 1, [(0, 0), (1, 1), (2, 7)], ?_, ⟨rfl, by omega, by rw [hst, List.length_append, List.length_append]; simp only [List.length_cons, List.length_nil]; omega⟩, by dsimp only; omega⟩
                exact ⟨⟨rfl, ⟨rfl, rfl⟩, rfl, ed, rfl, rfl, rfl, rfl, rfl, rfl, trivial⟩, ⟨rfl, ⟨rfl, rfl, trivial⟩, erow, trivial⟩⟩
              · have he : s = o[j] := by
                  rw [Prod.ext_iff]
                  simpa using h
                refine ⟨⟨by show ((eRows (q j).1).length + 1) * 16 ≤ _; omega, by show (eRows (q j).1).length + 1 ≤ _; omega⟩, ?_⟩
                have hst : q (j + 1) = ((q j).1 ++ [o[j]], true) := by rw [hstep, gStep, if_pos ⟨hd, hle⟩, if_pos he]
                have erow : eRows (q j).1 ++ [[.int .i64 o[j].1, .int .i64 o[j].2]] = eRows (q (j + 1)).1 := by rw [hst]; exact eRows_snoc _ _
                have ed : Value.bool (q (j + 1)).2 = .bool true := by rw [hst]
                refine ⟨⟨by omega, by omega⟩, j + 1, [(0, 0), (1, 1), (2, 5)], ?_, ⟨rfl, by omega, by rw [hst, List.length_append]; simp only [List.length_cons, List.length_nil]; omega⟩, by dsimp only; omega⟩
                exact ⟨⟨rfl, ⟨rfl, rfl⟩, rfl, ed, rfl, rfl, rfl, rfl, rfl, rfl, trivial⟩, ⟨rfl, ⟨rfl, rfl, trivial⟩, erow, trivial⟩⟩
            · have h3 : ¬ s.2 ≤ o[j].2 := df h
              have hn : ¬ (LO.lt s o[j] ∨ s = o[j]) := by
                rintro ((h4 | ⟨_, h4⟩) | h4)
                · exact h1 h4
                · exact h3 (Int.le_of_lt h4)
                · rw [← h4] at h3; exact h3 (Int.le_refl _)
              refine ⟨⟨by show ((eRows (q j).1).length + 1) * 16 ≤ _; omega, by show (eRows (q j).1).length + 1 ≤ _; omega⟩, ?_⟩
              have hst : q (j + 1) = ((q j).1 ++ [o[j]], (q j).2) := by rw [hstep, gStep, if_neg (fun hh => hn hh.2)]
              have erow : eRows (q j).1 ++ [[.int .i64 o[j].1, .int .i64 o[j].2]] = eRows (q (j + 1)).1 := by rw [hst]; exact eRows_snoc _ _
              have ed : SV.v (.bool (q j).2) = SV.v (.bool (q (j + 1)).2) := by rw [hst]
              refine ⟨⟨by omega, by omega⟩, j + 1, [(0, 0), (1, 1), (2, 5)], ?_, ⟨rfl, by omega, by rw [hst, List.length_append]; simp only [List.length_cons, List.length_nil]; omega⟩, by dsimp only; omega⟩
              exact ⟨⟨rfl, ⟨rfl, rfl⟩, rfl, ed, rfl, rfl, rfl, rfl, rfl, rfl, trivial⟩, ⟨rfl, ⟨rfl, rfl, trivial⟩, erow, trivial⟩⟩
          · have h2 : ¬ s.1 = o[j].1 := df h
            have hn : ¬ (LO.lt s o[j] ∨ s = o[j]) := by
              rintro ((h4 | ⟨h4, _⟩) | h4)
              · exact h1 h4
              · exact h2 h4
              · exact h2 (by rw [← h4])
            refine ⟨⟨by show ((eRows (q j).1).length + 1) * 16 ≤ _; omega, by show (eRows (q j).1).length + 1 ≤ _; omega⟩, ?_⟩
            have hst : q (j + 1) = ((q j).1 ++ [o[j]], (q j).2) := by rw [hstep, gStep, if_neg (fun hh => hn hh.2)]
            have erow : eRows (q j).1 ++ [[.int .i64 o[j].1, .int .i64 o[j].2]] = eRows (q (j + 1)).1 := by rw [hst]; exact eRows_snoc _ _
            have ed : SV.v (.bool (q j).2) = SV.v (.bool (q (j + 1)).2) := by rw [hst]
            refine ⟨⟨by omega, by omega⟩, j + 1, [(0, 0), (1, 1), (2, 5)], ?_, ⟨rfl, by omega, by rw [hst, List.length_append]; simp only [List.length_cons, List.length_nil]; omega⟩, by dsimp only; omega⟩
            exact ⟨⟨rfl, ⟨rfl, rfl⟩, rfl, ed, rfl, rfl, rfl, rfl, rfl, rfl, trivial⟩, ⟨rfl, ⟨rfl, rfl, trivial⟩, erow, trivial⟩⟩
        · have h1 : s.1 < o[j].1 := dt h
          have hle : LO.lt s o[j] ∨ s = o[j] := .inl (.inl h1)
          refine ⟨fun h => ?_, fun h => ?_⟩
          · have hne : s ≠ o[j] := fun e => by rw [← e] at h; simp at h
            refine ⟨⟨by show ((eRows (q j).1).length + 1) * 16 ≤ _; omega, by show (eRows (q j).1).length + 1 ≤ _; omega⟩, ?_⟩
            refine ⟨⟨by show ((eRows (q j).1 ++ [[Value.int .i64 s.1, Value.int .i64 s.2]]).length + 1) * 16 ≤ _; rw [List.length_append, List.length_singleton]; omega, by show (eRows (q j).1 ++ [[Value.int .i64 s.1, Value.int .i64 s.2]]).length + 1 ≤ _; rw [List.length_append, List.length_singleton]; omega⟩, ?_⟩
            have hst : q (j + 1) = ((q j).1 ++ [s] ++ [o[j]], true) := by rw [hstep, gStep, if_pos ⟨hd, hle⟩, if_neg hne]
            have erow : eRows (q j).1 ++ [[.int .i64 s.1, .int .i64 s.2]] ++ [[.int .i64 o[j].1, .int .i64 o[j].2]] = eRows (q (j + 1)).1 := by rw [hst, eRows_snoc]; exact eRows_snoc _ _
            have ed : Value.bool (q (j + 1)).2 = .bool true := by rw [hst]
            refine ⟨⟨by omega, by omega⟩, j + 1, [(0, 0), (1, 1), (2, 7)], ?_, ⟨rfl, by omega, by rw [hst, List.length_append, List.length_append]; simp only [List.length_cons, List.length_nil]; omega⟩, by dsimp only; omega⟩
            exact ⟨⟨rfl, ⟨rfl, rfl⟩, rfl, ed, rfl, rfl, rfl, rfl, rfl, rfl, trivial⟩, ⟨rfl, ⟨rfl, rfl, trivial⟩, erow, trivial⟩⟩
          · have he : s = o[j] := by
              rw [Prod.ext_iff]
              simpa using h
            refine ⟨⟨by show ((eRows (q j).1).length + 1) * 16 ≤ _; omega, by show (eRows (q j).1).length + 1 ≤ _; omega⟩, ?_⟩
            have hst : q (j + 1) = ((q j).1 ++ [o[j]], true) := by rw [hstep, gStep, if_pos ⟨hd, hle⟩, if_pos he]
            have erow : eRows (q j).1 ++ [[.int .i64 o[j].1, .int .i64 o[j].2]] = eRows (q (j + 1)).1 := by rw [hst]; exact eRows_snoc _ _
            have ed : Value.bool (q (j + 1)).2 = .bool true := by rw [hst]
            refine ⟨⟨by omega, by omega⟩, j + 1, [(0, 0), (1, 1), (2, 5)], ?_, ⟨rfl, by omega, by rw [hst, List.length_append]; simp only [List.length_cons, List.length_nil]; omega⟩, by dsimp only; omega⟩
            exact ⟨⟨rfl, ⟨rfl, rfl⟩, rfl, ed, rfl, rfl, rfl, rfl, rfl, rfl, trivial⟩, ⟨rfl, ⟨rfl, rfl, trivial⟩, erow, trivial⟩⟩
      · have hd : (q j).2 = true := by simpa using h
        refine ⟨⟨by show ((eRows (q j).1).length + 1) * 16 ≤ _; omega, by show (eRows (q j).1).length + 1 ≤ _; omega⟩, ?_⟩
        have hst : q (j + 1) = ((q j).1 ++ [o[j]], (q j).2) := by rw [hstep, gStep, if_neg (fun hh => by rw [hd] at hh; cases hh.1)]
        have erow : eRows (q j).1 ++ [[.int .i64 o[j].1, .int .i64 o[j].2]] = eRows (q (j + 1)).1 := by rw [hst]; exact eRows_snoc _ _
        have ed : SV.v (.bool (q j).2) = SV.v (.bool (q (j + 1)).2) := by rw [hst]
        refine ⟨⟨by omega, by omega⟩, j + 1, [(0, 0), (1, 1), (2, 5)], ?_, ⟨rfl, by omega, by rw [hst, List.length_append]; simp only [List.length_cons, List.length_nil]; omega⟩, by dsimp only; omega⟩
        exact ⟨⟨rfl, ⟨rfl, rfl⟩, rfl, ed, rfl, rfl, rfl, rfl, rfl, rfl, trivial⟩, ⟨rfl, ⟨rfl, rfl, trivial⟩, erow, trivial⟩⟩
    · have hjl : j = o.length := by have := df h; omega
      have hput : (l.take (i + 1)).foldl (fun o x => gIns x o) [] = gIns s o := by rw [take_step _ _ (List.getElem?_eq_getElem hlt), ← hs, ← ho]
      have hfin : gIns s o = if (q j).2 then (q j).1 else (q j).1 ++ [s] := by rw [← gPut_ins, gPut, gFold, hq j, hjl, List.take_length]
      have hel : (eRows (q j).1).length = (q j).1.length := List.length_map _
      refine ⟨fun h => ?_, fun h => ?_⟩
      · have hd : (q j).2 = false := by simpa using h
        rw [hd] at hfin
        refine ⟨⟨by show ((eRows (q j).1).length + 1) * 16 ≤ _; omega, by show (eRows (q j).1).length + 1 ≤ _; omega⟩, ?_⟩
        have erow : eRows (q j).1 ++ [[.int .i64 s.1, .int .i64 s.2]] = eRows ((l.take (i + 1)).foldl (fun o x => gIns x o) []) := by rw [hput, hfin]; exact eRows_snoc _ _
        refine ⟨⟨by omega, by omega⟩, i + 1, [(0, 4)], ?_, ⟨rfl, by omega⟩, by dsimp only; omega⟩
        exact ⟨⟨rfl, rfl, rfl, rfl, trivial⟩, ⟨erow, trivial⟩⟩
      · have hd : (q j).2 = true := by simpa using h
        rw [hd] at hfin
        have erow : eRows (q j).1 = eRows ((l.take (i + 1)).foldl (fun o x => gIns x o) []) := by rw [hput, hfin]; rfl
        refine ⟨⟨by omega, by omega⟩, i + 1, [(0, 2)], ?_, ⟨rfl, by omega⟩, by dsimp only; omega⟩
        exact ⟨⟨rfl, rfl, rfl, rfl, trivial⟩, ⟨erow, trivial⟩⟩
  · have hil : i = l.length := by have := df h; omega
    intro x H2 hle2 hx
    rw [hil, List.take_length] at hx
    obtain ⟨a1, n1, c1, rfl, hr⟩ := rE_all hx (fun e he => RLe_all ha e ((gSort_mem l e).1 he))
    exact hK _ _ _ _ hle2 hr
end Go.Proofs
