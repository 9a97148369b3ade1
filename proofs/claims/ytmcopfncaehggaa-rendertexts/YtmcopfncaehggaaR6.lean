/- Part 'R6' of the proof: lemmas, each with its own conditions in its own statement. -/
import Derived.Test.YtmcopfncaehggaaR4
namespace Go.Proofs
open Go.Sy
set_option maxRecDepth 20000
def smallR (x : Row) : Prop := x.2.1.length ≤ 12 ∧ x.2.2.length ≤ 12 ∧ x.1.l.length ≤ 40 ∧ ∀ s ∈ x.2.1 ++ x.2.2, s.l.length ≤ 60
def smallP (a : Report) : Prop := a.2.length ≤ 10 ∧ ∀ x ∈ a.2, smallR x
theorem small2_spec {a : Report} {H : Hp} {cs : List Value} {K : Value → Hp → Prop} (ha : Enc.R H cs a)
   (hK : ∀ b H', Le H H' → (b = true → smallP a) → K (.bool b) H') : Does Try.prog 10 [.agg cs.toArray] H K := by
  obtain ⟨a1, n1, c1, rfl, hl, h1⟩ := rep_open ha
  refine spec_of cx_ok cx_mix rfl Try.func10 Try.call10 Try.ntmps10 Try.results10 rfl rfl ?_
  refine ⟨fun h => ?_, fun hten => ?_⟩
  · exact hK _ _ (Le.refl H) (fun h => (by cases h))
  · have hn1 := h1.n_eq
    have hmx := h1.le
    refine ⟨Nat, fun k => ⟨[(1, .ptr 0 0), (12, .v (.slice a1 n1 c1)), (13, .v (.int .i64 n1)), (14, .v (.int .i64 k))], [(0, .cells 24 [.v (.int .i64 a.1), .v (.slice a1 n1 c1)])], 1⟩, fun k H' => Le H H' ∧ k ≤ a.2.length ∧ ∀ i x, i < k → a.2[i]? = some x → smallR x, fun k => a.2.length - k, ⟨0, [(0, 0)], ?_, Le.refl H, by omega, by intros; omega⟩, ?_⟩
    · exact ⟨⟨⟨rfl, rfl⟩, rfl, rfl, rfl, trivial⟩, ⟨⟨rfl, rfl, trivial⟩, trivial⟩⟩
    rintro k H' _ ⟨hle, hk, hall⟩
    refine ⟨fun h => ?_, fun h => ?_⟩
    · have hlt : k < a.2.length := by have := of_decide_eq_true h; omega
      have hx := List.getElem?_eq_getElem hlt
      obtain ⟨ad, cs, e1, h1, r1⟩ := (h1.up hle).elem hx
      obtain ⟨_, _, _, _, _, _, rfl, l1, p1, p2⟩ := row_open r1
      refine ⟨ad, ⟨by omega, by omega, e1⟩, ?_⟩
      refine ⟨_, h1, ?_⟩
      refine ⟨fun h2 => ?_, fun h => ?_⟩
      · refine ⟨fun h3 => ?_, fun h => ?_⟩
        · refine ⟨fun h => ?_, fun h => ?_⟩
          · exact hK _ _ hle (fun h => (by cases h))
          · have h4 := df h
            refine ⟨some ([2, 3], [1, 2, 4, 5, 8, 0, 3, 6, 7]), by kernel_rfl, ?_⟩
            obtain ⟨xs1, w1, v1⟩ := p1.row
            obtain ⟨xs2, w2, v2⟩ := p2.row
            have hb1 : xs1.length ≤ 12 := by have := v1.1; have := p1.n_eq; have := df h2; omega
            have hb2 : xs2.length ≤ 12 := by have := v2.1; have := p2.n_eq; have := df h3; omega
            refine ⟨xs1, w1, ?_⟩
            refine ⟨⟨by show (0 + xs1.length) * 16 ≤ 140737488355328; omega, by show 0 + xs1.length ≤ 9223372036854775807; omega⟩, ?_⟩
            refine ⟨xs2, w2, ?_⟩
            refine ⟨⟨by show ((([] : List (List Value)) ++ xs1).length + xs2.length) * 16 ≤ 140737488355328; simp; omega, by show (([] : List (List Value)) ++ xs1).length + xs2.length ≤ 9223372036854775807; simp; omega⟩, ?_⟩
            have hb : (xs1 ++ xs2).length ≤ 24 := by simp; omega
            refine ⟨Nat, fun j => ⟨[(1, .ptr 0 0), (12, .v (.slice a1 n1 c1)), (13, .v (.int .i64 n1)), (14, .v (.int .i64 k)), (40, .own 1), (41, .v (.int .i64 (xs1 ++ xs2).length)), (42, .v (.int .i64 j))], [(0, .cells 24 [.v (.int .i64 a.1), .v (.slice a1 n1 c1)]), (1, .row 9 1 (xs1 ++ xs2))], 2⟩, fun j H'' => Le H' H'' ∧ j ≤ (xs1 ++ xs2).length ∧ ∀ i s, i < j → (a.2[k].2.1 ++ a.2[k].2.2)[i]? = some s → s.l.length ≤ 60, fun j => (xs1 ++ xs2).length - j, ⟨0, [(0, 0), (1, 4)], ?_, Le.refl H', by omega, by intros; omega⟩, ?_⟩
            · exact ⟨⟨⟨rfl, rfl⟩, rfl, rfl, rfl, rfl, rfl, rfl, trivial⟩, ⟨⟨rfl, rfl, trivial⟩, rfl, trivial⟩⟩
            rintro j H'' _ ⟨hle2, hj, hsm⟩
            refine ⟨fun h => ?_, fun h => ?_⟩
            · have hlt2 : j < (xs1 ++ xs2).length := by have := of_decide_eq_true h; omega
              have hlc := (v1.append v2).1
              obtain ⟨cs, hcs, rfl, hl⟩ := (v1.append v2).get (List.getElem?_eq_getElem (hlc ▸ hlt2))
              refine ⟨⟨by omega, by omega⟩, ?_⟩
              refine ⟨_, hcs, ?_⟩
              refine ⟨fun h => ?_, fun h => ?_⟩
              · exact hK _ _ (hle.trans hle2) (fun h => (by cases h))
              · have h60 := df h
                refine ⟨⟨by omega, by omega⟩, j + 1, [(0, 0), (1, 1)], ?_, ⟨hle2, by omega, fun i s hi hs => ?_⟩, by dsimp only; omega⟩
                · exact ⟨⟨⟨rfl, rfl⟩, rfl, rfl, rfl, rfl, rfl, rfl, trivial⟩, ⟨⟨rfl, rfl, trivial⟩, rfl, trivial⟩⟩
                · by_cases e : i = j
                  · subst e
                    rw [List.getElem?_eq_getElem (hlc ▸ hlt2)] at hs
                    simp only [Option.some.injEq] at hs
                    rw [← hs]
                    have h61 : ¬ (60 : Int) < (((a.2[k].2.1 ++ a.2[k].2.2)[i]'(hlc ▸ hlt2)).l.length : Int) := h60
                    omega
                  · exact hsm i s (by omega) hs
            · refine ⟨⟨by omega, by omega⟩, k + 1, [(0, 0)], ?_, ⟨hle.trans hle2, by omega, fun i x hi hxi => ?_⟩, by dsimp only; omega⟩
              · exact ⟨⟨⟨rfl, rfl⟩, rfl, rfl, rfl, trivial⟩, ⟨⟨rfl, rfl, trivial⟩, trivial⟩⟩
              · have hje : ¬ ((j : Int) < ((xs1 ++ xs2).length : Int)) := of_decide_eq_false h
                by_cases e : i = k
                · subst e
                  rw [hx] at hxi
                  simp only [Option.some.injEq] at hxi
                  rw [← hxi]
                  have e1 := v1.1
                  have e2 := v2.1
                  have e3 := p1.n_eq
                  have e4 := p2.n_eq
                  refine ⟨by omega, by omega, by have : ¬ (40 : Int) < ((sl (bs a.2[i].1.l)).length : Int) := h4; simp at this; omega, fun s hs => ?_⟩
                  obtain ⟨q, hq⟩ := List.mem_iff_getElem?.1 hs
                  have hql := (List.getElem?_eq_some_iff.1 hq).1
                  have hla := (v1.append v2).1
                  exact hsm q s (by omega) hq
                · exact hall i x (by omega) hxi
        · exact hK _ _ hle (fun h => (by cases h))
      · exact hK _ _ hle (fun h => (by cases h))
    · refine hK _ _ hle (fun _ => ⟨by have := df hten; omega, fun x hx => ?_⟩)
      obtain ⟨i, hi⟩ := List.mem_iff_getElem?.1 hx
      have hlt := (List.getElem?_eq_some_iff.1 hi).1
      exact hall i x (by have := df h; omega) hi
end Go.Proofs
