/- Part 'E7' of the proof: lemmas, each with its own conditions in its own statement. -/
import Derived.Test.YtmcopfncaehggaaE6
namespace Go.Proofs
open Go.Sy
set_option maxRecDepth 20000
theorem rep_open {H : Hp} {cs : List Value} {r : Report} (h : Enc.R H cs r) : ∃ a1 n1 c1, cs = [.int .i64 r.1, .slice a1 n1 c1] ∧ (-9223372036854775808 ≤ r.1 ∧ r.1 ≤ 9223372036854775807) ∧ RL H a1 n1 c1 r.2 := by
  obtain ⟨x1, x2, rfl, ⟨rfl, hl⟩, ⟨a1, n1, c1, rfl, h1⟩⟩ := h
  exact ⟨a1, n1, c1, rfl, hl, h1⟩

theorem csame_spec {a b : Report} {H : Hp} {cs ds : List Value} {K : Value → Hp → Prop} (ha : Enc.R H cs a) (hb : Enc.R H ds b)
   (hK : ∀ H', Le H H' → K (.bool (decide (a = b))) H') : Does Try.prog 14 [.agg cs.toArray, .agg ds.toArray] H K := by
  obtain ⟨a1, n1, c1, rfl, hl, h1⟩ := rep_open ha
  obtain ⟨b1, m1, d1, rfl, gl, g1⟩ := rep_open hb
  refine spec_of cx_ok cx_mix rfl Try.func14 Try.call14 Try.ntmps14 Try.results14 rfl rfl ?_
  refine ⟨fun h => ?_, fun h => ?_⟩
  · have e : a.1 = b.1 := dt h
    refine rows_spec h1 g1 fun H' _ => ?_
    have := hK H (Le.refl H)
    rw [show decide (a = b) = decide (a.2 = b.2) from decide_eq_decide.2 ⟨fun h => by rw [h], fun h' => Prod.ext e h'⟩] at this
    exact this
  · have := hK H (Le.refl H)
    rw [decide_eq_false (fun e => df h (by rw [e]))] at this
    exact this

theorem rsame_spec {a b : Report} {H : Hp} {cs ds : List Value} {K : Value → Hp → Prop} (ha : Enc.R H cs a) (hb : Enc.R H ds b)
   (hK : ∀ H', Le H H' → K (.bool (decide (a = b))) H') : Does Try.prog 15 [.agg cs.toArray, .agg ds.toArray] H K := by
  obtain ⟨a1, n1, c1, rfl, hl, h1⟩ := rep_open ha
  obtain ⟨b1, m1, d1, rfl, gl, g1⟩ := rep_open hb
  refine spec_of cx_ok cx_mix rfl Try.func15 Try.call15 Try.ntmps15 Try.results15 rfl rfl ?_
  refine ⟨fun h => ?_, fun h => ?_⟩
  · have e1 : a.1 = b.1 := nf h
    refine ⟨fun h => ?_, fun h => ?_⟩
    · have := hK H (Le.refl H)
      rw [decide_eq_false (fun e => nt h (by rw [e] at h1; have := h1.n_eq; have := g1.n_eq; omega))] at this
      exact this
    · have hn1 := h1.n_eq
      have hn2 := g1.n_eq
      have hlen : a.2.length = b.2.length := by have := nf h; omega
      have hmx := h1.le
      refine ⟨Nat, fun k => ⟨[(2, .ptr 0 0), (3, .ptr 1 0), (23, .v (.slice a1 n1 c1)), (24, .v (.int .i64 n1)), (25, .v (.int .i64 k))], [(0, .cells 24 [.v (.int .i64 a.1), .v (.slice a1 n1 c1)]), (1, .cells 24 [.v (.int .i64 b.1), .v (.slice b1 m1 d1)])], 2⟩, fun k H' => Le H H' ∧ k ≤ a.2.length ∧ a.2.take k = b.2.take k, fun k => a.2.length - k, ⟨0, [(0, 0), (1, 1)], ?_, Le.refl H, by omega, rfl⟩, ?_⟩
      · exact ⟨⟨⟨rfl, rfl⟩, ⟨rfl, rfl⟩, rfl, rfl, rfl, trivial⟩, ⟨⟨rfl, rfl, trivial⟩, ⟨rfl, rfl, trivial⟩, trivial⟩⟩
      rintro k H' _ ⟨hle, hk, htk⟩
      refine ⟨fun h => ?_, fun h => ?_⟩
      · have hlt : k < a.2.length := by have := of_decide_eq_true h; omega
        have hx := List.getElem?_eq_getElem hlt
        have hy := List.getElem?_eq_getElem (hlen ▸ hlt : k < b.2.length)
        obtain ⟨ad, cs, e1, h1, r1⟩ := (h1.up hle).elem hx
        obtain ⟨bd, ds, e2, h2, r2⟩ := (g1.up hle).elem hy
        obtain ⟨_, _, _, _, _, _, rfl, l1, p1, p2⟩ := row_open r1
        obtain ⟨_, _, _, _, _, _, rfl, l2, q1, q2⟩ := row_open r2
        refine ⟨ad, ⟨by omega, by omega, e1⟩, ?_⟩
        refine ⟨_, h1, ?_⟩
        refine ⟨bd, ⟨by omega, by omega, e2⟩, ?_⟩
        refine ⟨_, h2, ?_⟩
        have no : a.2[k] ≠ b.2[k] → K (.bool false) H' := fun hne => by
          have := hK H' hle
          rw [decide_eq_false (fun e => hne (by subst e; rfl))] at this
          exact this
        refine ⟨fun h => ?_, fun h => ?_⟩
        · have x1 : a.2[k].1 = b.2[k].1 := str_ext (nf h)
          refine texts_spec p1 q1 fun _ _ => ?_
          refine ⟨fun h => ?_, fun h => ?_⟩
          · have x2 := dt (by simpa using h)
            refine texts_spec p2 q2 fun _ _ => ?_
            refine ⟨fun h => ?_, fun h => ?_⟩
            · exact no (fun e => df (by simpa using h) (by rw [e]))
            · have x3 := dt (by simpa using h)
              refine ⟨⟨by omega, by omega⟩, k + 1, [(0, 0), (1, 1)], ?_, ⟨hle, by omega, ?_⟩, by dsimp only; omega⟩
              · exact ⟨⟨⟨rfl, rfl⟩, ⟨rfl, rfl⟩, rfl, rfl, rfl, trivial⟩, ⟨⟨rfl, rfl, trivial⟩, ⟨rfl, rfl, trivial⟩, trivial⟩⟩
              · rw [List.take_add_one, List.take_add_one, htk, hx, hy, show a.2[k] = b.2[k] from Prod.ext x1 (Prod.ext x2 x3)]
          · exact no (fun e => df (by simpa using h) (by rw [e]))
        · exact no (fun e => nt h (by rw [e]))
      · have : a.2 = b.2 := by
          have h := of_decide_eq_false h
          have e : k = a.2.length := by omega
          subst e
          rw [List.take_length, hlen, List.take_length] at htk
          exact htk
        have h2 := hK H' hle
        rw [decide_eq_true (Prod.ext e1 this)] at h2
        exact h2
  · have := hK H (Le.refl H)
    rw [decide_eq_false (fun e => nt h (by rw [e]))] at this
    exact this
theorem small_spec {a : Report} {H : Hp} {cs : List Value} {K : Value → Hp → Prop} (ha : Enc.R H cs a)
   (hK : ∀ b H', Le H H' → K (.bool b) H') : Does Try.prog 10 [.agg cs.toArray] H K := by
  obtain ⟨a1, n1, c1, rfl, hl, h1⟩ := rep_open ha
  refine spec_of cx_ok cx_mix rfl Try.func10 Try.call10 Try.ntmps10 Try.results10 rfl rfl ?_
  refine ⟨fun h => ?_, fun h => ?_⟩
  · exact hK _ _ (Le.refl H)
  · have hn1 := h1.n_eq
    have hmx := h1.le
    refine ⟨Nat, fun k => ⟨[(1, .ptr 0 0), (12, .v (.slice a1 n1 c1)), (13, .v (.int .i64 n1)), (14, .v (.int .i64 k))], [(0, .cells 24 [.v (.int .i64 a.1), .v (.slice a1 n1 c1)])], 1⟩, fun k H' => Le H H' ∧ k ≤ a.2.length, fun k => a.2.length - k, ⟨0, [(0, 0)], ?_, Le.refl H, by omega⟩, ?_⟩
    · exact ⟨⟨⟨rfl, rfl⟩, rfl, rfl, rfl, trivial⟩, ⟨⟨rfl, rfl, trivial⟩, trivial⟩⟩
    rintro k H' _ ⟨hle, hk⟩
    refine ⟨fun h => ?_, fun h => ?_⟩
    · have hlt : k < a.2.length := by have := of_decide_eq_true h; omega
      have hx := List.getElem?_eq_getElem hlt
      obtain ⟨ad, cs, e1, h1, r1⟩ := (h1.up hle).elem hx
      obtain ⟨_, _, _, _, _, _, rfl, l1, p1, p2⟩ := row_open r1
      refine ⟨ad, ⟨by omega, by omega, e1⟩, ?_⟩
      refine ⟨_, h1, ?_⟩
      refine ⟨fun h2 => ?_, fun h => ?_⟩
      · refine ⟨fun h3 => ?_, fun h => ?_⟩
        · refine ⟨fun h => ?_, fun h => ?_⟩
          · exact hK _ _ hle
          · refine ⟨some ([2, 3], [1, 2, 4, 5, 8, 0, 3, 6, 7]), by kernel_rfl, ?_⟩
            obtain ⟨xs1, w1, v1⟩ := p1.row
            obtain ⟨xs2, w2, v2⟩ := p2.row
            have hb1 : xs1.length ≤ 12 := by have := v1.1; have := p1.n_eq; have := df h2; omega
            have hb2 : xs2.length ≤ 12 := by have := v2.1; have := p2.n_eq; have := df h3; omega
            refine ⟨xs1, w1, ?_⟩
            refine ⟨⟨by show (0 + xs1.length) * 16 ≤ 140737488355328; omega, by show 0 + xs1.length ≤ 9223372036854775807; omega⟩, ?_⟩
            refine ⟨xs2, w2, ?_⟩
            refine ⟨⟨by show ((([] : List (List Value)) ++ xs1).length + xs2.length) * 16 ≤ 140737488355328; simp; omega, by show (([] : List (List Value)) ++ xs1).length + xs2.length ≤ 9223372036854775807; simp; omega⟩, ?_⟩
            have hb : (xs1 ++ xs2).length ≤ 24 := by simp; omega
            refine ⟨Nat, fun j => ⟨[(1, .ptr 0 0), (12, .v (.slice a1 n1 c1)), (13, .v (.int .i64 n1)), (14, .v (.int .i64 k)), (40, .own 1), (41, .v (.int .i64 (xs1 ++ xs2).length)), (42, .v (.int .i64 j))], [(0, .cells 24 [.v (.int .i64 a.1), .v (.slice a1 n1 c1)]), (1, .row 9 1 (xs1 ++ xs2))], 2⟩, fun j H'' => Le H' H'' ∧ j ≤ (xs1 ++ xs2).length, fun j => (xs1 ++ xs2).length - j, ⟨0, [(0, 0), (1, 4)], ?_, Le.refl H', by omega⟩, ?_⟩
            · exact ⟨⟨⟨rfl, rfl⟩, rfl, rfl, rfl, rfl, rfl, rfl, trivial⟩, ⟨⟨rfl, rfl, trivial⟩, rfl, trivial⟩⟩
            rintro j H'' _ ⟨hle2, hj⟩
            refine ⟨fun h => ?_, fun h => ?_⟩
            · have hlt2 : j < (xs1 ++ xs2).length := by have := of_decide_eq_true h; omega
              have hlc := (v1.append v2).1
              obtain ⟨cs, hcs, rfl, hl⟩ := (v1.append v2).get (List.getElem?_eq_getElem (hlc ▸ hlt2))
              refine ⟨⟨by omega, by omega⟩, ?_⟩
              refine ⟨_, hcs, ?_⟩
              refine ⟨fun h => ?_, fun h => ?_⟩
              · exact hK _ _ (hle.trans hle2)
              · refine ⟨⟨by omega, by omega⟩, j + 1, [(0, 0), (1, 1)], ?_, ⟨hle2, by omega⟩, by dsimp only; omega⟩
                exact ⟨⟨⟨rfl, rfl⟩, rfl, rfl, rfl, rfl, rfl, rfl, trivial⟩, ⟨⟨rfl, rfl, trivial⟩, rfl, trivial⟩⟩
            · refine ⟨⟨by omega, by omega⟩, k + 1, [(0, 0)], ?_, ⟨hle.trans hle2, by omega⟩, by dsimp only; omega⟩
              exact ⟨⟨⟨rfl, rfl⟩, rfl, rfl, rfl, trivial⟩, ⟨⟨rfl, rfl, trivial⟩, trivial⟩⟩
        · exact hK _ _ hle
      · exact hK _ _ hle
    · exact hK _ _ hle
end Go.Proofs
