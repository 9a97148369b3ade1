/- Part 'R5' of the proof: lemmas, each with its own conditions in its own statement. -/
import Derived.Test.YtmcopfncaehggaaR4
namespace Go.Proofs
open Go.Sy
set_option maxRecDepth 20000
def rowBad (x : Row) : Bool := !nmB x.1.l || x.2.1.any badS || x.2.2.any badS
/-- The cell that holds the closure. -/
abbrev bcell : List (Nat × Bx) := [(0, .cells 76 [.fn 44 []])]
theorem rowbad_spec {x : Row} {a1 a2 : Option Addr} {n1 c1 n2 c2 : Nat} {H : Hp} {K : SV → St → Hp → Prop} (h1 : RL H a1 n1 c1 x.2.1) (h2 : RL H a2 n2 c2 x.2.2) (hs : x.1.l.length ≤ 9223372036854775807)
    (hK : K (.v (.bool (rowBad x))) ⟨[], bcell, 1⟩ H) : DoesG Try.prog 47 [.agg [.v (.string (bs x.1.l)), .v (.slice a1 n1 c1), .v (.slice a2 n2 c2)], .ptr 0 0] bcell 1 H K := by
  refine spec_ofG cx_ok cx_mix Try.func47 Try.call47 Try.ntmps47 Try.results47 rfl rfl ?_
  refine name2_spec ?_ hs
  refine ⟨fun h => ?_, fun h => ?_⟩
  · have hn : nmB x.1.l = true := by simpa using h
    refine contains_spec h1 ?_
    refine ⟨fun h3 => ?_, fun h3 => ?_⟩
    · refine contains_spec h2 ?_
      have e : SV.v (.bool (x.2.2.any badS)) = SV.v (.bool (rowBad x)) := by rw [rowBad, hn, h3]; rfl
      exact ⟨.v (.bool (rowBad x)), bcell, 1, [(0, 0)], ⟨⟨e, trivial⟩, ⟨⟨⟨rfl, rfl⟩, trivial⟩, trivial⟩⟩, hK⟩
    · have e : Value.bool (rowBad x) = .bool true := by rw [rowBad, hn, h3]; rfl
      exact ⟨.v (.bool (rowBad x)), bcell, 1, [(0, 0)], ⟨⟨e, trivial⟩, ⟨⟨⟨rfl, rfl⟩, trivial⟩, trivial⟩⟩, hK⟩
  · have hn : nmB x.1.l = false := by simpa using h
    have e : Value.bool (rowBad x) = .bool true := by rw [rowBad, hn]; rfl
    exact ⟨.v (.bool (rowBad x)), bcell, 1, [(0, 0)], ⟨⟨e, trivial⟩, ⟨⟨⟨rfl, rfl⟩, trivial⟩, trivial⟩⟩, hK⟩
theorem indexrow_spec {l : List Row} {a1 : Option Addr} {n1 c1 : Nat} {H : Hp} {K : SV → St → Hp → Prop} (ha : RL H a1 n1 c1 l) (hK : ∀ r : Int, (0 ≤ r ↔ l.any rowBad = true) → K (.v (.int .i64 r)) ⟨[], bcell, 1⟩ H) :
    DoesG Try.prog 68 [.v (.slice a1 n1 c1), .fn 47 [.ptr 0 0]] bcell 1 H K := by
  have hn1 := ha.n_eq
  have hmx := ha.le
  refine spec_ofG cx_ok cx_mix Try.func68 Try.call68 Try.ntmps68 Try.results68 rfl rfl ?_
  refine ⟨Nat, fun i => ⟨[(0, .v (.slice a1 n1 c1)), (1, .fn 47 [.ptr 0 0]), (7, .v (.int .i64 n1)), (8, .v (.int .i64 i))], bcell, 1⟩, fun i H' => H' = H ∧ i ≤ l.length ∧ (l.take i).any rowBad = false, fun i => l.length - i, ⟨0, [(0, 0)], ?_, rfl, by omega, rfl⟩, ?_⟩
  · exact ⟨⟨rfl, ⟨rfl, rfl⟩, rfl, rfl, trivial⟩, ⟨⟨⟨rfl, rfl⟩, trivial⟩, trivial⟩⟩
  rintro i H1 _ ⟨rfl, hi, hany⟩
  refine ⟨fun h => ?_, fun h => ?_⟩
  · have hlt : i < l.length := by have := dt h; omega
    have hx := List.getElem?_eq_getElem hlt
    have hel := ha.elem hx
    obtain ⟨ad, cs, e1, hh, r1⟩ := hel
    obtain ⟨b1, m1, d1, b2, m2, d2, ecs, hsl, p1, p2⟩ := row_open r1
    rw [ecs] at hh
    refine ⟨ad, ⟨by omega, by omega, e1⟩, ?_⟩
    refine ⟨_, hh, ?_⟩
    refine ⟨[0], rfl, ?_⟩
    refine rowbad_spec p1 p2 hsl ?_
    refine ⟨fun h => ?_, fun h => ?_⟩
    · exact ⟨.v (.int .i64 i), bcell, 1, [(0, 0)], ⟨⟨rfl, trivial⟩, ⟨⟨⟨rfl, rfl⟩, trivial⟩, trivial⟩⟩, hK i ⟨fun _ => any_true l rowBad hx h, fun _ => by omega⟩⟩
    · refine ⟨⟨by omega, by omega⟩, i + 1, [(0, 0)], ?_, ⟨rfl, by omega, by rw [any_take_succ' l rowBad hx, hany, h]; rfl⟩, by dsimp only; omega⟩
      exact ⟨⟨rfl, ⟨rfl, rfl⟩, rfl, rfl, trivial⟩, ⟨⟨⟨rfl, rfl⟩, trivial⟩, trivial⟩⟩
  · have hil : i = l.length := by have := df h; omega
    rw [hil, List.take_length] at hany
    exact ⟨.v (.int .i64 (-1)), bcell, 1, [(0, 0)], ⟨⟨rfl, trivial⟩, ⟨⟨⟨rfl, rfl⟩, trivial⟩, trivial⟩⟩, hK (-1) ⟨fun h => by omega, fun h => by rw [hany] at h; cases h⟩⟩
theorem containsrow_spec {l : List Row} {a1 : Option Addr} {n1 c1 : Nat} {H : Hp} {K : SV → St → Hp → Prop} (ha : RL H a1 n1 c1 l) (hK : K (.v (.bool (l.any rowBad))) ⟨[], bcell, 1⟩ H) :
    DoesG Try.prog 46 [.v (.slice a1 n1 c1), .fn 47 [.ptr 0 0]] bcell 1 H K := by
  refine spec_ofG cx_ok cx_mix Try.func46 Try.call46 Try.ntmps46 Try.results46 rfl rfl ?_
  refine ⟨[0], rfl, ?_⟩
  refine indexrow_spec ha fun r hr => ?_
  have e : SV.v (.bool (decide (0 ≤ r))) = SV.v (.bool (l.any rowBad)) := by
    have : decide (0 ≤ r) = l.any rowBad := by rw [Bool.eq_iff_iff, ← hr, decide_eq_true_iff]
    rw [this]
  exact ⟨.v (.bool (l.any rowBad)), bcell, 1, [(0, 0)], ⟨⟨e, trivial⟩, ⟨⟨⟨rfl, rfl⟩, trivial⟩, trivial⟩⟩, hK⟩
/-- May a report be written? -/
def rightB (r : Report) : Bool := decide (nameOf r.1 ≠ []) && !r.2.any rowBad
theorem right_spec {r : Report} {H : Hp} {cs : List Value} {K : Value → Hp → Prop} (ha : Enc.R H cs r) (hK : K (.bool (rightB r)) H) : Does Try.prog 18 [.agg cs.toArray] H K := by
  obtain ⟨a1, n1, c1, rfl, hl, h1⟩ := rep_open ha
  refine spec_of cx_ok cx_mix rfl Try.func18 Try.call18 Try.ntmps18 Try.results18 rfl rfl ?_
  refine name_spec ?_
  refine ⟨fun h => ?_, fun h => ?_⟩
  · have h' : (!decide (nameOf r.1 = ([] : List UInt8))) = true := h
    have hne : decide (nameOf r.1 ≠ []) = true := by simpa using h'
    refine ⟨[1], rfl, ?_⟩
    refine containsrow_spec h1 ?_
    exact kbool hK (by rw [rightB, hne, Bool.true_and])
  · have h' : (!decide (nameOf r.1 = ([] : List UInt8))) = false := h
    have hne : decide (nameOf r.1 ≠ []) = false := by simpa using h'
    exact kbool hK (by rw [rightB, hne, Bool.false_and])
theorem refright_spec {r : Report} {H : Hp} {cs : List Value} {K : Value → Hp → Prop} (ha : Enc.R H cs r) (hK : K (.bool (rightB r)) H) : Does Try.prog 19 [.agg cs.toArray] H K := by
  obtain ⟨a1, n1, c1, rfl, hl, h1⟩ := rep_open ha
  refine spec_of cx_ok cx_mix rfl Try.func19 Try.call19 Try.ntmps19 Try.results19 rfl rfl ?_
  have hn1 := h1.n_eq
  have hmx := h1.le
  refine ⟨Nat, fun i => ⟨[(1, .ptr 0 0), (6, .v (.slice a1 n1 c1)), (7, .v (.int .i64 n1)), (8, .v (.int .i64 i))], [(0, .cells 24 [.v (.int .i64 r.1), .v (.slice a1 n1 c1)])], 1⟩, fun i H' => H' = H ∧ i ≤ r.2.length ∧ (r.2.take i).any rowBad = false, fun i => r.2.length - i, ⟨0, [(0, 0)], ?_, rfl, by omega, rfl⟩, ?_⟩
  · exact ⟨⟨⟨rfl, rfl⟩, rfl, rfl, rfl, trivial⟩, ⟨⟨rfl, rfl, trivial⟩, trivial⟩⟩
  rintro i H1 _ ⟨rfl, hi, hany⟩
  refine ⟨fun h => ?_, fun h => ?_⟩
  · have hlt : i < r.2.length := by have := dt h; omega
    have hx := List.getElem?_eq_getElem hlt
    have hel := h1.elem hx
    obtain ⟨ad, cs, e1, hh, r1⟩ := hel
    obtain ⟨b1, m1, d1, b2, m2, d2, ecs, hsl, p1, p2⟩ := row_open r1
    rw [ecs] at hh
    refine ⟨ad, ⟨by omega, by omega, e1⟩, ?_⟩
    refine ⟨_, hh, ?_⟩
    refine refname2_spec ?_ hsl
    have bad : rowBad r.2[i] = true → rightB r = false := fun hb => by rw [rightB, any_true r.2 rowBad hx hb]; simp
    refine ⟨fun h3 => ?_, fun h3 => ?_⟩
    · have hn : nmB r.2[i].1.l = true := by simpa using h3
      refine all_spec p1 ?_
      refine ⟨fun h4 => ?_, fun h4 => ?_⟩
      · have h4' : r.2[i].2.1.any badS = false := by simpa using h4
        refine all_spec p2 ?_
        refine ⟨fun h5 => ?_, fun h5 => ?_⟩
        · have h5' : r.2[i].2.2.any badS = true := by simpa using h5
          exact kbool hK (bad (by rw [rowBad, h5', Bool.or_true]))
        · have h5' : r.2[i].2.2.any badS = false := by simpa using h5
          have hg : rowBad r.2[i] = false := by rw [rowBad, hn, h4', h5']; rfl
          refine ⟨⟨by omega, by omega⟩, i + 1, [(0, 0)], ?_, ⟨rfl, by omega, by rw [any_take_succ' r.2 rowBad hx, hany, hg]; rfl⟩, by dsimp only; omega⟩
          exact ⟨⟨⟨rfl, rfl⟩, rfl, rfl, rfl, trivial⟩, ⟨⟨rfl, rfl, trivial⟩, trivial⟩⟩
      · have h4' : r.2[i].2.1.any badS = true := by simpa using h4
        exact kbool hK (bad (by rw [rowBad, h4', Bool.or_true, Bool.true_or]))
    · have hn : nmB r.2[i].1.l = false := by simpa using h3
      exact kbool hK (bad (by rw [rowBad, hn]; rfl))
  · have hil : i = r.2.length := by have := df h; omega
    rw [hil, List.take_length] at hany
    refine refname_spec ?_
    have e9 : rightB r = !decide (nameOf r.1 = ([] : List UInt8)) := by rw [rightB, hany]; simp
    exact kbool hK e9
end Go.Proofs
