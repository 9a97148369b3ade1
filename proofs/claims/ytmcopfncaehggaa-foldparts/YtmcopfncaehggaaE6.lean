/- Part 'E6' of the proof: lemmas, each with its own conditions in its own statement. -/
import Derived.Test.YtmcopfncaehggaaE5
namespace Go.Proofs
open Go.Sy
abbrev Row := Str × List Str × List Str
abbrev Report := Int × List Row
theorem row_open {H : Hp} {cs : List Value} {r : Row} (h : Enc.R H cs r) : ∃ a1 n1 c1 a2 n2 c2, cs = [.string (bs r.1.l), .slice a1 n1 c1, .slice a2 n2 c2] ∧ r.1.l.length ≤ 9223372036854775807 ∧ RL H a1 n1 c1 r.2.1 ∧ RL H a2 n2 c2 r.2.2 := by
  obtain ⟨x1, x2, rfl, ⟨rfl, hl⟩, y1, y2, rfl, ⟨a1, n1, c1, rfl, h1⟩, ⟨a2, n2, c2, rfl, h2⟩⟩ := h
  exact ⟨a1, n1, c1, a2, n2, c2, rfl, hl, h1, h2⟩
theorem str_ext {a b : Str} (h : a.l = b.l) : a = b := by cases a; cases b; simp_all

theorem equal_spec {a b : List Str} {a1 a2 : Option Addr} {n1 c1 n2 c2 : Nat} {H : Hp} {K : Value → Hp → Prop} (ha : RL H a1 n1 c1 a) (hb : RL H a2 n2 c2 b)
   (hK : ∀ H', Le H H' → K (.bool (decide (a = b))) H') : Does Try.prog 39 [.slice a1 n1 c1, .slice a2 n2 c2] H K := by
  refine spec_of cx_ok cx_mix rfl Try.func39 Try.call39 Try.ntmps39 Try.results39 rfl rfl ?_
  have hn1 := ha.n_eq
  have hn2 := hb.n_eq
  have hmx := ha.le
  refine ⟨fun h => ?_, fun h => ?_⟩
  · have e : a ≠ b := by intro e; subst e; simp at h; omega
    have := hK H (Le.refl H)
    rw [decide_eq_false e] at this
    exact this
  · have hlen : a.length = b.length := by simp at h; omega
    refine ⟨Nat, fun k => ⟨[(0, .v (.slice a1 n1 c1)), (1, .v (.slice a2 n2 c2)), (12, .v (.int .i64 n1)), (13, .v (.int .i64 k))], [], 0⟩, fun k H' => Le H H' ∧ k ≤ a.length ∧ a.take k = b.take k, fun k => a.length - k, ⟨0, [], ?_, Le.refl H, by omega, rfl⟩, ?_⟩
    · exact ⟨⟨rfl, rfl, rfl, rfl, trivial⟩, trivial⟩
    rintro k H' _ ⟨hle, hk, htk⟩
    refine ⟨fun h => ?_, fun h => ?_⟩
    · have hlt : k < a.length := by have := of_decide_eq_true h; omega
      have hx := List.getElem?_eq_getElem hlt
      have hy := List.getElem?_eq_getElem (hlen ▸ hlt : k < b.length)
      obtain ⟨ad, cs, e1, h1, rfl, hl1⟩ := (ha.up hle).elem hx
      obtain ⟨bd, ds, e2, h2, rfl, hl2⟩ := (hb.up hle).elem hy
      refine ⟨some ([], [0, 1, 2, 3, 4, 5, 6, 7, 8]), by kernel_rfl, ?_⟩
      refine ⟨ad, ⟨by omega, by omega, e1⟩, ?_⟩
      refine ⟨_, h1, ?_⟩
      refine ⟨bd, ⟨by omega, by omega, e2⟩, ?_⟩
      refine ⟨_, h2, ?_⟩
      refine ⟨fun h => ?_, fun h => ?_⟩
      · have hne : a[k].l ≠ b[k].l := nt h
        have := hK H' hle
        rw [decide_eq_false (fun e => by subst e; exact hne rfl)] at this
        exact this
      · have heq : a[k].l = b[k].l := nf h
        refine ⟨⟨by omega, by omega⟩, k + 1, [], ?_, ⟨hle, by omega, ?_⟩, by dsimp only; omega⟩
        · exact ⟨⟨rfl, rfl, rfl, rfl, trivial⟩, trivial⟩
        · rw [List.take_add_one, List.take_add_one, htk, hx, hy]
          congr 2
          cases ha : a[k]; cases hb : b[k]; simp_all
    · have : a = b := by
        have h := of_decide_eq_false h
        have e : k = a.length := by omega
        subst e
        rw [List.take_length, hlen, List.take_length] at htk
        exact htk
      have h2 := hK H' hle
      rw [decide_eq_true this] at h2
      exact h2
theorem same1_spec {a b : Row} {H : Hp} {cs ds : List Value} {K : Value → Hp → Prop} (ha : Enc.R H cs a) (hb : Enc.R H ds b)
   (hK : ∀ H', Le H H' → K (.bool (decide (a = b))) H') : Does Try.prog 38 [.agg cs.toArray, .agg ds.toArray] H K := by
  obtain ⟨a1, n1, c1, a2, n2, c2, rfl, hl, h1, h2⟩ := row_open ha
  obtain ⟨b1, m1, d1, b2, m2, d2, rfl, gl, g1, g2⟩ := row_open hb
  refine spec_of cx_ok cx_mix rfl Try.func38 Try.call38 Try.ntmps38 Try.results38 rfl rfl ?_
  refine ⟨fun h => ?_, fun h => ?_⟩
  · have e : a.1 = b.1 := str_ext (dt h)
    refine equal_spec h1 g1 fun H' _ => ?_
    refine ⟨fun h => ?_, fun h => ?_⟩
    · refine equal_spec h2 g2 fun H'' _ => ?_
      have := hK H (Le.refl H)
      rw [show decide (a = b) = decide (a.2.2 = b.2.2) from decide_eq_decide.2 ⟨fun h => by rw [h], fun h' => Prod.ext e (Prod.ext (dt h) h')⟩] at this
      exact this
    · have := hK H (Le.refl H)
      rw [decide_eq_false (fun e => df h (by rw [e]))] at this
      exact this
  · have := hK H (Le.refl H)
    rw [decide_eq_false (fun e => df h (by rw [e]))] at this
    exact this

theorem rows_spec {a b : List Row} {a1 a2 : Option Addr} {n1 c1 n2 c2 : Nat} {H : Hp} {K : Value → Hp → Prop} (ha : RL H a1 n1 c1 a) (hb : RL H a2 n2 c2 b)
   (hK : ∀ H', Le H H' → K (.bool (decide (a = b))) H') : Does Try.prog 37 [.slice a1 n1 c1, .slice a2 n2 c2, .func (.func 38) #[] #[]] H K := by
  refine spec_of cx_ok cx_mix rfl Try.func37 Try.call37 Try.ntmps37 Try.results37 rfl rfl ?_
  have hn1 := ha.n_eq
  have hn2 := hb.n_eq
  have hmx := ha.le
  refine ⟨fun h => ?_, fun h => ?_⟩
  · have e : a ≠ b := by intro e; subst e; simp at h; omega
    have := hK H (Le.refl H)
    rw [decide_eq_false e] at this
    exact this
  · have hlen : a.length = b.length := by simp at h; omega
    refine ⟨Nat, fun k => ⟨[(1, .v (.slice a2 n2 c2)), (2, .fn 38 []), (15, .v (.slice a1 n1 c1)), (16, .v (.int .i64 n1)), (17, .v (.int .i64 k))], [], 0⟩, fun k H' => Le H H' ∧ k ≤ a.length ∧ a.take k = b.take k, fun k => a.length - k, ⟨0, [], ?_, Le.refl H, by omega, rfl⟩, ?_⟩
    · exact ⟨⟨rfl, ⟨rfl, rfl⟩, rfl, rfl, rfl, trivial⟩, trivial⟩
    rintro k H' _ ⟨hle, hk, htk⟩
    refine ⟨fun h => ?_, fun h => ?_⟩
    · have hlt : k < a.length := by have := of_decide_eq_true h; omega
      have hx := List.getElem?_eq_getElem hlt
      have hy := List.getElem?_eq_getElem (hlen ▸ hlt : k < b.length)
      obtain ⟨ad, cs, e1, h1, r1⟩ := (ha.up hle).elem hx
      obtain ⟨bd, ds, e2, h2, r2⟩ := (hb.up hle).elem hy
      obtain ⟨_, _, _, _, _, _, rfl, -⟩ := row_open r1
      obtain ⟨_, _, _, _, _, _, rfl, -⟩ := row_open r2
      refine ⟨ad, ⟨by omega, by omega, e1⟩, ?_⟩
      refine ⟨_, h1, ?_⟩
      refine ⟨bd, ⟨by omega, by omega, e2⟩, ?_⟩
      refine ⟨_, h2, ?_⟩
      refine same1_spec r1 r2 fun _ _ => ?_
      refine ⟨fun h => ?_, fun h => ?_⟩
      · have := hK H' hle
        have hne := df (by simpa using h)
        rw [decide_eq_false (fun e => by subst e; exact hne rfl)] at this
        exact this
      · have heq := dt (by simpa using h)
        refine ⟨⟨by omega, by omega⟩, k + 1, [], ?_, ⟨hle, by omega, ?_⟩, by dsimp only; omega⟩
        · exact ⟨⟨rfl, ⟨rfl, rfl⟩, rfl, rfl, rfl, trivial⟩, trivial⟩
        · rw [List.take_add_one, List.take_add_one, htk, hx, hy, heq]
    · have : a = b := by
        have h := of_decide_eq_false h
        have e : k = a.length := by omega
        subst e
        rw [List.take_length, hlen, List.take_length] at htk
        exact htk
      have h2 := hK H' hle
      rw [decide_eq_true this] at h2
      exact h2
end Go.Proofs
