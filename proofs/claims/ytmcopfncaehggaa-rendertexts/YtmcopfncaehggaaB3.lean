/- Part 'B3' of the proof: lemmas, each with its own conditions in its own statement. -/
import Derived.Test.YtmcopfncaehggaaB2
namespace Go.Proofs
open Go.Sy
set_option maxRecDepth 20000
def elem (l : List Str) (i : Nat) : List UInt8 := (l.getD i ⟨[]⟩).l
/-- The first i of them, joined. -/
def jn (l : List Str) (sep : List UInt8) : Nat → List UInt8
  | 0 => []
  | 1 => elem l 0
  | i + 2 => jn l sep (i + 1) ++ sep ++ elem l (i + 1)
def joined (l : List Str) (sep : List UInt8) : List UInt8 := jn l sep l.length
def sm (l : List Str) : Nat → Nat
  | 0 => 0
  | i + 1 => sm l i + (elem l i).length
theorem jn_len (l : List Str) (sep : List UInt8) : ∀ i, (jn l sep (i + 1)).length = sm l (i + 1) + sep.length * i
  | 0 => by simp [jn, sm]
  | i + 1 => by
    rw [jn, List.length_append, List.length_append, jn_len l sep i, sm, sm, sm, Nat.mul_add]
    omega
theorem sm_le (l : List Str) : ∀ {i j : Nat}, i ≤ j → sm l i ≤ sm l j
  | i, 0, h => by have : i = 0 := by omega
                  subst this; exact Nat.le_refl _
  | i, j + 1, h => by
    by_cases e : i = j + 1
    · subst e; exact Nat.le_refl _
    · have := sm_le l (show i ≤ j by omega)
      rw [sm]; omega
theorem jn_le (l : List Str) (sep : List UInt8) {i j : Nat} (h : i ≤ j) : (jn l sep (i + 1)).length ≤ (jn l sep (j + 1)).length := by
  rw [jn_len, jn_len]
  have h1 := sm_le l (show i + 1 ≤ j + 1 by omega)
  have h2 := Nat.mul_le_mul_left sep.length h
  omega
theorem elem_at {l : List Str} {i : Nat} (h : i < l.length) : l[i]? = some ⟨elem l i⟩ := by
  rw [elem, List.getD_eq_getElem?_getD, List.getElem?_eq_getElem h]
  rfl
theorem str_open {H : Hp} {cs : List Value} {r : Str} (h : Enc.R H cs r) : cs = [.string (bs r.l)] := h.1
theorem join_spec {l : List Str} {sep : List UInt8} {a1 : Option Addr} {n1 c1 : Nat} {H : Hp} {K : Value → Hp → Prop} (ha : RL H a1 n1 c1 l) (hlen : (joined l sep).length ≤ 140737488355328)
    (hK : ∀ H', Le H H' → K (.string (bs (joined l sep))) H') : Does Try.prog 78 [.slice a1 n1 c1, .string (bs sep)] H K := by
  have hn1 := ha.n_eq
  have hmx := ha.le
  refine spec_of cx_ok cx_mix rfl Try.func78 Try.call78 Try.ntmps78 Try.results78 rfl rfl ?_
  refine ⟨fun h => ?_, fun h => ?_⟩
  · have h0 : l.length = 0 := by have := dt h; omega
    have e : joined l sep = [] := by rw [joined, h0]; rfl
    have h9 := hK H (Le.refl H)
    rw [e] at h9
    exact h9
  · have h0 : l.length ≠ 0 := by have := df h; omega
    refine ⟨fun h => ?_, fun h => ?_⟩
    · have h1 : l.length = 1 := by have := dt h; omega
      have hel := ha.elem (elem_at (l := l) (i := 0) (by omega))
      obtain ⟨ad, cs, e1, hh, r1⟩ := hel
      rw [str_open r1] at hh
      refine ⟨ad, ⟨by omega, by omega, e1⟩, ?_⟩
      refine ⟨_, hh, ?_⟩
      have e : joined l sep = elem l 0 := by rw [joined, h1]; rfl
      have h9 := hK H (Le.refl H)
      rw [e] at h9
      exact h9
    · have h2 : 2 ≤ l.length := by have := df h; omega
      obtain ⟨m, hm⟩ : ∃ m, l.length = m + 2 := ⟨l.length - 2, by omega⟩
      have hjl : (jn l sep (m + 2)).length = sm l (m + 2) + sep.length * (m + 1) := jn_len l sep (m + 1)
      have hjj : joined l sep = jn l sep (m + 2) := by rw [joined, hm]
      rw [hjj] at hlen
      have hS : (sl (bs sep)).length = sep.length := rfl
      have hmul : (sl (bs sep)).length * (m + 1) ≤ 140737488355328 := by rw [hjl] at hlen; rw [hS]; omega
      have hmul' : sep.length * (m + 1) ≤ 140737488355328 := hmul
      have en1 : (n1 : Int) - 1 = ((m + 1 : Nat) : Int) := by omega
      refine ⟨fun h => ?_, fun h => ?_⟩
      · have hs0 : 0 < (sl (bs sep)).length := by have := dt h; omega
        have hq : ((sl (bs sep)).length : Int) < (9223372036854775807 : Int).tdiv ((n1 : Int) - 1) ∧ (9223372036854775807 : Int).tdiv ((n1 : Int) - 1) ≤ 9223372036854775807 := by
          rw [en1]
          have h1 : m + 1 ≤ 140737488355328 := Nat.le_trans (Nat.le_mul_of_pos_left _ hs0) hmul
          have h3 : ((sl (bs sep)).length + 1) * (m + 1) ≤ 9223372036854775807 := by rw [Nat.add_mul]; omega
          have h4 : (sl (bs sep)).length + 1 ≤ 9223372036854775807 / (m + 1) := (Nat.le_div_iff_mul_le (by omega)).2 h3
          have h5 : (9223372036854775807 : Int).tdiv ((m + 1 : Nat) : Int) = ((9223372036854775807 / (m + 1) : Nat) : Int) := rfl
          have h6 : 9223372036854775807 / (m + 1) ≤ 9223372036854775807 := Nat.div_le_self _ _
          rw [h5]
          omega
        have hSm : ((sl (bs sep)).length : Int) * ((n1 : Int) - 1) = (((sl (bs sep)).length * (m + 1) : Nat) : Int) := by rw [en1]; rfl
        refine ⟨⟨by omega, by omega⟩, ?_⟩
        refine ⟨by omega, ⟨by omega, by omega⟩, ?_⟩
        refine ⟨fun h => ?_, fun h => ?_⟩
        · have := dt h; omega
        · refine ⟨⟨by omega, by omega⟩, ?_⟩
          refine ⟨⟨by omega, by omega⟩, ?_⟩
          refine ⟨⟨by omega, by omega⟩, ?_⟩
          have e5 : SV.v (.int .i64 (0 + ((sl (bs sep)).length : Int) * ((n1 : Int) - 1))) = SV.v (.int .i64 ((sep.length * (m + 1) + sm l 0 : Nat) : Int)) := by rw [hSm]; simp [sm]
          refine ⟨Nat, fun j => ⟨[(0, .v (.slice a1 n1 c1)), (1, .v (.string (bs sep))), (5, .v (.int .i64 ((sep.length * (m + 1) + sm l j : Nat) : Int))), (39, .v (.slice a1 n1 c1)), (40, .v (.int .i64 n1)), (41, .v (.int .i64 j))], [], 0⟩, fun j H' => Le H H' ∧ j ≤ l.length, fun j => l.length - j, ⟨0, [], ?_, Le.refl H, by omega⟩, ?_⟩
          · exact ⟨⟨rfl, rfl, e5, rfl, rfl, rfl, trivial⟩, trivial⟩
          rintro j H1 _ ⟨hle, hj⟩
          have hsj := sm_le l (show j ≤ m + 2 by omega)
          refine ⟨fun h => ?_, fun h => ?_⟩
          · have hlt : j < l.length := by have := dt h; omega
            have hsj1 := sm_le l (show j + 1 ≤ m + 2 by omega)
            rw [sm] at hsj1
            have hq := ha.up hle
            have hel := hq.elem (elem_at (l := l) (i := j) hlt)
            obtain ⟨ad, cs, e1, hh, r1⟩ := hel
            rw [str_open r1] at hh
            refine ⟨ad, ⟨by omega, by omega, e1⟩, ?_⟩
            refine ⟨_, hh, ?_⟩
            have hse : (sl (bs (Str.l ⟨elem l j⟩))).length = (elem l j).length := rfl
            refine ⟨⟨by omega, by omega⟩, ?_⟩
            refine ⟨fun h => ?_, fun h => ?_⟩
            · have := dt h; omega
            · refine ⟨⟨by omega, by omega⟩, ?_⟩
              have e5' : SV.v (.int .i64 (((sep.length * (m + 1) + sm l j : Nat) : Int) + ((sl (bs (Str.l ⟨elem l j⟩))).length : Int))) = SV.v (.int .i64 ((sep.length * (m + 1) + sm l (j + 1) : Nat) : Int)) := by rw [sm, hse]; congr 2; omega
              refine ⟨⟨by omega, by omega⟩, j + 1, [], ?_, ⟨hle, by omega⟩, by dsimp only; omega⟩
              exact ⟨⟨rfl, rfl, e5', rfl, rfl, rfl, trivial⟩, trivial⟩
          · have hjl' : j = l.length := by have := df h; omega
            have hlen' : sep.length * (m + 1) + sm l j ≤ 140737488355328 := by rw [hjl', hm]; omega
            refine ⟨[0], rfl, ?_⟩
            refine Grow_fresh (n := sep.length * (m + 1) + sm l j) hlen' ?_
            have hq := ha.up hle
            have hel := hq.elem (elem_at (l := l) (i := 0) (by omega))
            obtain ⟨ad, cs, e1, hh, r1⟩ := hel
            rw [str_open r1] at hh
            refine ⟨ad, ⟨by omega, by omega, e1⟩, ?_⟩
            refine ⟨_, hh, ?_⟩
            refine ⟨[0, 1], rfl, ?_⟩
            have hb0 : (jn l sep 1).length ≤ (jn l sep (m + 2)).length := jn_le l sep (show 0 ≤ m + 1 by omega)
            have hb00 : (jn l sep 1).length = (elem l 0).length := rfl
            refine write_used (b := []) (t := elem l 0) (by simp only [List.length_nil]; omega) ?_
            refine ⟨⟨by omega, by omega, by omega, by have := ha.2.1; omega⟩, ?_⟩
            have hp := hq.cut (l := 1) (k := n1) (by omega) (by omega)
            have ep : ∀ i, i < n1 - 1 → ((l.take n1).drop 1)[i]? = some ⟨elem l (i + 1)⟩ := by
              intro i hi
              rw [List.getElem?_drop, List.getElem?_take, if_pos (by omega), show 1 + i = i + 1 by omega, elem_at (by omega)]
            refine ⟨Nat, fun j => ⟨[(1, .v (.string (bs sep))), (8, .ptr 0 0), (63, .v (.slice (cutA a1 1 c1 1) (n1 - 1) (c1 - 1))), (64, .v (.int .i64 ((n1 - 1 : Nat) : Int))), (65, .v (.int .i64 j))], [(0, .cells 69 [.ptr 0 0, .own 1]), (1, .row 5 1 (byteRows (jn l sep (j + 1))))], 2⟩, fun j H' => Le H1 H' ∧ j ≤ n1 - 1, fun j => n1 - 1 - j, ⟨0, [(0, 0), (1, 2)], ?_, Le.refl H1, by omega⟩, ?_⟩
            · exact ⟨⟨rfl, ⟨rfl, rfl⟩, rfl, rfl, rfl, trivial⟩, ⟨⟨⟨rfl, rfl⟩, rfl, trivial⟩, rfl, trivial⟩⟩
            rintro i H2 _ ⟨hle2, hi⟩
            refine ⟨fun h => ?_, fun h => ?_⟩
            · have hlt : i < n1 - 1 := by have := dt h; omega
              have hel2 := (hp.up hle2).elem (ep i hlt)
              obtain ⟨ad2, cs2, e2, hh2, r2⟩ := hel2
              rw [str_open r2] at hh2
              have hji : (jn l sep (i + 2)).length ≤ (jn l sep (m + 2)).length := jn_le l sep (show i + 1 ≤ m + 1 by omega)
              have hji2 : (jn l sep (i + 2)).length = (jn l sep (i + 1)).length + sep.length + (elem l (i + 1)).length := by rw [jn, List.length_append, List.length_append]
              refine ⟨ad2, ⟨by omega, by omega, e2⟩, ?_⟩
              refine ⟨_, hh2, ?_⟩
              refine ⟨[0, 1], rfl, ?_⟩
              refine write_used (b := jn l sep (i + 1)) (t := sep) (by omega) ?_
              refine ⟨[0, 2], rfl, ?_⟩
              refine write_used (b := jn l sep (i + 1) ++ sep) (t := elem l (i + 1)) (by rw [List.length_append]; omega) ?_
              refine ⟨⟨by omega, by omega⟩, i + 1, [(0, 0), (1, 3)], ?_, ⟨hle2, by omega⟩, by dsimp only; omega⟩
              exact ⟨⟨rfl, ⟨rfl, rfl⟩, rfl, rfl, rfl, trivial⟩, ⟨⟨⟨rfl, rfl⟩, rfl, trivial⟩, rfl, trivial⟩⟩
            · have hil : i = n1 - 1 := by have := df h; omega
              refine ⟨[0, 1], rfl, ?_⟩
              refine string_spec (b := jn l sep (i + 1)) ?_
              have h9 := hK H2 (hle.trans hle2)
              have ej : joined l sep = jn l sep (i + 1) := by rw [joined]; congr 1; omega
              rw [ej] at h9
              exact h9
      · have hs0 : (sl (bs sep)).length = 0 := by have := df h; omega
        have e5 : SV.v (.int .i64 0) = SV.v (.int .i64 ((sep.length * (m + 1) + sm l 0 : Nat) : Int)) := by rw [← hS, hs0, sm, Nat.zero_mul]; rfl
        refine ⟨Nat, fun j => ⟨[(0, .v (.slice a1 n1 c1)), (1, .v (.string (bs sep))), (5, .v (.int .i64 ((sep.length * (m + 1) + sm l j : Nat) : Int))), (39, .v (.slice a1 n1 c1)), (40, .v (.int .i64 n1)), (41, .v (.int .i64 j))], [], 0⟩, fun j H' => Le H H' ∧ j ≤ l.length, fun j => l.length - j, ⟨0, [], ?_, Le.refl H, by omega⟩, ?_⟩
        · exact ⟨⟨rfl, rfl, e5, rfl, rfl, rfl, trivial⟩, trivial⟩
        rintro j H1 _ ⟨hle, hj⟩
        have hsj := sm_le l (show j ≤ m + 2 by omega)
        refine ⟨fun h => ?_, fun h => ?_⟩
        · have hlt : j < l.length := by have := dt h; omega
          have hsj1 := sm_le l (show j + 1 ≤ m + 2 by omega)
          rw [sm] at hsj1
          have hq := ha.up hle
          have hel := hq.elem (elem_at (l := l) (i := j) hlt)
          obtain ⟨ad, cs, e1, hh, r1⟩ := hel
          rw [str_open r1] at hh
          refine ⟨ad, ⟨by omega, by omega, e1⟩, ?_⟩
          refine ⟨_, hh, ?_⟩
          have hse : (sl (bs (Str.l ⟨elem l j⟩))).length = (elem l j).length := rfl
          refine ⟨⟨by omega, by omega⟩, ?_⟩
          refine ⟨fun h => ?_, fun h => ?_⟩
          · have := dt h; omega
          · refine ⟨⟨by omega, by omega⟩, ?_⟩
            have e5' : SV.v (.int .i64 (((sep.length * (m + 1) + sm l j : Nat) : Int) + ((sl (bs (Str.l ⟨elem l j⟩))).length : Int))) = SV.v (.int .i64 ((sep.length * (m + 1) + sm l (j + 1) : Nat) : Int)) := by rw [sm, hse]; congr 2; omega
            refine ⟨⟨by omega, by omega⟩, j + 1, [], ?_, ⟨hle, by omega⟩, by dsimp only; omega⟩
            exact ⟨⟨rfl, rfl, e5', rfl, rfl, rfl, trivial⟩, trivial⟩
        · have hjl' : j = l.length := by have := df h; omega
          have hlen' : sep.length * (m + 1) + sm l j ≤ 140737488355328 := by rw [hjl', hm]; omega
          refine ⟨[0], rfl, ?_⟩
          refine Grow_fresh (n := sep.length * (m + 1) + sm l j) hlen' ?_
          have hq := ha.up hle
          have hel := hq.elem (elem_at (l := l) (i := 0) (by omega))
          obtain ⟨ad, cs, e1, hh, r1⟩ := hel
          rw [str_open r1] at hh
          refine ⟨ad, ⟨by omega, by omega, e1⟩, ?_⟩
          refine ⟨_, hh, ?_⟩
          refine ⟨[0, 1], rfl, ?_⟩
          have hb0 : (jn l sep 1).length ≤ (jn l sep (m + 2)).length := jn_le l sep (show 0 ≤ m + 1 by omega)
          have hb00 : (jn l sep 1).length = (elem l 0).length := rfl
          refine write_used (b := []) (t := elem l 0) (by simp only [List.length_nil]; omega) ?_
          refine ⟨⟨by omega, by omega, by omega, by have := ha.2.1; omega⟩, ?_⟩
          have hp := hq.cut (l := 1) (k := n1) (by omega) (by omega)
          have ep : ∀ i, i < n1 - 1 → ((l.take n1).drop 1)[i]? = some ⟨elem l (i + 1)⟩ := by
            intro i hi
            rw [List.getElem?_drop, List.getElem?_take, if_pos (by omega), show 1 + i = i + 1 by omega, elem_at (by omega)]
          refine ⟨Nat, fun j => ⟨[(1, .v (.string (bs sep))), (8, .ptr 0 0), (63, .v (.slice (cutA a1 1 c1 1) (n1 - 1) (c1 - 1))), (64, .v (.int .i64 ((n1 - 1 : Nat) : Int))), (65, .v (.int .i64 j))], [(0, .cells 69 [.ptr 0 0, .own 1]), (1, .row 5 1 (byteRows (jn l sep (j + 1))))], 2⟩, fun j H' => Le H1 H' ∧ j ≤ n1 - 1, fun j => n1 - 1 - j, ⟨0, [(0, 0), (1, 2)], ?_, Le.refl H1, by omega⟩, ?_⟩
          · exact ⟨⟨rfl, ⟨rfl, rfl⟩, rfl, rfl, rfl, trivial⟩, ⟨⟨⟨rfl, rfl⟩, rfl, trivial⟩, rfl, trivial⟩⟩
          rintro i H2 _ ⟨hle2, hi⟩
          refine ⟨fun h => ?_, fun h => ?_⟩
          · have hlt : i < n1 - 1 := by have := dt h; omega
            have hel2 := (hp.up hle2).elem (ep i hlt)
            obtain ⟨ad2, cs2, e2, hh2, r2⟩ := hel2
            rw [str_open r2] at hh2
            have hji : (jn l sep (i + 2)).length ≤ (jn l sep (m + 2)).length := jn_le l sep (show i + 1 ≤ m + 1 by omega)
            have hji2 : (jn l sep (i + 2)).length = (jn l sep (i + 1)).length + sep.length + (elem l (i + 1)).length := by rw [jn, List.length_append, List.length_append]
            refine ⟨ad2, ⟨by omega, by omega, e2⟩, ?_⟩
            refine ⟨_, hh2, ?_⟩
            refine ⟨[0, 1], rfl, ?_⟩
            refine write_used (b := jn l sep (i + 1)) (t := sep) (by omega) ?_
            refine ⟨[0, 2], rfl, ?_⟩
            refine write_used (b := jn l sep (i + 1) ++ sep) (t := elem l (i + 1)) (by rw [List.length_append]; omega) ?_
            refine ⟨⟨by omega, by omega⟩, i + 1, [(0, 0), (1, 3)], ?_, ⟨hle2, by omega⟩, by dsimp only; omega⟩
            exact ⟨⟨rfl, ⟨rfl, rfl⟩, rfl, rfl, rfl, trivial⟩, ⟨⟨⟨rfl, rfl⟩, rfl, trivial⟩, rfl, trivial⟩⟩
          · have hil : i = n1 - 1 := by have := df h; omega
            refine ⟨[0, 1], rfl, ?_⟩
            refine string_spec (b := jn l sep (i + 1)) ?_
            have h9 := hK H2 (hle.trans hle2)
            have ej : joined l sep = jn l sep (i + 1) := by rw [joined]; congr 1; omega
            rw [ej] at h9
            exact h9
end Go.Proofs
