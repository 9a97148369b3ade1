/- Part 'R7' of the proof: lemmas, each with its own conditions in its own statement. -/
import Derived.Test.YtmcopfncaehggaaB2
import Derived.Test.YtmcopfncaehggaaR4
namespace Go.Proofs
open Go.Sy
set_option maxRecDepth 20000
/-- A builder whose row is the call's own. -/
abbrev bld3 (b : List UInt8) : List (Nat × Bx) := [(0, .cells 69 [.ptr 0 0, .own 2]), (2, .row 5 1 (byteRows b))]
/-- Lines with a word ahead. -/
def lns (head : List UInt8) : List Str → List UInt8
  | [] => []
  | s :: r => head ++ s.l ++ [10] ++ lns head r
theorem lns_append (head : List UInt8) : ∀ l r, lns head (l ++ r) = lns head l ++ lns head r
  | [], r => rfl
  | s :: l, r => by rw [List.cons_append, lns, lns, lns_append head l r]; simp
theorem lns_step (head : List UInt8) {l : List Str} {i : Nat} {x : Str} (h : l[i]? = some x) : lns head (l.take (i + 1)) = lns head (l.take i) ++ (head ++ x.l ++ [10]) := by
  rw [List.take_add_one, h, lns_append]
  simp [lns]
theorem lns_le (head : List UInt8) (l : List Str) (i : Nat) : (lns head (l.take i)).length ≤ (lns head l).length := by
  have := lns_append head (l.take i) (l.drop i)
  rw [List.take_append_drop] at this
  rw [this, List.length_append]; omega
theorem put_used {head b : List UInt8} {l : List Str} {a1 : Option Addr} {n1 c1 : Nat} {H : Hp} {K : SV → St → Hp → Prop} (ha : RL H a1 n1 c1 l) (hl : b.length + (lns head l).length ≤ 140737488355328)
    (hK : K (.tup []) ⟨[], bld3 (b ++ lns head l), 3⟩ H) : DoesG Try.prog 41 [.v (.string (bs head)), .v (.slice a1 n1 c1), .ptr 0 0] (bld b) 2 H K := by
  have hn1 := ha.n_eq
  have hmx := ha.le
  have e0 : byteRows b = byteRows (b ++ lns head (l.take 0)) := by simp [lns]
  refine spec_ofG cx_ok cx_mix Try.func41 Try.call41 Try.ntmps41 Try.results41 rfl rfl ?_
  refine ⟨Nat, fun i => ⟨[(0, .v (.string (bs head))), (2, .ptr 0 0), (7, .v (.slice a1 n1 c1)), (8, .v (.int .i64 n1)), (9, .v (.int .i64 i))], bld3 (b ++ lns head (l.take i)), 3⟩, fun i H' => H' = H ∧ i ≤ l.length, fun i => l.length - i, ⟨0, [(0, 0), (2, 1)], ?_, rfl, by omega⟩, ?_⟩
  · exact ⟨⟨rfl, ⟨rfl, rfl⟩, rfl, rfl, rfl, trivial⟩, ⟨⟨⟨rfl, rfl⟩, rfl, trivial⟩, e0, trivial⟩⟩
  rintro i H1 _ ⟨rfl, hi⟩
  refine ⟨fun h => ?_, fun h => ?_⟩
  · have hlt : i < l.length := by have := dt h; omega
    have hx := List.getElem?_eq_getElem hlt
    have hel := ha.elem hx
    obtain ⟨ad, cs, e1, hh, r1⟩ := hel
    rw [str_open' r1] at hh
    have hst := lns_step head hx
    have hle := lns_le head l (i + 1)
    rw [hst] at hle
    simp only [List.length_append, List.length_singleton] at hle
    have hb1 : (sl (bs head)).length = head.length := rfl
    have hb2 : (sl (bs (l[i]).l)).length = (l[i]).l.length := rfl
    refine ⟨ad, ⟨by omega, by omega, e1⟩, ?_⟩
    refine ⟨_, hh, ?_⟩
    refine ⟨by omega, ?_⟩
    refine ⟨by show (head ++ (l[i]).l).length + 1 ≤ _; rw [List.length_append]; omega, ?_⟩
    refine ⟨[0, 2], rfl, ?_⟩
    refine write_used (b := b ++ lns head (l.take i)) (t := head ++ (l[i]).l ++ [10]) (by simp only [List.length_append, List.length_singleton]; omega) ?_
    have e9 : byteRows (b ++ lns head (l.take i) ++ (head ++ (l[i]).l ++ [10])) = byteRows (b ++ lns head (l.take (i + 1))) := by rw [hst, List.append_assoc]
    refine ⟨⟨by omega, by omega⟩, i + 1, [(0, 0), (2, 3)], ?_, ⟨rfl, by omega⟩, by dsimp only; omega⟩
    exact ⟨⟨rfl, ⟨rfl, rfl⟩, rfl, rfl, rfl, trivial⟩, ⟨⟨⟨rfl, rfl⟩, rfl, trivial⟩, e9, trivial⟩⟩
  · have hil : i = l.length := by have := df h; omega
    have e9 : byteRows (b ++ lns head (l.take i)) = byteRows (b ++ lns head l) := by rw [hil, List.take_length]
    exact ⟨.tup [], bld3 (b ++ lns head l), 3, [(0, 0), (2, 2)], ⟨⟨⟨rfl, rfl⟩, trivial⟩, ⟨⟨⟨rfl, rfl⟩, rfl, trivial⟩, e9, trivial⟩⟩, hK⟩
/-- The first line, into a builder that was never written to. -/
theorem put_fresh {head : List UInt8} {x : Str} {a1 : Option Addr} {n1 c1 : Nat} {H : Hp} {K : SV → St → Hp → Prop} (ha : RL H a1 n1 c1 [x]) (hl : (head ++ x.l ++ [10]).length ≤ 140737488355328)
    (hK : K (.tup []) ⟨[], bld (head ++ x.l ++ [10]), 2⟩ H) : DoesG Try.prog 41 [.v (.string (bs head)), .v (.slice a1 n1 c1), .ptr 0 0] bld0 1 H K := by
  have hn1 : n1 = 1 := ha.n_eq
  have hmx := ha.le
  have hl' := hl
  simp only [List.length_append, List.length_singleton] at hl'
  refine spec_ofG cx_ok cx_mix Try.func41 Try.call41 Try.ntmps41 Try.results41 rfl rfl ?_
  refine ⟨Bool, fun d => ⟨[(0, .v (.string (bs head))), (2, .ptr 0 0), (7, .v (.slice a1 n1 c1)), (8, .v (.int .i64 n1)), (9, .v (.int .i64 (match d with | false => 0 | true => 1)))], (match d with | false => bld0 | true => bld (head ++ x.l ++ [10])), (match d with | false => 1 | true => 2)⟩, fun d H' => H' = H, fun d => (match d with | false => 1 | true => 0), ⟨false, [(0, 0)], ?_, rfl⟩, ?_⟩
  · exact ⟨⟨rfl, ⟨rfl, rfl⟩, rfl, rfl, rfl, trivial⟩, ⟨⟨rfl, rfl, trivial⟩, trivial⟩⟩
  rintro d H1 _ rfl
  cases d with
  | false =>
    refine ⟨fun h => ?_, fun h => ?_⟩
    · have hel := ha.elem (i := 0) (x := x) rfl
      obtain ⟨ad, cs, e1, hh, r1⟩ := hel
      rw [str_open' r1] at hh
      have hb1 : (sl (bs head)).length = head.length := rfl
      have hb2 : (sl (bs x.l)).length = x.l.length := rfl
      refine ⟨ad, ⟨by show (0 : Int) ≤ 0; omega, by show (0 : Int) < (n1 : Int); omega, e1⟩, ?_⟩
      refine ⟨_, hh, ?_⟩
      refine ⟨by omega, ?_⟩
      refine ⟨by show (head ++ x.l).length + 1 ≤ _; rw [List.length_append]; omega, ?_⟩
      refine ⟨[0], rfl, ?_⟩
      refine write_fresh (t := head ++ x.l ++ [10]) hl ?_
      refine ⟨⟨by show (-9223372036854775808 : Int) ≤ 0 + 1; omega, by show (0 : Int) + 1 ≤ 9223372036854775807; omega⟩, true, [(0, 0), (1, 1)], ?_, rfl, by show 0 < 1; omega⟩
      exact ⟨⟨rfl, ⟨rfl, rfl⟩, rfl, rfl, rfl, trivial⟩, ⟨⟨⟨rfl, rfl⟩, rfl, trivial⟩, rfl, trivial⟩⟩
    · have h' : decide ((0 : Int) < (n1 : Int)) = false := h
      have := df h'; omega
  | true =>
    refine ⟨fun h => ?_, fun h => ?_⟩
    · have h' : decide ((1 : Int) < (n1 : Int)) = true := h
      have := dt h'; omega
    · exact ⟨.tup [], bld (head ++ x.l ++ [10]), 2, [(0, 0), (1, 1)], ⟨⟨⟨rfl, rfl⟩, trivial⟩, ⟨⟨⟨rfl, rfl⟩, rfl, trivial⟩, rfl, trivial⟩⟩, hK⟩
end Go.Proofs
