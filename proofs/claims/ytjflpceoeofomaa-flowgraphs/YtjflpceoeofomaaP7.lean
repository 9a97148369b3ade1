/- Part 'P7' of the proof: lemmas, each with its own conditions in its own statement. -/
import Derived.Test.YtjflpceoeofomaaP5
import Derived.Test.YtjflpceoeofomaaP6
namespace Go.Proofs
open Go.Sy
set_option maxRecDepth 20000
def progA : Prog := [(⟨[97]⟩, [], (1, (⟨[]⟩, 0, 0), ⟨[97]⟩, ⟨[]⟩))]
theorem awake_spec {H : Hp} {K : Value → Hp → Prop} (hK : ∀ H', Le H H' → K (.bool true) H') : Does Try.prog 15 [] H K := by
  refine spec_of cx_ok cx_mix rfl Try.func15 Try.call15 Try.ntmps15 Try.results15 rfl rfl ?_
  intro x H1 hle hx
  have hrc : RC (α := Block) H1 [[.string (bs [97]), .slice none 0 0, .int .i64 1, .string (bs []), .int .i64 0, .int .i64 0, .string (bs [97]), .string (bs [])]] progA := by
    refine ⟨rfl, fun i cs y h1 h2 => ?_⟩
    match i with
    | 0 =>
      obtain rfl := Option.some.inj h1
      obtain rfl := Option.some.inj h2
      have hs : ∀ l : List UInt8, l.length ≤ 1 → ∀ H : Hp, Enc.R (α := Str) H [.string (bs l)] ⟨l⟩ := fun l hl H => ⟨rfl, by show l.length ≤ _; omega⟩
      have hi : ∀ z : Int, 0 ≤ z → z ≤ 1 → Enc.R (α := Int) H1 [.int .i64 z] z := fun z h1 h2 => ⟨rfl, by omega, by omega⟩
      exact ⟨[_], _, rfl, hs [97] (by decide) H1, [_], [_, _, _, _, _, _], rfl, ⟨none, 0, 0, rfl, rfl, Nat.le_refl _, by omega, .inl rfl⟩,
        [_], [_, _, _, _, _], rfl, hi 1 (by omega) (by omega), [_, _, _], [_, _], rfl, ⟨[_], [_, _], rfl, hs [] (by decide) H1, [_], [_], rfl, hi 0 (by omega) (by omega), hi 0 (by omega) (by omega)⟩, [_], [_], rfl, hs [97] (by decide) H1, hs [] (by decide) H1⟩
    | i + 1 => cases h1
  obtain ⟨a, n, c, rfl, hr⟩ := RL.of_row (α := Block) hx hrc
  have he : gSort (edgesOf progA) = [((0 : Int), (0 : Int))] := by decide
  refine edges_spec (p := progA) (by decide) hr fun a1 n1 c1 H2 hle2 hr2 => ?_
  rw [he] at hr2
  have hn : n1 = 1 := hr2.n_eq
  subst hn
  refine ⟨fun _ => ?_, fun h => absurd rfl (df h)⟩
  obtain ⟨ad, cs, q1, hh, r1⟩ := hr2.elem (i := 0) rfl
  obtain ⟨rfl, -⟩ := edge_open r1
  refine ⟨ad, ⟨by omega, by omega, q1⟩, ?_⟩
  refine ⟨_, hh, ?_⟩
  refine ⟨fun _ => ?_, fun h => by simp at h⟩
  refine right_spec hr2 ?_
  have ht : rightE 1 [((0 : Int), (0 : Int))] = true := by decide
  exact kbool (hK _ (hle.trans hle2)) ht.symm
/-- FlowPrograms. -/
theorem FlowPrograms_spec {p : Prog} {a : Option Addr} {n c : Nat} {H : Hp} {K : Value → Hp → Prop} (ha : RL H a n c p) (hK : ∀ H', Le H H' → K (.bool true) H') : Does Try.prog 3 [.agg #[.slice a n c]] H K := by
  have hn1 := ha.n_eq
  have hmx := ha.le
  refine spec_of cx_ok cx_mix rfl Try.func3 Try.call3 Try.ntmps3 Try.results3 rfl rfl ?_
  refine awake_spec fun _ _ => ?_
  refine ⟨(fun h => by cases h), fun _ => ?_⟩
  refine small4_spec ha fun b hb => ?_
  refine ⟨fun h => ?_, fun h => ?_⟩
  · exact hK _ (Le.refl H)
  have hbt : b = true := by simpa using h
  have hp := (hb hbt).1
  refine ⟨Nat, fun i => ⟨[(1, .ptr 0 0), (3, .own 1), (12, .v (.slice a n c)), (13, .v (.int .i64 n)), (14, .v (.int .i64 i))], [(0, .cells 24 [.v (.slice a n c)]), (1, .row 3 1 (iRows (idxP isExit (p.take i) 0)))], 2⟩,
    fun i H' => H' = H ∧ i ≤ p.length, fun i => p.length - i, ⟨0, [(0, 0)], ?_, rfl, by omega⟩, ?_⟩
  · exact ⟨⟨⟨rfl, rfl⟩, ⟨rfl, rfl, rfl⟩, rfl, rfl, rfl, trivial⟩, ⟨⟨rfl, trivial⟩, rfl, trivial⟩⟩
  rintro i H1 _ ⟨rfl, hi⟩
  refine ⟨fun h => ?_, fun h => ?_⟩
  · have hlt : i < p.length := by have := dt h; omega
    obtain ⟨ad, cs, q1, hh, r1⟩ := ha.elem (List.getElem?_eq_getElem hlt)
    obtain ⟨a2, n2, c2, rfl, hr2, hnm, htm⟩ := block_open r1
    have hst := idxP_take isExit hlt
    have hlen := idxP_len isExit (p.take i) 0
    rw [List.length_take, Nat.min_eq_left (by omega)] at hlen
    have hel : (iRows (idxP isExit (p.take i) 0)).length = (idxP isExit (p.take i) 0).length := List.length_map _
    refine ⟨ad, ⟨by omega, by omega, q1⟩, ?_⟩
    refine ⟨_, hh, ?_⟩
    refine ⟨fun h => ?_, fun h => ?_⟩
    · have he : isExit p[i] = true := h
      rw [he, if_pos rfl] at hst
      refine ⟨⟨by show ((iRows (idxP isExit (p.take i) 0)).length + 1) * 8 ≤ _; omega, by show (iRows (idxP isExit (p.take i) 0)).length + 1 ≤ _; omega⟩, ?_⟩
      have erow : iRows (idxP isExit (p.take i) 0) ++ [[.int .i64 (i : Int)]] = iRows (idxP isExit (p.take (i + 1)) 0) := by rw [hst]; simp
      refine ⟨⟨by omega, by omega⟩, i + 1, [(0, 0), (1, 4)], ?_, ⟨rfl, by omega⟩, by dsimp only; omega⟩
      exact ⟨⟨⟨rfl, rfl⟩, rfl, rfl, rfl, rfl, trivial⟩, ⟨⟨rfl, trivial⟩, erow, trivial⟩⟩
    · have he : isExit p[i] = false := h
      rw [he] at hst
      have erow : iRows (idxP isExit (p.take i) 0) = iRows (idxP isExit (p.take (i + 1)) 0) := by rw [hst]; simp
      refine ⟨⟨by omega, by omega⟩, i + 1, [(0, 0), (1, 1)], ?_, ⟨rfl, by omega⟩, by dsimp only; omega⟩
      exact ⟨⟨⟨rfl, rfl⟩, rfl, rfl, rfl, rfl, trivial⟩, ⟨⟨rfl, trivial⟩, erow, trivial⟩⟩
  · have hil : i = p.length := by have := df h; omega
    refine ⟨some ([], [0, 2, 1, 3, 4, 5, 6, 8, 7, 9, 10, 11]), by kernel_rfl, ?_⟩
    refine edges_spec hp ha fun a1 n1 c1 H2 hle2 hr2 => ?_
    refine redges_spec hp (ha.up hle2) fun a3 n3 c3 H3 hle3 hr3 => ?_
    refine same_spec (hr2.up hle3) hr3 ?_
    refine ⟨fun _ => ?_, fun h => absurd rfl (df h)⟩
    refine exits_spec hp ((ha.up hle2).up hle3) fun a5 n5 c5 H5 hle5 hr5 => ?_
    intro x H6 hle6 hx
    rw [hil, List.take_length] at hx
    obtain ⟨a7, n7, c7, rfl, hr7⟩ := rI_all hx (idxP_in _ _ _ (by omega))
    refine ints_spec (hr5.up hle6) hr7 ?_
    refine kbool (hK _ ((hle2.trans hle3).trans hle5)) ?_
    simp [exitsOf]
end Go.Proofs
