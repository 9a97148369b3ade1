/- Part 'E18' of the proof: lemmas, each with its own conditions in its own statement. -/
import Derived.Test.YtmcopfncaehggaaB3
namespace Go.Proofs
open Go.Sy
set_option maxRecDepth 20000
def txt (p : Pick) : Str := ⟨digS p.1 ++ [58] ++ digS p.2⟩
def strC (s : Str) : List Value := [.string (bs s.l)]
theorem digS_len (n : Int) : (digS n).length ≤ 2 := by unfold digS; split <;> simp
theorem rc_strs {l : List Str} {H : Hp} (h : ∀ s ∈ l, s.l.length ≤ 9223372036854775807) : RC H (l.map strC) l := by
  refine ⟨by simp, fun i cs x h1 h2 => ?_⟩
  rw [List.getElem?_map, h2] at h1
  simp only [Option.map_some, Option.some.injEq] at h1
  subst h1
  exact ⟨rfl, h x (List.mem_of_getElem? h2)⟩
theorem map_take_succ {α β : Type} (f : α → β) {l : List α} {i : Nat} {x : α} (h : l[i]? = some x) : (l.take i).map f ++ [f x] = (l.take (i + 1)).map f := by
  rw [List.take_add_one, h]; simp
theorem text_small {l : List Pick} {a1 : Option Addr} {n1 c1 : Nat} {H : Hp} {K : Value → Hp → Prop} (ha : RL H a1 n1 c1 l) (hs : ∀ p ∈ l, (-10 < p.1 ∧ p.1 < 10) ∧ (-10 < p.2 ∧ p.2 < 10)) (hl : l.length ≤ 1000)
    (hj : (joined (l.map txt) [32]).length ≤ 140737488355328)
    (hK : ∀ H', Le H H' → K (.string (bs (joined (l.map txt) [32]))) H') : Does Try.prog 52 [.slice a1 n1 c1] H K := by
  have hn1 := ha.n_eq
  refine spec_of cx_ok cx_mix rfl Try.func52 Try.call52 Try.ntmps52 Try.results52 rfl rfl ?_
  refine ⟨Nat, fun i => ⟨[(3, .own 0), (6, .v (.slice a1 n1 c1)), (7, .v (.int .i64 n1)), (8, .v (.int .i64 i))], [(0, .row 9 1 ((l.take i).map fun p => strC (txt p)))], 1⟩, fun i H' => Le H H' ∧ i ≤ l.length, fun i => l.length - i, ⟨0, [], ?_, Le.refl H, by omega⟩, ?_⟩
  · exact ⟨⟨⟨rfl, rfl, rfl⟩, rfl, rfl, rfl, trivial⟩, ⟨rfl, trivial⟩⟩
  rintro i H1 _ ⟨hle, hi⟩
  refine ⟨fun h => ?_, fun h => ?_⟩
  · have hlt : i < l.length := by have := dt h; omega
    have hx := List.getElem?_eq_getElem hlt
    have hq := ha.up hle
    have hr := hq.elem hx
    obtain ⟨ad, cs, e1, h1, r1⟩ := hr
    rw [pick_open r1] at h1
    have hsx := hs _ (List.mem_of_getElem? hx)
    refine ⟨ad, ⟨by omega, by omega, e1⟩, ?_⟩
    refine ⟨_, h1, ?_⟩
    refine ⟨some ([0], [0, 1, 2, 5, 6, 3, 4, 7, 8, 9, 10, 11]), by kernel_rfl, ?_⟩
    have hd1 : (sl (bs (digS (l[i]).1))).length ≤ 2 := digS_len _
    have hd2 : (sl (bs (digS (l[i]).2))).length ≤ 2 := digS_len _
    refine digits_small hsx.1 ?_
    refine ⟨by show (sl (bs (digS (l[i]).1))).length + 1 ≤ _; omega, ?_⟩
    refine digits_small hsx.2 ?_
    refine ⟨by show ((sl (bs (digS (l[i]).1))) ++ [58]).length + (sl (bs (digS (l[i]).2))).length ≤ _; rw [List.length_append]; simp only [List.length_singleton]; omega, ?_⟩
    have hlen : ((l.take i).map fun p => strC (txt p)).length = i := by rw [List.length_map, List.length_take]; omega
    refine ⟨⟨by show (((l.take i).map fun p => strC (txt p)).length + 1) * 16 ≤ _; omega, by show ((l.take i).map fun p => strC (txt p)).length + 1 ≤ _; omega⟩, ?_⟩
    have erow : ((l.take i).map fun p => strC (txt p)) ++ [strC (txt l[i])] = (l.take (i + 1)).map fun p => strC (txt p) := map_take_succ (fun p => strC (txt p)) hx
    refine ⟨⟨by omega, by omega⟩, i + 1, [(0, 3)], ?_, ⟨hle, by omega⟩, by dsimp only; omega⟩
    exact ⟨⟨rfl, rfl, rfl, rfl, trivial⟩, ⟨erow, trivial⟩⟩
  · have hil : i = l.length := by have := df h; omega
    intro x H2 hle2 hx
    have hlx : ∀ s ∈ l.map txt, s.l.length ≤ 9223372036854775807 := by
      intro s hs2
      simp only [List.mem_map] at hs2
      obtain ⟨p, _, rfl⟩ := hs2
      have h1 := digS_len p.1
      have h2 := digS_len p.2
      simp only [txt, List.length_append, List.length_singleton]
      omega
    have hrc := rc_strs (H := H2) hlx
    rw [List.map_map] at hrc
    have et : ((l.take i).map fun p => strC (txt p)) = l.map (strC ∘ txt) := by rw [hil, List.take_length]; rfl
    rw [et] at hx
    obtain ⟨a, n2, c2, e, hr⟩ := RL.of_row (α := Str) hx hrc
    subst e
    refine join_spec hr hj ?_
    intro H3 hle3
    exact hK H1 hle
theorem awake26 {H : Hp} {K : Value → Hp → Prop} (hK : ∀ H', Le H H' → K (.bool true) H') : Does Try.prog 21 [] H K := by
  have ht : joined ([((1 : Int), (-2 : Int)), (0, 0)].map txt) [32] = [49, 58, 45, 50, 32, 48, 58, 48] := by decide
  have hrd : isR 3 3 (roundL 3 9) := by
    rw [isR_iff 3 3 (roundL 3 9) (by omega) (by rw [roundL_len]; omega)]
    decide
  refine spec_of cx_ok cx_mix rfl Try.func21 Try.call21 Try.ntmps21 Try.results21 rfl rfl ?_
  intro x H1 hle1 hx
  have hrc := rc_picks (l := [((1 : Int), (-2 : Int)), (0, 0)]) (H := H1) (by decide)
  obtain ⟨a, n2, c2, e, hr⟩ := RL.of_row (α := Pick) hx hrc
  subst e
  refine text_small hr (by decide) (by decide) (by rw [ht]; decide) ?_
  intro H2 hle2
  refine ⟨fun h => ?_, fun h => ?_⟩
  · refine round_spec (n := 3) (long := 9) ?_
    intro a3 n3 c3 H3 hle3 hr3
    have er : roundL 3 (roundN 9) = roundL 3 9 := rfl
    rw [er] at hr3
    refine is_spec (n := 3) (k := 3) hr3 (by rw [roundL_len]; omega) ?_
    intro b H4 hle4 hb
    have hbt := hb.2 hrd
    subst hbt
    exact hK H3 hle3
  · exact absurd ht (of_decide_eq_false h)
end Go.Proofs
