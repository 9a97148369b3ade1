/- Part 'E8' of the proof: lemmas, each with its own conditions in its own statement. -/
import Derived.Test.YtmcopfncaehggaaE7
namespace Go.Proofs
open Go.Sy
set_option maxRecDepth 20000
theorem awake_spec {H : Hp} {K : Value → Hp → Prop} (hK : ∀ H', Le H H' → K (.bool true) H') : Does Try.prog 9 [] H K := by
  refine spec_of cx_ok cx_mix rfl Try.func9 Try.call9 Try.ntmps9 Try.results9 rfl rfl ?_
  refine name_spec ?_
  refine ⟨fun h => ?_, fun h => ?_⟩
  · refine kind_spec (l := nameOf 2) fun _ _ => ?_
    exact hK H (Le.refl H)
  · exact absurd h (by decide)

theorem ei {k : IntKind} {a b : Int} (h : a = b) : SV.v (.int k a) = SV.v (.int k b) := by rw [h]
def wk (l : List UInt8) : Nat → Int
  | 0 => 0
  | k + 1 => if nameOf ((k : Int) + 1) = l then (k : Int) + 1 else wk l k
theorem wk_kind (l : List UInt8) : wk l 4 = kindOf l := by
  by_cases h1 : l = nameOf 1
  · subst h1; decide
  by_cases h2 : l = nameOf 2
  · subst h2; decide
  by_cases h3 : l = nameOf 3
  · subst h3; decide
  by_cases h4 : l = nameOf 4
  · subst h4; decide
  have g : ∀ i : Int, l ≠ nameOf i → ¬ nameOf i = l := fun i h e => h e.symm
  have e1 : wk l 4 = 0 := by
    show (if nameOf 4 = l then (4 : Int) else if nameOf 3 = l then 3 else if nameOf 2 = l then 2 else if nameOf 1 = l then 1 else 0) = 0
    rw [if_neg (g 4 h4), if_neg (g 3 h3), if_neg (g 2 h2), if_neg (g 1 h1)]
  rw [e1]
  unfold kindOf
  rw [if_neg h1, if_neg h2, if_neg h3, if_neg h4]

theorem ClientNames_spec {kind : Int} {name : Str} {a b : Report} {H : Hp} {cs ds : List Value} {K : Value → Hp → Prop} (ha : Enc.R H cs a) (hb : Enc.R H ds b)
   (hK : ∀ H', Le H H' → K (.bool true) H') : Does Try.prog 3 [.int .i64 kind, .string (bs name.l), .agg cs.toArray, .agg ds.toArray] H K := by
  obtain ⟨a1, n1, c1, rfl, hl, h1⟩ := rep_open ha
  obtain ⟨b1, m1, d1, rfl, gl, g1⟩ := rep_open hb
  refine spec_of cx_ok cx_mix rfl Try.func3 Try.call3 Try.ntmps3 Try.results3 rfl rfl ?_
  refine awake_spec fun _ _ => ?_
  have fin := hK H (Le.refl H)
  refine ⟨fun h => absurd h (by decide), fun _ => ?_⟩
  refine ⟨fun h => ?_, fun h => ?_⟩
  · refine small_spec ha fun s1 _ _ => ?_
    refine ⟨fun h => ?_, fun h => ?_⟩
    · refine small_spec hb fun s2 _ _ => ?_
      refine ⟨fun h => ?_, fun h => ?_⟩
      · exact fin
      · refine ⟨Nat, fun k => ⟨[(0, .v (.int .i64 kind)), (1, .v (.string (bs name.l))), (6, .ptr 0 0), (7, .ptr 1 0), (9, .v (.int .i64 (wk name.l k))), (10, .v (.int .i64 (k + 1)))], [(0, .cells 24 [.v (.int .i64 a.1), .v (.slice a1 n1 c1)]), (1, .cells 24 [.v (.int .i64 b.1), .v (.slice b1 m1 d1)])], 2⟩, fun k H' => Le H H' ∧ k ≤ 4, fun k => 5 - k, ⟨0, [(0, 0), (1, 1)], ?_, Le.refl H, by omega⟩, ?_⟩
        · exact ⟨⟨rfl, rfl, ⟨rfl, rfl⟩, ⟨rfl, rfl⟩, rfl, rfl, trivial⟩, ⟨⟨rfl, rfl, trivial⟩, ⟨rfl, rfl, trivial⟩, trivial⟩⟩
        rintro k H' _ ⟨hle, hk⟩
        refine ⟨fun h => ?_, fun h => ?_⟩
        · have h := dt h
          refine refname_spec ?_
          refine ⟨fun h2 => ?_, fun h2 => ?_⟩
          · have h2 : nameOf ((k : Int) + 1) = name.l := dt h2
            have e : wk name.l (k + 1) = (k : Int) + 1 := by rw [wk, if_pos h2]
            refine ⟨⟨by omega, by omega⟩, k + 1, [(0, 0), (1, 1)], ?_, ⟨hle, by omega⟩, by dsimp only; omega⟩
            exact ⟨⟨rfl, rfl, ⟨rfl, rfl⟩, ⟨rfl, rfl⟩, ei e.symm, rfl, trivial⟩, ⟨⟨rfl, rfl, trivial⟩, ⟨rfl, rfl, trivial⟩, trivial⟩⟩
          · have h2 : ¬ nameOf ((k : Int) + 1) = name.l := df h2
            have e : wk name.l (k + 1) = wk name.l k := by rw [wk, if_neg h2]
            refine ⟨⟨by omega, by omega⟩, k + 1, [(0, 0), (1, 1)], ?_, ⟨hle, by omega⟩, by dsimp only; omega⟩
            exact ⟨⟨rfl, rfl, ⟨rfl, rfl⟩, ⟨rfl, rfl⟩, ei e.symm, rfl, trivial⟩, ⟨⟨rfl, rfl, trivial⟩, ⟨rfl, rfl, trivial⟩, trivial⟩⟩
        · have h := df h
          have e : k = 4 := by omega
          subst e
          have hk4 := wk_kind name.l
          refine ⟨some ([], [0, 2, 1, 3, 4, 5, 6, 8, 7, 9, 10, 11, 12, 13, 15, 16, 14, 17, 18, 19, 20]), by kernel_rfl, ?_⟩
          refine name_spec ?_
          refine refname_spec ?_
          refine ⟨fun h => ?_, fun h => absurd rfl (df h)⟩
          refine kind_spec (l := name.l) fun _ _ => ?_
          refine ⟨fun h => ?_, fun h => absurd hk4.symm (df h)⟩
          refine csame_spec (Enc.up hle ha) (Enc.up hle hb) fun _ _ => ?_
          refine rsame_spec (Enc.up hle ha) (Enc.up hle hb) fun _ _ => ?_
          have := hK H' hle
          rw [show (true : Bool) = (decide (a = b) == decide (a = b)) from by simp] at this
          exact this
    · exact fin
  · exact fin
end Go.Proofs
