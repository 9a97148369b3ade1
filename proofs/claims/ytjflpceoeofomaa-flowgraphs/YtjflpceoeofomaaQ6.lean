/- Part 'Q6' of the proof: lemmas, each with its own conditions in its own statement. -/
import Derived.Test.YtjflpceoeofomaaQ5
import Derived.Test.YtjflpceoeofomaaP7
namespace Go.Proofs
open Go.Sy
set_option maxRecDepth 20000
theorem rev_rev (l : List Edg) : gSort (revL (gSort (revL l))) = gSort l := by
  refine gSort_eq (gSort_strict _) fun t => ?_
  rw [gSort_mem]
  constructor
  · intro h
    obtain ⟨u, hu, rfl⟩ := List.mem_map.1 h
    obtain ⟨v, hv, rfl⟩ := List.mem_map.1 ((gSort_mem _ u).1 hu)
    exact hv
  · intro h
    exact List.mem_map.2 ⟨swp t, (gSort_mem _ _).2 (List.mem_map.2 ⟨t, h, rfl⟩), rfl⟩
theorem strict_nodup {α : Type} [LO α] {l : List α} (h : StrictL l) : l.Nodup := h.imp fun {x y} h e => by
  rw [e] at h
  exact LO.irrefl y h
theorem FlowTurns_spec {m : Int} {l : List Edg} {f : List Int} {a a3 : Option Addr} {n c n3 c3 : Nat} {H : Hp} {K : Value → Hp → Prop} (ha : RL H a n c l) (hb : RL H a3 n3 c3 f) (hK : ∀ H', Le H H' → K (.bool true) H') :
    Does Try.prog 7 [.int .i64 m, .slice a n c, .slice a3 n3 c3] H K := by
  have hn3 := hb.n_eq
  refine spec_of cx_ok cx_mix rfl Try.func7 Try.call7 Try.ntmps7 Try.results7 rfl rfl ?_
  refine awake_spec fun _ _ => ?_
  refine ⟨(fun h => by cases h), fun _ => ?_⟩
  refine few_spec ha fun b hfew => ?_
  refine ⟨fun h => ?_, fun h => hK _ (Le.refl H)⟩
  obtain ⟨hm, hl⟩ := hfew (by simpa using h)
  refine ⟨fun h => hK _ (Le.refl H), fun h => ?_⟩
  have hf : f.length ≤ 40 := by have := df h; omega
  refine reached_spec (by omega) (by omega) (by omega) ha hb fun a1 n1 c1 R H1 hle1 hr1 hR1 hR2 => ?_
  have hrl := gSort_len (revL l)
  rw [List.length_map] at hrl
  have hnR : R.length ≤ 1000 := by
    have := nodes_len (s := R) (m := m) (strict_nodup hR1) hR2.node
    omega
  refine reverse_spec (by omega) (ha.up hle1) fun a4 n4 c4 H4 hle4 hr4 => ?_
  refine reverse_spec (by omega) hr4 fun a5 n5 c5 H5 hle5 hr5 => ?_
  refine sorted_spec (by omega) ((ha.up hle1).up (hle4.trans hle5)) fun a6 n6 c6 H6 hle6 hr6 => ?_
  rw [rev_rev] at hr5
  refine same_spec (hr5.up hle6) hr6 ?_
  have hle16 := (hle4.trans hle5).trans hle6
  refine ⟨fun _ => ?_, fun h => by simp at h⟩
  refine reached_spec (by omega) (by omega) (by omega) ((ha.up hle1).up hle16) (hr1.up hle16) fun a7 n7 c7 R' H7 hle7 hr7 hS1 hS2 => ?_
  have hRR : R' = R := strict_ext hS1 hR1 (hR2.again hS2)
  subst hRR
  refine ints_spec hr7 ((hr1.up hle16).up hle7) ?_
  refine ⟨fun h => by simp at h, fun _ => ?_⟩
  have hn1 := hr1.n_eq
  have hmx1 := hr1.le
  have hle17 := hle16.trans hle7
  refine ⟨Nat, fun i => ⟨[(0, .v (.int .i64 m)), (1, .v (.slice a n c)), (7, .v (.slice a1 n1 c1)), (43, .v (.slice a1 n1 c1)), (44, .v (.int .i64 n1)), (45, .v (.int .i64 i))], [], 0⟩,
    fun i H' => Le H7 H' ∧ i ≤ R'.length, fun i => R'.length - i, ⟨0, [], ?_, Le.refl H7, by omega⟩, ?_⟩
  · exact ⟨⟨rfl, rfl, rfl, rfl, rfl, rfl, trivial⟩, trivial⟩
  rintro i H8 _ ⟨hle8, hi⟩
  have hr18 := (hr1.up hle17).up hle8
  have ha8 := ((ha.up hle1).up hle17).up hle8
  refine ⟨fun h => ?_, fun h => ?_⟩
  · have hlt : i < R'.length := by have := dt h; omega
    obtain ⟨ad, cs, q1, hh, r1⟩ := hr18.elem (List.getElem?_eq_getElem hlt)
    obtain ⟨rfl, r2⟩ := r1
    refine ⟨ad, ⟨by omega, by omega, q1⟩, ?_⟩
    refine ⟨_, hh, ?_⟩
    refine next_spec (by omega) ha8 fun a9 n9 c9 H9 hle9 hr9 => ?_
    have hn9 := hr9.n_eq
    have hmx9 := hr9.le
    refine ⟨Nat, fun j => ⟨[(0, .v (.int .i64 m)), (1, .v (.slice a n c)), (7, .v (.slice a1 n1 c1)), (43, .v (.slice a1 n1 c1)), (44, .v (.int .i64 n1)), (45, .v (.int .i64 i)), (52, .v (.slice a9 n9 c9)), (53, .v (.int .i64 n9)), (54, .v (.int .i64 j))], [], 0⟩,
      fun j H' => H' = H9 ∧ j ≤ (gSort (nxt m R'[i] l)).length, fun j => (gSort (nxt m R'[i] l)).length - j, ⟨0, [], ?_, rfl, by omega⟩, ?_⟩
    · exact ⟨⟨rfl, rfl, rfl, rfl, rfl, rfl, rfl, rfl, rfl, trivial⟩, trivial⟩
    rintro j H10 _ ⟨rfl, hj⟩
    refine ⟨fun h => ?_, fun h => ?_⟩
    · have hltj : j < (gSort (nxt m R'[i] l)).length := by have := dt h; omega
      obtain ⟨ad2, cs2, q2, hh2, r3⟩ := hr9.elem (List.getElem?_eq_getElem hltj)
      obtain ⟨rfl, r4⟩ := r3
      refine ⟨ad2, ⟨by omega, by omega, q2⟩, ?_⟩
      refine ⟨_, hh2, ?_⟩
      have hin : (gSort (nxt m R'[i] l))[j] ∈ R' := hR2.closed _ (List.getElem_mem hlt) _ ((gSort_mem _ _).1 (List.getElem_mem hltj))
      refine in_spec (hr18.up hle9) ?_
      refine ⟨(fun h => by rw [decide_eq_true hin] at h; cases h), fun _ => ?_⟩
      refine ⟨⟨by omega, by omega⟩, j + 1, [], ?_, ⟨rfl, by omega⟩, by dsimp only; omega⟩
      exact ⟨⟨rfl, rfl, rfl, rfl, rfl, rfl, rfl, rfl, rfl, trivial⟩, trivial⟩
    · refine ⟨⟨by omega, by omega⟩, i + 1, [], ?_, ⟨hle8.trans hle9, by omega⟩, by dsimp only; omega⟩
      exact ⟨⟨rfl, rfl, rfl, rfl, rfl, rfl, trivial⟩, trivial⟩
  · exact hK _ ((hle1.trans hle17).trans hle8)
end Go.Proofs
