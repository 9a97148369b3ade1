/- Part 'P1' of the proof: lemmas, each with its own conditions in its own statement. -/
import Derived.Test.YtjflpceoeofomaaTt
import Derived.Test.YtjflpceoeofomaaPg
namespace Go.Proofs
open Go.Sy
set_option maxRecDepth 20000
theorem index_spec {l : List Bs8} {t : Bs8} {a : Option Addr} {n c : Nat} {H : Hp} {K : Value → Hp → Prop} (ha : RL H a n c (ens l)) (hK : K (.int .i64 (idxS t l 0)) H) : Does Try.prog 108 [.slice a n c, .string (bs t)] H K := by
  have hn1 := ha.n_eq
  rw [List.length_map] at hn1
  have hmx := ha.le
  refine spec_of cx_ok cx_mix rfl Try.func108 Try.call108 Try.ntmps108 Try.results108 rfl rfl ?_
  refine ⟨Nat, fun i => ⟨[(0, .v (.slice a n c)), (1, .v (.string (bs t))), (7, .v (.int .i64 n)), (8, .v (.int .i64 i))], [], 0⟩, fun i H' => H' = H ∧ i ≤ l.length ∧ idxS t l 0 = idxS t (l.drop i) i, fun i => l.length - i, ⟨0, [], ?_, rfl, by omega, rfl⟩, ?_⟩
  · exact ⟨⟨rfl, rfl, rfl, rfl, trivial⟩, trivial⟩
  rintro i H1 _ ⟨rfl, hi, hx⟩
  refine ⟨fun h => ?_, fun h => ?_⟩
  · have hlt : i < l.length := by have := dt h; omega
    obtain ⟨ad, cs, e1, hh, rfl, hl2⟩ := ha.elem (ens_get hlt)
    rw [idxS_step hlt] at hx
    refine ⟨ad, ⟨by omega, by omega, e1⟩, ?_⟩
    refine ⟨_, hh, ?_⟩
    refine ⟨fun h => ?_, fun h => ?_⟩
    · have he : t = l[i] := dt h
      rw [if_pos he.symm] at hx
      rw [hx] at hK
      exact hK
    · have he : ¬ t = l[i] := df h
      rw [if_neg (fun h => he h.symm)] at hx
      refine ⟨⟨by omega, by omega⟩, i + 1, [], ?_, ⟨rfl, by omega, hx⟩, by dsimp only; omega⟩
      exact ⟨⟨rfl, rfl, rfl, rfl, trivial⟩, trivial⟩
  · have hil : i = l.length := by have := df h; omega
    rw [hil, List.drop_length, idxS] at hx
    rw [hx] at hK
    exact hK
theorem place_spec {l : List Bs8} {t : Bs8} {a : Option Addr} {n c : Nat} {H : Hp} {K : Value → Hp → Prop} (ha : RL H a n c (ens l)) (hK : K (.tuple #[.int .i64 (max (idxS t l 0) 0), .bool (decide (0 ≤ idxS t l 0))]) H) : Does Try.prog 95 [.slice a n c, .string (bs t)] H K := by
  refine spec_of cx_ok cx_mix rfl Try.func95 Try.call95 Try.ntmps95 Try.results95 rfl rfl ?_
  refine index_spec ha ?_
  exact hK
theorem small4_spec {p : Prog} {a : Option Addr} {n c : Nat} {H : Hp} {K : Value → Hp → Prop} (ha : RL H a n c p) (hK : ∀ b, (b = true → small4 p) → K (.bool b) H) : Does Try.prog 16 [.agg #[.slice a n c]] H K := by
  have hn1 := ha.n_eq
  have hmx := ha.le
  have hF := hK false (fun h => by cases h)
  refine spec_of cx_ok cx_mix rfl Try.func16 Try.call16 Try.ntmps16 Try.results16 rfl rfl ?_
  refine ⟨fun h => ?_, fun h => ?_⟩
  · exact hF
  have h12 : p.length ≤ 12 := by have := df h; omega
  refine ⟨Nat, fun i => ⟨[(12, .v (.slice a n c)), (13, .v (.int .i64 n)), (14, .v (.int .i64 i))], [], 0⟩,
    fun i H' => H' = H ∧ i ≤ p.length ∧ ∀ b ∈ p.take i, smallB4 b, fun i => p.length - i, ⟨0, [], ?_, rfl, by omega, by simp⟩, ?_⟩
  · exact ⟨⟨rfl, rfl, rfl, trivial⟩, trivial⟩
  rintro i H1 _ ⟨rfl, hi, hall⟩
  refine ⟨fun h => ?_, fun h => ?_⟩
  · have hlt : i < p.length := by have := dt h; omega
    have hx := List.getElem?_eq_getElem hlt
    obtain ⟨b, hb⟩ : ∃ b, b = p[i] := ⟨_, rfl⟩
    rw [← hb] at hx
    obtain ⟨ad, cs, e1, hh, r1⟩ := ha.elem hx
    obtain ⟨a2, n2, c2, rfl, hr2, hnm, htm⟩ := block_open r1
    have hn2 := hr2.n_eq
    have hmx2 := hr2.le
    refine ⟨ad, ⟨by omega, by omega, e1⟩, ?_⟩
    refine ⟨_, hh, ?_⟩
    refine ⟨fun h => ?_, fun h => hF⟩
    have g1 : b.2.1.length ≤ 12 := by have := df h; omega
    refine ⟨fun h => ?_, fun h => hF⟩
    have g2 : b.1.l.length ≤ 40 := by have := df h; simp only [sl_bs] at this; omega
    refine ⟨fun h => ?_, fun h => hF⟩
    have g3 : b.2.2.2.2.1.l.length ≤ 40 := by have := df h; simp only [sl_bs] at this; omega
    refine ⟨fun h => ?_, fun h => hF⟩
    have g4 : b.2.2.2.2.2.l.length ≤ 40 := by have := df h; simp only [sl_bs] at this; omega
    refine ⟨fun h => hF, fun h => ?_⟩
    have g5 : b.2.2.2.1.1.l.length ≤ 40 := by have := df h; simp only [sl_bs] at this; omega
    refine ⟨Nat, fun j => ⟨[(12, .v (.slice a n c)), (13, .v (.int .i64 n)), (14, .v (.int .i64 i)), (51, .v (.slice a2 n2 c2)), (52, .v (.int .i64 n2)), (53, .v (.int .i64 j))], [], 0⟩,
      fun j H' => H' = H1 ∧ j ≤ b.2.1.length ∧ ∀ s ∈ b.2.1.take j, smallS s, fun j => b.2.1.length - j, ⟨0, [], ?_, rfl, by omega, by simp⟩, ?_⟩
    · exact ⟨⟨rfl, rfl, rfl, rfl, rfl, rfl, trivial⟩, trivial⟩
    rintro j H2 _ ⟨rfl, hj, hsm⟩
    refine ⟨fun h => ?_, fun h => ?_⟩
    · have hltj : j < b.2.1.length := by have := dt h; omega
      have hxj := List.getElem?_eq_getElem hltj
      have hel := hr2.elem hxj
      obtain ⟨ad2, cs2, e2, hh2, r2⟩ := hel
      have hst := stmt_open r2
      obtain ⟨ecs, hsr⟩ := hst
      rw [ecs] at hh2
      refine ⟨ad2, ⟨by omega, by omega, e2⟩, ?_⟩
      refine ⟨_, hh2, ?_⟩
      refine ⟨fun h => ?_, fun h => hF⟩
      have k1 : b.2.1[j].2.1.l.length ≤ 40 := by have := df h; simp only [sl_bs] at this; omega
      refine ⟨fun h => ?_, fun h => hF⟩
      have k2 : b.2.1[j].2.2.2.1.1.l.length ≤ 40 := by have := df h; simp only [sl_bs] at this; omega
      refine ⟨fun h => hF, fun h => ?_⟩
      have k3 : b.2.1[j].2.2.2.2.1.l.length ≤ 40 := by have := df h; simp only [sl_bs] at this; omega
      refine ⟨⟨by omega, by omega⟩, j + 1, [], ?_, ⟨rfl, by omega, mem_take_succ hxj hsm ⟨k1, k2, k3⟩⟩, by dsimp only; omega⟩
      exact ⟨⟨rfl, rfl, rfl, rfl, rfl, rfl, trivial⟩, trivial⟩
    · have hjl : j = b.2.1.length := by have := df h; omega
      rw [hjl, List.take_length] at hsm
      refine ⟨⟨by omega, by omega⟩, i + 1, [], ?_, ⟨rfl, by omega, mem_take_succ hx hall ⟨⟨g1, g2, g3, g4, g5⟩, hsm⟩⟩, by dsimp only; omega⟩
      exact ⟨⟨rfl, rfl, rfl, trivial⟩, trivial⟩
  · have hil : i = p.length := by have := df h; omega
    rw [hil, List.take_length] at hall
    exact hK true fun _ => ⟨h12, hall⟩
end Go.Proofs
