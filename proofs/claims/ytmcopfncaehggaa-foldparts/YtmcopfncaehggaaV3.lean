/- Part 'V3' of the proof: lemmas, each with its own conditions in its own statement. -/
import Derived.Test.YtmcopfncaehggaaV2
namespace Go.Proofs
open Go.Sy
set_option maxRecDepth 20000
def idxS (t : Bs8) : List Bs8 → Int → Int
  | [], _ => -1
  | x :: r, i => if x = t then i else idxS t r (i + 1)
theorem idxS_step {t : Bs8} {l : List Bs8} {i : Nat} (h : i < l.length) : idxS t (l.drop i) i = if l[i] = t then (i : Int) else idxS t (l.drop (i + 1)) (i + 1 : Nat) := by
  rw [List.drop_eq_getElem_cons h, idxS]; rfl
theorem idxS_range (t : Bs8) : ∀ (l : List Bs8) (i : Int), 0 ≤ i → idxS t l i = -1 ∨ (i ≤ idxS t l i ∧ idxS t l i < i + l.length)
  | [], _, _ => .inl rfl
  | x :: r, i, h => by
    rw [idxS]
    split
    · right; simp only [List.length_cons]; omega
    · rcases idxS_range t r (i + 1) (by omega) with h' | h'
      · exact .inl h'
      · right; simp only [List.length_cons]; omega
theorem ens_get {l : List Bs8} {i : Nat} (h : i < l.length) : (ens l)[i]? = some ⟨l[i]⟩ := by rw [List.getElem?_map, List.getElem?_eq_getElem h]; rfl
theorem index_spec {l : List Bs8} {t : Bs8} {a : Option Addr} {n c : Nat} {H : Hp} {K : Value → Hp → Prop} (ha : RL H a n c (ens l)) (hK : K (.int .i64 (idxS t l 0)) H) : Does Try.prog 95 [.slice a n c, .string (bs t)] H K := by
  have hn1 := ha.n_eq
  rw [List.length_map] at hn1
  have hmx := ha.le
  refine spec_of cx_ok cx_mix rfl Try.func95 Try.call95 Try.ntmps95 Try.results95 rfl rfl ?_
  refine ⟨Nat, fun i => ⟨[(0, .v (.slice a n c)), (1, .v (.string (bs t))), (7, .v (.int .i64 n)), (8, .v (.int .i64 i))], [], 0⟩, fun i H' => H' = H ∧ i ≤ l.length ∧ idxS t l 0 = idxS t (l.drop i) i, fun i => l.length - i, ⟨0, [], ?_, rfl, by omega, rfl⟩, ?_⟩
  · exact ⟨⟨rfl, rfl, rfl, rfl, trivial⟩, trivial⟩
  rintro i H1 _ ⟨rfl, hi, hx⟩
  refine ⟨fun h => ?_, fun h => ?_⟩
  · have hlt : i < l.length := by have := dt h; omega
    obtain ⟨ad, cs, e1, hh, rfl, hl2⟩ := ha.elem (ens_get hlt)
    rw [idxS_step hlt] at hx
    refine ⟨ad, ⟨by omega, by omega, e1⟩, ?_⟩
    refine ⟨_, hh, ?_⟩
    refine ⟨fun h => ?_, fun h => ?_⟩
    · have he : t = l[i] := dt h
      rw [if_pos he.symm] at hx
      rw [hx] at hK
      exact hK
    · have he : ¬ t = l[i] := df h
      rw [if_neg (fun h => he h.symm)] at hx
      refine ⟨⟨by omega, by omega⟩, i + 1, [], ?_, ⟨rfl, by omega, hx⟩, by dsimp only; omega⟩
      exact ⟨⟨rfl, rfl, rfl, rfl, trivial⟩, trivial⟩
  · have hil : i = l.length := by have := df h; omega
    rw [hil, List.drop_length, idxS] at hx
    rw [hx] at hK
    exact hK
theorem place_spec {l : List Bs8} {t : Bs8} {a : Option Addr} {n c : Nat} {H : Hp} {K : Value → Hp → Prop} (ha : RL H a n c (ens l)) (hK : K (.tuple #[.int .i64 (max (idxS t l 0) 0), .bool (decide (0 ≤ idxS t l 0))]) H) : Does Try.prog 80 [.slice a n c, .string (bs t)] H K := by
  refine spec_of cx_ok cx_mix rfl Try.func80 Try.call80 Try.ntmps80 Try.results80 rfl rfl ?_
  refine index_spec ha ?_
  exact hK
theorem var_spec {p : Prog} {t : Bs8} {a : Option Addr} {n c : Nat} {H : Hp} {K : Value → Hp → Prop} (ha : RL H a n c p) (hc : cnt p < 400000)
    (hK : ∀ H', Le H H' → K (.tuple #[.int .i64 (max (idxS t (varsOf p) 0) 0), .bool (decide (0 ≤ idxS t (varsOf p) 0))]) H') : Does Try.prog 58 [.agg #[.slice a n c], .string (bs t)] H K := by
  refine spec_of cx_ok cx_mix rfl Try.func58 Try.call58 Try.ntmps58 Try.results58 rfl rfl ?_
  refine pvars_spec ha hc fun a1 n1 c1 H1 hle1 hr1 => ?_
  refine place_spec hr1 ?_
  exact hK _ hle1
theorem rvar_spec {p : Prog} {t : Bs8} {a : Option Addr} {n c : Nat} {H : Hp} {K : Value → Hp → Prop} (ha : RL H a n c p) (hc : cnt p < 400000)
    (hK : ∀ H', Le H H' → K (.int .i64 (idxS t (varsOf p) 0)) H') : Does Try.prog 60 [.agg #[.slice a n c], .string (bs t)] H K := by
  refine spec_of cx_ok cx_mix rfl Try.func60 Try.call60 Try.ntmps60 Try.results60 rfl rfl ?_
  refine rvars_spec ha hc fun a1 n1 c1 H1 hle1 hr1 => ?_
  obtain ⟨l, hl⟩ : ∃ l, l = varsOf p := ⟨_, rfl⟩
  rw [← hl] at hr1 hK
  have hn1 := hr1.n_eq
  rw [List.length_map] at hn1
  have hmx := hr1.le
  refine ⟨Nat, fun i => ⟨[(1, .v (.string (bs t))), (8, .v (.slice a1 n1 c1)), (9, .v (.int .i64 n1)), (10, .v (.int .i64 i))], [], 0⟩, fun i H' => H' = H1 ∧ i ≤ l.length ∧ idxS t l 0 = idxS t (l.drop i) i, fun i => l.length - i, ⟨0, [], ?_, rfl, by omega, rfl⟩, ?_⟩
  · exact ⟨⟨rfl, rfl, rfl, rfl, trivial⟩, trivial⟩
  rintro i H2 _ ⟨rfl, hi, hx⟩
  have hK := hK _ hle1
  refine ⟨fun h => ?_, fun h => ?_⟩
  · have hlt : i < l.length := by have := dt h; omega
    obtain ⟨ad, cs, e1, hh, rfl, hl2⟩ := hr1.elem (ens_get hlt)
    rw [idxS_step hlt] at hx
    refine ⟨ad, ⟨by omega, by omega, e1⟩, ?_⟩
    refine ⟨_, hh, ?_⟩
    refine ⟨fun h => ?_, fun h => ?_⟩
    · have he : l[i] = t := dt h
      rw [if_pos he] at hx
      rw [hx] at hK
      exact hK
    · have he : ¬ l[i] = t := df h
      rw [if_neg he] at hx
      refine ⟨⟨by omega, by omega⟩, i + 1, [], ?_, ⟨rfl, by omega, hx⟩, by dsimp only; omega⟩
      exact ⟨⟨rfl, rfl, rfl, rfl, trivial⟩, trivial⟩
  · have hil : i = l.length := by have := df h; omega
    rw [hil, List.drop_length, idxS] at hx
    rw [hx] at hK
    exact hK
end Go.Proofs
