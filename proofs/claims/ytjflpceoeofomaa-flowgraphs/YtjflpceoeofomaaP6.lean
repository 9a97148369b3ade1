/- Part 'P6' of the proof: lemmas, each with its own conditions in its own statement. -/
import Derived.Test.YtjflpceoeofomaaP2
namespace Go.Proofs
open Go.Sy
set_option maxRecDepth 20000
def badE (m : Int) (e : Edg) : Bool := !(decide (0 ≤ e.1 ∧ e.1 < m)) || !(decide (0 ≤ e.2 ∧ e.2 < m))
theorem bad_spec {m : Int} {e : Edg} {H : Hp} {K : SV → St → Hp → Prop}
    (hK : K (.v (.bool (badE m e))) ⟨[], [(0, .cells 3 [.v (.int .i64 m)])], 1⟩ H) : DoesG Try.prog 83 [.agg [.v (.int .i64 e.1), .v (.int .i64 e.2)], .ptr 0 0] [(0, .cells 3 [.v (.int .i64 m)])] 1 H K := by
  refine spec_ofG cx_ok cx_mix Try.func83 Try.call83 Try.ntmps83 Try.results83 rfl rfl ?_
  refine node_spec ?_
  refine ⟨fun h => ?_, fun h => ?_⟩
  · refine node_spec ?_
    have e1 : badE m e = !(decide (0 ≤ e.2 ∧ e.2 < m)) := by rw [badE, h]; rfl
    rw [e1] at hK
    exact ⟨.v (.bool (!(decide (0 ≤ e.2 ∧ e.2 < m)))), [(0, .cells 3 [.v (.int .i64 m)])], 1, [(0, 0)], ⟨⟨rfl, trivial⟩, ⟨⟨rfl, trivial⟩, trivial⟩⟩, hK⟩
  · have e1 : badE m e = true := by rw [badE, h]; rfl
    rw [e1] at hK
    exact ⟨.v (.bool true), [(0, .cells 3 [.v (.int .i64 m)])], 1, [(0, 0)], ⟨⟨rfl, trivial⟩, ⟨⟨rfl, trivial⟩, trivial⟩⟩, hK⟩
def idxB (f : Edg → Bool) : List Edg → Int → Int
  | [], _ => -1
  | x :: r, i => if f x then i else idxB f r (i + 1)
theorem idxB_step {f : Edg → Bool} {l : List Edg} {i : Nat} (h : i < l.length) : idxB f (l.drop i) i = if f l[i] then (i : Int) else idxB f (l.drop (i + 1)) (i + 1 : Nat) := by
  rw [List.drop_eq_getElem_cons h, idxB]; rfl
theorem idxB_none {f : Edg → Bool} : ∀ (l : List Edg) (i : Int), 0 ≤ i → (0 ≤ idxB f l i ↔ ∃ x ∈ l, f x = true)
  | [], i, _ => by simp [idxB]
  | x :: r, i, h => by
    rw [idxB]
    split
    · rename_i h1
      exact ⟨fun _ => ⟨x, List.mem_cons_self, h1⟩, fun _ => h⟩
    · rename_i h1
      rw [idxB_none r (i + 1) (by omega)]
      constructor
      · rintro ⟨y, hy, h2⟩; exact ⟨y, List.mem_cons_of_mem _ hy, h2⟩
      · rintro ⟨y, hy, h2⟩
        rcases List.mem_cons.1 hy with rfl | hy
        · exact absurd h2 h1
        · exact ⟨y, hy, h2⟩
theorem indexF_spec {m : Int} {l : List Edg} {a : Option Addr} {n c : Nat} {H : Hp} {K : SV → St → Hp → Prop} (ha : RL H a n c l)
    (hK : K (.v (.int .i64 (idxB (badE m) l 0))) ⟨[], [(0, .cells 3 [.v (.int .i64 m)])], 1⟩ H) : DoesG Try.prog 104 [.v (.slice a n c), .fn 83 [.ptr 0 0]] [(0, .cells 3 [.v (.int .i64 m)])] 1 H K := by
  have hn1 := ha.n_eq
  have hmx := ha.le
  refine spec_ofG cx_ok cx_mix Try.func104 Try.call104 Try.ntmps104 Try.results104 rfl rfl ?_
  refine ⟨Nat, fun i => ⟨[(0, .v (.slice a n c)), (1, .fn 83 [.ptr 0 0]), (7, .v (.int .i64 n)), (8, .v (.int .i64 i))], [(0, .cells 3 [.v (.int .i64 m)])], 1⟩, fun i H' => H' = H ∧ i ≤ l.length ∧ idxB (badE m) l 0 = idxB (badE m) (l.drop i) i, fun i => l.length - i, ⟨0, [(0, 0)], ?_, rfl, by omega, rfl⟩, ?_⟩
  · exact ⟨⟨rfl, ⟨rfl, rfl⟩, rfl, rfl, trivial⟩, ⟨⟨rfl, trivial⟩, trivial⟩⟩
  rintro i H1 _ ⟨rfl, hi, hx⟩
  refine ⟨fun h => ?_, fun h => ?_⟩
  · have hlt : i < l.length := by have := dt h; omega
    obtain ⟨ad, cs, q1, hh, r1⟩ := ha.elem (List.getElem?_eq_getElem hlt)
    obtain ⟨rfl, -⟩ := edge_open r1
    rw [idxB_step hlt] at hx
    refine ⟨ad, ⟨by omega, by omega, q1⟩, ?_⟩
    refine ⟨_, hh, ?_⟩
    refine ⟨[0], rfl, bad_spec (e := l[i]) ?_⟩
    refine ⟨fun h => ?_, fun h => ?_⟩
    · rw [if_pos h] at hx
      rw [hx] at hK
      exact ⟨.v (.int .i64 i), [(0, .cells 3 [.v (.int .i64 m)])], 1, [(0, 0)], ⟨⟨rfl, trivial⟩, ⟨⟨rfl, trivial⟩, trivial⟩⟩, hK⟩
    · have h' : ¬ badE m l[i] = true := by rw [h]; decide
      rw [if_neg h'] at hx
      refine ⟨⟨by omega, by omega⟩, i + 1, [(0, 0)], ?_, ⟨rfl, by omega, hx⟩, by dsimp only; omega⟩
      exact ⟨⟨rfl, ⟨rfl, rfl⟩, rfl, rfl, trivial⟩, ⟨⟨rfl, trivial⟩, trivial⟩⟩
  · have hil : i = l.length := by have := df h; omega
    rw [hil, List.drop_length, idxB] at hx
    rw [hx] at hK
    exact ⟨.v (.int .i64 (-1)), [(0, .cells 3 [.v (.int .i64 m)])], 1, [(0, 0)], ⟨⟨rfl, trivial⟩, ⟨⟨rfl, trivial⟩, trivial⟩⟩, hK⟩
theorem contF_spec {m : Int} {l : List Edg} {a : Option Addr} {n c : Nat} {H : Hp} {K : SV → St → Hp → Prop} (ha : RL H a n c l)
    (hK : K (.v (.bool (decide (0 ≤ idxB (badE m) l 0)))) ⟨[], [(0, .cells 3 [.v (.int .i64 m)])], 1⟩ H) : DoesG Try.prog 82 [.v (.slice a n c), .fn 83 [.ptr 0 0]] [(0, .cells 3 [.v (.int .i64 m)])] 1 H K := by
  refine spec_ofG cx_ok cx_mix Try.func82 Try.call82 Try.ntmps82 Try.results82 rfl rfl ?_
  refine ⟨[0], rfl, indexF_spec ha ?_⟩
  exact ⟨.v (.bool (decide (0 ≤ idxB (badE m) l 0))), [(0, .cells 3 [.v (.int .i64 m)])], 1, [(0, 0)], ⟨⟨rfl, trivial⟩, ⟨⟨rfl, trivial⟩, trivial⟩⟩, hK⟩
/-- A number of nodes and a list of edges that Right takes. -/
def rightE (m : Int) (l : List Edg) : Bool := decide (1 ≤ m) && decide (m ≤ 256) && decide (l.length ≤ 1024) && !decide (0 ≤ idxB (badE m) l 0)
theorem right_spec {m : Int} {l : List Edg} {a : Option Addr} {n c : Nat} {H : Hp} {K : Value → Hp → Prop} (ha : RL H a n c l)
    (hK : K (.bool (rightE m l)) H) : Does Try.prog 43 [.int .i64 m, .slice a n c] H K := by
  have hn1 := ha.n_eq
  refine spec_of cx_ok cx_mix rfl Try.func43 Try.call43 Try.ntmps43 Try.results43 rfl rfl ?_
  refine ⟨fun h => ?_, fun h => ?_⟩
  · have h1 : ¬ m < 1 := df h
    refine ⟨fun h => ?_, fun h => ?_⟩
    · have h2 : ¬ m > 256 := df h
      refine ⟨fun h => ?_, fun h => ?_⟩
      · have h3 : ¬ l.length ≤ 1024 := by have := dt h; omega
        refine kbool hK ?_
        rw [rightE, decide_eq_false h3]; simp
      · have h3 : l.length ≤ 1024 := by have := df h; omega
        refine ⟨[0], rfl, contF_spec (m := m) ha ?_⟩
        refine kbool hK ?_
        rw [rightE, decide_eq_true h3, decide_eq_true (by omega : 1 ≤ m), decide_eq_true (by omega : m ≤ 256)]; rfl
    · have h2 : ¬ m ≤ 256 := by have := dt h; omega
      refine kbool hK ?_
      rw [rightE, decide_eq_false h2]; simp
  · have h1 : ¬ 1 ≤ m := by have := dt h; omega
    refine kbool hK ?_
    rw [rightE, decide_eq_false h1]; simp
end Go.Proofs
