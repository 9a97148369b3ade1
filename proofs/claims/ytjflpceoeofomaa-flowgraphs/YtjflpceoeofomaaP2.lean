/- Part 'P2' of the proof: lemmas, each with its own conditions in its own statement. -/
import Derived.Test.YtjflpceoeofomaaP1
import Derived.Test.YtjflpceoeofomaaF2
namespace Go.Proofs
open Go.Sy
set_option maxRecDepth 20000
theorem dec_len {α : Type} [DecidableEq α] {l m : List α} (h : l.length ≠ m.length) : decide (l = m) = false := decide_eq_false fun e => h (by rw [e])
theorem same_spec {l m : List Edg} {a1 a2 : Option Addr} {n1 c1 n2 c2 : Nat} {H : Hp} {K : Value → Hp → Prop} (h1 : RL H a1 n1 c1 l) (h2 : RL H a2 n2 c2 m) (hK : K (.bool (decide (l = m))) H) : Does Try.prog 17 [.slice a1 n1 c1, .slice a2 n2 c2] H K := by
  have e1 := h1.n_eq
  have e2 := h2.n_eq
  have b1 := h1.le
  have b2 := h2.le
  refine spec_of cx_ok cx_mix rfl Try.func17 Try.call17 Try.ntmps17 Try.results17 rfl rfl ?_
  refine ⟨fun h => ?_, fun h => ?_⟩
  · have hne : l.length ≠ m.length := by have := nt h; omega
    rw [dec_len hne] at hK
    exact hK
  have hlen : l.length = m.length := by have := nf h; omega
  refine ⟨Nat, fun i => ⟨[(0, .v (.slice a1 n1 c1)), (1, .v (.slice a2 n2 c2)), (12, .v (.int .i64 n1)), (13, .v (.int .i64 i))], [], 0⟩, fun i H' => H' = H ∧ i ≤ l.length ∧ l.take i = m.take i, fun i => l.length - i, ⟨0, [], ?_, rfl, by omega, by simp⟩, ?_⟩
  · exact ⟨⟨rfl, rfl, rfl, rfl, trivial⟩, trivial⟩
  rintro i H1 _ ⟨rfl, hi, ht⟩
  refine ⟨fun h => ?_, fun h => ?_⟩
  · have hlt : i < l.length := by have := dt h; omega
    have hlt2 : i < m.length := by omega
    refine ⟨some ([], [0, 1, 2, 3, 4, 5, 6, 7, 8]), by kernel_rfl, ?_⟩
    obtain ⟨ad, cs, q1, hh, r1⟩ := h1.elem (List.getElem?_eq_getElem hlt)
    obtain ⟨rfl, -⟩ := edge_open r1
    obtain ⟨ad2, cs2, q2, hh2, r2⟩ := h2.elem (List.getElem?_eq_getElem hlt2)
    obtain ⟨rfl, -⟩ := edge_open r2
    refine ⟨ad, ⟨by omega, by omega, q1⟩, ?_⟩
    refine ⟨_, hh, ?_⟩
    refine ⟨ad2, ⟨by omega, by omega, q2⟩, ?_⟩
    refine ⟨_, hh2, ?_⟩
    refine ⟨fun h => ?_, fun h => ?_⟩
    · have hne : ¬ l = m := fun e => by subst e; simp at h
      rw [decide_eq_false hne] at hK
      exact hK
    · have he : l[i] = m[i] := by
        rw [Prod.ext_iff]
        simpa using h
      refine ⟨⟨by omega, by omega⟩, i + 1, [], ?_, ⟨rfl, by omega, ?_⟩, by dsimp only; omega⟩
      · exact ⟨⟨rfl, rfl, rfl, rfl, trivial⟩, trivial⟩
      · rw [List.take_add_one, List.take_add_one, ht, List.getElem?_eq_getElem hlt, List.getElem?_eq_getElem hlt2, he]
  · have hil : i = l.length := by have := df h; omega
    subst hil
    rw [List.take_length, hlen, List.take_length] at ht
    rw [decide_eq_true ht] at hK
    exact hK
theorem ints_spec {l m : List Int} {a1 a2 : Option Addr} {n1 c1 n2 c2 : Nat} {H : Hp} {K : Value → Hp → Prop} (h1 : RL H a1 n1 c1 l) (h2 : RL H a2 n2 c2 m) (hK : K (.bool (decide (l = m))) H) : Does Try.prog 20 [.slice a1 n1 c1, .slice a2 n2 c2] H K := by
  have e1 := h1.n_eq
  have e2 := h2.n_eq
  have b1 := h1.le
  have b2 := h2.le
  refine spec_of cx_ok cx_mix rfl Try.func20 Try.call20 Try.ntmps20 Try.results20 rfl rfl ?_
  refine ⟨fun h => ?_, fun h => ?_⟩
  · have hne : l.length ≠ m.length := by have := nt h; omega
    rw [dec_len hne] at hK
    exact hK
  have hlen : l.length = m.length := by have := nf h; omega
  refine ⟨Nat, fun i => ⟨[(0, .v (.slice a1 n1 c1)), (1, .v (.slice a2 n2 c2)), (12, .v (.int .i64 n1)), (13, .v (.int .i64 i))], [], 0⟩, fun i H' => H' = H ∧ i ≤ l.length ∧ l.take i = m.take i, fun i => l.length - i, ⟨0, [], ?_, rfl, by omega, by simp⟩, ?_⟩
  · exact ⟨⟨rfl, rfl, rfl, rfl, trivial⟩, trivial⟩
  rintro i H1 _ ⟨rfl, hi, ht⟩
  refine ⟨fun h => ?_, fun h => ?_⟩
  · have hlt : i < l.length := by have := dt h; omega
    have hlt2 : i < m.length := by omega
    refine ⟨some ([], [0, 1, 2, 3, 4, 5, 6, 7, 8]), by kernel_rfl, ?_⟩
    obtain ⟨ad, cs, q1, hh, r1⟩ := h1.elem (List.getElem?_eq_getElem hlt)
    obtain ⟨rfl, -⟩ := r1
    obtain ⟨ad2, cs2, q2, hh2, r2⟩ := h2.elem (List.getElem?_eq_getElem hlt2)
    obtain ⟨rfl, -⟩ := r2
    refine ⟨ad, ⟨by omega, by omega, q1⟩, ?_⟩
    refine ⟨_, hh, ?_⟩
    refine ⟨ad2, ⟨by omega, by omega, q2⟩, ?_⟩
    refine ⟨_, hh2, ?_⟩
    refine ⟨fun h => ?_, fun h => ?_⟩
    · have hne : ¬ l = m := fun e => by subst e; simp at h
      rw [decide_eq_false hne] at hK
      exact hK
    · have he : l[i] = m[i] := by
        simpa using h
      refine ⟨⟨by omega, by omega⟩, i + 1, [], ?_, ⟨rfl, by omega, ?_⟩, by dsimp only; omega⟩
      · exact ⟨⟨rfl, rfl, rfl, rfl, trivial⟩, trivial⟩
      · rw [List.take_add_one, List.take_add_one, ht, List.getElem?_eq_getElem hlt, List.getElem?_eq_getElem hlt2, he]
  · have hil : i = l.length := by have := df h; omega
    subst hil
    rw [List.take_length, hlen, List.take_length] at ht
    rw [decide_eq_true ht] at hK
    exact hK
theorem node_spec {x y : Int} {H : Hp} {K : Value → Hp → Prop} (hK : K (.bool (decide (0 ≤ y ∧ y < x))) H) : Does Try.prog 73 [.int .i64 x, .int .i64 y] H K := by
  refine spec_of cx_ok cx_mix rfl Try.func73 Try.call73 Try.ntmps73 Try.results73 rfl rfl ?_
  refine ⟨fun h => ?_, fun h => ?_⟩
  · have h1 : 0 ≤ y := dt h
    refine kbool hK ?_
    simp [h1]
  · have h1 : ¬ 0 ≤ y := df h
    refine kbool hK ?_
    simp [h1]
/-- The places of what answers p. -/
def idxP {α : Type} (p : α → Bool) : List α → Nat → List Int
  | [], _ => []
  | x :: r, i => if p x then (i : Int) :: idxP p r (i + 1) else idxP p r (i + 1)
theorem idxP_snoc {α : Type} (p : α → Bool) : ∀ (l : List α) (x : α) (i : Nat), idxP p (l ++ [x]) i = idxP p l i ++ (if p x then [((i + l.length : Nat) : Int)] else [])
  | [], x, i => by simp only [List.nil_append, idxP, List.length_nil, Nat.add_zero]
  | y :: r, x, i => by
    rw [List.cons_append, idxP, idxP, idxP_snoc p r x (i + 1), List.length_cons, show i + 1 + r.length = i + (r.length + 1) by omega]
    cases p y <;> rfl
theorem idxP_len {α : Type} (p : α → Bool) : ∀ (l : List α) (i : Nat), (idxP p l i).length ≤ l.length
  | [], i => Nat.le_refl _
  | y :: r, i => by
    have := idxP_len p r (i + 1)
    rw [idxP, List.length_cons]
    split
    · rw [List.length_cons]; omega
    · omega
theorem idxP_take {α : Type} (p : α → Bool) {l : List α} {i : Nat} (h : i < l.length) : idxP p (l.take (i + 1)) 0 = idxP p (l.take i) 0 ++ (if p l[i] then [(i : Int)] else []) := by
  rw [List.take_add_one, List.getElem?_eq_getElem h, Option.toList_some, idxP_snoc, Nat.zero_add, List.length_take, Nat.min_eq_left (by omega)]
def isExit (b : Block) : Bool := decide (b.2.2.1 = 3)
def exitsOf (p : Prog) : List Int := idxP isExit p 0
theorem rI_all {x : Value} {H : Hp} {l : List Int} (h : RowAt H x 1 (iRows l)) (hl : ∀ n ∈ l, inI n) : ∃ a n c, x = .slice a n c ∧ RL H a n c l := RL.of_row (α := Int) h (rc_iRows hl)
theorem idxP_in {α : Type} (p : α → Bool) : ∀ (l : List α) (i : Nat), i + l.length ≤ 9223372036854775807 → ∀ n ∈ idxP p l i, inI n
  | [], _, _ => by simp [idxP]
  | x :: r, i, h => by
    have ih := idxP_in p r (i + 1) (by rw [List.length_cons] at h; omega)
    rw [List.length_cons] at h
    rw [idxP]
    split
    · intro n hn
      rcases List.mem_cons.1 hn with rfl | hn
      · exact ⟨by omega, by omega⟩
      · exact ih n hn
    · exact ih
theorem exits_spec {p : Prog} (hp : p.length ≤ 12) {a : Option Addr} {n c : Nat} {H : Hp} {K : Value → Hp → Prop} (ha : RL H a n c p)
   (hK : ∀ a1 n1 c1 H', Le H H' → RL H' a1 n1 c1 (exitsOf p) → K (.slice a1 n1 c1) H') : Does Try.prog 21 [.agg #[.slice a n c]] H K := by
  have hn1 := ha.n_eq
  have hmx := ha.le
  refine spec_of cx_ok cx_mix rfl Try.func21 Try.call21 Try.ntmps21 Try.results21 rfl rfl ?_
  refine ⟨Nat, fun i => ⟨[(3, .own 0), (7, .v (.slice a n c)), (8, .v (.int .i64 n)), (9, .v (.int .i64 i))], [(0, .row 3 1 (iRows (idxP isExit (p.take i) 0)))], 1⟩,
    fun i H' => H' = H ∧ i ≤ p.length, fun i => p.length - i, ⟨0, [], ?_, rfl, by omega⟩, ?_⟩
  · exact ⟨⟨⟨rfl, rfl, rfl⟩, rfl, rfl, rfl, trivial⟩, ⟨rfl, trivial⟩⟩
  rintro i H1 _ ⟨rfl, hi⟩
  refine ⟨fun h => ?_, fun h => ?_⟩
  · have hlt : i < p.length := by have := dt h; omega
    obtain ⟨ad, cs, q1, hh, r1⟩ := ha.elem (List.getElem?_eq_getElem hlt)
    obtain ⟨a2, n2, c2, rfl, hr2, hnm, htm⟩ := block_open r1
    have hst := idxP_take isExit hlt
    have hlen := idxP_len isExit (p.take i) 0
    rw [List.length_take, Nat.min_eq_left (by omega)] at hlen
    have hel : (iRows (idxP isExit (p.take i) 0)).length = (idxP isExit (p.take i) 0).length := List.length_map _
    refine ⟨ad, ⟨by omega, by omega, q1⟩, ?_⟩
    refine ⟨_, hh, ?_⟩
    refine ⟨fun h => ?_, fun h => ?_⟩
    · have he : isExit p[i] = true := h
      rw [he, if_pos rfl] at hst
      refine ⟨⟨by show ((iRows (idxP isExit (p.take i) 0)).length + 1) * 8 ≤ _; omega, by show (iRows (idxP isExit (p.take i) 0)).length + 1 ≤ _; omega⟩, ?_⟩
      have erow : iRows (idxP isExit (p.take i) 0) ++ [[.int .i64 (i : Int)]] = iRows (idxP isExit (p.take (i + 1)) 0) := by rw [hst]; simp
      refine ⟨⟨by omega, by omega⟩, i + 1, [(0, 3)], ?_, ⟨rfl, by omega⟩, by dsimp only; omega⟩
      exact ⟨⟨rfl, rfl, rfl, rfl, trivial⟩, ⟨erow, trivial⟩⟩
    · have he : isExit p[i] = false := h
      rw [he] at hst
      have erow : iRows (idxP isExit (p.take i) 0) = iRows (idxP isExit (p.take (i + 1)) 0) := by rw [hst]; simp
      refine ⟨⟨by omega, by omega⟩, i + 1, [(0, 0)], ?_, ⟨rfl, by omega⟩, by dsimp only; omega⟩
      exact ⟨⟨rfl, rfl, rfl, rfl, trivial⟩, ⟨erow, trivial⟩⟩
  · have hil : i = p.length := by have := df h; omega
    intro x H2 hle2 hx
    rw [hil, List.take_length] at hx
    obtain ⟨a1, n1, c1, rfl, hr⟩ := rI_all hx (idxP_in _ _ _ (by omega))
    exact hK _ _ _ _ hle2 hr
def edgeEq (l m : List Edg) : Bool := decide (l = m)
theorem block_spec {p : Prog} (hp : p.length ≤ 12) {t : Bs8} {a : Option Addr} {n c : Nat} {H : Hp} {K : Value → Hp → Prop} (ha : RL H a n c p)
   (hK : ∀ H', Le H H' → K (.tuple #[.int .i64 (max (idxS t (p.map (·.1.l)) 0) 0), .bool (decide (0 ≤ idxS t (p.map (·.1.l)) 0))]) H') : Does Try.prog 64 [.agg #[.slice a n c], .string (bs t)] H K := by
  have hn1 := ha.n_eq
  have hmx := ha.le
  refine spec_of cx_ok cx_mix rfl Try.func64 Try.call64 Try.ntmps64 Try.results64 rfl rfl ?_
  refine ⟨Nat, fun i => ⟨[(1, .v (.string (bs t))), (6, .own 0), (10, .v (.slice a n c)), (11, .v (.int .i64 n)), (12, .v (.int .i64 i))], [(0, .row 9 1 (sRows ((p.take i).map (·.1.l))))], 1⟩,
    fun i H' => H' = H ∧ i ≤ p.length, fun i => p.length - i, ⟨0, [], ?_, rfl, by omega⟩, ?_⟩
  · exact ⟨⟨rfl, ⟨rfl, rfl, rfl⟩, rfl, rfl, rfl, trivial⟩, ⟨rfl, trivial⟩⟩
  rintro i H1 _ ⟨rfl, hi⟩
  refine ⟨fun h => ?_, fun h => ?_⟩
  · have hlt : i < p.length := by have := dt h; omega
    obtain ⟨ad, cs, q1, hh, r1⟩ := ha.elem (List.getElem?_eq_getElem hlt)
    obtain ⟨a2, n2, c2, rfl, hr2, hnm, htm⟩ := block_open r1
    have hel : (sRows ((p.take i).map (·.1.l))).length = i := by simp; omega
    refine ⟨ad, ⟨by omega, by omega, q1⟩, ?_⟩
    refine ⟨_, hh, ?_⟩
    refine ⟨⟨by show ((sRows ((p.take i).map (·.1.l))).length + 1) * 16 ≤ _; omega, by show (sRows ((p.take i).map (·.1.l))).length + 1 ≤ _; omega⟩, ?_⟩
    have erow : sRows ((p.take i).map (·.1.l)) ++ [[.string (bs p[i].1.l)]] = sRows ((p.take (i + 1)).map (·.1.l)) := by
      rw [List.take_add_one, List.getElem?_eq_getElem hlt, Option.toList_some, List.map_append]
      exact (List.map_append (f := fun s => [Value.string (bs s)]) (l₁ := (p.take i).map (·.1.l)) (l₂ := [p[i].1.l])).symm
    refine ⟨⟨by omega, by omega⟩, i + 1, [(0, 3)], ?_, ⟨rfl, by omega⟩, by dsimp only; omega⟩
    exact ⟨⟨rfl, rfl, rfl, rfl, rfl, trivial⟩, ⟨erow, trivial⟩⟩
  · have hil : i = p.length := by have := df h; omega
    intro x H2 hle2 hx
    rw [hil, List.take_length] at hx
    have hrc : RC (α := Str) H2 (sRows (p.map (·.1.l))) (ens (p.map (·.1.l))) := rc_sRows (fun s hs => by
      obtain ⟨b, hb, rfl⟩ := List.mem_map.1 hs
      obtain ⟨cs, hr⟩ := rl_mem ha hb
      obtain ⟨_, _, _, _, _, h5, _⟩ := block_open hr
      exact h5)
    obtain ⟨a1, n1, c1, rfl, hr⟩ := RL.of_row (α := Str) hx hrc
    refine place_spec hr ?_
    exact hK _ (Le.refl H1)
theorem idxS_map {p : Prog} {t : Bs8} {i : Nat} (h : i < p.length) : idxS t ((p.map (·.1.l)).drop i) i = if p[i].1.l = t then (i : Int) else idxS t ((p.map (·.1.l)).drop (i + 1)) (i + 1 : Nat) := by
  have h2 : i < (p.map (·.1.l)).length := by rw [List.length_map]; exact h
  rw [idxS_step h2, List.getElem_map]
theorem block6_spec {p : Prog} (hp : p.length ≤ 12) {t : Bs8} {a : Option Addr} {n c : Nat} {H : Hp} {K : Value → Hp → Prop} (ha : RL H a n c p)
   (hK : K (.int .i64 (idxS t (p.map (·.1.l)) 0)) H) : Does Try.prog 65 [.agg #[.slice a n c], .string (bs t)] H K := by
  have hn1 := ha.n_eq
  have hmx := ha.le
  refine spec_of cx_ok cx_mix rfl Try.func65 Try.call65 Try.ntmps65 Try.results65 rfl rfl ?_
  refine ⟨Nat, fun i => ⟨[(1, .v (.string (bs t))), (8, .v (.slice a n c)), (9, .v (.int .i64 n)), (10, .v (.int .i64 i))], [], 0⟩,
    fun i H' => H' = H ∧ i ≤ p.length ∧ idxS t (p.map (·.1.l)) 0 = idxS t ((p.map (·.1.l)).drop i) i, fun i => p.length - i, ⟨0, [], ?_, rfl, by omega, rfl⟩, ?_⟩
  · exact ⟨⟨rfl, rfl, rfl, rfl, trivial⟩, trivial⟩
  rintro i H1 _ ⟨rfl, hi, hx⟩
  refine ⟨fun h => ?_, fun h => ?_⟩
  · have hlt : i < p.length := by have := dt h; omega
    obtain ⟨ad, cs, q1, hh, r1⟩ := ha.elem (List.getElem?_eq_getElem hlt)
    obtain ⟨a2, n2, c2, rfl, hr2, hnm, htm⟩ := block_open r1
    rw [idxS_map hlt] at hx
    refine ⟨ad, ⟨by omega, by omega, q1⟩, ?_⟩
    refine ⟨_, hh, ?_⟩
    refine ⟨fun h => ?_, fun h => ?_⟩
    · have he : p[i].1.l = t := dt h
      rw [if_pos he] at hx
      rw [hx] at hK
      exact hK
    · have he : ¬ p[i].1.l = t := df h
      rw [if_neg he] at hx
      refine ⟨⟨by omega, by omega⟩, i + 1, [], ?_, ⟨rfl, by omega, hx⟩, by dsimp only; omega⟩
      exact ⟨⟨rfl, rfl, rfl, rfl, trivial⟩, trivial⟩
  · have hil : i = p.length := by have := df h; omega
    rw [hil, show (p.map (·.1.l)).drop p.length = [] by rw [← List.length_map (·.1.l), List.drop_length], idxS] at hx
    rw [hx] at hK
    exact hK
end Go.Proofs
