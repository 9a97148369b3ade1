/- Part 'P4' of the proof: lemmas, each with its own conditions in its own statement. -/
import Derived.Test.YtjflpceoeofomaaP3
namespace Go.Proofs
open Go.Sy
set_option maxRecDepth 20000
abbrev nms (p : Prog) : List Bs8 := p.map (·.1.l)
def eN (p : Prog) (i : Nat) (t : Bs8) : List Edg := if 0 ≤ idxS t (nms p) 0 then [((i : Int), idxS t (nms p) 0)] else []
def eB (p : Prog) (i : Nat) (b : Block) : List Edg := (if b.2.2.1 = 1 ∨ b.2.2.1 = 2 then eN p i b.2.2.2.2.1.l else []) ++ (if b.2.2.1 = 2 then eN p i b.2.2.2.2.2.l else [])
def eAll (p : Prog) : List Block → Nat → List Edg
  | [], _ => []
  | b :: r, i => eB p i b ++ eAll p r (i + 1)
def edgesOf (p : Prog) : List Edg := eAll p p 0
theorem eAll_snoc (p : Prog) : ∀ (l : List Block) (x : Block) (i : Nat), eAll p (l ++ [x]) i = eAll p l i ++ eB p (i + l.length) x
  | [], x, i => by simp [eAll]
  | y :: r, x, i => by
    rw [List.cons_append, eAll, eAll, eAll_snoc p r x (i + 1), List.length_cons, show i + 1 + r.length = i + (r.length + 1) by omega, List.append_assoc]
theorem eAll_take {p : Prog} {i : Nat} (h : i < p.length) : eAll p (p.take (i + 1)) 0 = eAll p (p.take i) 0 ++ eB p i p[i] := by
  rw [List.take_add_one, List.getElem?_eq_getElem h, Option.toList_some, eAll_snoc, Nat.zero_add, List.length_take, Nat.min_eq_left (by omega)]
theorem eN_len (p : Prog) (i : Nat) (t : Bs8) : (eN p i t).length ≤ 1 := by unfold eN; split <;> simp
theorem eB_len (p : Prog) (i : Nat) (b : Block) : (eB p i b).length ≤ 2 := by
  have h1 := eN_len p i b.2.2.2.2.1.l
  have h2 := eN_len p i b.2.2.2.2.2.l
  unfold eB
  rw [List.length_append]
  split <;> split <;> simp <;> omega
theorem eAll_len (p : Prog) : ∀ (l : List Block) (i : Nat), (eAll p l i).length ≤ 2 * l.length
  | [], _ => by simp [eAll]
  | b :: r, i => by
    have h1 := eB_len p i b
    have h2 := eAll_len p r (i + 1)
    rw [eAll, List.length_append, List.length_cons]; omega
theorem eN_in {p : Prog} (hp : p.length ≤ 12) {i : Nat} (hi : i ≤ 12) {t : Bs8} : ∀ e ∈ eN p i t, inI e.1 ∧ inI e.2 := by
  intro e he
  unfold eN at he
  have hr := idxS_range t (nms p) 0 (by omega)
  rw [List.length_map] at hr
  split at he
  · simp only [List.mem_cons, List.not_mem_nil, or_false] at he
    subst he
    exact ⟨⟨by simp only; omega, by simp only; omega⟩, by simp only; omega, by simp only; omega⟩
  · simp at he
theorem eB_in {p : Prog} (hp : p.length ≤ 12) {i : Nat} (hi : i ≤ 12) {b : Block} : ∀ e ∈ eB p i b, inI e.1 ∧ inI e.2 := by
  intro e he
  unfold eB at he
  rcases List.mem_append.1 he with he | he
  · split at he
    · exact eN_in hp hi e he
    · simp at he
  · split at he
    · exact eN_in hp hi e he
    · simp at he
theorem eAll_in {p : Prog} (hp : p.length ≤ 12) : ∀ (l : List Block) (i : Nat), i + l.length ≤ 12 → ∀ e ∈ eAll p l i, inI e.1 ∧ inI e.2
  | [], _, _, e, he => by simp [eAll] at he
  | b :: r, i, h, e, he => by
    rw [List.length_cons] at h
    rw [eAll] at he
    rcases List.mem_append.1 he with he | he
    · exact eB_in hp (by omega) e he
    · exact eAll_in hp r (i + 1) (by omega) e he
abbrev cBlk (b : Block) (a2 : Option Addr) (n2 c2 : Nat) : List SV := [.v (.string (bs b.1.l)), .v (.slice a2 n2 c2), .v (.int .i64 b.2.2.1), .v (.string (bs b.2.2.2.1.1.l)), .v (.int .i64 b.2.2.2.1.2.1), .v (.int .i64 b.2.2.2.1.2.2), .v (.string (bs b.2.2.2.2.1.l)), .v (.string (bs b.2.2.2.2.2.l))]
theorem redges_spec {p : Prog} (hp : p.length ≤ 12) {a : Option Addr} {n c : Nat} {H : Hp} {K : Value → Hp → Prop} (ha : RL H a n c p)
   (hK : ∀ a1 n1 c1 H', Le H H' → RL H' a1 n1 c1 (gSort (edgesOf p)) → K (.slice a1 n1 c1) H') : Does Try.prog 19 [.agg #[.slice a n c]] H K := by
  have hn1 := ha.n_eq
  have hmx := ha.le
  refine spec_of cx_ok cx_mix rfl Try.func19 Try.call19 Try.ntmps19 Try.results19 rfl rfl ?_
  refine ⟨Nat, fun i => ⟨[(1, .ptr 0 0), (3, .own 1), (9, .v (.slice a n c)), (10, .v (.int .i64 n)), (11, .v (.int .i64 i))], [(0, .cells 24 [.v (.slice a n c)]), (1, .row 63 2 (eRows (eAll p (p.take i) 0)))], 2⟩,
    fun i H' => H' = H ∧ i ≤ p.length, fun i => p.length - i, ⟨0, [(0, 0)], ?_, rfl, by omega⟩, ?_⟩
  · exact ⟨⟨⟨rfl, rfl⟩, ⟨rfl, rfl, rfl⟩, rfl, rfl, rfl, trivial⟩, ⟨⟨rfl, trivial⟩, rfl, trivial⟩⟩
  rintro i H1 _ ⟨rfl, hi⟩
  refine ⟨fun h => ?_, fun h => ?_⟩
  · have hlt : i < p.length := by have := dt h; omega
    obtain ⟨ad, cs, q1, hh, r1⟩ := ha.elem (List.getElem?_eq_getElem hlt)
    obtain ⟨a2, n2, c2, rfl, hr2, hnm, htm⟩ := block_open r1
    have hst := eAll_take hlt
    have hlen := eAll_len p (p.take i) 0
    rw [List.length_take, Nat.min_eq_left (by omega)] at hlen
    have hel : (eRows (eAll p (p.take i) 0)).length = (eAll p (p.take i) 0).length := List.length_map _
    refine ⟨ad, ⟨by omega, by omega, q1⟩, ?_⟩
    refine ⟨_, hh, ?_⟩
    refine ⟨fun h => ?_, fun h => ?_⟩
    · have h1 : ¬ p[i].2.2.1 = 1 := df h
      refine ⟨fun h => ?_, fun h => ?_⟩
      · have h2 : p[i].2.2.1 = 2 := dt h
        refine block6_spec hp ha ?_
        refine ⟨fun h => ?_, fun h => ?_⟩
        · have hx : 0 ≤ idxS p[i].2.2.2.2.1.l (nms p) 0 := dt h
          refine ⟨⟨by show ((eRows (eAll p (p.take i) 0)).length + 1) * 16 ≤ _; omega, by show (eRows (eAll p (p.take i) 0)).length + 1 ≤ _; omega⟩, ?_⟩
          refine ⟨fun h => ?_, fun h => absurd h2 (df h)⟩
          refine block6_spec hp ha ?_
          refine ⟨fun h => ?_, fun h => ?_⟩
          · have hy : 0 ≤ idxS p[i].2.2.2.2.2.l (nms p) 0 := dt h
            refine ⟨⟨by show ((eRows (eAll p (p.take i) 0) ++ [[Value.int .i64 (i : Int), Value.int .i64 (idxS p[i].2.2.2.2.1.l (nms p) 0)]]).length + 1) * 16 ≤ _; rw [List.length_append, List.length_singleton]; omega, by show (eRows (eAll p (p.take i) 0) ++ [[Value.int .i64 (i : Int), Value.int .i64 (idxS p[i].2.2.2.2.1.l (nms p) 0)]]).length + 1 ≤ _; rw [List.length_append, List.length_singleton]; omega⟩, ?_⟩
            have hB : eB p i p[i] = [((i : Int), idxS p[i].2.2.2.2.1.l (nms p) 0), ((i : Int), idxS p[i].2.2.2.2.2.l (nms p) 0)] := by rw [eB, if_pos (.inr h2), if_pos h2, eN, eN, if_pos hx, if_pos hy]; rfl
            have erow : eRows (eAll p (p.take i) 0) ++ [[.int .i64 (i : Int), .int .i64 (idxS p[i].2.2.2.2.1.l (nms p) 0)]] ++ [[.int .i64 (i : Int), .int .i64 (idxS p[i].2.2.2.2.2.l (nms p) 0)]] = eRows (eAll p (p.take (i + 1)) 0) := by rw [hst, hB]; simp
            refine ⟨⟨by omega, by omega⟩, i + 1, [(0, 0), (1, 6)], ?_, ⟨rfl, by omega⟩, by dsimp only; omega⟩
            exact ⟨⟨⟨rfl, rfl⟩, rfl, rfl, rfl, rfl, trivial⟩, ⟨⟨rfl, trivial⟩, erow, trivial⟩⟩
          · have hy : ¬ 0 ≤ idxS p[i].2.2.2.2.2.l (nms p) 0 := df h
            have hB : eB p i p[i] = [((i : Int), idxS p[i].2.2.2.2.1.l (nms p) 0)] := by rw [eB, if_pos (.inr h2), if_pos h2, eN, eN, if_pos hx, if_neg hy]; rfl
            have erow : eRows (eAll p (p.take i) 0) ++ [[.int .i64 (i : Int), .int .i64 (idxS p[i].2.2.2.2.1.l (nms p) 0)]] = eRows (eAll p (p.take (i + 1)) 0) := by rw [hst, hB]; simp
            refine ⟨⟨by omega, by omega⟩, i + 1, [(0, 0), (1, 4)], ?_, ⟨rfl, by omega⟩, by dsimp only; omega⟩
            exact ⟨⟨⟨rfl, rfl⟩, rfl, rfl, rfl, rfl, trivial⟩, ⟨⟨rfl, trivial⟩, erow, trivial⟩⟩
        · have hx : ¬ 0 ≤ idxS p[i].2.2.2.2.1.l (nms p) 0 := df h
          refine ⟨fun h => ?_, fun h => absurd h2 (df h)⟩
          refine block6_spec hp ha ?_
          refine ⟨fun h => ?_, fun h => ?_⟩
          · have hy : 0 ≤ idxS p[i].2.2.2.2.2.l (nms p) 0 := dt h
            refine ⟨⟨by show ((eRows (eAll p (p.take i) 0)).length + 1) * 16 ≤ _; omega, by show (eRows (eAll p (p.take i) 0)).length + 1 ≤ _; omega⟩, ?_⟩
            have hB : eB p i p[i] = [((i : Int), idxS p[i].2.2.2.2.2.l (nms p) 0)] := by rw [eB, if_pos (.inr h2), if_pos h2, eN, eN, if_neg hx, if_pos hy]; rfl
            have erow : eRows (eAll p (p.take i) 0) ++ [[.int .i64 (i : Int), .int .i64 (idxS p[i].2.2.2.2.2.l (nms p) 0)]] = eRows (eAll p (p.take (i + 1)) 0) := by rw [hst, hB]; simp
            refine ⟨⟨by omega, by omega⟩, i + 1, [(0, 0), (1, 4)], ?_, ⟨rfl, by omega⟩, by dsimp only; omega⟩
            exact ⟨⟨⟨rfl, rfl⟩, rfl, rfl, rfl, rfl, trivial⟩, ⟨⟨rfl, trivial⟩, erow, trivial⟩⟩
          · have hy : ¬ 0 ≤ idxS p[i].2.2.2.2.2.l (nms p) 0 := df h
            have hB : eB p i p[i] = [] := by rw [eB, if_pos (.inr h2), if_pos h2, eN, eN, if_neg hx, if_neg hy]; rfl
            have erow : eRows (eAll p (p.take i) 0) = eRows (eAll p (p.take (i + 1)) 0) := by rw [hst, hB]; simp
            refine ⟨⟨by omega, by omega⟩, i + 1, [(0, 0), (1, 1)], ?_, ⟨rfl, by omega⟩, by dsimp only; omega⟩
            exact ⟨⟨⟨rfl, rfl⟩, rfl, rfl, rfl, rfl, trivial⟩, ⟨⟨rfl, trivial⟩, erow, trivial⟩⟩
      · have h2 : ¬ p[i].2.2.1 = 2 := df h
        refine ⟨fun h => absurd (dt h) h2, fun _ => ?_⟩
        have hB : eB p i p[i] = [] := by rw [eB, if_neg (fun h => h.elim h1 h2), if_neg h2]; rfl
        have erow : eRows (eAll p (p.take i) 0) = eRows (eAll p (p.take (i + 1)) 0) := by rw [hst, hB]; simp
        refine ⟨⟨by omega, by omega⟩, i + 1, [(0, 0), (1, 1)], ?_, ⟨rfl, by omega⟩, by dsimp only; omega⟩
        exact ⟨⟨⟨rfl, rfl⟩, rfl, rfl, rfl, rfl, trivial⟩, ⟨⟨rfl, trivial⟩, erow, trivial⟩⟩
    · have h1 : p[i].2.2.1 = 1 := dt h
      have h2 : ¬ p[i].2.2.1 = 2 := by omega
      refine block6_spec hp ha ?_
      refine ⟨fun h => ?_, fun h => ?_⟩
      · have hx : 0 ≤ idxS p[i].2.2.2.2.1.l (nms p) 0 := dt h
        refine ⟨⟨by show ((eRows (eAll p (p.take i) 0)).length + 1) * 16 ≤ _; omega, by show (eRows (eAll p (p.take i) 0)).length + 1 ≤ _; omega⟩, ?_⟩
        refine ⟨fun h => absurd (dt h) h2, fun _ => ?_⟩
        have hB : eB p i p[i] = [((i : Int), idxS p[i].2.2.2.2.1.l (nms p) 0)] := by rw [eB, if_pos (.inl h1), if_neg h2, eN, if_pos hx]; rfl
        have erow : eRows (eAll p (p.take i) 0) ++ [[.int .i64 (i : Int), .int .i64 (idxS p[i].2.2.2.2.1.l (nms p) 0)]] = eRows (eAll p (p.take (i + 1)) 0) := by rw [hst, hB]; simp
        refine ⟨⟨by omega, by omega⟩, i + 1, [(0, 0), (1, 4)], ?_, ⟨rfl, by omega⟩, by dsimp only; omega⟩
        exact ⟨⟨⟨rfl, rfl⟩, rfl, rfl, rfl, rfl, trivial⟩, ⟨⟨rfl, trivial⟩, erow, trivial⟩⟩
      · have hx : ¬ 0 ≤ idxS p[i].2.2.2.2.1.l (nms p) 0 := df h
        refine ⟨fun h => absurd (dt h) h2, fun _ => ?_⟩
        have hB : eB p i p[i] = [] := by rw [eB, if_pos (.inl h1), if_neg h2, eN, if_neg hx]; rfl
        have erow : eRows (eAll p (p.take i) 0) = eRows (eAll p (p.take (i + 1)) 0) := by rw [hst, hB]; simp
        refine ⟨⟨by omega, by omega⟩, i + 1, [(0, 0), (1, 1)], ?_, ⟨rfl, by omega⟩, by dsimp only; omega⟩
        exact ⟨⟨⟨rfl, rfl⟩, rfl, rfl, rfl, rfl, trivial⟩, ⟨⟨rfl, trivial⟩, erow, trivial⟩⟩
  · have hil : i = p.length := by have := df h; omega
    intro x H2 hle2 hx
    rw [hil, List.take_length] at hx
    obtain ⟨a1, n1, c1, rfl, hr⟩ := rE_all hx (eAll_in hp p 0 (by omega))
    refine refSorted_spec (by have := eAll_len p p 0; omega) hr ?_
    intro a3 n3 c3 H3 hle3 hr3
    exact hK _ _ _ _ (hle2.trans hle3) hr3
end Go.Proofs
