/- Part 'M28' of the proof (Q1, Q2, Q3, Q4, Q5, Q6, R1, R2, R3): lemmas, each with its own conditions in its own statement. -/
import Derived.Test.YtheokcjommfopaaGreatDoorM19
import Derived.Test.YtheokcjommfopaaGreatDoorM23
import Derived.Test.YtheokcjommfopaaGreatDoorM26
section
namespace Go.Proofs
open Go.Sy
set_option maxRecDepth 20000
def nodeI (m x : Int) : Bool := decide (0 ≤ x ∧ x < m)
def goesE (m x : Int) (e : Edg) : Bool := decide (e.1 = x) && nodeI m x && nodeI m e.2
def nxt (m x : Int) (l : List Edg) : List Int := (l.filter (goesE m x)).map (·.2)
theorem nxt_mem {m x : Int} {l : List Edg} {y : Int} : y ∈ nxt m x l ↔ (x, y) ∈ l ∧ nodeI m x = true ∧ nodeI m y = true := by
  simp only [nxt, List.mem_map, List.mem_filter, goesE, Bool.and_eq_true, decide_eq_true_eq]
  constructor
  · rintro ⟨⟨a, b⟩, ⟨h1, ⟨rfl, h2⟩, h3⟩, rfl⟩; exact ⟨h1, h2, h3⟩
  · rintro ⟨h1, h2, h3⟩; exact ⟨(x, y), ⟨h1, ⟨rfl, h2⟩, h3⟩, rfl⟩
end Go.Proofs
end
section
namespace Go.Proofs
open Go.Sy
set_option maxRecDepth 20000
abbrev swp (e : Edg) : Edg := (e.2, e.1)
abbrev revL (l : List Edg) : List Edg := l.map swp
theorem revL_snoc (m : List Edg) (x : Edg) : revL (m ++ [x]) = revL m ++ [swp x] := List.map_append
theorem reverse_spec {l : List Edg} (hl : l.length ≤ 1000000) {a : Option Addr} {n c : Nat} {H : Hp} {K : Value → Hp → Prop} (ha : RL H a n c l)
    (hK : ∀ a1 n1 c1 H', Le H H' → RL H' a1 n1 c1 (gSort (revL l)) → K (.slice a1 n1 c1) H') : Does Tryz.prog 96 [.slice a n c] H K := by
  have hn1 := ha.n_eq
  refine spec_of cx_ok cx_mix rfl Tryz.func96 Tryz.call96 Tryz.ntmps96 Tryz.results96 rfl rfl ?_
  refine ⟨Nat, fun i => ⟨[(3, .own 0), (6, .v (.slice a n c)), (7, .v (.int .i64 n)), (8, .v (.int .i64 i))], [(0, .row 172 2 (eRows (revL (l.take i))))], 1⟩,
    fun i H' => H' = H ∧ i ≤ l.length, fun i => l.length - i, ⟨0, [], ?_, rfl, by omega⟩, ?_⟩
  · exact ⟨⟨⟨rfl, rfl, rfl⟩, rfl, rfl, rfl, trivial⟩, ⟨rfl, trivial⟩⟩
  rintro i H1 _ ⟨rfl, hi⟩
  refine ⟨fun h => ?_, fun h => ?_⟩
  · have hlt : i < l.length := by have := dt h; omega
    obtain ⟨ad, cs, q1, hh, r1⟩ := ha.elem (List.getElem?_eq_getElem hlt)
    obtain ⟨rfl, hr1, hr2⟩ := edge_open r1
    have hel : (eRows (revL (l.take i))).length = i := by rw [List.length_map, List.length_map, List.length_take]; omega
    refine ⟨ad, ⟨by omega, by omega, q1⟩, ?_⟩
    refine ⟨_, hh, ?_⟩
    refine ⟨⟨by show ((eRows (revL (l.take i))).length + 1) * 16 ≤ _; omega, by show (eRows (revL (l.take i))).length + 1 ≤ _; omega⟩, ?_⟩
    have erow : eRows (revL (l.take i)) ++ [[.int .i64 l[i].2, .int .i64 l[i].1]] = eRows (revL (l.take (i + 1))) := by rw [List.take_add_one, List.getElem?_eq_getElem hlt, Option.toList_some, revL_snoc]; exact eRows_snoc (revL (l.take i)) (swp l[i])
    refine ⟨⟨by omega, by omega⟩, i + 1, [(0, 3)], ?_, ⟨rfl, by omega⟩, by dsimp only; omega⟩
    exact ⟨⟨rfl, rfl, rfl, rfl, trivial⟩, ⟨erow, trivial⟩⟩
  · have hil : i = l.length := by have := df h; omega
    intro x H2 hle2 hx
    rw [hil, List.take_length] at hx
    obtain ⟨a1, n1, c1, rfl, hr⟩ := rE_all hx (fun e he => by
      obtain ⟨e', he', rfl⟩ := List.mem_map.1 he
      exact ⟨(RLe_all ha e' he').2, (RLe_all ha e' he').1⟩)
    refine sorted_spec (by rw [List.length_map]; omega) hr ?_
    intro a3 n3 c3 H3 hle3 hr3
    exact hK _ _ _ _ (hle2.trans hle3) hr3
end Go.Proofs
end
section
namespace Go.Proofs
open Go.Sy
set_option maxRecDepth 20000
end Go.Proofs
end
section
namespace Go.Proofs
open Go.Sy
structure IsReach (m : Int) (l : List Edg) (f R : List Int) : Prop where
  from' : ∀ x ∈ f, nodeI m x = true → x ∈ R
  closed : ∀ x ∈ R, ∀ y ∈ nxt m x l, y ∈ R
  least : ∀ S : Int → Prop, (∀ x ∈ f, nodeI m x = true → S x) → (∀ x, S x → ∀ y ∈ nxt m x l, S y) → ∀ x ∈ R, S x
theorem IsReach.mem {m : Int} {l : List Edg} {f R R' : List Int} (h : IsReach m l f R) (h' : IsReach m l f R') (x : Int) : x ∈ R ↔ x ∈ R' :=
  ⟨h.least (· ∈ R') h'.from' h'.closed x, h'.least (· ∈ R) h.from' h.closed x⟩
theorem IsReach.node {m : Int} {l : List Edg} {f R : List Int} (h : IsReach m l f R) : ∀ x ∈ R, nodeI m x = true :=
  h.least (fun x => nodeI m x = true) (fun _ _ h => h) (fun _ _ _ hy => (nxt_mem.1 hy).2.2)
theorem IsReach.again {m : Int} {l : List Edg} {f R R' : List Int} (h : IsReach m l f R) (h' : IsReach m l R R') (x : Int) : x ∈ R' ↔ x ∈ R :=
  ⟨h'.least (· ∈ R) (fun _ hx _ => hx) h.closed x, fun hx => h'.from' x hx (h.node x hx)⟩
end Go.Proofs
end
section
namespace Go.Proofs
open Go.Sy
set_option maxRecDepth 20000
end Go.Proofs
end
section
namespace Go.Proofs
open Go.Sy
set_option maxRecDepth 20000
end Go.Proofs
end
section
namespace Go.Proofs
open Go.Sy
set_option maxRecDepth 20000
theorem room {n k : Nat} (h : n ≤ 1000000000000 := by omega) (hk : k ≤ 64 := by decide) : (n + 1) * k ≤ 140737488355328 ∧ n + 1 ≤ 9223372036854775807 := by
  have := Nat.mul_le_mul_left (n + 1) hk
  omega
end Go.Proofs
end
section
namespace Go.Proofs
open Go.Sy
def bget (M : List Bool) (x : Int) : Bool := M[x.toNat]?.getD false
def relax (m : Int) (M : List Bool) (e : Edg) : List Bool := if nodeI m e.1 && nodeI m e.2 && bget M e.1 then M.set e.2.toNat true else M
def round (m : Int) (l : List Edg) (M : List Bool) : List Bool := l.foldl (relax m) M
def LeM (M M' : List Bool) : Prop := M.length = M'.length ∧ ∀ i : Nat, M[i]? = some true → M'[i]? = some true
theorem LeM.refl (M : List Bool) : LeM M M := ⟨rfl, fun _ h => h⟩
theorem LeM.trans {A B C : List Bool} (h : LeM A B) (h' : LeM B C) : LeM A C := ⟨h.1.trans h'.1, fun i hi => h'.2 i (h.2 i hi)⟩
theorem bget_true {M : List Bool} {x : Int} : bget M x = true ↔ M[x.toNat]? = some true := by
  rw [bget]
  cases M[x.toNat]? with
  | none => simp
  | some b => cases b <;> simp
theorem LeM.get {M M' : List Bool} (h : LeM M M') {x : Int} (hx : bget M x = true) : bget M' x = true := bget_true.2 (h.2 _ (bget_true.1 hx))
theorem LeM.set (M : List Bool) (k : Nat) : LeM M (M.set k true) := by
  refine ⟨(List.length_set).symm, fun i hi => ?_⟩
  rw [List.getElem?_set]
  split
  · rename_i e
    subst e
    rw [if_pos (List.getElem?_eq_some_iff.1 hi).1]
  · exact hi
def rounds (m : Int) (l : List Edg) (M : List Bool) : Nat → List Bool
  | 0 => M
  | k + 1 => round m l (rounds m l M k)
def mark (m : Int) (M : List Bool) (x : Int) : List Bool := if nodeI m x then M.set x.toNat true else M
def marks (m : Int) (f : List Int) (M : List Bool) : List Bool := f.foldl (mark m) M
def told (M : List Bool) (k : Nat) : List Int := ((List.range k).filter fun (j : Nat) => bget M (j : Int)).map fun (j : Nat) => (j : Int)
end Go.Proofs
end
section
namespace Go.Proofs
open Go.Sy
set_option maxRecDepth 20000
set_option maxHeartbeats 4000000
end Go.Proofs
end
