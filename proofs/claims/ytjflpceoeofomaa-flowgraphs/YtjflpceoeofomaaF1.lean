/- Part 'F1' of the proof: lemmas, each with its own conditions in its own statement. -/
import Derived.Test.YtjflpceoeofomaaTt
import Derived.Test.YtjflpceoeofomaaPg
import Derived.Test.YtjflpceoeofomaaO0
namespace Go.Proofs
open Go.Sy
set_option maxRecDepth 20000
def cmpI (x y : Int) : Int := if x < y then -1 else if y < x then 1 else 0
theorem nanI_spec {x : Int} {H : Hp} {K : Value → Hp → Prop} (hK : K (.bool false) H) : Does Try.prog 103 [.int .i64 x] H K := by
  refine spec_of cx_ok cx_mix rfl Try.func103 Try.call103 Try.ntmps103 Try.results103 rfl rfl ?_
  exact kbool hK (by simp)
theorem cmp_spec {x y : Int} {H : Hp} {K : Value → Hp → Prop} (hK : K (.int .i64 (cmpI x y)) H) : Does Try.prog 78 [.int .i64 x, .int .i64 y] H K := by
  refine spec_of cx_ok cx_mix rfl Try.func78 Try.call78 Try.ntmps78 Try.results78 rfl rfl ?_
  refine nanI_spec ?_
  refine nanI_spec ?_
  refine ⟨(fun h => by cases h), fun _ => ?_⟩
  refine ⟨(fun h => by cases h), fun _ => ?_⟩
  refine ⟨fun h => ?_, fun h => ?_⟩
  · rw [cmpI, if_pos (dt h)] at hK
    exact hK
  · rw [cmpI, if_neg (df h)] at hK
    refine ⟨fun h => ?_, fun h => ?_⟩
    · rw [if_pos (dt h)] at hK
      exact hK
    · rw [if_neg (df h)] at hK
      exact hK
def orI (a b : Int) : Int := if a ≠ 0 then a else b
theorem or_spec {x y : Int} {a : Option Addr} {n c : Nat} {H : Hp} {K : Value → Hp → Prop} (ha : RL H a n c [x, y]) (hK : K (.int .i64 (orI x y)) H) : Does Try.prog 77 [.slice a n c] H K := by
  have hn1 : n = 2 := ha.n_eq
  refine spec_of cx_ok cx_mix rfl Try.func77 Try.call77 Try.ntmps77 Try.results77 rfl rfl ?_
  refine ⟨Nat, fun i => ⟨[(3, .v (.int .i64 0)), (6, .v (.slice a n c)), (7, .v (.int .i64 n)), (8, .v (.int .i64 i))], [], 0⟩, fun i H' => H' = H ∧ i ≤ 2 ∧ (0 < i → x = 0) ∧ (1 < i → y = 0), fun i => 2 - i, ⟨0, [], ?_, rfl, by omega, by omega, by omega⟩, ?_⟩
  · exact ⟨⟨rfl, rfl, rfl, rfl, trivial⟩, trivial⟩
  rintro i H1 _ ⟨rfl, hi, h0, h1⟩
  refine ⟨fun h => ?_, fun h => ?_⟩
  · have hlt : i < 2 := by have := dt h; omega
    have hx := List.getElem?_eq_getElem (l := [x, y]) (i := i) hlt
    obtain ⟨ad, cs, e1, hh, r1⟩ := ha.elem hx
    obtain ⟨rfl, -⟩ := r1
    refine ⟨ad, ⟨by omega, by omega, e1⟩, ?_⟩
    refine ⟨_, hh, ?_⟩
    refine ⟨fun h => ?_, fun h => ?_⟩
    · have hne : [x, y][i] ≠ 0 := nt h
      have e : orI x y = [x, y][i] := by
        match i, hlt with
        | 0, _ => exact if_pos hne
        | 1, _ => exact if_neg (by simpa using h0 (by omega))
      rw [e] at hK
      exact hK
    · have he : [x, y][i] = 0 := nf h
      refine ⟨⟨by omega, by omega⟩, i + 1, [], ?_, ⟨rfl, by omega, fun _ => ?_, fun _ => ?_⟩, by dsimp only; omega⟩
      · exact ⟨⟨rfl, rfl, rfl, rfl, trivial⟩, trivial⟩
      · match i, hlt with
        | 0, _ => exact he
        | 1, _ => exact h0 (by omega)
      · match i, hlt with
        | 0, _ => omega
        | 1, _ => exact he
  · have hil : i = 2 := by have := df h; omega
    have e : orI x y = 0 := by
      rw [orI, if_neg (by simpa using h0 (by omega))]
      exact h1 (by omega)
    rw [e] at hK
    exact hK
def cmpE (a b : Edg) : Int := orI (cmpI a.1 b.1) (cmpI a.2 b.2)
theorem cmpI_in (x y : Int) : inI (cmpI x y) := by
  unfold cmpI inI
  split
  · omega
  · split <;> omega
theorem cmpE_spec {a b : Edg} {H : Hp} {K : Value → Hp → Prop} (hK : ∀ H', Le H H' → K (.int .i64 (cmpE a b)) H') : Does Try.prog 76 [.agg #[.int .i64 a.1, .int .i64 a.2], .agg #[.int .i64 b.1, .int .i64 b.2]] H K := by
  refine spec_of cx_ok cx_mix rfl Try.func76 Try.call76 Try.ntmps76 Try.results76 rfl rfl ?_
  refine ⟨some ([], [0, 1, 2, 3, 5, 6, 7, 8, 4, 9, 10, 11, 12]), by kernel_rfl, ?_⟩
  refine cmp_spec ?_
  refine cmp_spec ?_
  intro x H1 hle hx
  have hx2 : RowAt H1 x 1 (iRows [cmpI a.1 b.1, cmpI a.2 b.2]) := hx
  have hr := RL.of_row (α := Int) hx2 (rc_iRows (fun n hn => by
    simp only [List.mem_cons, List.not_mem_nil, or_false] at hn
    rcases hn with rfl | rfl <;> exact cmpI_in _ _))
  obtain ⟨a2, n2, c2, e, hr⟩ := hr
  rw [e]
  refine or_spec hr ?_
  exact hK _ (Le.refl H)
theorem eqE_spec {a b : Edg} {H : Hp} {K : Value → Hp → Prop} (hK : K (.bool (decide (a = b))) H) : Does Try.prog 80 [.agg #[.int .i64 a.1, .int .i64 a.2], .agg #[.int .i64 b.1, .int .i64 b.2]] H K := by
  refine spec_of cx_ok cx_mix rfl Try.func80 Try.call80 Try.ntmps80 Try.results80 rfl rfl ?_
  refine kbool hK ?_
  rw [Bool.eq_iff_iff]
  simp [Prod.ext_iff]
theorem cloneE_spec {l : List Edg} {a : Option Addr} {n c : Nat} {H : Hp} {K : SV → St → Hp → Prop} (ha : RL H a n c l) (hn : l.length < 8000000000000) (hK : K (.own 0) ⟨[], [(0, .row 63 2 (eRows l))], 1⟩ H) : DoesG Try.prog 74 [.v (.slice a n c)] [] 0 H K := by
  refine spec_ofG cx_ok cx_mix Try.func74 Try.call74 Try.ntmps74 Try.results74 rfl rfl ?_
  refine ⟨fun h => ?_, fun h => ?_⟩
  · have ha0 : a = none := by cases a <;> simp_all
    subst ha0
    have hl := RL_nil ha
    subst hl
    exact ⟨.own 0, [(0, .row 63 2 (eRows []))], 1, [], ⟨⟨⟨rfl, rfl, rfl⟩, trivial⟩, ⟨rfl, trivial⟩⟩, hK⟩
  · refine ⟨eRows l, RLe_row ha, ⟨⟨by show (0 + (eRows l).length) * 16 ≤ _; rw [List.length_map]; omega, by show 0 + (eRows l).length ≤ _; rw [List.length_map]; omega⟩, ?_⟩⟩
    exact ⟨.own 0, [(0, .row 63 2 (eRows l))], 1, [(0, 1)], ⟨⟨rfl, trivial⟩, ⟨rfl, trivial⟩⟩, hK⟩
end Go.Proofs
