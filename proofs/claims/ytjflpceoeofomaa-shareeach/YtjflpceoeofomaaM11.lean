/- Part 'M11' of the proof (F1, F2, P1, P2, P6, Rx): lemmas, each with its own conditions in its own statement. -/
import Derived.Test.YtjflpceoeofomaaM0
import Derived.Test.YtjflpceoeofomaaM10
import Derived.Test.YtjflpceoeofomaaM8
section
namespace Go.Proofs
open Go.Sy
set_option maxRecDepth 20000
def cmpI (x y : Int) : Int := if x < y then -1 else if y < x then 1 else 0
theorem nanI_spec {x : Int} {H : Hp} {K : Value → Hp → Prop} (hK : K (.bool false) H) : Does Try.prog 103 [.int .i64 x] H K := by
  refine spec_of cx_ok cx_mix rfl Try.func103 Try.call103 Try.ntmps103 Try.results103 rfl rfl ?_
  exact kbool hK (by simp)
theorem cmp_spec {x y : Int} {H : Hp} {K : Value → Hp → Prop} (hK : K (.int .i64 (cmpI x y)) H) : Does Try.prog 78 [.int .i64 x, .int .i64 y] H K := by
  refine spec_of cx_ok cx_mix rfl Try.func78 Try.call78 Try.ntmps78 Try.results78 rfl rfl ?_
  refine nanI_spec ?_
  refine nanI_spec ?_
  refine ⟨(fun h => by cases h), fun _ => ?_⟩
  refine ⟨(fun h => by cases h), fun _ => ?_⟩
  refine ⟨fun h => ?_, fun h => ?_⟩
  · rw [cmpI, if_pos (dt h)] at hK
    exact hK
  · rw [cmpI, if_neg (df h)] at hK
    refine ⟨fun h => ?_, fun h => ?_⟩
    · rw [if_pos (dt h)] at hK
      exact hK
    · rw [if_neg (df h)] at hK
      exact hK
def orI (a b : Int) : Int := if a ≠ 0 then a else b
theorem or_spec {x y : Int} {a : Option Addr} {n c : Nat} {H : Hp} {K : Value → Hp → Prop} (ha : RL H a n c [x, y]) (hK : K (.int .i64 (orI x y)) H) : Does Try.prog 77 [.slice a n c] H K := by
  have hn1 : n = 2 := ha.n_eq
  refine spec_of cx_ok cx_mix rfl Try.func77 Try.call77 Try.ntmps77 Try.results77 rfl rfl ?_
  refine ⟨Nat, fun i => ⟨[(3, .v (.int .i64 0)), (6, .v (.slice a n c)), (7, .v (.int .i64 n)), (8, .v (.int .i64 i))], [], 0⟩, fun i H' => H' = H ∧ i ≤ 2 ∧ (0 < i → x = 0) ∧ (1 < i → y = 0), fun i => 2 - i, ⟨0, [], ?_, rfl, by omega, by omega, by omega⟩, ?_⟩
  · exact ⟨⟨rfl, rfl, rfl, rfl, trivial⟩, trivial⟩
  rintro i H1 _ ⟨rfl, hi, h0, h1⟩
  refine ⟨fun h => ?_, fun h => ?_⟩
  · have hlt : i < 2 := by have := dt h; omega
    have hx := List.getElem?_eq_getElem (l := [x, y]) (i := i) hlt
    obtain ⟨ad, cs, e1, hh, r1⟩ := ha.elem hx
    obtain ⟨rfl, -⟩ := r1
    refine ⟨ad, ⟨by omega, by omega, e1⟩, ?_⟩
    refine ⟨_, hh, ?_⟩
    refine ⟨fun h => ?_, fun h => ?_⟩
    · have hne : [x, y][i] ≠ 0 := nt h
      have e : orI x y = [x, y][i] := by
        match i, hlt with
        | 0, _ => exact if_pos hne
        | 1, _ => exact if_neg (by simpa using h0 (by omega))
      rw [e] at hK
      exact hK
    · have he : [x, y][i] = 0 := nf h
      refine ⟨⟨by omega, by omega⟩, i + 1, [], ?_, ⟨rfl, by omega, fun _ => ?_, fun _ => ?_⟩, by dsimp only; omega⟩
      · exact ⟨⟨rfl, rfl, rfl, rfl, trivial⟩, trivial⟩
      · match i, hlt with
        | 0, _ => exact he
        | 1, _ => exact h0 (by omega)
      · match i, hlt with
        | 0, _ => omega
        | 1, _ => exact he
  · have hil : i = 2 := by have := df h; omega
    have e : orI x y = 0 := by
      rw [orI, if_neg (by simpa using h0 (by omega))]
      exact h1 (by omega)
    rw [e] at hK
    exact hK
def cmpE (a b : Edg) : Int := orI (cmpI a.1 b.1) (cmpI a.2 b.2)
theorem cmpI_in (x y : Int) : inI (cmpI x y) := by
  unfold cmpI inI
  split
  · omega
  · split <;> omega
theorem cmpE_spec {a b : Edg} {H : Hp} {K : Value → Hp → Prop} (hK : ∀ H', Le H H' → K (.int .i64 (cmpE a b)) H') : Does Try.prog 76 [.agg #[.int .i64 a.1, .int .i64 a.2], .agg #[.int .i64 b.1, .int .i64 b.2]] H K := by
  refine spec_of cx_ok cx_mix rfl Try.func76 Try.call76 Try.ntmps76 Try.results76 rfl rfl ?_
  refine ⟨some ([], [0, 1, 2, 3, 5, 6, 7, 8, 4, 9, 10, 11, 12]), by kernel_rfl, ?_⟩
  refine cmp_spec ?_
  refine cmp_spec ?_
  intro x H1 hle hx
  have hx2 : RowAt H1 x 1 (iRows [cmpI a.1 b.1, cmpI a.2 b.2]) := hx
  have hr := RL.of_row (α := Int) hx2 (rc_iRows (fun n hn => by
    simp only [List.mem_cons, List.not_mem_nil, or_false] at hn
    rcases hn with rfl | rfl <;> exact cmpI_in _ _))
  obtain ⟨a2, n2, c2, e, hr⟩ := hr
  rw [e]
  refine or_spec hr ?_
  exact hK _ (Le.refl H)
theorem eqE_spec {a b : Edg} {H : Hp} {K : Value → Hp → Prop} (hK : K (.bool (decide (a = b))) H) : Does Try.prog 80 [.agg #[.int .i64 a.1, .int .i64 a.2], .agg #[.int .i64 b.1, .int .i64 b.2]] H K := by
  refine spec_of cx_ok cx_mix rfl Try.func80 Try.call80 Try.ntmps80 Try.results80 rfl rfl ?_
  refine kbool hK ?_
  rw [Bool.eq_iff_iff]
  simp [Prod.ext_iff]
theorem cloneE_spec {l : List Edg} {a : Option Addr} {n c : Nat} {H : Hp} {K : SV → St → Hp → Prop} (ha : RL H a n c l) (hn : l.length < 8000000000000) (hK : K (.own 0) ⟨[], [(0, .row 63 2 (eRows l))], 1⟩ H) : DoesG Try.prog 74 [.v (.slice a n c)] [] 0 H K := by
  refine spec_ofG cx_ok cx_mix Try.func74 Try.call74 Try.ntmps74 Try.results74 rfl rfl ?_
  refine ⟨fun h => ?_, fun h => ?_⟩
  · have ha0 : a = none := by cases a <;> simp_all
    subst ha0
    have hl := RL_nil ha
    subst hl
    exact ⟨.own 0, [(0, .row 63 2 (eRows []))], 1, [], ⟨⟨⟨rfl, rfl, rfl⟩, trivial⟩, ⟨rfl, trivial⟩⟩, hK⟩
  · refine ⟨eRows l, RLe_row ha, ⟨⟨by show (0 + (eRows l).length) * 16 ≤ _; rw [List.length_map]; omega, by show 0 + (eRows l).length ≤ _; rw [List.length_map]; omega⟩, ?_⟩⟩
    exact ⟨.own 0, [(0, .row 63 2 (eRows l))], 1, [(0, 1)], ⟨⟨rfl, trivial⟩, ⟨rfl, trivial⟩⟩, hK⟩
end Go.Proofs
end
section
namespace Go.Proofs
open Go.Sy
set_option maxRecDepth 20000
theorem gComp_snoc {α : Type} [LO α] : ∀ (m : List α) (x y : α), gComp (m ++ [x, y]) = if x = y then gComp (m ++ [x]) else gComp (m ++ [x]) ++ [y]
  | [], x, y => by
    simp only [List.nil_append, gComp]
    split <;> simp_all
  | [a], x, y => by
    have ih := gComp_snoc [] x y
    simp only [List.nil_append] at ih
    simp only [List.cons_append, List.nil_append]
    rw [gComp, ih]
    split <;> rename_i h1 <;> split <;> rename_i h2 <;> simp [gComp, h1]
  | a :: b :: m, x, y => by
    have ih := gComp_snoc (b :: m) x y
    simp only [List.cons_append] at ih ⊢
    rw [gComp, ih]
    conv => rhs; rw [gComp]
    split <;> rename_i h1 <;> split <;> rename_i h2 <;> simp
theorem gComp_take {α : Type} [LO α] {l : List α} {j : Nat} (hj : j + 1 < l.length) : gComp (l.take (j + 2)) = if l[j] = l[j + 1] then gComp (l.take (j + 1)) else gComp (l.take (j + 1)) ++ [l[j + 1]] := by
  have e1 : l.take (j + 1) = l.take j ++ [l[j]] := by rw [List.take_add_one, List.getElem?_eq_getElem (by omega)]; rfl
  have e2 : l.take (j + 2) = l.take j ++ [l[j], l[j + 1]] := by
    rw [List.take_add_one, List.getElem?_eq_getElem hj, e1, Option.toList_some, List.append_assoc]; rfl
  rw [e2, e1, gComp_snoc]
theorem gComp_len {α : Type} [LO α] : ∀ l : List α, (gComp l).length ≤ l.length
  | [] => by simp [gComp]
  | [x] => by simp [gComp]
  | x :: y :: s => by
    have := gComp_len (y :: s)
    rw [gComp]
    split
    · simp only [List.length_cons] at this ⊢; omega
    · simp only [List.length_cons] at this ⊢; omega
theorem eRows_get {l : List Edg} {i : Nat} (h : i < l.length) : (eRows l)[i]? = some [.int .i64 l[i].1, .int .i64 l[i].2] := by rw [List.getElem?_map, List.getElem?_eq_getElem h]; rfl
theorem eRows_set (l : List Edg) (i : Nat) (x : Edg) : (eRows l).set i [.int .i64 x.1, .int .i64 x.2] = eRows (l.set i x) := (List.map_set).symm
theorem compE_spec {l : List Edg} (hn : l.length < 8000000000000) {H : Hp} {K : SV → St → Hp → Prop}
    (hK : K (.own 1) ⟨[], [(0, .dead), (1, .row 63 2 (eRows (gComp l)))], 2⟩ H) : DoesG Try.prog 79 [.own 0, .fn 80 []] [(0, .row 63 2 (eRows l))] 1 H K := by
  refine spec_ofG cx_ok cx_mix Try.func79 Try.call79 Try.ntmps79 Try.results79 rfl rfl ?_
  have hel : (eRows l).length = l.length := List.length_map _
  refine ⟨fun h => ?_, fun h => ?_⟩
  · have h2 : l.length < 2 := by have := dt h; rw [hel] at this; omega
    have e : gComp l = l := by
      match l, h2 with
      | [], _ => rfl
      | [_], _ => rfl
    rw [e] at hK
    exact ⟨.own 1, [(0, .dead), (1, .row 63 2 (eRows l))], 2, [(1, 0)], ⟨⟨rfl, trivial⟩, ⟨trivial, rfl, trivial⟩⟩, hK⟩
  · have h2 : 2 ≤ l.length := by have := df h; rw [hel] at this; omega
    refine ⟨Nat, fun k => ⟨[(0, .own 0), (1, .fn 80 []), (5, .v (.int .i64 k))], [(0, .row 63 2 (eRows l))], 1⟩, fun k H' => H' = H ∧ 1 ≤ k ∧ k ≤ l.length ∧ gComp (l.take k) = l.take k, fun k => l.length - k, ⟨1, [(0, 0)], ?_, rfl, by omega, by omega, ?_⟩, ?_⟩
    · exact ⟨⟨rfl, ⟨rfl, rfl⟩, rfl, trivial⟩, ⟨rfl, trivial⟩⟩
    · match l, h2 with
      | x :: r, _ => simp [gComp]
    rintro k H1 _ ⟨rfl, hk1, hk, hg⟩
    refine ⟨fun h => ?_, fun h => ?_⟩
    · have hlt : k < l.length := by have := dt h; rw [hel] at this; omega
      refine ⟨some ([], [0, 1, 2, 3, 4, 5, 6, 7, 8, 9, 10]), by kernel_rfl, ?_⟩
      have g1 : (eRows l)[((k : Int)).toNat]? = some [.int .i64 l[k].1, .int .i64 l[k].2] := by rw [Int.toNat_natCast]; exact eRows_get hlt
      have hk2 : k - 1 < l.length := by omega
      have g2 : (eRows l)[((k : Int) - 1).toNat]? = some [.int .i64 l[k - 1].1, .int .i64 l[k - 1].2] := by
        rw [show ((k : Int) - 1).toNat = k - 1 by omega]; exact eRows_get hk2
      refine ⟨⟨by omega, by rw [hel]; omega⟩, ?_⟩
      refine ⟨_, g1, ?_⟩
      refine ⟨⟨by omega, by omega⟩, ?_⟩
      refine ⟨⟨by omega, by rw [hel]; omega⟩, ?_⟩
      refine ⟨_, g2, ?_⟩
      refine eqE_spec (a := l[k]) (b := l[k - 1]) ?_
      obtain ⟨j, hj⟩ : ∃ j, k = j + 1 := ⟨k - 1, by omega⟩
      have hgt : gComp (l.take (k + 1)) = if l[k - 1] = l[k] then gComp (l.take k) else gComp (l.take k) ++ [l[k]] := by
        subst hj
        exact gComp_take hlt
      refine ⟨fun h => ?_, fun h => ?_⟩
      · have he : l[k] = l[k - 1] := dt h
        rw [if_pos he.symm, hg] at hgt
        refine .inr ?_
        refine ⟨⟨by omega, by rw [hel]; omega, by omega⟩, ?_⟩
        refine .inl ?_
        have hsub : (((eRows l).length : Int)).toNat - ((k : Int)).toNat = l.length - k := by rw [hel]; rfl
        refine ⟨Nat × Nat × List Edg, fun q => ⟨[(0, .own 0), (1, .fn 80 []), (5, .v (.int .i64 q.1)), (6, .sub 0 2 k (l.length - k)), (7, .v (.int .i64 q.2.1))], [(0, .row 63 2 (eRows q.2.2))], 1⟩,
          fun q H' => H' = H1 ∧ q.2.2.length = l.length ∧ 1 ≤ q.2.1 ∧ k + q.2.1 ≤ l.length ∧ 1 ≤ q.1 ∧ q.1 + 1 ≤ k + q.2.1 ∧ q.2.2.take q.1 = gComp (l.take (k + q.2.1)) ∧ ∀ j, k + q.2.1 ≤ j + 1 → q.2.2[j]? = l[j]?,
          fun q => l.length - (k + q.2.1), ⟨(k, 1, l), [(0, 0)], ?_, rfl, rfl, Nat.le_refl _, hlt, hk1, Nat.le_refl _, hgt.symm, fun _ _ => rfl⟩, ?_⟩
        · exact ⟨⟨rfl, ⟨rfl, rfl⟩, rfl, ⟨rfl, rfl, rfl, hsub⟩, rfl, trivial⟩, ⟨rfl, trivial⟩⟩
        rintro ⟨k', k2, cur⟩ H2 _ ⟨rfl, c1, c2, c3, c4, c5, c6, c7⟩
        simp only at c1 c2 c3 c4 c5 c6 c7
        have hec : (eRows cur).length = l.length := by rw [List.length_map, c1]
        refine .inl ?_
        refine ⟨fun h => ?_, fun h => ?_⟩
        · have hlt2 : k + k2 < l.length := by have := dt h; simp only at this; omega
          refine ⟨some ([], [0, 1, 2, 3, 4, 5, 6, 7, 8, 9, 10, 11]), by kernel_rfl, ?_⟩
          have hA := c7 (k + k2) (by omega)
          rw [List.getElem?_eq_getElem hlt2] at hA
          have hB := c7 (k + k2 - 1) (by omega)
          rw [List.getElem?_eq_getElem (by omega : k + k2 - 1 < l.length)] at hB
          have gA : (eRows cur)[((k : Int) + ((k', k2, cur).snd.fst : Int)).toNat]? = some [.int .i64 l[k + k2].1, .int .i64 l[k + k2].2] := by
            rw [show ((k : Int) + ((k', k2, cur).snd.fst : Int)).toNat = k + k2 by simp only; omega, List.getElem?_map, hA]; rfl
          have gB : (eRows cur)[((k : Int) + (((k', k2, cur).snd.fst : Int) - 1)).toNat]? = some [.int .i64 l[k + k2 - 1].1, .int .i64 l[k + k2 - 1].2] := by
            rw [show ((k : Int) + (((k', k2, cur).snd.fst : Int) - 1)).toNat = k + k2 - 1 by simp only; omega, List.getElem?_map, hB]; rfl
          refine ⟨⟨by simp only; omega, by simp only; omega, by simp only; omega⟩, ?_⟩
          refine ⟨_, gA, ?_⟩
          refine ⟨⟨by simp only; omega, by simp only; omega⟩, ?_⟩
          refine ⟨⟨by simp only; omega, by simp only; omega, by simp only; omega⟩, ?_⟩
          refine ⟨_, gB, ?_⟩
          refine eqE_spec (a := l[k + k2]) (b := l[k + k2 - 1]) ?_
          have hE : gComp (l.take (k + (k2 + 1))) = if l[k + k2 - 1] = l[k + k2] then gComp (l.take (k + k2)) else gComp (l.take (k + k2)) ++ [l[k + k2]] := by
            obtain ⟨j, hj⟩ : ∃ j, k + k2 = j + 1 := ⟨k + k2 - 1, by omega⟩
            have := gComp_take (l := l) (j := j) (by omega)
            rw [show k + (k2 + 1) = j + 2 by omega]
            simp only [hj, Nat.add_sub_cancel]
            exact this
          refine ⟨fun h => ?_, fun h => ?_⟩
          · have hne : ¬ l[k + k2] = l[k + k2 - 1] := by
              intro e
              rw [decide_eq_true e] at h
              cases h
            rw [if_neg (fun e => hne e.symm)] at hE
            refine .inl ?_
            refine ⟨⟨by simp only; omega, by simp only; omega, by simp only; omega⟩, ?_⟩
            refine ⟨_, gA, ?_⟩
            refine ⟨⟨by simp only; omega, by simp only; rw [hec]; omega⟩, ?_⟩
            have hk' : k' < cur.length := by omega
            refine ⟨[.int .i64 cur[k'].1, .int .i64 cur[k'].2], by show (eRows cur)[((k' : Nat) : Int).toNat]? = _; rw [Int.toNat_natCast]; exact eRows_get hk', ?_⟩
            have e5 : (eRows cur).set ((k' : Int)).toNat [.int .i64 l[k + k2].1, .int .i64 l[k + k2].2] = eRows (cur.set k' l[k + k2]) := by
              rw [Int.toNat_natCast]; exact eRows_set cur k' _
            refine ⟨⟨by simp only; omega, by simp only; omega⟩, ?_⟩
            refine ⟨⟨by simp only; omega, by simp only; omega⟩, (k' + 1, k2 + 1, cur.set k' l[k + k2]), [(0, 0)], ?_, ⟨rfl, by simp only [List.length_set]; exact c1, by simp only; omega, by simp only; omega, by simp only; omega, by simp only; omega, ?_, fun j hj => ?_⟩, by simp only; omega⟩
            · exact ⟨⟨rfl, ⟨rfl, rfl⟩, rfl, ⟨rfl, rfl, rfl, rfl⟩, rfl, trivial⟩, ⟨e5, trivial⟩⟩
            · simp only
              rw [hE, ← c6, List.take_add_one, List.getElem?_set_self hk', Option.toList_some, List.take_set_of_le (Nat.le_refl _)]
            · simp only at hj ⊢
              rw [List.getElem?_set_ne (by omega)]
              exact c7 j (by omega)
          · have he : l[k + k2] = l[k + k2 - 1] := by
              cases hh : decide (l[k + k2] = l[k + k2 - 1]) with
              | true => exact dt hh
              | false => rw [hh] at h; cases h
            rw [if_pos he.symm] at hE
            refine ⟨⟨by simp only; omega, by simp only; omega⟩, (k', k2 + 1, cur), [(0, 0)], ?_, ⟨rfl, c1, by simp only; omega, by simp only; omega, c4, by simp only; omega, ?_, fun j hj => c7 j (by simp only at hj; omega)⟩, by simp only; omega⟩
            · exact ⟨⟨rfl, ⟨rfl, rfl⟩, rfl, ⟨rfl, rfl, rfl, rfl⟩, rfl, trivial⟩, ⟨rfl, trivial⟩⟩
            · simp only
              rw [hE, ← c6]
        · have hk2l : k + k2 = l.length := by have := df h; simp only at this; omega
          rw [hk2l, List.take_length] at c6
          have hk' : k' ≤ cur.length := by omega
          refine .inr ?_
          refine ⟨⟨by simp only; omega, by simp only; rw [hec]; omega, by simp only; rw [hec]; omega⟩, ?_⟩
          refine ⟨by show ((k' : Nat) : Int).toNat + (((eRows cur).length : Int).toNat - ((k' : Nat) : Int).toNat) ≤ (eRows cur).length; simp only [Int.toNat_natCast]; rw [hec]; omega, ?_⟩
          have hcl : ∀ (z : List (List Value)), ((eRows cur).take ((k' : Nat) : Int).toNat ++ z).take ((k' : Nat) : Int).toNat = eRows (gComp l) := fun z => by
            rw [Int.toNat_natCast, List.take_append_of_le_length (by rw [List.length_take]; omega), List.take_take, Nat.min_self, ← List.map_take, c6]
          refine .inl ⟨⟨by simp only; omega, ?_⟩, ?_⟩
          · show ((k' : Nat) : Int) ≤ ((((eRows cur).take ((k' : Nat) : Int).toNat ++ List.replicate _ _ ++ _ : List (List Value)).length : Nat) : Int)
            rw [List.length_append, List.length_append, List.length_take, Int.toNat_natCast, hec]
            omega
          · refine ⟨.own 1, [(0, .dead), (1, .row 63 2 (eRows (gComp l)))], 2, [(1, 1)], ⟨⟨rfl, trivial⟩, ⟨trivial, ?_, trivial⟩⟩, hK⟩
            have := hcl (List.replicate (((eRows cur).length : Int).toNat - ((k' : Nat) : Int).toNat) [.int .i64 0, .int .i64 0] ++ (eRows cur).drop (((k' : Nat) : Int).toNat + (((eRows cur).length : Int).toNat - ((k' : Nat) : Int).toNat)))
            rw [← List.append_assoc] at this
            exact this
      · have he : ¬ l[k] = l[k - 1] := df h
        rw [if_neg (fun e => he e.symm), hg] at hgt
        refine ⟨⟨by omega, by omega⟩, k + 1, [(0, 0)], ?_, ⟨rfl, by omega, by omega, ?_⟩, by dsimp only; omega⟩
        · exact ⟨⟨rfl, ⟨rfl, rfl⟩, rfl, trivial⟩, ⟨rfl, trivial⟩⟩
        · rw [hgt, List.take_add_one, List.getElem?_eq_getElem hlt]; rfl
    · have hkl : k = l.length := by have := df h; rw [hel] at this; omega
      rw [hkl, List.take_length] at hg
      rw [hg] at hK
      exact ⟨.own 1, [(0, .dead), (1, .row 63 2 (eRows l))], 2, [(1, 0)], ⟨⟨rfl, trivial⟩, ⟨trivial, rfl, trivial⟩⟩, hK⟩
end Go.Proofs
end
section
namespace Go.Proofs
open Go.Sy
set_option maxRecDepth 20000
theorem index_spec {l : List Bs8} {t : Bs8} {a : Option Addr} {n c : Nat} {H : Hp} {K : Value → Hp → Prop} (ha : RL H a n c (ens l)) (hK : K (.int .i64 (idxS t l 0)) H) : Does Try.prog 108 [.slice a n c, .string (bs t)] H K := by
  have hn1 := ha.n_eq
  rw [List.length_map] at hn1
  have hmx := ha.le
  refine spec_of cx_ok cx_mix rfl Try.func108 Try.call108 Try.ntmps108 Try.results108 rfl rfl ?_
  refine ⟨Nat, fun i => ⟨[(0, .v (.slice a n c)), (1, .v (.string (bs t))), (7, .v (.int .i64 n)), (8, .v (.int .i64 i))], [], 0⟩, fun i H' => H' = H ∧ i ≤ l.length ∧ idxS t l 0 = idxS t (l.drop i) i, fun i => l.length - i, ⟨0, [], ?_, rfl, by omega, rfl⟩, ?_⟩
  · exact ⟨⟨rfl, rfl, rfl, rfl, trivial⟩, trivial⟩
  rintro i H1 _ ⟨rfl, hi, hx⟩
  refine ⟨fun h => ?_, fun h => ?_⟩
  · have hlt : i < l.length := by have := dt h; omega
    obtain ⟨ad, cs, e1, hh, rfl, hl2⟩ := ha.elem (ens_get hlt)
    rw [idxS_step hlt] at hx
    refine ⟨ad, ⟨by omega, by omega, e1⟩, ?_⟩
    refine ⟨_, hh, ?_⟩
    refine ⟨fun h => ?_, fun h => ?_⟩
    · have he : t = l[i] := dt h
      rw [if_pos he.symm] at hx
      rw [hx] at hK
      exact hK
    · have he : ¬ t = l[i] := df h
      rw [if_neg (fun h => he h.symm)] at hx
      refine ⟨⟨by omega, by omega⟩, i + 1, [], ?_, ⟨rfl, by omega, hx⟩, by dsimp only; omega⟩
      exact ⟨⟨rfl, rfl, rfl, rfl, trivial⟩, trivial⟩
  · have hil : i = l.length := by have := df h; omega
    rw [hil, List.drop_length, idxS] at hx
    rw [hx] at hK
    exact hK
theorem place_spec {l : List Bs8} {t : Bs8} {a : Option Addr} {n c : Nat} {H : Hp} {K : Value → Hp → Prop} (ha : RL H a n c (ens l)) (hK : K (.tuple #[.int .i64 (max (idxS t l 0) 0), .bool (decide (0 ≤ idxS t l 0))]) H) : Does Try.prog 95 [.slice a n c, .string (bs t)] H K := by
  refine spec_of cx_ok cx_mix rfl Try.func95 Try.call95 Try.ntmps95 Try.results95 rfl rfl ?_
  refine index_spec ha ?_
  exact hK
theorem small4_spec {p : Prog} {a : Option Addr} {n c : Nat} {H : Hp} {K : Value → Hp → Prop} (ha : RL H a n c p) (hK : ∀ b, (b = true → small4 p) → K (.bool b) H) : Does Try.prog 16 [.agg #[.slice a n c]] H K := by
  have hn1 := ha.n_eq
  have hmx := ha.le
  have hF := hK false (fun h => by cases h)
  refine spec_of cx_ok cx_mix rfl Try.func16 Try.call16 Try.ntmps16 Try.results16 rfl rfl ?_
  refine ⟨fun h => ?_, fun h => ?_⟩
  · exact hF
  have h12 : p.length ≤ 12 := by have := df h; omega
  refine ⟨Nat, fun i => ⟨[(12, .v (.slice a n c)), (13, .v (.int .i64 n)), (14, .v (.int .i64 i))], [], 0⟩,
    fun i H' => H' = H ∧ i ≤ p.length ∧ ∀ b ∈ p.take i, smallB4 b, fun i => p.length - i, ⟨0, [], ?_, rfl, by omega, by simp⟩, ?_⟩
  · exact ⟨⟨rfl, rfl, rfl, trivial⟩, trivial⟩
  rintro i H1 _ ⟨rfl, hi, hall⟩
  refine ⟨fun h => ?_, fun h => ?_⟩
  · have hlt : i < p.length := by have := dt h; omega
    have hx := List.getElem?_eq_getElem hlt
    obtain ⟨b, hb⟩ : ∃ b, b = p[i] := ⟨_, rfl⟩
    rw [← hb] at hx
    obtain ⟨ad, cs, e1, hh, r1⟩ := ha.elem hx
    obtain ⟨a2, n2, c2, rfl, hr2, hnm, htm⟩ := block_open r1
    have hn2 := hr2.n_eq
    have hmx2 := hr2.le
    refine ⟨ad, ⟨by omega, by omega, e1⟩, ?_⟩
    refine ⟨_, hh, ?_⟩
    refine ⟨fun h => ?_, fun h => hF⟩
    have g1 : b.2.1.length ≤ 12 := by have := df h; omega
    refine ⟨fun h => ?_, fun h => hF⟩
    have g2 : b.1.l.length ≤ 40 := by have := df h; simp only [sl_bs] at this; omega
    refine ⟨fun h => ?_, fun h => hF⟩
    have g3 : b.2.2.2.2.1.l.length ≤ 40 := by have := df h; simp only [sl_bs] at this; omega
    refine ⟨fun h => ?_, fun h => hF⟩
    have g4 : b.2.2.2.2.2.l.length ≤ 40 := by have := df h; simp only [sl_bs] at this; omega
    refine ⟨fun h => hF, fun h => ?_⟩
    have g5 : b.2.2.2.1.1.l.length ≤ 40 := by have := df h; simp only [sl_bs] at this; omega
    refine ⟨Nat, fun j => ⟨[(12, .v (.slice a n c)), (13, .v (.int .i64 n)), (14, .v (.int .i64 i)), (51, .v (.slice a2 n2 c2)), (52, .v (.int .i64 n2)), (53, .v (.int .i64 j))], [], 0⟩,
      fun j H' => H' = H1 ∧ j ≤ b.2.1.length ∧ ∀ s ∈ b.2.1.take j, smallS s, fun j => b.2.1.length - j, ⟨0, [], ?_, rfl, by omega, by simp⟩, ?_⟩
    · exact ⟨⟨rfl, rfl, rfl, rfl, rfl, rfl, trivial⟩, trivial⟩
    rintro j H2 _ ⟨rfl, hj, hsm⟩
    refine ⟨fun h => ?_, fun h => ?_⟩
    · have hltj : j < b.2.1.length := by have := dt h; omega
      have hxj := List.getElem?_eq_getElem hltj
      have hel := hr2.elem hxj
      obtain ⟨ad2, cs2, e2, hh2, r2⟩ := hel
      have hst := stmt_open r2
      obtain ⟨ecs, hsr⟩ := hst
      rw [ecs] at hh2
      refine ⟨ad2, ⟨by omega, by omega, e2⟩, ?_⟩
      refine ⟨_, hh2, ?_⟩
      refine ⟨fun h => ?_, fun h => hF⟩
      have k1 : b.2.1[j].2.1.l.length ≤ 40 := by have := df h; simp only [sl_bs] at this; omega
      refine ⟨fun h => ?_, fun h => hF⟩
      have k2 : b.2.1[j].2.2.2.1.1.l.length ≤ 40 := by have := df h; simp only [sl_bs] at this; omega
      refine ⟨fun h => hF, fun h => ?_⟩
      have k3 : b.2.1[j].2.2.2.2.1.l.length ≤ 40 := by have := df h; simp only [sl_bs] at this; omega
      refine ⟨⟨by omega, by omega⟩, j + 1, [], ?_, ⟨rfl, by omega, mem_take_succ hxj hsm ⟨k1, k2, k3⟩⟩, by dsimp only; omega⟩
      exact ⟨⟨rfl, rfl, rfl, rfl, rfl, rfl, trivial⟩, trivial⟩
    · have hjl : j = b.2.1.length := by have := df h; omega
      rw [hjl, List.take_length] at hsm
      refine ⟨⟨by omega, by omega⟩, i + 1, [], ?_, ⟨rfl, by omega, mem_take_succ hx hall ⟨⟨g1, g2, g3, g4, g5⟩, hsm⟩⟩, by dsimp only; omega⟩
      exact ⟨⟨rfl, rfl, rfl, trivial⟩, trivial⟩
  · have hil : i = p.length := by have := df h; omega
    rw [hil, List.take_length] at hall
    exact hK true fun _ => ⟨h12, hall⟩
end Go.Proofs
end
section
namespace Go.Proofs
open Go.Sy
set_option maxRecDepth 20000
theorem dec_len {α : Type} [DecidableEq α] {l m : List α} (h : l.length ≠ m.length) : decide (l = m) = false := decide_eq_false fun e => h (by rw [e])
theorem same_spec {l m : List Edg} {a1 a2 : Option Addr} {n1 c1 n2 c2 : Nat} {H : Hp} {K : Value → Hp → Prop} (h1 : RL H a1 n1 c1 l) (h2 : RL H a2 n2 c2 m) (hK : K (.bool (decide (l = m))) H) : Does Try.prog 17 [.slice a1 n1 c1, .slice a2 n2 c2] H K := by
  have e1 := h1.n_eq
  have e2 := h2.n_eq
  have b1 := h1.le
  have b2 := h2.le
  refine spec_of cx_ok cx_mix rfl Try.func17 Try.call17 Try.ntmps17 Try.results17 rfl rfl ?_
  refine ⟨fun h => ?_, fun h => ?_⟩
  · have hne : l.length ≠ m.length := by have := nt h; omega
    rw [dec_len hne] at hK
    exact hK
  have hlen : l.length = m.length := by have := nf h; omega
  refine ⟨Nat, fun i => ⟨[(0, .v (.slice a1 n1 c1)), (1, .v (.slice a2 n2 c2)), (12, .v (.int .i64 n1)), (13, .v (.int .i64 i))], [], 0⟩, fun i H' => H' = H ∧ i ≤ l.length ∧ l.take i = m.take i, fun i => l.length - i, ⟨0, [], ?_, rfl, by omega, by simp⟩, ?_⟩
  · exact ⟨⟨rfl, rfl, rfl, rfl, trivial⟩, trivial⟩
  rintro i H1 _ ⟨rfl, hi, ht⟩
  refine ⟨fun h => ?_, fun h => ?_⟩
  · have hlt : i < l.length := by have := dt h; omega
    have hlt2 : i < m.length := by omega
    refine ⟨some ([], [0, 1, 2, 3, 4, 5, 6, 7, 8]), by kernel_rfl, ?_⟩
    obtain ⟨ad, cs, q1, hh, r1⟩ := h1.elem (List.getElem?_eq_getElem hlt)
    obtain ⟨rfl, -⟩ := edge_open r1
    obtain ⟨ad2, cs2, q2, hh2, r2⟩ := h2.elem (List.getElem?_eq_getElem hlt2)
    obtain ⟨rfl, -⟩ := edge_open r2
    refine ⟨ad, ⟨by omega, by omega, q1⟩, ?_⟩
    refine ⟨_, hh, ?_⟩
    refine ⟨ad2, ⟨by omega, by omega, q2⟩, ?_⟩
    refine ⟨_, hh2, ?_⟩
    refine ⟨fun h => ?_, fun h => ?_⟩
    · have hne : ¬ l = m := fun e => by subst e; simp at h
      rw [decide_eq_false hne] at hK
      exact hK
    · have he : l[i] = m[i] := by
        rw [Prod.ext_iff]
        simpa using h
      refine ⟨⟨by omega, by omega⟩, i + 1, [], ?_, ⟨rfl, by omega, ?_⟩, by dsimp only; omega⟩
      · exact ⟨⟨rfl, rfl, rfl, rfl, trivial⟩, trivial⟩
      · rw [List.take_add_one, List.take_add_one, ht, List.getElem?_eq_getElem hlt, List.getElem?_eq_getElem hlt2, he]
  · have hil : i = l.length := by have := df h; omega
    subst hil
    rw [List.take_length, hlen, List.take_length] at ht
    rw [decide_eq_true ht] at hK
    exact hK
theorem ints_spec {l m : List Int} {a1 a2 : Option Addr} {n1 c1 n2 c2 : Nat} {H : Hp} {K : Value → Hp → Prop} (h1 : RL H a1 n1 c1 l) (h2 : RL H a2 n2 c2 m) (hK : K (.bool (decide (l = m))) H) : Does Try.prog 20 [.slice a1 n1 c1, .slice a2 n2 c2] H K := by
  have e1 := h1.n_eq
  have e2 := h2.n_eq
  have b1 := h1.le
  have b2 := h2.le
  refine spec_of cx_ok cx_mix rfl Try.func20 Try.call20 Try.ntmps20 Try.results20 rfl rfl ?_
  refine ⟨fun h => ?_, fun h => ?_⟩
  · have hne : l.length ≠ m.length := by have := nt h; omega
    rw [dec_len hne] at hK
    exact hK
  have hlen : l.length = m.length := by have := nf h; omega
  refine ⟨Nat, fun i => ⟨[(0, .v (.slice a1 n1 c1)), (1, .v (.slice a2 n2 c2)), (12, .v (.int .i64 n1)), (13, .v (.int .i64 i))], [], 0⟩, fun i H' => H' = H ∧ i ≤ l.length ∧ l.take i = m.take i, fun i => l.length - i, ⟨0, [], ?_, rfl, by omega, by simp⟩, ?_⟩
  · exact ⟨⟨rfl, rfl, rfl, rfl, trivial⟩, trivial⟩
  rintro i H1 _ ⟨rfl, hi, ht⟩
  refine ⟨fun h => ?_, fun h => ?_⟩
  · have hlt : i < l.length := by have := dt h; omega
    have hlt2 : i < m.length := by omega
    refine ⟨some ([], [0, 1, 2, 3, 4, 5, 6, 7, 8]), by kernel_rfl, ?_⟩
    obtain ⟨ad, cs, q1, hh, r1⟩ := h1.elem (List.getElem?_eq_getElem hlt)
    obtain ⟨rfl, -⟩ := r1
    obtain ⟨ad2, cs2, q2, hh2, r2⟩ := h2.elem (List.getElem?_eq_getElem hlt2)
    obtain ⟨rfl, -⟩ := r2
    refine ⟨ad, ⟨by omega, by omega, q1⟩, ?_⟩
    refine ⟨_, hh, ?_⟩
    refine ⟨ad2, ⟨by omega, by omega, q2⟩, ?_⟩
    refine ⟨_, hh2, ?_⟩
    refine ⟨fun h => ?_, fun h => ?_⟩
    · have hne : ¬ l = m := fun e => by subst e; simp at h
      rw [decide_eq_false hne] at hK
      exact hK
    · have he : l[i] = m[i] := by
        simpa using h
      refine ⟨⟨by omega, by omega⟩, i + 1, [], ?_, ⟨rfl, by omega, ?_⟩, by dsimp only; omega⟩
      · exact ⟨⟨rfl, rfl, rfl, rfl, trivial⟩, trivial⟩
      · rw [List.take_add_one, List.take_add_one, ht, List.getElem?_eq_getElem hlt, List.getElem?_eq_getElem hlt2, he]
  · have hil : i = l.length := by have := df h; omega
    subst hil
    rw [List.take_length, hlen, List.take_length] at ht
    rw [decide_eq_true ht] at hK
    exact hK
theorem node_spec {x y : Int} {H : Hp} {K : Value → Hp → Prop} (hK : K (.bool (decide (0 ≤ y ∧ y < x))) H) : Does Try.prog 73 [.int .i64 x, .int .i64 y] H K := by
  refine spec_of cx_ok cx_mix rfl Try.func73 Try.call73 Try.ntmps73 Try.results73 rfl rfl ?_
  refine ⟨fun h => ?_, fun h => ?_⟩
  · have h1 : 0 ≤ y := dt h
    refine kbool hK ?_
    simp [h1]
  · have h1 : ¬ 0 ≤ y := df h
    refine kbool hK ?_
    simp [h1]
/-- The places of what answers p. -/
def idxP {α : Type} (p : α → Bool) : List α → Nat → List Int
  | [], _ => []
  | x :: r, i => if p x then (i : Int) :: idxP p r (i + 1) else idxP p r (i + 1)
theorem idxP_snoc {α : Type} (p : α → Bool) : ∀ (l : List α) (x : α) (i : Nat), idxP p (l ++ [x]) i = idxP p l i ++ (if p x then [((i + l.length : Nat) : Int)] else [])
  | [], x, i => by simp only [List.nil_append, idxP, List.length_nil, Nat.add_zero]
  | y :: r, x, i => by
    rw [List.cons_append, idxP, idxP, idxP_snoc p r x (i + 1), List.length_cons, show i + 1 + r.length = i + (r.length + 1) by omega]
    cases p y <;> rfl
theorem idxP_len {α : Type} (p : α → Bool) : ∀ (l : List α) (i : Nat), (idxP p l i).length ≤ l.length
  | [], i => Nat.le_refl _
  | y :: r, i => by
    have := idxP_len p r (i + 1)
    rw [idxP, List.length_cons]
    split
    · rw [List.length_cons]; omega
    · omega
theorem idxP_take {α : Type} (p : α → Bool) {l : List α} {i : Nat} (h : i < l.length) : idxP p (l.take (i + 1)) 0 = idxP p (l.take i) 0 ++ (if p l[i] then [(i : Int)] else []) := by
  rw [List.take_add_one, List.getElem?_eq_getElem h, Option.toList_some, idxP_snoc, Nat.zero_add, List.length_take, Nat.min_eq_left (by omega)]
def isExit (b : Block) : Bool := decide (b.2.2.1 = 3)
def exitsOf (p : Prog) : List Int := idxP isExit p 0
theorem rI_all {x : Value} {H : Hp} {l : List Int} (h : RowAt H x 1 (iRows l)) (hl : ∀ n ∈ l, inI n) : ∃ a n c, x = .slice a n c ∧ RL H a n c l := RL.of_row (α := Int) h (rc_iRows hl)
theorem idxP_in {α : Type} (p : α → Bool) : ∀ (l : List α) (i : Nat), i + l.length ≤ 9223372036854775807 → ∀ n ∈ idxP p l i, inI n
  | [], _, _ => by simp [idxP]
  | x :: r, i, h => by
    have ih := idxP_in p r (i + 1) (by rw [List.length_cons] at h; omega)
    rw [List.length_cons] at h
    rw [idxP]
    split
    · intro n hn
      rcases List.mem_cons.1 hn with rfl | hn
      · exact ⟨by omega, by omega⟩
      · exact ih n hn
    · exact ih
theorem exits_spec {p : Prog} (hp : p.length ≤ 12) {a : Option Addr} {n c : Nat} {H : Hp} {K : Value → Hp → Prop} (ha : RL H a n c p)
   (hK : ∀ a1 n1 c1 H', Le H H' → RL H' a1 n1 c1 (exitsOf p) → K (.slice a1 n1 c1) H') : Does Try.prog 21 [.agg #[.slice a n c]] H K := by
  have hn1 := ha.n_eq
  have hmx := ha.le
  refine spec_of cx_ok cx_mix rfl Try.func21 Try.call21 Try.ntmps21 Try.results21 rfl rfl ?_
  refine ⟨Nat, fun i => ⟨[(3, .own 0), (7, .v (.slice a n c)), (8, .v (.int .i64 n)), (9, .v (.int .i64 i))], [(0, .row 3 1 (iRows (idxP isExit (p.take i) 0)))], 1⟩,
    fun i H' => H' = H ∧ i ≤ p.length, fun i => p.length - i, ⟨0, [], ?_, rfl, by omega⟩, ?_⟩
  · exact ⟨⟨⟨rfl, rfl, rfl⟩, rfl, rfl, rfl, trivial⟩, ⟨rfl, trivial⟩⟩
  rintro i H1 _ ⟨rfl, hi⟩
  refine ⟨fun h => ?_, fun h => ?_⟩
  · have hlt : i < p.length := by have := dt h; omega
    obtain ⟨ad, cs, q1, hh, r1⟩ := ha.elem (List.getElem?_eq_getElem hlt)
    obtain ⟨a2, n2, c2, rfl, hr2, hnm, htm⟩ := block_open r1
    have hst := idxP_take isExit hlt
    have hlen := idxP_len isExit (p.take i) 0
    rw [List.length_take, Nat.min_eq_left (by omega)] at hlen
    have hel : (iRows (idxP isExit (p.take i) 0)).length = (idxP isExit (p.take i) 0).length := List.length_map _
    refine ⟨ad, ⟨by omega, by omega, q1⟩, ?_⟩
    refine ⟨_, hh, ?_⟩
    refine ⟨fun h => ?_, fun h => ?_⟩
    · have he : isExit p[i] = true := h
      rw [he, if_pos rfl] at hst
      refine ⟨⟨by show ((iRows (idxP isExit (p.take i) 0)).length + 1) * 8 ≤ _; omega, by show (iRows (idxP isExit (p.take i) 0)).length + 1 ≤ _; omega⟩, ?_⟩
      have erow : iRows (idxP isExit (p.take i) 0) ++ [[.int .i64 (i : Int)]] = iRows (idxP isExit (p.take (i + 1)) 0) := by rw [hst]; simp
      refine ⟨⟨by omega, by omega⟩, i + 1, [(0, 3)], ?_, ⟨rfl, by omega⟩, by dsimp only; omega⟩
      exact ⟨⟨rfl, rfl, rfl, rfl, trivial⟩, ⟨erow, trivial⟩⟩
    · have he : isExit p[i] = false := h
      rw [he] at hst
      have erow : iRows (idxP isExit (p.take i) 0) = iRows (idxP isExit (p.take (i + 1)) 0) := by rw [hst]; simp
      refine ⟨⟨by omega, by omega⟩, i + 1, [(0, 0)], ?_, ⟨rfl, by omega⟩, by dsimp only; omega⟩
      exact ⟨⟨rfl, rfl, rfl, rfl, trivial⟩, ⟨erow, trivial⟩⟩
  · have hil : i = p.length := by have := df h; omega
    intro x H2 hle2 hx
    rw [hil, List.take_length] at hx
    obtain ⟨a1, n1, c1, rfl, hr⟩ := rI_all hx (idxP_in _ _ _ (by omega))
    exact hK _ _ _ _ hle2 hr
def edgeEq (l m : List Edg) : Bool := decide (l = m)
theorem block_spec {p : Prog} (hp : p.length ≤ 12) {t : Bs8} {a : Option Addr} {n c : Nat} {H : Hp} {K : Value → Hp → Prop} (ha : RL H a n c p)
   (hK : ∀ H', Le H H' → K (.tuple #[.int .i64 (max (idxS t (p.map (·.1.l)) 0) 0), .bool (decide (0 ≤ idxS t (p.map (·.1.l)) 0))]) H') : Does Try.prog 64 [.agg #[.slice a n c], .string (bs t)] H K := by
  have hn1 := ha.n_eq
  have hmx := ha.le
  refine spec_of cx_ok cx_mix rfl Try.func64 Try.call64 Try.ntmps64 Try.results64 rfl rfl ?_
  refine ⟨Nat, fun i => ⟨[(1, .v (.string (bs t))), (6, .own 0), (10, .v (.slice a n c)), (11, .v (.int .i64 n)), (12, .v (.int .i64 i))], [(0, .row 9 1 (sRows ((p.take i).map (·.1.l))))], 1⟩,
    fun i H' => H' = H ∧ i ≤ p.length, fun i => p.length - i, ⟨0, [], ?_, rfl, by omega⟩, ?_⟩
  · exact ⟨⟨rfl, ⟨rfl, rfl, rfl⟩, rfl, rfl, rfl, trivial⟩, ⟨rfl, trivial⟩⟩
  rintro i H1 _ ⟨rfl, hi⟩
  refine ⟨fun h => ?_, fun h => ?_⟩
  · have hlt : i < p.length := by have := dt h; omega
    obtain ⟨ad, cs, q1, hh, r1⟩ := ha.elem (List.getElem?_eq_getElem hlt)
    obtain ⟨a2, n2, c2, rfl, hr2, hnm, htm⟩ := block_open r1
    have hel : (sRows ((p.take i).map (·.1.l))).length = i := by simp; omega
    refine ⟨ad, ⟨by omega, by omega, q1⟩, ?_⟩
    refine ⟨_, hh, ?_⟩
    refine ⟨⟨by show ((sRows ((p.take i).map (·.1.l))).length + 1) * 16 ≤ _; omega, by show (sRows ((p.take i).map (·.1.l))).length + 1 ≤ _; omega⟩, ?_⟩
    have erow : sRows ((p.take i).map (·.1.l)) ++ [[.string (bs p[i].1.l)]] = sRows ((p.take (i + 1)).map (·.1.l)) := by
      rw [List.take_add_one, List.getElem?_eq_getElem hlt, Option.toList_some, List.map_append]
      exact (List.map_append (f := fun s => [Value.string (bs s)]) (l₁ := (p.take i).map (·.1.l)) (l₂ := [p[i].1.l])).symm
    refine ⟨⟨by omega, by omega⟩, i + 1, [(0, 3)], ?_, ⟨rfl, by omega⟩, by dsimp only; omega⟩
    exact ⟨⟨rfl, rfl, rfl, rfl, rfl, trivial⟩, ⟨erow, trivial⟩⟩
  · have hil : i = p.length := by have := df h; omega
    intro x H2 hle2 hx
    rw [hil, List.take_length] at hx
    have hrc : RC (α := Str) H2 (sRows (p.map (·.1.l))) (ens (p.map (·.1.l))) := rc_sRows (fun s hs => by
      obtain ⟨b, hb, rfl⟩ := List.mem_map.1 hs
      obtain ⟨cs, hr⟩ := rl_mem ha hb
      obtain ⟨_, _, _, _, _, h5, _⟩ := block_open hr
      exact h5)
    obtain ⟨a1, n1, c1, rfl, hr⟩ := RL.of_row (α := Str) hx hrc
    refine place_spec hr ?_
    exact hK _ (Le.refl H1)
theorem idxS_map {p : Prog} {t : Bs8} {i : Nat} (h : i < p.length) : idxS t ((p.map (·.1.l)).drop i) i = if p[i].1.l = t then (i : Int) else idxS t ((p.map (·.1.l)).drop (i + 1)) (i + 1 : Nat) := by
  have h2 : i < (p.map (·.1.l)).length := by rw [List.length_map]; exact h
  rw [idxS_step h2, List.getElem_map]
theorem block6_spec {p : Prog} (hp : p.length ≤ 12) {t : Bs8} {a : Option Addr} {n c : Nat} {H : Hp} {K : Value → Hp → Prop} (ha : RL H a n c p)
   (hK : K (.int .i64 (idxS t (p.map (·.1.l)) 0)) H) : Does Try.prog 65 [.agg #[.slice a n c], .string (bs t)] H K := by
  have hn1 := ha.n_eq
  have hmx := ha.le
  refine spec_of cx_ok cx_mix rfl Try.func65 Try.call65 Try.ntmps65 Try.results65 rfl rfl ?_
  refine ⟨Nat, fun i => ⟨[(1, .v (.string (bs t))), (8, .v (.slice a n c)), (9, .v (.int .i64 n)), (10, .v (.int .i64 i))], [], 0⟩,
    fun i H' => H' = H ∧ i ≤ p.length ∧ idxS t (p.map (·.1.l)) 0 = idxS t ((p.map (·.1.l)).drop i) i, fun i => p.length - i, ⟨0, [], ?_, rfl, by omega, rfl⟩, ?_⟩
  · exact ⟨⟨rfl, rfl, rfl, rfl, trivial⟩, trivial⟩
  rintro i H1 _ ⟨rfl, hi, hx⟩
  refine ⟨fun h => ?_, fun h => ?_⟩
  · have hlt : i < p.length := by have := dt h; omega
    obtain ⟨ad, cs, q1, hh, r1⟩ := ha.elem (List.getElem?_eq_getElem hlt)
    obtain ⟨a2, n2, c2, rfl, hr2, hnm, htm⟩ := block_open r1
    rw [idxS_map hlt] at hx
    refine ⟨ad, ⟨by omega, by omega, q1⟩, ?_⟩
    refine ⟨_, hh, ?_⟩
    refine ⟨fun h => ?_, fun h => ?_⟩
    · have he : p[i].1.l = t := dt h
      rw [if_pos he] at hx
      rw [hx] at hK
      exact hK
    · have he : ¬ p[i].1.l = t := df h
      rw [if_neg he] at hx
      refine ⟨⟨by omega, by omega⟩, i + 1, [], ?_, ⟨rfl, by omega, hx⟩, by dsimp only; omega⟩
      exact ⟨⟨rfl, rfl, rfl, rfl, trivial⟩, trivial⟩
  · have hil : i = p.length := by have := df h; omega
    rw [hil, show (p.map (·.1.l)).drop p.length = [] by rw [← List.length_map (·.1.l), List.drop_length], idxS] at hx
    rw [hx] at hK
    exact hK
end Go.Proofs
end
section
namespace Go.Proofs
open Go.Sy
set_option maxRecDepth 20000
def badE (m : Int) (e : Edg) : Bool := !(decide (0 ≤ e.1 ∧ e.1 < m)) || !(decide (0 ≤ e.2 ∧ e.2 < m))
theorem bad_spec {m : Int} {e : Edg} {H : Hp} {K : SV → St → Hp → Prop}
    (hK : K (.v (.bool (badE m e))) ⟨[], [(0, .cells 3 [.v (.int .i64 m)])], 1⟩ H) : DoesG Try.prog 83 [.agg [.v (.int .i64 e.1), .v (.int .i64 e.2)], .ptr 0 0] [(0, .cells 3 [.v (.int .i64 m)])] 1 H K := by
  refine spec_ofG cx_ok cx_mix Try.func83 Try.call83 Try.ntmps83 Try.results83 rfl rfl ?_
  refine node_spec ?_
  refine ⟨fun h => ?_, fun h => ?_⟩
  · refine node_spec ?_
    have e1 : badE m e = !(decide (0 ≤ e.2 ∧ e.2 < m)) := by rw [badE, h]; rfl
    rw [e1] at hK
    exact ⟨.v (.bool (!(decide (0 ≤ e.2 ∧ e.2 < m)))), [(0, .cells 3 [.v (.int .i64 m)])], 1, [(0, 0)], ⟨⟨rfl, trivial⟩, ⟨⟨rfl, trivial⟩, trivial⟩⟩, hK⟩
  · have e1 : badE m e = true := by rw [badE, h]; rfl
    rw [e1] at hK
    exact ⟨.v (.bool true), [(0, .cells 3 [.v (.int .i64 m)])], 1, [(0, 0)], ⟨⟨rfl, trivial⟩, ⟨⟨rfl, trivial⟩, trivial⟩⟩, hK⟩
def idxB (f : Edg → Bool) : List Edg → Int → Int
  | [], _ => -1
  | x :: r, i => if f x then i else idxB f r (i + 1)
theorem idxB_step {f : Edg → Bool} {l : List Edg} {i : Nat} (h : i < l.length) : idxB f (l.drop i) i = if f l[i] then (i : Int) else idxB f (l.drop (i + 1)) (i + 1 : Nat) := by
  rw [List.drop_eq_getElem_cons h, idxB]; rfl
theorem idxB_none {f : Edg → Bool} : ∀ (l : List Edg) (i : Int), 0 ≤ i → (0 ≤ idxB f l i ↔ ∃ x ∈ l, f x = true)
  | [], i, _ => by simp [idxB]
  | x :: r, i, h => by
    rw [idxB]
    split
    · rename_i h1
      exact ⟨fun _ => ⟨x, List.mem_cons_self, h1⟩, fun _ => h⟩
    · rename_i h1
      rw [idxB_none r (i + 1) (by omega)]
      constructor
      · rintro ⟨y, hy, h2⟩; exact ⟨y, List.mem_cons_of_mem _ hy, h2⟩
      · rintro ⟨y, hy, h2⟩
        rcases List.mem_cons.1 hy with rfl | hy
        · exact absurd h2 h1
        · exact ⟨y, hy, h2⟩
theorem indexF_spec {m : Int} {l : List Edg} {a : Option Addr} {n c : Nat} {H : Hp} {K : SV → St → Hp → Prop} (ha : RL H a n c l)
    (hK : K (.v (.int .i64 (idxB (badE m) l 0))) ⟨[], [(0, .cells 3 [.v (.int .i64 m)])], 1⟩ H) : DoesG Try.prog 104 [.v (.slice a n c), .fn 83 [.ptr 0 0]] [(0, .cells 3 [.v (.int .i64 m)])] 1 H K := by
  have hn1 := ha.n_eq
  have hmx := ha.le
  refine spec_ofG cx_ok cx_mix Try.func104 Try.call104 Try.ntmps104 Try.results104 rfl rfl ?_
  refine ⟨Nat, fun i => ⟨[(0, .v (.slice a n c)), (1, .fn 83 [.ptr 0 0]), (7, .v (.int .i64 n)), (8, .v (.int .i64 i))], [(0, .cells 3 [.v (.int .i64 m)])], 1⟩, fun i H' => H' = H ∧ i ≤ l.length ∧ idxB (badE m) l 0 = idxB (badE m) (l.drop i) i, fun i => l.length - i, ⟨0, [(0, 0)], ?_, rfl, by omega, rfl⟩, ?_⟩
  · exact ⟨⟨rfl, ⟨rfl, rfl⟩, rfl, rfl, trivial⟩, ⟨⟨rfl, trivial⟩, trivial⟩⟩
  rintro i H1 _ ⟨rfl, hi, hx⟩
  refine ⟨fun h => ?_, fun h => ?_⟩
  · have hlt : i < l.length := by have := dt h; omega
    obtain ⟨ad, cs, q1, hh, r1⟩ := ha.elem (List.getElem?_eq_getElem hlt)
    obtain ⟨rfl, -⟩ := edge_open r1
    rw [idxB_step hlt] at hx
    refine ⟨ad, ⟨by omega, by omega, q1⟩, ?_⟩
    refine ⟨_, hh, ?_⟩
    refine ⟨[0], rfl, bad_spec (e := l[i]) ?_⟩
    refine ⟨fun h => ?_, fun h => ?_⟩
    · rw [if_pos h] at hx
      rw [hx] at hK
      exact ⟨.v (.int .i64 i), [(0, .cells 3 [.v (.int .i64 m)])], 1, [(0, 0)], ⟨⟨rfl, trivial⟩, ⟨⟨rfl, trivial⟩, trivial⟩⟩, hK⟩
    · have h' : ¬ badE m l[i] = true := by rw [h]; decide
      rw [if_neg h'] at hx
      refine ⟨⟨by omega, by omega⟩, i + 1, [(0, 0)], ?_, ⟨rfl, by omega, hx⟩, by dsimp only; omega⟩
      exact ⟨⟨rfl, ⟨rfl, rfl⟩, rfl, rfl, trivial⟩, ⟨⟨rfl, trivial⟩, trivial⟩⟩
  · have hil : i = l.length := by have := df h; omega
    rw [hil, List.drop_length, idxB] at hx
    rw [hx] at hK
    exact ⟨.v (.int .i64 (-1)), [(0, .cells 3 [.v (.int .i64 m)])], 1, [(0, 0)], ⟨⟨rfl, trivial⟩, ⟨⟨rfl, trivial⟩, trivial⟩⟩, hK⟩
theorem contF_spec {m : Int} {l : List Edg} {a : Option Addr} {n c : Nat} {H : Hp} {K : SV → St → Hp → Prop} (ha : RL H a n c l)
    (hK : K (.v (.bool (decide (0 ≤ idxB (badE m) l 0)))) ⟨[], [(0, .cells 3 [.v (.int .i64 m)])], 1⟩ H) : DoesG Try.prog 82 [.v (.slice a n c), .fn 83 [.ptr 0 0]] [(0, .cells 3 [.v (.int .i64 m)])] 1 H K := by
  refine spec_ofG cx_ok cx_mix Try.func82 Try.call82 Try.ntmps82 Try.results82 rfl rfl ?_
  refine ⟨[0], rfl, indexF_spec ha ?_⟩
  exact ⟨.v (.bool (decide (0 ≤ idxB (badE m) l 0))), [(0, .cells 3 [.v (.int .i64 m)])], 1, [(0, 0)], ⟨⟨rfl, trivial⟩, ⟨⟨rfl, trivial⟩, trivial⟩⟩, hK⟩
/-- A number of nodes and a list of edges that Right takes. -/
def rightE (m : Int) (l : List Edg) : Bool := decide (1 ≤ m) && decide (m ≤ 256) && decide (l.length ≤ 1024) && !decide (0 ≤ idxB (badE m) l 0)
theorem right_spec {m : Int} {l : List Edg} {a : Option Addr} {n c : Nat} {H : Hp} {K : Value → Hp → Prop} (ha : RL H a n c l)
    (hK : K (.bool (rightE m l)) H) : Does Try.prog 43 [.int .i64 m, .slice a n c] H K := by
  have hn1 := ha.n_eq
  refine spec_of cx_ok cx_mix rfl Try.func43 Try.call43 Try.ntmps43 Try.results43 rfl rfl ?_
  refine ⟨fun h => ?_, fun h => ?_⟩
  · have h1 : ¬ m < 1 := df h
    refine ⟨fun h => ?_, fun h => ?_⟩
    · have h2 : ¬ m > 256 := df h
      refine ⟨fun h => ?_, fun h => ?_⟩
      · have h3 : ¬ l.length ≤ 1024 := by have := dt h; omega
        refine kbool hK ?_
        rw [rightE, decide_eq_false h3]; simp
      · have h3 : l.length ≤ 1024 := by have := df h; omega
        refine ⟨[0], rfl, contF_spec (m := m) ha ?_⟩
        refine kbool hK ?_
        rw [rightE, decide_eq_true h3, decide_eq_true (by omega : 1 ≤ m), decide_eq_true (by omega : m ≤ 256)]; rfl
    · have h2 : ¬ m ≤ 256 := by have := dt h; omega
      refine kbool hK ?_
      rw [rightE, decide_eq_false h2]; simp
  · have h1 : ¬ 1 ≤ m := by have := dt h; omega
    refine kbool hK ?_
    rw [rightE, decide_eq_false h1]; simp
end Go.Proofs
end
section
namespace Go.Proofs
open Go.Sy
set_option maxRecDepth 20000
/-- The block in which a row of cells' first slice lies. -/
def blk (cs : List Value) : Option Nat := cs.head?.bind Value.ownBlock
/-- One cell: a slice that is a block of its own, which was not there at H0. -/
def ExL (H0 H : Hp) (cs : List Value) (l : List Int) : Prop :=
  ∃ g cap c, cs = [.slice (some ⟨g, 0, none⟩) l.length cap] ∧ H0 g = none ∧ H g = some (.cells c 3 (0, 0)) ∧ l.length ≤ cap ∧ cap ≤ maxLen ∧ c.size = cap * 1 ∧ c.toList.take (l.length * 1) = (iRows l).flatten
theorem ExL.up {H0 H H' : Hp} {cs : List Value} {l : List Int} (h : ExL H0 H cs l) (hle : Le H H') : ExL H0 H' cs l := by
  obtain ⟨g, cap, c, h1, h2, h3, h4⟩ := h
  exact ⟨g, cap, c, h1, h2, hle _ _ h3, h4⟩
/-- Rows of rows: each a block of its own, none there at H0, and no two the same. -/
structure RX (H0 H : Hp) (css : List (List Value)) (pa : List (List Int)) : Prop where
  le : Le H0 H
  rc : RC (α := List Int) H css pa
  ex : ∀ (i : Nat) (cs : List Value) (l : List Int), css[i]? = some cs → pa[i]? = some l → ExL H0 H cs l
  eq : ∀ (i j : Nat) (cs cs' : List Value) (l l' : List Int) (g : Nat), css[i]? = some cs → pa[i]? = some l → css[j]? = some cs' → pa[j]? = some l' → blk cs = some g → blk cs' = some g → l = l'
theorem RX.nil {H0 H : Hp} (h : Le H0 H) : RX H0 H [] [] := ⟨h, RC.nil, by simp, by simp⟩
theorem RX.up {H0 H H' : Hp} {css : List (List Value)} {pa : List (List Int)} (h : RX H0 H css pa) (hle : Le H H') : RX H0 H' css pa :=
  ⟨h.le.trans hle, h.rc.up hle, fun i cs l h1 h2 => (h.ex i cs l h1 h2).up hle, h.eq⟩
theorem LeN.base {e : TypeId} {sz : Nat} {xs : List (List Value)} {H H1 H' : Hp} {x : Value} (hle : Le H H1) (h : LeN e sz xs H1 x H') : LeN e sz xs H x H' := by
  refine ⟨hle.trans h.le, ?_⟩
  rcases h.new with h1 | ⟨g, cap, c, h1, h2, h3⟩
  · exact .inl h1
  · refine .inr ⟨g, cap, c, h1, ?_, h3⟩
    cases hg : H g with
    | none => rfl
    | some o => rw [hle _ _ hg] at h2; cases h2
theorem ExL.of_new {H0 H H' : Hp} {x : Value} {l : List Int} (h0 : Le H0 H) (h : LeN 3 1 (iRows l) H x H') (hne : l ≠ []) : ∃ g, blk [x] = some g ∧ H g = none ∧ ExL H0 H' [x] l := by
  have hl : (iRows l).length = l.length := List.length_map _
  rcases h.new with ⟨_, h2⟩ | ⟨g, cap, c, h1, h2, h3, h4, h5, h6, h7⟩
  · rw [h2] at hl; exact absurd (List.eq_nil_of_length_eq_zero hl.symm) hne
  · rw [hl] at h1 h4 h7
    refine ⟨g, by rw [h1]; rfl, h2, g, cap, c, by rw [h1], ?_, h3, h4, h5, h6, h7⟩
    cases hg : H0 g with
    | none => rfl
    | some o => rw [h0 _ _ hg] at h2; cases h2
theorem ExL.blk {H0 H : Hp} {cs : List Value} {l : List Int} (h : ExL H0 H cs l) : ∃ g o, Go.Proofs.blk cs = some g ∧ H g = some o := by
  obtain ⟨g, cap, c, h1, h2, h3, _⟩ := h
  exact ⟨g, _, by rw [h1]; rfl, h3⟩
theorem RX.snoc {H0 H H' : Hp} {css : List (List Value)} {pa : List (List Int)} {x : Value} {l : List Int} (h : RX H0 H css pa) (hx : LeN 3 1 (iRows l) H x H') (hr : Enc.R H' [x] l) (hne : l ≠ []) : RX H0 H' (css ++ [[x]]) (pa ++ [l]) := by
  obtain ⟨g, hg, hgn, hex⟩ := ExL.of_new h.le hx hne
  have hlen : css.length = pa.length := h.rc.1
  have key : ∀ (i : Nat) (cs : List Value) (l1 : List Int), (css ++ [[x]])[i]? = some cs → (pa ++ [l])[i]? = some l1 → (css[i]? = some cs ∧ pa[i]? = some l1) ∨ (cs = [x] ∧ l1 = l) := fun i cs l1 h1 h2 => by
    by_cases hi : i < css.length
    · rw [List.getElem?_append_left hi] at h1
      rw [List.getElem?_append_left (by omega)] at h2
      exact .inl ⟨h1, h2⟩
    · rw [List.getElem?_append_right (by omega)] at h1 h2
      have hi0 : i - css.length = 0 := by
        have := (List.getElem?_eq_some_iff.1 h1).1
        simp at this
        omega
      rw [hi0] at h1
      rw [show i - pa.length = 0 by omega] at h2
      simp only [List.getElem?_cons_zero, Option.some.injEq] at h1 h2
      exact .inr ⟨h1.symm, h2.symm⟩
  refine ⟨h.le.trans hx.le, (h.rc.up hx.le).snoc hr, fun i cs l1 h1 h2 => ?_, fun i j cs cs' l1 l2 g' h1 h2 h3 h4 h5 h6 => ?_⟩
  · rcases key i cs l1 h1 h2 with ⟨k1, k2⟩ | ⟨rfl, rfl⟩
    · exact (h.ex i cs l1 k1 k2).up hx.le
    · exact hex
  · have old : ∀ (i : Nat) (cs : List Value) (l1 : List Int), css[i]? = some cs → pa[i]? = some l1 → Go.Proofs.blk cs = some g → False := fun i cs l1 k1 k2 k3 => by
      obtain ⟨g2, o, k4, k5⟩ := (h.ex i cs l1 k1 k2).blk
      rw [k3] at k4
      simp only [Option.some.injEq] at k4
      rw [← k4, hgn] at k5
      cases k5
    rcases key i cs l1 h1 h2 with ⟨k1, k2⟩ | ⟨rfl, rfl⟩ <;> rcases key j cs' l2 h3 h4 with ⟨k3, k4⟩ | ⟨rfl, rfl⟩
    · exact h.eq i j cs cs' l1 l2 g' k1 k2 k3 k4 h5 h6
    · rw [hg] at h6; rw [← h6] at h5; exact (old i cs l1 k1 k2 h5).elim
    · rw [hg] at h5; rw [← h5] at h6; exact (old j cs' l2 k3 k4 h6).elim
    · rfl
/-- Some of them, each as it is. -/
theorem RX.sub {H0 H : Hp} {css ocss : List (List Value)} {pa out : List (List Int)} (h : RX H0 H css pa) (hl : ocss.length = out.length)
    (hs : ∀ (i : Nat) (cs : List Value) (l : List Int), ocss[i]? = some cs → out[i]? = some l → ∃ j : Nat, css[j]? = some cs ∧ pa[j]? = some l) : RX H0 H ocss out := by
  refine ⟨h.le, ⟨hl, fun i cs l h1 h2 => ?_⟩, fun i cs l h1 h2 => ?_, fun i j cs cs' l l' g h1 h2 h3 h4 h5 h6 => ?_⟩
  · obtain ⟨j, k1, k2⟩ := hs i cs l h1 h2
    exact h.rc.2 j cs l k1 k2
  · obtain ⟨j, k1, k2⟩ := hs i cs l h1 h2
    exact h.ex j cs l k1 k2
  · obtain ⟨i', k1, k2⟩ := hs i cs l h1 h2
    obtain ⟨j', k3, k4⟩ := hs j cs' l' h3 h4
    exact h.eq i' j' cs cs' l l' g k1 k2 k3 k4 h5 h6
/-- An element of a row that is never written again. -/
theorem rowAt_elem {H : Hp} {a : Option Addr} {n c : Nat} {css : List (List Value)} (h : RowAt H (.slice a n c) 1 css) {i : Nat} {cs : List Value} (hi : css[i]? = some cs) : ∃ ad, a = some ad ∧ ElemH H ad (i : Int) 1 cs := by
  obtain ⟨a', cap, e, h1, h2, h3⟩ := h
  simp only [Value.slice.injEq] at e
  obtain ⟨rfl, rfl, rfl⟩ := e
  rcases h3 with ⟨h3, _⟩ | ⟨ad, h3, h4, cc, T, fr, h5, h6, h7⟩
  · rw [h3] at hi; cases hi
  · refine ⟨ad, h3, h4, (h2 cs (List.mem_of_getElem? hi)).1, cc, T, fr, h5, fun j hj => ?_⟩
    rw [Int.toNat_natCast]
    exact h7 i cs hi j hj
end Go.Proofs
end
