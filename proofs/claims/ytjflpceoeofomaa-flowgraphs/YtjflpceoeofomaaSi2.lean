/- Part 'Si2' of the proof: lemmas, each with its own conditions in its own statement. -/
import Derived.Test.YtjflpceoeofomaaSi1
import Derived.Test.YtjflpceoeofomaaP2
namespace Go.Proofs
open Go.Sy
set_option maxRecDepth 20000
theorem iRows_get {l : List Int} {i : Nat} (h : i < l.length) : (iRows l)[i]? = some [.int .i64 l[i]] := by rw [List.getElem?_map, List.getElem?_eq_getElem h]; rfl
theorem iRows_set (l : List Int) (i : Nat) (x : Int) : (iRows l).set i [.int .i64 x] = iRows (l.set i x) := (List.map_set).symm
theorem compI_spec {l : List Int} (hn : l.length < 8000000000000) {H : Hp} {K : SV → St → Hp → Prop}
    (hK : K (.own 1) ⟨[], [(0, .dead), (1, .row 3 1 (iRows (gComp l)))], 2⟩ H) : DoesG Try.prog 81 [.own 0] [(0, .row 3 1 (iRows l))] 1 H K := by
  refine spec_ofG cx_ok cx_mix Try.func81 Try.call81 Try.ntmps81 Try.results81 rfl rfl ?_
  have hel : (iRows l).length = l.length := List.length_map _
  refine ⟨fun h => ?_, fun h => ?_⟩
  · have h2 : l.length < 2 := by have := dt h; rw [hel] at this; omega
    have e : gComp l = l := by
      match l, h2 with
      | [], _ => rfl
      | [_], _ => rfl
    rw [e] at hK
    exact ⟨.own 1, [(0, .dead), (1, .row 3 1 (iRows l))], 2, [(1, 0)], ⟨⟨rfl, trivial⟩, ⟨trivial, rfl, trivial⟩⟩, hK⟩
  · have h2 : 2 ≤ l.length := by have := df h; rw [hel] at this; omega
    refine ⟨Nat, fun k => ⟨[(0, .own 0), (3, .v (.int .i64 k))], [(0, .row 3 1 (iRows l))], 1⟩, fun k H' => H' = H ∧ 1 ≤ k ∧ k ≤ l.length ∧ gComp (l.take k) = l.take k, fun k => l.length - k, ⟨1, [(0, 0)], ?_, rfl, by omega, by omega, ?_⟩, ?_⟩
    · exact ⟨⟨rfl, rfl, trivial⟩, ⟨rfl, trivial⟩⟩
    · match l, h2 with
      | x :: r, _ => simp [gComp]
    rintro k H1 _ ⟨rfl, hk1, hk, hg⟩
    refine ⟨fun h => ?_, fun h => ?_⟩
    · have hlt : k < l.length := by have := dt h; rw [hel] at this; omega
      refine ⟨some ([], [0, 1, 2, 3, 4, 5, 6, 7, 8, 9]), by kernel_rfl, ?_⟩
      have g1 : (iRows l)[((k : Int)).toNat]? = some [.int .i64 l[k]] := by rw [Int.toNat_natCast]; exact iRows_get hlt
      have hk2 : k - 1 < l.length := by omega
      have g2 : (iRows l)[((k : Int) - 1).toNat]? = some [.int .i64 l[k - 1]] := by
        rw [show ((k : Int) - 1).toNat = k - 1 by omega]; exact iRows_get hk2
      refine ⟨⟨by omega, by rw [hel]; omega⟩, ?_⟩
      refine ⟨_, g1, ?_⟩
      refine ⟨⟨by omega, by omega⟩, ?_⟩
      refine ⟨⟨by omega, by rw [hel]; omega⟩, ?_⟩
      refine ⟨_, g2, ?_⟩
      obtain ⟨j, hj⟩ : ∃ j, k = j + 1 := ⟨k - 1, by omega⟩
      have hgt : gComp (l.take (k + 1)) = if l[k - 1] = l[k] then gComp (l.take k) else gComp (l.take k) ++ [l[k]] := by
        subst hj
        exact gComp_take hlt
      refine ⟨fun h => ?_, fun h => ?_⟩
      · have he : l[k] = l[k - 1] := dt h
        rw [if_pos he.symm, hg] at hgt
        refine .inr ?_
        refine ⟨⟨by omega, by rw [hel]; omega, by omega⟩, ?_⟩
        refine .inl ?_
        have hsub : (((iRows l).length : Int)).toNat - ((k : Int)).toNat = l.length - k := by rw [hel]; rfl
        refine ⟨Nat × Nat × List Int, fun q => ⟨[(0, .own 0), (3, .v (.int .i64 q.1)), (4, .sub 0 1 k (l.length - k)), (5, .v (.int .i64 q.2.1))], [(0, .row 3 1 (iRows q.2.2))], 1⟩,
          fun q H' => H' = H1 ∧ q.2.2.length = l.length ∧ 1 ≤ q.2.1 ∧ k + q.2.1 ≤ l.length ∧ 1 ≤ q.1 ∧ q.1 + 1 ≤ k + q.2.1 ∧ q.2.2.take q.1 = gComp (l.take (k + q.2.1)) ∧ ∀ j, k + q.2.1 ≤ j + 1 → q.2.2[j]? = l[j]?,
          fun q => l.length - (k + q.2.1), ⟨(k, 1, l), [(0, 0)], ?_, rfl, rfl, Nat.le_refl _, hlt, hk1, Nat.le_refl _, hgt.symm, fun _ _ => rfl⟩, ?_⟩
        · exact ⟨⟨rfl, rfl, ⟨rfl, rfl, rfl, hsub⟩, rfl, trivial⟩, ⟨rfl, trivial⟩⟩
        rintro ⟨k', k2, cur⟩ H2 _ ⟨rfl, c1, c2, c3, c4, c5, c6, c7⟩
        simp only at c1 c2 c3 c4 c5 c6 c7
        have hec : (iRows cur).length = l.length := by rw [List.length_map, c1]
        refine .inl ?_
        refine ⟨fun h => ?_, fun h => ?_⟩
        · have hlt2 : k + k2 < l.length := by have := dt h; simp only at this; omega
          refine ⟨some ([], [0, 1, 2, 3, 4, 5, 6, 7, 8, 9]), by kernel_rfl, ?_⟩
          have hA := c7 (k + k2) (by omega)
          rw [List.getElem?_eq_getElem hlt2] at hA
          have hB := c7 (k + k2 - 1) (by omega)
          rw [List.getElem?_eq_getElem (by omega : k + k2 - 1 < l.length)] at hB
          have gA : (iRows cur)[((k : Int) + ((k', k2, cur).snd.fst : Int)).toNat]? = some [.int .i64 l[k + k2]] := by
            rw [show ((k : Int) + ((k', k2, cur).snd.fst : Int)).toNat = k + k2 by simp only; omega, List.getElem?_map, hA]; rfl
          have gB : (iRows cur)[((k : Int) + (((k', k2, cur).snd.fst : Int) - 1)).toNat]? = some [.int .i64 l[k + k2 - 1]] := by
            rw [show ((k : Int) + (((k', k2, cur).snd.fst : Int) - 1)).toNat = k + k2 - 1 by simp only; omega, List.getElem?_map, hB]; rfl
          refine ⟨⟨by simp only; omega, by simp only; omega, by simp only; omega⟩, ?_⟩
          refine ⟨_, gA, ?_⟩
          refine ⟨⟨by simp only; omega, by simp only; omega⟩, ?_⟩
          refine ⟨⟨by simp only; omega, by simp only; omega, by simp only; omega⟩, ?_⟩
          refine ⟨_, gB, ?_⟩
          have hE : gComp (l.take (k + (k2 + 1))) = if l[k + k2 - 1] = l[k + k2] then gComp (l.take (k + k2)) else gComp (l.take (k + k2)) ++ [l[k + k2]] := by
            obtain ⟨j, hj⟩ : ∃ j, k + k2 = j + 1 := ⟨k + k2 - 1, by omega⟩
            have := gComp_take (l := l) (j := j) (by omega)
            rw [show k + (k2 + 1) = j + 2 by omega]
            simp only [hj, Nat.add_sub_cancel]
            exact this
          refine ⟨fun h => ?_, fun h => ?_⟩
          · have hne : ¬ l[k + k2] = l[k + k2 - 1] := by
              intro e
              rw [decide_eq_true e] at h
              cases h
            rw [if_neg (fun e => hne e.symm)] at hE
            refine .inl ?_
            refine ⟨⟨by simp only; omega, by simp only; omega, by simp only; omega⟩, ?_⟩
            refine ⟨_, gA, ?_⟩
            refine ⟨⟨by simp only; omega, by simp only; rw [hec]; omega⟩, ?_⟩
            have hk' : k' < cur.length := by omega
            refine ⟨[.int .i64 cur[k']], by show (iRows cur)[((k' : Nat) : Int).toNat]? = _; rw [Int.toNat_natCast]; exact iRows_get hk', ?_⟩
            have e5 : (iRows cur).set ((k' : Int)).toNat [.int .i64 l[k + k2]] = iRows (cur.set k' l[k + k2]) := by
              rw [Int.toNat_natCast]; exact iRows_set cur k' _
            refine ⟨⟨by simp only; omega, by simp only; omega⟩, ?_⟩
            refine ⟨⟨by simp only; omega, by simp only; omega⟩, (k' + 1, k2 + 1, cur.set k' l[k + k2]), [(0, 0)], ?_, ⟨rfl, by simp only [List.length_set]; exact c1, by simp only; omega, by simp only; omega, by simp only; omega, by simp only; omega, ?_, fun j hj => ?_⟩, by simp only; omega⟩
            · exact ⟨⟨rfl, rfl, ⟨rfl, rfl, rfl, rfl⟩, rfl, trivial⟩, ⟨e5, trivial⟩⟩
            · simp only
              rw [hE, ← c6, List.take_add_one, List.getElem?_set_self hk', Option.toList_some, List.take_set_of_le (Nat.le_refl _)]
            · simp only at hj ⊢
              rw [List.getElem?_set_ne (by omega)]
              exact c7 j (by omega)
          · have he : l[k + k2] = l[k + k2 - 1] := by
              cases hh : decide (l[k + k2] = l[k + k2 - 1]) with
              | true => exact dt hh
              | false => rw [hh] at h; cases h
            rw [if_pos he.symm] at hE
            refine ⟨⟨by simp only; omega, by simp only; omega⟩, (k', k2 + 1, cur), [(0, 0)], ?_, ⟨rfl, c1, by simp only; omega, by simp only; omega, c4, by simp only; omega, ?_, fun j hj => c7 j (by simp only at hj; omega)⟩, by simp only; omega⟩
            · exact ⟨⟨rfl, rfl, ⟨rfl, rfl, rfl, rfl⟩, rfl, trivial⟩, ⟨rfl, trivial⟩⟩
            · simp only
              rw [hE, ← c6]
        · have hk2l : k + k2 = l.length := by have := df h; simp only at this; omega
          rw [hk2l, List.take_length] at c6
          have hk' : k' ≤ cur.length := by omega
          refine .inr ?_
          refine ⟨⟨by simp only; omega, by simp only; rw [hec]; omega, by simp only; rw [hec]; omega⟩, ?_⟩
          refine ⟨by show ((k' : Nat) : Int).toNat + (((iRows cur).length : Int).toNat - ((k' : Nat) : Int).toNat) ≤ (iRows cur).length; simp only [Int.toNat_natCast]; rw [hec]; omega, ?_⟩
          have hcl : ∀ (z : List (List Value)), ((iRows cur).take ((k' : Nat) : Int).toNat ++ z).take ((k' : Nat) : Int).toNat = iRows (gComp l) := fun z => by
            rw [Int.toNat_natCast, List.take_append_of_le_length (by rw [List.length_take]; omega), List.take_take, Nat.min_self, ← List.map_take, c6]
          refine .inl ⟨⟨by simp only; omega, ?_⟩, ?_⟩
          · show ((k' : Nat) : Int) ≤ ((((iRows cur).take ((k' : Nat) : Int).toNat ++ List.replicate _ _ ++ _ : List (List Value)).length : Nat) : Int)
            rw [List.length_append, List.length_append, List.length_take, Int.toNat_natCast, hec]
            omega
          · refine ⟨.own 1, [(0, .dead), (1, .row 3 1 (iRows (gComp l)))], 2, [(1, 1)], ⟨⟨rfl, trivial⟩, ⟨trivial, ?_, trivial⟩⟩, hK⟩
            have := hcl (List.replicate (((iRows cur).length : Int).toNat - ((k' : Nat) : Int).toNat) [.int .i64 0] ++ (iRows cur).drop (((k' : Nat) : Int).toNat + (((iRows cur).length : Int).toNat - ((k' : Nat) : Int).toNat)))
            rw [← List.append_assoc] at this
            exact this
      · have he : ¬ l[k] = l[k - 1] := df h
        rw [if_neg (fun e => he e.symm), hg] at hgt
        refine ⟨⟨by omega, by omega⟩, k + 1, [(0, 0)], ?_, ⟨rfl, by omega, by omega, ?_⟩, by dsimp only; omega⟩
        · exact ⟨⟨rfl, rfl, trivial⟩, ⟨rfl, trivial⟩⟩
        · rw [hgt, List.take_add_one, List.getElem?_eq_getElem hlt]; rfl
    · have hkl : k = l.length := by have := df h; rw [hel] at this; omega
      rw [hkl, List.take_length] at hg
      rw [hg] at hK
      exact ⟨.own 1, [(0, .dead), (1, .row 3 1 (iRows l))], 2, [(1, 0)], ⟨⟨rfl, trivial⟩, ⟨trivial, rfl, trivial⟩⟩, hK⟩
end Go.Proofs
