/- Part 'Si1' of the proof: lemmas, each with its own conditions in its own statement. -/
import Derived.Test.YtjflpceoeofomaaSi0
import Derived.Test.YtjflpceoeofomaaF2
namespace Go.Proofs
open Go.Sy Go.Sort Go.Shelf
set_option maxRecDepth 20000
theorem iRows_flatten (l : List Int) : (iRows l).flatten = l.map (Value.int .i64) := iRows_flat l
theorem sortI_spec {l : List Int} (hl : l.length < 8000000000000) {H : Hp} {K : SV → St → Hp → Prop}
    (hK : ∀ l' : List Int, l'.length = l.length → l'.Perm l → gComp l' = gSort l → K (.tup []) ⟨[], [(0, .row 3 1 (iRows l')), (0, .row 3 1 (iRows l))], 1⟩ H) : DoesG Try.prog 67 [.own 0] [(0, .row 3 1 (iRows l))] 1 H K := by
  obtain ⟨sl, hsle⟩ : ∃ sl, sl = l.mergeSort fun x y => decide (x ≤ y) := ⟨_, rfl⟩
  have hperm : sl.Perm l := by rw [hsle]; exact List.mergeSort_perm l _
  have hsl := hperm.length_eq
  have hpw : sl.Pairwise fun x y => ¬ LO.lt y x := by
    have := List.pairwise_mergeSort (le := fun (x y : Int) => decide (x ≤ y)) (fun a b c h1 h2 => by
      have := dt h1; have := dt h2; exact decide_eq_true (by omega)) (fun a b => by
      rcases Int.le_total a b with h | h
      · rw [decide_eq_true h]; rfl
      · rw [decide_eq_true h]; simp) l
    rw [hsle]
    exact this.imp fun h h' => by
      have h1 := dt h
      have h2 : _ < _ := h'
      omega
  refine doesG_turn (e := 3) (sz := 1) (xs := iRows l) (ys := iRows sl) Try.call67 rfl (by rw [List.length_map, List.length_map, hsl]) (fun x hx => iRows_one sl x hx) (fun w ρ hm => ?_) (hK sl hsl hperm (gComp_sort (fun t => hperm.mem_iff) hpw))
  have hbox := (hm.ok 0 (.row 3 1 (iRows l)) rfl).2.1
  obtain ⟨⟨hfl, hv⟩, hall, hvb⟩ := hbox
  rw [List.length_map] at hv
  rcases hv with ⟨hv, h0⟩ | ⟨q, cap, cur, hv, _, hcell, hcap, hmax, hsz, hcur⟩
  · have hnil : l = [] := List.eq_nil_of_length_eq_zero h0
    have hnil2 : sl = [] := List.eq_nil_of_length_eq_zero (by omega)
    have hh := Any.slices_Sort_int_none Try.lays189 none 0 w
    show Calls Try.prog 67 #[ρ.val 0] w _
    rw [hv]
    refine hh.mono fun ev w' ⟨e1, e2⟩ => ?_
    rw [e2]
    refine ⟨e1, rfl, rfl, OD.refl _, Nat.le_refl _, fun _ _ _ => rfl, ?_⟩
    rw [hnil2]
    exact ⟨by simp, .inl ⟨rfl, by simp⟩⟩
  · have hqs : q < w.heap.size := (Array.getElem?_eq_some_iff.1 hcell).1
    rw [Nat.mul_one] at hsz hcur
    rw [iRows_flatten] at hcur
    show Calls Try.prog 67 #[ρ.val 0] w _
    have hlk : l.length ≤ cur.size := by rw [hsz]; exact hcap
    have hH : Holds (Value.int .i64) w q 0 l.toArray := by
      intro j hj
      have hj1 : j < l.length := by simpa using hj
      have hj2 : j < cur.size := by omega
      constructor
      · have e1 : cur.toList[j]? = some (.int .i64 l.toArray[j]!) := by
          rw [← List.getElem?_take_of_lt hj1, hcur, List.getElem?_map, List.getElem?_eq_getElem hj1, getElem!_pos l.toArray j hj]
          rfl
        rw [Nat.zero_add]
        simp only [World.cell?, hcell]
        rw [← Array.getElem?_toList]
        exact e1
      · simp only [World.frozen?, hcell]
        simp
    have hmain := Any.slices_Sort_int Try.lays189 q 0 cap l w hH hqs (by omega)
    rw [hv]
    refine hmain.mono fun ev w' ⟨e1, n, os, e2⟩ => ?_
    rw [e2, ← hsle]
    have hss : sl.toArray.size = l.length := by simp [hsl]
    have hheap : ∀ b', b' < w.heap.size → (grow (putRow (Value.int .i64) (Sort.ahead w n) q 0 sl.toArray) os).heap[b']? = if b' = q then some (.cells (putCells (Value.int .i64) 0 sl.toArray cur) 3 (0, 0)) else w.heap[b']? := by
      intro b' hb'
      show ((w.heap.modify q _) ++ os)[b']? = _
      rw [Array.getElem?_append_left (by simpa using hb'), Array.getElem?_modify]
      by_cases hq : q = b'
      · subst hq
        rw [if_pos rfl, if_pos rfl, hcell]; rfl
      · rw [if_neg hq, if_neg (fun h => hq h.symm)]
    refine ⟨e1, rfl, rfl, ⟨rfl, Nat.le_add_right _ _⟩, ?_, fun b' hb' hn => ?_, ?_⟩
    · show w.heap.size ≤ ((w.heap.modify q _) ++ os).size
      simp
    · rw [hheap b' hb', if_neg]
      rintro rfl
      exact hn (by show (ρ.val 0).ownBlock = some b'; rw [hv]; rfl)
    · refine ⟨?_, .inr ⟨q, cap, putCells (Value.int .i64) 0 sl.toArray cur, ?_, Nat.zero_le _, ?_, ?_, hmax, ?_, ?_⟩⟩
      · rw [iRows_flatten]; simp
      · rw [List.length_map, hsl]
      · rw [hheap q hqs, if_pos rfl]
      · rw [List.length_map, hsl]; exact hcap
      · simp [putCells, hsz]
      · rw [List.length_map, hsl, Nat.mul_one, iRows_flatten]
        apply List.ext_getElem?
        intro j
        by_cases hj : j < l.length
        · have hj2 : j < cur.size := by omega
          have hj3 : j < sl.length := by omega
          rw [List.getElem?_take_of_lt hj]
          simp only [putCells, Array.getElem?_toList, Array.getElem?_mapIdx, Array.getElem?_eq_getElem hj2, Option.map_some]
          rw [if_pos ⟨Nat.zero_le _, by rw [hss]; omega⟩, List.getElem?_map, List.getElem?_eq_getElem hj3, Nat.sub_zero, getElem!_pos sl.toArray j (by rw [hss]; exact hj)]
          rfl
        · rw [List.getElem?_eq_none (by rw [List.length_take]; omega), List.getElem?_eq_none (by rw [List.length_map]; omega)]
end Go.Proofs
