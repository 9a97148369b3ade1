/- Part 'Sf1' of the proof: lemmas, each with its own conditions in its own statement. -/
import Derived.Test.YtjflpceoeofomaaSf0
import Derived.Test.YtjflpceoeofomaaF2
namespace Go.Proofs
open Go.Sy Go.Sort Go.Shelf
set_option maxRecDepth 20000
theorem flat_get {k : Nat} : ∀ (l : List (List Value)), (∀ x ∈ l, x.length = k) → ∀ i j, i < l.length → j < k → l.flatten[i * k + j]? = (l[i]?.bind fun x => x[j]?)
  | [], _, i, j, hi, _ => absurd hi (Nat.not_lt_zero i)
  | x :: r, h, i, j, hi, hj => by
    have hx := h x List.mem_cons_self
    rw [List.flatten_cons]
    match i with
    | 0 => rw [Nat.zero_mul, Nat.zero_add, List.getElem?_append_left (by omega)]; rfl
    | i + 1 =>
      have e : (i + 1) * k + j = k + (i * k + j) := by rw [Nat.add_mul, Nat.one_mul]; omega
      rw [e, List.getElem?_append_right (by omega), hx, Nat.add_sub_cancel_left]
      simp only [List.length_cons] at hi
      rw [flat_get r (fun y hy => h y (List.mem_cons_of_mem _ hy)) i j (by omega) hj]
      rfl
theorem flat_len {k : Nat} : ∀ (l : List (List Value)), (∀ x ∈ l, x.length = k) → l.flatten.length = l.length * k
  | [], _ => by simp
  | x :: r, h => by
    rw [List.flatten_cons, List.length_append, h x List.mem_cons_self, flat_len r (fun y hy => h y (List.mem_cons_of_mem _ hy)), List.length_cons, Nat.add_mul, Nat.one_mul]; omega
theorem flatK_eq {α : Type} [Inhabited α] (enc : α → List Value) {k : Nat} (hk : ∀ x, (enc x).length = k) (l : List α) : (flatK enc k l.toArray).toList = (l.map enc).flatten := by
  have hl : ∀ x ∈ l.map enc, x.length = k := fun x hx => by
    obtain ⟨y, _, rfl⟩ := List.mem_map.1 hx
    exact hk y
  have hlen := flat_len _ hl
  rw [List.length_map] at hlen
  have hs : (flatK enc k l.toArray).toList.length = l.length * k := by rw [Array.length_toList, size_flatK]; simp
  apply List.ext_getElem?
  intro t
  by_cases ht : t < l.length * k
  · have hk0 : 0 < k := by
      rcases Nat.eq_zero_or_pos k with h | h
      · subst h; omega
      · exact h
    have hdm : t / k * k + t % k = t := by rw [Nat.mul_comm]; exact Nat.div_add_mod t k
    have hi : t / k < l.length := Nat.div_lt_of_lt_mul (by rw [Nat.mul_comm]; exact ht)
    have hj : t % k < k := Nat.mod_lt _ hk0
    have h1 := flat_get (l.map enc) hl (t / k) (t % k) (by rw [List.length_map]; exact hi) hj
    rw [hdm] at h1
    rw [h1, List.getElem?_map, List.getElem?_eq_getElem hi]
    have h2 := get_flatK enc k l.toArray t (by simpa using ht)
    have h3 : t < (flatK enc k l.toArray).size := by rw [size_flatK]; simpa using ht
    rw [Array.getElem?_toList, Array.getElem?_eq_getElem h3, ← getElem!_pos (flatK enc k l.toArray) t h3, h2]
    have h4 : l.toArray[t / k]! = l[t / k] := by rw [getElem!_pos l.toArray (t / k) (by simpa using hi)]; simp
    have h5 : t % k < (enc l[t / k]).length := by rw [hk]; exact hj
    rw [h4, getElem!_pos (enc l[t / k]) (t % k) h5, Option.map_some, Option.bind_some, List.getElem?_eq_getElem h5]
  · rw [List.getElem?_eq_none (by omega), List.getElem?_eq_none (by omega)]
theorem get!_toList {a : Array Value} {j : Nat} (h : j < a.size) : a.toList[j]? = some a[j]! := by
  rw [Array.getElem?_toList, Array.getElem?_eq_getElem h, getElem!_pos a j h]
theorem sort_spec {α : Type} [Inhabited α] {ρr : Ren} {f g : FuncId} {e : TypeId} {k : Nat} (L : SlLaysF0.n6 Try.prog ρr) (ef : ρr.f 6 = f) (hc : ∀ args w, (callFunc f args).run Try.prog w = .ok (.enter f args) w)
    (aE : ∀ w, (isAgg (ρr.t 24)).run Try.prog w = .ok true w) (zE : ∀ w, (Go.sizeOf (ρr.t 24)).run Try.prog w = .ok k w) (enc : α → List Value) (hk : ∀ x, (enc x).length = k) (h1 : ∀ x, ∀ v ∈ enc x, v.oneCell' = true)
    (cf : α → α → Int) (hO : SWO (ltOf cf)) (hT : ∀ x y, (ltOf cf) x y = false → (ltOf cf) y x = false → x = y) (hcmp : ∀ x y : α, Does Try.prog g [.agg (enc x).toArray, .agg (enc y).toArray] (fun _ => none) fun v _ => v = .int .i64 (cf x y))
    {l : List α} (hl : l.length < 4611686018427387904) {bx : List (Nat × Bx)} {nx b : Nat} (hb : lk bx b = some (.row e k (l.map enc))) {H : Hp} {K : SV → St → Hp → Prop}
    (hK : K (.tup []) ⟨[], (b, .row e k ((l.mergeSort fun x y => !(ltOf cf) y x).map enc)) :: bx, nx⟩ H) : DoesG Try.prog f [.own b, .fn g []] bx nx H K := by
  subst ef
  have hperm := List.mergeSort_perm l (fun x y => !(ltOf cf) y x)
  have hsl : (l.mergeSort fun x y => !(ltOf cf) y x).length = l.length := hperm.length_eq
  refine doesG_turn hc hb (by rw [List.length_map, List.length_map, hsl]) (fun x hx => ?_) (fun w ρ hm => ?_) hK
  · obtain ⟨y, _, rfl⟩ := List.mem_map.1 hx
    exact ⟨hk y, h1 y⟩
  have hbox := (hm.ok _ _ hb).2.1
  obtain ⟨⟨hfl, hv⟩, hall, hvb⟩ := hbox
  rw [List.length_map] at hv
  rcases hv with ⟨hv, h0⟩ | ⟨q, cap, cur, hv, _, hcell, hcap, hmax, hsz, hcur⟩
  · have hnil : l = [] := List.eq_nil_of_length_eq_zero h0
    subst hnil
    have hh := AnyF.slices_SortFunc_none L none 0 (.func (.func g) #[] #[]) w
    show Calls Try.prog (ρr.f 6) #[ρ.val b, .func (.func g) #[] #[]] w _
    rw [hv]
    refine hh.mono fun ev w' ⟨e1, e2⟩ => ?_
    subst e2
    refine ⟨e1, rfl, rfl, OD.refl _, Nat.le_refl _, fun _ _ _ => rfl, ?_⟩
    exact ⟨by simp, .inl ⟨rfl, by simp⟩⟩
  · have hqs : q < w.heap.size := (Array.getElem?_eq_some_iff.1 hcell).1
    show Calls Try.prog (ρr.f 6) #[ρ.val b, .func (.func g) #[] #[]] w _
    have hfk := flatK_eq enc hk l
    have hfs : (flatK enc k l.toArray).size = l.length * k := by rw [size_flatK]; simp
    have hlk : l.length * k ≤ cur.size := by rw [hsz]; exact Nat.mul_le_mul_right _ hcap
    have hH : HoldsK enc k w q 0 l.toArray := by
      intro j hj
      rw [hfs] at hj
      have hj2 : j < cur.size := by omega
      constructor
      · have e1 : cur.toList[j]? = some (flatK enc k l.toArray)[j]! := by
          rw [← get!_toList (by rw [hfs]; exact hj), hfk, ← hcur, List.getElem?_take_of_lt hj]
        rw [Nat.zero_add]
        simp only [World.cell?, hcell]
        rw [← Array.getElem?_toList]
        exact e1
      · simp only [World.frozen?, hcell]
        simp
    have hcl : CmpLays Try.prog g #[] enc k cf q 0 l.toArray.size w := by
      intro m os dk _ x y
      have := (hcmp x y).2 (sortWorldK enc k w q 0 m dk os) (fun _ _ h => by cases h)
      refine this.mono fun ev w' ⟨v, H', e1, e2, _, _, _, e6⟩ => ⟨by rw [e1, e2], grow_of e6⟩
    have hlsz : l.toArray.size = l.length := by simp
    have hmain := AnyQ.slices_SortFunc_total L k aE zE enc hk h1 cf hO g #[] q 0 cap l.toArray w (hcmp default default).1 hcl hH hqs (by rw [hlsz]; exact hl) hT
    rw [hlsz] at hmain
    rw [hv]
    refine hmain.mono fun ev w' ⟨e1, n, os, e2⟩ => ?_
    subst e2
    obtain ⟨sl, hsle⟩ : ∃ sl, sl = l.mergeSort fun x y => !(ltOf cf) y x := ⟨_, rfl⟩
    have hlist : l.toArray.toList = l := by simp
    rw [hlist, ← hsle]
    rw [← hsle] at hsl
    have hsf := flatK_eq enc hk sl
    have hss : (flatK enc k sl.toArray).size = l.length * k := by rw [size_flatK]; simp [hsl]
    have hheap : ∀ b', b' < w.heap.size → (sortWorldK enc k w q 0 n sl.toArray os).heap[b']? = if b' = q then some (.cells (putCells id 0 (flatK enc k sl.toArray) cur) e (0, 0)) else w.heap[b']? := by
      intro b' hb'
      show ((w.heap.modify q _) ++ os)[b']? = _
      rw [Array.getElem?_append_left (by simpa using hb'), Array.getElem?_modify]
      by_cases hq : q = b'
      · subst hq
        rw [if_pos rfl, if_pos rfl, hcell]; rfl
      · rw [if_neg hq, if_neg (fun h => hq h.symm)]
    refine ⟨e1, rfl, rfl, ⟨rfl, Nat.le_add_right _ _⟩, ?_, fun b' hb' hn => ?_, ?_⟩
    · show w.heap.size ≤ ((w.heap.modify q _) ++ os).size
      simp
    · rw [hheap b' hb', if_neg]
      rintro rfl
      exact hn (by show (ρ.val b).ownBlock = some b'; rw [hv]; rfl)
    · refine ⟨?_, .inr ⟨q, cap, putCells id 0 (flatK enc k sl.toArray) cur, ?_, Nat.zero_le _, ?_, ?_, hmax, ?_, ?_⟩⟩
      · rw [flat_len (k := k) _ (fun x hx => by obtain ⟨y, _, rfl⟩ := List.mem_map.1 hx; exact hk y)]
      · rw [List.length_map, hsl]
      · rw [hheap q hqs, if_pos rfl]
      · rw [List.length_map, hsl]; exact hcap
      · simp [putCells, hsz]
      · rw [List.length_map, hsl, ← hsf]
        apply List.ext_getElem?
        intro j
        by_cases hj : j < l.length * k
        · have hj2 : j < cur.size := by omega
          rw [List.getElem?_take_of_lt hj, get!_toList (a := flatK enc k sl.toArray) (by rw [hss]; exact hj)]
          simp only [putCells, Array.getElem?_toList, Array.getElem?_mapIdx, Array.getElem?_eq_getElem hj2, Option.map_some]
          rw [if_pos ⟨Nat.zero_le _, by rw [hss]; omega⟩]
          rfl
        · rw [List.getElem?_eq_none (by rw [List.length_take]; omega), List.getElem?_eq_none (by rw [Array.length_toList, hss]; omega)]
theorem orI_neg {a b : Int} : orI a b < 0 ↔ a < 0 ∨ (a = 0 ∧ b < 0) := by
  unfold orI
  split
  · constructor
    · exact .inl
    · rintro (h | ⟨h, _⟩)
      · exact h
      · contradiction
  · rename_i h
    have h0 : a = 0 := by omega
    constructor
    · exact fun h' => .inr ⟨h0, h'⟩
    · rintro (h' | ⟨_, h'⟩)
      · omega
      · exact h'
theorem cmpI_neg {x y : Int} : cmpI x y < 0 ↔ x < y := by
  unfold cmpI
  split
  · omega
  · split <;> omega
theorem cmpI_zero {x y : Int} : cmpI x y = 0 ↔ x = y := by
  unfold cmpI
  split
  · omega
  · split <;> omega
theorem cmpE_neg {a b : Edg} : cmpE a b < 0 ↔ LO.lt a b := by
  rw [cmpE, orI_neg, cmpI_neg, cmpI_zero, cmpI_neg]
  exact Iff.rfl
theorem ltE_true {a b : Edg} : ltOf cmpE a b = true ↔ LO.lt a b := by rw [ltOf, decide_eq_true_eq, cmpE_neg]
theorem ltE_false {a b : Edg} : ltOf cmpE a b = false ↔ ¬ LO.lt a b := by rw [← ltE_true]; simp
theorem swoE : SWO (ltOf cmpE) := ⟨fun x => ltE_false.2 (LO.irrefl x), fun x y z h1 h2 => ltE_true.2 (LO.trans (ltE_true.1 h1) (ltE_true.1 h2)), fun x y z h1 h2 => by
  rw [ltE_false] at *
  intro h3
  rcases LO.tri x y with h | h | h
  · exact h1 h
  · subst h; exact h2 h3
  · rcases LO.tri y z with h' | h' | h'
    · exact h2 h'
    · subst h'; exact h1 h3
    · exact LO.irrefl _ (LO.trans h3 (LO.trans h' h))⟩
abbrev eEnc (x : Edg) : List Value := [.int .i64 x.1, .int .i64 x.2]
theorem sortE_spec {l : List Edg} (hl : l.length < 8000000000000) {H : Hp} {K : SV → St → Hp → Prop}
    (hK : ∀ l' : List Edg, l'.length = l.length → gComp l' = gSort l → K (.tup []) ⟨[], [(0, .row 63 2 (eRows l')), (0, .row 63 2 (eRows l))], 1⟩ H) : DoesG Try.prog 75 [.own 0, .fn 76 []] [(0, .row 63 2 (eRows l))] 1 H K := by
  refine sort_spec (e := 63) (k := 2) Try.laysSf75 rfl Try.call75 Try.isAgg63 Try.sizeOf63 eEnc (fun _ => rfl) (fun x v hv => ?_) cmpE swoE (fun x y h1 h2 => ?_) (fun x y => cmpE_spec fun _ _ => rfl) (l := l) (by omega) rfl ?_
  · simp only [List.mem_cons, List.not_mem_nil, or_false] at hv
    rcases hv with rfl | rfl <;> rfl
  · rw [ltE_false] at h1 h2
    rcases LO.tri x y with h | h | h
    · exact absurd h h1
    · exact h
    · exact absurd h h2
  · have hp := List.mergeSort_perm l (fun x y => !(ltOf cmpE) y x)
    refine hK _ hp.length_eq (gComp_sort (fun t => hp.mem_iff) ?_)
    have := List.pairwise_mergeSort (le := fun x y => !(ltOf cmpE) y x) (fun a b c h1 h2 => ?_) (fun a b => ?_) l
    · exact this.imp fun h => by
        simp only [Bool.not_eq_eq_eq_not, Bool.not_true] at h
        exact ltE_false.1 h
    · simp only [Bool.not_eq_eq_eq_not, Bool.not_true] at h1 h2 ⊢
      exact swoE.ntrans _ _ _ h2 h1
    · cases h : ltOf cmpE b a with
      | false => rfl
      | true =>
        have : ltOf cmpE a b = false := ltE_false.2 (LO.asymm (ltE_true.1 h))
        rw [this]; rfl
end Go.Proofs
