/- Part 'Br' of the proof: lemmas, each with its own conditions in its own statement. -/
import Derived.Test.YtjflpceoeofomaaSyOk11
import Derived.Laws.IdiomCopy
import Derived.Sort.Grow
import Derived.Deep.Draws
/-! From a call's law on the machine to a contract over boxes: a row that is turned into another. -/
namespace Go.Sy
open Go.RowKit (Below)

theorem doesG_move {P : Program} {f : FuncId} {args : List SV} {bx : List (Nat × Bx)} {nx : Nat} {H : Hp} {K : SV → St → Hp → Prop} {k : Nat} {b : Bx} {e : TypeId} {sz : Nat} {ys : List (List Value)}
    (hc : ∀ as w, (callFunc f as).run P w = .ok (.enter f as) w) (hk : lk bx k = some b) (hys : ∀ x ∈ ys, x.length = sz ∧ ∀ u ∈ x, u.oneCell' = true)
    (h : ∀ (w : World) (ρ : Rho), Mem (Bs.lent w ρ bx nx H) ρ bx nx H w → Calls P f (gas ρ args).toArray w fun ev w' => ∃ v : Option Addr × Nat × Nat, ev = .returned (.slice v.1 v.2.1 v.2.2) ∧
      w'.os = w.os ∧ w'.tape = w.tape ∧ OD w w' ∧ w.heap.size ≤ w'.heap.size ∧ (∀ g, g < w.heap.size → ¬ Owns ρ k b g → w'.heap[g]? = w.heap[g]?) ∧
      w'.ownsRow 0 e sz (.slice v.1 v.2.1 v.2.2) ys.length ys.flatten ∧ (∀ g, (Value.slice v.1 v.2.1 v.2.2).ownBlock = some g → Owns ρ k b g ∨ w.heap.size ≤ g))
    (hK : K (.own nx) ⟨[], (nx, .row e sz ys) :: (k, .dead) :: bx, nx + 1⟩ H) : DoesG P f args bx nx H K := by
  refine ⟨hc, fun w ρ hm hl => (h w ρ hm).mono fun ev w' ⟨v, h1, h2, h3, h4, h5, h6, h7, h8⟩ => ?_⟩
  let C : Cx := { P := P, tt := fun _ => none, n := 0, wrap := false, base := 0, gf := [], eqs := [], xf := [] }
  have hr : Rel C (Bs.lent w ρ bx nx H) ρ ⟨[], bx, nx⟩ H { tmps := #[], defers := [] } w := ⟨fun t x hx => by simp [lk] at hx, rfl, rfl, hm⟩
  obtain ⟨ρ', hr', hg⟩ := hr.moved (e := e) (sz := sz) (xs := ys) (w' := w') (v := v) hk h2 h3 h4 h5 h6 h7 hys h8
  exact ⟨_, _, H, ρ', by rw [hg]; exact h1, hK, by rw [SV.lt]; exact Nat.ble_eq_true_of_le (Nat.le_refl _), hr'.mem⟩

theorem setCells_heap (b : Nat) {T : TypeId} {fr : Nat × Nat} : ∀ (vs : List Value) (o : Nat) (w : World) (c : Array Value), w.heap[b]? = some (.cells c T fr) → o + vs.length ≤ c.size →
    ∃ c', (w.setCells b o vs).heap[b]? = some (.cells c' T fr) ∧ c'.toList = c.toList.take o ++ vs ++ c.toList.drop (o + vs.length) ∧ (∀ g, g ≠ b → (w.setCells b o vs).heap[g]? = w.heap[g]?) ∧ (w.setCells b o vs).heap.size = w.heap.size ∧
      (w.setCells b o vs).os = w.os ∧ (w.setCells b o vs).tape = w.tape ∧ OD w (w.setCells b o vs)
  | [], o, w, c, h, _ => ⟨c, h, by simp, fun _ _ => rfl, rfl, rfl, rfl, OD.refl _⟩
  | v :: r, o, w, c, h, hle => by
    rw [World.setCells]
    have hb : b < w.heap.size := (Array.getElem?_eq_some_iff.1 h).1
    have h1 : (w.setCell ⟨b, o, none⟩ v).heap[b]? = some (.cells (c.setIfInBounds o v) T fr) := by
      simp only [World.setCell]
      rw [Array.getElem?_modify, if_pos rfl, h]
      rfl
    have h2 : ∀ g, g ≠ b → (w.setCell ⟨b, o, none⟩ v).heap[g]? = w.heap[g]? := fun g hg => by
      simp only [World.setCell]
      rw [Array.getElem?_modify, if_neg (fun e => hg e.symm)]
    have h3 : (w.setCell ⟨b, o, none⟩ v).heap.size = w.heap.size := by simp [World.setCell]
    simp only [List.length_cons] at hle
    obtain ⟨c', k1, k2, k3, k4, k5, k6, k7⟩ := setCells_heap b r (o + 1) (w.setCell ⟨b, o, none⟩ v) (c.setIfInBounds o v) h1 (by simp; omega)
    refine ⟨c', k1, ?_, fun g hg => (k3 g hg).trans (h2 g hg), k4.trans h3, k5, k6, k7⟩
    rw [k2]
    have hl : o < c.toList.length := by simp; omega
    have e1 : (c.setIfInBounds o v).toList = c.toList.set o v := by simp
    rw [e1, List.take_set, List.drop_set_of_lt (by omega), List.length_cons]
    have e2 : (c.toList.take (o + 1)).set o v = c.toList.take o ++ [v] := by
      rw [List.take_add_one, List.getElem?_eq_getElem hl, Option.toList_some, List.set_append_right _ _ (by rw [List.length_take]; omega)]
      rw [List.length_take, Nat.min_eq_left (by omega), Nat.sub_self]
      rfl
    rw [e2, show o + 1 + r.length = o + (r.length + 1) by omega]
    simp only [List.append_assoc, List.cons_append, List.nil_append]

/-- A row is turned in place; nothing is handed back. -/
theorem doesG_turn {P : Program} {f : FuncId} {args : List SV} {bx : List (Nat × Bx)} {nx : Nat} {H : Hp} {K : SV → St → Hp → Prop} {k : Nat} {e : TypeId} {sz : Nat} {xs ys : List (List Value)}
    (hc : ∀ as w, (callFunc f as).run P w = .ok (.enter f as) w) (hk : lk bx k = some (.row e sz xs)) (_ : ys.length = xs.length) (hys : ∀ x ∈ ys, x.length = sz ∧ ∀ u ∈ x, u.oneCell' = true)
    (h : ∀ (w : World) (ρ : Rho), Mem (Bs.lent w ρ bx nx H) ρ bx nx H w → Calls P f (gas ρ args).toArray w fun ev w' => ev = .returned (.tuple #[]) ∧
      w'.os = w.os ∧ w'.tape = w.tape ∧ OD w w' ∧ w.heap.size ≤ w'.heap.size ∧ (∀ g, g < w.heap.size → ¬ Owns ρ k (.row e sz xs) g → w'.heap[g]? = w.heap[g]?) ∧
      w'.ownsRow 0 e sz (ρ.val k) ys.length ys.flatten)
    (hK : K (.tup []) ⟨[], (k, .row e sz ys) :: bx, nx⟩ H) : DoesG P f args bx nx H K := by
  refine ⟨hc, fun w ρ hm hl => (h w ρ hm).mono fun ev w' ⟨h1, h2, h3, h4, h5, h6, h7⟩ => ?_⟩
  have hb := (hm.ok _ _ hk).2.1
  refine ⟨.tup [], _, H, ρ, by rw [h1, ga, gas], hK, rfl, ?_⟩
  exact hm.write hk h2 h3 h4 h5 h6 rfl ⟨h7, hys, hb.2.2⟩ (fun g hg => hg)

theorem grow_of {w w' : World} (hb : BelowD w.heap.size w w') : ∃ q os, w' = Sort.grow (w.drewN q) os := by
  refine ⟨w'.drawn - w.drawn, w'.heap.extract w.heap.size w'.heap.size, ?_⟩
  obtain ⟨⟨h1, h2, h3, h4, h5⟩, h6⟩ := hb
  have hh : w'.heap = w.heap ++ w'.heap.extract w.heap.size w'.heap.size := by
    apply Array.ext_getElem?
    intro i
    by_cases hi : i < w.heap.size
    · rw [h5 i hi, Array.getElem?_append_left hi]
    · rw [Array.getElem?_append_right (by omega), Array.getElem?_extract]
      split
      · congr 1; omega
      · rw [Array.getElem?_eq_none (by omega)]
  obtain ⟨a1, a2, a3, a4, a5⟩ := w'
  obtain ⟨b1, b2, b3, b4, b5⟩ := w
  simp only at h1 h2 h3 h6 hh
  subst h1 h2 h3
  simp only [Sort.grow, World.drewN, World.mk.injEq, and_true, true_and]
  exact ⟨hh, by omega⟩
end Go.Sy
