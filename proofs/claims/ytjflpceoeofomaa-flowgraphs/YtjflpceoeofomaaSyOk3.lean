/- Part 'SyOk3' of the proof: lemmas, each with its own conditions in its own statement. -/
import Derived.Test.YtjflpceoeofomaaSyOk2
namespace Go.Sy
open Go.RowKit (Below)
section
variable {C : Cx} {B : Bs} {ρ : Rho} {s : St} {H : Hp} {a : Act} {w : World} {P : Program}

theorem bif_f {b : Bool} {p : Prop} (h : bif b then p else False) : b = true ∧ p := by
  cases b
  · exact h.elim
  · exact ⟨rfl, h⟩

theorem flat_get {sz : Nat} : ∀ {xs : List (List Value)} {i : Nat} {cs : List Value}, (∀ x ∈ xs, x.length = sz) → xs[i]? = some cs → ∀ j, j < sz → xs.flatten[i * sz + j]? = cs[j]?
  | [], i, cs, _, h, j, _ => by simp at h
  | x :: r, 0, cs, hx, h, j, hj => by
    simp only [List.getElem?_cons_zero, Option.some.injEq] at h
    subst h
    have := hx x List.mem_cons_self
    rw [List.flatten_cons, Nat.zero_mul, Nat.zero_add, List.getElem?_append_left (by omega)]
  | x :: r, i + 1, cs, hx, h, j, hj => by
    have h1 := hx x List.mem_cons_self
    rw [List.flatten_cons, List.getElem?_append_right (by rw [h1, Nat.add_mul]; omega), h1]
    rw [show (i + 1) * sz + j - sz = i * sz + j by rw [Nat.add_mul]; omega]
    exact flat_get (fun y hy => hx y (List.mem_cons_of_mem _ hy)) (by simpa using h) j hj

/-- An owned row that holds an element lies in a block. -/
theorem row_block {e : TypeId} {sz : Nat} {xs : List (List Value)} {k : Nat} (h : BoxOK ρ w k (.row e sz xs)) (hne : xs ≠ []) :
    ∃ cap cur, ρ.val k = .slice (some ⟨ρ.b k, 0, none⟩) xs.length cap ∧ w.heap[ρ.b k]? = some (.cells cur e (0, 0)) ∧ xs.length ≤ cap ∧ cur.size = cap * sz ∧ cur.toList.take (xs.length * sz) = xs.flatten := by
  obtain ⟨⟨_, h1⟩, _, h3⟩ := h
  rcases h1 with ⟨_, h2⟩ | ⟨g, cap, cur, hv, _, hg, hc, _, hs, ht⟩
  · exact absurd (List.eq_nil_of_length_eq_zero h2) hne
  · have := h3 g (by rw [hv]; rfl)
    subst this
    exact ⟨cap, cur, hv, hg, hc, hs, ht⟩

theorem row_cell {e : TypeId} {sz : Nat} {xs : List (List Value)} {k i : Nat} {cs : List Value} (h : BoxOK ρ w k (.row e sz xs)) (hi : xs[i]? = some cs) :
    ∀ j, j < sz → w.cell? ⟨ρ.b k, i * sz + j, none⟩ = cs[j]? := by
  intro j hj
  have hlt := (List.getElem?_eq_some_iff.1 hi).1
  obtain ⟨cap, cur, _, hg, _, _, ht⟩ := row_block h (by intro e; subst e; simp at hi)
  have h1 := flat_get (sz := sz) (fun x hx => (h.2.1 x hx).1) hi j hj
  have h2 : i * sz + j < xs.length * sz := by
    have : (i + 1) * sz ≤ xs.length * sz := Nat.mul_le_mul_right sz hlt
    rw [Nat.add_mul] at this
    omega
  rw [← ht, List.getElem?_take, if_pos h2] at h1
  rw [← h1]
  simp [World.cell?, hg]

theorem Addr.at2 {ad : Addr} (h : ad.spot = none) (n off : Nat) : (ad.add n).add off = ⟨ad.block, ad.off + n + off, none⟩ := by
  obtain ⟨b, o, sp⟩ := ad
  simp only at h
  subst h
  rw [Addr.at_, Addr.at_]

theorem Addr.add_add (ad : Addr) (m n : Nat) : (ad.add m).add n = ad.add (m + n) := by
  unfold Addr.add
  by_cases hm : m = 0 <;> by_cases hn : n = 0 <;> simp [hm, hn]
  omega

theorem tsize_ok (ht : TOK C) {T : TypeId} {n : Nat} (h : tsize C T = some n) (w : World) : (sizeOf T).run C.P w = .ok n w := by
  unfold tsize at h
  split at h
  · rename_i i hi
    simp only [Option.some.injEq] at h
    subst h
    have := (ht T i.1 i.2 hi).1
    simp [sizeOf, typeInfo, this]
  · cases h

theorem telem_ok (ht : TOK C) {T e : TypeId} (h : telem C T = some e) : C.P.underlying T = some (.slice e) := by
  unfold telem at h
  split at h
  · rename_i i e' hi
    simp only [Option.some.injEq] at h
    subst h
    exact (ht _ _ _ hi).2
  · cases h

theorem tfield_ok (ht : TOK C) {T : TypeId} {f : Nat} {fd : Field} (h : tfield C T f = some fd) : ∃ fs, C.P.underlying T = some (.struct fs) ∧ fs[f]? = some fd := by
  unfold tfield at h
  split at h
  · rename_i i fs hi
    exact ⟨fs, (ht _ _ _ hi).2, by simpa using h⟩
  · cases h

theorem tagg_ok (ht : TOK C) {T : TypeId} {n : Nat} (h : tsize C T = some n) (w : World) : (isAgg T).run C.P w = .ok (tagg C T) w := by
  unfold tsize at h
  split at h
  · rename_i i hi
    have := (ht T i.1 i.2 hi).2
    unfold isAgg tagg
    rw [Sem.run_bind, run_underlying this w, hi]
    obtain ⟨i1, d⟩ := i
    cases d <;> rfl
  · cases h

theorem mkv_ga {ag : Bool} {l : List SV} {r : SV} (h : mkv ag l = some r) : (ag = true ∧ r = .agg l) ∨ (ag = false ∧ l = [r]) := by
  unfold mkv at h
  cases ag with
  | true => simp only [cond_true, Option.some.injEq] at h; exact .inl ⟨rfl, h.symm⟩
  | false =>
    simp only [cond_false] at h
    split at h
    · simp only [Option.some.injEq] at h; subst h; exact .inr ⟨rfl, rfl⟩
    · cases h

theorem mkv_lt {ag : Bool} {l : List SV} {r : SV} {n : Nat} (h : mkv ag l = some r) (hl : SV.lts n l = true) : r.lt n = true := by
  rcases mkv_ga h with ⟨_, rfl⟩ | ⟨_, rfl⟩
  · rw [SV.lt]; exact hl
  · rw [lts_iff] at hl; exact hl r (by simp)

/-- A variable is read. -/
theorem loadVar_ok (ht : TOK C) {T : TypeId} {n : Nat} (hn : tsize C T = some n) {g off : Nat} {l : List SV} {r : SV} (hl : l.length = n)
    (hc : ∀ j v, (gas ρ l)[j]? = some v → w.cell? ⟨g, off + j, none⟩ = some v) (hr : mkv (tagg C T) l = some r) : (loadVar T ⟨g, off, none⟩).run C.P w = .ok (ga ρ r) w := by
  unfold loadVar
  rw [Sem.run_bind, tagg_ok ht hn w]
  simp only [Result.andThen_ok]
  rcases mkv_ga hr with ⟨h1, rfl⟩ | ⟨h1, rfl⟩
  · rw [h1, if_pos rfl, Sem.run_bind, tsize_ok ht hn w]
    simp only [Result.andThen_ok, Sem.run_bind]
    have := run_loadCells_list (P := C.P) w ⟨g, off, none⟩ (gas ρ l) (fun j v hv => by rw [Addr.at_]; exact hc j v hv)
    rw [show (gas ρ l).length = n by rw [gas_eq, List.length_map, hl]] at this
    rw [this, ga]
    rfl
  · rw [h1, if_neg (by simp), run_load]
    have := hc 0 (ga ρ r) (by simp [gas])
    simp only [Nat.add_zero] at this
    rw [this]

theorem gas_take_drop (ρ : Rho) (cs : List SV) (off n : Nat) : gas ρ ((cs.drop off).take n) = ((gas ρ cs).drop off).take n := by
  simp only [gas_eq, List.map_take, List.map_drop]

theorem lts_take_drop {n : Nat} {cs : List SV} (h : SV.lts n cs = true) (off m : Nat) : SV.lts n ((cs.drop off).take m) = true := by
  rw [lts_iff] at *
  exact fun x hx => h x (List.mem_of_mem_drop (List.mem_of_mem_take hx))

theorem cell_of (g j : Nat) {c : Array Value} {T : TypeId} {fr : Nat × Nat} (h : w.heap[g]? = some (.cells c T fr)) : w.cell? ⟨g, j, none⟩ = c[j]? := by
  simp [World.cell?, h]

theorem ok_load {fb : Prop} (ht : TOK C) {T' T : TypeId} {x : Operand} {K : KK} (h : match tsize C T' with
    | none => False
    | some n => match get s x with
      | some (.ptr k off) => match lk s.bx k with
        | some (.cells _ cs) => bif Nat.ble (off + n) cs.length then (match mkv (tagg C T') ((cs.drop off).take n) with
          | some r => K r s H
          | none => False) else False
        | _ => False
      | some (.el (some a) i sz off) => ∃ cs, ElemH H a i sz cs ∧ bif Nat.ble (off + n) cs.length then (match mkv (tagg C T') (((cs.drop off).take n).map .v) with
          | some r => K r s H
          | none => False) else False
      | some (.rel k sz i off) => match lk s.bx k with
        | some (.row _ sz' xs) => bif Nat.beq sz' sz then (∃ cs, xs[i.toNat]? = some cs ∧ bif Nat.ble (off + n) cs.length then (match mkv (tagg C T') (((cs.drop off).take n).map .v) with
          | some r => K r s H
          | none => False) else False) else False
        | _ => False
      | _ => fb) : RawP C s (.load T' x) T H K ∨ fb := by
  split at h
  · exact h.elim
  · rename_i n hn
    split at h
    · -- a block of the call's own
      rename_i k off hx
      split at h
      · rename_i T0 cs hk
        · obtain ⟨hle, h⟩ := bif_f h
          have hle := ble_t hle
          split at h
          · rename_i r hr0
            refine .inl fun B ρ o a w ho _ hr => ⟨r, ?_, h, ?_⟩
            · have h1 := (eval_get hr hx).1
              rw [ga] at h1
              have hb := (hr.mem.ok _ _ hk).2.1
              simp only [BoxOK] at hb
              have h2 := loadVar_ok (ρ := ρ) (w := w) ht hn (g := ρ.b k) (off := off) (l := (cs.drop off).take n) (by simp; omega) (fun j v hv => by
                rw [cell_of _ _ hb]
                rw [gas_take_drop, List.getElem?_take] at hv
                split at hv
                · simpa [List.getElem?_drop] using hv
                · cases hv) hr0
              simp only [execOp, ho, h1, Instr.loadAt, Instr.sureAddr, Sem.run_bind, Sem.run_pure, Result.andThen_ok, h2]
            · have := (hr.mem.ok _ _ hk).2.2
              exact mkv_lt hr0 (lts_take_drop this off n)
          · exact h.elim
      · exact h.elim
    · -- an element that is never written again
      rename_i ad i sz off hx
      obtain ⟨cs, hel, h⟩ := h
      · obtain ⟨hle, h⟩ := bif_f h
        have hle := ble_t hle
        split at h
        · rename_i r hr0
          refine .inl fun B ρ o a w ho _ hr => ⟨r, ?_, h, mkv_lt hr0 (lts_v _ _)⟩
          have h1 := (eval_get hr hx).1
          obtain ⟨hsp, hlen, c, T0, fr, hH, hc⟩ := hel
          rw [ga, Addr.at2 hsp] at h1
          have hb := hr.mem.hp _ _ hH
          have h2 := loadVar_ok (ρ := ρ) (w := w) ht hn (g := ad.block) (off := ad.off + i.toNat * sz + off) (l := ((cs.drop off).take n).map .v) (by simp; omega) (fun j v hv => by
            rw [cell_of _ _ hb]
            rw [gas_v, List.getElem?_take] at hv
            split at hv
            · rw [List.getElem?_drop] at hv
              rw [Nat.add_assoc, hc (off + j) (by rw [← hlen]; exact (List.getElem?_eq_some_iff.1 hv).1)]
              exact hv
            · cases hv) hr0
          simp only [execOp, ho, h1, Instr.loadAt, Instr.sureAddr, Sem.run_bind, Sem.run_pure, Result.andThen_ok, h2]
        · exact h.elim
    · -- an element of a row of the call's own
      rename_i k sz i off hx
      split at h
      · rename_i e sz' xs hk
        have hbif := bif_f h; clear h; obtain ⟨hszz, cs, hcs, h⟩ := hbif
        obtain rfl := beq_t hszz
        obtain ⟨hle, h⟩ := bif_f h
        have hle := ble_t hle
        split at h
        · rename_i r hr0
          refine .inl fun B ρ o a w ho _ hr => ⟨r, ?_, h, mkv_lt hr0 (lts_v _ _)⟩
          have h1 := (eval_get hr hx).1
          rw [ga] at h1
          have hb := (hr.mem.ok _ _ hk).2.1
          have hlen := (hb.2.1 cs (List.mem_of_getElem? hcs)).1
          have h2 := loadVar_ok (ρ := ρ) (w := w) ht hn (g := ρ.b k) (off := i.toNat * sz' + off) (l := ((cs.drop off).take n).map .v) (by simp; omega) (fun j v hv => by
            rw [gas_v, List.getElem?_take] at hv
            split at hv
            · rw [List.getElem?_drop] at hv
              rw [Nat.add_assoc, row_cell hb hcs (off + j) (by rw [← hlen]; exact (List.getElem?_eq_some_iff.1 hv).1)]
              exact hv
            · cases hv) hr0
          simp only [execOp, ho, h1, Instr.loadAt, Instr.sureAddr, Sem.run_bind, Sem.run_pure, Result.andThen_ok, h2]
        · exact h.elim
      · exact h.elim
    · exact .inr h

end
end Go.Sy
