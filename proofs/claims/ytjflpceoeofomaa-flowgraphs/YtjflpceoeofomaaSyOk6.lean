/- Part 'SyOk6' of the proof: lemmas, each with its own conditions in its own statement. -/
import Derived.Test.YtjflpceoeofomaaSyOk5
import Derived.Laws.AppendOwnNone
namespace Go.Sy
open Go.RowKit (Below)
section
variable {C : Cx} {B : Bs} {ρ : Rho} {s : St} {H : Hp} {a : Act} {w : World} {P : Program}

/-- A block of the call's own goes over to a new number, or is left for a new one. -/
theorem Mem.move {bx : List (Nat × Bx)} {nx k : Nat} {w' : World} {b b' : Bx} {g : Nat} {v : Option Addr × Nat × Nat} (hm : Mem B ρ bx nx H w) (hk : lk bx k = some b)
    (h1 : w'.os = w.os) (h2 : w'.tape = w.tape) (h3 : OD w w') (h4 : w.heap.size ≤ w'.heap.size)
    (hb : ∀ g, g < w.heap.size → ¬ Owns ρ k b g → w'.heap[g]? = w.heap[g]?)
    (hlt : b'.lt (nx + 1) = true) (hok : BoxOK (ρ.set nx g v) w' nx b') (hnew : ∀ g', Owns (ρ.set nx g v) nx b' g' → Owns ρ k b g' ∨ w.heap.size ≤ g') :
    Mem B (ρ.set nx g v) ((nx, b') :: (k, .dead) :: bx) (nx + 1) H w' := by
  have hm1 : Mem B ρ ((k, .dead) :: bx) nx H w' := hm.write hk h1 h2 h3 h4 hb rfl trivial (fun g hg => hg.elim)
  have hs := Rho.set_same ρ nx g v
  exact
  { os := hm1.os, tape := hm1.tape, output := hm1.output, size := hm1.size, frame := hm1.frame
    base := Nat.le_succ_of_le hm1.base
    agree := fun j hj => by
      have := hs j (Nat.lt_of_lt_of_le hj hm1.base)
      rw [this.1, this.2]; exact hm1.agree j hj
    hp := hm1.hp, hle := hm1.hle, hnew := hm1.hnew
    ok := fun j x hj => by
      rw [lk_cons] at hj
      split at hj
      · rename_i e
        subst e
        simp only [Option.some.injEq] at hj
        subst hj
        exact ⟨Nat.lt_succ_self _, hok, hlt⟩
      · obtain ⟨a1, a2, a3⟩ := hm1.ok j x hj
        refine ⟨Nat.lt_succ_of_lt a1, a2.same hs a1 a3, ?_⟩
        cases x with
        | cells T cs => exact lts_mono (Nat.le_succ _) cs a3
        | _ => rfl
    own := fun j x g' hj ho => by
      rw [lk_cons] at hj
      split at hj
      · rename_i e
        subst e
        simp only [Option.some.injEq] at hj
        subst hj
        rcases hnew g' ho with hg | hg
        · exact hm.own k b g' hk hg
        · refine ⟨?_, .inl (Nat.le_trans hm.size hg)⟩
          cases hh : H g' with
          | none => rfl
          | some o =>
            have := (Array.getElem?_eq_some_iff.1 (hm.hp g' o hh)).1
            omega
      · exact hm1.own j x g' hj (ho.same hs (hm1.ok j x hj).1)
    disj := fun j j' x x' g' hj hj' ho ho' => by
      have key : ∀ (j : Nat) (x : Bx), lk ((k, Bx.dead) :: bx) j = some x → Owns ρ j x g' → ∀ y, Owns (ρ.set nx g v) nx b' g' → y = j → False := by
        intro j x hj ho y hy _
        have hjk : j ≠ k := by
          intro e
          subst e
          rw [lk_cons, if_pos rfl] at hj
          simp only [Option.some.injEq] at hj
          subst hj
          exact ho
        rw [lk_cons, if_neg (Ne.symm hjk)] at hj
        rcases hnew g' hy with hg | hg
        · exact hjk (hm.disj j k x b g' hj hk ho hg)
        · have := (hm.ok j x hj).2.1.lt ho
          omega
      rw [lk_cons] at hj hj'
      split at hj <;> split at hj'
      · omega
      · rename_i e1 e2
        subst e1
        simp only [Option.some.injEq] at hj
        subst hj
        exact (key j' x' hj' (ho'.same hs (hm1.ok j' x' hj').1) j' ho rfl).elim
      · rename_i e1 e2
        subst e2
        simp only [Option.some.injEq] at hj'
        subst hj'
        exact (key j x hj (ho.same hs (hm1.ok j x hj).1) j ho' rfl).elim
      · exact hm1.disj j j' x x' g' hj hj' (ho.same hs (hm1.ok j x hj).1) (ho'.same hs (hm1.ok j' x' hj').1) }

theorem Rel.moved (hr : Rel C B ρ s H a w) {k : Nat} {b : Bx} {e : TypeId} {sz : Nat} {xs : List (List Value)} {w' : World} {v : Option Addr × Nat × Nat} (hk : lk s.bx k = some b)
    (h1 : w'.os = w.os) (h2 : w'.tape = w.tape) (h3 : OD w w') (h4 : w.heap.size ≤ w'.heap.size) (hb : ∀ g, g < w.heap.size → ¬ Owns ρ k b g → w'.heap[g]? = w.heap[g]?)
    (hown : w'.ownsRow 0 e sz (.slice v.1 v.2.1 v.2.2) xs.length xs.flatten) (hxs : ∀ x ∈ xs, x.length = sz ∧ ∀ u ∈ x, u.oneCell' = true)
    (hnew : ∀ g, (Value.slice v.1 v.2.1 v.2.2).ownBlock = some g → Owns ρ k b g ∨ w.heap.size ≤ g) :
    ∃ ρ', Rel C B ρ' ((s.box k .dead).new (.row e sz xs)) H a w' ∧ ga ρ' (.own s.nx) = .slice v.1 v.2.1 v.2.2 := by
  refine ⟨ρ.set s.nx ((Value.slice v.1 v.2.1 v.2.2).ownBlock.getD 0) v, ⟨hr.env_new _ _, hr.sz, hr.defers, ?_⟩, by rw [ga]; simp [Rho.val, Rho.set]⟩
  refine hr.mem.move hk h1 h2 h3 h4 hb rfl ?_ ?_
  · refine ⟨?_, hxs, fun g hg => ?_⟩
    · simpa [Rho.val, Rho.set] using hown
    · simp only [Rho.val, Rho.set, if_true] at hg ⊢
      rw [hg]; rfl
  · intro g hg
    simp only [Owns, Rho.val, Rho.set, if_true] at hg
    exact hnew g hg

theorem getN_ok (hr : Rel C B ρ s H a w) {x : Operand} {n : Int} (h : getN s x = some n) : ∃ k, a.eval x = .int k n := by
  unfold getN at h
  split at h
  · rename_i k m hx
    simp only [Option.some.injEq] at h
    subst h
    have := (eval_get hr hx).1
    rw [ga] at this
    exact ⟨k, this⟩
  · cases h

theorem sliceBound_ok {x : Value} {k : IntKind} {n : Int} {y : Nat} (hx : x = .int k n) (h : 0 ≤ n ∧ n ≤ y) (c : BoundsCode) (w : World) : (Instr.sliceBound x y c).run P w = .ok n.toNat w := by
  subst hx
  simp [Instr.sliceBound, asIntOf, h]

theorem sliceBounds_ok (hr : Rel C B ρ s H a w) {lo hi : Option Operand} {l h : Int} (b : Bool) (len cap : Nat) (hl : optN s lo 0 = some l) (hh : optN s hi (len : Int) = some h) (hle : 0 ≤ l ∧ l ≤ h ∧ h ≤ cap) :
    (Instr.sliceBounds b len cap (lo.map a.eval) (hi.map a.eval) none).run P w = .ok (l.toNat, h.toNat, cap) w := by
  unfold Instr.sliceBounds
  cases hi with
  | none =>
    simp only [optN, Option.some.injEq] at hh
    subst hh
    cases lo with
    | none =>
      simp only [optN, Option.some.injEq] at hl
      subst hl
      simp
    | some x =>
      simp only [optN] at hl
      obtain ⟨k, hk⟩ := getN_ok hr hl
      simp [sliceBound_ok hk (show 0 ≤ l ∧ l ≤ (len : Nat) by omega)]
  | some y =>
    simp only [optN] at hh
    obtain ⟨k', hk'⟩ := getN_ok hr hh
    cases lo with
    | none =>
      simp only [optN, Option.some.injEq] at hl
      subst hl
      simp [sliceBound_ok hk' (show 0 ≤ h ∧ h ≤ (cap : Nat) by omega)]
    | some x =>
      simp only [optN] at hl
      obtain ⟨k, hk⟩ := getN_ok hr hl
      simp [sliceBound_ok hk' (show 0 ≤ h ∧ h ≤ (cap : Nat) by omega), sliceBound_ok hk (show 0 ≤ l ∧ l ≤ ((h.toNat : Nat) : Int) by omega)]

theorem take_flat {sz : Nat} : ∀ {xs : List (List Value)} (n : Nat), (∀ x ∈ xs, x.length = sz) → (xs.take n).flatten = xs.flatten.take (n * sz)
  | [], n, _ => by simp
  | x :: r, 0, _ => by simp
  | x :: r, n + 1, h => by
    have h1 := h x List.mem_cons_self
    rw [List.take_succ_cons, List.flatten_cons, take_flat n (fun y hy => h y (List.mem_cons_of_mem _ hy)), List.flatten_cons, show (n + 1) * sz = x.length + n * sz by rw [Nat.add_mul]; omega, List.take_length_add_append]

theorem ok_slice (ht : TOK C) {T' T : TypeId} {x : Operand} {k : Nat} (hx : get s x = some (.own k)) {lo hi mx : Option Operand} {K : KK} (h : match mx with
      | some _ => False
      | none => match C.tt T' with
        | some (_, .slice e) => match tsize C e with
          | none => False
          | some _ => match optN s lo 0 with
            | some 0 => match lk s.bx k with
              | some (.row e' sz' xs) => match optN s hi (xs.length : Int) with
                | none => False
                | some h => (0 ≤ h ∧ h ≤ xs.length) ∧ K (.own s.nx) ((s.box k .dead).new (.row e' sz' (xs.take h.toNat))) H
              | _ => False
            | _ => False
        | _ => False) : RawOp C s (.slice T' x lo hi mx) T H K := by
  split at h
  · exact h.elim
  · split at h
    · rename_i i0 e hT
      have hu := (ht _ _ _ hT).2
      split at h
      · exact h.elim
      · rename_i sz hsz
        · split at h
          · rename_i hl
            split at h
            · rename_i e' sz' xs hk
              split at h
              · exact h.elim
              · rename_i hh0 hh
                obtain ⟨hle, h⟩ := h
                refine raw_val fun B ρ o a w ho _ hr => ?_
                have h1 := (eval_get hr hx).1
                rw [ga] at h1
                have hb := (hr.mem.ok _ _ hk).2.1
                have hn : (ρ.sl k).2.1 = xs.length := by
                  rcases hb.1.2 with ⟨h2, h3⟩ | ⟨g, cap, cur, h2, _⟩
                  · simp only [Rho.val, Value.slice.injEq] at h2; omega
                  · simp only [Rho.val, Value.slice.injEq] at h2; exact h2.2.1
                have hlen : (xs.take hh0.toNat).length = hh0.toNat := by rw [List.length_take]; omega
                obtain ⟨ρ', hr', hg⟩ := hr.moved (e := e') (sz := sz') (xs := xs.take hh0.toNat) (w' := w) (v := ((ρ.sl k).1, hh0.toNat, (ρ.sl k).2.2)) hk rfl rfl ⟨rfl, Nat.le_refl _⟩ (Nat.le_refl _) (fun _ _ _ => rfl)
                  (by
                    rw [hlen, take_flat hh0.toNat (fun x hx => (hb.2.1 x hx).1)]
                    have hfl : xs.flatten.length = xs.length * sz' := hb.1.1
                    refine ⟨by rw [List.length_take, hfl]; exact Nat.min_eq_left (Nat.mul_le_mul_right _ (by omega)), ?_⟩
                    rcases hb.1.2 with ⟨h2, h3⟩ | ⟨g, cap, cur, h2, h3, h4, h5, h6, h7, h8⟩
                    · simp only [Rho.val, Value.slice.injEq] at h2
                      have h0 : hh0.toNat = 0 := by omega
                      exact .inl ⟨by rw [h2.1, h2.2.2, h0], h0⟩
                    · simp only [Rho.val, Value.slice.injEq] at h2
                      refine .inr ⟨g, cap, cur, by rw [h2.1, h2.2.2], h3, h4, by omega, h6, h7, ?_⟩
                      rw [← h8, List.take_take, Nat.min_eq_left (Nat.mul_le_mul_right _ (by omega))])
                  (fun x hx => hb.2.1 x (List.mem_of_mem_take hx))
                  (fun g hg => .inl (by
                    simp only [Owns, Rho.val]
                    cases hs : (ρ.sl k).1 with
                    | none => simp [hs, Value.ownBlock] at hg
                    | some ad => simpa [hs, Value.ownBlock] using hg))
                refine ⟨_, _, H, ρ', w, ?_, h, hr', Le.refl H, by rw [SV.lt]; exact Nat.ble_eq_true_of_le (Nat.le_refl _)⟩
                have hcap : xs.length ≤ (ρ.sl k).2.2 := by
                  rcases hb.1.2 with ⟨h2, h3⟩ | ⟨g, cap, cur, h2, h3, h4, h5, h6, h7, h8⟩
                  · omega
                  · simp only [Rho.val, Value.slice.injEq] at h2; omega
                have hbd := sliceBounds_ok (P := C.P) hr true xs.length (ρ.sl k).2.2 hl hh (by omega)
                simp only [execOp, ho, Instr.sliceAt, Sem.run_bind, run_underlying hu, Result.andThen_ok, Instr.slice, h1, Rho.val, hn, Option.map_none, Sem.run_pure, hbd, tsize_ok ht hsz, hg]
                have e1 : (ρ.sl k).1.map (fun x => x.add (Int.toNat 0 * sz)) = (ρ.sl k).1 := by
                  cases (ρ.sl k).1 <;> simp [Addr.add]
                rw [e1]
                simp
            · exact h.elim
          · exact h.elim
    · exact h.elim

end
end Go.Sy
