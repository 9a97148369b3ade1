/- Part 'SyG' of the proof: lemmas, each with its own conditions in its own statement. -/
import Derived.Test.YtjflpceoeofomaaSyOk7
namespace Go.Sy
open Go.RowKit (Below)
section
variable {C : Cx} {B : Bs} {ρ : Rho} {s : St} {H : Hp} {a : Act} {w : World} {P : Program}

/-- Boxes under other numbers. -/
def Good (f : Nat → Option Nat) (ρ : Rho) (n : Nat) (ρ' : Rho) (n' : Nat) : Prop := ∀ k j, f k = some j → k < n → j < n' ∧ ρ'.b j = ρ.b k ∧ ρ'.sl j = ρ.sl k

theorem ble_of_lt {k n : Nat} (h : k < n) : Nat.ble (k + 1) n = true := Nat.ble_eq_true_of_le h

variable {f : Nat → Option Nat} {n n' : Nat} {ρ' : Rho}

theorem ren0_ok (hg : Good f ρ n ρ' n') {x y : SV} (h : ren0 f x = some y) (hl : x.lt n = true) : ga ρ' y = ga ρ x ∧ y.lt n' = true := by
  cases x with
  | v x => cases h; rw [ga, ga, SV.lt]; exact ⟨rfl, rfl⟩
  | kb b => cases h; rw [ga, ga, SV.lt]; exact ⟨rfl, rfl⟩
  | el a i sz off => cases h; rw [SV.lt]; exact ⟨by cases a <;> rfl, rfl⟩
  | ptr k off =>
    simp only [ren0] at h
    cases hj : f k with
    | none => rw [hj] at h; cases h
    | some j =>
      rw [hj] at h
      cases h
      rw [SV.lt] at hl
      obtain ⟨h1, h2, h3⟩ := hg k j hj (Nat.le_of_ble_eq_true hl)
      rw [ga, ga, h2, SV.lt]
      exact ⟨rfl, ble_of_lt h1⟩
  | rel k m i off =>
    simp only [ren0] at h
    cases hj : f k with
    | none => rw [hj] at h; cases h
    | some j =>
      rw [hj] at h
      cases h
      rw [SV.lt] at hl
      obtain ⟨h1, h2, h3⟩ := hg k j hj (Nat.le_of_ble_eq_true hl)
      rw [ga, ga, h2, SV.lt]
      exact ⟨rfl, ble_of_lt h1⟩
  | own k =>
    simp only [ren0] at h
    cases hj : f k with
    | none => rw [hj] at h; cases h
    | some j =>
      rw [hj] at h
      cases h
      rw [SV.lt] at hl
      obtain ⟨h1, h2, h3⟩ := hg k j hj (Nat.le_of_ble_eq_true hl)
      rw [ga, ga, Rho.val, Rho.val, h3, SV.lt]
      exact ⟨rfl, ble_of_lt h1⟩
  | sub k sz lo m =>
    simp only [ren0] at h
    cases hj : f k with
    | none => rw [hj] at h; cases h
    | some j =>
      rw [hj] at h
      cases h
      rw [SV.lt] at hl
      obtain ⟨h1, h2, h3⟩ := hg k j hj (Nat.le_of_ble_eq_true hl)
      rw [ga, ga, Rho.part, Rho.part, h3, SV.lt]
      exact ⟨rfl, ble_of_lt h1⟩
  | mp k =>
    simp only [ren0] at h
    cases hj : f k with
    | none => rw [hj] at h; cases h
    | some j =>
      rw [hj] at h
      cases h
      rw [SV.lt] at hl
      obtain ⟨h1, h2, h3⟩ := hg k j hj (Nat.le_of_ble_eq_true hl)
      rw [ga, ga, h2, SV.lt]
      exact ⟨rfl, ble_of_lt h1⟩
  | agg cs => cases h
  | fn g cs => cases h
  | tup cs => cases h

def RenOK (ρ : Rho) (n : Nat) (ρ' : Rho) (n' : Nat) (g : SV → Option SV) : Prop := ∀ x y, g x = some y → x.lt n = true → ga ρ' y = ga ρ x ∧ y.lt n' = true

theorem renL_ok {g : SV → Option SV} (hg : RenOK ρ n ρ' n' g) : ∀ {l r : List SV}, renL g l = some r → SV.lts n l = true → gas ρ' r = gas ρ l ∧ SV.lts n' r = true
  | [], r, h, _ => by
    simp only [renL, Option.some.injEq] at h
    subst h
    exact ⟨by rw [gas, gas], by rw [SV.lts]⟩
  | x :: l, r, h, hl => by
    rw [renL] at h
    rw [lts_iff] at hl
    split at h
    · rename_i y hy
      split at h
      · rename_i l' hl'
        simp only [Option.some.injEq] at h
        subst h
        obtain ⟨h1, h2⟩ := hg x y hy (hl x List.mem_cons_self)
        obtain ⟨h3, h4⟩ := renL_ok hg hl' ((lts_iff n l).2 fun z hz => hl z (List.mem_cons_of_mem _ hz))
        exact ⟨by rw [gas, gas, h1, h3], by rw [SV.lts, h2]; exact h4⟩
      · cases h
    · cases h

theorem ren1_ok (hg : Good f ρ n ρ' n') : RenOK ρ n ρ' n' (ren1 f) := by
  intro x y h hl
  have h0 : RenOK ρ n ρ' n' (ren0 f) := fun x y h hl => ren0_ok hg h hl
  unfold ren1 at h
  split at h
  · split at h
    · rename_i cs l hl'
      cases h
      rw [SV.lt] at hl
      obtain ⟨h1, h2⟩ := renL_ok h0 hl' hl
      rw [ga, ga, h1, SV.lt]
      exact ⟨rfl, h2⟩
    · cases h
  · split at h
    · rename_i cs l hl'
      cases h
      rw [SV.lt] at hl
      obtain ⟨h1, h2⟩ := renL_ok h0 hl' hl
      rw [ga, ga, h1, SV.lt]
      exact ⟨rfl, h2⟩
    · cases h
  · split at h
    · rename_i cs l hl'
      cases h
      rw [SV.lt] at hl
      obtain ⟨h1, h2⟩ := renL_ok h0 hl' hl
      rw [ga, ga, h1, SV.lt]
      exact ⟨rfl, h2⟩
    · cases h
  · exact h0 _ _ h hl

theorem ren2_ok (hg : Good f ρ n ρ' n') : RenOK ρ n ρ' n' (ren2 f) := by
  intro x y h hl
  have h0 : RenOK ρ n ρ' n' (ren1 f) := ren1_ok hg
  unfold ren2 at h
  split at h
  · split at h
    · rename_i cs l hl'
      cases h
      rw [SV.lt] at hl
      obtain ⟨h1, h2⟩ := renL_ok h0 hl' hl
      rw [ga, ga, h1, SV.lt]
      exact ⟨rfl, h2⟩
    · cases h
  · split at h
    · rename_i cs l hl'
      cases h
      rw [SV.lt] at hl
      obtain ⟨h1, h2⟩ := renL_ok h0 hl' hl
      rw [ga, ga, h1, SV.lt]
      exact ⟨rfl, h2⟩
    · cases h
  · split at h
    · rename_i cs l hl'
      cases h
      rw [SV.lt] at hl
      obtain ⟨h1, h2⟩ := renL_ok h0 hl' hl
      rw [ga, ga, h1, SV.lt]
      exact ⟨rfl, h2⟩
    · cases h
  · exact ren0_ok hg h hl

/-- A box under another number. -/
theorem renB_ok (hg : Good f ρ n ρ' n') {b b' : Bx} {k j : Nat} (hk : f k = some j) (hkn : k < n) (h : renB f b = some b') (hb : BoxOK ρ w k b) (hl : b.lt n = true) :
    BoxOK ρ' w j b' ∧ b'.lt n' = true ∧ ∀ g, Owns ρ' j b' g ↔ Owns ρ k b g := by
  obtain ⟨_, e1, e2⟩ := hg k j hk hkn
  have e3 : ρ'.val j = ρ.val k := by rw [Rho.val, Rho.val, e2]
  unfold renB at h
  split at h
  · split at h
    · rename_i T cs l hl'
      cases h
      obtain ⟨h1, h2⟩ := renL_ok (ren1_ok hg) hl' hl
      refine ⟨?_, h2, fun g => ?_⟩
      · simp only [BoxOK] at *
        rw [e1, h1]; exact hb
      · simp only [Owns, e1]
    · cases h
  · cases h
    refine ⟨?_, rfl, fun g => ?_⟩
    · simp only [BoxOK] at *
      rw [e3, e1]; exact hb
    · simp only [Owns, e3]
  · cases h
    refine ⟨?_, rfl, fun g => Iff.rfl⟩
    simp only [BoxOK] at *
    rw [e3]; exact hb
  · cases h
    refine ⟨?_, rfl, fun g => ?_⟩
    · simp only [BoxOK] at *
      rw [e1]; exact hb
    · simp only [Owns, e1]
  · cases h
    exact ⟨hb, rfl, fun g => Iff.rfl⟩
  · cases h
    exact ⟨trivial, rfl, fun g => Iff.rfl⟩

theorem renBs_lk : ∀ {l r : List (Nat × Bx)}, renBs f l = some r → ∀ {j : Nat} {b' : Bx}, lk r j = some b' → ∃ k b, lk l k = some b ∧ f k = some j ∧ renB f b = some b'
  | [], r, h, j, b', hj => by
    simp only [renBs, Option.some.injEq] at h
    subst h
    simp [lk] at hj
  | (k, b) :: l, r, h, j, b', hj => by
    rw [renBs] at h
    split at h
    · rename_i j0 hj0
      split at h
      · rename_i b0 hb0
        split at h
        · rename_i l' hl'
          simp only [Option.some.injEq] at h
          subst h
          rw [lk_cons] at hj
          split at hj
          · rename_i e
            subst e
            cases hj
            exact ⟨k, b, by rw [lk_cons, if_pos rfl], hj0, hb0⟩
          · rename_i hne
            obtain ⟨k2, b2, h1, h2, h3⟩ := renBs_lk hl' hj
            refine ⟨k2, b2, ?_, h2, h3⟩
            rw [lk_cons, if_neg]
            · exact h1
            · intro e
              subst e
              rw [hj0] at h2
              exact hne (Option.some.inj h2)
        · cases h
      · cases h
    · cases h

theorem hasN_iff {k : Nat} : ∀ {l : List Nat}, hasN k l = true ↔ k ∈ l
  | [] => by simp [hasN]
  | j :: r => by
    rw [hasN]
    cases h : Nat.beq j k with
    | true => simp [beq_t h]
    | false =>
      have := beq_f h
      simp only [cond_false, hasN_iff (l := r), List.mem_cons]
      exact ⟨.inr, fun h => h.resolve_left fun e => this e.symm⟩

theorem nodupN_iff : ∀ {l : List Nat}, nodupN l = true → l.Nodup
  | [], _ => List.nodup_nil
  | k :: r, h => by
    rw [nodupN] at h
    cases hk : hasN k r with
    | true => rw [hk] at h; cases h
    | false =>
      rw [hk] at h
      refine List.nodup_cons.2 ⟨fun hm => ?_, nodupN_iff h⟩
      rw [hasN_iff.2 hm] at hk
      cases hk

theorem fk_get : ∀ {m : List Nat} {i k j : Nat}, fk m i k = some j → i ≤ j ∧ m[j - i]? = some k
  | [], i, k, j, h => by simp [fk] at h
  | x :: r, i, k, j, h => by
    rw [fk] at h
    cases hx : Nat.beq x k with
    | true => rw [hx] at h; cases h; simp [beq_t hx]
    | false =>
      rw [hx] at h
      obtain ⟨h1, h2⟩ := fk_get h
      refine ⟨by omega, ?_⟩
      rw [show j - i = (j - (i + 1)) + 1 by omega]
      simpa using h2

theorem rk_lt : ∀ {m : List Nat} {nx i : Nat}, i < m.length → m[i]? = some (rk m nx i)
  | x :: r, nx, 0, _ => by simp [rk]
  | x :: r, nx, i + 1, h => by
    rw [rk]
    simpa using rk_lt (m := r) (nx := nx) (by simpa using h)
theorem rk_ge : ∀ {m : List Nat} {nx i : Nat}, m.length ≤ i → rk m nx i = nx + (i - m.length)
  | [], nx, i, _ => by simp [rk]
  | x :: r, nx, i + 1, h => by
    rw [rk, rk_ge (m := r) (by simpa using h)]
    simp

theorem lendB_lk {m : List Nat} {bx : List (Nat × Bx)} : ∀ {i : Nat} {r : List Nat} {bl : List (Nat × Bx)}, lendB m bx i r = some bl →
    (∀ j b', lk bl j = some b' → i ≤ j ∧ ∃ k b, r[j - i]? = some k ∧ lk bx k = some b ∧ renB (fk m 0) b = some b') ∧ ∀ k ∈ r, ∃ b, lk bx k = some b
  | i, [], bl, h => by
    simp only [lendB, Option.some.injEq] at h
    subst h
    exact ⟨fun j b' h => by simp [lk] at h, fun k hk => by simp at hk⟩
  | i, k :: r, bl, h => by
    rw [lendB] at h
    split at h
    · rename_i b hb
      split at h
      · rename_i b1 hb1
        split at h
        · rename_i l hl
          simp only [Option.some.injEq] at h
          subst h
          obtain ⟨h1, h2⟩ := lendB_lk hl
          refine ⟨fun j b' hj => ?_, fun k' hk => ?_⟩
          · rw [lk_cons] at hj
            split at hj
            · rename_i e
              subst e
              cases hj
              exact ⟨Nat.le_refl _, k, b, by simp, hb, hb1⟩
            · obtain ⟨h3, k', b0, h4, h5, h6⟩ := h1 j b' hj
              refine ⟨by omega, k', b0, ?_, h5, h6⟩
              rw [show j - i = (j - (i + 1)) + 1 by omega]
              simpa using h4
          · rcases List.mem_cons.1 hk with rfl | hk
            · exact ⟨b, hb⟩
            · exact h2 k' hk
        · cases h
      · cases h
    · cases h

theorem deadB_lk {bx : List (Nat × Bx)} {k : Nat} {b : Bx} : ∀ {m : List Nat}, lk (deadB m bx) k = some b → (k ∈ m ∧ b = .dead) ∨ (k ∉ m ∧ lk bx k = some b)
  | [], h => .inr ⟨by simp, h⟩
  | j :: r, h => by
    rw [deadB, lk_cons] at h
    split at h
    · rename_i e
      cases h
      exact .inl ⟨by simp [e], rfl⟩
    · rename_i hne
      rcases deadB_lk h with ⟨h1, h2⟩ | ⟨h1, h2⟩
      · exact .inl ⟨List.mem_cons_of_mem _ h1, h2⟩
      · exact .inr ⟨fun hm => (List.mem_cons.1 hm).elim (fun e => hne e.symm) h1, h2⟩

theorem lk_append {α : Type} (k : Nat) : ∀ (l r : List (Nat × α)), lk (l ++ r) k = match lk l k with | some x => some x | none => lk r k
  | [], r => rfl
  | (j, x) :: l, r => by
    rw [List.cons_append, lk_cons, lk_cons, lk_append k l r]
    split <;> rfl

theorem argsG_ok (m : List Nat) : ∀ (l : List SV) {s : St} {H : Hp} {K : List SV → St → Hp → Prop}, Rel C B ρ s H a w → SV.lts s.nx l = true → argsG m l s H K →
    ∃ ys s' H', K ys s' H' ∧ Rel C B ρ s' H' a w ∧ Le H H' ∧ s'.nx = s.nx ∧ ∀ ρ' n', Good (fk m 0) ρ s.nx ρ' n' → gas ρ' ys = gas ρ l ∧ SV.lts n' ys = true
  | [], s, H, K, hr, _, h => ⟨[], s, H, h, hr, Le.refl H, rfl, fun _ _ _ => ⟨by rw [gas, gas], by rw [SV.lts]⟩⟩
  | x :: r, s, H, K, hr, hl, h => by
    rw [lts_iff] at hl
    have hx := hl x List.mem_cons_self
    have hrl := (lts_iff s.nx r).2 fun z hz => hl z (List.mem_cons_of_mem _ hz)
    rw [argsG] at h
    split at h
    · rename_i y hy
      obtain ⟨ys, s', H', h1, h2, h3, h4, h5⟩ := argsG_ok m r hr hrl h
      refine ⟨y :: ys, s', H', h1, h2, h3, h4, fun ρ' n' hg => ?_⟩
      obtain ⟨h6, h7⟩ := h5 ρ' n' hg
      obtain ⟨h8, h9⟩ := ren2_ok hg x y hy hx
      exact ⟨by rw [gas, gas, h6, h8], by rw [SV.lts, h9]; exact h7⟩
    · rw [fz2_eq] at h
      obtain ⟨s1, H1, k1, k2, k3, k4⟩ := fz_ok x hr h
      obtain ⟨ys, s', H', h1, h2, h3, h4, h5⟩ := argsG_ok m r k2 (by rw [k4]; exact hrl) k1
      refine ⟨_ :: ys, s', H', h1, h2, k3.trans h3, h4.trans k4, fun ρ' n' hg => ?_⟩
      obtain ⟨h6, h7⟩ := h5 ρ' n' (by rw [k4]; exact hg)
      exact ⟨by rw [gas, gas, h6, (ofV_ga ρ' _).1], by rw [SV.lts, (ofV_ga ρ' _).2]; exact h7⟩

/-- The boxes that are lent, as the callee sees them. -/
theorem Mem.lend {bx bl : List (Nat × Bx)} {nx : Nat} {m : List Nat} (hm : Mem B ρ bx nx H w) (hnd : nodupN m = true) (hbl : lendB m bx 0 m = some bl) :
    ∃ ρl, Good (fk m 0) ρ nx ρl m.length ∧ Mem (Bs.lent w ρl bl m.length H) ρl bl m.length H w ∧
      (∀ i, i < m.length → ρl.b i = ρ.b (rk m nx i) ∧ ρl.sl i = ρ.sl (rk m nx i)) ∧ (∀ g, (Bs.lent w ρl bl m.length H).E g ↔ ∃ k b, k ∈ m ∧ lk bx k = some b ∧ Owns ρ k b g ∧ ∃ b', renB (fk m 0) b = some b') := by
  let ρl : Rho := ⟨fun i => ρ.b (rk m nx i), fun i => ρ.sl (rk m nx i)⟩
  have hN := nodupN_iff hnd
  obtain ⟨hlk, hall⟩ := lendB_lk hbl
  have hfk : ∀ k j, fk m 0 k = some j → j < m.length ∧ m[j]? = some k ∧ rk m nx j = k := fun k j h => by
    obtain ⟨_, h1⟩ := fk_get h
    have h2 := (List.getElem?_eq_some_iff.1 h1).1
    rw [Nat.sub_zero] at h1 h2
    refine ⟨h2, h1, ?_⟩
    have := rk_lt (m := m) (nx := nx) h2
    rw [h1] at this
    exact (Option.some.inj this).symm
  have hkf : ∀ i k, m[i]? = some k → fk m 0 k = some i := fun i k h => by
    have hex : ∀ (r : List Nat) (o i : Nat), r[i]? = some k → ∃ j, fk r o k = some j := by
      intro r
      induction r with
      | nil => intro o i h; simp at h
      | cons x r ih =>
        intro o i h
        rw [fk]
        cases hx : Nat.beq x k with
        | true => exact ⟨_, rfl⟩
        | false =>
          cases i with
          | zero => simp at h; subst h; simp at hx
          | succ i => simp at h; exact ih (o + 1) i h
    obtain ⟨j, hj⟩ := hex m 0 i h
    obtain ⟨h1, h2, _⟩ := hfk k j hj
    rw [hj]
    congr 1
    exact (List.getElem?_inj h1 hN).1 (h2.trans h.symm)
  have hgood : Good (fk m 0) ρ nx ρl m.length := fun k j h _ => by
    obtain ⟨h1, h2, h3⟩ := hfk k j h
    refine ⟨h1, ?_, ?_⟩
    · show ρ.b (rk m nx j) = _; rw [h3]
    · show ρ.sl (rk m nx j) = _; rw [h3]
  have hbox : ∀ i b', lk bl i = some b' → ∃ k b, m[i]? = some k ∧ lk bx k = some b ∧ renB (fk m 0) b = some b' ∧ BoxOK ρl w i b' ∧ b'.lt m.length = true ∧ ∀ g, Owns ρl i b' g ↔ Owns ρ k b g := fun i b' h => by
    obtain ⟨_, k, b, h1, h2, h3⟩ := hlk i b' h
    rw [Nat.sub_zero] at h1
    obtain ⟨k1, k2, k3⟩ := hm.ok k b h2
    obtain ⟨e1, e2, e3⟩ := renB_ok hgood (hkf i k h1) k1 h3 k2 k3
    exact ⟨k, b, h1, h2, h3, e1, e2, e3⟩
  refine ⟨ρl, hgood, ?_, fun i _ => ⟨rfl, rfl⟩, fun g => ⟨fun ⟨i, b', h1, h2⟩ => ?_, fun ⟨k, b, h1, h2, h3, b', h4⟩ => ?_⟩⟩
  · exact
    { os := rfl, tape := rfl, output := OD.refl _, size := Nat.le_refl _, frame := fun _ _ _ => rfl, base := Nat.le_refl _, agree := fun _ _ => ⟨rfl, rfl⟩
      hp := hm.hp, hle := Le.refl H, hnew := fun _ h _ _ => h
      ok := fun i b' h => by
        obtain ⟨k, b, h1, _, _, h4, h5, _⟩ := hbox i b' h
        exact ⟨(List.getElem?_eq_some_iff.1 h1).1, h4, h5⟩
      own := fun i b' g h ho => by
        obtain ⟨k, b, _, h2, _, _, _, h6⟩ := hbox i b' h
        exact ⟨(hm.own k b g h2 ((h6 g).1 ho)).1, .inr ⟨i, b', h, ho⟩⟩
      disj := fun i i' b b' g h h' ho ho' => by
        obtain ⟨k, c, h1, h2, _, _, _, h6⟩ := hbox i b h
        obtain ⟨k', c', h1', h2', _, _, _, h6'⟩ := hbox i' b' h'
        have e := hm.disj k k' c c' g h2 h2' ((h6 g).1 ho) ((h6' g).1 ho')
        subst e
        exact (List.getElem?_inj (List.getElem?_eq_some_iff.1 h1).1 hN).1 (h1.trans h1'.symm) }
  · obtain ⟨k, b, e1, e2, e3, _, _, e6⟩ := hbox i b' h1
    exact ⟨k, b, List.mem_of_getElem? e1, e2, (e6 g).1 h2, b', e3⟩
  · obtain ⟨i, hi⟩ := List.getElem?_of_mem h1
    -- the box stands in 'bl'
    have hin : ∀ (r : List Nat) (o : Nat) (l : List (Nat × Bx)), lendB m bx o r = some l → ∀ i, r[i]? = some k → ∃ b', lk l (o + i) = some b' := by
      intro r
      induction r with
      | nil => intro o l _ i h; simp at h
      | cons x r ih =>
        intro o l hl i hi
        rw [lendB] at hl
        split at hl
        · split at hl
          · split at hl
            · rename_i l' hl'
              simp only [Option.some.injEq] at hl
              subst hl
              cases i with
              | zero => exact ⟨_, by rw [Nat.add_zero, lk_cons, if_pos rfl]⟩
              | succ i =>
                simp at hi
                obtain ⟨b', hb'⟩ := ih (o + 1) l' hl' i hi
                rw [show o + 1 + i = o + (i + 1) by omega] at hb'
                exact ⟨b', by rw [lk_cons, if_neg (by omega)]; exact hb'⟩
            · cases hl
          · cases hl
        · cases hl
    obtain ⟨c, hc⟩ := hin m 0 bl hbl i hi
    rw [Nat.zero_add] at hc
    obtain ⟨k', b2, e1, e2, _, _, _, e6⟩ := hbox i c hc
    rw [hi] at e1
    obtain rfl := Option.some.inj e1
    rw [h2] at e2
    obtain rfl := Option.some.inj e2
    exact ⟨i, c, hc, (e6 g).2 h3⟩

/-- What the callee leaves, in the caller's numbers. -/
theorem Mem.merge {bx bl b2 : List (Nat × Bx)} {nx : Nat} {m : List Nat} {ρl ρ2 : Rho} {t : St} {H2 : Hp} {w' : World} (hm : Mem B ρ bx nx H w) (hbl : lendB m bx 0 m = some bl)
    (hml : ∀ i, i < m.length → ρl.b i = ρ.b (rk m nx i) ∧ ρl.sl i = ρ.sl (rk m nx i)) (hE : ∀ g, (Bs.lent w ρl bl m.length H).E g ↔ ∃ k b, k ∈ m ∧ lk bx k = some b ∧ Owns ρ k b g ∧ ∃ b', renB (fk m 0) b = some b')
    (hm2 : Mem (Bs.lent w ρl bl m.length H) ρ2 t.bx t.nx H2 w') (hb2 : renBs (fun i => some (rk m nx i)) t.bx = some b2) :
    ∃ ρ3, Same nx ρ ρ3 ∧ Good (fun i => some (rk m nx i)) ρ2 t.nx ρ3 (nx + (t.nx - m.length)) ∧ Mem B ρ3 (b2 ++ deadB m bx) (nx + (t.nx - m.length)) H2 w' := by
  let ρ3 : Rho := ⟨fun k => if k < nx then ρ.b k else ρ2.b (k - nx + m.length), fun k => if k < nx then ρ.sl k else ρ2.sl (k - nx + m.length)⟩
  obtain ⟨_, hall⟩ := lendB_lk hbl
  have hbase : m.length ≤ t.nx := hm2.base
  have hmn : ∀ k ∈ m, k < nx := fun k hk => by
    obtain ⟨b, hb⟩ := hall k hk
    exact (hm.ok k b hb).1
  have hsame : Same nx ρ ρ3 := fun k hk => ⟨if_pos hk, if_pos hk⟩
  have hgood : Good (fun i => some (rk m nx i)) ρ2 t.nx ρ3 (nx + (t.nx - m.length)) := fun i j h hi => by
    simp only [Option.some.injEq] at h
    subst h
    by_cases hlt : i < m.length
    · have h1 := rk_lt (nx := nx) hlt
      have h2 := hmn _ (List.mem_of_getElem? h1)
      obtain ⟨h3, h4⟩ := hml i hlt
      obtain ⟨h5, h6⟩ := hm2.agree i hlt
      refine ⟨by omega, ?_, ?_⟩
      · rw [(hsame _ h2).1, ← h3]; exact h5.symm
      · rw [(hsame _ h2).2, ← h4]; exact h6.symm
    · have h1 := rk_ge (nx := nx) (Nat.le_of_not_lt hlt)
      rw [h1]
      have h2 : ¬ nx + (i - m.length) < nx := by omega
      have h3 : nx + (i - m.length) - nx + m.length = i := by omega
      refine ⟨by omega, ?_, ?_⟩
      · show (if _ then _ else _) = _; rw [if_neg h2, h3]
      · show (if _ then _ else _) = _; rw [if_neg h2, h3]
  -- a box of the callee's, in the caller's numbers
  have new : ∀ k b, lk b2 k = some b → ∃ i b0, lk t.bx i = some b0 ∧ rk m nx i = k ∧ k < nx + (t.nx - m.length) ∧ BoxOK ρ3 w' k b ∧ b.lt (nx + (t.nx - m.length)) = true ∧ ∀ g, Owns ρ3 k b g ↔ Owns ρ2 i b0 g := fun k b h => by
    obtain ⟨i, b0, h1, h2, h3⟩ := renBs_lk hb2 h
    obtain ⟨k1, k2, k3⟩ := hm2.ok i b0 h1
    obtain ⟨e1, e2, e3⟩ := renB_ok hgood h2 k1 h3 k2 k3
    have h4 := (hgood i k h2 k1).1
    simp only [Option.some.injEq] at h2
    exact ⟨i, b0, h1, h2, h4, e1, e2, e3⟩
  -- a box that stayed with the caller
  have nE : ∀ k b g, k ∉ m → lk bx k = some b → Owns ρ k b g → ¬ (Bs.lent w ρl bl m.length H).E g := fun k b g hk hb ho he => by
    obtain ⟨k', b', h1, h2, h3, _⟩ := (hE g).1 he
    have := hm.disj k k' b b' g hb h2 ho h3
    subst this
    exact hk h1
  have old : ∀ k b, k ∉ m → lk bx k = some b → k < nx ∧ BoxOK ρ3 w' k b ∧ b.lt nx = true ∧ ∀ g, Owns ρ3 k b g → Owns ρ k b g := fun k b hk hb => by
    obtain ⟨h1, h2, h3⟩ := hm.ok k b hb
    refine ⟨h1, (h2.heap fun g ho => ?_).same hsame h1 h3, h3, fun g ho => ho.same hsame h1⟩
    exact hm2.frame g (h2.lt ho) (nE k b g hk hb ho)
  refine ⟨ρ3, hsame, hgood, ?_⟩
  have hEB : ∀ g, (Bs.lent w ρl bl m.length H).E g → H g = none ∧ (B.N ≤ g ∨ B.E g) ∧ g < w.heap.size := fun g he => by
    obtain ⟨k, b, _, h2, h3, _⟩ := (hE g).1 he
    obtain ⟨h4, h5⟩ := hm.own k b g h2 h3
    exact ⟨h4, h5, (hm.ok k b h2).2.1.lt h3⟩
  have hnx : nx ≤ nx + (t.nx - m.length) := Nat.le_add_right _ _
  have split : ∀ k b, lk (b2 ++ deadB m bx) k = some b → lk b2 k = some b ∨ (b = .dead ∧ k ∈ m) ∨ (k ∉ m ∧ lk bx k = some b) := fun k b h => by
    rw [lk_append] at h
    split at h
    · rename_i x hx
      cases h
      exact .inl hx
    · rcases deadB_lk h with ⟨h1, h2⟩ | h1
      · exact .inr (.inl ⟨h2, h1⟩)
      · exact .inr (.inr h1)
  exact
  { os := hm2.os.trans hm.os, tape := hm2.tape.trans hm.tape, output := hm.output.trans hm2.output
    size := Nat.le_trans hm.size hm2.size
    frame := fun g hg hge => by
      refine (hm2.frame g (Nat.lt_of_lt_of_le hg hm.size) fun he => ?_).trans (hm.frame g hg hge)
      rcases (hEB g he).2.1 with h | h
      · omega
      · exact hge h
    base := Nat.le_trans hm.base hnx
    agree := fun k hk => by
      have := hsame k (Nat.lt_of_lt_of_le hk hm.base)
      rw [this.1, this.2]; exact hm.agree k hk
    hp := hm2.hp
    hle := hm.hle.trans hm2.hle
    hnew := fun g h1 h2 h3 => hm2.hnew g (hm.hnew g h1 h2 h3) (Nat.lt_of_lt_of_le h2 hm.size) fun he => by
      rcases (hEB g he).2.1 with h | h
      · omega
      · exact h3 h
    ok := fun k b h => by
      rcases split k b h with h | ⟨rfl, hkm⟩ | ⟨h1, h2⟩
      · obtain ⟨i, b0, _, _, h4, h5, h6, _⟩ := new k b h
        exact ⟨h4, h5, h6⟩
      · exact ⟨Nat.lt_of_lt_of_le (hmn k hkm) hnx, trivial, rfl⟩
      · obtain ⟨h3, h4, h5, _⟩ := old k b h1 h2
        refine ⟨Nat.lt_of_lt_of_le h3 hnx, h4, ?_⟩
        cases b with
        | cells T cs => exact lts_mono hnx cs h5
        | _ => rfl
    own := fun k b g h ho => by
      rcases split k b h with h | ⟨rfl, h⟩ | ⟨h1, h2⟩
      · obtain ⟨i, b0, h1, _, _, _, _, h7⟩ := new k b h
        obtain ⟨h8, h9⟩ := hm2.own i b0 g h1 ((h7 g).1 ho)
        refine ⟨h8, ?_⟩
        rcases h9 with h9 | h9
        · exact .inl (Nat.le_trans hm.size h9)
        · exact (hEB g h9).2.1
      · exact ho.elim
      · obtain ⟨h3, _, _, h6⟩ := old k b h1 h2
        obtain ⟨h7, h8⟩ := hm.own k b g h2 (h6 g ho)
        exact ⟨hm2.hnew g h7 ((hm.ok k b h2).2.1.lt (h6 g ho)) (nE k b g h1 h2 (h6 g ho)), h8⟩
    disj := fun k k' b b' g h h' ho ho' => by
      have mix : ∀ k b k' b', lk b2 k = some b → k' ∉ m → lk bx k' = some b' → Owns ρ3 k b g → Owns ρ3 k' b' g → False := fun k b k' b' h h1 h2 ho ho' => by
        obtain ⟨i, b0, e1, _, _, _, _, e7⟩ := new k b h
        obtain ⟨e3, _, _, e6⟩ := old k' b' h1 h2
        have ho2 := e6 g ho'
        rcases (hm2.own i b0 g e1 ((e7 g).1 ho)).2 with h9 | h9
        · have := (hm.ok k' b' h2).2.1.lt ho2
          exact absurd h9 (Nat.not_le_of_lt this)
        · exact nE k' b' g h1 h2 ho2 h9
      rcases split k b h with h | ⟨rfl, h⟩ | ⟨h1, h2⟩
      · rcases split k' b' h' with h' | ⟨rfl, h'⟩ | ⟨h1', h2'⟩
        · obtain ⟨i, b0, e1, e2, _, _, _, e7⟩ := new k b h
          obtain ⟨i', b0', e1', e2', _, _, _, e7'⟩ := new k' b' h'
          have := hm2.disj i i' b0 b0' g e1 e1' ((e7 g).1 ho) ((e7' g).1 ho')
          rw [← e2, ← e2', this]
        · exact ho'.elim
        · exact (mix k b k' b' h h1' h2' ho ho').elim
      · exact ho.elim
      · rcases split k' b' h' with h' | ⟨rfl, h'⟩ | ⟨h1', h2'⟩
        · exact (mix k' b' k b h' h1 h2 ho' ho).elim
        · exact ho'.elim
        · obtain ⟨_, _, _, e6⟩ := old k b h1 h2
          obtain ⟨_, _, _, e6'⟩ := old k' b' h1' h2'
          exact hm.disj k k' b b' g h2 h2' (e6 g ho) (e6' g ho') }

theorem ok_callG {f : FuncId} {args : List SV} {K : KK} (h : callG C f args s H K) (hl : SV.lts s.nx args = true) (hr : Rel C B ρ s H a w) {o : Oper} {next : Act → World → Prop} {Q : Exit → Act → World → Prop}
    (hn : ∀ x s' H' ρ' w', K x s' H' → Rel C B ρ' s' H' a w' → Le H H' → x.lt s'.nx = true → next (a.put o.dst (ga ρ' x)) w') :
    o.upon C.P a next Q ((callFunc f (gas ρ args).toArray).run C.P w) := by
  obtain ⟨m, hnd, h⟩ := h
  obtain ⟨ys, s1, H1, h1, h2, h3, h4, h5⟩ := argsG_ok m args hr hl h
  obtain ⟨env1, bx1, nx1⟩ := s1
  simp only at h1 h4
  subst h4
  split at h1
  · exact h1.elim
  · rename_i bl hbl
    obtain ⟨ρl, hg, hml, hmap, hE⟩ := Mem.lend h2.mem hnd hbl
    obtain ⟨e1, e2⟩ := h5 ρl m.length hg
    rw [h1.1, ← e1]
    show Calls C.P f (gas ρl ys).toArray w _
    refine (h1.2 w ρl hml e2).mono fun e w' ⟨x, t, H2, ρ2, he, hK, hx, hm2⟩ => ?_
    subst he
    simp only at hK
    split at hK
    · exact hK.elim
    · rename_i y hy
      split at hK
      · exact hK.elim
      · rename_i b2 hb2
        obtain ⟨ρ3, hs3, hg3, hm3⟩ := Mem.merge h2.mem hbl hmap hE hm2 hb2
        obtain ⟨e3, e4⟩ := ren2_ok hg3 x y hy hx
        have := hn y _ H2 ρ3 w' hK ⟨fun u z hu => ?_, h2.sz, h2.defers, hm3⟩ (h3.trans hm2.hle) e4
        · rwa [e3] at this
        · obtain ⟨g1, g2⟩ := h2.env u z hu
          exact ⟨by rw [g1, ga_same hs3 z g2], lt_mono (Nat.le_add_right _ _) z g2⟩

/-! ### Calls and builtins -/

theorem exec_builtin {o : Oper} {c : Call} {b : Builtin} (ho : o.op = .call c) (hc : c.callee = .builtin b) (ev : Operand → Value) (w : World) :
    (execOp ev o).run P w = (builtin b c.argTypes o.type (c.args.map fun | .const _ => true | _ => false) (c.args.map ev)).run P w := by
  simp only [execOp, ho, resolve, hc, Sem.run_bind, Sem.run_pure, Result.andThen_ok, invoke]
  rfl

theorem ok_value {c : Call} {g : Operand} {T : TypeId} {K : KK} (hc : c.callee = .value g) (h : match get s g with
      | some (.fn f cap) => match gets s c.args.toList with
        | some vs => bif hasN f C.xf then callX C f (vs ++ cap) s H K else bif hasN f C.gf then callG C f (vs ++ cap) s H K else callE C f (vs ++ cap) T s H K
        | none => False
      | _ => RawOp C s (.call c) T H K) : RawOp C s (.call c) T H K := by
  split at h
  · rename_i f cap hg
    split at h
    · rename_i vs hvs
      intro B ρ o a w ho hT hr next Q hn
      have h1 := (eval_get hr hg).1
      have h2 := (eval_gets hr hvs).1
      rw [ga] at h1
      have h3 : c.args.map a.eval = (gas ρ vs).toArray := by apply Array.ext'; simpa using h2
      unfold Oper.wp
      have h4 : (execOp a.eval o).run C.P w = (callFunc f (gas ρ (vs ++ cap)).toArray).run C.P w := by
        simp only [execOp, ho, resolve, hc, h1, Deferred.ofValue, Sem.run_bind, Sem.run_pure, Result.andThen_ok, invoke, h3]
        congr 2
        simp [gas_eq]
      rw [h4]
      have hlts : SV.lts s.nx (vs ++ cap) = true := by
        have hc := (eval_get hr hg).2
        rw [SV.lt] at hc
        rw [lts_iff] at *
        intro x hx
        rcases List.mem_append.1 hx with hx | hx
        · exact (lts_iff _ _).1 (eval_gets hr hvs).2 x hx
        · exact hc x hx
      cases hxf : hasN f C.xf with
      | true =>
        rw [hxf] at h
        obtain ⟨x, bx', nx', H', ρ', w', e1, hk, hl, hm, hs, hnx, _, hle⟩ := h B ρ w hr.mem hlts
        rw [e1]
        refine hn _ _ _ _ _ hk ⟨fun t y hy => ?_, hr.sz, hr.defers, hm⟩ hle hl
        obtain ⟨a1, a2⟩ := hr.env t y hy
        exact ⟨by rw [a1, ga_same hs y a2], lt_mono hnx y a2⟩
      | false =>
      rw [hxf] at h
      simp only [cond_false] at h
      cases hgf : hasN f C.gf with
      | false => rw [hgf] at h; exact ok_callE h hr hn
      | true =>
        rw [hgf] at h
        exact ok_callG h hlts hr hn
    · exact h.elim
  · exact h

end
end Go.Sy
