/- Part 'SyEq' of the proof: lemmas, each with its own conditions in its own statement. -/
import Derived.Test.YtjflpceoeofomaaSyOk4
import Derived.Laws.StructEq
namespace Go.Sy
open Go.RowKit (Below)
section
variable {C : Cx} {B : Bs} {ρ : Rho} {s : St} {H : Hp} {a : Act} {w : World} {P : Program}

theorem eql_bool {T : TypeId} {d : Nat} (h : P.underlying T = some .bool) (a b : Bool) (w : World) : (Op.equalIn (d + 1) T (.bool a) (.bool b)).run P w = .ok (a == b) w := by
  simp only [Op.equalIn, Sem.run_bind, run_underlying h]
  rfl
theorem eql_slice {T e : TypeId} {d : Nat} (h : P.underlying T = some (.slice e)) (a : Option Addr) (n c n' c' : Nat) (w : World) : (Op.equalIn (d + 1) T (.slice a n c) (.slice none n' c')).run P w = .ok a.isNone w := by
  simp only [Op.equalIn, Sem.run_bind, run_underlying h]
  cases a <;> rfl
theorem asB_ga {x : SV} {b : Bool} (h : asB x = some b) (ρ : Rho) : ga ρ x = .bool b := by
  unfold asB at h
  split at h
  · simp only [Option.some.injEq] at h; subst h; rw [ga]
  · simp only [Option.some.injEq] at h; subst h; rw [ga]
  · cases h

theorem eqFs_run (ht : TOK C) {e : Nat} {eq : TypeId → SV → SV → Option Bool} (he : ∀ T x y b, eq T x y = some b → ∀ (ρ : Rho) (w : World), (Op.equalIn e T (ga ρ x) (ga ρ y)).run C.P w = .ok b w) (ρ : Rho) (w : World) :
    ∀ (fs : List Field) (xs ys : List SV) (b : Bool), (∀ f ∈ fs, f.name ≠ "_") → eqFs C eq fs xs ys = some b → (Op.eqFields e (gas ρ xs).toArray (gas ρ ys).toArray fs).run C.P w = .ok b w
  | [], xs, ys, b, _, h => by simp only [eqFs, Option.some.injEq] at h; subst h; rfl
  | f :: r, xs, ys, b, hn, h => by
    rw [eqFs] at h
    split at h
    · rename_i n hsz
      split at h
      · rename_i x hx
        split at h
        · rename_i y hy
          split at h
          · rename_i p hp
            split at h
            · rename_i q hq
              simp only [Option.some.injEq] at h
              subst h
              have ih := eqFs_run ht he ρ w r xs ys q (fun g hg => hn g (List.mem_cons_of_mem _ hg)) hq
              rw [Op.eqFields, if_pos (hn f List.mem_cons_self)]
              simp only [Sem.run_bind, part_ok ht hsz hx, part_ok ht hsz hy, Result.andThen_ok, he _ _ _ _ hp]
              cases p with
              | true => simpa using ih
              | false => rfl
            · cases h
          · cases h
        · cases h
      · cases h
    · cases h

theorem eqT_run (ht : TOK C) : ∀ (d e : Nat), d ≤ e → ∀ T x y b, eqT C d T x y = some b → ∀ (ρ : Rho) (w : World), (Op.equalIn e T (ga ρ x) (ga ρ y)).run C.P w = .ok b w
  | 0, e, _, T, x, y, b, h, ρ, w => by cases h
  | d + 1, 0, hde, T, x, y, b, h, ρ, w => by omega
  | d + 1, e + 1, hde, T, x, y, b, h, ρ, w => by
    rw [eqT] at h
    unfold eqStep at h
    simp only at h
    split at h
    · rename_i i hT
      have hu := (ht _ _ _ hT).2
      split at h
      · rename_i p hp
        split at h
        · rename_i q hq
          cases h
          rw [asB_ga hp, asB_ga hq]
          exact eql_bool hu _ _ w
        · cases h
      · cases h
    · rename_i i k0 hT
      have hu := (ht _ _ _ hT).2
      split at h
      · rename_i k n
        split at h
        · rename_i k' m
          cases hk : decide (k = k') with
          | false => rw [hk] at h; cases h
          | true =>
            rw [hk] at h
            cases h
            obtain rfl := of_decide_eq_true hk
            rw [ga, ga, run_equalIn_int w e T k k0 n m hu]
            rfl
        · cases h
      · cases h
    · rename_i i hT
      have hu := (ht _ _ _ hT).2
      split at h
      · split at h
        · cases h
          rw [ga, ga, run_equalIn_string w e T _ _ hu, toList_sl, toList_sl, beq_dec]
        · cases h
      · cases h
    · rename_i i e0 hT
      have hu := (ht _ _ _ hT).2
      split at h
      · split at h
        · cases h
          rw [ga, ga]
          exact eql_slice hu _ _ _ _ _ w
        · cases h
      · cases h
    · rename_i i e0 hT
      have hu := (ht _ _ _ hT).2
      split at h
      · rename_i k off
        split at h
        · rename_i k' off'
          split at h
          · rename_i n hn
            cases hq : (Nat.beq k k' && Nat.beq off off') with
            | false => rw [hq] at h; cases h
            | true =>
              rw [hq] at h
              cases h
              simp only [Bool.and_eq_true] at hq
              obtain rfl := beq_t hq.1
              obtain rfl := beq_t hq.2
              rw [ga]
              simp [Op.equalIn, run_underlying hu, tsize_ok ht hn, sameAddr]
          · cases h
        · cases h
          rw [ga, ga]
          simp [Op.equalIn, run_underlying hu]
        · cases h
      · split at h
        · cases h
          rw [ga]
          simp [Op.equalIn, run_underlying hu]
        · cases h
          rw [ga, ga]
          simp [Op.equalIn, run_underlying hu]
        · cases h
      · cases h
    · rename_i i fs hT
      have hu := (ht _ _ _ hT).2
      cases hq : hasN T C.eqs with
      | false => rw [hq] at h; cases h
      | true =>
        rw [hq, cond_true] at h
        obtain ⟨g1, g2, g3⟩ := ht.eqs T hq
        split at h
        · rename_i xs hx
          split at h
          · rename_i ys hy
            rw [(aggOf_ga ρ hx).1, (aggOf_ga ρ hy).1]
            have hf : C.P.fieldsOf T = fs := by simp [Program.fieldsOf, hu]
            rw [run_equalIn_agg w e T _ _ (by rw [hf]; exact hu) g1, hf]
            exact eqFs_run ht (fun T x y b h ρ w => eqT_run ht d e (by omega) T x y b h ρ w) ρ w fs.toList xs ys b (fun f hf => g3 _ _ hT f (by simpa using hf)) h
          · cases h
        · cases h
    · cases h

theorem eqv_run (ht : TOK C) {T : TypeId} {x y : SV} {b : Bool} (h : eqv C T x y = some b) (ρ : Rho) (w : World) : (Op.equal T (ga ρ x) (ga ρ y)).run C.P w = .ok b w ∧
    (∀ op X Y, (eqGuard op T X Y (ga ρ x) (ga ρ y)).run C.P w = .ok () w) ∧
    (∀ op, Go.binOp op T (ga ρ x) (ga ρ y) = match op with
      | .eql => (do pure (.bool (← Op.equal T (ga ρ x) (ga ρ y))))
      | .neq => (do pure (.bool (!(← Op.equal T (ga ρ x) (ga ρ y)))))
      | op => Go.binOp op T (ga ρ x) (ga ρ y)) := by
  unfold eqv at h
  split at h
  · rename_i i hT
    refine ⟨eqT_run ht 1 10000 (by omega) T x y b h ρ w, ?_⟩
    rw [eqT] at h
    unfold eqStep at h
    simp only at h
    rw [hT] at h
    simp only at h
    split at h
    · rename_i p hp
      split at h
      · rename_i q hq
        rw [asB_ga hp, asB_ga hq]
        exact ⟨fun op X Y => by cases op <;> simp [eqGuard], fun op => by cases op <;> rfl⟩
      · cases h
    · cases h
  · rename_i i e hT
    refine ⟨eqT_run ht 1 10000 (by omega) T x y b h ρ w, ?_⟩
    rw [eqT] at h
    unfold eqStep at h
    simp only at h
    rw [hT] at h
    simp only at h
    split at h
    · split at h
      · simp only [ga]
        exact ⟨fun op X Y => by cases op <;> simp [eqGuard], fun op => by cases op <;> rfl⟩
      · cases h
    · cases h
  · rename_i i e hT
    refine ⟨eqT_run ht 1 10000 (by omega) T x y b h ρ w, ?_⟩
    rw [eqT] at h
    unfold eqStep at h
    simp only at h
    rw [hT] at h
    simp only at h
    split at h
    · split at h
      · simp only [ga]
        exact ⟨fun op X Y => by cases op <;> simp [eqGuard], fun op => by cases op <;> rfl⟩
      · simp only [ga]
        exact ⟨fun op X Y => by cases op <;> simp [eqGuard], fun op => by cases op <;> rfl⟩
      · cases h
    · split at h
      · simp only [ga]
        exact ⟨fun op X Y => by cases op <;> simp [eqGuard], fun op => by cases op <;> rfl⟩
      · simp only [ga]
        exact ⟨fun op X Y => by cases op <;> simp [eqGuard], fun op => by cases op <;> rfl⟩
      · cases h
    · cases h
  · rename_i i fs hT
    refine ⟨eqT_run ht 8 10000 (by omega) T x y b h ρ w, ?_⟩
    rw [eqT] at h
    unfold eqStep at h
    simp only at h
    rw [hT] at h
    simp only at h
    cases hq : hasN T C.eqs with
    | false => rw [hq] at h; cases h
    | true =>
      rw [hq, cond_true] at h
      split at h
      · rename_i xs hx
        split at h
        · rename_i ys hy
          rw [(aggOf_ga ρ hx).1, (aggOf_ga ρ hy).1]
          exact ⟨fun op X Y => run_eqGuard_agg w op T X Y _ _ (ht.eqs T hq).2.1, fun op => by cases op <;> rfl⟩
        · cases h
      · cases h
  · cases h

theorem eqGuard_cplx (op : BinOp) (t : TypeId) (x y : Operand) (k k' : FloatKind) (n m n' m' : Nat) (w : World) : (eqGuard op t x y (.complex k n m) (.complex k' n' m')).run P w = .ok () w := by
  cases op <;> simp [eqGuard]
theorem cplx_run {op : BinOp} {k : FloatKind} {n m n' m' : Nat} {K : SV → Prop} (xT : TypeId) (h : cplxE op k n m n' m' K) (w : World) :
    ∃ r, (Go.binOp op xT (.complex k n m) (.complex k n' m')).run P w = .ok r w ∧ K (.v r) := by
  unfold cplxE at h
  split at h
  · obtain ⟨re, im, h1, h2⟩ := h
    exact ⟨_, run_complex_sum w .add (.inl rfl) xT k n m n' m' re im h1, h2⟩
  · obtain ⟨re, im, h1, h2⟩ := h
    exact ⟨_, run_complex_sum w .sub (.inr rfl) xT k n m n' m' re im h1, h2⟩
  · obtain ⟨rfl, re, im, h1, h2⟩ := h
    exact ⟨_, run_complex_mul w xT n m n' m' re im h1, h2⟩
  · exact h.elim
theorem ok_bin (ht : TOK C) {fb : Prop} {op : BinOp} {xT yT : TypeId} {x y : Operand} {T : TypeId} {K : KK} (h : bin C op xT (get s x) (get s y) fun r => K r s H) : RawP C s (.binOp op xT x y yT) T H K ∨ fb := by
  refine .inl fun B ρ o a w ho _ hr => ?_
  unfold bin at h
  split at h
  · rename_i k n hx
    split at h
    · rename_i k' m hy
      have h1 := (eval_get hr hx).1
      have h2 := (eval_get hr hy).1
      rw [ga] at h1 h2
      have h3 : ∃ r, (Go.binOp op xT (.int k n) (.int k' m)).run C.P w = .ok r w ∧ K (.v r) s H := by
        split at h
        · exact binI_run (K := fun r => K r s H) xT h (.inl rfl) w
        · exact binI_run (K := fun r => K r s H) xT h (.inr (.inl rfl)) w
        · cases hk : decide (k = k') with
          | false => rw [hk] at h; exact h.elim
          | true => rw [hk] at h; exact binI_run (K := fun r => K r s H) xT h (.inr (.inr (of_decide_eq_true hk))) w
      obtain ⟨r, h4, h5⟩ := h3
      refine ⟨.v r, ?_, h5, by rw [SV.lt]⟩
      simp only [execOp, ho, h1, h2, Sem.run_bind, eqGuard_int, Result.andThen_ok, h4, ga]
      rfl
    · exact h.elim
  · rename_i n hx
    split at h
    · rename_i m hy
      have h1 := (eval_get hr hx).1
      have h2 := (eval_get hr hy).1
      rw [ga] at h1 h2
      obtain ⟨r, h4, h5⟩ := binS_run (K := fun r => K r s H) (P := C.P) xT h w
      refine ⟨.v r, ?_, h5, by rw [SV.lt]⟩
      simp only [execOp, ho, h1, h2, Sem.run_bind, eqGuard_str, Result.andThen_ok, h4, ga]
      rfl
    · exact h.elim
  · rename_i k n m hx
    split at h
    · rename_i k' n' m' hy
      obtain ⟨rfl, h⟩ := h
      have h1 := (eval_get hr hx).1
      have h2 := (eval_get hr hy).1
      rw [ga] at h1 h2
      obtain ⟨r, h4, h5⟩ := cplx_run (P := C.P) xT h w
      refine ⟨.v r, ?_, h5, by rw [SV.lt]⟩
      simp only [execOp, ho, h1, h2, Sem.run_bind, eqGuard_cplx, Result.andThen_ok, h4, ga]
      rfl
    · exact h.elim
  · unfold eqE at h
    split at h
    · rename_i x' hx
      split at h
      · rename_i y' hy
        split at h
        · rename_i b hb
          have h1 := (eval_get hr hx).1
          have h2 := (eval_get hr hy).1
          obtain ⟨e1, e2, e3⟩ := eqv_run ht hb ρ w
          split at h
          · refine ⟨_, ?_, h, by rw [bool, SV.lt]⟩
            simp only [execOp, ho, h1, h2, Sem.run_bind, e2, Result.andThen_ok, e3, e1, ga, bool]
            rfl
          · refine ⟨_, ?_, h, by rw [bool, SV.lt]⟩
            simp only [execOp, ho, h1, h2, Sem.run_bind, e2, Result.andThen_ok, e3, e1, ga, bool]
            rfl
          · exact h.elim
        · exact h.elim
      · exact h.elim
    · exact h.elim


def eqCheck (P : Program) (tt : TypeId → Option (TypeInfo × TypeDesc)) (T : TypeId) : Bool :=
  !P.stoodInHeld T && !P.eqGuardType P.depth T && (match tt T with
    | some (_, .struct fs) => fs.toList.all fun f => f.name != "_"
    | _ => true)
theorem eqs_of {tt : TypeId → Option (TypeInfo × TypeDesc)} {l : List Nat} (h : l.all (eqCheck P tt) = true) : ∀ T, hasN T l = true → P.stoodInHeld T = false ∧ P.eqGuardType P.depth T = false ∧ ∀ i fs, tt T = some (i, .struct fs) → ∀ f ∈ fs, f.name ≠ "_" := by
  intro T hT
  have hm : T ∈ l := by
    clear h
    induction l with
    | nil => cases hT
    | cons k r ih =>
      rw [hasN] at hT
      cases hk : Nat.beq k T with
      | true => simp [beq_t hk]
      | false => rw [hk] at hT; exact List.mem_cons_of_mem _ (ih hT)
  have := List.all_eq_true.1 h T hm
  simp only [eqCheck, Bool.and_eq_true, Bool.not_eq_true'] at this
  refine ⟨this.1.1, this.1.2, fun i fs ht f hf => ?_⟩
  have h2 := this.2
  rw [ht] at h2
  have h3 := List.all_eq_true.1 h2 f (by simpa using hf)
  simpa using h3

end
end Go.Sy
