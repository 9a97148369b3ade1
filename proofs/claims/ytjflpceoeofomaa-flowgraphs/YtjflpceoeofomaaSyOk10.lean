/- Part 'SyOk10' of the proof: lemmas, each with its own conditions in its own statement. -/
import Derived.Test.YtjflpceoeofomaaSyOk9
import Derived.Test.YtjflpceoeofomaaSyFast
namespace Go.Sy
open Go.RowKit (Below)
section
variable {C : Cx} {B : Bs} {ρ : Rho} {s : St} {H : Hp} {a : Act} {w : World} {P : Program}

def resOp (tmps : Array Value) : ResultVar → Sem Value
  | .tmp t => pure (tmps.getD t undef)
  | .cell a t => do loadVar t (← asAddr (tmps.getD a undef))

theorem res_ok (ht : TOK C) (hr : Rel C B ρ s H a w) : ∀ {l : List ResultVar} {xs : List SV}, resE C s l = some xs → (l.mapM (resOp a.tmps)).run C.P w = .ok (gas ρ xs) w ∧ SV.lts s.nx xs = true
  | [], xs, h => by
    simp only [resE, Option.some.injEq] at h
    subst h
    exact ⟨by simp [gas], by rw [SV.lts]⟩
  | .tmp t :: r, xs, h => by
    simp only [resE] at h
    split at h
    · rename_i x hx
      split at h
      · rename_i l hl
        simp only [Option.some.injEq] at h
        subst h
        obtain ⟨h1, h2⟩ := eval_get hr hx
        obtain ⟨h3, h4⟩ := res_ok ht hr hl
        have h1' : a.tmps.getD t undef = ga ρ x := h1
        refine ⟨?_, by rw [SV.lts, h2]; exact h4⟩
        simp only [List.mapM_cons, resOp, Sem.run_bind, Sem.run_pure, Result.andThen_ok, h1', h3, gas]
      · cases h
    · cases h
  | .cell t T :: r, xs, h => by
    simp only [resE] at h
    split at h
    · rename_i k off hx
      split at h
      · rename_i T0 cs hk
        split at h
        · rename_i n hn
          cases hle : Nat.ble (off + n) cs.length with
          | false => rw [hle] at h; cases h
          | true =>
            rw [hle] at h
            simp only [cond_true] at h
            have hle := ble_t hle
            split at h
            · rename_i x hx0
              split at h
              · rename_i l hl
                simp only [Option.some.injEq] at h
                subst h
                have h1 := (eval_get hr hx).1
                rw [ga] at h1
                have h1' : a.tmps.getD t undef = .pointer (some ⟨ρ.b k, off, none⟩) := h1
                have hb := (hr.mem.ok _ _ hk).2.1
                simp only [BoxOK] at hb
                have h2 := loadVar_ok (ρ := ρ) (w := w) ht hn (g := ρ.b k) (off := off) (l := (cs.drop off).take n) (by simp; omega) (fun j v hv => by
                  rw [cell_of _ _ hb]
                  rw [gas_take_drop, List.getElem?_take] at hv
                  split at hv
                  · simpa [List.getElem?_drop] using hv
                  · cases hv) hx0
                obtain ⟨h3, h4⟩ := res_ok ht hr hl
                refine ⟨?_, by rw [SV.lts, mkv_lt hx0 (lts_take_drop (hr.mem.ok _ _ hk).2.2 off n)]; exact h4⟩
                simp only [List.mapM_cons, resOp, h1', asAddr, Sem.run_bind, Sem.run_pure, Result.andThen_ok, h2, h3, gas]
              · cases h
            · cases h
        · cases h
      · cases h
    · cases h

theorem results_ok (ht : TOK C) (hr : Rel C B ρ s H a w) {fn : Func} {xs : List SV} (h : resE C s fn.results.toList = some xs) : (results fn a.tmps).run C.P w = .ok (ga ρ (resV xs)) w := by
  have h1 := (res_ok ht hr h).1
  have h2 : (fn.results.mapM (resOp a.tmps)).run C.P w = .ok (gas ρ xs).toArray w := by
    rw [Array.mapM_eq_mapM_toList, Sem.run_map, h1]; rfl
  have h3 : results fn a.tmps = (do let vs ← fn.results.mapM (resOp a.tmps); pure (if h : vs.size = 1 then vs[0] else .tuple vs)) := by
    unfold results
    congr 2
  rw [h3, Sem.run_bind, h2]
  simp only [Result.andThen_ok, Sem.run_pure]
  match xs with
  | [x] => simp [gas, resV]
  | [] => simp [gas, resV, ga]
  | x :: y :: r => simp [gas, resV, ga]

theorem argEnv_lk : ∀ (i : Nat) (l : List Value) (t : Nat) (x : SV), lk (argEnv i l) t = some x → i ≤ t ∧ ∃ v, l[t - i]? = some v ∧ x = ofV v
  | i, [], t, x, h => by simp [argEnv, lk] at h
  | i, v :: r, t, x, h => by
    rw [argEnv, lk_cons] at h
    split at h
    · rename_i e
      subst e
      simp only [Option.some.injEq] at h
      subst h
      exact ⟨Nat.le_refl _, v, by simp, rfl⟩
    · rename_i hne
      obtain ⟨h1, u, h2, h3⟩ := argEnv_lk (i + 1) r t x h
      refine ⟨by omega, u, ?_, h3⟩
      rw [show t - i = (t - (i + 1)) + 1 by omega]
      simpa using h2

/-- A function's contract out of its body's meaning. -/
theorem spec_of (ht : TOK C) (hm : C.P.follows .mixedOrders = true) (hb : C.base = 0) {f : FuncId} {fn : Func} (hf : C.P.funcs[f]? = some fn) (hc : ∀ as w, (callFunc f as).run C.P w = .ok (.enter f as) w) {n : Nat} (hn : fn.ntmps = n) {rs : Array ResultVar} (hrs : fn.results = rs) {c : Code} (hbody : fn.body = some c) {args : List Value} (hsz : Nat.ble args.length n = true)
    {K : Value → Hp → Prop} (h : fnR C n c rs.toList args H K) : Does C.P f args H K := by
  rw [fnR_eq] at h
  refine ⟨hc, fun w hp => ?_⟩
  subst hn
  subst hrs
  have hsz := ble_t hsz
  unfold fnE at h
  · refine calls_of_wp hf hbody ?_
    let C' : Cx := { C with n := fn.ntmps }
    have ht' : TOK C' := ⟨ht.tt, ht.eqs⟩
    let B : Bs := { N := w.heap.size, w0 := w, E := fun _ => False, base := 0, ρ := ⟨fun _ => 0, fun _ => (none, 0, 0)⟩, H := H }
    have hr : Rel C' B ⟨fun _ => 0, fun _ => (none, 0, 0)⟩ { env := argEnv 0 args, bx := [], nx := 0 } H { tmps := args.toArray ++ Array.replicate (fn.ntmps - args.toArray.size) undef, defers := [] } w :=
      { env := fun t x hx => by
          obtain ⟨_, v, h1, rfl⟩ := argEnv_lk 0 args t x hx
          have hlt := (List.getElem?_eq_some_iff.1 h1).1
          refine ⟨?_, (ofV_ga ⟨fun _ => 0, fun _ => (none, 0, 0)⟩ v).2 _⟩
          rw [(ofV_ga _ v).1]
          simp only [Nat.sub_zero] at h1 hlt
          rw [Array.getElem?_append_left (by simpa using hlt)]
          simpa using h1
        sz := by simp [C']; omega
        defers := rfl
        mem := { os := rfl, tape := rfl, output := OD.refl _, size := Nat.le_refl _, frame := fun _ _ _ => rfl, base := Nat.zero_le _, agree := fun k hk => absurd hk (Nat.not_lt_zero k)
                 hp := hp, hle := Le.refl H, hnew := fun _ h _ _ => h, ok := fun k b hk => by simp [lk] at hk, own := fun k b g hk => by simp [lk] at hk, disj := fun k k' b b' g hk => by simp [lk] at hk } }
    refine wp_mono (wpE_ok1 (B := B) ht' hm hb.symm c h hr) fun e a' w' ⟨e0, s', H', ρ', h1, h2, h3, h4⟩ => ?_
    subst h1
    have fin : ∀ l, resE C' s' fn.results.toList = some l → fz (resV l) s' H' (fun v _ H'' => K v H'') → a'.defers = [] ∧ ∃ v, (results fn a'.tmps).run C.P w' = .ok v w' ∧ ∃ v1 H1, Ending.returned v = .returned v1 ∧ K v1 H1 ∧ Le H H1 ∧ (∀ b o, H1 b = some o → w'.heap[b]? = some o) ∧
        (∀ b, H b = none → b < w.heap.size → H1 b = none) ∧ BelowD w.heap.size w w' := fun l hl hz => by
      obtain ⟨s1, H1, k1, k2, k3, k4⟩ := fz_ok (resV l) h3 hz
      refine ⟨h3.defers, _, results_ok ht' h3 hl, _, H1, rfl, k1, h4.trans k3, k2.mem.hp, fun b hb hlt => k2.mem.hnew b hb hlt (fun h => h), ⟨⟨k2.mem.os, k2.mem.tape, k2.mem.output.1, k2.mem.size, fun b hb => k2.mem.frame b hb (fun h => h)⟩, k2.mem.output.2⟩⟩
    cases e0 with
    | normal =>
      simp only at h2
      split at h2
      · rename_i l hl; exact fin l hl (by rw [fz2_eq] at h2; exact h2)
      · exact h2.elim
    | ret =>
      simp only at h2
      split at h2
      · rename_i l hl; exact fin l hl (by rw [fz2_eq] at h2; exact h2)
      · exact h2.elim
    | exit i => exact h2.elim
    | goto l => exact h2.elim

end
end Go.Sy
