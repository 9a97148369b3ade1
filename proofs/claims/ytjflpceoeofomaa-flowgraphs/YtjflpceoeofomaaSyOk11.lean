/- Part 'SyOk11' of the proof: lemmas, each with its own conditions in its own statement. -/
import Derived.Test.YtjflpceoeofomaaSyOk10
namespace Go.Sy
open Go.RowKit (Below)
section
variable {C : Cx} {B : Bs} {ρ : Rho} {s : St} {H : Hp} {a : Act} {w : World} {P : Program}

def argEnvG : Nat → List SV → List (Nat × SV)
  | _, [] => []
  | i, x :: r => (i, x) :: argEnvG (i + 1) r

/-- A result that is a row's head is a row. -/
def shrink (x : SV) (bx : List (Nat × Bx)) (nx : Nat) (K : SV → List (Nat × Bx) → Nat → Prop) : Prop := match x with
  | .sub k sz 0 n => match lk bx k with
    | some (.row e sz' xs) => n ≤ xs.length ∧ K (.own nx) ((nx, .row e sz' (xs.take n)) :: (k, .dead) :: bx) (nx + 1)
    | _ => K (.sub k sz 0 n) bx nx
  | x => K x bx nx

/-- A function's meaning, over boxes that are lent; the result is told of as its reader wants it. -/
noncomputable def fnRG (C : Cx) (n : Nat) (c : Code) (res : List ResultVar) (args : List SV) (bx : List (Nat × Bx)) (nx : Nat) (H : Hp) (K : SV → St → Hp → Prop) : Prop :=
  wpR { C with n := n, base := nx } (scE { C with n := n, base := nx } (wpR { C with n := n, base := nx } (sc0 { C with n := n, base := nx }))) c (fun e s' H' => match e with
      | .normal | .ret => match resE { C with n := n, base := nx } s' res with
        | some l => shrink (resV l) s'.bx s'.nx fun x bx' nx' => ∃ (y : SV) (b2 : List (Nat × Bx)) (n2 : Nat) (m : List (Nat × Nat)), Sub { C with n := 1, base := nx } m ⟨[(0, x)], bx', nx'⟩ ⟨[(0, y)], b2, n2⟩ ∧ K y ⟨[], b2, n2⟩ H'
        | none => False
      | _ => False) { env := argEnvG 0 args, bx := bx, nx := nx } H

theorem argEnvG_lk : ∀ (i : Nat) (l : List SV) (t : Nat) (x : SV), lk (argEnvG i l) t = some x → i ≤ t ∧ l[t - i]? = some x
  | i, [], t, x, h => by simp [argEnvG, lk] at h
  | i, v :: r, t, x, h => by
    rw [argEnvG, lk_cons] at h
    split at h
    · rename_i e
      subst e
      simp only [Option.some.injEq] at h
      subst h
      exact ⟨Nat.le_refl _, by simp⟩
    · rename_i hne
      obtain ⟨h1, h2⟩ := argEnvG_lk (i + 1) r t x h
      refine ⟨by omega, ?_⟩
      rw [show t - i = (t - (i + 1)) + 1 by omega]
      simpa using h2

theorem shrink_ok {x : SV} {bx : List (Nat × Bx)} {nx : Nat} {K : SV → List (Nat × Bx) → Nat → Prop} (h : shrink x bx nx K) (hr : Rel C B ρ ⟨[(0, x)], bx, nx⟩ H { tmps := #[ga ρ x], defers := [] } w) :
    ∃ x' bx' nx' ρ', K x' bx' nx' ∧ ga ρ' x' = ga ρ x ∧ Rel C B ρ' ⟨[(0, x')], bx', nx'⟩ H { tmps := #[ga ρ' x'], defers := [] } w := by
  unfold shrink at h
  split at h
  · rename_i k sz n
    split at h
    · rename_i e sz' xs hk
      obtain ⟨hn, h⟩ := h
      obtain ⟨ρ', hr', hg⟩ := hr.shrunk hk hn sz
      refine ⟨_, _, _, ρ', h, by rw [hg, ga], ⟨fun t x hx => ?_, hr.sz, rfl, hr'.mem⟩⟩
      rw [lk_cons] at hx
      split at hx
      · rename_i e
        subst e
        cases hx
        exact ⟨rfl, by rw [SV.lt]; exact Nat.ble_eq_true_of_le (Nat.le_refl _)⟩
      · cases hx
    · exact ⟨_, _, _, ρ, h, rfl, hr⟩
  · exact ⟨_, _, _, ρ, h, rfl, hr⟩

theorem spec_ofG (ht : TOK C) (hm : C.P.follows .mixedOrders = true) {f : FuncId} {fn : Func} (hf : C.P.funcs[f]? = some fn) (hc : ∀ as w, (callFunc f as).run C.P w = .ok (.enter f as) w) {n : Nat} (hn : fn.ntmps = n) {rs : Array ResultVar} (hrs : fn.results = rs) {c : Code} (hbody : fn.body = some c) {args : List SV} {bx : List (Nat × Bx)} {nx : Nat} (hsz : Nat.ble args.length n = true)
    {K : SV → St → Hp → Prop} (h : fnRG C n c rs.toList args bx nx H K) : DoesG C.P f args bx nx H K := by
  refine ⟨hc, fun w ρ hmem hl => ?_⟩
  subst hn
  subst hrs
  have hsz := ble_t hsz
  unfold fnRG at h
  rw [wpR_eq, funext (wpR_eq { C with n := fn.ntmps, base := nx } (sc0 { C with n := fn.ntmps, base := nx }))] at h
  refine calls_of_wp hf hbody ?_
  let C' : Cx := { C with n := fn.ntmps, base := nx }
  have ht' : TOK C' := ⟨ht.tt, ht.eqs⟩
  have hlen : (gas ρ args).length = args.length := by rw [gas_eq, List.length_map]
  have hr : Rel C' (Bs.lent w ρ bx nx H) ρ { env := argEnvG 0 args, bx := bx, nx := nx } H { tmps := (gas ρ args).toArray ++ Array.replicate (fn.ntmps - (gas ρ args).toArray.size) undef, defers := [] } w :=
    { env := fun t x hx => by
        obtain ⟨_, h1⟩ := argEnvG_lk 0 args t x hx
        rw [Nat.sub_zero] at h1
        have hlt := (List.getElem?_eq_some_iff.1 h1).1
        refine ⟨?_, (lts_iff nx args).1 hl x (List.mem_of_getElem? h1)⟩
        rw [Array.getElem?_append_left (by simpa [hlen] using hlt)]
        simp [gas_eq, h1]
      sz := by simp [C', hlen]; omega
      defers := rfl
      mem := hmem }
  refine wp_mono (wpE_ok1 (B := Bs.lent w ρ bx nx H) ht' hm rfl c h hr) fun e a' w' ⟨e0, s', H', ρ', h1, h2, h3, h4⟩ => ?_
  subst h1
  have fin : ∀ l, resE C' s' fn.results.toList = some l → (shrink (resV l) s'.bx s'.nx fun x bx' nx' => ∃ (y : SV) (b2 : List (Nat × Bx)) (n2 : Nat) (m : List (Nat × Nat)), Sub { C with n := 1, base := nx } m ⟨[(0, x)], bx', nx'⟩ ⟨[(0, y)], b2, n2⟩ ∧ K y ⟨[], b2, n2⟩ H') →
      a'.defers = [] ∧ ∃ v, (results fn a'.tmps).run C.P w' = .ok v w' ∧ ∃ x t H1 ρ1, Ending.returned v = .returned (ga ρ1 x) ∧ K x t H1 ∧ x.lt t.nx = true ∧ Mem (Bs.lent w ρ bx nx H) ρ1 t.bx t.nx H1 w' := fun l hl hsh => by
    have hlts := (res_ok ht' h3 hl).2
    have hrl : (resV l).lt s'.nx = true := by
      unfold resV
      split
      · rw [lts_iff] at hlts; exact hlts _ (by simp)
      · rw [SV.lt]; exact hlts
    have hr2 : Rel { C with n := 1, base := nx } (Bs.lent w ρ bx nx H) ρ' ⟨[(0, resV l)], s'.bx, s'.nx⟩ H' { tmps := #[ga ρ' (resV l)], defers := [] } w' :=
      { env := fun t x hx => by
          rw [lk_cons] at hx
          split at hx
          · rename_i e
            subst e
            cases hx
            exact ⟨rfl, hrl⟩
          · cases hx
        sz := rfl
        defers := rfl
        mem := h3.mem }
    obtain ⟨x3, bx3, nx3, ρ3, ⟨y, b2, n2, m, hsub, hk⟩, hg3, hr3⟩ := shrink_ok hsh hr2
    obtain ⟨ρ1, hr1⟩ := hr3.sub rfl hsub
    obtain ⟨e1, e2⟩ := hr1.env 0 y rfl
    refine ⟨h3.defers, _, results_ok ht' h3 hl, y, _, H', ρ1, ?_, hk, e2, hr1.mem⟩
    have : ga ρ3 x3 = ga ρ1 y := by simpa using e1
    rw [← hg3, this]
  cases e0 with
  | normal =>
    simp only at h2
    split at h2
    · rename_i l hl; exact fin l hl h2
    · exact h2.elim
  | ret =>
    simp only at h2
    split at h2
    · rename_i l hl; exact fin l hl h2
    · exact h2.elim
  | exit i => exact h2.elim
  | goto l => exact h2.elim

end
end Go.Sy
