/- Part 'G1' of the proof: lemmas, each with its own conditions in its own statement. -/
import Derived.Test.YtmcopfncaehggaaFl
import Derived.Test.YtmcopfncaehggaaE6
namespace Go.Proofs
open Go.Sy
set_option maxRecDepth 20000
def wrp (n : Int) : Int := (n + 32768) % 65536 - 32768
abbrev Nm := Int × Int
def nOf (a : Nm) : Nm := (wrp a.1, wrp a.2)
def nOp (op : Int) (a b : Nm) : Nm := if op = 0 then nOf a else if op = 1 then nOf ((nOf a).1 + (nOf b).1, (nOf a).2 + (nOf b).2) else if op = 2 then nOf ((nOf a).1 - (nOf b).1, (nOf a).2 - (nOf b).2)
  else if op = 3 then nOf ((nOf a).1 * (nOf b).1 - (nOf a).2 * (nOf b).2, (nOf a).1 * (nOf b).2 + (nOf a).2 * (nOf b).1) else if op = 4 then nOf ((nOf a).1, 0 - (nOf a).2) else (0, 0)
def opIs (op : Int) : Bool := decide (0 ≤ op ∧ op ≤ 4)
theorem wrp_le (n : Int) : -32768 ≤ wrp n ∧ wrp n ≤ 32767 := by unfold wrp; omega
theorem wrp_id {n : Int} (h : -32768 ≤ n ∧ n ≤ 32767) : wrp n = n := by unfold wrp; omega
theorem wrp_wrp (n : Int) : wrp (wrp n) = wrp n := wrp_id (wrp_le n)
abbrev numV (a : Nm) : Value := .agg #[.int .i64 a.1, .int .i64 a.2]
theorem gwrap_spec {n : Int} {H : Hp} {K : Value → Hp → Prop} (hK : K (.int .i64 (wrp n)) H) : Does Try.prog 101 [.int .i64 n] H K := by
  refine spec_of cx_ok cx_mix rfl Try.func101 Try.call101 Try.ntmps101 Try.results101 rfl rfl ?_
  refine ⟨by decide, ?_⟩
  have e : wrp n = if 32767 < n.tmod 65536 then n.tmod 65536 - 65536 else if n.tmod 65536 < -32768 then n.tmod 65536 + 65536 else n.tmod 65536 := by
    unfold wrp
    have := Int.tmod_add_mul_tdiv n 65536
    rcases Int.le_total 0 n with h | h
    · have := Int.tmod_nonneg 65536 h
      have := Int.tmod_lt_of_pos n (show (0 : Int) < 65536 by omega)
      split
      · omega
      · split <;> omega
    · have := Int.lt_tmod_of_pos n (show (0 : Int) < 65536 by omega)
      have : n.tmod 65536 ≤ 0 := by
        have := Int.tmod_nonneg (a := -n) 65536 (by omega)
        rw [Int.neg_tmod] at this
        omega
      split
      · omega
      · split <;> omega
  refine ⟨fun h => ?_, fun h => ?_⟩
  · have h := dt h
    rw [if_pos h] at e
    rw [e] at hK
    have := Int.tmod_lt_of_pos n (show (0 : Int) < 65536 by omega)
    exact ⟨⟨by omega, by omega⟩, hK⟩
  · have h := df h
    rw [if_neg h] at e
    have := Int.lt_tmod_of_pos n (show (0 : Int) < 65536 by omega)
    refine ⟨fun h => ?_, fun h => ?_⟩
    · have h := dt h
      rw [if_pos h] at e
      rw [e] at hK
      exact ⟨⟨by omega, by omega⟩, hK⟩
    · have h := df h
      rw [if_neg h] at e
      rw [e] at hK
      exact hK
theorem rwrap_spec {n : Int} {H : Hp} {K : Value → Hp → Prop} (hK : K (.int .i64 (wrp n)) H) : Does Try.prog 100 [.int .i64 n] H K := by
  refine spec_of cx_ok cx_mix rfl Try.func100 Try.call100 Try.ntmps100 Try.results100 rfl rfl ?_
  have h1 := Int.lt_tmod_of_pos n (show (0 : Int) < 65536 by omega)
  have h2 := Int.tmod_lt_of_pos n (show (0 : Int) < 65536 by omega)
  have h3 := Int.tmod_add_mul_tdiv n 65536
  have e : (n.tmod 65536 + 98304).tmod 65536 - 32768 = wrp n := by
    rw [Int.tmod_eq_emod_of_nonneg (by omega)]
    unfold wrp
    omega
  rw [← e] at hK
  have h4 := Int.lt_tmod_of_pos (n.tmod 65536 + 98304) (show (0 : Int) < 65536 by omega)
  have h5 := Int.tmod_lt_of_pos (n.tmod 65536 + 98304) (show (0 : Int) < 65536 by omega)
  exact ⟨by decide, ⟨by omega, by omega⟩, by decide, ⟨by omega, by omega⟩, hK⟩
theorem gof_spec {a b : Int} {H : Hp} {K : Value → Hp → Prop} (hK : K (numV (wrp a, wrp b)) H) : Does Try.prog 85 [.int .i64 a, .int .i64 b] H K := by
  refine spec_of cx_ok cx_mix rfl Try.func85 Try.call85 Try.ntmps85 Try.results85 rfl rfl ?_
  refine gwrap_spec ?_
  refine gwrap_spec ?_
  exact hK
theorem rof_spec {a b : Int} {H : Hp} {K : Value → Hp → Prop} (hK : K (numV (wrp a, wrp b)) H) : Does Try.prog 84 [.int .i64 a, .int .i64 b] H K := by
  refine spec_of cx_ok cx_mix rfl Try.func84 Try.call84 Try.ntmps84 Try.results84 rfl rfl ?_
  refine rwrap_spec ?_
  refine rwrap_spec ?_
  exact hK
theorem nabs_lt {n : Int} (h : -9007199254740991 ≤ n ∧ n ≤ 9007199254740991) : n.natAbs < 9007199254740992 := by omega
theorem gnumber_spec {a : Nm} {H : Hp} {K : Value → Hp → Prop} (hK : ∀ x y, FV x (wrp a.1) → FV y (wrp a.2) → y < 18446744073709551616 → K (.complex .f64 x y) H) : Does Try.prog 103 [numV a] H K := by
  refine spec_of cx_ok cx_mix rfl Try.func103 Try.call103 Try.ntmps103 Try.results103 rfl rfl ?_
  refine gof_spec ?_
  have h1 := wrp_le a.1
  have h2 := wrp_le a.2
  refine ⟨rfl, ?_⟩
  exact hK _ _ (fv_of_int (nabs_lt (by omega))) (fv_of_int (nabs_lt (by omega))) (ofInt_lt _)
theorem gback_spec {x y : Nat} {p q : Int} (hx : FV x p) (hy : FV y q) (hp : -9007199254740991 ≤ p ∧ p ≤ 9007199254740991) (hq : -9007199254740991 ≤ q ∧ q ≤ 9007199254740991) {H : Hp} {K : Value → Hp → Prop} (hK : K (numV (wrp p, wrp q)) H) : Does Try.prog 102 [.complex .f64 x y] H K := by
  refine spec_of cx_ok cx_mix rfl Try.func102 Try.call102 Try.ntmps102 Try.results102 rfl rfl ?_
  refine ⟨p, fv_toInt hx ⟨by omega, by omega⟩, ?_⟩
  refine ⟨q, fv_toInt hy ⟨by omega, by omega⟩, ?_⟩
  refine gof_spec ?_
  exact hK
theorem gadd_spec {a b : Nm} {H : Hp} {K : Value → Hp → Prop} (hK : K (numV (nOp 1 a b)) H) : Does Try.prog 86 [numV a, numV b] H K := by
  refine spec_of cx_ok cx_mix rfl Try.func86 Try.call86 Try.ntmps86 Try.results86 rfl rfl ?_
  refine ⟨some ([2], [0, 2, 1, 3, 4, 5, 6]), by kernel_rfl, ?_⟩
  refine gnumber_spec fun x y hx hy _ => ?_
  refine gnumber_spec fun x' y' hx' hy' _ => ?_
  have h1 := wrp_le a.1
  have h2 := wrp_le a.2
  have h3 := wrp_le b.1
  have h4 := wrp_le b.2
  obtain ⟨r, e1, hr⟩ := fv_add hx hx' (nabs_lt (by omega))
  obtain ⟨r', e2, hr'⟩ := fv_add hy hy' (nabs_lt (by omega))
  refine ⟨rfl, r, r', by rw [cSumBits, e1, e2]; rfl, ?_⟩
  refine gback_spec hr hr' (by omega) (by omega) ?_
  exact hK
theorem gsub_spec {a b : Nm} {H : Hp} {K : Value → Hp → Prop} (hK : K (numV (nOp 2 a b)) H) : Does Try.prog 87 [numV a, numV b] H K := by
  refine spec_of cx_ok cx_mix rfl Try.func87 Try.call87 Try.ntmps87 Try.results87 rfl rfl ?_
  refine ⟨some ([2], [0, 2, 1, 3, 4, 5, 6]), by kernel_rfl, ?_⟩
  refine gnumber_spec fun x y hx hy _ => ?_
  refine gnumber_spec fun x' y' hx' hy' _ => ?_
  have h1 := wrp_le a.1
  have h2 := wrp_le a.2
  have h3 := wrp_le b.1
  have h4 := wrp_le b.2
  obtain ⟨r, e1, hr⟩ := fv_sub hx hx' (nabs_lt (by omega))
  obtain ⟨r', e2, hr'⟩ := fv_sub hy hy' (nabs_lt (by omega))
  refine ⟨rfl, r, r', by rw [cSumBits, e1, e2]; rfl, ?_⟩
  refine gback_spec hr hr' (by omega) (by omega) ?_
  exact hK
theorem mul_bound {a b : Int} (h1 : -32768 ≤ a ∧ a ≤ 32767) (h2 : -32768 ≤ b ∧ b ≤ 32767) : -1073741824 ≤ a * b ∧ a * b ≤ 1073741824 := by
  have h : (a * b).natAbs ≤ 32768 * 32768 := by
    rw [Int.natAbs_mul]
    exact Nat.mul_le_mul (by omega) (by omega)
  omega
theorem gmul_spec {a b : Nm} {H : Hp} {K : Value → Hp → Prop} (hK : K (numV (nOp 3 a b)) H) : Does Try.prog 88 [numV a, numV b] H K := by
  refine spec_of cx_ok cx_mix rfl Try.func88 Try.call88 Try.ntmps88 Try.results88 rfl rfl ?_
  refine ⟨some ([2], [0, 2, 1, 3, 4, 5, 6]), by kernel_rfl, ?_⟩
  refine gnumber_spec fun x y hx hy _ => ?_
  refine gnumber_spec fun x' y' hx' hy' _ => ?_
  have h1 := mul_bound (wrp_le a.1) (wrp_le b.1)
  have h2 := mul_bound (wrp_le a.2) (wrp_le b.2)
  have h3 := mul_bound (wrp_le a.1) (wrp_le b.2)
  have h4 := mul_bound (wrp_le a.2) (wrp_le b.1)
  obtain ⟨r1, e1, hr1⟩ := fv_mul hx hx' (nabs_lt (by omega))
  obtain ⟨r2, e2, hr2⟩ := fv_mul hy hy' (nabs_lt (by omega))
  obtain ⟨r3, e3, hr3⟩ := fv_mul hx hy' (nabs_lt (by omega))
  obtain ⟨r4, e4, hr4⟩ := fv_mul hy hx' (nabs_lt (by omega))
  obtain ⟨r5, e5, hr5⟩ := fv_sub hr1 hr2 (nabs_lt (by omega))
  obtain ⟨r6, e6, hr6⟩ := fv_add hr3 hr4 (nabs_lt (by omega))
  have e : cMulBits x y x' y' = some (r5, r6) := by
    unfold cMulBits
    rw [e1, Option.bind_some, e2, Option.bind_some, e5, Option.bind_some, e3, Option.bind_some, e4, Option.bind_some, e6]
    rfl
  refine ⟨rfl, rfl, r5, r6, e, ?_⟩
  refine gback_spec hr5 hr6 (by omega) (by omega) ?_
  exact hK
theorem gconj_spec {a b : Nm} {H : Hp} {K : Value → Hp → Prop} (hK : K (numV (nOp 4 a b)) H) : Does Try.prog 89 [numV a] H K := by
  refine spec_of cx_ok cx_mix rfl Try.func89 Try.call89 Try.ntmps89 Try.results89 rfl rfl ?_
  refine gnumber_spec fun x y hx hy hy2 => ?_
  have h1 := wrp_le a.1
  have h2 := wrp_le a.2
  refine ⟨rfl, ?_⟩
  have hz := fv_neg hy hy2
  rw [← Int.zero_sub] at hz
  refine gback_spec hx hz (by omega) (by omega) ?_
  exact hK
theorem gop_spec {op : Int} {a b : Nm} {H : Hp} {K : Value → Hp → Prop} (hK : K (.tuple #[numV (nOp op a b), .int .i64 (if opIs op then 0 else 10)]) H) : Does Try.prog 64 [.int .i64 op, numV a, numV b] H K := by
  refine spec_of cx_ok cx_mix rfl Try.func64 Try.call64 Try.ntmps64 Try.results64 rfl rfl ?_
  refine .inl ⟨1, ?_⟩
  refine ⟨fun h => ?_, fun h => ?_⟩
  · have h := dt h
    subst h
    refine gof_spec ?_
    exact hK
  have h0 := df h
  refine ⟨fun h => ?_, fun h => ?_⟩
  · have h := dt h
    subst h
    refine gadd_spec ?_
    exact hK
  have h1 := df h
  refine ⟨fun h => ?_, fun h => ?_⟩
  · have h := dt h
    subst h
    refine gsub_spec ?_
    exact hK
  have h2 := df h
  refine ⟨fun h => ?_, fun h => ?_⟩
  · have h := dt h
    subst h
    refine gmul_spec ?_
    exact hK
  have h3 := df h
  refine ⟨fun h => ?_, fun h => ?_⟩
  · have h := dt h
    subst h
    refine gconj_spec (b := b) ?_
    exact hK
  have h4 := df h
  have e1 : opIs op = false := decide_eq_false (by omega)
  have e2 : nOp op a b = (0, 0) := by rw [nOp, if_neg h0, if_neg h1, if_neg h2, if_neg h3, if_neg h4]
  rw [e1, e2] at hK
  exact hK
theorem rop_spec {op : Int} {a b : Nm} {H : Hp} {K : Value → Hp → Prop} (hK : K (.tuple #[numV (nOp op a b), .bool (opIs op)]) H) : Does Try.prog 66 [.int .i64 op, numV a, numV b] H K := by
  refine spec_of cx_ok cx_mix rfl Try.func66 Try.call66 Try.ntmps66 Try.results66 rfl rfl ?_
  refine rof_spec ?_
  refine rof_spec ?_
  have l1 := wrp_le a.1
  have l2 := wrp_le a.2
  have l3 := wrp_le b.1
  have l4 := wrp_le b.2
  refine ⟨fun h => ?_, fun h => ?_⟩
  · have h := dt h
    subst h
    exact hK
  have h0 := df h
  refine ⟨fun h => ?_, fun h => ?_⟩
  · have h := dt h
    subst h
    refine ⟨⟨by omega, by omega⟩, ⟨by omega, by omega⟩, ?_⟩
    refine rof_spec ?_
    exact hK
  have h1 := df h
  refine ⟨fun h => ?_, fun h => ?_⟩
  · have h := dt h
    subst h
    refine ⟨⟨by omega, by omega⟩, ⟨by omega, by omega⟩, ?_⟩
    refine rof_spec ?_
    exact hK
  have h2 := df h
  refine ⟨fun h => ?_, fun h => ?_⟩
  · have h := dt h
    subst h
    have k1 := mul_bound l1 l3
    have k2 := mul_bound l2 l4
    have k3 := mul_bound l1 l4
    have k4 := mul_bound l2 l3
    refine ⟨⟨Int.le_trans (by decide) k1.1, Int.le_trans k1.2 (by decide)⟩, ⟨Int.le_trans (by decide) k2.1, Int.le_trans k2.2 (by decide)⟩, ⟨by dsimp only; omega, by dsimp only; omega⟩, ⟨Int.le_trans (by decide) k3.1, Int.le_trans k3.2 (by decide)⟩, ⟨Int.le_trans (by decide) k4.1, Int.le_trans k4.2 (by decide)⟩, ⟨by dsimp only; omega, by dsimp only; omega⟩, ?_⟩
    refine rof_spec ?_
    exact hK
  have h3 := df h
  refine ⟨fun h => ?_, fun h => ?_⟩
  · have h := dt h
    subst h
    refine ⟨⟨by omega, by omega⟩, ?_⟩
    refine rof_spec ?_
    exact hK
  have h4 := df h
  have e1 : opIs op = false := decide_eq_false (by omega)
  have e2 : nOp op a b = (0, 0) := by rw [nOp, if_neg h0, if_neg h1, if_neg h2, if_neg h3, if_neg h4]
  rw [e1, e2] at hK
  exact hK
end Go.Proofs
