/- Part 'M33' of the proof (Gw1, Gw2, Dl, Mg2, Mg3, Mg4, Mg5, W0, W1, W2, W3, W4, W5, W6, W7, W8, W9, W10, W11, W12, Rn0, Lv0, Lv1, Lv2, W13, W14, W15, Px0, Px1, Fo0, W16, Fo1, Fo2, Fo3, Ex1, Ex2, Ex3, Ex4): lemmas, each with its own conditions in its own statement. -/
import Derived.Test.YtmpnlhcnkobpfaaGreatRDoorM15
import Derived.Test.YtmpnlhcnkobpfaaGreatRDoorM25
import Derived.Test.YtmpnlhcnkobpfaaGreatRDoorM27
import Derived.Test.YtmpnlhcnkobpfaaGreatRDoorM3
import Derived.Test.YtmpnlhcnkobpfaaGreatRDoorM31
import Derived.Test.YtmpnlhcnkobpfaaGreatRDoorM32
section
namespace Go.Proofs
open Go.Sy Go.Shelf Go.RowKit Go.Lib
set_option maxRecDepth 20000
end Go.Proofs
end
section
namespace Go.Proofs
open Go.Sy
set_option maxRecDepth 20000
set_option maxHeartbeats 4000000
theorem list_k {α : Type} [Enc α] {P : Prop} {H : Hp} {a : Option Addr} {n c : Nat} {xs : List (List α)} (h : RL H a n c xs) {i : Nat} {x : List α} (hi : xs[i]? = some x) (k : ∀ ad a1 n1 c1, a = some ad → ElemH H ad (i : Int) 1 [.slice a1 n1 c1] → RL H a1 n1 c1 x → P) : P :=
  elem_k h hi fun ad cs h1 h2 h3 => by
    obtain ⟨a1, n1, c1, rfl, h4⟩ := h3
    exact k ad a1 n1 c1 h1 h2 h4
end Go.Proofs
end
section
namespace Go.Proofs
open Go.Sy
set_option maxRecDepth 20000
end Go.Proofs
end
section
namespace Go.Proofs
open Go.Sy
set_option maxRecDepth 20000
set_option maxHeartbeats 4000000
theorem RC.drop {α : Type} [Enc α] {H : Hp} {css : List (List Value)} {xs : List α} (h : RC H css xs) (k : Nat) : RC H (css.drop k) (xs.drop k) := by
  have hl : css.length = xs.length := h.1
  refine ⟨by rw [List.length_drop, List.length_drop, hl], fun i cs x h1 h2 => ?_⟩
  rw [List.getElem?_drop] at h1 h2
  exact h.2 _ cs x h1 h2
end Go.Proofs
end
section
namespace Go.Proofs
open Go.Sy
set_option maxRecDepth 20000
set_option maxHeartbeats 4000000
end Go.Proofs
end
section
namespace Go.Proofs
open Go.Sy
set_option maxRecDepth 20000
set_option maxHeartbeats 4000000
theorem edge_k {P : Prop} {H : Hp} {a : Option Addr} {n c : Nat} {xs : List Edg} (h : RL H a n c xs) {i : Nat} {x : Edg} (hi : xs[i]? = some x) (k : ∀ ad, a = some ad → ElemH H ad (i : Int) 2 [.int .i64 x.1, .int .i64 x.2] → P) : P :=
  elem_k h hi fun ad cs h1 h2 h3 => by
    obtain ⟨rfl, _⟩ := edge_open h3
    exact k ad h1 h2
theorem of_row_k {α : Type} [Enc α] {P : Prop} {H : Hp} {v : Value} {css : List (List Value)} {xs : List α} (h : RowAt H v (Enc.sz α) css) (hc : RC H css xs) (k : ∀ a n c, v = .slice a n c → RL H a n c xs → P) : P := by
  obtain ⟨a, n, c, e, hr⟩ := RL.of_row h hc
  exact k a n c e hr
end Go.Proofs
end
section
namespace Go.Proofs
open Go.Sy
set_option maxRecDepth 20000
set_option maxHeartbeats 4000000
end Go.Proofs
end
section
namespace Go.Proofs
open Go.Sy
set_option maxRecDepth 20000
def numOf (w : Nat) : Nm := (kNum w).getD (0, 0)
def wordN (a : Nm) : Nat := (wrp a.1 % 65536).toNat + 65536 * (wrp a.2 % 65536).toNat
def kOf (a : Nm) : Nat := 2 + 4 * wordN a
def kIs (w : Nat) : Bool := (kNum w).isSome || decide (w = 0) || decide (w = 1)
def kNorm (w : Nat) : Nat := if kIs w then w else 1
def kJoin (a b : Nat) : Nat := if kNorm a = kNorm b ∨ kNorm b = 0 then kNorm a else if kNorm a = 0 then kNorm b else 1
def kOp (op : Int) (a b : Nat) : Nat :=
  if op = 0 ∨ op = 4 then (if kNorm a = 0 then 0 else if kNorm a = 1 then 1 else kOf (nOp op (numOf a) (numOf b)))
  else if kNorm a = 0 ∨ kNorm b = 0 then 0 else if kNorm a = 1 ∨ kNorm b = 1 then 1 else if opIs op then kOf (nOp op (numOf a) (numOf b)) else 1
theorem wordN_lt (a : Nm) : wordN a < 4294967296 := by unfold wordN; omega
theorem kOf_lt (a : Nm) : kOf a < 17179869184 := by have := wordN_lt a; unfold kOf; omega
theorem kNum_of (a : Nm) : kNum (kOf a) = some (wrp a.1, wrp a.2) := by
  have h := wordN_lt a
  unfold kNum kOf
  rw [if_pos (by omega)]
  have e : (2 + 4 * wordN a) / 4 = wordN a := by omega
  rw [e]
  have h1 := wrp_le a.1
  have h2 := wrp_le a.2
  have e1 : ((wordN a % 65536 : Nat) : Int) = wrp a.1 % 65536 := by unfold wordN; omega
  have e2 : ((wordN a / 65536 : Nat) : Int) = wrp a.2 % 65536 := by unfold wordN; omega
  rw [e1, e2]
  have e3 : ∀ n : Int, -32768 ≤ n ∧ n ≤ 32767 → wrp (n % 65536) = n := fun n hn => by unfold wrp; omega
  rw [e3 _ h1, e3 _ h2]
theorem kIs_of (a : Nm) : kIs (kOf a) = true := by rw [kIs, kNum_of]; rfl
theorem kIs_norm (w : Nat) : kIs (kNorm w) = true := by
  unfold kNorm
  split
  · rename_i h; exact h
  · rfl
theorem kNorm_le {w : Nat} (h : w < 18446744073709551616) : kNorm w < 18446744073709551616 := by unfold kNorm; split <;> omega
theorem kIs_join (a b : Nat) : kIs (kJoin a b) = true := by
  unfold kJoin
  split
  · exact kIs_norm a
  · split
    · exact kIs_norm b
    · rfl
theorem kJoin_lt {a b : Nat} (ha : a < 18446744073709551616) (hb : b < 18446744073709551616) : kJoin a b < 18446744073709551616 := by
  have h1 := kNorm_le ha
  have h2 := kNorm_le hb
  unfold kJoin
  split
  · exact h1
  · split
    · exact h2
    · omega
theorem kIs_op (op : Int) (a b : Nat) : kIs (kOp op a b) = true := by
  unfold kOp
  repeat' split
  all_goals first | exact kIs_of _ | rfl
theorem kOp_lt (op : Int) (a b : Nat) : kOp op a b < 18446744073709551616 := by
  unfold kOp
  repeat' split
  all_goals first | (have := kOf_lt (nOp op (numOf a) (numOf b)); omega) | omega
theorem or_add (k : Nat) {a b : Nat} (h : a < 2 ^ k) : a ||| b * 2 ^ k = a + b * 2 ^ k := by
  rw [Nat.or_comm, Nat.mul_comm b, ← Nat.two_pow_add_eq_or_of_lt h, Nat.add_comm]
theorem bits_or {x y z : Int} {a b : Nat} (hx : x = a) (hy : y = b) (ha : a < 18446744073709551616) (hb : b < 18446744073709551616) (hz : a ||| b = z.toNat) (hz0 : 0 ≤ z) (hz1 : z < 18446744073709551616) :
    IntKind.u64.wrap ((BitVec.ofInt IntKind.u64.bits x ||| BitVec.ofInt IntKind.u64.bits y).toNat : Int) = z := by
  subst hx hy
  show IntKind.u64.wrap ((BitVec.ofInt 64 (a : Int) ||| BitVec.ofInt 64 (b : Int)).toNat : Int) = _
  rw [BitVec.toNat_or, BitVec.ofInt_natCast, BitVec.ofInt_natCast, BitVec.toNat_ofNat, BitVec.toNat_ofNat, Nat.mod_eq_of_lt (by simpa using ha), Nat.mod_eq_of_lt (by simpa using hb), hz, IntKind.wrap_u64]
  omega
end Go.Proofs
end
section
namespace Go.Proofs
open Go.Sy
set_option maxRecDepth 20000
set_option maxHeartbeats 4000000
abbrev nmV (a : Nm) : Value := .agg #[.int .i64 a.1, .int .i64 a.2]
theorem kint {K : Value → Hp → Prop} {H : Hp} {k : IntKind} {x y : Int} (h : K (.int k x) H) (e : x = y) : K (.int k y) H := e ▸ h
theorem gword_spec {a : Nm} {H : Hp} {K : Value → Hp → Prop} (hK : K (.int .u64 (wordN a : Nat)) H) : Does Tryz.prog 284 [nmV a] H K := by
  refine spec_of cxw_ok cx_mix rfl Tryz.func284 Tryz.call284 Tryz.ntmps284 Tryz.results284 rfl rfl ?_
  refine ⟨some ([], [0, 1, 5, 6, 2, 3, 4, 7, 8, 9, 10, 11, 12]), by kernel_rfl, ?_⟩
  refine gwrap_spec ?_
  refine gwrap_spec ?_
  refine ⟨by decide, ?_⟩
  have h1 := wrp_le a.1
  have h2 := wrp_le a.2
  refine kint hK ((bits_or (a := (wrp a.1 % 65536).toNat) (b := (wrp a.2 % 65536).toNat * 2 ^ 16) ?_ ?_ (by omega) (by omega) ?_ (by omega) (by have := wordN_lt a; omega)).symm)
  · show IntKind.u64.wrap (IntKind.u16.wrap (wrp a.1)) = _
    rw [IntKind.wrap_u64, IntKind.wrap_u16]; omega
  · show IntKind.u64.wrap (IntKind.u64.wrap (IntKind.u16.wrap (wrp a.2)) * 65536) = _
    rw [IntKind.wrap_u64, IntKind.wrap_u64, IntKind.wrap_u16]; omega
  · rw [or_add 16 (by omega), wordN]; omega
theorem kof_spec {a : Nm} {H : Hp} {K : Value → Hp → Prop} (hK : K (.int .u64 (kOf a : Nat)) H) : Does Tryz.prog 263 [nmV a] H K := by
  refine spec_of cx_ok cx_mix rfl Tryz.func263 Tryz.call263 Tryz.ntmps263 Tryz.results263 rfl rfl ?_
  refine gword_spec ?_
  have h := wordN_lt a
  refine ⟨by decide, ?_⟩
  refine ⟨⟨?_, ?_⟩, ?_⟩
  · show (0 : Int) ≤ (wordN a : Int) * 4; omega
  · show (wordN a : Int) * 4 ≤ 18446744073709551615; omega
  refine kint hK ((bits_or (a := 2) (b := wordN a * 2 ^ 2) rfl (by show (wordN a : Int) * 4 = _; omega) (by omega) (by omega) ?_ (by omega) (by have := kOf_lt a; omega)).symm)
  rw [or_add 2 (by omega), kOf]; omega
end Go.Proofs
end
section
namespace Go.Proofs
open Go.Sy
set_option maxRecDepth 20000
set_option maxHeartbeats 4000000
theorem kis_spec {w : Nat} (hw : w < 18446744073709551616) {H : Hp} {K : Value → Hp → Prop} (hK : K (.bool (kIs w)) H) : Does Tryz.prog 253 [.int .u64 w] H K := by
  refine spec_of cx_ok cx_mix rfl Tryz.func253 Tryz.call253 Tryz.ntmps253 Tryz.results253 rfl rfl ?_
  refine knum_spec hw ?_
  refine ⟨fun h1 => ?_, fun h1 => ?_⟩
  · refine ⟨fun h2 => ?_, fun h2 => ?_⟩
    · have h2 : ¬ (w : Int) = 0 := df h2
      refine kbool hK ?_
      rw [kIs, h1, decide_eq_false (show ¬ w = 0 by omega)]
      simp only [Bool.false_or]
      rw [decide_eq_decide]; omega
    · have h2 : (w : Int) = 0 := dt h2
      refine kbool hK ?_
      rw [kIs, decide_eq_true (show w = 0 by omega)]; simp
  · refine kbool hK ?_
    rw [kIs, h1]; rfl
theorem knorm_spec {w : Nat} (hw : w < 18446744073709551616) {H : Hp} {K : Value → Hp → Prop} (hK : K (.int .u64 (kNorm w : Nat)) H) : Does Tryz.prog 299 [.int .u64 w] H K := by
  refine spec_of cx_ok cx_mix rfl Tryz.func299 Tryz.call299 Tryz.ntmps299 Tryz.results299 rfl rfl ?_
  refine kis_spec hw ?_
  refine ⟨fun h => ?_, fun h => ?_⟩
  · refine kint hK ?_
    rw [kNorm, if_neg (by simpa using h)]; rfl
  · refine kint hK ?_
    rw [kNorm, if_pos (by simpa using h)]
theorem kjoin_spec {a b : Nat} (ha : a < 18446744073709551616) (hb : b < 18446744073709551616) {H : Hp} {K : Value → Hp → Prop} (hK : K (.int .u64 (kJoin a b : Nat)) H) : Does Tryz.prog 277 [.int .u64 a, .int .u64 b] H K := by
  refine spec_of cx_ok cx_mix rfl Tryz.func277 Tryz.call277 Tryz.ntmps277 Tryz.results277 rfl rfl ?_
  refine knorm_spec ha ?_
  refine knorm_spec hb ?_
  refine ⟨fun h1 => ?_, fun h1 => ?_⟩
  · have h1 : ¬ kNorm a = kNorm b := by have := df h1; omega
    refine ⟨fun h2 => ?_, fun h2 => ?_⟩
    · have h2 : kNorm b = 0 := by have := dt h2; omega
      exact kint hK (by rw [kJoin, if_pos (.inr h2)])
    · have h2 : ¬ kNorm b = 0 := by have := df h2; omega
      refine ⟨fun h3 => ?_, fun h3 => ?_⟩
      · have h3 : kNorm a = 0 := by have := dt h3; omega
        exact kint hK (by rw [kJoin, if_neg (by omega), if_pos h3])
      · have h3 : ¬ kNorm a = 0 := by have := df h3; omega
        exact kint hK (by rw [kJoin, if_neg (by omega), if_neg h3]; rfl)
  · have h1 : kNorm a = kNorm b := by have := dt h1; omega
    exact kint hK (by rw [kJoin, if_pos (.inl h1)])
def kLeast : List Nat → Nat → Nat
  | [], o => o
  | w :: r, o => if kNorm w = 0 then 0 else if kNorm w = 1 then kLeast r 1 else kLeast r o
theorem word_k {P : Prop} {H : Hp} {a : Option Addr} {n c : Nat} {xs : List UInt64} (h : RL H a n c xs) {i : Nat} {x : UInt64} (hi : xs[i]? = some x) (k : ∀ ad, a = some ad → ElemH H ad (i : Int) 1 [.int .u64 (x.toNat : Nat)] → x.toNat < 18446744073709551616 → P) : P :=
  elem_k h hi fun ad cs h1 h2 h3 => by
    have e : cs = [.int .u64 (x.toNat : Nat)] := h3
    subst e
    exact k ad h1 h2 x.toNat_lt
theorem least_spec {l : List UInt64} {a : Option Addr} {n c : Nat} {H : Hp} {K : Value → Hp → Prop} (ha : RL H a n c l) (hK : K (.int .u64 (kLeast (l.map UInt64.toNat) 2 : Nat)) H) : Does Tryz.prog 285 [.slice a n c] H K := by
  have hn := ha.n_eq
  have hmx := ha.le
  refine spec_of cx_ok cx_mix rfl Tryz.func285 Tryz.call285 Tryz.ntmps285 Tryz.results285 rfl rfl ?_
  refine .inl ⟨1, ?_⟩
  refine ⟨Nat × Nat, fun z => ⟨[(3, .v (.int .u64 z.2)), (6, .v (.slice a n c)), (7, .v (.int .i64 n)), (8, .v (.int .i64 z.1))], [], 0⟩,
    fun z H' => H' = H ∧ z.1 ≤ l.length ∧ kLeast (l.map UInt64.toNat) 2 = kLeast ((l.drop z.1).map UInt64.toNat) z.2, fun z => l.length - z.1, ⟨(0, 2), [], ?_, rfl, Nat.zero_le _, rfl⟩, ?_⟩
  · (repeat' (first|exact trivial|refine ⟨?_,?_⟩|exact rfl|assumption))
  rintro ⟨i, o⟩ H1 _ ⟨rfl, hi, hx⟩
  dsimp only at hi hx
  refine ⟨fun h => ?_, fun h => ?_⟩
  · have hlt : i < l.length := by have := dt h; dsimp only at this; omega
    refine name_k l[i] fun w hwe => ?_
    have hww : l[i]? = some w := by rw [hwe]; exact List.getElem?_eq_getElem hlt
    have hst : kLeast ((l.drop i).map UInt64.toNat) o = if kNorm w.toNat = 0 then 0 else if kNorm w.toNat = 1 then kLeast ((l.drop (i + 1)).map UInt64.toNat) 1 else kLeast ((l.drop (i + 1)).map UInt64.toNat) o := by
      rw [List.drop_eq_getElem_cons hlt, List.map_cons, kLeast, hwe]
    rw [hst] at hx
    refine word_k ha hww fun ad q1 hh hw => ?_
    refine ⟨ad, ⟨by dsimp only; omega, by dsimp only; omega, q1⟩, ?_⟩
    refine ⟨_, hh, ?_⟩
    refine knorm_spec hw ?_
    refine ⟨fun h => ?_, fun h => ?_⟩
    · have h0 : kNorm w.toNat = 0 := by have := dt h; omega
      exact kint hK (by rw [hx, if_pos h0]; rfl)
    · have h0 : ¬ kNorm w.toNat = 0 := by have := df h; omega
      rw [if_neg h0] at hx
      refine ⟨fun h => ?_, fun h => ?_⟩
      · have h1 : kNorm w.toNat = 1 := by have := dt h; omega
        rw [if_pos h1] at hx
        refine ⟨⟨by dsimp only; omega, by dsimp only; omega⟩, (i + 1, 1), [], ?_, ⟨rfl, hlt, hx⟩, by dsimp only; omega⟩
        (repeat' (first|exact trivial|refine ⟨?_,?_⟩|exact rfl|assumption))
      · have h1 : ¬ kNorm w.toNat = 1 := by have := df h; omega
        rw [if_neg h1] at hx
        refine ⟨⟨by dsimp only; omega, by dsimp only; omega⟩, (i + 1, o), [], ?_, ⟨rfl, hlt, hx⟩, by dsimp only; omega⟩
        (repeat' (first|exact trivial|refine ⟨?_,?_⟩|exact rfl|assumption))
  · have hil : i = l.length := by have := df h; dsimp only at this; omega
    rw [hil, List.drop_length] at hx
    exact kint hK (by rw [hx]; rfl)
theorem kLeast_one {a : Nat} : kLeast [a] 2 = if kNorm a = 0 then 0 else if kNorm a = 1 then 1 else 2 := rfl
theorem kLeast_two {a b : Nat} : kLeast [a, b] 2 = if kNorm a = 0 ∨ kNorm b = 0 then 0 else if kNorm a = 1 ∨ kNorm b = 1 then 1 else 2 := by
  simp only [kLeast]
  split
  · rw [if_pos (by omega)]
  · split
    · split
      · rw [if_pos (by omega)]
      · split
        · rw [if_neg (by omega), if_pos (by omega)]
        · rw [if_neg (by omega), if_pos (by omega)]
    · split
      · rw [if_pos (by omega)]
      · split
        · rw [if_neg (by omega), if_pos (by omega)]
        · rw [if_neg (by omega), if_neg (by omega)]
theorem u64_of {w : Nat} (h : w < 18446744073709551616) : (UInt64.ofNat w).toNat = w := UInt64.toNat_ofNat_of_lt' (by show w < 2 ^ 64; omega)
theorem rc_w {H : Hp} {l : List UInt64} : RC (α := UInt64) H (l.map fun w => [Value.int .u64 (w.toNat : Nat)]) l := by
  refine ⟨by simp, fun i cs x h1 h2 => ?_⟩
  rw [List.getElem?_map, h2] at h1
  cases h1
  exact rfl
theorem one_num {x : Nat} (h : (if x = 0 then 0 else if x = 1 then 1 else 2) = 2) : x ≠ 0 ∧ x ≠ 1 := by
  split at h
  · cases h
  · split at h
    · cases h
    · exact ⟨by assumption, by assumption⟩
theorem two_num {x y : Nat} (h : (if x = 0 ∨ y = 0 then 0 else if x = 1 ∨ y = 1 then 1 else 2) = 2) : ¬ (x = 0 ∨ y = 0) ∧ ¬ (x = 1 ∨ y = 1) := by
  split at h
  · cases h
  · split at h
    · cases h
    · exact ⟨by assumption, by assumption⟩
theorem one_res {x z : Nat} (h : (if x = 0 then 0 else if x = 1 then 1 else 2) ≠ 2) : ((if x = 0 then 0 else if x = 1 then 1 else z : Nat) : Int) = ((if x = 0 then 0 else if x = 1 then 1 else 2 : Nat) : Int) := by
  split
  · rfl
  · split
    · rfl
    · rename_i h1 h2; rw [if_neg h1, if_neg h2] at h; exact absurd rfl h
theorem two_res {x y z : Nat} (h : (if x = 0 ∨ y = 0 then 0 else if x = 1 ∨ y = 1 then 1 else 2) ≠ 2) : ((if x = 0 ∨ y = 0 then 0 else if x = 1 ∨ y = 1 then 1 else z : Nat) : Int) = ((if x = 0 ∨ y = 0 then 0 else if x = 1 ∨ y = 1 then 1 else 2 : Nat) : Int) := by
  split
  · rfl
  · split
    · rfl
    · rename_i h1 h2; rw [if_neg h1, if_neg h2] at h; exact absurd rfl h
theorem kOp_one {op : Int} {a b : Nat} (hop : op = 0 ∨ op = 4) (h : kNorm a ≠ 0 ∧ kNorm a ≠ 1) : kOp op a b = kOf (nOp op (numOf a) (numOf b)) := by rw [kOp, if_pos hop, if_neg h.1, if_neg h.2]
theorem kOp_two {op : Int} {a b : Nat} (hop : ¬ (op = 0 ∨ op = 4)) (h : ¬ (kNorm a = 0 ∨ kNorm b = 0) ∧ ¬ (kNorm a = 1 ∨ kNorm b = 1)) (ho : opIs op = true) : kOp op a b = kOf (nOp op (numOf a) (numOf b)) := by rw [kOp, if_neg hop, if_neg h.1, if_neg h.2, if_pos ho]
theorem kop_spec {op : Int} {a b : Nat} (ha : a < 18446744073709551616) (hb : b < 18446744073709551616) {H : Hp} {K : Value → Hp → Prop} (hK : K (.int .u64 (kOp op a b : Nat)) H) : Does Tryz.prog 264 [.int .i64 op, .int .u64 a, .int .u64 b] H K := by
  refine spec_of cx_ok cx_mix rfl Tryz.func264 Tryz.call264 Tryz.ntmps264 Tryz.results264 rfl rfl ?_
  intro v H1 hle1 hv
  have e1 : RowAt H1 v 1 ([UInt64.ofNat a, UInt64.ofNat b].map fun w => [Value.int .u64 (w.toNat : Nat)]) := by
    simp only [List.map_cons, List.map_nil, u64_of ha, u64_of hb]; exact hv
  obtain ⟨ra, rn, rc, rfl, hr⟩ := RL.of_row (α := UInt64) e1 rc_w
  refine least_spec hr ?_
  have hl2 : kLeast ([UInt64.ofNat a, UInt64.ofNat b].map UInt64.toNat) 2 = if kNorm a = 0 ∨ kNorm b = 0 then 0 else if kNorm a = 1 ∨ kNorm b = 1 then 1 else 2 := by
    simp only [List.map_cons, List.map_nil, u64_of ha, u64_of hb]; exact kLeast_two
  rw [hl2]
  refine ⟨fun h => ?_, fun h => ?_⟩
  · have h0 : ¬ op = 0 := df h
    refine ⟨fun h => ?_, fun h => ?_⟩
    · have hop : op = 0 ∨ op = 4 := .inr (dt h)
      intro v H2 hle2 hv
      have e1 : RowAt H2 v 1 ([UInt64.ofNat a].map fun w => [Value.int .u64 (w.toNat : Nat)]) := by
        simp only [List.map_cons, List.map_nil, u64_of ha]; exact hv
      obtain ⟨ra, rn, rc, rfl, hr⟩ := RL.of_row (α := UInt64) e1 rc_w
      refine least_spec hr ?_
      have hl1 : kLeast ([UInt64.ofNat a].map UInt64.toNat) 2 = if kNorm a = 0 then 0 else if kNorm a = 1 then 1 else 2 := by
        simp only [List.map_cons, List.map_nil, u64_of ha]; exact kLeast_one
      rw [hl1]
      refine ⟨fun h => ?_, fun h => ?_⟩
      · have hv := nt h
        exact kint hK (by rw [kOp, if_pos hop]; exact one_res (fun e => hv (by rw [e]; rfl)))
      · have hv := nf h
        have hv2 := one_num (Int.ofNat_inj.1 hv)
        refine knum_spec ha ?_
        refine knum_spec hb ?_
        refine gop_spec ?_
        refine ⟨fun h => ?_, fun h => ?_⟩
        · have ho : opIs op = false := by
            have := nt h
            cases hq : opIs op with
            | false => rfl
            | true => rw [hq] at this; exact absurd rfl this
          exact (absurd ho (by rw [opIs, decide_eq_true (by omega)]; decide))
        · have ho : opIs op = true := by
            have := nf h
            cases hq : opIs op with
            | false => rw [hq] at this; cases this
            | true => rfl
          refine kof_spec ?_
          exact kint hK (by rw [kOp_one hop hv2]; rfl)
    · have hop : ¬ (op = 0 ∨ op = 4) := by have := df h; omega
      refine ⟨fun h => ?_, fun h => ?_⟩
      · have hv := nt h
        exact kint hK (by rw [kOp, if_neg hop]; exact two_res (fun e => hv (by rw [e]; rfl)))
      · have hv := nf h
        have hv2 := two_num (Int.ofNat_inj.1 hv)
        refine knum_spec ha ?_
        refine knum_spec hb ?_
        refine gop_spec ?_
        refine ⟨fun h => ?_, fun h => ?_⟩
        · have ho : opIs op = false := by
            have := nt h
            cases hq : opIs op with
            | false => rfl
            | true => rw [hq] at this; exact absurd rfl this
          exact (kint hK (by rw [kOp, if_neg hop, if_neg (by omega), if_neg (by omega), if_neg (by rw [ho]; decide)]; rfl))
        · have ho : opIs op = true := by
            have := nf h
            cases hq : opIs op with
            | false => rw [hq] at this; cases this
            | true => rfl
          refine kof_spec ?_
          exact kint hK (by rw [kOp_two hop hv2 ho]; rfl)
  · have hop : op = 0 ∨ op = 4 := .inl (dt h)
    intro v H2 hle2 hv
    have e1 : RowAt H2 v 1 ([UInt64.ofNat a].map fun w => [Value.int .u64 (w.toNat : Nat)]) := by
      simp only [List.map_cons, List.map_nil, u64_of ha]; exact hv
    obtain ⟨ra, rn, rc, rfl, hr⟩ := RL.of_row (α := UInt64) e1 rc_w
    refine least_spec hr ?_
    have hl1 : kLeast ([UInt64.ofNat a].map UInt64.toNat) 2 = if kNorm a = 0 then 0 else if kNorm a = 1 then 1 else 2 := by
      simp only [List.map_cons, List.map_nil, u64_of ha]; exact kLeast_one
    rw [hl1]
    refine ⟨fun h => ?_, fun h => ?_⟩
    · have hv := nt h
      exact kint hK (by rw [kOp, if_pos hop]; exact one_res (fun e => hv (by rw [e]; rfl)))
    · have hv := nf h
      have hv2 := one_num (Int.ofNat_inj.1 hv)
      refine knum_spec ha ?_
      refine knum_spec hb ?_
      refine gop_spec ?_
      refine ⟨fun h => ?_, fun h => ?_⟩
      · have ho : opIs op = false := by
          have := nt h
          cases hq : opIs op with
          | false => rfl
          | true => rw [hq] at this; exact absurd rfl this
        exact (absurd ho (by rw [opIs, decide_eq_true (by omega)]; decide))
      · have ho : opIs op = true := by
          have := nf h
          cases hq : opIs op with
          | false => rw [hq] at this; cases this
          | true => rfl
        refine kof_spec ?_
        exact kint hK (by rw [kOp_one hop hv2]; rfl)
end Go.Proofs
end
section
namespace Go.Proofs
open Go.Sy
set_option maxRecDepth 20000
set_option maxHeartbeats 4000000
abbrev Wd := List UInt64
def okW (n : Nat) (l : Wd) : Prop := l.length = n ∧ ∀ w ∈ l, kIs w.toNat = true
def uJoin (a b : UInt64) : UInt64 := UInt64.ofNat (kJoin a.toNat b.toNat)
theorem uJoin_nat (a b : UInt64) : (uJoin a b).toNat = kJoin a.toNat b.toNat := u64_of (kJoin_lt a.toNat_lt b.toNat_lt)
def vJoin (a b : Wd) : Wd := List.zipWith uJoin a b
def vBot (n : Nat) : Wd := List.replicate n 0
theorem vBot_ok (n : Nat) : okW n (vBot n) := ⟨List.length_replicate, fun w hw => by rw [(List.mem_replicate.1 hw).2]; rfl⟩
theorem vJoin_ok {n : Nat} {a b : Wd} (ha : okW n a) (hb : okW n b) : okW n (vJoin a b) := by
  refine ⟨by rw [vJoin, List.length_zipWith, ha.1, hb.1, Nat.min_self], fun w hw => ?_⟩
  obtain ⟨i, hi⟩ := List.getElem?_of_mem hw
  rw [vJoin, List.getElem?_zipWith] at hi
  cases h1 : a[i]? with
  | none => rw [h1] at hi; cases hi
  | some x => cases h2 : b[i]? with
    | none => rw [h1, h2] at hi; cases hi
    | some y =>
      rw [h1, h2] at hi
      simp only [Option.some.injEq] at hi
      rw [← hi, uJoin_nat]
      exact kIs_join _ _
theorem latis_spec {n : Nat} (hn : n ≤ 1024) {H : Hp} {K : Value → Hp → Prop} (hK : K (.bool true) H) : Does Tryz.prog 209 [.int .i64 3, .int .i64 (n : Nat)] H K := by
  refine spec_of cx_ok cx_mix rfl Tryz.func209 Tryz.call209 Tryz.ntmps209 Tryz.results209 rfl rfl ?_
  refine ⟨fun _ => ?_, (fun h => absurd (dt h) (by decide))⟩
  refine ⟨fun _ => ?_, (fun h => absurd (dt h) (by decide))⟩
  refine ⟨fun _ => ?_, (fun h => absurd rfl (df h))⟩
  refine ⟨fun _ => ?_, (fun h => absurd (by omega) (df h))⟩
  exact kbool hK (by rw [decide_eq_true (by omega)])
theorem latwords_spec {n : Nat} (hn : n ≤ 1024) {H : Hp} {K : Value → Hp → Prop} (hK : K (.int .i64 (n : Nat)) H) : Does Tryz.prog 214 [.int .i64 3, .int .i64 (n : Nat)] H K := by
  refine spec_of cx_ok cx_mix rfl Tryz.func214 Tryz.call214 Tryz.ntmps214 Tryz.results214 rfl rfl ?_
  refine latis_spec hn ?_
  refine ⟨(fun h => by cases h), fun _ => ?_⟩
  refine ⟨(fun h => absurd (dt h) (by decide)), fun _ => ?_⟩
  refine ⟨(fun h => absurd (dt h) (by decide)), fun _ => ?_⟩
  exact hK
theorem latbot_spec {n : Nat} (hn : n ≤ 1024) {H : Hp} {K : Value → Hp → Prop} (hK : ∀ a n1 c H', Le H H' → RL H' a n1 c (vBot n) → K (.slice a n1 c) H') : Does Tryz.prog 169 [.int .i64 3, .int .i64 (n : Nat)] H K := by
  refine spec_of cx_ok cx_mix rfl Tryz.func169 Tryz.call169 Tryz.ntmps169 Tryz.results169 rfl rfl ?_
  refine ⟨(fun h => absurd (dt h) (by decide)), fun _ => ?_⟩
  refine latwords_spec hn ?_
  refine ⟨⟨rfl, by omega, by show (n : Int) * 8 ≤ _; omega, by omega⟩, ?_⟩
  intro v H1 hle1 hv
  have e : RowAt H1 v 1 ((vBot n).map fun w => [Value.int .u64 (w.toNat : Nat)]) := by
    rw [vBot, List.map_replicate]; exact hv
  obtain ⟨a, n1, c, rfl, hr⟩ := RL.of_row (α := UInt64) e rc_w
  exact hK _ _ _ _ hle1.le hr
theorem latheight_spec {n : Nat} (hn : n ≤ 1024) {H : Hp} {K : Value → Hp → Prop} (hK : K (.int .i64 (2 * n : Nat)) H) : Does Tryz.prog 167 [.int .i64 3, .int .i64 (n : Nat)] H K := by
  refine spec_of cx_ok cx_mix rfl Tryz.func167 Tryz.call167 Tryz.ntmps167 Tryz.results167 rfl rfl ?_
  refine latis_spec hn ?_
  refine ⟨(fun h => by cases h), fun _ => ?_⟩
  refine ⟨fun _ => ?_, (fun h => absurd rfl (df h))⟩
  refine ⟨⟨by omega, by omega⟩, ?_⟩
  exact kint hK (by omega)
theorem notis_spec {w : Nat} (hw : w < 18446744073709551616) (h : kIs w = true) {H : Hp} {K : Value → Hp → Prop} (hK : K (.bool false) H) : Does Tryz.prog 252 [.int .u64 w] H K := by
  refine spec_of cx_ok cx_mix rfl Tryz.func252 Tryz.call252 Tryz.ntmps252 Tryz.results252 rfl rfl ?_
  refine kis_spec hw ?_
  exact kbool hK (by rw [h]; rfl)
theorem latword_spec {a b : Nat} (ha : a < 18446744073709551616) (hb : b < 18446744073709551616) {H : Hp} {K : Value → Hp → Prop} (hK : K (.int .u64 (kJoin a b : Nat)) H) : Does Tryz.prog 249 [.int .i64 3, .int .u64 a, .int .u64 b] H K := by
  refine spec_of cx_ok cx_mix rfl Tryz.func249 Tryz.call249 Tryz.ntmps249 Tryz.results249 rfl rfl ?_
  refine ⟨(fun h => absurd (dt h) (by decide)), fun _ => ?_⟩
  refine ⟨(fun h => absurd (dt h) (by decide)), fun _ => ?_⟩
  refine ⟨fun _ => ?_, (fun h => absurd rfl (df h))⟩
  exact kjoin_spec ha hb hK
theorem indexU_spec {l : Wd} (hl : ∀ w ∈ l, kIs w.toNat = true) {a : Option Addr} {n c : Nat} {H : Hp} {K : SV → St → Hp → Prop} (ha : RL H a n c l) (hK : K (.v (.int .i64 (-1))) ⟨[], [], 0⟩ H) : DoesG Tryz.prog 279 [.v (.slice a n c), .fn 252 []] [] 0 H K := by
  have hn1 := ha.n_eq
  have hmx := ha.le
  refine spec_ofG cx_ok cx_mix Tryz.func279 Tryz.call279 Tryz.ntmps279 Tryz.results279 rfl rfl ?_
  refine ⟨Nat, fun j => ⟨[(0, .v (.slice a n c)), (1, .fn 252 []), (7, .v (.int .i64 n)), (8, .v (.int .i64 j))], [], 0⟩,
    fun j H' => H' = H ∧ j ≤ l.length, fun j => l.length - j, ⟨0, [], ?_, rfl, by omega⟩, ?_⟩
  · (repeat' (first|exact trivial|refine ⟨?_,?_⟩|exact rfl|assumption))
  rintro j H1 _ ⟨rfl, hi⟩
  refine ⟨fun h => ?_, fun h => ?_⟩
  · have hlt : j < l.length := by have := dt h; omega
    refine word_k ha (List.getElem?_eq_getElem hlt) fun ad q1 hh hr => ?_
    refine ⟨ad, ⟨by omega, by omega, q1⟩, ?_⟩
    refine ⟨_, hh, ?_⟩
    refine notis_spec hr (hl _ (List.getElem_mem hlt)) ?_
    refine ⟨(fun h => by cases h), fun _ => ?_⟩
    refine ⟨⟨by omega, by omega⟩, j + 1, [], ?_, ⟨rfl, by omega⟩, by dsimp only; omega⟩
    (repeat' (first|exact trivial|refine ⟨?_,?_⟩|exact rfl|assumption))
  · exact ⟨.v (.int .i64 (-1)), [], 0, [], by (repeat' (first|exact trivial|refine ⟨?_,?_⟩|exact rfl|assumption)), hK⟩
theorem contU_spec {l : Wd} (hl : ∀ w ∈ l, kIs w.toNat = true) {a : Option Addr} {n c : Nat} {H : Hp} {K : SV → St → Hp → Prop} (ha : RL H a n c l) (hK : K (.v (.bool false)) ⟨[], [], 0⟩ H) : DoesG Tryz.prog 251 [.v (.slice a n c), .fn 252 []] [] 0 H K := by
  refine spec_ofG cx_ok cx_mix Tryz.func251 Tryz.call251 Tryz.ntmps251 Tryz.results251 rfl rfl ?_
  refine ⟨[], rfl, indexU_spec hl ha ?_⟩
  exact ⟨.v (.bool false), [], 0, [], by (repeat' (first|exact trivial|refine ⟨?_,?_⟩|exact rfl|assumption)), hK⟩
theorem latIs_spec {w : Nat} (hw : w ≤ 1024) {l : Wd} (hl : okW w l) {a : Option Addr} {n c : Nat} {H : Hp} {K : Value → Hp → Prop} (ha : RL H a n c l) (hK : K (.bool true) H) : Does Tryz.prog 210 [.int .i64 3, .int .i64 (w : Nat), .slice a n c] H K := by
  have hn1 := ha.n_eq
  have hl1 := hl.1
  refine spec_of cx_ok cx_mix rfl Tryz.func210 Tryz.call210 Tryz.ntmps210 Tryz.results210 rfl rfl ?_
  refine latis_spec hw ?_
  refine ⟨fun _ => ?_, (fun h => by cases h)⟩
  refine latwords_spec hw ?_
  refine ⟨(fun h => absurd (by rw [hn1, hl1]) (nt h)), fun _ => ?_⟩
  refine ⟨(fun h => absurd rfl (nt h)), fun _ => ?_⟩
  refine ⟨[], rfl, contU_spec hl.2 ha ?_⟩
  exact hK
abbrev c2 (w : Nat) : List (Nat × Bx) := [(0, .cells 3 [.v (.int .i64 3)]), (1, .cells 3 [.v (.int .i64 (w : Nat))])]
theorem chk1_spec {w : Nat} (hw : w ≤ 1024) {l : Wd} (hl : okW w l) {a : Option Addr} {n c : Nat} {H : Hp} {K : SV → St → Hp → Prop} (ha : RL H a n c l) (hK : K (.v (.bool false)) ⟨[], c2 w, 2⟩ H) :
    DoesG Tryz.prog 276 [.v (.slice a n c), .ptr 0 0, .ptr 1 0] (c2 w) 2 H K := by
  refine spec_ofG cx_ok cx_mix Tryz.func276 Tryz.call276 Tryz.ntmps276 Tryz.results276 rfl rfl ?_
  refine latIs_spec hw hl ha ?_
  exact ⟨.v (.bool false), c2 w, 2, [(0, 0), (1, 1)], by (repeat' (first|exact trivial|refine ⟨?_,?_⟩|exact rfl|assumption)), hK⟩
theorem indexV_spec {w : Nat} (hw : w ≤ 1024) {l : List Wd} (hl : ∀ x ∈ l, okW w x) {a : Option Addr} {n c : Nat} {H : Hp} {K : SV → St → Hp → Prop} (ha : RL H a n c l) (hK : K (.v (.int .i64 (-1))) ⟨[], c2 w, 2⟩ H) :
    DoesG Tryz.prog 274 [.v (.slice a n c), .fn 276 [.ptr 0 0, .ptr 1 0]] (c2 w) 2 H K := by
  have hn1 := ha.n_eq
  have hmx := ha.le
  refine spec_ofG cx_ok cx_mix Tryz.func274 Tryz.call274 Tryz.ntmps274 Tryz.results274 rfl rfl ?_
  refine ⟨Nat, fun j => ⟨[(0, .v (.slice a n c)), (1, .fn 276 [.ptr 0 0, .ptr 1 0]), (7, .v (.int .i64 n)), (8, .v (.int .i64 j))], c2 w, 2⟩,
    fun j H' => H' = H ∧ j ≤ l.length, fun j => l.length - j, ⟨0, [(0, 0), (1, 1)], ?_, rfl, by omega⟩, ?_⟩
  · (repeat' (first|exact trivial|refine ⟨?_,?_⟩|exact rfl|assumption))
  rintro j H1 _ ⟨rfl, hi⟩
  refine ⟨fun h => ?_, fun h => ?_⟩
  · have hlt : j < l.length := by have := dt h; omega
    refine list_k ha (List.getElem?_eq_getElem hlt) fun ad a5 n5 c5 q1 hh hr => ?_
    refine ⟨ad, ⟨by omega, by omega, q1⟩, ?_⟩
    refine ⟨_, hh, ?_⟩
    refine ⟨[0, 1], rfl, chk1_spec hw (hl _ (List.getElem_mem hlt)) hr ?_⟩
    refine ⟨(fun h => by cases h), fun _ => ?_⟩
    refine ⟨⟨by omega, by omega⟩, j + 1, [(0, 0), (1, 1)], ?_, ⟨rfl, by omega⟩, by dsimp only; omega⟩
    (repeat' (first|exact trivial|refine ⟨?_,?_⟩|exact rfl|assumption))
  · exact ⟨.v (.int .i64 (-1)), c2 w, 2, [(0, 0), (1, 1)], by (repeat' (first|exact trivial|refine ⟨?_,?_⟩|exact rfl|assumption)), hK⟩
theorem contV_spec {w : Nat} (hw : w ≤ 1024) {l : List Wd} (hl : ∀ x ∈ l, okW w x) {a : Option Addr} {n c : Nat} {H : Hp} {K : SV → St → Hp → Prop} (ha : RL H a n c l) (hK : K (.v (.bool false)) ⟨[], c2 w, 2⟩ H) :
    DoesG Tryz.prog 244 [.v (.slice a n c), .fn 276 [.ptr 0 0, .ptr 1 0]] (c2 w) 2 H K := by
  refine spec_ofG cx_ok cx_mix Tryz.func244 Tryz.call244 Tryz.ntmps244 Tryz.results244 rfl rfl ?_
  refine ⟨[0, 1], rfl, indexV_spec hw hl ha ?_⟩
  exact ⟨.v (.bool false), c2 w, 2, [(0, 0), (1, 1)], by (repeat' (first|exact trivial|refine ⟨?_,?_⟩|exact rfl|assumption)), hK⟩
theorem latcheck_spec {w : Nat} (hw : w ≤ 1024) {l : List Wd} (hl : ∀ x ∈ l, okW w x) {a : Option Addr} {n c : Nat} {H : Hp} {K : Value → Hp → Prop} (ha : RL H a n c l) (hK : K (.int .i64 0) H) : Does Tryz.prog 248 [.int .i64 3, .int .i64 (w : Nat), .slice a n c] H K := by
  refine spec_of cx_ok cx_mix rfl Tryz.func248 Tryz.call248 Tryz.ntmps248 Tryz.results248 rfl rfl ?_
  refine latis_spec hw ?_
  refine ⟨(fun h => by cases h), fun _ => ?_⟩
  refine ⟨[0, 1], rfl, contV_spec hw hl ha ?_⟩
  refine ⟨(fun h => by cases h), fun _ => ?_⟩
  exact hK
theorem wRow_snoc {a b : Wd} {i : Nat} {x y : UInt64} (hx : a[i]? = some x) (hy : b[i]? = some y) : ((vJoin a b).take (i + 1)).map (fun w => [Value.int .u64 (w.toNat : Nat)]) = ((vJoin a b).take i).map (fun w => [Value.int .u64 (w.toNat : Nat)]) ++ [[.int .u64 (kJoin x.toNat y.toNat : Nat)]] := by
  have h : (vJoin a b)[i]? = some (uJoin x y) := by rw [vJoin, List.getElem?_zipWith, hx, hy]
  rw [List.take_add_one, h, Option.toList_some, List.map_append]
  simp [uJoin_nat]
theorem latjoin_spec {w : Nat} (hw : w ≤ 1024) {x y : Wd} (hx : okW w x) (hy : okW w y) {a a2 : Option Addr} {n c n2 k2 : Nat} {H : Hp} {K : Value → Hp → Prop} (ha : RL H a n c x) (hb : RL H a2 n2 k2 y) (hK : ∀ a1 n1 c1 H', Le H H' → RL H' a1 n1 c1 (vJoin x y) → K (.tuple #[.slice a1 n1 c1, .int .i64 0]) H') :
    Does Tryz.prog 206 [.int .i64 3, .int .i64 (w : Nat), .slice a n c, .slice a2 n2 k2] H K := by
  have hn1 := ha.n_eq
  have hn2 := hb.n_eq
  have hx1 := hx.1
  have hy1 := hy.1
  refine spec_of cx_ok cx_mix rfl Tryz.func206 Tryz.call206 Tryz.ntmps206 Tryz.results206 rfl rfl ?_
  intro v H1 hle1 hv
  have hrl : RC (α := Wd) H1 [[.slice a n c], [.slice a2 n2 k2]] [x, y] := ((RC.nil (α := Wd)).snoc (show Enc.R (α := Wd) H1 [.slice a n c] x from ⟨a, n, c, rfl, ha.up hle1.le⟩)).snoc (show Enc.R (α := Wd) H1 [.slice a2 n2 k2] y from ⟨a2, n2, k2, rfl, hb.up hle1.le⟩)
  obtain ⟨a3, n3, c3, rfl, hr3⟩ := RL.of_row (α := Wd) hv hrl
  refine latcheck_spec hw (l := [x, y]) (fun z hz => ?_) hr3 ?_
  · simp only [List.mem_cons, List.not_mem_nil, or_false] at hz
    rcases hz with rfl | rfl
    · exact hx
    · exact hy
  refine ⟨(fun h => absurd rfl (nt h)), fun _ => ?_⟩
  have hjl : (vJoin x y).length = w := (vJoin_ok hx hy).1
  refine ⟨Nat, fun i => ⟨[(0, .v (.int .i64 3)), (2, .v (.slice a n c)), (3, .v (.slice a2 n2 k2)), (11, .own 0), (22, .v (.slice a n c)), (23, .v (.int .i64 n)), (24, .v (.int .i64 i))], [(0, .row 168 1 (((vJoin x y).take i).map fun w => [.int .u64 (w.toNat : Nat)]))], 1⟩,
    fun i H' => H' = H ∧ i ≤ x.length, fun i => x.length - i, ⟨0, [], ?_, rfl, Nat.zero_le _⟩, ?_⟩
  · (repeat' (first|exact trivial|refine ⟨?_,?_⟩|exact rfl|assumption))
  rintro i H2 _ ⟨rfl, hi⟩
  have hrl2 : (((vJoin x y).take i).map fun w => [Value.int .u64 (w.toNat : Nat)]).length = i := by rw [List.length_map, List.length_take]; omega
  refine ⟨fun h => ?_, fun h => ?_⟩
  · have hlt : i < x.length := by have := dt h; omega
    have hlt2 : i < y.length := by omega
    refine word_k ha (List.getElem?_eq_getElem hlt) fun ad q1 hh hr => ?_
    refine word_k hb (List.getElem?_eq_getElem hlt2) fun ad2 q2 hh2 hr2 => ?_
    have hsn := wRow_snoc (List.getElem?_eq_getElem hlt) (List.getElem?_eq_getElem hlt2)
    refine ⟨some ([0, 1], [0, 1, 2, 3, 4, 5, 6, 7, 8, 9, 10, 11, 12, 13]), by kernel_rfl, ?_⟩
    refine ⟨ad, ⟨by omega, by omega, q1⟩, ?_⟩
    refine ⟨_, hh, ?_⟩
    refine ⟨ad2, ⟨by omega, by omega, q2⟩, ?_⟩
    refine ⟨_, hh2, ?_⟩
    refine latword_spec hr hr2 ?_
    refine ⟨⟨by show (_ + 1) * 8 ≤ 140737488355328; rw [hrl2]; omega, by show _ + 1 ≤ 9223372036854775807; rw [hrl2]; omega⟩, ?_⟩
    have e := hsn.symm
    refine ⟨⟨by omega, by omega⟩, i + 1, [(0, 2)], ?_, ⟨rfl, hlt⟩, by dsimp only; omega⟩
    (repeat' (first|exact trivial|refine ⟨?_,?_⟩|exact rfl|assumption))
  · have hil : i = x.length := by have := df h; omega
    have e : (vJoin x y).take i = vJoin x y := List.take_of_length_le (by omega)
    rw [e]
    intro v H3 hle3 hv3
    obtain ⟨a5, n5, c5, rfl, hr5⟩ := RL.of_row (α := UInt64) hv3 rc_w
    exact hK _ _ _ _ hle3.le hr5
end Go.Proofs
end
section
namespace Go.Proofs
open Go.Sy
set_option maxRecDepth 20000
set_option maxHeartbeats 4000000
abbrev Rf := Int × Nm
abbrev Cd := Int × Int × Rf × Rf
abbrev refV (r : Rf) : List Value := [.int .i64 r.1, .int .i64 r.2.1, .int .i64 r.2.2]
abbrev codeV (c : Cd) : List Value := [.int .i64 c.1, .int .i64 c.2.1, .int .i64 c.2.2.1.1, .int .i64 c.2.2.1.2.1, .int .i64 c.2.2.1.2.2, .int .i64 c.2.2.2.1, .int .i64 c.2.2.2.2.1, .int .i64 c.2.2.2.2.2]
theorem code_open {H : Hp} {cs : List Value} {c : Cd} (h : Enc.R H cs c) : cs = codeV c := by
  obtain ⟨x1, x2, rfl, ⟨rfl, _⟩, y1, y2, rfl, ⟨rfl, _⟩, z1, z2, rfl, ⟨u1, u2, rfl, ⟨rfl, _⟩, v1, v2, rfl, ⟨rfl, _⟩, ⟨rfl, _⟩⟩, ⟨u3, u4, rfl, ⟨rfl, _⟩, v3, v4, rfl, ⟨rfl, _⟩, ⟨rfl, _⟩⟩⟩ := h
  rfl
theorem code_k {P : Prop} {H : Hp} {a : Option Addr} {n c : Nat} {xs : List Cd} (h : RL H a n c xs) {i : Nat} {x : Cd} (hi : xs[i]? = some x) (k : ∀ ad, a = some ad → ElemH H ad (i : Int) 8 (codeV x) → P) : P :=
  elem_k h hi fun ad cs h1 h2 h3 => by
    have e := code_open h3
    subst e
    exact k ad h1 h2
noncomputable def cxC : Cx := { P := Tryz.prog, tt := tt, n := 0, wrap := false, base := 0, gf := 258 :: cx.gf, eqs := cx.eqs, xf := [] }
theorem cxC_ok : TOK cxC := ⟨cx_ok.tt, cx_ok.eqs⟩
abbrev vL (l : List Value) : List SV := l.map .v
def okR (w : Nat) (r : Rf) : Prop := (r.1 = -1 ∧ wrp r.2.1 = r.2.1 ∧ wrp r.2.2 = r.2.2) ∨ (0 ≤ r.1 ∧ r.1 < (w : Nat) ∧ r.2 = (0, 0))
def okC (w : Nat) (c : Cd) : Prop := 0 ≤ c.1 ∧ c.1 < (w : Nat) ∧ ((c.2.1 = -1 ∧ c.2.2.1 = (0, 0, 0) ∧ c.2.2.2 = (0, 0, 0)) ∨ (0 ≤ c.2.1 ∧ c.2.1 ≤ 4 ∧ okR w c.2.2.1 ∧ okR w c.2.2.2))
theorem tref_spec {w : Nat} {r : Rf} (hr : okR w r) {H : Hp} {K : Value → Hp → Prop} (hK : K (.bool true) H) : Does Tryz.prog 283 [.int .i64 (w : Nat), .agg (refV r).toArray] H K := by
  refine spec_of cx_ok cx_mix rfl Tryz.func283 Tryz.call283 Tryz.ntmps283 Tryz.results283 rfl rfl ?_
  refine ⟨fun h => ?_, fun h => ?_⟩
  · have h1 : r.1 = -1 := dt h
    refine gis_spec (a := r.2) ?_
    refine kbool hK ?_
    rcases hr with ⟨_, h2, h3⟩ | ⟨h2, _⟩
    · rw [isN]; simp [nOf, h2, h3]
    · omega
  · have h1 : ¬ r.1 = -1 := df h
    have hr : 0 ≤ r.1 ∧ r.1 < (w : Nat) ∧ r.2 = (0, 0) := by
      rcases hr with ⟨h2, _⟩ | h2
      · exact absurd h2 h1
      · exact h2
    refine ⟨fun _ => ?_, (fun h => absurd (by omega) (df h))⟩
    refine ⟨fun _ => ?_, (fun h => absurd (by omega) (df h))⟩
    exact kbool hK (by rw [hr.2.2]; rfl)
theorem tcode_spec {w : Nat} {c : Cd} (hc : okC w c) {H : Hp} {K : Value → Hp → Prop} (hK : K (.bool true) H) : Does Tryz.prog 259 [.int .i64 (w : Nat), .agg (codeV c).toArray] H K := by
  have h1 := hc.1
  have h2 := hc.2.1
  refine spec_of cx_ok cx_mix rfl Tryz.func259 Tryz.call259 Tryz.ntmps259 Tryz.results259 rfl rfl ?_
  refine ⟨fun _ => ?_, (fun h => absurd (dt h) (by omega))⟩
  refine ⟨fun _ => ?_, (fun h => absurd (dt h) (by omega))⟩
  have h3 : -1 ≤ c.2.1 ∧ c.2.1 ≤ 4 := by rcases hc.2.2 with h | h <;> omega
  refine ⟨fun _ => ?_, (fun h => absurd (dt h) (by omega))⟩
  refine ⟨(fun h => absurd (dt h) (by omega)), fun _ => ?_⟩
  refine ⟨fun h => ?_, fun h => ?_⟩
  · have h4 : c.2.1 = -1 := dt h
    have h5 : c.2.2.1 = (0, 0, 0) ∧ c.2.2.2 = (0, 0, 0) := by
      rcases hc.2.2 with h | h
      · exact h.2
      · omega
    refine ⟨fun _ => ?_, (fun h => absurd h (by rw [h5.1]; decide))⟩
    exact kbool hK (by rw [h5.2]; rfl)
  · have h4 : ¬ c.2.1 = -1 := df h
    have h5 : okR w c.2.2.1 ∧ okR w c.2.2.2 := by
      rcases hc.2.2 with h | h
      · exact absurd h.1 h4
      · exact h.2.2
    refine tref_spec h5.1 ?_
    refine ⟨fun _ => ?_, (fun h => by cases h)⟩
    refine tref_spec h5.2 ?_
    exact hK
def okL (w : Nat) (l : List Cd) : Prop := ∀ c ∈ l, okC w c
abbrev c1 (w : Nat) : List (Nat × Bx) := [(0, .cells 3 [.v (.int .i64 (w : Nat))])]
theorem tbad_spec {w : Nat} {c : Cd} (hc : okC w c) {H : Hp} {K : SV → St → Hp → Prop} (hK : K (.v (.bool false)) ⟨[], c1 w, 1⟩ H) :
    DoesG Tryz.prog 258 [.agg (vL (codeV c)), .ptr 0 0] (c1 w) 1 H K := by
  refine spec_ofG cx_ok cx_mix Tryz.func258 Tryz.call258 Tryz.ntmps258 Tryz.results258 rfl rfl ?_
  refine tcode_spec hc ?_
  exact ⟨.v (.bool false), c1 w, 1, [(0, 0)], by (repeat' (first|exact trivial|refine ⟨?_,?_⟩|exact rfl|assumption)), hK⟩
theorem indexC_spec {w : Nat} {l : List Cd} (hl : okL w l) {a : Option Addr} {n c : Nat} {H : Hp} {K : SV → St → Hp → Prop} (ha : RL H a n c l) (hK : K (.v (.int .i64 (-1))) ⟨[], c1 w, 1⟩ H) :
    DoesG Tryz.prog 282 [.v (.slice a n c), .fn 258 [.ptr 0 0]] (c1 w) 1 H K := by
  have hn1 := ha.n_eq
  have hmx := ha.le
  refine spec_ofG cxC_ok cx_mix Tryz.func282 Tryz.call282 Tryz.ntmps282 Tryz.results282 rfl rfl ?_
  refine ⟨Nat, fun j => ⟨[(0, .v (.slice a n c)), (1, .fn 258 [.ptr 0 0]), (7, .v (.int .i64 n)), (8, .v (.int .i64 j))], c1 w, 1⟩,
    fun j H' => H' = H ∧ j ≤ l.length, fun j => l.length - j, ⟨0, [(0, 0)], ?_, rfl, by omega⟩, ?_⟩
  · (repeat' (first|exact trivial|refine ⟨?_,?_⟩|exact rfl|assumption))
  rintro j H1 _ ⟨rfl, hi⟩
  refine ⟨fun h => ?_, fun h => ?_⟩
  · have hlt : j < l.length := by have := dt h; omega
    refine code_k ha (List.getElem?_eq_getElem hlt) fun ad q1 hh => ?_
    refine ⟨ad, ⟨by omega, by omega, q1⟩, ?_⟩
    refine ⟨_, hh, ?_⟩
    refine ⟨[0], rfl, tbad_spec (hl _ (List.getElem_mem hlt)) ?_⟩
    refine ⟨(fun h => by cases h), fun _ => ?_⟩
    refine ⟨⟨by omega, by omega⟩, j + 1, [(0, 0)], ?_, ⟨rfl, by omega⟩, by dsimp only; omega⟩
    (repeat' (first|exact trivial|refine ⟨?_,?_⟩|exact rfl|assumption))
  · exact ⟨.v (.int .i64 (-1)), c1 w, 1, [(0, 0)], by (repeat' (first|exact trivial|refine ⟨?_,?_⟩|exact rfl|assumption)), hK⟩
theorem contC_spec {w : Nat} {l : List Cd} (hl : okL w l) {a : Option Addr} {n c : Nat} {H : Hp} {K : SV → St → Hp → Prop} (ha : RL H a n c l) (hK : K (.v (.bool false)) ⟨[], c1 w, 1⟩ H) :
    DoesG Tryz.prog 257 [.v (.slice a n c), .fn 258 [.ptr 0 0]] (c1 w) 1 H K := by
  refine spec_ofG cx_ok cx_mix Tryz.func257 Tryz.call257 Tryz.ntmps257 Tryz.results257 rfl rfl ?_
  refine ⟨[0], rfl, indexC_spec hl ha ?_⟩
  exact ⟨.v (.bool false), c1 w, 1, [(0, 0)], by (repeat' (first|exact trivial|refine ⟨?_,?_⟩|exact rfl|assumption)), hK⟩
abbrev trA (a : Option Addr) (n c : Nat) : Value := .agg #[.slice none 0 0, .slice none 0 0, .slice a n c]
theorem tcheck_spec {w : Nat} (hw : w ≤ 1024) {l : List Cd} (hl : okL w l) {a : Option Addr} {n c : Nat} {H : Hp} {K : Value → Hp → Prop} (ha : RL H a n c l) (hK : K (.int .i64 0) H) :
    Does Tryz.prog 212 [.int .i64 3, .int .i64 (w : Nat), trA a n c] H K := by
  refine spec_of cx_ok cx_mix rfl Tryz.func212 Tryz.call212 Tryz.ntmps212 Tryz.results212 rfl rfl ?_
  refine ⟨fun _ => ?_, (fun h => absurd (dt h) (by omega))⟩
  refine ⟨(fun h => absurd (dt h) (by omega)), fun _ => ?_⟩
  refine ⟨(fun h => absurd (dt h) (by decide)), fun _ => ?_⟩
  refine ⟨(fun h => absurd (dt h) (by decide)), fun _ => ?_⟩
  refine ⟨fun _ => ?_, (fun h => absurd rfl (df h))⟩
  refine ⟨⟨by decide, by decide⟩, ?_⟩
  refine ⟨fun _ => ?_, (fun h => absurd rfl (df h))⟩
  refine ⟨[0], rfl, contC_spec hl ha ?_⟩
  refine ⟨(fun h => by cases h), fun _ => ?_⟩
  exact hK
theorem idxU_spec {l : Wd} {t : Nat} {a : Option Addr} {n c : Nat} {H : Hp} {K : Value → Hp → Prop} (ha : RL H a n c l) (hK : K (.int .i64 (idxG (fun (x : UInt64) => decide (x.toNat = t)) l 0)) H) : Does Tryz.prog 261 [.slice a n c, .int .u64 (t : Nat)] H K := by
  have hn1 := ha.n_eq
  have hmx := ha.le
  refine spec_of cx_ok cx_mix rfl Tryz.func261 Tryz.call261 Tryz.ntmps261 Tryz.results261 rfl rfl ?_
  refine ⟨Nat, fun i => ⟨[(0, .v (.slice a n c)), (1, .v (.int .u64 (t : Nat))), (7, .v (.int .i64 n)), (8, .v (.int .i64 i))], [], 0⟩, fun i H' => H' = H ∧ i ≤ l.length ∧ idxG (fun (x : UInt64) => decide (x.toNat = t)) l 0 = idxG (fun (x : UInt64) => decide (x.toNat = t)) (l.drop i) i, fun i => l.length - i, ⟨0, [], ?_, rfl, by omega, rfl⟩, ?_⟩
  · (repeat' (first|exact trivial|refine ⟨?_,?_⟩|exact rfl|assumption))
  rintro i H1 _ ⟨rfl, hi, hx⟩
  refine ⟨fun h => ?_, fun h => ?_⟩
  · have hlt : i < l.length := by have := dt h; omega
    rw [idxG_step hlt] at hx
    refine word_k ha (List.getElem?_eq_getElem hlt) fun ad e1 hh _ => ?_
    refine ⟨ad, ⟨by omega, by omega, e1⟩, ?_⟩
    refine ⟨_, hh, ?_⟩
    refine ⟨fun h => ?_, fun h => ?_⟩
    · have he : l[i].toNat = t := by have := dt h; omega
      rw [if_pos (decide_eq_true he)] at hx
      rw [hx] at hK
      exact hK
    · have he : ¬ l[i].toNat = t := by have := df h; omega
      rw [if_neg (by rw [decide_eq_true_eq]; exact he)] at hx
      refine ⟨⟨by omega, by omega⟩, i + 1, [], ?_, ⟨rfl, by omega, hx⟩, by dsimp only; omega⟩
      (repeat' (first|exact trivial|refine ⟨?_,?_⟩|exact rfl|assumption))
  · have hil : i = l.length := by have := df h; omega
    rw [hil, List.drop_length, idxG] at hx
    rw [hx] at hK
    exact hK
def has0 (l : Wd) : Bool := l.any fun (x : UInt64) => decide (x.toNat = 0)
theorem contains0_spec {l : Wd} {a : Option Addr} {n c : Nat} {H : Hp} {K : Value → Hp → Prop} (ha : RL H a n c l) (hK : K (.bool (has0 l)) H) : Does Tryz.prog 216 [.slice a n c, .int .u64 0] H K := by
  refine spec_of cx_ok cx_mix rfl Tryz.func216 Tryz.call216 Tryz.ntmps216 Tryz.results216 rfl rfl ?_
  refine idxU_spec (t := 0) ha ?_
  refine kbool hK ?_
  rw [has0, idxG_any l 0 (Int.le_refl 0)]
abbrev uRows (l : Wd) : List (List Value) := l.map fun w => [.int .u64 (w.toNat : Nat)]
theorem uRows_of {H : Hp} {css : List (List Value)} {l : Wd} (h : RC (α := UInt64) H css l) : css = uRows l := by
  apply List.ext_getElem?
  intro i
  by_cases hi : i < css.length
  · have hi2 : i < l.length := by rw [← h.1]; exact hi
    have h1 := List.getElem?_eq_getElem hi
    have h2 := List.getElem?_eq_getElem hi2
    have h3 : css[i] = [.int .u64 (l[i].toNat : Nat)] := h.2 i _ _ h1 h2
    rw [h1, h3, List.getElem?_map, h2]; rfl
  · rw [List.getElem?_eq_none (by omega), List.getElem?_eq_none (by rw [List.length_map, ← h.1]; omega)]
theorem cloneUN_spec {l : Wd} (hl : l.length ≤ 1000000) {a : Option Addr} {n c : Nat} {H : Hp} {K : Value → Hp → Prop} (ha : RL H a n c l) (hK : ∀ v H', LeN 168 1 (uRows l) H v H' → RowAt H' v 1 (uRows l) → K v H') (hnil : a = none → l = [] → K (.slice none 0 0) H) : Does Tryz.prog 247 [.slice a n c] H K := by
  have hn := ha.n_eq
  refine spec_of cx_ok cx_mix rfl Tryz.func247 Tryz.call247 Tryz.ntmps247 Tryz.results247 rfl rfl ?_
  refine ⟨fun h => ?_, fun h => ?_⟩
  · have hno : a = none := by
      cases a with
      | none => rfl
      | some x => cases h
    subst hno
    exact hnil rfl (RL_nil ha)
  · obtain ⟨css, hrow, hrc⟩ := ha.row
    have hcl : css.length = l.length := hrc.1
    have e := uRows_of hrc
    refine ⟨css, hrow, ?_⟩
    refine ⟨⟨by show (0 + css.length) * 8 ≤ 140737488355328; omega, by show 0 + css.length ≤ 9223372036854775807; omega⟩, ?_⟩
    intro v H' hle hv
    rw [e] at hle hv
    exact hK v H' hle hv
theorem cloneU_spec {l : Wd} (hl : l.length ≤ 1000000) {a : Option Addr} {n c : Nat} {H : Hp} {K : Value → Hp → Prop} (ha : RL H a n c l) (hK : ∀ a1 n1 c1 H', Le H H' → RL H' a1 n1 c1 l → K (.slice a1 n1 c1) H') : Does Tryz.prog 247 [.slice a n c] H K := by
  refine cloneUN_spec hl ha (fun v H' hle hv => ?_) (fun _ e => ?_)
  · obtain ⟨a1, n1, c1, rfl, hr⟩ := RL.of_row (α := UInt64) hv rc_w
    exact hK _ _ _ _ hle.le hr
  · rw [e] at hK
    exact hK none 0 0 H (Le.refl H) rl_nil
theorem cloneUG_spec {l : Wd} (hl : l.length ≤ 1000000) {a : Option Addr} {n c : Nat} {H : Hp} {K : SV → St → Hp → Prop} (ha : RL H a n c l)
    (hK : ∀ H', Le H H' → K (.own 0) ⟨[], [(0, .row 168 1 (uRows l))], 1⟩ H') (hnil : l = [] → K (.v (.slice none 0 0)) ⟨[], [], 0⟩ H) : DoesG Tryz.prog 247 [.v (.slice a n c)] [] 0 H K := by
  refine doesG_thawR (args := [.slice a n c]) (fun _ => rfl) (cloneUN_spec hl ha (K := fun v H' => LeN 168 1 (uRows l) H v H' ∨ (v = .slice none 0 0 ∧ l = [] ∧ H' = H)) (fun v H' h _ => .inl h) (fun _ e => .inr ⟨rfl, e, rfl⟩)) ?_
  rintro v H2 hle (h | ⟨rfl, e, rfl⟩)
  · refine .inr ⟨168, 1, uRows l, v, .own 0, fun ρ hρ => hρ, rfl, h.new, fun y hy => ?_, fun H' hle2 _ => hK H' hle2⟩
    obtain ⟨w, _, rfl⟩ := List.mem_map.1 hy
    exact ⟨rfl, fun u hu => by simp at hu; subst hu; rfl⟩
  · exact .inl ⟨.v (.slice none 0 0), fun _ => rfl, rfl, hnil e⟩
end Go.Proofs
end
section
namespace Go.Proofs
open Go.Sy
set_option maxRecDepth 20000
set_option maxHeartbeats 4000000
def refN (v : Wd) (r : Rf) : Nat := if r.1 = -1 then kOf r.2 else (v[r.1.toNat]?.getD 0).toNat
def doC (v : Wd) (c : Cd) : Wd := v.set c.1.toNat (if c.2.1 = -1 then 1 else UInt64.ofNat (kOp c.2.1 (refN v c.2.2.1) (refN v c.2.2.2)))
def doL (v : Wd) (l : List Cd) : Wd := l.foldl doC v
def vApp (l : List Cd) (v : Wd) : Wd := if has0 v then vBot v.length else doL v l
theorem doC_ok {w : Nat} {v : Wd} (h : okW w v) (c : Cd) : okW w (doC v c) := by
  refine ⟨by rw [doC, List.length_set]; exact h.1, fun x hx => ?_⟩
  rw [doC] at hx
  rcases List.mem_or_eq_of_mem_set hx with hx | rfl
  · exact h.2 x hx
  · split
    · rfl
    · rw [u64_of (kOp_lt _ _ _)]; exact kIs_op _ _ _
theorem doL_ok {w : Nat} : ∀ (l : List Cd) {v : Wd}, okW w v → okW w (doL v l)
  | [], _, h => h
  | c :: r, v, h => doL_ok r (v := doC v c) (doC_ok h c)
theorem vApp_ok {w : Nat} {v : Wd} (h : okW w v) (l : List Cd) : okW w (vApp l v) := by
  unfold vApp
  split
  · rw [h.1]; exact vBot_ok w
  · exact doL_ok l h
theorem doL_snoc (v : Wd) (l : List Cd) (c : Cd) : doL v (l ++ [c]) = doC (doL v l) c := by rw [doL, List.foldl_append]; rfl
theorem refN_lt (v : Wd) (r : Rf) : refN v r < 18446744073709551616 := by
  unfold refN
  split
  · have := kOf_lt r.2; omega
  · exact UInt64.toNat_lt _
theorem uRows_get {v : Wd} {i : Int} (h0 : 0 ≤ i) (h1 : i < (v.length : Nat)) : (uRows v)[i.toNat]? = some [.int .u64 ((v[i.toNat]?.getD 0).toNat : Nat)] := by
  have h : i.toNat < v.length := by omega
  rw [List.getElem?_map, List.getElem?_eq_getElem h]; rfl
theorem uRows_len (v : Wd) : (uRows v).length = v.length := List.length_map _
theorem uRows_set (v : Wd) (i : Nat) {x : Nat} (hx : x < 18446744073709551616) : (uRows v).set i [.int .u64 (x : Nat)] = uRows (v.set i (UInt64.ofNat x)) := by
  rw [uRows, uRows, List.map_set, u64_of hx]
abbrev b2 (v : Wd) : List (Nat × Bx) := [(0, .cells 29 [.own 1]), (1, .row 168 1 (uRows v))]
theorem word1_spec {w : Nat} {v : Wd} (hv : v.length = w) {r : Rf} (hr : okR w r) {H : Hp} {K : SV → St → Hp → Prop} (hK : K (.v (.int .u64 (refN v r : Nat))) ⟨[], b2 v, 2⟩ H) : DoesG Tryz.prog 262 [.agg (vL (refV r)), .ptr 0 0] (b2 v) 2 H K := by
  refine spec_ofG cx_ok cx_mix Tryz.func262 Tryz.call262 Tryz.ntmps262 Tryz.results262 rfl rfl ?_
  refine ⟨fun h => ?_, fun h => ?_⟩
  · have h1 : r.1 = -1 := dt h
    refine kof_spec (a := r.2) ?_
    have e : refN v r = kOf r.2 := if_pos h1
    rw [e] at hK
    exact ⟨.v (.int .u64 (kOf r.2 : Nat)), b2 v, 2, [(0, 0), (1, 1)], by (repeat' (first|exact trivial|refine ⟨?_,?_⟩|exact rfl|assumption)), hK⟩
  · have h1 : ¬ r.1 = -1 := df h
    have hr : 0 ≤ r.1 ∧ r.1 < (w : Nat) := by
      rcases hr with ⟨h2, _⟩ | h2
      · exact absurd h2 h1
      · exact ⟨h2.1, h2.2.1⟩
    have e : refN v r = (v[r.1.toNat]?.getD 0).toNat := if_neg h1
    refine ⟨⟨by omega, by rw [uRows_len]; omega⟩, ?_⟩
    refine ⟨_, uRows_get hr.1 (by omega), ?_⟩
    rw [e] at hK
    exact ⟨.v (.int .u64 ((v[r.1.toNat]?.getD 0).toNat : Nat)), b2 v, 2, [(0, 0), (1, 1)], by (repeat' (first|exact trivial|refine ⟨?_,?_⟩|exact rfl|assumption)), hK⟩
noncomputable def cxD : Cx := { P := Tryz.prog, tt := tt, n := 0, wrap := false, base := 0, gf := 247 :: cx.gf, eqs := cx.eqs, xf := [] }
theorem cxD_ok : TOK cxD := ⟨cx_ok.tt, cx_ok.eqs⟩
theorem do_spec {w : Nat} (hw : w ≤ 1024) {v : Wd} (hv : v.length = w) {l : List Cd} (hl : okL w l) {a a2 : Option Addr} {n c n2 k2 : Nat} {H : Hp} {K : Value → Hp → Prop} (ha : RL H a n c v) (hb : RL H a2 n2 k2 l) (hK : ∀ a1 n1 c1 H', Le H H' → RL H' a1 n1 c1 (doL v l) → K (.slice a1 n1 c1) H') :
    Does Tryz.prog 217 [.slice a n c, .slice a2 n2 k2] H K := by
  have hn2 := hb.n_eq
  have hmx := hb.le
  refine spec_of cxD_ok cx_mix rfl Tryz.func217 Tryz.call217 Tryz.ntmps217 Tryz.results217 rfl rfl ?_
  refine ⟨[], rfl, cloneUG_spec (by omega) ha (fun H2 hle2 => ?_) (fun he => ?_)⟩
  · skip
    refine ⟨Nat × Wd, fun z => ⟨[(2, .ptr 0 0), (5, .fn 262 [.ptr 0 0]), (11, .v (.slice a2 n2 k2)), (12, .v (.int .i64 n2)), (13, .v (.int .i64 z.1))], [(0, .cells 29 [.own 1]), (1, .row 168 1 (uRows z.2))], 2⟩,
      fun z H' => H' = H2 ∧ z.1 ≤ l.length ∧ z.2.length = w ∧ z.2 = doL v (l.take z.1), fun z => l.length - z.1, ⟨(0, v), [(0, 0), (1, 1)], ?_, rfl, Nat.zero_le _, hv, rfl⟩, ?_⟩
    · (repeat' (first|exact trivial|refine ⟨?_,?_⟩|exact rfl|assumption))
    rintro ⟨i, u⟩ H3 _ ⟨rfl, hi, hu, hx⟩
    dsimp only at hi hu hx
    refine ⟨fun h => ?_, fun h => ?_⟩
    · have hlt : i < l.length := by have := dt h; dsimp only at this; omega
      refine name_k l[i] fun cd hce => ?_
      have hcc : l[i]? = some cd := by rw [hce]; exact List.getElem?_eq_getElem hlt
      have hok : okC w cd := hl _ (by rw [hce]; exact List.getElem_mem hlt)
      have hst : doL v (l.take (i + 1)) = doC u cd := by rw [hx, List.take_add_one, hcc, Option.toList_some, doL_snoc]
      refine code_k (hb.up (hle2)) hcc fun ad e1 hh => ?_
      refine ⟨ad, ⟨by dsimp only; omega, by dsimp only; omega, e1⟩, ?_⟩
      refine ⟨_, hh, ?_⟩
      have hul := uRows_len u
      have hdl : (doC u cd).length = w := by rw [doC, List.length_set]; exact hu
      refine ⟨fun h => ?_, fun h => ?_⟩
      · have h1 : cd.2.1 = -1 := dt h
        refine ⟨⟨hok.1, by rw [uRows_len, hu]; exact hok.2.1⟩, ?_⟩
        refine ⟨_, uRows_get hok.1 (by rw [hu]; exact hok.2.1), ?_⟩
        have e : (uRows u).set cd.1.toNat [.int .u64 1] = uRows (doC u cd) := by
          have := uRows_set u cd.1.toNat (x := 1) (by omega)
          rw [doC, if_pos h1]
          exact this
        refine ⟨⟨by dsimp only; omega, by dsimp only; omega⟩, (i + 1, doC u cd), [(0, 0), (1, 1)], ?_, ⟨rfl, hlt, hdl, hst.symm⟩, by dsimp only; omega⟩
        (repeat' (first|exact trivial|refine ⟨?_,?_⟩|exact rfl|assumption))
      · have h1 : ¬ cd.2.1 = -1 := df h
        have hrr : okR w cd.2.2.1 ∧ okR w cd.2.2.2 := by
          rcases hok.2.2 with h | h
          · exact absurd h.1 h1
          · exact h.2.2
        have e : (uRows u).set cd.1.toNat [.int .u64 (kOp cd.2.1 (refN u cd.2.2.1) (refN u cd.2.2.2) : Nat)] = uRows (doC u cd) := by
          have := uRows_set u cd.1.toNat (kOp_lt cd.2.1 (refN u cd.2.2.1) (refN u cd.2.2.2))
          rw [doC, if_neg h1]
          exact this
        refine ⟨none, ?_⟩
        refine region_plan (α := Unit) ?_ ?_ (.two 0 8 (.one [1000000, 0, 1] [0, 1, 2, 3, 4, 5, 6, 7, 9, 10, 11, 8, 12, 13, 14, 15]) (.two 0 12 (.one [1000000, 0, 1] [1, 2, 3, 4, 5, 6, 7, 9, 10, 11, 8, 0, 12, 13, 14, 15]) (.one [1000000, 0, 1] [1, 2, 3, 4, 5, 6, 7, 9, 10, 11, 8, 12, 0, 13, 14, 15])))
          (fun _ => ⟨[(2, .ptr 0 0), (5, .fn 262 [.ptr 0 0]), (11, .v (.slice a2 n2 k2)), (12, .v (.int .i64 n2)), (13, .v (.int .i64 (i : Nat)))], [(0, .cells 29 [.own 1]), (1, .row 168 1 (uRows (doC u cd)))], 2⟩)
          (fun _ H' => H' = H3) (by kernel_rfl) ⟨?_, ?_, ?_⟩ ?_
        · exact ⟨cx_ok.tt, cx_ok.eqs⟩
        · exact cx_mix
        · refine ⟨[0, 1], rfl, word1_spec hu hrr.1 ?_⟩
          refine ⟨[0, 1], rfl, word1_spec hu hrr.2 ?_⟩
          refine kop_spec (refN_lt _ _) (refN_lt _ _) ?_
          refine ⟨⟨hok.1, by rw [uRows_len, hu]; exact hok.2.1⟩, ?_⟩
          refine ⟨_, uRows_get hok.1 (by rw [hu]; exact hok.2.1), ?_⟩
          refine ⟨(), [(0, 0), (1, 1)], ?_, rfl⟩
          (repeat' (first|exact trivial|refine ⟨?_,?_⟩|exact rfl|assumption))
        · refine ⟨[0, 1], rfl, word1_spec hu hrr.1 ?_⟩
          refine ⟨[0, 1], rfl, word1_spec hu hrr.2 ?_⟩
          refine kop_spec (refN_lt _ _) (refN_lt _ _) ?_
          refine ⟨⟨hok.1, by rw [uRows_len, hu]; exact hok.2.1⟩, ?_⟩
          refine ⟨_, uRows_get hok.1 (by rw [hu]; exact hok.2.1), ?_⟩
          refine ⟨(), [(0, 0), (1, 1)], ?_, rfl⟩
          (repeat' (first|exact trivial|refine ⟨?_,?_⟩|exact rfl|assumption))
        · refine ⟨[0, 1], rfl, word1_spec hu hrr.1 ?_⟩
          refine ⟨[0, 1], rfl, word1_spec hu hrr.2 ?_⟩
          refine kop_spec (refN_lt _ _) (refN_lt _ _) ?_
          refine ⟨⟨hok.1, by rw [uRows_len, hu]; exact hok.2.1⟩, ?_⟩
          refine ⟨_, uRows_get hok.1 (by rw [hu]; exact hok.2.1), ?_⟩
          refine ⟨(), [(0, 0), (1, 1)], ?_, rfl⟩
          (repeat' (first|exact trivial|refine ⟨?_,?_⟩|exact rfl|assumption))
        rintro _ H5 _ rfl
        refine ⟨⟨by omega, by omega⟩, (i + 1, doC u cd), [(0, 0), (1, 1)], ?_, ⟨rfl, hlt, hdl, hst.symm⟩, by dsimp only; omega⟩
        (repeat' (first|exact trivial|refine ⟨?_,?_⟩|exact rfl|assumption))
    · have hil : i = l.length := by have := df h; dsimp only at this; omega
      rw [hil, List.take_length] at hx
      rw [hx]
      intro y H6 hle6 hy
      obtain ⟨a7, n7, c7, rfl, hr7⟩ := RL.of_row (α := UInt64) hy rc_w
      exact hK _ _ _ _ ((hle2).trans hle6.le) hr7
  · subst he
    refine ⟨Nat × Wd, fun z => ⟨[(2, .ptr 0 0), (5, .fn 262 [.ptr 0 0]), (11, .v (.slice a2 n2 k2)), (12, .v (.int .i64 n2)), (13, .v (.int .i64 z.1))], [(0, .cells 29 [.own 1]), (1, .row 168 1 (uRows z.2))], 2⟩,
      fun z H' => H' = H ∧ z.1 ≤ l.length ∧ z.2.length = w ∧ z.2 = doL [] (l.take z.1), fun z => l.length - z.1, ⟨(0, []), [(0, 0)], ?_, rfl, Nat.zero_le _, hv, rfl⟩, ?_⟩
    · (repeat' (first|exact trivial|refine ⟨?_,?_⟩|exact rfl|assumption))
    rintro ⟨i, u⟩ H3 _ ⟨rfl, hi, hu, hx⟩
    dsimp only at hi hu hx
    refine ⟨fun h => ?_, fun h => ?_⟩
    · have hlt : i < l.length := by have := dt h; dsimp only at this; omega
      refine name_k l[i] fun cd hce => ?_
      have hcc : l[i]? = some cd := by rw [hce]; exact List.getElem?_eq_getElem hlt
      have hok : okC w cd := hl _ (by rw [hce]; exact List.getElem_mem hlt)
      have hst : doL [] (l.take (i + 1)) = doC u cd := by rw [hx, List.take_add_one, hcc, Option.toList_some, doL_snoc]
      refine code_k (hb.up (Le.refl _)) hcc fun ad e1 hh => ?_
      refine ⟨ad, ⟨by dsimp only; omega, by dsimp only; omega, e1⟩, ?_⟩
      refine ⟨_, hh, ?_⟩
      have hul := uRows_len u
      have hdl : (doC u cd).length = w := by rw [doC, List.length_set]; exact hu
      refine ⟨fun h => ?_, fun h => ?_⟩
      · have h1 : cd.2.1 = -1 := dt h
        refine ⟨⟨hok.1, by rw [uRows_len, hu]; exact hok.2.1⟩, ?_⟩
        refine ⟨_, uRows_get hok.1 (by rw [hu]; exact hok.2.1), ?_⟩
        have e : (uRows u).set cd.1.toNat [.int .u64 1] = uRows (doC u cd) := by
          have := uRows_set u cd.1.toNat (x := 1) (by omega)
          rw [doC, if_pos h1]
          exact this
        refine ⟨⟨by dsimp only; omega, by dsimp only; omega⟩, (i + 1, doC u cd), [(0, 0), (1, 1)], ?_, ⟨rfl, hlt, hdl, hst.symm⟩, by dsimp only; omega⟩
        (repeat' (first|exact trivial|refine ⟨?_,?_⟩|exact rfl|assumption))
      · have h1 : ¬ cd.2.1 = -1 := df h
        have hrr : okR w cd.2.2.1 ∧ okR w cd.2.2.2 := by
          rcases hok.2.2 with h | h
          · exact absurd h.1 h1
          · exact h.2.2
        have e : (uRows u).set cd.1.toNat [.int .u64 (kOp cd.2.1 (refN u cd.2.2.1) (refN u cd.2.2.2) : Nat)] = uRows (doC u cd) := by
          have := uRows_set u cd.1.toNat (kOp_lt cd.2.1 (refN u cd.2.2.1) (refN u cd.2.2.2))
          rw [doC, if_neg h1]
          exact this
        refine ⟨none, ?_⟩
        refine region_plan (α := Unit) ?_ ?_ (.two 0 8 (.one [1000000, 0, 1] [0, 1, 2, 3, 4, 5, 6, 7, 9, 10, 11, 8, 12, 13, 14, 15]) (.two 0 12 (.one [1000000, 0, 1] [1, 2, 3, 4, 5, 6, 7, 9, 10, 11, 8, 0, 12, 13, 14, 15]) (.one [1000000, 0, 1] [1, 2, 3, 4, 5, 6, 7, 9, 10, 11, 8, 12, 0, 13, 14, 15])))
          (fun _ => ⟨[(2, .ptr 0 0), (5, .fn 262 [.ptr 0 0]), (11, .v (.slice a2 n2 k2)), (12, .v (.int .i64 n2)), (13, .v (.int .i64 (i : Nat)))], [(0, .cells 29 [.own 1]), (1, .row 168 1 (uRows (doC u cd)))], 2⟩)
          (fun _ H' => H' = H3) (by kernel_rfl) ⟨?_, ?_, ?_⟩ ?_
        · exact ⟨cx_ok.tt, cx_ok.eqs⟩
        · exact cx_mix
        · refine ⟨[0, 1], rfl, word1_spec hu hrr.1 ?_⟩
          refine ⟨[0, 1], rfl, word1_spec hu hrr.2 ?_⟩
          refine kop_spec (refN_lt _ _) (refN_lt _ _) ?_
          refine ⟨⟨hok.1, by rw [uRows_len, hu]; exact hok.2.1⟩, ?_⟩
          refine ⟨_, uRows_get hok.1 (by rw [hu]; exact hok.2.1), ?_⟩
          refine ⟨(), [(0, 0), (1, 1)], ?_, rfl⟩
          (repeat' (first|exact trivial|refine ⟨?_,?_⟩|exact rfl|assumption))
        · refine ⟨[0, 1], rfl, word1_spec hu hrr.1 ?_⟩
          refine ⟨[0, 1], rfl, word1_spec hu hrr.2 ?_⟩
          refine kop_spec (refN_lt _ _) (refN_lt _ _) ?_
          refine ⟨⟨hok.1, by rw [uRows_len, hu]; exact hok.2.1⟩, ?_⟩
          refine ⟨_, uRows_get hok.1 (by rw [hu]; exact hok.2.1), ?_⟩
          refine ⟨(), [(0, 0), (1, 1)], ?_, rfl⟩
          (repeat' (first|exact trivial|refine ⟨?_,?_⟩|exact rfl|assumption))
        · refine ⟨[0, 1], rfl, word1_spec hu hrr.1 ?_⟩
          refine ⟨[0, 1], rfl, word1_spec hu hrr.2 ?_⟩
          refine kop_spec (refN_lt _ _) (refN_lt _ _) ?_
          refine ⟨⟨hok.1, by rw [uRows_len, hu]; exact hok.2.1⟩, ?_⟩
          refine ⟨_, uRows_get hok.1 (by rw [hu]; exact hok.2.1), ?_⟩
          refine ⟨(), [(0, 0), (1, 1)], ?_, rfl⟩
          (repeat' (first|exact trivial|refine ⟨?_,?_⟩|exact rfl|assumption))
        rintro _ H5 _ rfl
        refine ⟨⟨by omega, by omega⟩, (i + 1, doC u cd), [(0, 0), (1, 1)], ?_, ⟨rfl, hlt, hdl, hst.symm⟩, by dsimp only; omega⟩
        (repeat' (first|exact trivial|refine ⟨?_,?_⟩|exact rfl|assumption))
    · have hil : i = l.length := by have := df h; dsimp only at this; omega
      rw [hil, List.take_length] at hx
      rw [hx]
      intro y H6 hle6 hy
      obtain ⟨a7, n7, c7, rfl, hr7⟩ := RL.of_row (α := UInt64) hy rc_w
      exact hK _ _ _ _ ((Le.refl _).trans hle6.le) hr7
end Go.Proofs
end
section
namespace Go.Proofs
open Go.Sy
set_option maxRecDepth 20000
set_option maxHeartbeats 4000000
theorem tapply_spec {w : Nat} (hw : w ≤ 1024) {v : Wd} (hv : okW w v) {l : List Cd} (hl : okL w l) {a a2 : Option Addr} {n c n2 k2 : Nat} {H : Hp} {K : Value → Hp → Prop} (ha : RL H a n c v) (hb : RL H a2 n2 k2 l) (hK : ∀ a1 n1 c1 H', Le H H' → RL H' a1 n1 c1 (vApp l v) → K (.tuple #[.slice a1 n1 c1, .int .i64 0]) H') :
    Does Tryz.prog 171 [.int .i64 3, .int .i64 (w : Nat), trA a2 n2 k2, .slice a n c] H K := by
  refine spec_of cx_ok cx_mix rfl Tryz.func171 Tryz.call171 Tryz.ntmps171 Tryz.results171 rfl rfl ?_
  refine tcheck_spec hw hl hb ?_
  refine ⟨(fun h => absurd rfl (nt h)), fun _ => ?_⟩
  refine latIs_spec hw hv ha ?_
  refine ⟨(fun h => by cases h), fun _ => ?_⟩
  refine ⟨(fun h => absurd rfl (nt h)), fun _ => ?_⟩
  refine contains0_spec ha ?_
  refine ⟨fun h => ?_, fun h => ?_⟩
  · refine latbot_spec hw fun a1 n1 c1 H1 hle1 hr1 => ?_
    have e : vApp l v = vBot w := by rw [vApp, if_pos h, hv.1]
    rw [e] at hK
    exact hK _ _ _ _ hle1 hr1
  · refine do_spec hw hv.1 hl ha hb fun a1 n1 c1 H1 hle1 hr1 => ?_
    have e : vApp l v = doL v l := by rw [vApp, if_neg (by rw [h]; decide)]
    rw [e] at hK
    exact hK _ _ _ _ hle1 hr1
end Go.Proofs
end
section
namespace Go.Proofs
open Go.Sy
set_option maxRecDepth 20000
set_option maxHeartbeats 4000000
structure Tr3 where
  l : List Cd
instance : Enc Tr3 where
  sz := 3
  R H cs x := ∃ a n c, cs = [.slice none 0 0, .slice none 0 0, .slice a n c] ∧ RL H a n c x.l
  len h := by obtain ⟨_, _, _, rfl, _⟩ := h; rfl
  one h := by obtain ⟨_, _, _, rfl, _⟩ := h; intro u hu; simp at hu; rcases hu with rfl | rfl <;> rfl
  up hle h := by obtain ⟨a, n, c, e, h⟩ := h; exact ⟨a, n, c, e, h.up hle⟩
structure Sy3 where
  w : Nat
  m : Nat
  E : List Edg
  ent : List Int
  ini : Wd
  T : List (List Cd)
structure SA where
  ea : Option Addr
  en : Nat
  ec : Nat
  na : Option Addr
  nn : Nat
  nc : Nat
  ia : Option Addr
  ni : Nat
  ic : Nat
  ta : Option Addr
  tn : Nat
  tc : Nat
abbrev sysV (s : Sy3) (z : SA) : List Value := [.int .i64 3, .int .i64 (s.w : Nat), .int .i64 (s.m : Nat), .slice z.ea z.en z.ec, .slice z.na z.nn z.nc, .slice z.ia z.ni z.ic, .slice z.ta z.tn z.tc]
abbrev sysA (s : Sy3) (z : SA) : Value := .agg (sysV s z).toArray
structure SysR (H : Hp) (s : Sy3) (z : SA) : Prop where
  e : RL H z.ea z.en z.ec s.E
  n : RL H z.na z.nn z.nc s.ent
  i : RL H z.ia z.ni z.ic s.ini
  t : RL (α := Tr3) H z.ta z.tn z.tc (s.T.map Tr3.mk)
theorem SysR.up {H H' : Hp} {s : Sy3} {z : SA} (h : SysR H s z) (hle : Le H H') : SysR H' s z := ⟨h.e.up hle, h.n.up hle, h.i.up hle, h.t.up hle⟩
structure OkS (s : Sy3) : Prop where
  w : s.w ≤ 1024
  m : 1 ≤ s.m ∧ s.m ≤ 256
  El : s.E.length ≤ 1024
  En : ∀ e ∈ s.E, (0 ≤ e.1 ∧ e.1 < (s.m : Nat)) ∧ 0 ≤ e.2 ∧ e.2 < (s.m : Nat)
  ent : ∀ v ∈ s.ent, 0 ≤ v ∧ v < (s.m : Nat)
  ini : okW s.w s.ini
  Tl : s.T.length = s.m
  T : ∀ t ∈ s.T, okL s.w t
theorem trans_k {P : Prop} {H : Hp} {a : Option Addr} {n c : Nat} {T : List (List Cd)} (h : RL (α := Tr3) H a n c (T.map Tr3.mk)) {i : Nat} {l : List Cd} (hi : T[i]? = some l) (k : ∀ ad a1 n1 c1, a = some ad → ElemH H ad (i : Int) 3 [.slice none 0 0, .slice none 0 0, .slice a1 n1 c1] → RL H a1 n1 c1 l → P) : P :=
  elem_k h (i := i) (x := Tr3.mk l) (by rw [List.getElem?_map, hi]; rfl) fun ad cs h1 h2 h3 => by
    obtain ⟨a1, n1, c1, rfl, h4⟩ := h3
    exact k ad a1 n1 c1 h1 h2 h4
theorem right_ok {s : Sy3} (h : OkS s) : rightE (s.m : Nat) s.E = true := by
  have h1 := h.m
  have h2 := h.El
  rw [rightE, decide_eq_true (by omega), decide_eq_true (by omega), decide_eq_true h2]
  simp only [Bool.true_and, Bool.not_eq_true', decide_eq_false_iff_not]
  intro h0
  obtain ⟨e, he, h3⟩ := (idxB_none s.E 0 (Int.le_refl 0)).1 h0
  have h4 := h.En e he
  rw [badE, decide_eq_true h4.1, decide_eq_true h4.2] at h3
  cases h3
theorem right_true {m : Int} {l : List Edg} (h : rightE m l = true) {a : Option Addr} {n c : Nat} {H : Hp} {K : Value → Hp → Prop} (ha : RL H a n c l) (hK : K (.bool true) H) : Does Tryz.prog 211 [.int .i64 m, .slice a n c] H K :=
  right_spec ha (by rw [h]; exact hK)
theorem scheck_spec {s : Sy3} {z : SA} (ho : OkS s) {H : Hp} {K : Value → Hp → Prop} (hs : SysR H s z) (hK : ∀ H', Le H H' → K (.int .i64 0) H') : Does Tryz.prog 168 [sysA s z] H K := by
  have hm := ho.m
  have hw := ho.w
  have htn := hs.t.n_eq
  rw [List.length_map, ho.Tl] at htn
  have hnn := hs.n.n_eq
  have hnx := hs.n.le
  refine spec_of cx_ok cx_mix rfl Tryz.func168 Tryz.call168 Tryz.ntmps168 Tryz.results168 rfl rfl ?_
  refine .inl ⟨0, ?_⟩
  refine ⟨none, ?_⟩
  refine region_plan (α := Unit) ?_ ?_ (.one [] [0, 1, 2, 3, 4, 5, 6, 7, 8, 9, 10, 11, 12, 13, 14, 15, 16, 17, 18])
    (fun _ => ⟨[(1, .ptr 0 0), (26, .v (.bool false))], [(0, .cells 32 (vL (sysV s z)))], 1⟩) (fun _ H' => Le H H') (by kernel_rfl) ?_ ?_
  · exact ⟨cx_ok.tt, cx_ok.eqs⟩
  · exact cx_mix
  · refine latheight_spec hw ?_
    refine ⟨fun _ => ?_, fun _ => ?_⟩
    · refine latbot_spec hw fun a1 n1 c1 H1 hle1 hr1 => ?_
      refine latIs_spec hw (vBot_ok s.w) hr1 ?_
      exact ⟨(), [(0, 0)], by (repeat' (first|exact trivial|refine ⟨?_,?_⟩|exact rfl|assumption)), hle1⟩
    · exact ⟨(), [(0, 0)], by (repeat' (first|exact trivial|refine ⟨?_,?_⟩|exact rfl|assumption)), Le.refl H⟩
  rintro _ H1 _ hle
  refine ⟨(fun h => by cases h), fun _ => ?_⟩
  have hs := hs.up hle
  refine right_true (right_ok ho) hs.e ?_
  refine ⟨fun _ => ?_, (fun h => by cases h)⟩
  refine ⟨(fun h => absurd (by rw [htn]) (nt h)), fun _ => ?_⟩
  refine ⟨Nat, fun i => ⟨[(1, .ptr 0 0), (42, .v (.slice z.na z.nn z.nc)), (43, .v (.int .i64 z.nn)), (44, .v (.int .i64 i))], [(0, .cells 32 (vL (sysV s z)))], 1⟩,
    fun i H' => H' = H1 ∧ i ≤ s.ent.length, fun i => s.ent.length - i, ⟨0, [(0, 0)], ?_, rfl, Nat.zero_le _⟩, ?_⟩
  · (repeat' (first|exact trivial|refine ⟨?_,?_⟩|exact rfl|assumption))
  rintro i H2 _ ⟨rfl, hi⟩
  refine ⟨fun h => ?_, fun h => ?_⟩
  · have hlt : i < s.ent.length := by have := dt h; omega
    have hv := ho.ent _ (List.getElem_mem hlt)
    refine int_k hs.n (List.getElem?_eq_getElem hlt) fun ad e1 hh => ?_
    refine ⟨ad, ⟨by omega, by omega, e1⟩, ?_⟩
    refine ⟨_, hh, ?_⟩
    refine ⟨fun _ => ?_, (fun h => absurd (dt h) (by omega))⟩
    refine ⟨(fun h => absurd (dt h) (by omega)), fun _ => ?_⟩
    refine ⟨⟨by omega, by omega⟩, i + 1, [(0, 0)], ?_, ⟨rfl, hlt⟩, by dsimp only; omega⟩
    (repeat' (first|exact trivial|refine ⟨?_,?_⟩|exact rfl|assumption))
  refine latIs_spec hw ho.ini hs.i ?_
  refine ⟨(fun h => by cases h), fun _ => ?_⟩
  refine ⟨Nat, fun i => ⟨[(1, .ptr 0 0), (66, .v (.slice z.ta z.tn z.tc)), (67, .v (.int .i64 z.tn)), (68, .v (.int .i64 i))], [(0, .cells 32 (vL (sysV s z)))], 1⟩,
    fun i H' => H' = H2 ∧ i ≤ s.T.length, fun i => s.T.length - i, ⟨0, [(0, 0)], ?_, rfl, Nat.zero_le _⟩, ?_⟩
  · (repeat' (first|exact trivial|refine ⟨?_,?_⟩|exact rfl|assumption))
  rintro j H3 _ ⟨rfl, hj⟩
  have hTl := ho.Tl
  refine ⟨fun h => ?_, fun h => ?_⟩
  · have hlt : j < s.T.length := by have := dt h; omega
    refine trans_k hs.t (List.getElem?_eq_getElem hlt) fun ad a1 n1 c1 e1 hh hr1 => ?_
    refine ⟨ad, ⟨by omega, by omega, e1⟩, ?_⟩
    refine ⟨_, hh, ?_⟩
    refine tcheck_spec hw (ho.T _ (List.getElem_mem hlt)) hr1 ?_
    refine ⟨(fun h => absurd rfl (nt h)), fun _ => ?_⟩
    refine ⟨⟨by omega, by omega⟩, j + 1, [(0, 0)], ?_, ⟨rfl, hlt⟩, by dsimp only; omega⟩
    (repeat' (first|exact trivial|refine ⟨?_,?_⟩|exact rfl|assumption))
  · exact hK _ hle
theorem snode_spec {s : Sy3} {z : SA} (ho : OkS s) {v : Nat} (hv : v < s.m) {H : Hp} {K : Value → Hp → Prop} (hs : SysR H s z) (hK : K (.int .i64 0) H) : Does Tryz.prog 170 [sysA s z, .int .i64 (v : Nat)] H K := by
  refine spec_of cx_ok cx_mix rfl Tryz.func170 Tryz.call170 Tryz.ntmps170 Tryz.results170 rfl rfl ?_
  refine scheck_spec (s := s) (z := z) ho hs fun _ _ => ?_
  refine ⟨(fun h => absurd rfl (nt h)), fun _ => ?_⟩
  refine ⟨fun _ => ?_, (fun h => absurd (dt h) (by omega))⟩
  refine ⟨(fun h => absurd (dt h) (by omega)), fun _ => ?_⟩
  exact hK
def vStart (s : Sy3) (v : Nat) : Wd := if (v : Int) ∈ s.ent then s.ini else vBot s.w
theorem vStart_ok {s : Sy3} (ho : OkS s) (v : Nat) : okW s.w (vStart s v) := by
  unfold vStart
  split
  · exact ho.ini
  · exact vBot_ok _
theorem sstart_spec {s : Sy3} {z : SA} (ho : OkS s) {v : Nat} {H : Hp} {K : Value → Hp → Prop} (hs : SysR H s z) (hK : ∀ a1 n1 c1 H', Le H H' → RL H' a1 n1 c1 (vStart s v) → K (.slice a1 n1 c1) H') : Does Tryz.prog 205 [sysA s z, .int .i64 (v : Nat)] H K := by
  have hi := ho.ini.1
  have hw := ho.w
  refine spec_of cx_ok cx_mix rfl Tryz.func205 Tryz.call205 Tryz.ntmps205 Tryz.results205 rfl rfl ?_
  refine containsN_spec hs.n ?_
  refine ⟨fun h => ?_, fun h => ?_⟩
  · have hm : (v : Int) ∈ s.ent := dt h
    have e : vStart s v = s.ini := if_pos hm
    rw [e] at hK
    exact cloneU_spec (by omega) hs.i hK
  · have hm : ¬ (v : Int) ∈ s.ent := df h
    have e : vStart s v = vBot s.w := if_neg hm
    rw [e] at hK
    exact latbot_spec hw hK
def tAt (s : Sy3) (v : Nat) : List Cd := s.T[v]?.getD []
theorem tAt_ok {s : Sy3} (ho : OkS s) (v : Nat) : okL s.w (tAt s v) := by
  unfold tAt
  cases h : s.T[v]? with
  | none => exact fun c hc => by cases hc
  | some t => exact ho.T t (List.mem_of_getElem? h)
theorem tAt_get {s : Sy3} (ho : OkS s) {v : Nat} (hv : v < s.m) : s.T[v]? = some (tAt s v) := by
  have : v < s.T.length := by rw [ho.Tl]; exact hv
  rw [tAt, List.getElem?_eq_getElem this]; rfl
theorem sout_spec {s : Sy3} {z : SA} (ho : OkS s) {v : Nat} (hv : v < s.m) {x : Wd} (hx : okW s.w x) {a : Option Addr} {n c : Nat} {H : Hp} {K : Value → Hp → Prop} (hs : SysR H s z) (ha : RL H a n c x) (hK : ∀ a1 n1 c1 H', Le H H' → RL H' a1 n1 c1 (vApp (tAt s v) x) → K (.tuple #[.slice a1 n1 c1, .int .i64 0]) H') :
    Does Tryz.prog 117 [sysA s z, .int .i64 (v : Nat), .slice a n c] H K := by
  have htn := hs.t.n_eq
  rw [List.length_map, ho.Tl] at htn
  refine spec_of cx_ok cx_mix rfl Tryz.func117 Tryz.call117 Tryz.ntmps117 Tryz.results117 rfl rfl ?_
  refine snode_spec (s := s) (z := z) ho hv hs ?_
  refine ⟨(fun h => absurd rfl (nt h)), fun _ => ?_⟩
  refine trans_k hs.t (tAt_get ho hv) fun ad a1 n1 c1 e1 hh hr1 => ?_
  refine ⟨some ([], [0, 1, 2, 3, 4, 5, 6, 7, 8, 9, 10, 11, 12, 13, 14]), by kernel_rfl, ?_⟩
  refine ⟨ad, ⟨by omega, by omega, e1⟩, ?_⟩
  refine ⟨_, hh, ?_⟩
  refine tapply_spec ho.w hx (tAt_ok ho v) ha hr1 fun a2 n2 c2 H2 hle2 hr2 => ?_
  exact hK _ _ _ _ hle2 hr2
theorem nilRow_rc {m : Nat} {H : Hp} : RC (α := Wd) H (List.replicate m [Value.slice none 0 0]) (List.replicate m []) := by
  refine ⟨by simp, fun i cs x h1 h2 => ?_⟩
  rw [List.getElem?_replicate] at h1 h2
  split at h1
  · rename_i hlt
    rw [if_pos hlt] at h2
    cases h1; cases h2
    exact ⟨none, 0, 0, rfl, rl_nil⟩
  · cases h1
theorem wdrow_k {P : Prop} {H : Hp} {css : List (List Value)} {A : List Wd} (h : RC (α := Wd) H css A) {i : Nat} {x : Wd} (hi : A[i]? = some x) (k : ∀ a n c, css[i]? = some [.slice a n c] → RL H a n c x → P) : P := by
  have hlt := (List.getElem?_eq_some_iff.1 hi).1
  have hl : css.length = A.length := h.1
  have hg : css[i]? = some (css[i]'(by omega)) := List.getElem?_eq_getElem _
  obtain ⟨a, n, c, e, hr⟩ := h.2 i _ x hg hi
  exact k a n c (by rw [hg, e]) hr
theorem wd_set {H : Hp} {css : List (List Value)} {A : List Wd} (h : RC (α := Wd) H css A) {i : Nat} {a : Option Addr} {n c : Nat} {x : Wd} (hx : RL H a n c x) : RC (α := Wd) H (css.set i [.slice a n c]) (A.set i x) :=
  RC.set h (show Enc.R (α := Wd) H [.slice a n c] x from ⟨a, n, c, rfl, hx⟩) i
def fillV (f : Nat → Wd) (m i : Nat) : List Wd := (List.range i).map f ++ List.replicate (m - i) []
theorem fillV_len (f : Nat → Wd) {m i : Nat} (h : i ≤ m) : (fillV f m i).length = m := by
  rw [fillV, List.length_append, List.length_map, List.length_range, List.length_replicate]; omega
theorem fillV_get (f : Nat → Wd) {m i : Nat} (h : i < m) : (fillV f m i)[i]? = some [] := by
  rw [fillV, List.getElem?_append_right (by simp), List.length_map, List.length_range, Nat.sub_self, List.getElem?_replicate, if_pos (by omega)]
theorem fillV_set (f : Nat → Wd) {m i : Nat} (h : i < m) : (fillV f m i).set i (f i) = fillV f m (i + 1) := by
  have hl : ((List.range i).map f).length = i := by simp
  have hr : List.replicate (m - i) ([] : Wd) = [] :: List.replicate (m - (i + 1)) [] := by rw [show m - i = (m - (i + 1)) + 1 by omega, List.replicate_succ]
  rw [fillV, fillV, List.set_append_right _ _ (by omega), hl, Nat.sub_self, hr, List.set_cons_zero, List.range_succ, List.map_append]
  simp
theorem fillV_full (f : Nat → Wd) (m : Nat) : fillV f m m = (List.range m).map f := by simp [fillV]
theorem map_const (m : Nat) (x : Wd) : (List.range m).map (fun _ => x) = List.replicate m x := by
  rw [List.map_const', List.length_range]
theorem sbottom_spec {s : Sy3} {z : SA} (ho : OkS s) {H : Hp} {K : Value → Hp → Prop} (hs : SysR H s z) (hK : ∀ v css H3 H', Le H H3 → RC (α := Wd) H3 css (List.replicate s.m (vBot s.w)) → LeN 29 1 css H3 v H' → RowAt H' v 1 css → K (.tuple #[v, .int .i64 0]) H') : Does Tryz.prog 116 [sysA s z] H K := by
  have hm := ho.m
  have hw := ho.w
  refine spec_of cx_ok cx_mix rfl Tryz.func116 Tryz.call116 Tryz.ntmps116 Tryz.results116 rfl rfl ?_
  refine scheck_spec (s := s) (z := z) ho hs fun _ _ => ?_
  refine ⟨(fun h => absurd rfl (nt h)), fun _ => ?_⟩
  refine ⟨⟨rfl, by omega, by show (s.m : Int) * 24 ≤ _; omega, by omega⟩, ?_⟩
  refine ⟨Nat × List (List Value), fun q => ⟨[(1, .ptr 0 0), (5, .own 1), (16, .v (.int .i64 (s.m : Nat))), (17, .v (.int .i64 q.1))], [(0, .cells 32 (vL (sysV s z))), (1, .row 29 1 q.2)], 2⟩,
    fun q H' => Le H H' ∧ q.1 ≤ s.m ∧ RC (α := Wd) H' q.2 (fillV (fun _ => vBot s.w) s.m q.1), fun q => s.m - q.1, ⟨(0, List.replicate s.m [.slice none 0 0]), [(0, 0), (1, 1)], ?_, Le.refl H, Nat.zero_le _, by simpa [fillV] using nilRow_rc⟩, ?_⟩
  · have e : SV.v (.int .i64 ((List.replicate (s.m : Int).toNat [Value.slice none 0 0]).length : Nat)) = SV.v (.int .i64 (s.m : Nat)) := by simp
    (repeat' (first|exact trivial|refine ⟨?_,?_⟩|exact rfl|assumption))
  rintro ⟨i, css⟩ H1 _ ⟨hle1, hi, hrc⟩
  dsimp only at hi hrc
  have hcl : css.length = s.m := by have h1 := hrc.1; rw [fillV_len _ hi] at h1; exact h1
  refine ⟨fun h => ?_, fun h => ?_⟩
  · have hlt : i < s.m := by have := dt h; dsimp only at this; omega
    refine latbot_spec hw fun a1 n1 c1 H2 hle2 hr1 => ?_
    have hrc2 := RC.up hrc hle2
    refine wdrow_k hrc2 (fillV_get _ hlt) fun a0 n0 c0 hg _ => ?_
    have hg2 : css[(i : Int).toNat]? = _ := hg
    refine ⟨⟨by dsimp only; omega, by dsimp only; omega⟩, ?_⟩
    refine ⟨_, hg2, ?_⟩
    have hrc3 : RC (α := Wd) H2 (css.set i [.slice a1 n1 c1]) (fillV (fun _ => vBot s.w) s.m (i + 1)) := by
      rw [← fillV_set _ hlt]; exact wd_set hrc2 hr1
    refine ⟨⟨by dsimp only; omega, by dsimp only; omega⟩, (i + 1, css.set i [.slice a1 n1 c1]), [(0, 0), (1, 1)], ?_, ⟨hle1.trans hle2, hlt, hrc3⟩, by dsimp only; omega⟩
    (repeat' (first|exact trivial|refine ⟨?_,?_⟩|exact rfl|assumption))
  · have hil : i = s.m := by have := df h; dsimp only at this; omega
    rw [hil, fillV_full, map_const] at hrc
    intro v H6 hle6 hv6
    exact hK v css H1 H6 hle1 hrc hle6 hv6
end Go.Proofs
end
section
namespace Go.Proofs
open Go.Sy
set_option maxRecDepth 20000
set_option maxHeartbeats 4000000
structure OkA (s : Sy3) (A : List Wd) : Prop where
  len : A.length = s.m
  ok : ∀ x ∈ A, okW s.w x
def aAt (A : List Wd) (v : Nat) : Wd := A[v]?.getD []
theorem aAt_get {s : Sy3} {A : List Wd} (h : OkA s A) {v : Nat} (hv : v < s.m) : A[v]? = some (aAt A v) := by
  have : v < A.length := by rw [h.len]; exact hv
  rw [aAt, List.getElem?_eq_getElem this]; rfl
theorem aAt_ok {s : Sy3} {A : List Wd} (h : OkA s A) {v : Nat} (hv : v < s.m) : okW s.w (aAt A v) := h.ok _ (List.mem_of_getElem? (aAt_get h hv))
def appE (s : Sy3) (A : List Wd) (e : Edg) : Wd := vApp (tAt s e.1.toNat) (aAt A e.1.toNat)
def stepE (s : Sy3) (A out : List Wd) (e : Edg) : List Wd := out.set e.2.toNat (vJoin (aAt out e.2.toNat) (appE s A e))
def starts (s : Sy3) : List Wd := (List.range s.m).map (vStart s)
def stepS (s : Sy3) (A : List Wd) : List Wd := s.E.foldl (stepE s A) (starts s)
theorem starts_ok {s : Sy3} (ho : OkS s) : OkA s (starts s) := ⟨by simp [starts], fun x hx => by
  obtain ⟨v, _, rfl⟩ := List.mem_map.1 hx
  exact vStart_ok ho v⟩
theorem appE_ok {s : Sy3} {A : List Wd} (hA : OkA s A) {e : Edg} (he : 0 ≤ e.1 ∧ e.1 < (s.m : Nat)) : okW s.w (appE s A e) := vApp_ok (aAt_ok hA (by omega)) _
theorem stepE_ok {s : Sy3} {A out : List Wd} (hA : OkA s A) (hO : OkA s out) {e : Edg} (he : 0 ≤ e.1 ∧ e.1 < (s.m : Nat)) (he2 : 0 ≤ e.2 ∧ e.2 < (s.m : Nat)) : OkA s (stepE s A out e) := by
  refine ⟨by rw [stepE, List.length_set]; exact hO.len, fun x hx => ?_⟩
  rcases List.mem_or_eq_of_mem_set hx with hx | rfl
  · exact hO.ok x hx
  · exact vJoin_ok (aAt_ok hO (by omega)) (appE_ok hA he)
theorem fold_ok {s : Sy3} {A : List Wd} (hA : OkA s A) : ∀ (l : List Edg) {out : List Wd}, (∀ e ∈ l, (0 ≤ e.1 ∧ e.1 < (s.m : Nat)) ∧ 0 ≤ e.2 ∧ e.2 < (s.m : Nat)) → OkA s out → OkA s (l.foldl (stepE s A) out)
  | [], _, _, h => h
  | e :: r, out, hl, h => by
    have h1 := hl e List.mem_cons_self
    exact fold_ok hA r (out := stepE s A out e) (fun e he => hl e (List.mem_cons_of_mem _ he)) (stepE_ok hA h h1.1 h1.2)
theorem stepS_ok {s : Sy3} (ho : OkS s) {A : List Wd} (hA : OkA s A) : OkA s (stepS s A) := fold_ok hA s.E ho.En (starts_ok ho)
abbrev bS (s : Sy3) (z : SA) : List (Nat × Bx) := [(0, .cells 32 (vL (sysV s z)))]
theorem val1_spec {s : Sy3} {z : SA} (hw : s.w ≤ 1024) {l : Wd} (hl : okW s.w l) {a : Option Addr} {n c : Nat} {H : Hp} {K : SV → St → Hp → Prop} (ha : RL H a n c l) (hK : K (.v (.bool false)) ⟨[], bS s z, 1⟩ H) :
    DoesG Tryz.prog 245 [.v (.slice a n c), .ptr 0 0] (bS s z) 1 H K := by
  refine spec_ofG cx_ok cx_mix Tryz.func245 Tryz.call245 Tryz.ntmps245 Tryz.results245 rfl rfl ?_
  refine latIs_spec hw hl ha ?_
  exact ⟨.v (.bool false), bS s z, 1, [(0, 0)], by (repeat' (first|exact trivial|refine ⟨?_,?_⟩|exact rfl|assumption)), hK⟩
theorem indexW_spec {s : Sy3} {z : SA} (hw : s.w ≤ 1024) {l : List Wd} (hl : ∀ x ∈ l, okW s.w x) {a : Option Addr} {n c : Nat} {H : Hp} {K : SV → St → Hp → Prop} (ha : RL H a n c l) (hK : K (.v (.int .i64 (-1))) ⟨[], bS s z, 1⟩ H) :
    DoesG Tryz.prog 274 [.v (.slice a n c), .fn 245 [.ptr 0 0]] (bS s z) 1 H K := by
  have hn1 := ha.n_eq
  have hmx := ha.le
  refine spec_ofG cx_ok cx_mix Tryz.func274 Tryz.call274 Tryz.ntmps274 Tryz.results274 rfl rfl ?_
  refine ⟨Nat, fun j => ⟨[(0, .v (.slice a n c)), (1, .fn 245 [.ptr 0 0]), (7, .v (.int .i64 n)), (8, .v (.int .i64 j))], bS s z, 1⟩,
    fun j H' => H' = H ∧ j ≤ l.length, fun j => l.length - j, ⟨0, [(0, 0)], ?_, rfl, by omega⟩, ?_⟩
  · (repeat' (first|exact trivial|refine ⟨?_,?_⟩|exact rfl|assumption))
  rintro j H1 _ ⟨rfl, hi⟩
  refine ⟨fun h => ?_, fun h => ?_⟩
  · have hlt : j < l.length := by have := dt h; omega
    refine list_k ha (List.getElem?_eq_getElem hlt) fun ad a5 n5 c5 q1 hh hr => ?_
    refine ⟨ad, ⟨by omega, by omega, q1⟩, ?_⟩
    refine ⟨_, hh, ?_⟩
    refine ⟨[0], rfl, val1_spec (s := s) (z := z) hw (hl _ (List.getElem_mem hlt)) hr ?_⟩
    refine ⟨(fun h => by cases h), fun _ => ?_⟩
    refine ⟨⟨by omega, by omega⟩, j + 1, [(0, 0)], ?_, ⟨rfl, by omega⟩, by dsimp only; omega⟩
    (repeat' (first|exact trivial|refine ⟨?_,?_⟩|exact rfl|assumption))
  · exact ⟨.v (.int .i64 (-1)), bS s z, 1, [(0, 0)], by (repeat' (first|exact trivial|refine ⟨?_,?_⟩|exact rfl|assumption)), hK⟩
theorem contW_spec {s : Sy3} {z : SA} (hw : s.w ≤ 1024) {l : List Wd} (hl : ∀ x ∈ l, okW s.w x) {a : Option Addr} {n c : Nat} {H : Hp} {K : SV → St → Hp → Prop} (ha : RL H a n c l) (hK : K (.v (.bool false)) ⟨[], bS s z, 1⟩ H) :
    DoesG Tryz.prog 244 [.v (.slice a n c), .fn 245 [.ptr 0 0]] (bS s z) 1 H K := by
  refine spec_ofG cx_ok cx_mix Tryz.func244 Tryz.call244 Tryz.ntmps244 Tryz.results244 rfl rfl ?_
  refine ⟨[0], rfl, indexW_spec (s := s) (z := z) hw hl ha ?_⟩
  exact ⟨.v (.bool false), bS s z, 1, [(0, 0)], by (repeat' (first|exact trivial|refine ⟨?_,?_⟩|exact rfl|assumption)), hK⟩
theorem svalues_spec {s : Sy3} {z : SA} (hw : s.w ≤ 1024) {A : List Wd} (hA : OkA s A) {a : Option Addr} {n c : Nat} {H : Hp} {K : Value → Hp → Prop} (ha : RL H a n c A) (hK : K (.bool true) H) : Does Tryz.prog 204 [sysA s z, .slice a n c] H K := by
  have hn1 := ha.n_eq
  have hl := hA.len
  refine spec_of cx_ok cx_mix rfl Tryz.func204 Tryz.call204 Tryz.ntmps204 Tryz.results204 rfl rfl ?_
  refine ⟨fun _ => ?_, (fun h => absurd (by rw [hn1, hl]) (df h))⟩
  refine ⟨[0], rfl, contW_spec (s := s) (z := z) hw hA.ok ha ?_⟩
  exact hK
theorem sstep_spec {s : Sy3} {z : SA} (ho : OkS s) {A : List Wd} (hA : OkA s A) {a : Option Addr} {n c : Nat} {H : Hp} {K : Value → Hp → Prop} (hs : SysR H s z) (ha : RL H a n c A) (hK : ∀ a1 n1 c1 H', Le H H' → RL H' a1 n1 c1 (stepS s A) → K (.tuple #[.slice a1 n1 c1, .int .i64 0]) H') :
    Does Tryz.prog 165 [sysA s z, .slice a n c] H K := by
  have hm := ho.m
  have hw := ho.w
  have hne := hs.e.n_eq
  have hnx := hs.e.le
  have hna := ha.n_eq
  have hal := hA.len
  have htn := hs.t.n_eq
  rw [List.length_map, ho.Tl] at htn
  refine spec_of cx_ok cx_mix rfl Tryz.func165 Tryz.call165 Tryz.ntmps165 Tryz.results165 rfl rfl ?_
  refine scheck_spec (s := s) (z := z) ho hs fun _ _ => ?_
  refine ⟨(fun h => absurd rfl (nt h)), fun _ => ?_⟩
  refine svalues_spec (s := s) (z := z) hw hA ha ?_
  refine ⟨(fun h => by cases h), fun _ => ?_⟩
  refine ⟨⟨rfl, by omega, by show (s.m : Int) * 24 ≤ _; omega, by omega⟩, ?_⟩
  refine ⟨Nat × List (List Value), fun q => ⟨[(1, .v (.slice a n c)), (2, .ptr 0 0), (7, .own 1), (26, .v (.int .i64 (s.m : Nat))), (27, .v (.int .i64 q.1))], [(0, .cells 32 (vL (sysV s z))), (1, .row 29 1 q.2)], 2⟩,
    fun q H' => Le H H' ∧ q.1 ≤ s.m ∧ RC (α := Wd) H' q.2 (fillV (vStart s) s.m q.1), fun q => s.m - q.1, ⟨(0, List.replicate s.m [.slice none 0 0]), [(0, 0), (1, 1)], ?_, Le.refl H, Nat.zero_le _, by simpa [fillV] using nilRow_rc⟩, ?_⟩
  · have e : SV.v (.int .i64 ((List.replicate (s.m : Int).toNat [Value.slice none 0 0]).length : Nat)) = SV.v (.int .i64 (s.m : Nat)) := by simp
    (repeat' (first|exact trivial|refine ⟨?_,?_⟩|exact rfl|assumption))
  rintro ⟨i, css⟩ H1 _ ⟨hle1, hi, hrc⟩
  dsimp only at hi hrc
  have hcl : css.length = s.m := by have h1 := hrc.1; rw [fillV_len _ hi] at h1; exact h1
  refine ⟨fun h => ?_, fun h => ?_⟩
  · have hlt : i < s.m := by have := dt h; dsimp only at this; omega
    refine sstart_spec (s := s) (z := z) ho (hs.up hle1) fun a1 n1 c1 H2 hle2 hr1 => ?_
    have hrc2 := RC.up hrc hle2
    refine wdrow_k hrc2 (fillV_get _ hlt) fun a0 n0 c0 hg _ => ?_
    have hg2 : css[(i : Int).toNat]? = _ := hg
    refine ⟨⟨by dsimp only; omega, by dsimp only; omega⟩, ?_⟩
    refine ⟨_, hg2, ?_⟩
    have hrc3 : RC (α := Wd) H2 (css.set i [.slice a1 n1 c1]) (fillV (vStart s) s.m (i + 1)) := by
      rw [← fillV_set _ hlt]; exact wd_set hrc2 hr1
    refine ⟨⟨by dsimp only; omega, by dsimp only; omega⟩, (i + 1, css.set i [.slice a1 n1 c1]), [(0, 0), (1, 1)], ?_, ⟨hle1.trans hle2, hlt, hrc3⟩, by dsimp only; omega⟩
    (repeat' (first|exact trivial|refine ⟨?_,?_⟩|exact rfl|assumption))
  have hil : i = s.m := by have := df h; dsimp only at this; omega
  rw [hil, fillV_full] at hrc
  refine ⟨Nat × List (List Value), fun q => ⟨[(1, .v (.slice a n c)), (2, .ptr 0 0), (7, .own 1), (38, .v (.slice z.ea z.en z.ec)), (39, .v (.int .i64 z.en)), (40, .v (.int .i64 q.1))], [(0, .cells 32 (vL (sysV s z))), (1, .row 29 1 q.2)], 2⟩,
    fun q H' => Le H1 H' ∧ q.1 ≤ s.E.length ∧ RC (α := Wd) H' q.2 ((s.E.take q.1).foldl (stepE s A) (starts s)), fun q => s.E.length - q.1, ⟨(0, css), [(0, 0), (1, 1)], ?_, Le.refl H1, Nat.zero_le _, hrc⟩, ?_⟩
  · (repeat' (first|exact trivial|refine ⟨?_,?_⟩|exact rfl|assumption))
  rintro ⟨j, css⟩ H2 _ ⟨hle2, hj, hrc⟩
  dsimp only at hj hrc
  have hok : OkA s ((s.E.take j).foldl (stepE s A) (starts s)) := fold_ok hA _ (fun e he => ho.En e (List.mem_of_mem_take he)) (starts_ok ho)
  have hcl : css.length = s.m := by have h1 := hrc.1; rw [hok.len] at h1; exact h1
  have hle := hle1.trans hle2
  refine ⟨fun h => ?_, fun h => ?_⟩
  · have hlt : j < s.E.length := by have := dt h; dsimp only at this; omega
    refine name_k s.E[j] fun e hee => ?_
    have hee2 : s.E[j]? = some e := by rw [hee]; exact List.getElem?_eq_getElem hlt
    have hen := ho.En e (by rw [hee]; exact List.getElem_mem hlt)
    have hst : (s.E.take (j + 1)).foldl (stepE s A) (starts s) = stepE s A ((s.E.take j).foldl (stepE s A) (starts s)) e := by
      rw [List.take_add_one, hee2, Option.toList_some, List.foldl_append]; rfl
    have hs2 := hs.up hle
    have e1n : e.1.toNat < s.m := by omega
    have e2n : e.2.toNat < s.m := by omega
    have ei1 : ((e.1.toNat : Nat) : Int) = e.1 := Int.toNat_of_nonneg hen.1.1
    refine edge_k hs2.e hee2 fun ad q1 hh => ?_
    refine ⟨ad, ⟨by dsimp only; omega, by dsimp only; omega, q1⟩, ?_⟩
    refine ⟨_, hh, ?_⟩
    refine trans_k hs2.t (tAt_get ho e1n) fun ad2 a2 n2 c2 q2 hh2 hr2 => ?_
    rw [ei1] at hh2
    refine list_k (ha.up hle) (aAt_get hA e1n) fun ad3 a3 n3 c3 q3 hh3 hr3 => ?_
    rw [ei1] at hh3
    refine ⟨some ([], [0, 1, 2, 3, 4, 5, 6, 7, 8, 9, 10, 11, 12, 13, 14, 15, 16, 17, 18, 19, 20]), by kernel_rfl, ?_⟩
    refine ⟨ad2, ⟨by omega, by omega, q2⟩, ?_⟩
    refine ⟨_, hh2, ?_⟩
    refine ⟨ad3, ⟨by omega, by omega, q3⟩, ?_⟩
    refine ⟨_, hh3, ?_⟩
    refine tapply_spec hw (aAt_ok hA e1n) (tAt_ok ho _) hr3 hr2 fun a4 n4 c4 H4 hle4 hr4 => ?_
    have hrc4 := RC.up hrc hle4
    refine wdrow_k hrc4 (aAt_get hok e2n) fun a5 n5 c5 hg hr5 => ?_
    refine ⟨some ([1], [0, 1, 2, 3, 4, 5, 6, 7, 8, 9, 10, 11, 12, 13, 14, 15, 16, 17, 18]), by kernel_rfl, ?_⟩
    refine ⟨⟨hen.2.1, by show e.2 < (css.length : Int); omega⟩, ?_⟩
    refine ⟨_, hg, ?_⟩
    refine latjoin_spec hw (aAt_ok hok e2n) (appE_ok hA hen.1) hr5 hr4 fun a6 n6 c6 H6 hle6 hr6 => ?_
    have hrc6 : RC (α := Wd) H6 (css.set e.2.toNat [.slice a6 n6 c6]) ((s.E.take (j + 1)).foldl (stepE s A) (starts s)) := by
      rw [hst]; exact wd_set (RC.up hrc4 hle6) hr6
    refine ⟨⟨hen.2.1, by show e.2 < (css.length : Int); omega⟩, ?_⟩
    refine ⟨_, hg, ?_⟩
    refine ⟨⟨by dsimp only; omega, by dsimp only; omega⟩, (j + 1, css.set e.2.toNat [.slice a6 n6 c6]), [(0, 0), (1, 1)], ?_, ⟨(hle2.trans hle4).trans hle6, hlt, hrc6⟩, by dsimp only; omega⟩
    (repeat' (first|exact trivial|refine ⟨?_,?_⟩|exact rfl|assumption))
  · have hjl : j = s.E.length := by have := df h; dsimp only at this; omega
    rw [hjl, List.take_length] at hrc
    intro v H6 hle6 hv6
    obtain ⟨a7, n7, c7, rfl, hr7⟩ := RL.of_row (α := Wd) hv6 (RC.up hrc hle6.le)
    exact hK _ _ _ _ (hle.trans hle6.le) hr7
end Go.Proofs
end
section
namespace Go.Proofs
open Go.Sy
set_option maxRecDepth 20000
set_option maxHeartbeats 4000000
theorem list_eq_take {α : Type} [DecidableEq α] {a b : List α} (hl : a.length = b.length) (h : ∀ i < a.length, a[i]? = b[i]?) : a = b := by
  apply List.ext_getElem?
  intro i
  by_cases hi : i < a.length
  · exact h i hi
  · rw [List.getElem?_eq_none (by omega), List.getElem?_eq_none (by omega)]
theorem equal_spec {x y : Wd} {a a2 : Option Addr} {n c n2 k2 : Nat} {H : Hp} {K : Value → Hp → Prop} (ha : RL H a n c x) (hb : RL H a2 n2 k2 y) (hK : K (.bool (decide (x = y))) H) : Does Tryz.prog 208 [.slice a n c, .slice a2 n2 k2] H K := by
  have hn := ha.n_eq
  have hn2 := hb.n_eq
  have hmx := ha.le
  refine spec_of cx_ok cx_mix rfl Tryz.func208 Tryz.call208 Tryz.ntmps208 Tryz.results208 rfl rfl ?_
  refine ⟨fun h => ?_, fun h => ?_⟩
  · have h1 : ¬ n = n2 := by have := nt h; omega
    exact kbool hK (decide_eq_false (fun e => h1 (by rw [hn, hn2, e])))
  · have h1 : n = n2 := by have := nf h; omega
    refine ⟨Nat, fun i => ⟨[(0, .v (.slice a n c)), (1, .v (.slice a2 n2 k2)), (11, .v (.slice a n c)), (12, .v (.int .i64 n)), (13, .v (.int .i64 i))], [], 0⟩,
      fun i H' => H' = H ∧ i ≤ x.length ∧ ∀ j < i, x[j]? = y[j]?, fun i => x.length - i, ⟨0, [], ?_, rfl, Nat.zero_le _, fun j hj => (by cases hj)⟩, ?_⟩
    · (repeat' (first|exact trivial|refine ⟨?_,?_⟩|exact rfl|assumption))
    rintro i H1 _ ⟨rfl, hi, hx⟩
    refine ⟨fun h => ?_, fun h => ?_⟩
    · have hlt : i < x.length := by have := dt h; omega
      have hlt2 : i < y.length := by omega
      have ex := List.getElem?_eq_getElem hlt
      have ey := List.getElem?_eq_getElem hlt2
      refine word_k ha ex fun ad q1 hh _ => ?_
      refine word_k hb ey fun ad2 q2 hh2 _ => ?_
      refine ⟨some ([], [0, 1, 2, 3, 4, 5, 6, 7, 8]), by kernel_rfl, ?_⟩
      refine ⟨ad, ⟨by omega, by omega, q1⟩, ?_⟩
      refine ⟨_, hh, ?_⟩
      refine ⟨ad2, ⟨by omega, by omega, q2⟩, ?_⟩
      refine ⟨_, hh2, ?_⟩
      refine ⟨fun h => ?_, fun h => ?_⟩
      · have hne : ¬ x[i].toNat = y[i].toNat := by have := nt h; omega
        exact kbool hK (decide_eq_false (fun e => hne (by subst e; rfl)))
      · have heq : x[i] = y[i] := UInt64.toNat_inj.1 (by have := nf h; omega)
        refine ⟨⟨by omega, by omega⟩, i + 1, [], ?_, ⟨rfl, hlt, fun j hj => ?_⟩, by dsimp only; omega⟩
        · (repeat' (first|exact trivial|refine ⟨?_,?_⟩|exact rfl|assumption))
        · rcases Nat.lt_succ_iff_lt_or_eq.1 hj with h | h
          · exact hx j h
          · rw [h, ex, ey, heq]
    · have hil : i = x.length := by have := df h; omega
      exact kbool hK (decide_eq_true (list_eq_take (by omega) (fun j hj => hx j (by omega))))
theorem equalF_spec {A B : List Wd} {a a2 : Option Addr} {n c n2 k2 : Nat} {H : Hp} {K : SV → St → Hp → Prop} (ha : RL H a n c A) (hb : RL H a2 n2 k2 B) (hK : K (.v (.bool (decide (A = B)))) ⟨[], [], 0⟩ H) :
    DoesG Tryz.prog 207 [.v (.slice a n c), .v (.slice a2 n2 k2), .fn 208 []] [] 0 H K := by
  have hn := ha.n_eq
  have hn2 := hb.n_eq
  have hmx := ha.le
  have hF : ¬ A = B → K (.v (.bool false)) ⟨[], [], 0⟩ H := fun h => by rw [decide_eq_false h] at hK; exact hK
  refine spec_ofG cx_ok cx_mix Tryz.func207 Tryz.call207 Tryz.ntmps207 Tryz.results207 rfl rfl ?_
  refine ⟨fun h => ?_, fun h => ?_⟩
  · have h1 : ¬ n = n2 := by have := nt h; omega
    exact ⟨.v (.bool false), [], 0, [], by (repeat' (first|exact trivial|refine ⟨?_,?_⟩|exact rfl|assumption)), hF (fun e => h1 (by rw [hn, hn2, e]))⟩
  · have h1 : n = n2 := by have := nf h; omega
    refine ⟨Nat, fun i => ⟨[(1, .v (.slice a2 n2 k2)), (2, .fn 208 []), (15, .v (.slice a n c)), (16, .v (.int .i64 n)), (17, .v (.int .i64 i))], [], 0⟩,
      fun i H' => H' = H ∧ i ≤ A.length ∧ ∀ j < i, A[j]? = B[j]?, fun i => A.length - i, ⟨0, [], ?_, rfl, Nat.zero_le _, fun j hj => (by cases hj)⟩, ?_⟩
    · (repeat' (first|exact trivial|refine ⟨?_,?_⟩|exact rfl|assumption))
    rintro i H1 _ ⟨rfl, hi, hx⟩
    refine ⟨fun h => ?_, fun h => ?_⟩
    · have hlt : i < A.length := by have := dt h; omega
      have hlt2 : i < B.length := by omega
      have ex := List.getElem?_eq_getElem hlt
      have ey := List.getElem?_eq_getElem hlt2
      refine list_k ha ex fun ad a5 n5 c5 q1 hh hr1 => ?_
      refine list_k hb ey fun ad2 a6 n6 c6 q2 hh2 hr2 => ?_
      refine ⟨ad, ⟨by omega, by omega, q1⟩, ?_⟩
      refine ⟨_, hh, ?_⟩
      refine ⟨ad2, ⟨by omega, by omega, q2⟩, ?_⟩
      refine ⟨_, hh2, ?_⟩
      refine equal_spec hr1 hr2 ?_
      refine ⟨fun h => ?_, fun h => ?_⟩
      · have hne : ¬ A[i] = B[i] := nt h
        exact ⟨.v (.bool false), [], 0, [], by (repeat' (first|exact trivial|refine ⟨?_,?_⟩|exact rfl|assumption)), hF (fun e => hne (by subst e; rfl))⟩
      · have heq : A[i] = B[i] := nf h
        refine ⟨⟨by omega, by omega⟩, i + 1, [], ?_, ⟨rfl, hlt, fun j hj => ?_⟩, by dsimp only; omega⟩
        · (repeat' (first|exact trivial|refine ⟨?_,?_⟩|exact rfl|assumption))
        · rcases Nat.lt_succ_iff_lt_or_eq.1 hj with h | h
          · exact hx j h
          · rw [h, ex, ey, heq]
    · have hil : i = A.length := by have := df h; omega
      rw [decide_eq_true (list_eq_take (by omega) (fun j hj => hx j (by omega)))] at hK
      exact ⟨.v (.bool true), [], 0, [], by (repeat' (first|exact trivial|refine ⟨?_,?_⟩|exact rfl|assumption)), hK⟩
theorem lsame_spec {A B : List Wd} {a a2 : Option Addr} {n c n2 k2 : Nat} {H : Hp} {K : Value → Hp → Prop} (ha : RL H a n c A) (hb : RL H a2 n2 k2 B) (hK : K (.bool (decide (A = B))) H) : Does Tryz.prog 166 [.slice a n c, .slice a2 n2 k2] H K := by
  refine spec_of cx_ok cx_mix rfl Tryz.func166 Tryz.call166 Tryz.ntmps166 Tryz.results166 rfl rfl ?_
  refine ⟨[], rfl, equalF_spec ha hb ?_⟩
  exact hK
def enoughS (s : Sy3) : Nat := s.m * (2 * s.w) + 1
theorem enoughS_le {s : Sy3} (ho : OkS s) : enoughS s ≤ 1000000 := by
  have h1 := ho.m
  have h2 := ho.w
  have : s.m * (2 * s.w) ≤ 256 * (2 * 1024) := Nat.mul_le_mul h1.2 (by omega)
  unfold enoughS; omega
theorem enough_spec {s : Sy3} {z : SA} (ho : OkS s) {H : Hp} {K : Value → Hp → Prop} (hK : K (.int .i64 (enoughS s : Nat)) H) : Does Tryz.prog 115 [sysA s z] H K := by
  have hE := enoughS_le ho
  have ee : ((s.m : Int)) * ((2 * s.w : Nat) : Int) = ((s.m * (2 * s.w) : Nat) : Int) := by push_cast; rfl
  refine spec_of cx_ok cx_mix rfl Tryz.func115 Tryz.call115 Tryz.ntmps115 Tryz.results115 rfl rfl ?_
  refine ⟨some ([], [0, 1, 2, 3, 4, 5, 6, 7, 8, 9]), by kernel_rfl, ?_⟩
  refine latheight_spec ho.w ?_
  unfold enoughS at hE
  refine ⟨⟨by rw [ee]; omega, by rw [ee]; omega⟩, ?_⟩
  refine ⟨⟨by rw [ee]; omega, by rw [ee]; omega⟩, ?_⟩
  exact kint hK (by rw [ee, enoughS]; push_cast; rfl)
def iterN (s : Sy3) : Nat → List Wd → List Wd
  | 0, A => A
  | k + 1, A => if A = stepS s A then A else iterN s k (stepS s A)
def bots (s : Sy3) : List Wd := List.replicate s.m (vBot s.w)
theorem bots_ok (s : Sy3) : OkA s (bots s) := ⟨List.length_replicate, fun x hx => by rw [(List.mem_replicate.1 hx).2]; exact vBot_ok _⟩
def solveS (s : Sy3) : List Wd := iterN s (enoughS s) (bots s)
theorem iterN_ok {s : Sy3} (ho : OkS s) : ∀ (k : Nat) {A : List Wd}, OkA s A → OkA s (iterN s k A)
  | 0, _, h => h
  | k + 1, A, h => by
    rw [iterN]
    split
    · exact h
    · exact iterN_ok ho k (stepS_ok ho h)
theorem solveS_ok {s : Sy3} (ho : OkS s) : OkA s (solveS s) := iterN_ok ho _ (bots_ok s)
abbrev bI (s : Sy3) (z : SA) (a : Option Addr) (n c : Nat) : List (Nat × Bx) := [(0, .cells 32 (vL (sysV s z))), (1, .cells 44 [.v (.slice a n c)])]
theorem istep_spec {s : Sy3} {z : SA} (ho : OkS s) {A : List Wd} (hA : OkA s A) {a : Option Addr} {n c : Nat} {H : Hp} {K : SV → St → Hp → Prop} (hs : SysR H s z) (ha : RL H a n c A) (hK : ∀ a1 n1 c1 H', Le H H' → RL H' a1 n1 c1 (stepS s A) → K (.v (.slice a1 n1 c1)) ⟨[], bI s z a n c, 2⟩ H') :
    DoesG Tryz.prog 164 [.ptr 0 0, .ptr 1 0] (bI s z a n c) 2 H K := by
  refine spec_ofG cx_ok cx_mix Tryz.func164 Tryz.call164 Tryz.ntmps164 Tryz.results164 rfl rfl ?_
  refine sstep_spec (s := s) (z := z) ho hA hs ha fun a1 n1 c1 H1 hle1 hr1 => ?_
  exact ⟨.v (.slice a1 n1 c1), bI s z a n c, 2, [(0, 0), (1, 1)], by (repeat' (first|exact trivial|refine ⟨?_,?_⟩|exact rfl|assumption)), hK _ _ _ _ hle1 hr1⟩
theorem iterate_spec {s : Sy3} {z : SA} (ho : OkS s) {most : Nat} (hmo : most ≤ 1000000) {H : Hp} {K : Value → Hp → Prop} (hs : SysR H s z) (hK : ∀ a1 n1 c1 k H', Le H H' → RL H' a1 n1 c1 (iterN s most (bots s)) → K (.tuple #[.slice a1 n1 c1, .int .i64 k, .int .i64 0]) H') :
    Does Tryz.prog 114 [sysA s z, .int .i64 (most : Nat)] H K := by
  refine spec_of cx_ok cx_mix rfl Tryz.func114 Tryz.call114 Tryz.ntmps114 Tryz.results114 rfl rfl ?_
  refine .inr ⟨Nat × List Wd × (Option Addr × Nat × Nat), fun _ => 0, fun q => ⟨[(1, .v (.int .i64 (most : Nat))), (2, .ptr 0 0), (7, .ptr 1 0), (9, .v (.int .i64 q.1)), (10, .fn 164 [.ptr 0 0, .ptr 1 0])], bI s z q.2.2.1 q.2.2.2.1 q.2.2.2.2, 2⟩,
    fun q H' => Le H H' ∧ RL H' q.2.2.1 q.2.2.2.1 q.2.2.2.2 q.2.1 ∧ OkA s q.2.1 ∧ q.1 ≤ most ∧ iterN s most (bots s) = iterN s (most - q.1) q.2.1, fun q => most - q.1, ?_, ?_⟩
  · refine sbottom_spec (s := s) (z := z) ho hs fun v css H3 H1 hle3 hrc hle1 hv => ?_
    obtain ⟨a, n, c, rfl, hr⟩ := RL.of_row (α := Wd) hv (RC.up hrc hle1.le)
    have hle : Le H H1 := hle3.trans hle1.le
    have hr : RL H1 a n c (bots s) := hr
    have hA := bots_ok s
    have hI : iterN s most (bots s) = iterN s (most - 0) (bots s) := rfl
    refine ⟨fun h => absurd rfl (nt h), fun _ => ?_⟩
    refine ⟨[0, 1], rfl, istep_spec (s := s) (z := z) ho hA (hs.up hle) hr fun a2 n2 c2 H2 hle2 hr2 => ?_⟩
    have hA2 := stepS_ok ho hA
    refine ⟨fun h => ?_, fun h => ?_⟩
    · have hlt : 0 < most := by have := dt h;  omega
      have hst : iterN s (most - 0) (bots s) = if (bots s) = stepS s (bots s) then (bots s) else iterN s (most - (0 + 1)) (stepS s (bots s)) := by
        rw [show most - 0 = (most - (0 + 1)) + 1 by omega, iterN]
      refine lsame_spec (hr.up hle2) hr2 ?_
      refine ⟨fun h => ?_, fun h => ?_⟩
      · have hne := nt h
        rw [hst, if_neg hne] at hI
        refine ⟨⟨by  omega, by  omega⟩, ?_⟩
        refine ⟨(0 + 1, stepS s (bots s), (a2, n2, c2)), [(0, 0), (1, 1)], rfl, ?_, ⟨hle.trans hle2, hr2, hA2, hlt, hI⟩⟩
        (repeat' (first|exact trivial|refine ⟨?_,?_⟩|exact rfl|assumption))
      · have heq := nf h
        rw [hst, if_pos heq] at hI
        rw [hI] at hK
        exact hK _ _ _ _ _ (hle.trans hle2) (hr.up hle2)
    · have hge : ¬ 0 < most := by have := df h;  omega
      rw [show most - 0 = 0 by omega, iterN] at hI
      rw [hI] at hK
      exact hK _ _ _ _ _ (hle.trans hle2) (hr.up hle2)
  · rintro ⟨k, A, a, n, c⟩ H1 _ ⟨hle, hr, hA, hk, hI⟩
    dsimp only at hr hA hk hI
    refine ⟨[0, 1], rfl, istep_spec (s := s) (z := z) ho hA (hs.up hle) hr fun a2 n2 c2 H2 hle2 hr2 => ?_⟩
    have hA2 := stepS_ok ho hA
    refine ⟨fun h => ?_, fun h => ?_⟩
    · have hlt : k < most := by have := dt h; dsimp only at this; omega
      have hst : iterN s (most - k) A = if A = stepS s A then A else iterN s (most - (k + 1)) (stepS s A) := by
        rw [show most - k = (most - (k + 1)) + 1 by omega, iterN]
      refine lsame_spec (hr.up hle2) hr2 ?_
      refine ⟨fun h => ?_, fun h => ?_⟩
      · have hne := nt h
        rw [hst, if_neg hne] at hI
        refine ⟨⟨by dsimp only; omega, by dsimp only; omega⟩, ?_⟩
        refine ⟨(k + 1, stepS s A, (a2, n2, c2)), [(0, 0), (1, 1)], rfl, ?_, ⟨hle.trans hle2, hr2, hA2, hlt, hI⟩, by dsimp only; omega⟩
        (repeat' (first|exact trivial|refine ⟨?_,?_⟩|exact rfl|assumption))
      · have heq := nf h
        rw [hst, if_pos heq] at hI
        rw [hI] at hK
        exact hK _ _ _ _ _ (hle.trans hle2) (hr.up hle2)
    · have hge : ¬ k < most := by have := df h; dsimp only at this; omega
      rw [show most - k = 0 by omega, iterN] at hI
      rw [hI] at hK
      exact hK _ _ _ _ _ (hle.trans hle2) (hr.up hle2)
theorem lsolve_spec {s : Sy3} {z : SA} (ho : OkS s) {H : Hp} {K : Value → Hp → Prop} (hs : SysR H s z) (hK : ∀ a1 n1 c1 k H', Le H H' → RL H' a1 n1 c1 (solveS s) → K (.tuple #[.slice a1 n1 c1, .int .i64 k, .int .i64 0]) H') : Does Tryz.prog 62 [sysA s z] H K := by
  refine spec_of cx_ok cx_mix rfl Tryz.func62 Tryz.call62 Tryz.ntmps62 Tryz.results62 rfl rfl ?_
  refine ⟨some ([], [0, 1, 2, 3, 4, 5, 6, 7, 8, 9]), by kernel_rfl, ?_⟩
  refine enough_spec (s := s) (z := z) ho ?_
  refine iterate_spec (s := s) (z := z) ho (enoughS_le ho) hs fun a1 n1 c1 k H1 hle1 hr1 => ?_
  exact hK _ _ _ _ _ hle1 hr1
def outsS (s : Sy3) (A : List Wd) : List Wd := (List.range s.m).map fun v => vApp (tAt s v) (aAt A v)
def mixV (f : Nat → Wd) (b : Wd) (m i : Nat) : List Wd := (List.range m).map fun v => if v < i then f v else b
theorem mixV_get (f : Nat → Wd) (b : Wd) {m i : Nat} (h : i < m) : (mixV f b m i)[i]? = some b := by
  rw [mixV, List.getElem?_map, List.getElem?_range h]; simp
theorem mixV_set (f : Nat → Wd) (b : Wd) {m i : Nat} (_ : i < m) : (mixV f b m i).set i (f i) = mixV f b m (i + 1) := by
  apply List.ext_getElem?
  intro j
  rw [List.getElem?_set]
  have hl : (mixV f b m i).length = m := by simp [mixV]
  split
  · rename_i e
    subst e
    rw [if_pos (by omega), mixV, List.getElem?_map, List.getElem?_range (by omega)]
    simp
  · rename_i e
    rw [mixV, mixV, List.getElem?_map, List.getElem?_map]
    by_cases hj : j < m
    · rw [List.getElem?_range hj]
      simp only [Option.map_some, Option.some.injEq]
      by_cases h1 : j < i
      · rw [if_pos h1, if_pos (by omega)]
      · rw [if_neg h1, if_neg (by omega)]
    · rw [List.getElem?_eq_none (by simpa using hj)]; rfl
theorem mixV_zero (f : Nat → Wd) (b : Wd) (m : Nat) : mixV f b m 0 = List.replicate m b := by
  rw [mixV, ← map_const]; simp
theorem mixV_full (f : Nat → Wd) (b : Wd) (m : Nat) : mixV f b m m = (List.range m).map f := by
  apply List.map_congr_left
  intro v hv
  rw [if_pos (List.mem_range.1 hv)]
theorem rc_one {H : Hp} {css : List (List Value)} {A : List Wd} (h : RC (α := Wd) H css A) : ∀ y ∈ css, y.length = 1 ∧ ∀ u ∈ y, u.oneCell' = true := by
  intro y hy
  obtain ⟨i, hi⟩ := List.getElem?_of_mem hy
  have hlt := (List.getElem?_eq_some_iff.1 hi).1
  have hcl : css.length = A.length := h.1
  have := h.2 i y (A[i]'(by omega)) hi (List.getElem?_eq_getElem _)
  exact ⟨Enc.len this, Enc.one this⟩
theorem botG_spec {s : Sy3} {z : SA} (ho : OkS s) {H : Hp} {K : SV → St → Hp → Prop} (hs : SysR H s z) (hK : ∀ css H', Le H H' → RC (α := Wd) H' css (bots s) → K (.tup [.own 0, .v (.int .i64 0)]) ⟨[], [(0, .row 29 1 css)], 1⟩ H') :
    DoesG Tryz.prog 116 [.agg (vL (sysV s z))] [] 0 H K := by
  refine doesG_thawR (args := [sysA s z]) (fun _ => rfl) (sbottom_spec (s := s) (z := z) ho hs (K := fun v H' => ∃ x css H3, v = .tuple #[x, .int .i64 0] ∧ Le H H3 ∧ RC (α := Wd) H3 css (bots s) ∧ LeN 29 1 css H3 x H') (fun v css H3 H' h1 h2 h3 _ => ⟨v, css, H3, rfl, h1, h2, h3⟩)) ?_
  rintro v H2 hle ⟨x, css, H3, rfl, h1, h2, h3⟩
  refine .inr ⟨29, 1, css, x, .tup [.own 0, .v (.int .i64 0)], fun ρ hρ => ?_, rfl, (LeN.base h1 h3).new, rc_one h2, fun H' hle2 hkeep => hK css H' hle2 (RC.up h2 fun b o hb => hkeep b o (h3.le b o hb) fun e => ?_)⟩
  · show Value.tuple #[ρ.val 0, .int .i64 0] = _
    rw [hρ]
  · rcases h3.new with ⟨h4, _⟩ | ⟨g, cap, cc, h4, h5, _⟩
    · rw [h4] at e; cases e
    · rw [h4] at e
      simp only [Value.ownBlock, Option.some.injEq] at e
      subst e
      rw [h5] at hb
      cases hb
noncomputable def cxO : Cx := { P := Tryz.prog, tt := tt, n := 0, wrap := false, base := 0, gf := 116 :: cx.gf, eqs := cx.eqs, xf := [] }
theorem cxO_ok : TOK cxO := ⟨cx_ok.tt, cx_ok.eqs⟩
theorem louts_spec {s : Sy3} {z : SA} (ho : OkS s) {A : List Wd} (hA : OkA s A) {a : Option Addr} {n c : Nat} {H : Hp} {K : Value → Hp → Prop} (hs : SysR H s z) (ha : RL H a n c A) (hK : ∀ a1 n1 c1 H', Le H H' → RL H' a1 n1 c1 (outsS s A) → K (.tuple #[.slice a1 n1 c1, .int .i64 0]) H') : Does Tryz.prog 63 [sysA s z, .slice a n c] H K := by
  have hm := ho.m
  have hw := ho.w
  have hna := ha.n_eq
  have hal := hA.len
  refine spec_of cxO_ok cx_mix rfl Tryz.func63 Tryz.call63 Tryz.ntmps63 Tryz.results63 rfl rfl ?_
  refine ⟨[], rfl, botG_spec (s := s) (z := z) ho hs fun css0 H1 hle1 hrc0 => ?_⟩
  have hcl0 : css0.length = s.m := by have h1 := hrc0.1; rw [(bots_ok s).len] at h1; exact h1
  refine ⟨fun h => absurd rfl (nt h), fun _ => ?_⟩
  refine ⟨fun h => absurd (by rw [hna, hal, hcl0]) (nt h), fun _ => ?_⟩
  refine ⟨Nat × List (List Value), fun q => ⟨[(1, .v (.slice a n c)), (2, .ptr 0 0), (6, .own 1), (23, .v (.int .i64 (s.m : Nat))), (24, .v (.int .i64 q.1))], [(0, .cells 32 (vL (sysV s z))), (1, .row 29 1 q.2)], 2⟩,
    fun q H' => Le H H' ∧ q.1 ≤ s.m ∧ RC (α := Wd) H' q.2 (mixV (fun v => vApp (tAt s v) (aAt A v)) (vBot s.w) s.m q.1), fun q => s.m - q.1, ⟨(0, css0), [(0, 0), (1, 1)], ?_, hle1, Nat.zero_le _, by rw [mixV_zero]; exact hrc0⟩, ?_⟩
  · have e : SV.v (.int .i64 (css0.length : Nat)) = SV.v (.int .i64 (s.m : Nat)) := by rw [hcl0]
    (repeat' (first|exact trivial|refine ⟨?_,?_⟩|exact rfl|assumption))
  rintro ⟨i, css⟩ H2 _ ⟨hle2, hi, hrc⟩
  dsimp only at hi hrc
  have hcl : css.length = s.m := by have h1 := hrc.1; simpa [mixV] using h1
  refine ⟨fun h => ?_, fun h => ?_⟩
  · have hlt : i < s.m := by have := dt h; dsimp only at this; omega
    refine list_k (ha.up hle2) (aAt_get hA hlt) fun ad a5 n5 c5 q1 hh hr1 => ?_
    refine ⟨some ([1], [0, 1, 2, 3, 4, 5, 6, 7, 8, 9, 10, 11, 12, 13, 14]), by kernel_rfl, ?_⟩
    refine ⟨ad, ⟨by dsimp only; omega, by dsimp only; omega, q1⟩, ?_⟩
    refine ⟨_, hh, ?_⟩
    refine sout_spec (s := s) (z := z) ho hlt (aAt_ok hA hlt) (hs.up hle2) hr1 fun a6 n6 c6 H3 hle3 hr6 => ?_
    have hrc2 := RC.up hrc hle3
    refine wdrow_k hrc2 (mixV_get _ _ hlt) fun a0 n0 c0 hg _ => ?_
    have hg2 : css[(i : Int).toNat]? = _ := hg
    refine ⟨⟨by dsimp only; omega, by dsimp only; omega⟩, ?_⟩
    refine ⟨_, hg2, ?_⟩
    have hrc3 : RC (α := Wd) H3 (css.set i [.slice a6 n6 c6]) (mixV (fun v => vApp (tAt s v) (aAt A v)) (vBot s.w) s.m (i + 1)) := by
      rw [← mixV_set _ _ hlt]; exact wd_set hrc2 hr6
    refine ⟨fun h => absurd rfl (nt h), fun _ => ?_⟩
    refine ⟨⟨by dsimp only; omega, by dsimp only; omega⟩, (i + 1, css.set i [.slice a6 n6 c6]), [(0, 0), (1, 1)], ?_, ⟨hle2.trans hle3, hlt, hrc3⟩, by dsimp only; omega⟩
    (repeat' (first|exact trivial|refine ⟨?_,?_⟩|exact rfl|assumption))
  · have hil : i = s.m := by have := df h; dsimp only at this; omega
    rw [hil, mixV_full] at hrc
    intro v H6 hle6 hv6
    obtain ⟨a7, n7, c7, rfl, hr7⟩ := RL.of_row (α := Wd) hv6 (RC.up hrc hle6.le)
    exact hK _ _ _ _ (hle2.trans hle6.le) hr7
end Go.Proofs
end
section
namespace Go.Proofs
open Go.Sy
set_option maxRecDepth 20000
set_option maxHeartbeats 4000000
end Go.Proofs
end
section
namespace Go.Proofs
open Go.Sy
set_option maxRecDepth 20000
set_option maxHeartbeats 4000000
def vIdx (p : Prog) (t : Bs8) : Int := idxS t (varsOf p) 0
end Go.Proofs
end
section
namespace Go.Proofs
open Go.Sy
set_option maxRecDepth 20000
set_option maxHeartbeats 4000000
abbrev zSys : List Value := [.int .i64 0, .int .i64 0, .int .i64 0, .slice none 0 0, .slice none 0 0, .slice none 0 0, .slice none 0 0]
abbrev iRow0 : List (List Value) := [[.int .i64 0]]
theorem ints_k {P : Prop} {H : Hp} {v : Value} (h : RowAt H v 1 iRow0) (k : ∀ a n c, v = .slice a n c → RL H a n c [(0 : Int)] → P) : P := by
  obtain ⟨a, n, c, e, hr⟩ := rI_all (l := [0]) h (fun z hz => by rw [List.mem_singleton] at hz; rw [hz]; exact ⟨by omega, by omega⟩)
  exact k a n c e hr
end Go.Proofs
end
section
namespace Go.Proofs
open Go.Sy
set_option maxRecDepth 20000
set_option maxHeartbeats 4000000
theorem insAt_has {i : Nat} {s : Bs8} {l : List Bs8} (_h : i ≤ l.length) : s ∈ insAt i s l ∧ ∀ t ∈ l, t ∈ insAt i s l := by
  rw [insAt]
  refine ⟨by simp, fun t ht => ?_⟩
  rw [← List.take_append_drop i l] at ht
  rcases List.mem_append.1 ht with ht | ht
  · simp [ht]
  · simp [ht]
theorem putS_has {l : List Bs8} (hl : SortedS l) (s : Bs8) : (s ≠ [] → s ∈ putS s l) ∧ ∀ t ∈ l, t ∈ putS s l := by
  by_cases h0 : s = []
  · rw [h0, putS_nil]; exact ⟨fun h => absurd rfl h, fun t h => h⟩
  · obtain ⟨i, hi, h1, h2⟩ := lower hl s
    have e := putS_at h0 hi h1 (fun x hx => h2 x (by
      have hlt := (List.getElem?_eq_some_iff.1 hx).1
      rw [List.drop_eq_getElem_cons hlt, (List.getElem?_eq_some_iff.1 hx).2]
      exact List.mem_cons_self))
    rw [e]
    split
    · rename_i hx
      exact ⟨fun _ => List.mem_of_getElem? hx, fun t h => h⟩
    · have := insAt_has (s := s) hi
      exact ⟨fun _ => this.1, this.2⟩
theorem putAll_has : ∀ (vs : List Bs8) {o : List Bs8}, SortedS o → (∀ s ∈ vs, s ≠ [] → s ∈ putAll vs o) ∧ ∀ t ∈ o, t ∈ putAll vs o
  | [], _, _ => ⟨fun s h => (by cases h), fun t h => h⟩
  | v :: r, o, ho => by
    have h1 := putS_has ho v
    have h2 := putAll_has r (putS_sorted ho v)
    refine ⟨fun s hs h0 => ?_, fun t ht => h2.2 t (h1.2 t ht)⟩
    rcases List.mem_cons.1 hs with rfl | hs
    · exact h2.2 _ (h1.1 h0)
    · exact h2.1 s hs h0
theorem bVars_has : ∀ (l : List Stmt) {o : List Bs8}, SortedS o → (∀ x ∈ l, ∀ s ∈ sVars x, s ≠ [] → s ∈ bVars o l) ∧ ∀ t ∈ o, t ∈ bVars o l
  | [], _, _ => ⟨fun s h => (by cases h), fun t h => h⟩
  | x :: r, o, ho => by
    have h1 := putAll_has (sVars x) ho
    have h2 := bVars_has r (putAll_sorted (sVars x) ho)
    refine ⟨fun y hy s hs h0 => ?_, fun t ht => h2.2 t (h1.2 t ht)⟩
    rcases List.mem_cons.1 hy with rfl | hy
    · exact h2.2 _ (h1.1 s hs h0)
    · exact h2.1 y hy s hs h0
theorem blkVars_sorted {o : List Bs8} (ho : SortedS o) (b : Block) : SortedS (blkVars o b) := putAll_sorted _ (bVars_sorted _ ho)
theorem blkVars_has {o : List Bs8} (ho : SortedS o) (b : Block) : (∀ x ∈ b.2.1, ∀ s ∈ sVars x, s ≠ [] → s ∈ blkVars o b) ∧ (b.2.2.2.1.1.l ≠ [] → b.2.2.2.1.1.l ∈ blkVars o b) ∧ ∀ t ∈ o, t ∈ blkVars o b := by
  have h1 := bVars_has b.2.1 ho
  have h2 := putAll_has [b.2.2.2.1.1.l] (bVars_sorted b.2.1 ho)
  exact ⟨fun x hx s hs h0 => h2.2 s (h1.1 x hx s hs h0), fun h0 => h2.1 _ (List.mem_singleton.2 rfl) h0, fun t ht => h2.2 t (h1.2 t ht)⟩
theorem vars_has : ∀ (p : Prog) {o : List Bs8}, SortedS o → (∀ b ∈ p, (∀ x ∈ b.2.1, ∀ s ∈ sVars x, s ≠ [] → s ∈ p.foldl blkVars o) ∧ (b.2.2.2.1.1.l ≠ [] → b.2.2.2.1.1.l ∈ p.foldl blkVars o)) ∧ ∀ t ∈ o, t ∈ p.foldl blkVars o
  | [], _, _ => ⟨fun s h => (by cases h), fun t h => h⟩
  | b :: r, o, ho => by
    have h1 := blkVars_has ho b
    have h2 := vars_has r (blkVars_sorted ho b)
    refine ⟨fun b' hb => ?_, fun t ht => h2.2 t (h1.2.2 t ht)⟩
    rcases List.mem_cons.1 hb with rfl | hb
    · exact ⟨fun x hx s hs h0 => h2.2 _ (h1.1 x hx s hs h0), fun h0 => h2.2 _ (h1.2.1 h0)⟩
    · exact h2.1 b' hb
theorem nil_sorted : SortedS [] := by simp [SortedS]
theorem idxS_at (t : Bs8) : ∀ (l : List Bs8) (i : Int), 0 ≤ i → t ∈ l → i ≤ idxS t l i ∧ idxS t l i < i + l.length ∧ l[(idxS t l i - i).toNat]? = some t
  | [], _, _, h => by cases h
  | x :: r, i, h0, h => by
    rw [idxS]
    split
    · rename_i e
      refine ⟨Int.le_refl _, by simp only [List.length_cons]; omega, ?_⟩
      rw [show (i - i).toNat = 0 by omega, List.getElem?_cons_zero, e]
    · rename_i e
      rcases List.mem_cons.1 h with h | h
      · exact absurd h.symm e
      · have := idxS_at t r (i + 1) (by omega) h
        simp only [List.length_cons]
        refine ⟨by omega, by omega, ?_⟩
        rw [show (idxS t r (i + 1) - i).toNat = (idxS t r (i + 1) - (i + 1)).toNat + 1 by omega, List.getElem?_cons_succ]
        exact this.2.2
theorem vIdx_mem {p : Prog} {t : Bs8} (h : t ∈ varsOf p) : 0 ≤ vIdx p t ∧ vIdx p t < ((varsOf p).length : Nat) := by
  have := idxS_at t (varsOf p) 0 (by omega) h
  unfold vIdx
  omega
theorem vIdx_stmt {p : Prog} {b : Block} (hb : b ∈ p) {x : Stmt} (hx : x ∈ b.2.1) {t : Bs8} (ht : t ∈ sVars x) (h0 : t ≠ []) : 0 ≤ vIdx p t ∧ vIdx p t < ((varsOf p).length : Nat) :=
  vIdx_mem (((vars_has p nil_sorted).1 b hb).1 x hx t ht h0)
theorem vIdx_term {p : Prog} {b : Block} (hb : b ∈ p) (h0 : b.2.2.2.1.1.l ≠ []) : 0 ≤ vIdx p b.2.2.2.1.1.l ∧ vIdx p b.2.2.2.1.1.l < ((varsOf p).length : Nat) :=
  vIdx_mem (((vars_has p nil_sorted).1 b hb).2 h0)
end Go.Proofs
end
section
namespace Go.Proofs
open Go.Sy
set_option maxRecDepth 20000
set_option maxHeartbeats 4000000
theorem some1_spec {s : Bs8} {H : Hp} {K : Value → Hp → Prop} (hK : K (.bool (!decide (s = []))) H) : Does Tryz.prog 227 [.string (bs s)] H K := by
  refine spec_of cx_ok cx_mix rfl Tryz.func227 Tryz.call227 Tryz.ntmps227 Tryz.results227 rfl rfl ?_
  exact hK
def someL (l : List Bs8) : List Bs8 := l.filter fun s => !decide (s = [])
theorem someL_take {l : List Bs8} {i : Nat} {s : Bs8} (h : l[i]? = some s) : someL (l.take (i + 1)) = if s = [] then someL (l.take i) else someL (l.take i) ++ [s] := by
  rw [someL, List.take_add_one, h, Option.toList_some, List.filter_append]
  by_cases hs : s = []
  · simp [someL, hs]
  · simp [someL, hs]
theorem str_k {P : Prop} {H : Hp} {a : Option Addr} {n c : Nat} {l : List Bs8} (h : RL H a n c (ens l)) {i : Nat} {s : Bs8} (hi : l[i]? = some s) (k : ∀ ad, a = some ad → ElemH H ad (i : Int) 1 [.string (bs s)] → s.length ≤ 9223372036854775807 → P) : P :=
  elem_k h (i := i) (x := (⟨s⟩ : Str)) (by rw [List.getElem?_map, hi]; rfl) fun ad cs h1 h2 h3 => by
    obtain ⟨rfl, h4⟩ := h3
    exact k ad h1 h2 h4
theorem ens_small {H : Hp} {a : Option Addr} {n c : Nat} {l : List Bs8} (h : RL H a n c (ens l)) : ∀ s ∈ l, s.length ≤ 9223372036854775807 := fun s hs => by
  obtain ⟨i, hi⟩ := List.getElem?_of_mem hs
  exact str_k h hi fun _ _ _ h => h
theorem picked_spec {l : List Bs8} (hl : l.length ≤ 100000) {a : Option Addr} {n c : Nat} {H : Hp} {K : SV → St → Hp → Prop} (ha : RL H a n c (ens l)) (hK : K (.own 0) ⟨[], [(0, .row 9 1 (sRows (someL l)))], 1⟩ H) :
    DoesG Tryz.prog 226 [.v (.slice a n c), .fn 227 []] [] 0 H K := by
  have hn1 := ha.n_eq
  rw [List.length_map] at hn1
  refine spec_ofG cx_ok cx_mix Tryz.func226 Tryz.call226 Tryz.ntmps226 Tryz.results226 rfl rfl ?_
  refine ⟨Nat, fun i => ⟨[(1, .fn 227 []), (5, .own 0), (8, .v (.slice a n c)), (9, .v (.int .i64 n)), (10, .v (.int .i64 i))], [(0, .row 9 1 (sRows (someL (l.take i))))], 1⟩,
    fun i H' => H' = H ∧ i ≤ l.length, fun i => l.length - i, ⟨0, [], ?_, rfl, Nat.zero_le _⟩, ?_⟩
  · (repeat' (first|exact trivial|refine ⟨?_,?_⟩|exact rfl|assumption))
  rintro i H1 _ ⟨rfl, hi⟩
  refine ⟨fun h => ?_, fun h => ?_⟩
  · have hlt : i < l.length := by have := dt h; omega
    have hlv := someL_take (List.getElem?_eq_getElem hlt)
    have hlen : (sRows (someL (l.take i))).length ≤ i := by
      rw [List.length_map]
      exact Nat.le_trans (List.length_filter_le _ _) (by rw [List.length_take]; omega)
    refine str_k ha (List.getElem?_eq_getElem hlt) fun ad e1 hh hsz => ?_
    refine ⟨ad, ⟨by omega, by omega, e1⟩, ?_⟩
    refine ⟨_, hh, ?_⟩
    refine some1_spec ?_
    refine ⟨fun h => ?_, fun h => ?_⟩
    · have hne : ¬ l[i] = [] := nt h
      rw [if_neg hne] at hlv
      have e : sRows (someL (l.take i)) ++ [[.string (bs l[i])]] = sRows (someL (l.take (i + 1))) := by rw [hlv, ← sRows_snoc]
      refine ⟨⟨by show (_ + 1) * 16 ≤ 140737488355328; omega, by show _ + 1 ≤ 9223372036854775807; omega⟩, ?_⟩
      refine ⟨⟨by omega, by omega⟩, i + 1, [(0, 2)], ?_, ⟨rfl, hlt⟩, by dsimp only; omega⟩
      (repeat' (first|exact trivial|refine ⟨?_,?_⟩|exact rfl|assumption))
    · have heq : l[i] = [] := nf h
      rw [if_pos heq] at hlv
      have e : sRows (someL (l.take i)) = sRows (someL (l.take (i + 1))) := by rw [hlv]
      refine ⟨⟨by omega, by omega⟩, i + 1, [(0, 0)], ?_, ⟨rfl, hlt⟩, by dsimp only; omega⟩
      (repeat' (first|exact trivial|refine ⟨?_,?_⟩|exact rfl|assumption))
  · have hil : i = l.length := by have := df h; omega
    rw [hil, List.take_length]
    exact ⟨.own 0, [(0, .row 9 1 (sRows (someL l)))], 1, [(0, 0)], by (repeat' (first|exact trivial|refine ⟨?_,?_⟩|exact rfl|assumption)), hK⟩
def nmsOf (l : List Bs8) : List Bs8 := putAll l []
theorem nil_sortedS : SortedS ([] : List Bs8) := List.Pairwise.nil
theorem putAll_some : ∀ (vs : List Bs8) {o : List Bs8}, ¬ [] ∈ o → ¬ [] ∈ putAll vs o
  | [], _, h => h
  | v :: r, o, h => by
    refine putAll_some r (o := putS v o) fun hm => ?_
    by_cases hv : v = []
    · rw [hv, putS_nil] at hm; exact h hm
    · rcases putS_mem hm with hm | hm
      · exact h hm
      · exact hv hm.symm
theorem nmsOf_mem {l : List Bs8} {t : Bs8} : t ∈ nmsOf l ↔ t ∈ l ∧ t ≠ [] := by
  constructor
  · intro h
    refine ⟨(putAll_mem l h).resolve_left (by simp), fun e => ?_⟩
    subst e
    exact putAll_some l (o := []) (by simp) h
  · intro h
    exact (putAll_has l nil_sortedS).1 t h.1 h.2
theorem nmsOf_gSort (l : List Bs8) : gSort (someL l) = nmsOf l := by
  refine (gSort_eq (l' := nmsOf l) ?_ fun t => ?_).symm
  · exact putAll_sorted l nil_sortedS
  · rw [nmsOf_mem, someL, List.mem_filter]
    simp
theorem lsorted_spec {l : List Bs8} (hl : l.length ≤ 100000) {a : Option Addr} {n c : Nat} {H : Hp} {K : Value → Hp → Prop} (ha : RL H a n c (ens l)) (hK : ∀ a1 n1 c1 H', Le H H' → RL H' a1 n1 c1 (ens (nmsOf l)) → K (.slice a1 n1 c1) H') :
    Does Tryz.prog 187 [.slice a n c] H K := by
  have hsm := ens_small ha
  have hle : (someL l).length ≤ l.length := List.length_filter_le _ _
  refine spec_of cx_ok cx_mix rfl Tryz.func187 Tryz.call187 Tryz.ntmps187 Tryz.results187 rfl rfl ?_
  refine ⟨[], rfl, picked_spec hl ha ?_⟩
  refine ⟨[0], rfl, sortS_spec (l := someL l) (by omega) fun l' hl' hp hg => ?_⟩
  refine ⟨[0], rfl, compS_spec (l := l') (by omega) ?_⟩
  rw [hg, nmsOf_gSort]
  intro v H6 hle6 hv6
  obtain ⟨a7, n7, c7, rfl, hr7⟩ := RL.of_row (α := Str) hv6 (rc_sRows fun s hs => hsm s (nmsOf_mem.1 hs).1)
  exact hK _ _ _ _ hle6.le hr7
end Go.Proofs
end
section
namespace Go.Proofs
open Go.Sy
set_option maxRecDepth 20000
set_option maxHeartbeats 4000000
def useL (x : Stmt) : List Bs8 := if x.1 = 1 then (atomsOf x.2.2).map (fun a => a.1.l) else if x.1 = 3 then [x.2.2.2.1.1.l] else []
def usesS (x : Stmt) : List Bs8 := nmsOf (useL x)
theorem atomsOf_lenU (x : Expr) : (atomsOf x).length ≤ 2 := by
  unfold atomsOf
  split
  · simp
  · split <;> simp
theorem useL_len (x : Stmt) : (useL x).length ≤ 2 := by
  unfold useL
  split
  · rw [List.length_map]; exact atomsOf_lenU _
  · split <;> simp
theorem luses_spec {x : Stmt} (hx : stmtR x) {H : Hp} {K : Value → Hp → Prop} (hK : ∀ a1 n1 c1 H', Le H H' → RL H' a1 n1 c1 (ens (usesS x)) → K (.slice a1 n1 c1) H') :
    Does Tryz.prog 134 [stmtA x] H K := by
  have hsm : ∀ s ∈ useL x, s.length ≤ 9223372036854775807 := fun s hs => by
    unfold useL at hs
    split at hs
    · obtain ⟨y, hy, rfl⟩ := List.mem_map.1 hs
      exact (atomsOf_R hx.2.2 y hy).1
    · split at hs
      · rw [List.mem_singleton.1 hs]; exact hx.2.2.2.1.1
      · cases hs
  have hlen := useL_len x
  refine spec_of cx_ok cx_mix rfl Tryz.func134 Tryz.call134 Tryz.ntmps134 Tryz.results134 rfl rfl ?_
  refine ⟨fun h => ?_, fun h => ?_⟩
  · have hk : x.1 = 1 := dt h
    have hu : useL x = (atomsOf x.2.2).map (fun a => a.1.l) := if_pos hk
    refine patoms_spec hx.2.2 fun a n c H1 hle1 hr1 => ?_
    have hn1 := hr1.n_eq
    have hal := atomsOf_lenU x.2.2
    refine ⟨Nat, fun i => ⟨[(3, .own 0), (12, .v (.slice a n c)), (13, .v (.int .i64 n)), (14, .v (.int .i64 i))], [(0, .row 9 1 (sRows ((useL x).take i)))], 1⟩,
      fun i H' => H' = H1 ∧ i ≤ (atomsOf x.2.2).length, fun i => (atomsOf x.2.2).length - i, ⟨0, [], ?_, rfl, Nat.zero_le _⟩, ?_⟩
    · (repeat' (first|exact trivial|refine ⟨?_,?_⟩|exact rfl|assumption))
    rintro i H2 _ ⟨rfl, hi⟩
    have hrl : (sRows ((useL x).take i)).length ≤ 2 := by rw [List.length_map, List.length_take]; omega
    refine ⟨fun h => ?_, fun h => ?_⟩
    · have hlt : i < (atomsOf x.2.2).length := by have := dt h; omega
      have hui : (useL x)[i]? = some (atomsOf x.2.2)[i].1.l := by rw [hu, List.getElem?_map, List.getElem?_eq_getElem hlt]; rfl
      have e : sRows ((useL x).take i) ++ [[.string (bs (atomsOf x.2.2)[i].1.l)]] = sRows ((useL x).take (i + 1)) := by
        rw [List.take_add_one, hui, Option.toList_some, ← sRows_snoc]
      refine atom_k hr1 (List.getElem?_eq_getElem hlt) fun ad e1 hh _ => ?_
      refine ⟨ad, ⟨by omega, by omega, e1⟩, ?_⟩
      refine ⟨_, hh, ?_⟩
      refine ⟨⟨by show (_ + 1) * 16 ≤ 140737488355328; omega, by show _ + 1 ≤ 9223372036854775807; omega⟩, ?_⟩
      refine ⟨⟨by omega, by omega⟩, i + 1, [(0, 3)], ?_, ⟨rfl, hlt⟩, by dsimp only; omega⟩
      (repeat' (first|exact trivial|refine ⟨?_,?_⟩|exact rfl|assumption))
    · have hil : i = (atomsOf x.2.2).length := by have := df h; omega
      have e : (useL x).take i = useL x := List.take_of_length_le (by rw [hu, List.length_map]; omega)
      rw [e]
      intro v H6 hle6 hv6
      obtain ⟨a7, n7, c7, rfl, hr7⟩ := RL.of_row (α := Str) hv6 (rc_sRows hsm)
      refine lsorted_spec (l := useL x) (by omega) hr7 fun a1 n1 c1 H7 hle7 hr => ?_
      exact hK _ _ _ _ ((hle1.trans hle6.le).trans hle7) hr
  · have hk : ¬ x.1 = 1 := df h
    refine ⟨fun h => ?_, fun h => ?_⟩
    · have hk3 : x.1 = 3 := dt h
      have hu : useL x = [x.2.2.2.1.1.l] := by rw [useL, if_neg hk, if_pos hk3]
      refine ⟨⟨by show 1 * 16 ≤ 140737488355328; decide, by show 1 ≤ 9223372036854775807; decide⟩, ?_⟩
      intro v H6 hle6 hv6
      have hv7 : RowAt H6 v 1 (sRows (useL x)) := by rw [hu]; exact hv6
      obtain ⟨a7, n7, c7, rfl, hr7⟩ := RL.of_row (α := Str) hv7 (rc_sRows hsm)
      refine lsorted_spec (l := useL x) (by omega) hr7 fun a1 n1 c1 H7 hle7 hr => ?_
      exact hK _ _ _ _ (hle6.le.trans hle7) hr
    · have hk3 : ¬ x.1 = 3 := df h
      have hu : useL x = [] := by rw [useL, if_neg hk, if_neg hk3]
      refine lsorted_spec (l := []) (by decide) rl_nil fun a1 n1 c1 H7 hle7 hr => ?_
      rw [usesS, hu] at hK
      exact hK _ _ _ _ hle7 hr
end Go.Proofs
end
section
namespace Go.Proofs
open Go.Sy
set_option maxRecDepth 20000
set_option maxHeartbeats 4000000
def askB (a : Atm) : Block := (⟨[]⟩, [], (0, a, ⟨[]⟩, ⟨[]⟩))
def useA (x : Stmt) : List Atm := if x.1 = 1 then atomsOf x.2.2 else if x.1 = 3 then [x.2.2.2.1] else []
theorem useL_A (x : Stmt) : useL x = (useA x).map (fun a => a.1.l) := by
  unfold useL useA
  split
  · rfl
  · split <;> rfl
def askP (x : Stmt) : Prog := (askB (⟨[]⟩, 0, 0)) :: (useA x).map askB
theorem askP_vars (x : Stmt) : varsOf (askP x) = usesS x := by
  rw [usesS, nmsOf, useL_A]
  have h : ∀ (l : List Atm) (o : List Bs8), (l.map askB).foldl blkVars o = putAll (l.map fun a => a.1.l) o := by
    intro l
    induction l with
    | nil => exact fun _ => rfl
    | cons a r ih => intro o; rw [List.map_cons, List.map_cons, List.foldl_cons, ih]; rfl
  rw [askP, varsOf, List.foldl_cons, h]
  rfl
abbrev askV (a : Atm) : List Value := [.string (bs []), .slice none 0 0, .int .i64 0, .string (bs a.1.l), .int .i64 a.2.1, .int .i64 a.2.2, .string (bs []), .string (bs [])]
theorem askV_rc {H : Hp} : ∀ {l : List Atm}, (∀ a ∈ l, atmR a) → RC (α := Block) H (l.map askV) (l.map askB) := by
  intro l h
  refine ⟨by rw [List.length_map, List.length_map], fun i cs b h1 h2 => ?_⟩
  rw [List.getElem?_map] at h1 h2
  cases h3 : l[i]? with
  | none => rw [h3] at h1; cases h1
  | some a =>
    rw [h3] at h1 h2
    cases h1; cases h2
    have ha := h a (List.mem_of_getElem? h3)
    exact block_mk (b := askB a) rl_nil (Nat.zero_le _) ⟨⟨by show (_ : Int) ≤ 0; decide, by show (0 : Int) ≤ _; decide⟩, ha, Nat.zero_le _, Nat.zero_le _⟩
abbrev aZ : Atm := (⟨[]⟩, 0, 0)
theorem ruses_spec {x : Stmt} (hx : stmtR x) {H : Hp} {K : Value → Hp → Prop} (hK : ∀ a1 n1 c1 H', Le H H' → RL H' a1 n1 c1 (ens (usesS x)) → K (.slice a1 n1 c1) H') :
    Does Tryz.prog 82 [stmtA x] H K := by
  rw [← askP_vars] at hK
  have hal := atomsOf_lenU x.2.2
  have hZ : atmR aZ := ⟨Nat.zero_le _, ⟨by show (_ : Int) ≤ 0; decide, by show (0 : Int) ≤ _; decide⟩, ⟨by show (_ : Int) ≤ 0; decide, by show (0 : Int) ≤ _; decide⟩⟩
  have hmem : ∀ a ∈ aZ :: useA x, atmR a := fun a ha => by
    rcases List.mem_cons.1 ha with rfl | ha
    · exact hZ
    · unfold useA at ha
      split at ha
      · exact atomsOf_R hx.2.2 a ha
      · split at ha
        · rw [List.mem_singleton.1 ha]; exact hx.2.2.2.1
        · cases ha
  have hul : (useA x).length ≤ 2 := by
    unfold useA
    split
    · exact hal
    · split <;> simp
  have hcnt : cnt (askP x) < 400000 := by
    have h : ∀ (l : List Atm), ((l.map askB).map fun b : Block => 3 * b.2.1.length + 1).sum = l.length := fun l => by
      induction l with
      | nil => rfl
      | cons a r ih => simp only [List.map_cons, List.sum_cons, ih, List.length_cons]; show 3 * 0 + 1 + _ = _; omega
    have h2 := h (aZ :: useA x)
    rw [List.length_cons] at h2
    have h3 : cnt (askP x) = ((List.map askB (aZ :: useA x)).map fun b : Block => 3 * b.2.1.length + 1).sum := rfl
    omega
  have fin : ∀ (H1 : Hp), Le H H1 → ∀ v H6, Le H1 H6 → RowAt H6 v 8 ((aZ :: useA x).map askV) → ∃ a n c, v = .slice a n c ∧ RL H6 a n c (askP x) := fun H1 hle1 v H6 hle6 hv6 =>
    RL.of_row (α := Block) hv6 (askV_rc hmem)
  refine spec_of cx_ok cx_mix rfl Tryz.func82 Tryz.call82 Tryz.ntmps82 Tryz.results82 rfl rfl ?_
  refine ⟨fun h => ?_, fun h => ?_⟩
  · have hk : x.1 = 1 := dt h
    have hu : useA x = atomsOf x.2.2 := if_pos hk
    refine ratoms_spec hx.2.2 fun a n c H1 hle1 hr1 => ?_
    have hn1 := hr1.n_eq
    refine ⟨Nat, fun i => ⟨[(1, .ptr 0 0), (3, .ptr 2 0), (14, .v (.slice a n c)), (15, .v (.int .i64 n)), (16, .v (.int .i64 i))], [(0, .cells 103 (vL (stmtV x))), (1, .row 57 8 ((aZ :: (useA x).take i).map askV)), (2, .cells 24 [.own 1])], 3⟩,
      fun i H' => H' = H1 ∧ i ≤ (atomsOf x.2.2).length, fun i => (atomsOf x.2.2).length - i, ⟨0, [(0, 0), (1, 1), (2, 2)], ?_, rfl, Nat.zero_le _⟩, ?_⟩
    · (repeat' (first|exact trivial|refine ⟨?_,?_⟩|exact rfl|assumption))
    rintro i H2 _ ⟨rfl, hi⟩
    have hrl : ((aZ :: (useA x).take i).map askV).length ≤ 3 := by rw [List.length_map, List.length_cons, List.length_take]; omega
    refine ⟨fun h => ?_, fun h => ?_⟩
    · have hlt : i < (atomsOf x.2.2).length := by have := dt h; omega
      have hui : (useA x)[i]? = some (atomsOf x.2.2)[i] := by rw [hu, List.getElem?_eq_getElem hlt]
      have e : (aZ :: (useA x).take i).map askV ++ [askV (atomsOf x.2.2)[i]] = (aZ :: (useA x).take (i + 1)).map askV := by
        rw [List.take_add_one, hui, Option.toList_some, List.map_cons, List.map_cons, List.map_append]; rfl
      refine atom_k hr1 (List.getElem?_eq_getElem hlt) fun ad e1 hh _ => ?_
      refine ⟨ad, ⟨by omega, by omega, e1⟩, ?_⟩
      refine ⟨_, hh, ?_⟩
      refine ⟨⟨by show (_ + 1) * 112 ≤ 140737488355328; omega, by show _ + 1 ≤ 9223372036854775807; omega⟩, ?_⟩
      refine ⟨⟨by omega, by omega⟩, i + 1, [(0, 0), (1, 5), (2, 2)], ?_, ⟨rfl, hlt⟩, by dsimp only; omega⟩
      (repeat' (first|exact trivial|refine ⟨?_,?_⟩|exact rfl|assumption))
    · have hil : i = (atomsOf x.2.2).length := by have := df h; omega
      have e : (useA x).take i = useA x := List.take_of_length_le (by rw [hu]; omega)
      rw [e]
      refine ⟨fun h => absurd (dt h) (by omega), fun _ => ?_⟩
      intro v H6 hle6 hv6
      obtain ⟨a7, n7, c7, rfl, hr7⟩ := fin H2 hle1 v H6 hle6.le hv6
      refine rvars_spec hr7 hcnt fun a1 n1 c1 H7 hle7 hr => ?_
      exact hK _ _ _ _ ((hle1.trans hle6.le).trans hle7) hr
  · have hk : ¬ x.1 = 1 := df h
    refine ⟨fun h => ?_, fun h => ?_⟩
    · have hk3 : x.1 = 3 := dt h
      have hu : useA x = [x.2.2.2.1] := by rw [useA, if_neg hk, if_pos hk3]
      refine ⟨⟨by show (1 + 1) * 112 ≤ 140737488355328; decide, by show 1 + 1 ≤ 9223372036854775807; decide⟩, ?_⟩
      intro v H6 hle6 hv6
      obtain ⟨a7, n7, c7, rfl, hr7⟩ := fin H (Le.refl H) v H6 hle6.le (by rw [hu]; exact hv6)
      refine rvars_spec hr7 hcnt fun a1 n1 c1 H7 hle7 hr => ?_
      exact hK _ _ _ _ (hle6.le.trans hle7) hr
    · have hk3 : ¬ x.1 = 3 := df h
      have hu : useA x = [] := by rw [useA, if_neg hk, if_neg hk3]
      intro v H6 hle6 hv6
      obtain ⟨a7, n7, c7, rfl, hr7⟩ := fin H (Le.refl H) v H6 hle6.le (by rw [hu]; exact hv6)
      refine rvars_spec hr7 hcnt fun a1 n1 c1 H7 hle7 hr => ?_
      exact hK _ _ _ _ (hle6.le.trans hle7) hr
end Go.Proofs
end
section
namespace Go.Proofs
open Go.Sy
set_option maxRecDepth 20000
set_option maxHeartbeats 4000000
theorem exprB_op {x : Expr} (h : exprB x = true) : 0 ≤ x.1 ∧ x.1 ≤ 4 := by
  unfold exprB at h
  split at h
  · rename_i h1
    simp only [op1, Bool.or_eq_true, decide_eq_true_eq] at h1
    omega
  · split at h
    · rename_i h1
      simp only [op2, Bool.or_eq_true, decide_eq_true_eq] at h1
      omega
    · cases h
theorem check_facts {p : Prog} (h : checkE p = 0) : 1 ≤ p.length ∧ p.length ≤ 128 ∧ (varsOf p).length ≤ 64 ∧ ∀ b ∈ p, blockB b = true := by
  unfold checkE at h
  split at h
  · cases h
  · rename_i h0
    split at h
    · rename_i h1
      split at h
      · cases h
      · refine ⟨by omega, by omega, by omega, fun b hb => List.all_eq_true.1 h1 b hb⟩
    · cases h
theorem eN_lt {p : Prog} {i : Nat} {t : Bs8} : ∀ e ∈ eN p i t, e.1 = (i : Int) ∧ 0 ≤ e.2 ∧ e.2 < (p.length : Nat) := by
  intro e he
  unfold eN at he
  have hr := idxS_range t (nms p) 0 (by omega)
  rw [List.length_map] at hr
  split at he
  · rename_i h0
    simp only [List.mem_cons, List.not_mem_nil, or_false] at he
    subst he
    exact ⟨rfl, h0, by dsimp only; omega⟩
  · simp at he
theorem eB_lt {p : Prog} {i : Nat} {b : Block} : ∀ e ∈ eB p i b, e.1 = (i : Int) ∧ 0 ≤ e.2 ∧ e.2 < (p.length : Nat) := by
  intro e he
  unfold eB at he
  rcases List.mem_append.1 he with he | he
  · split at he
    · exact eN_lt e he
    · cases he
  · split at he
    · exact eN_lt e he
    · cases he
theorem eAll_lt {p : Prog} : ∀ (l : List Block) (i : Nat), ∀ e ∈ eAll p l i, ((i : Int) ≤ e.1 ∧ e.1 < ((i + l.length : Nat) : Int)) ∧ 0 ≤ e.2 ∧ e.2 < (p.length : Nat)
  | [], _, e, he => by simp [eAll] at he
  | b :: r, i, e, he => by
    rw [eAll] at he
    rcases List.mem_append.1 he with he | he
    · have h := eB_lt e he
      rw [List.length_cons]
      exact ⟨⟨by omega, by omega⟩, h.2⟩
    · have h := eAll_lt r (i + 1) e he
      rw [List.length_cons]
      exact ⟨⟨by omega, by omega⟩, h.2⟩
end Go.Proofs
end
section
namespace Go.Proofs
open Go.Sy
set_option maxRecDepth 20000
set_option maxHeartbeats 4000000
end Go.Proofs
end
section
namespace Go.Proofs
open Go.Sy
set_option maxRecDepth 20000
set_option maxHeartbeats 4000000
end Go.Proofs
end
section
namespace Go.Proofs
open Go.Sy
set_option maxRecDepth 20000
set_option maxHeartbeats 4000000
end Go.Proofs
end
section
namespace Go.Proofs
open Go.Sy
set_option maxRecDepth 20000
set_option maxHeartbeats 4000000
theorem stmtB_var {s : Stmt} (h : stmtB s = true) : (s.1 = 1 ∧ 0 ≤ s.2.2.1 ∧ s.2.2.1 ≤ 4 ∧ s.2.1.l ≠ []) ∨ (s.1 = 2 ∧ s.2.1.l ≠ []) ∨ (s.1 = 3 ∧ s.2.1.l = []) := by
  have hn : ∀ t : Bs8, nmB t = true → t ≠ [] := fun t ht e => by rw [e] at ht; exact absurd ht (by decide)
  unfold stmtB at h
  split at h
  · rename_i h1
    rw [Bool.and_eq_true] at h
    have := exprB_op h.2
    exact .inl ⟨h1, this.1, this.2, hn _ h.1⟩
  · split at h
    · rename_i h1
      rw [Bool.and_eq_true] at h
      exact .inr (.inl ⟨h1, hn _ h.1⟩)
    · split at h
      · rename_i h1
        rw [Bool.and_eq_true, Bool.and_eq_true] at h
        exact .inr (.inr ⟨h1, dt h.1.1⟩)
      · cases h
end Go.Proofs
end
section
namespace Go.Proofs
open Go.Sy
set_option maxRecDepth 20000
set_option maxHeartbeats 4000000
end Go.Proofs
end
section
namespace Go.Proofs
open Go.Sy
set_option maxRecDepth 20000
set_option maxHeartbeats 4000000
end Go.Proofs
end
section
namespace Go.Proofs
open Go.Sy
set_option maxRecDepth 20000
set_option maxHeartbeats 4000000
end Go.Proofs
end
section
namespace Go.Proofs
open Go.Sy
set_option maxRecDepth 20000
set_option maxHeartbeats 4000000
end Go.Proofs
end
section
namespace Go.Proofs
open Go.Sy
set_option maxRecDepth 20000
set_option maxHeartbeats 4000000
abbrev stV (s : Stmt) : List Value := .int .i64 s.1 :: .string (bs s.2.1.l) :: .int .i64 s.2.2.1 :: (atmV s.2.2.2.1 ++ atmV s.2.2.2.2)
structure FamI (H H' : Hp) (vs : List Value) (p : Prog) : Prop where
  len : vs.length = p.length
  new : ∀ (i : Nat) (v : Value) (b : Block), vs[i]? = some v → p[i]? = some b → NewAt 103 9 (b.2.1.map stV) H v H'
  dis : vs.Pairwise fun v u => ∀ g, v.ownBlock = some g → u.ownBlock ≠ some g
theorem newAt_up {e : TypeId} {sz : Nat} {xs : List (List Value)} {H H2 H3 : Hp} {x : Value} (h : NewAt e sz xs H x H2) (hle : Le H2 H3) : NewAt e sz xs H x H3 := by
  rcases h with h1 | ⟨g, cap, c, h1, h2, h3, h4⟩
  · exact .inl h1
  · exact .inr ⟨g, cap, c, h1, h2, hle _ _ h3, h4⟩
theorem newAt_down {e : TypeId} {sz : Nat} {xs : List (List Value)} {H H1 H2 : Hp} {x : Value} (h : NewAt e sz xs H1 x H2) (hle : Le H H1) : NewAt e sz xs H x H2 := by
  rcases h with h1 | ⟨g, cap, c, h1, h2, h3⟩
  · exact .inl h1
  · refine .inr ⟨g, cap, c, h1, ?_, h3⟩
    cases hg : H g with
    | none => rfl
    | some o => rw [hle _ _ hg] at h2; cases h2
theorem FamI.up {H H' H2 : Hp} {vs : List Value} {p : Prog} (h : FamI H H' vs p) (hle : Le H' H2) : FamI H H2 vs p := ⟨h.len, fun i v b h1 h2 => newAt_up (h.new i v b h1 h2) hle, h.dis⟩
theorem FamI.snoc {H H1 H2 : Hp} {vs : List Value} {p : Prog} (h : FamI H H1 vs p) (hle0 : Le H H1) {v : Value} {b : Block} (hv : LeN 103 9 (b.2.1.map stV) H1 v H2) : FamI H H2 (vs ++ [v]) (p ++ [b]) := by
  refine ⟨by rw [List.length_append, List.length_append, h.len]; rfl, fun i u c h1 h2 => ?_, ?_⟩
  · rw [List.getElem?_append] at h1 h2
    have hl := h.len
    split at h1
    · rename_i hi
      rw [if_pos (by omega)] at h2
      exact newAt_up (h.new i u c h1 h2) hv.le
    · rename_i hi
      rw [if_neg (by omega)] at h2
      have e1 : i - vs.length = 0 := by
        have := (List.getElem?_eq_some_iff.1 h1).1
        simp at this; omega
      rw [e1] at h1
      rw [← hl, e1] at h2
      cases h1
      cases h2
      exact newAt_down hv.new hle0
  · rw [List.pairwise_append]
    refine ⟨h.dis, List.pairwise_singleton _ _, fun u hu w hw g hg hg' => ?_⟩
    rw [List.mem_singleton] at hw
    subst hw
    obtain ⟨i, hi⟩ := List.getElem?_of_mem hu
    have hlt := (List.getElem?_eq_some_iff.1 hi).1
    have hb : p[i]? = some (p[i]'(by have := h.len; omega)) := List.getElem?_eq_getElem _
    obtain ⟨_, o, ho⟩ := (h.new i u _ hi hb).fresh hg
    have := (hv.new.fresh hg').1
    rw [ho] at this
    cases this
end Go.Proofs
end
section
namespace Go.Proofs
open Go.Sy
set_option maxRecDepth 20000
set_option maxHeartbeats 4000000
end Go.Proofs
end
section
namespace Go.Proofs
open Go.Sy
set_option maxRecDepth 20000
set_option maxHeartbeats 4000000
end Go.Proofs
end
section
namespace Go.Proofs
open Go.Sy
set_option maxRecDepth 20000
set_option maxHeartbeats 4000000
end Go.Proofs
end
section
namespace Go.Proofs
open Go.Sy
set_option maxRecDepth 20000
set_option maxHeartbeats 4000000
end Go.Proofs
end
