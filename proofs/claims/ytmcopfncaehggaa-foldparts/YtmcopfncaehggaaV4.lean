/- Part 'V4' of the proof: lemmas, each with its own conditions in its own statement. -/
import Derived.Test.YtmcopfncaehggaaV3
namespace Go.Proofs
open Go.Sy
set_option maxRecDepth 20000
theorem mask_eq {w : Nat} (k : Nat) (hk : k ≤ 64) (hw : w < 18446744073709551616) : IntKind.u64.wrap ((BitVec.ofInt IntKind.u64.bits (w : Int) &&& BitVec.ofInt IntKind.u64.bits ((2 ^ k - 1 : Nat) : Int)).toNat : Int) = ((w % 2 ^ k : Nat) : Int) := by
  show IntKind.u64.wrap ((BitVec.ofInt 64 (w : Int) &&& BitVec.ofInt 64 ((2 ^ k - 1 : Nat) : Int)).toNat : Int) = _
  rw [BitVec.toNat_and, BitVec.ofInt_natCast, BitVec.ofInt_natCast, BitVec.toNat_ofNat, BitVec.toNat_ofNat, Nat.mod_eq_of_lt (by simpa using hw)]
  rw [Nat.mod_eq_of_lt (by
    have := Nat.pow_le_pow_right (show 0 < 2 by omega) hk
    have := Nat.two_pow_pos k
    omega), Nat.and_two_pow_sub_one_eq_mod]
  have hlt : w % 2 ^ k ≤ w := Nat.mod_le _ _
  rw [IntKind.wrap_u64]
  omega
theorem shr_eq {w : Nat} (k : Nat) (hk : k ≤ 64) : ((w : Int)).fdiv (2 ^ min (Int.toNat (k : Int)) IntKind.u64.bits) = ((w / 2 ^ k : Nat) : Int) := by
  show ((w : Int)).fdiv (2 ^ min (Int.toNat (k : Int)) 64) = _
  rw [Int.toNat_natCast, Nat.min_eq_left hk, Int.fdiv_eq_ediv_of_nonneg _ (Int.le_of_lt (Int.pow_pos (by decide)))]
  norm_cast
def kNum (w : Nat) : Option Nm := if w % 4 = 2 ∧ w / 4 < 4294967296 then some (wrp ((w / 4 % 65536 : Nat) : Int), wrp ((w / 4 / 65536 : Nat) : Int)) else none
abbrev numO (o : Option Nm) : Value := .tuple #[numV (o.getD (0, 0)), .bool o.isSome]
theorem unword_spec {w : Nat} (hw : w < 18446744073709551616) {H : Hp} {K : Value → Hp → Prop} (hK : K (numO (if w < 4294967296 then some (wrp ((w % 65536 : Nat) : Int), wrp ((w / 65536 : Nat) : Int)) else none)) H) : Does Try.prog 82 [.int .u64 w] H K := by
  refine spec_of cx_ok cx_mix rfl Try.func82 Try.call82 Try.ntmps82 Try.results82 rfl rfl ?_
  have h32 := shr_eq (w := w) 32 (by omega)
  have h16 := shr_eq (w := w) 16 (by omega)
  have hm := mask_eq (w := w) 16 (by omega) hw
  refine ⟨by decide, ?_⟩
  refine ⟨fun h => ?_, fun h => ?_⟩
  · have h : ¬ ((w : Int)).fdiv (2 ^ min (Int.toNat (32 : Nat)) IntKind.u64.bits) = 0 := nt h
    rw [h32] at h
    rw [if_neg (by omega)] at hK
    exact hK
  · have h : ((w : Int)).fdiv (2 ^ min (Int.toNat (32 : Nat)) IntKind.u64.bits) = 0 := nf h
    rw [h32] at h
    have hlt : w < 4294967296 := by omega
    rw [if_pos hlt] at hK
    have e1 : IntKind.u64.wrap ((BitVec.ofInt IntKind.u64.bits (w : Int) &&& BitVec.ofInt IntKind.u64.bits 65535).toNat : Int) = ((w % 65536 : Nat) : Int) := hm
    have e2 : ((w : Int)).fdiv (2 ^ min (Int.toNat 16) IntKind.u64.bits) = ((w / 65536 : Nat) : Int) := h16
    refine ⟨⟨by rw [e1]; omega, by rw [e1]; omega⟩, ?_⟩
    refine ⟨by decide, ?_⟩
    refine ⟨⟨by rw [e2]; omega, by rw [e2]; omega⟩, ?_⟩
    rw [← e1, ← e2] at hK
    refine gof_spec ?_
    exact hK
theorem unword_spec' {x : Int} {w : Nat} (hx : x = w) (hw : w < 18446744073709551616) {H : Hp} {K : Value → Hp → Prop} (hK : K (numO (if w < 4294967296 then some (wrp ((w % 65536 : Nat) : Int), wrp ((w / 65536 : Nat) : Int)) else none)) H) : Does Try.prog 82 [.int .u64 x] H K := by
  subst hx
  exact unword_spec hw hK
theorem knum_spec {w : Nat} (hw : w < 18446744073709551616) {H : Hp} {K : Value → Hp → Prop} (hK : K (numO (kNum w)) H) : Does Try.prog 59 [.int .u64 w] H K := by
  refine spec_of cx_ok cx_mix rfl Try.func59 Try.call59 Try.ntmps59 Try.results59 rfl rfl ?_
  have hm : IntKind.u64.wrap ((BitVec.ofInt IntKind.u64.bits (w : Int) &&& BitVec.ofInt IntKind.u64.bits 3).toNat : Int) = ((w % 4 : Nat) : Int) := mask_eq (w := w) 2 (by omega) hw
  have hs : ((w : Int)).fdiv (2 ^ min (Int.toNat 2) IntKind.u64.bits) = ((w / 4 : Nat) : Int) := shr_eq (w := w) 2 (by omega)
  refine ⟨fun h => ?_, fun h => ?_⟩
  · have h : ¬ IntKind.u64.wrap ((BitVec.ofInt IntKind.u64.bits (w : Int) &&& BitVec.ofInt IntKind.u64.bits 3).toNat : Int) = 2 := nt h
    rw [hm] at h
    rw [kNum, if_neg (by omega)] at hK
    exact hK
  · have h : IntKind.u64.wrap ((BitVec.ofInt IntKind.u64.bits (w : Int) &&& BitVec.ofInt IntKind.u64.bits 3).toNat : Int) = 2 := nf h
    rw [hm] at h
    have h : w % 4 = 2 := by omega
    refine ⟨by decide, ?_⟩
    refine unword_spec' hs (by omega) ?_
    unfold kNum at hK
    simp only [h, true_and] at hK
    exact hK
theorem rnum_spec {w : Nat} (hw : w < 18446744073709551616) {H : Hp} {K : Value → Hp → Prop} (hK : K (numO (kNum w)) H) : Does Try.prog 61 [.int .u64 w] H K := by
  refine spec_of cx_ok cx_mix rfl Try.func61 Try.call61 Try.ntmps61 Try.results61 rfl rfl ?_
  have e4 : ((w : Int)).tmod 4 = ((w % 4 : Nat) : Int) := by rw [Int.tmod_eq_emod_of_nonneg (by omega)]; rfl
  have e5 : ((w : Int)).tdiv 4 = ((w / 4 : Nat) : Int) := by rw [Int.tdiv_eq_ediv_of_nonneg (by omega)]; rfl
  refine ⟨by decide, ?_⟩
  refine ⟨fun h => ?_, fun h => ?_⟩
  · have h : ((w : Int)).tmod 4 = 2 := nf h
    rw [e4] at h
    have h : w % 4 = 2 := by omega
    refine ⟨by decide, ⟨by rw [e5]; omega, by rw [e5]; omega⟩, ?_⟩
    refine ⟨fun h2 => ?_, fun h2 => ?_⟩
    · have h2 := dt h2
      rw [e5] at h2
      rw [kNum, if_neg (by omega)] at hK
      exact hK
    · have h2 := df h2
      rw [e5] at h2
      have hlt : w / 4 < 4294967296 := by omega
      rw [kNum, if_pos ⟨h, hlt⟩] at hK
      have e6 : (((w / 4 : Nat) : Int)).tmod 65536 = ((w / 4 % 65536 : Nat) : Int) := by rw [Int.tmod_eq_emod_of_nonneg (by omega)]; rfl
      have e7 : (((w / 4 : Nat) : Int)).tdiv 65536 = ((w / 4 / 65536 : Nat) : Int) := by rw [Int.tdiv_eq_ediv_of_nonneg (by omega)]; rfl
      refine ⟨by decide, ⟨by rw [e5]; omega, by rw [e5]; omega⟩, ⟨by rw [e5]; omega, by rw [e5]; omega⟩, by decide, by decide, ⟨by rw [e5, e7]; omega, by rw [e5, e7]; omega⟩, ?_⟩
      rw [← e6, ← e7, ← e5] at hK
      refine rof_spec ?_
      exact hK
  · have h : ¬ ((w : Int)).tmod 4 = 2 := nt (by cases hh : (!decide (((w : Int)).tmod 4 = 2)) <;> simp_all)
    rw [e4] at h
    rw [kNum, if_neg (by omega)] at hK
    exact hK
end Go.Proofs
