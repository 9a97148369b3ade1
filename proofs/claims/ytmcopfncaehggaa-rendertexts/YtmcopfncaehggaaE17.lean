/- Part 'E17' of the proof: lemmas, each with its own conditions in its own statement. -/
import Derived.Test.YtmcopfncaehggaaE16
namespace Go.Proofs
open Go.Sy
set_option maxRecDepth 20000
theorem ahead_small {n : Nat} (hn : n < 10) {H : Hp} {K : Value → Hp → Prop} (hK : K (.string (bs [UInt8.ofNat (48 + n)])) H) : Does Try.prog 91 [.int .u64 n] H K := by
  refine spec_of cx_ok cx_mix rfl Try.func91 Try.call91 Try.ntmps91 Try.results91 rfl rfl ?_
  refine ⟨fun h => ?_, fun h => ?_⟩
  · refine ⟨⟨by omega, by omega⟩, ?_⟩
    refine ⟨⟨by omega, by omega⟩, ?_⟩
    have e : ((UInt8.ofNat (48 + n)).toNat : Int) = 48 + n := by
      rw [UInt8.toNat_ofNat']
      omega
    have e2 : [[Value.int .u8 (48 + (n : Int))]] = byteRows [UInt8.ofNat (48 + n)] := by
      simp only [byteRows, List.map_cons, List.map_nil, e]
    refine ⟨[UInt8.ofNat (48 + n)], e2, ?_⟩
    exact hK
  · have := df h; omega
theorem ahead_small' {x : Int} {n : Nat} (hx : x = n) (hn : n < 10) {H : Hp} {K : Value → Hp → Prop} (hK : K (.string (bs [UInt8.ofNat (48 + n)])) H) : Does Try.prog 91 [.int .u64 x] H K := by
  subst hx
  exact ahead_small hn hK
def digS (n : Int) : List UInt8 := if n < 0 then [45, UInt8.ofNat (48 + (0 - n).toNat)] else [UInt8.ofNat (48 + n.toNat)]
noncomputable def cxw : Cx := { cx with wrap := true }
theorem cxw_ok : TOK cxw := ⟨cx_ok.tt, cx_ok.eqs⟩
theorem digits_small {n : Int} (hn : -10 < n ∧ n < 10) {H : Hp} {K : Value → Hp → Prop} (hK : K (.string (bs (digS n))) H) : Does Try.prog 77 [.int .i64 n] H K := by
  refine spec_of cxw_ok cx_mix rfl Try.func77 Try.call77 Try.ntmps77 Try.results77 rfl rfl ?_
  refine ⟨fun h => ?_, fun h => ?_⟩
  · have h := dt h
    rw [digS, if_pos h] at hK
    obtain ⟨m, hm⟩ : ∃ m : Nat, m = (0 - n).toNat := ⟨_, rfl⟩
    have e1 : IntKind.u64.wrap (0 - IntKind.u64.wrap n) = (m : Int) := by
      rw [IntKind.wrap_u64, IntKind.wrap_u64]; omega
    rw [← hm] at hK
    refine ahead_small' e1 (by omega) ?_
    refine ⟨by show 1 + 1 ≤ _; omega, ?_⟩
    exact hK
  · have h := df h
    rw [digS, if_neg h] at hK
    obtain ⟨m, hm⟩ : ∃ m : Nat, m = n.toNat := ⟨_, rfl⟩
    have e1 : IntKind.u64.wrap n = (m : Int) := by
      rw [IntKind.wrap_u64]; omega
    rw [← hm] at hK
    refine ahead_small' e1 (by omega) ?_
    exact hK
end Go.Proofs
