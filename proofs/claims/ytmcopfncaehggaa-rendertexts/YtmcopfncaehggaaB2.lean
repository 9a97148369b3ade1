/- Part 'B2' of the proof: lemmas, each with its own conditions in its own statement. -/
import Derived.Test.YtmcopfncaehggaaB1
namespace Go.Proofs
open Go.Sy
set_option maxRecDepth 20000
/-- A builder that was never written to. -/
abbrev bld0 : List (Nat × Bx) := [(0, .cells 69 [.v (.pointer none), .v (.slice none 0 0)])]
/-- .. that holds these bytes, in another row than before. -/
abbrev bld2 (b : List UInt8) : List (Nat × Bx) := [(0, .cells 69 [.ptr 0 0, .own 2]), (1, .dead), (2, .row 5 1 (byteRows b))]
/-- .. that holds these bytes. -/
abbrev bld (b : List UInt8) : List (Nat × Bx) := [(0, .cells 69 [.ptr 0 0, .own 1]), (1, .row 5 1 (byteRows b))]
theorem check_fresh {H : Hp} {K : SV → St → Hp → Prop} (hK : K (.tup []) ⟨[], [(0, .cells 69 [.ptr 0 0, .v (.slice none 0 0)])], 1⟩ H) : DoesG Try.prog 67 [.ptr 0 0] bld0 1 H K := by
  refine spec_ofG cx_ok cx_mix Try.func67 Try.call67 Try.ntmps67 Try.results67 rfl rfl ?_
  refine ⟨fun h => ?_, fun h => ?_⟩
  · refine ⟨by kernel_rfl, ?_⟩
    refine noescape_spec ?_
    refine ⟨by kernel_rfl, ?_⟩
    exact ⟨.tup [], [(0, .cells 69 [.ptr 0 0, .v (.slice none 0 0)])], 1, [(0, 0)], ⟨⟨⟨rfl, rfl⟩, trivial⟩, ⟨⟨⟨rfl, rfl⟩, rfl, trivial⟩, trivial⟩⟩, hK⟩
  · cases h
theorem check_used {b : List UInt8} {H : Hp} {K : SV → St → Hp → Prop} (hK : K (.tup []) ⟨[], bld b, 2⟩ H) : DoesG Try.prog 67 [.ptr 0 0] (bld b) 2 H K := by
  refine spec_ofG cx_ok cx_mix Try.func67 Try.call67 Try.ntmps67 Try.results67 rfl rfl ?_
  refine ⟨fun h => ?_, fun h => ?_⟩
  · cases h
  · refine ⟨fun h => ?_, fun h => ?_⟩
    · cases h
    · exact ⟨.tup [], bld b, 2, [(0, 0), (1, 1)], ⟨⟨⟨rfl, rfl⟩, trivial⟩, ⟨⟨⟨rfl, rfl⟩, rfl, trivial⟩, rfl, trivial⟩⟩, hK⟩
theorem makenz_spec' {x : Int} {n : Nat} (hx : x = n) {bx : List (Nat × Bx)} {nx : Nat} {H : Hp} {K : SV → List (Nat × Bx) → Nat → Hp → Prop} (hn : n ≤ 281474976710656)
    (hK : ∀ xs : List (List Value), xs.length = n → K (.own nx) ((nx, .row 5 1 xs) :: bx) (nx + 1) H) : ExtG Try.prog 109 [.v (.int .i64 x)] bx nx H K := by
  subst hx
  exact makenz_spec hn hK
theorem rowAt_nil (H : Hp) (sz : Nat) : RowAt H (.slice none 0 0) sz [] := ⟨none, 0, rfl, ⟨Nat.le_refl _, by omega⟩, by simp, .inl ⟨rfl, rfl⟩⟩
/-- Room for n bytes, in a builder without any. -/
theorem grow_fresh {n : Nat} (hn : n ≤ 140737488355328) {H : Hp} {K : SV → St → Hp → Prop} (hK : K (.tup []) ⟨[], bld [], 2⟩ H) : DoesG Try.prog 104 [.ptr 0 0, .v (.int .i64 n)] [(0, .cells 69 [.ptr 0 0, .v (.slice none 0 0)])] 1 H K := by
  refine spec_ofG cx_ok cx_mix Try.func104 Try.call104 Try.ntmps104 Try.results104 rfl rfl ?_
  refine ⟨some ([], [0, 1, 2, 3, 6, 9, 10, 11, 12, 13, 4, 5, 7, 8, 14, 15]), by kernel_rfl, ?_⟩
  refine ⟨⟨by decide, by decide⟩, ?_⟩
  refine ⟨⟨by omega, by omega⟩, ?_⟩
  refine makenz_spec' (n := n) (by omega) (by omega) ?_
  intro xs hxs
  refine ⟨⟨by omega, by omega, by omega⟩, ?_⟩
  refine .inl ?_
  refine ⟨_, rowAt_nil H 1, ?_⟩
  refine ⟨by omega, ?_⟩
  refine .inr ?_
  refine ⟨⟨rfl, by omega⟩, ?_⟩
  refine ⟨.tup [], bld [], 2, [(0, 0), (1, 2)], ⟨⟨⟨rfl, rfl⟩, trivial⟩, ⟨⟨⟨rfl, rfl⟩, rfl, trivial⟩, rfl, trivial⟩⟩, hK⟩
theorem Grow_fresh {n : Nat} (hn : n ≤ 140737488355328) {H : Hp} {K : SV → St → Hp → Prop} (hK : K (.tup []) ⟨[], bld [], 2⟩ H) : DoesG Try.prog 92 [.ptr 0 0, .v (.int .i64 n)] bld0 1 H K := by
  refine spec_ofG cx_ok cx_mix Try.func92 Try.call92 Try.ntmps92 Try.results92 rfl rfl ?_
  refine ⟨[0], rfl, ?_⟩
  refine check_fresh ?_
  refine ⟨fun h => ?_, fun h => ?_⟩
  · have := dt h; omega
  · refine ⟨some ([], [0, 1, 2, 3, 5, 6, 7, 8, 9, 11, 4, 10, 12]), by kernel_rfl, ?_⟩
    refine ⟨⟨by decide, by decide⟩, ?_⟩
    refine ⟨fun h => ?_, fun h => ?_⟩
    · refine ⟨[0], rfl, ?_⟩
      refine grow_fresh hn ?_
      exact ⟨.tup [], bld [], 2, [(0, 0), (1, 1)], ⟨⟨⟨rfl, rfl⟩, trivial⟩, ⟨⟨⟨rfl, rfl⟩, rfl, trivial⟩, rfl, trivial⟩⟩, hK⟩
    · exact ⟨.tup [], bld [], 2, [(0, 0)], ⟨⟨⟨rfl, rfl⟩, trivial⟩, ⟨⟨⟨rfl, rfl⟩, ⟨rfl, rfl, rfl⟩, trivial⟩, rfl, trivial⟩⟩, hK⟩
/-- WriteString. -/
theorem write_used {b t : List UInt8} (hl : b.length + t.length ≤ 140737488355328) {H : Hp} {K : SV → St → Hp → Prop} (hK : K (.tup [.v (.int .i64 t.length), .v .nilIface]) ⟨[], bld2 (b ++ t), 3⟩ H) : DoesG Try.prog 42 [.ptr 0 0, .v (.string (bs t))] (bld b) 2 H K := by
  refine spec_ofG cx_ok cx_mix Try.func42 Try.call42 Try.ntmps42 Try.results42 rfl rfl ?_
  refine ⟨[0, 1], rfl, ?_⟩
  refine check_used ?_
  have erow : byteRows b ++ byteRows t = byteRows (b ++ t) := (List.map_append ..).symm
  refine ⟨rfl, by rw [byte_rows_len]; exact hl, ?_⟩
  refine ⟨.tup [.v (.int .i64 t.length), .v .nilIface], bld2 (b ++ t), 3, [(0, 0), (1, 1), (2, 2)], ⟨⟨⟨rfl, rfl⟩, trivial⟩, ⟨⟨⟨rfl, rfl⟩, rfl, trivial⟩, trivial, erow, trivial⟩⟩, hK⟩
theorem write_fresh {t : List UInt8} (hl : t.length ≤ 140737488355328) {H : Hp} {K : SV → St → Hp → Prop} (hK : K (.tup [.v (.int .i64 t.length), .v .nilIface]) ⟨[], bld t, 2⟩ H) : DoesG Try.prog 42 [.ptr 0 0, .v (.string (bs t))] bld0 1 H K := by
  refine spec_ofG cx_ok cx_mix Try.func42 Try.call42 Try.ntmps42 Try.results42 rfl rfl ?_
  refine ⟨[0], rfl, ?_⟩
  refine check_fresh ?_
  refine ⟨rfl, hl, ?_⟩
  refine ⟨.tup [.v (.int .i64 t.length), .v .nilIface], bld t, 2, [(0, 0), (1, 1)], ⟨⟨⟨rfl, rfl⟩, trivial⟩, ⟨⟨⟨rfl, rfl⟩, rfl, trivial⟩, rfl, trivial⟩⟩, hK⟩
/-- String. -/
theorem string_spec {b : List UInt8} {H : Hp} {K : SV → St → Hp → Prop} (hK : K (.v (.string (bs b))) ⟨[], [(0, .dead), (1, .dead)], 2⟩ H) : DoesG Try.prog 43 [.ptr 0 0] (bld b) 2 H K := by
  refine spec_ofG cx_ok cx_mix Try.func43 Try.call43 Try.ntmps43 Try.results43 rfl rfl ?_
  have hbl := byte_rows_len b
  refine ⟨some ([1], [0, 1, 2, 3, 5, 6, 7, 8, 9, 4, 10, 11]), by kernel_rfl, ?_⟩
  refine ⟨fun hne => ?_, fun he p => ?_⟩
  · refine ⟨by kernel_rfl, by kernel_rfl, b, rfl, fun h => hne (by rw [h]; rfl), by rw [hbl], ?_⟩
    exact ⟨.v (.string (bs b)), [(0, .dead), (1, .dead)], 2, [(0, 0), (1, 1)], ⟨⟨rfl, trivial⟩, ⟨trivial, trivial, trivial⟩⟩, hK⟩
  · have hb : b = [] := by cases b with
      | nil => rfl
      | cons x r => cases he
    subst hb
    refine ⟨rfl, ?_⟩
    exact ⟨.v (.string (bs [])), [(0, .dead), (1, .dead)], 2, [(0, 0), (1, 1)], ⟨⟨rfl, trivial⟩, ⟨trivial, trivial, trivial⟩⟩, hK⟩
end Go.Proofs
