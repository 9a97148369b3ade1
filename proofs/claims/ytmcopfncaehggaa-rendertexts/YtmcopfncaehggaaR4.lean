/- Part 'R4' of the proof: lemmas, each with its own conditions in its own statement. -/
import Derived.Test.YtmcopfncaehggaaR3
import Derived.Test.YtmcopfncaehggaaE12
namespace Go.Proofs
open Go.Sy
set_option maxRecDepth 20000
theorem str_open' {H : Hp} {cs : List Value} {r : Str} (h : Enc.R H cs r) : cs = [.string (bs r.l)] := h.1
def badS (s : Str) : Bool := !prB s.l
theorem bad_spec {s : List UInt8} (hs : s.length ≤ 9223372036854775807) {H : Hp} {K : Value → Hp → Prop} (hK : K (.bool (!prB s)) H) : Does Try.prog 44 [.string (bs s)] H K := by
  refine spec_of cx_ok cx_mix rfl Try.func44 Try.call44 Try.ntmps44 Try.results44 rfl rfl ?_
  refine printable_spec hs ?_
  exact hK
theorem any_take_succ' {α : Type} (l : List α) (f : α → Bool) {j : Nat} {x : α} (h : l[j]? = some x) : (l.take (j+1)).any f = ((l.take j).any f || f x) := any_take_succ l f j x h
theorem any_true {α : Type} (l : List α) (f : α → Bool) {j : Nat} {x : α} (h : l[j]? = some x) (hf : f x = true) : l.any f = true := by
  rw [List.any_eq_true]; exact ⟨x, List.mem_of_getElem? h, hf⟩
theorem indexfunc_spec {l : List Str} {a1 : Option Addr} {n1 c1 : Nat} {H : Hp} {K : Value → Hp → Prop} (ha : RL H a1 n1 c1 l) (hK : ∀ r : Int, (0 ≤ r ↔ l.any badS = true) → K (.int .i64 r) H) :
    Does Try.prog 72 [.slice a1 n1 c1, .func (.func 44) #[] #[]] H K := by
  have hn1 := ha.n_eq
  have hmx := ha.le
  refine spec_of cx_ok cx_mix rfl Try.func72 Try.call72 Try.ntmps72 Try.results72 rfl rfl ?_
  refine ⟨Nat, fun i => ⟨[(0, .v (.slice a1 n1 c1)), (1, .fn 44 []), (7, .v (.int .i64 n1)), (8, .v (.int .i64 i))], [], 0⟩, fun i H' => H' = H ∧ i ≤ l.length ∧ (l.take i).any badS = false, fun i => l.length - i, ⟨0, [], ?_, rfl, by omega, rfl⟩, ?_⟩
  · exact ⟨⟨rfl, ⟨rfl, rfl⟩, rfl, rfl, trivial⟩, trivial⟩
  rintro i H1 _ ⟨rfl, hi, hany⟩
  refine ⟨fun h => ?_, fun h => ?_⟩
  · have hlt : i < l.length := by have := dt h; omega
    have hx := List.getElem?_eq_getElem hlt
    have hel := ha.elem hx
    obtain ⟨ad, cs, e1, hh, r1⟩ := hel
    have hsl := r1.2
    rw [str_open' r1] at hh
    refine ⟨ad, ⟨by omega, by omega, e1⟩, ?_⟩
    refine ⟨_, hh, ?_⟩
    refine bad_spec hsl ?_
    refine ⟨fun h => ?_, fun h => ?_⟩
    · exact hK i ⟨fun _ => any_true l badS hx h, fun _ => by omega⟩
    · refine ⟨⟨by omega, by omega⟩, i + 1, [], ?_, ⟨rfl, by omega, by rw [any_take_succ' l badS hx, hany, badS, h]; rfl⟩, by dsimp only; omega⟩
      exact ⟨⟨rfl, ⟨rfl, rfl⟩, rfl, rfl, trivial⟩, trivial⟩
  · have hil : i = l.length := by have := df h; omega
    rw [hil, List.take_length] at hany
    exact hK (-1) ⟨fun h => by omega, fun h => by rw [hany] at h; cases h⟩
theorem contains_spec {l : List Str} {a1 : Option Addr} {n1 c1 : Nat} {H : Hp} {K : Value → Hp → Prop} (ha : RL H a1 n1 c1 l) (hK : K (.bool (l.any badS)) H) :
    Does Try.prog 49 [.slice a1 n1 c1, .func (.func 44) #[] #[]] H K := by
  refine spec_of cx_ok cx_mix rfl Try.func49 Try.call49 Try.ntmps49 Try.results49 rfl rfl ?_
  refine indexfunc_spec ha fun r hr => ?_
  refine kbool hK ?_
  rw [Bool.eq_iff_iff, ← hr, decide_eq_true_iff]
theorem all_spec {l : List Str} {a1 : Option Addr} {n1 c1 : Nat} {H : Hp} {K : Value → Hp → Prop} (ha : RL H a1 n1 c1 l) (hK : K (.bool (!l.any badS)) H) : Does Try.prog 51 [.slice a1 n1 c1] H K := by
  have hn1 := ha.n_eq
  have hmx := ha.le
  refine spec_of cx_ok cx_mix rfl Try.func51 Try.call51 Try.ntmps51 Try.results51 rfl rfl ?_
  refine ⟨Nat, fun i => ⟨[(5, .v (.slice a1 n1 c1)), (6, .v (.int .i64 n1)), (7, .v (.int .i64 i))], [], 0⟩, fun i H' => H' = H ∧ i ≤ l.length ∧ (l.take i).any badS = false, fun i => l.length - i, ⟨0, [], ?_, rfl, by omega, rfl⟩, ?_⟩
  · exact ⟨⟨rfl, rfl, rfl, trivial⟩, trivial⟩
  rintro i H1 _ ⟨rfl, hi, hany⟩
  refine ⟨fun h => ?_, fun h => ?_⟩
  · have hlt : i < l.length := by have := dt h; omega
    have hx := List.getElem?_eq_getElem hlt
    have hel := ha.elem hx
    obtain ⟨ad, cs, e1, hh, r1⟩ := hel
    have hsl := r1.2
    rw [str_open' r1] at hh
    refine ⟨ad, ⟨by omega, by omega, e1⟩, ?_⟩
    refine ⟨_, hh, ?_⟩
    refine refprintable_spec hsl ?_
    refine ⟨fun h => ?_, fun h => ?_⟩
    · exact kbool hK (by rw [any_true l badS hx h]; rfl)
    · refine ⟨⟨by omega, by omega⟩, i + 1, [], ?_, ⟨rfl, by omega, by rw [any_take_succ' l badS hx, hany, badS, h]; rfl⟩, by dsimp only; omega⟩
      exact ⟨⟨rfl, rfl, rfl, trivial⟩, trivial⟩
  · have hil : i = l.length := by have := df h; omega
    rw [hil, List.take_length] at hany
    exact kbool hK (by rw [hany]; rfl)
end Go.Proofs
