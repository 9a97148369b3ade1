/- FlowPrograms returns true for every input, and its argument reads afterwards as it read before. No condition. -/
import Derived.Test.YtjflpceoeofomaaP7
import Derived.Test.YtjflpceoeofomaaOps
namespace Go.Proofs.Ytjflpceoeofomaa
open Go.Sy
open Go.ChangeShapes Go.WideShapes Go.ChangeAt Go.RowKit

set_option maxRecDepth 100000 in
theorem lifted (os : Os) (started : os.Started) (H : Type) (enc : TypeId × Value → H) :
    ReturnsInHanded {} Try.checked os 3 .any (Rows.flowProgramsSpec.pre6 enc Try.prog Try.f3 Rows.flowProgramsRow.domain false) (Rows.flowProgramsSpec.post enc Try.prog Try.f3 false true false false) := by
  refine returnsInHanded_of_change (C := Try.checked) own started (by kernel_rfl) Try.func3
    (ChangeSpec.witness6 (enc := enc) (C := Try.checked) false ⟨#[], #[.agg #[.slice none 0 0]], []⟩ 3 (by kernel_rfl) (by kernel_rfl) (by kernel_rfl) (by kernel_rfl)) ?_
  intro W base args ds gs before hval0 hW hcnd _
  have hval : ∀ (j : Nat) t v, Try.f3.params[j]? = some t → args[j]? = some v → Value.okWide Try.prog W .any base t v := hval0
  have hW' := hW
  obtain ⟨p, q, hA0, hV, rfl, hfz, hnd⟩ := hW
  have hA : DataW.TrodAll enc Try.prog W 0 (fun _ => true) true Try.f3.params.toList args.toList ds p := hA0
  rw [Try.params3] at hA hval
  obtain ⟨v0, vs0, d0, ds0, p0, q0, hargs, rfl, rfl, h0, r0⟩ := trodAll_cons hA
  obtain ⟨rfl, rfl, rfl⟩ := trodAll_nil r0
  obtain rfl : args = #[v0] := by cases args; simp_all
  obtain ⟨rfl, rfl⟩ := trodVars_none hV
  obtain ⟨c0, rfl, -⟩ := okWide_struct (tt_ok 24 _ _ rfl).2 (hval 0 24 v0 rfl rfl)
  obtain ⟨b0, e0⟩ := opens_val o24 h0
  obtain ⟨a1, m1, k1, e1, hl1⟩ := e0
  refine law_post (tb := 4) laidOut (by kernel_rfl) (by kernel_rfl) (by kernel_rfl) rfl rfl rfl rfl hW' ?_
  have := FlowPrograms_spec (H := hpOf W) (K := fun v _ => v = .bool true) hl1 (fun _ _ => rfl)
  rw [← Array.toArray_toList (xs := c0)]
  simp only [Value.cells] at e1
  rw [e1]
  exact this

theorem FlowPrograms_holds : Rows.FlowProgramsSaid :=
  OpenClaim.holds_of_wide 3 Try.f3 rfl rfl rfl rfl rfl rfl rfl ⟨rfl, rfl, rfl, rfl, rfl⟩ rfl rfl rfl rfl rfl (by kernel_rfl) Try.func3 (by kernel_rfl)
    (of_decide_eq_true (by kernel_rfl)) (by unfold Func.isWrapper; first | (rw [if_pos (by decide +kernel)]; kernel_rfl) | (rw [if_neg (by decide +kernel)]; exact ⟨rfl, rfl⟩))
    (fun os started H enc _ => lifted os started H enc)
#print axioms FlowPrograms_holds
end Go.Proofs.Ytjflpceoeofomaa
