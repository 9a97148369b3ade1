/- RenderTexts returns true for every input, and each argument reads afterwards as it read before. No condition. -/
import Derived.Test.YtmcopfncaehggaaR10
import Derived.Test.YtmcopfncaehggaaFrame
import Derived.Test.YtmcopfncaehggaaRows
namespace Go.Proofs.Ytmcopfncaehggaa
open Go.Sy
open Go.ChangeShapes Go.WideShapes Go.ChangeAt Go.RowKit

set_option maxRecDepth 100000
theorem own : ownKnob Try.prog.godebug = none := by kernel_rfl
theorem laidOut : laidOutB Try.prog = true := by kernel_rfl

theorem o3 : Opens Try.prog 3 Int := opens_int (by kernel_rfl) (by kernel_rfl)
theorem o9 : Opens Try.prog 9 Str := opens_str (by kernel_rfl) (by kernel_rfl)
theorem o60 : Opens Try.prog 60 (List Str) := opens_list (by kernel_rfl) (tt_ok 60 _ _ rfl).2 o9 (by decide)
theorem o62 : Opens Try.prog 62 Row := opens_struct (by kernel_rfl) (tt_ok 62 _ _ rfl).2
  (opensF_cons rfl (by decide) o9 (opensF_cons rfl (by decide) o60 (opensF_one rfl o60)))
theorem o22 : Opens Try.prog 22 (List Row) := opens_list (by kernel_rfl) (tt_ok 22 _ _ rfl).2 o62 (by decide)
theorem o24 : Opens Try.prog 24 Report := opens_struct (by kernel_rfl) (tt_ok 24 _ _ rfl).2
  (opensF_cons rfl (by decide) o3 (opensF_one rfl o22))

set_option maxRecDepth 100000 in
theorem lifted (os : Os) (started : os.Started) (H : Type) (enc : TypeId × Value → H) :
    ReturnsInHanded {} Try.checked os 4 .any (Rows.renderTextsSpec.pre6 enc Try.prog Try.f4 Rows.renderTextsRow.domain false) (Rows.renderTextsSpec.post enc Try.prog Try.f4 false true false false) := by
  refine returnsInHanded_of_change (C := Try.checked) own started (by kernel_rfl) Try.func4
    (ChangeSpec.witness6 (enc := enc) (C := Try.checked) false ⟨#[], #[.agg #[.int .i64 0, .slice none 0 0]], []⟩ 8 (by kernel_rfl) (by kernel_rfl) (by kernel_rfl) (by kernel_rfl)) ?_
  intro W base args ds gs before hval0 hW hcnd _
  have hval : ∀ (j : Nat) t v, Try.f4.params[j]? = some t → args[j]? = some v → Value.okWide Try.prog W .any base t v := hval0
  have hW' := hW
  obtain ⟨p, q, hA0, hV, rfl, hfz, hnd⟩ := hW
  have hA : DataW.TrodAll enc Try.prog W 0 (fun _ => true) true Try.f4.params.toList args.toList ds p := hA0
  rw [Try.params4] at hA hval
  obtain ⟨v0, vs0, d0, ds0, p0, q0, hargs, rfl, rfl, h0, r0⟩ := trodAll_cons hA
  obtain ⟨rfl, rfl, rfl⟩ := trodAll_nil r0
  obtain rfl : args = #[v0] := by cases args; simp_all
  obtain ⟨rfl, rfl⟩ := trodVars_none hV
  obtain ⟨c0, rfl, -⟩ := okWide_struct (tt_ok 24 _ _ rfl).2 (hval 0 24 v0 rfl rfl)
  obtain ⟨b0, e0⟩ := opens_val o24 h0
  refine law_post (tb := 4) laidOut (by kernel_rfl) (by kernel_rfl) (by kernel_rfl) rfl rfl rfl rfl hW' ?_
  have := RenderTexts_spec (H := hpOf W) (K := fun v _ => v = .bool true) e0 (fun _ _ => rfl)
  simp only [Value.cells, Array.toArray_toList] at this
  exact this

theorem RenderTexts_holds : Rows.RenderTextsSaid :=
  OpenClaim.holds_of_wide 4 Try.f4 rfl rfl rfl rfl rfl rfl rfl ⟨rfl, rfl, rfl, rfl, rfl⟩ rfl rfl rfl rfl rfl (by kernel_rfl) Try.func4 (by kernel_rfl)
    (of_decide_eq_true (by kernel_rfl)) (by unfold Func.isWrapper; first | (rw [if_pos (by decide +kernel)]; kernel_rfl) | (rw [if_neg (by decide +kernel)]; exact ⟨rfl, rfl⟩))
    (fun os started H enc _ => lifted os started H enc)
#print axioms RenderTexts_holds
end Go.Proofs.Ytmcopfncaehggaa
