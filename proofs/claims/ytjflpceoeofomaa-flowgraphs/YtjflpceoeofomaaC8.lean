/- FlowGraphs returns true for every input, and each argument reads afterwards as it read before. No condition. -/
import Derived.Test.YtjflpceoeofomaaR4
import Derived.Test.YtjflpceoeofomaaOps
namespace Go.Proofs.Ytjflpceoeofomaa
open Go.Sy
open Go.ChangeShapes Go.WideShapes Go.ChangeAt Go.RowKit

set_option maxRecDepth 100000 in
theorem lifted (os : Os) (started : os.Started) (H : Type) (enc : TypeId × Value → H) :
    ReturnsInHanded {} Try.checked os 8 .any (Rows.flowGraphsSpec.pre6 enc Try.prog Try.f8 Rows.flowGraphsRow.domain false) (Rows.flowGraphsSpec.post enc Try.prog Try.f8 false true false false) := by
  refine returnsInHanded_of_change (C := Try.checked) own started (by kernel_rfl) Try.func8
    (ChangeSpec.witness6 (enc := enc) (C := Try.checked) false ⟨#[], #[.int .i64 0, .slice none 0 0, .int .i64 0, .slice none 0 0], []⟩ 8 (by kernel_rfl) (by kernel_rfl) (by kernel_rfl) (by kernel_rfl)) ?_
  intro W base args ds gs before hval0 hW hcnd _
  have hval : ∀ (j : Nat) t v, Try.f8.params[j]? = some t → args[j]? = some v → Value.okWide Try.prog W .any base t v := hval0
  have hW' := hW
  obtain ⟨p, q, hA0, hV, rfl, hfz, hnd⟩ := hW
  have hA : DataW.TrodAll enc Try.prog W 0 (fun _ => true) true Try.f8.params.toList args.toList ds p := hA0
  rw [Try.params8] at hA hval
  obtain ⟨v0, vs0, d0, ds0, p0, q0, hargs, rfl, rfl, h0, r0⟩ := trodAll_cons hA
  obtain ⟨v1, vs1, d1, ds1, p1, q1, rfl, rfl, rfl, h1, r1⟩ := trodAll_cons r0
  obtain ⟨v2, vs2, d2, ds2, p2, q2, rfl, rfl, rfl, h2, r2⟩ := trodAll_cons r1
  obtain ⟨v3, vs3, d3, ds3, p3, q3, rfl, rfl, rfl, h3, r3⟩ := trodAll_cons r2
  obtain ⟨rfl, rfl, rfl⟩ := trodAll_nil r3
  obtain rfl : args = #[v0, v1, v2, v3] := by cases args; simp_all
  obtain ⟨rfl, rfl⟩ := trodVars_none hV
  obtain ⟨x0, rfl, i0⟩ := okWide_int (tt_ok 3 _ _ rfl).2 (hval 0 3 v0 rfl rfl)
  obtain ⟨sa1, sn1, sc1, rfl⟩ := okWide_slice (tt_ok 38 _ _ rfl).2 (hval 1 38 v1 rfl rfl)
  obtain ⟨x2, rfl, i2⟩ := okWide_int (tt_ok 3 _ _ rfl).2 (hval 2 3 v2 rfl rfl)
  obtain ⟨sa3, sn3, sc3, rfl⟩ := okWide_slice (tt_ok 27 _ _ rfl).2 (hval 3 27 v3 rfl rfl)
  obtain ⟨b1, a1, m1, k1, e1, hl1⟩ := opens_val o38 h1
  simp only [Value.cells, List.cons.injEq, and_true, Value.slice.injEq] at e1
  obtain ⟨rfl, rfl, rfl⟩ := e1
  obtain ⟨b3, a3, m3, k3, e3, hl3⟩ := opens_val o27 h3
  simp only [Value.cells, List.cons.injEq, and_true, Value.slice.injEq] at e3
  obtain ⟨rfl, rfl, rfl⟩ := e3
  refine law_post (tb := 4) laidOut (by kernel_rfl) (by kernel_rfl) (by kernel_rfl) rfl rfl rfl rfl hW' ?_
  exact FlowGraphs_spec (H := hpOf W) (K := fun v _ => v = .bool true) hl1 hl3 (fun _ _ => rfl)

theorem FlowGraphs_holds : Rows.FlowGraphsSaid :=
  OpenClaim.holds_of_wide 8 Try.f8 rfl rfl rfl rfl rfl rfl rfl ⟨rfl, rfl, rfl, rfl, rfl⟩ rfl rfl rfl rfl rfl (by kernel_rfl) Try.func8 (by kernel_rfl)
    (of_decide_eq_true (by kernel_rfl)) (by unfold Func.isWrapper; first | (rw [if_pos (by decide +kernel)]; kernel_rfl) | (rw [if_neg (by decide +kernel)]; exact ⟨rfl, rfl⟩))
    (fun os started H enc _ => lifted os started H enc)
#print axioms FlowGraphs_holds
end Go.Proofs.Ytjflpceoeofomaa
