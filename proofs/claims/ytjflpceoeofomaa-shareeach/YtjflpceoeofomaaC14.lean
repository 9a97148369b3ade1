/- ShareEach returns true for every input: the whole claim. No condition. -/
import Derived.Test.YtjflpceoeofomaaM14
import Derived.Test.YtjflpceoeofomaaM21
namespace Go.Proofs.Ytjflpceoeofomaa
open Go.Sy
open Go.ChangeShapes Go.WideShapes Go.ChangeAt Go.RowKit

set_option maxRecDepth 100000 in
theorem lifted (os : Os) (started : os.Started) (H : Type) (enc : TypeId × Value → H) :
    ReturnsInHanded {} Try.checked os 14 .any (Rows.shareEachSpec.pre6 enc Try.prog Try.f14 Rows.shareEachRow.domain false) (Rows.shareEachSpec.post enc Try.prog Try.f14 false true false false) := by
  refine returnsInHanded_of_change (C := Try.checked) own started (by kernel_rfl) Try.func14
    (ChangeSpec.witness6 (enc := enc) (C := Try.checked) false ⟨#[], #[.int .i64 0, .slice none 0 0, .slice none 0 0, .int .i64 0], []⟩ 14 (by kernel_rfl) (by kernel_rfl) (by kernel_rfl) (by kernel_rfl)) ?_
  intro W base args ds gs before hval0 hW hcnd _
  have hval : ∀ (j : Nat) t v, Try.f14.params[j]? = some t → args[j]? = some v → Value.okWide Try.prog W .any base t v := hval0
  have hW' := hW
  obtain ⟨p, q, hA0, hV, rfl, hfz, hnd⟩ := hW
  have hA : DataW.TrodAll enc Try.prog W 0 (fun _ => true) true Try.f14.params.toList args.toList ds p := hA0
  rw [Try.params14] at hA hval
  obtain ⟨v0, vs0, d0, ds0, p0, q0, hargs, rfl, rfl, h0, r0⟩ := trodAll_cons hA
  obtain ⟨v1, vs1, d1, ds1, p1, q1, rfl, rfl, rfl, h1, r1⟩ := trodAll_cons r0
  obtain ⟨v2, vs2, d2, ds2, p2, q2, rfl, rfl, rfl, h2, r2⟩ := trodAll_cons r1
  obtain ⟨v3, vs3, d3, ds3, p3, q3, rfl, rfl, rfl, h3, r3⟩ := trodAll_cons r2
  obtain ⟨rfl, rfl, rfl⟩ := trodAll_nil r3
  obtain rfl : args = #[v0, v1, v2, v3] := by cases args; simp_all
  obtain ⟨rfl, rfl⟩ := trodVars_none hV
  obtain ⟨x0, rfl, i0⟩ := okWide_int (tt_ok 3 _ _ rfl).2 (hval 0 3 v0 rfl rfl)
  obtain ⟨sa1, sn1, sc1, rfl⟩ := okWide_slice (tt_ok 38 _ _ rfl).2 (hval 1 38 v1 rfl rfl)
  obtain ⟨sa2, sn2, sc2, rfl⟩ := okWide_slice (tt_ok 27 _ _ rfl).2 (hval 2 27 v2 rfl rfl)
  obtain ⟨x3, rfl, i3⟩ := okWide_int (tt_ok 3 _ _ rfl).2 (hval 3 3 v3 rfl rfl)
  obtain ⟨b1, a1, m1, k1, e1, hl1⟩ := opens_val o38 h1
  simp only [Value.cells, List.cons.injEq, and_true, Value.slice.injEq] at e1
  obtain ⟨rfl, rfl, rfl⟩ := e1
  obtain ⟨b2, a2, m2, k2, e2, hl2⟩ := opens_val o27 h2
  simp only [Value.cells, List.cons.injEq, and_true, Value.slice.injEq] at e2
  obtain ⟨rfl, rfl, rfl⟩ := e2
  refine law_post (tb := 4) laidOut (by kernel_rfl) (by kernel_rfl) (by kernel_rfl) rfl rfl rfl rfl hW' ?_
  exact ShareEach_spec (H := hpOf W) (K := fun v _ => v = .bool true) hl1 hl2 (fun _ _ => rfl)

theorem ShareEach_holds : Rows.ShareEachSaid :=
  OpenClaim.holds_of_wide 14 Try.f14 rfl rfl rfl rfl rfl rfl rfl ⟨rfl, rfl, rfl, rfl, rfl⟩ rfl rfl rfl rfl rfl (by kernel_rfl) Try.func14 (by kernel_rfl)
    (of_decide_eq_true (by kernel_rfl)) (by unfold Func.isWrapper; first | (rw [if_pos (by decide +kernel)]; kernel_rfl) | (rw [if_neg (by decide +kernel)]; exact ⟨rfl, rfl⟩))
    (fun os started H enc _ => lifted os started H enc)
#print axioms ShareEach_holds
end Go.Proofs.Ytjflpceoeofomaa
