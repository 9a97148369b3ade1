/- FoldParts returns true for every input, and each argument reads afterwards as it read before. No condition. -/
import Derived.Test.YtmcopfncaehggaaV7
import Derived.Test.YtmcopfncaehggaaFrame
import Derived.Test.YtmcopfncaehggaaRows
namespace Go.Proofs.Ytmcopfncaehggaa
open Go.Sy
open Go.ChangeShapes Go.WideShapes Go.ChangeAt Go.RowKit

set_option maxRecDepth 100000
theorem own : ownKnob Try.prog.godebug = none := by kernel_rfl
theorem laidOut : laidOutB Try.prog = true := by kernel_rfl

theorem o3 : Opens Try.prog 3 Int := opens_int (by kernel_rfl) (by kernel_rfl)
theorem o9 : Opens Try.prog 9 Str := opens_str (by kernel_rfl) (by kernel_rfl)
theorem o96 : Opens Try.prog 96 UInt64 := opens_u64 (by kernel_rfl) (by kernel_rfl)
theorem o49 : Opens Try.prog 49 (List UInt64) := opens_list (by kernel_rfl) (tt_ok 49 _ _ rfl).2 o96 (by decide)
theorem o51 : Opens Try.prog 51 Nm := opens_struct (by kernel_rfl) (tt_ok 51 _ _ rfl).2 (opensF_cons rfl (by decide) o3 (opensF_one rfl o3))
theorem o53 : Opens Try.prog 53 Atm := opens_struct (by kernel_rfl) (tt_ok 53 _ _ rfl).2 (opensF_cons rfl (by decide) o9 (opensF_one rfl o51))
theorem o55 : Opens Try.prog 55 Expr := opens_struct (by kernel_rfl) (tt_ok 55 _ _ rfl).2 (opensF_cons rfl (by decide) o3 (opensF_cons rfl (by decide) o53 (opensF_one rfl o53)))
theorem o91 : Opens Try.prog 91 Stmt := opens_struct (by kernel_rfl) (tt_ok 91 _ _ rfl).2 (opensF_cons rfl (by decide) o3 (opensF_cons rfl (by decide) o9 (opensF_one rfl o55)))
theorem o87 : Opens Try.prog 87 Term := opens_struct (by kernel_rfl) (tt_ok 87 _ _ rfl).2 (opensF_cons rfl (by decide) o3 (opensF_cons rfl (by decide) o53 (opensF_cons rfl (by decide) o9 (opensF_one rfl o9))))
theorem o85 : Opens Try.prog 85 (List Stmt) := opens_list (by kernel_rfl) (tt_ok 85 _ _ rfl).2 o91 (by decide)
theorem o89 : Opens Try.prog 89 Block := opens_struct (by kernel_rfl) (tt_ok 89 _ _ rfl).2 (opensF_cons rfl (by decide) o9 (opensF_cons rfl (by decide) o85 (opensF_one rfl o87)))
theorem o46 : Opens Try.prog 46 (List Block) := opens_list (by kernel_rfl) (tt_ok 46 _ _ rfl).2 o89 (by decide)
theorem o48 : Opens Try.prog 48 Prog := opens_struct (by kernel_rfl) (tt_ok 48 _ _ rfl).2 (opensF_one rfl o46)

set_option maxRecDepth 100000 in
theorem lifted (os : Os) (started : os.Started) (H : Type) (enc : TypeId × Value → H) :
    ReturnsInHanded {} Try.checked os 8 .any (Rows.foldPartsSpec.pre6 enc Try.prog Try.f8 Rows.foldPartsRow.domain false) (Rows.foldPartsSpec.post enc Try.prog Try.f8 false true false false) := by
  refine returnsInHanded_of_change (C := Try.checked) own started (by kernel_rfl) Try.func8
    (ChangeSpec.witness6 (enc := enc) (C := Try.checked) false ⟨#[], #[.agg #[.slice none 0 0], .slice none 0 0, .agg #[.int .i64 0, .string ⟨#[]⟩, .int .i64 0, .int .i64 0, .string ⟨#[]⟩, .int .i64 0, .int .i64 0]], []⟩ 8 (by kernel_rfl) (by kernel_rfl) (by kernel_rfl) (by kernel_rfl)) ?_
  intro W base args ds gs before hval0 hW hcnd _
  have hval : ∀ (j : Nat) t v, Try.f8.params[j]? = some t → args[j]? = some v → Value.okWide Try.prog W .any base t v := hval0
  have hW' := hW
  obtain ⟨p, q, hA0, hV, rfl, hfz, hnd⟩ := hW
  have hA : DataW.TrodAll enc Try.prog W 0 (fun _ => true) true Try.f8.params.toList args.toList ds p := hA0
  rw [Try.params8] at hA hval
  obtain ⟨v0, vs0, d0, ds0, p0, q0, hargs, rfl, rfl, h0, r0⟩ := trodAll_cons hA
  obtain ⟨v1, vs1, d1, ds1, p1, q1, rfl, rfl, rfl, h1, r1⟩ := trodAll_cons r0
  obtain ⟨v2, vs2, d2, ds2, p2, q2, rfl, rfl, rfl, h2, r2⟩ := trodAll_cons r1
  obtain ⟨rfl, rfl, rfl⟩ := trodAll_nil r2
  obtain rfl : args = #[v0, v1, v2] := by cases args; simp_all
  obtain ⟨rfl, rfl⟩ := trodVars_none hV
  obtain ⟨c0, rfl, -⟩ := okWide_struct (tt_ok 48 _ _ rfl).2 (hval 0 48 v0 rfl rfl)
  obtain ⟨sa, sn, sc, rfl⟩ := okWide_slice (tt_ok 49 _ _ rfl).2 (hval 1 49 v1 rfl rfl)
  obtain ⟨c2, rfl, -⟩ := okWide_struct (tt_ok 55 _ _ rfl).2 (hval 2 55 v2 rfl rfl)
  obtain ⟨b0, e0⟩ := opens_val o48 h0
  obtain ⟨b1, a1, m1, k1, e1, hl1⟩ := opens_val o49 h1
  obtain ⟨b2, e2⟩ := opens_val o55 h2
  simp only [Value.cells, List.cons.injEq, and_true, Value.slice.injEq] at e1
  obtain ⟨rfl, rfl, rfl⟩ := e1
  refine law_post (tb := 4) laidOut (by kernel_rfl) (by kernel_rfl) (by kernel_rfl) rfl rfl rfl rfl hW' ?_
  have := FoldParts_spec (H := hpOf W) (K := fun v _ => v = .bool true) e0 hl1 e2 (fun _ _ => rfl)
  simp only [Value.cells, Array.toArray_toList] at this
  exact this

theorem FoldParts_holds : Rows.FoldPartsSaid :=
  OpenClaim.holds_of_wide 8 Try.f8 rfl rfl rfl rfl rfl rfl rfl ⟨rfl, rfl, rfl, rfl, rfl⟩ rfl rfl rfl rfl rfl (by kernel_rfl) Try.func8 (by kernel_rfl)
    (of_decide_eq_true (by kernel_rfl)) (by unfold Func.isWrapper; first | (rw [if_pos (by decide +kernel)]; kernel_rfl) | (rw [if_neg (by decide +kernel)]; exact ⟨rfl, rfl⟩))
    (fun os started H enc _ => lifted os started H enc)
#print axioms FoldParts_holds
end Go.Proofs.Ytmcopfncaehggaa
