/- PruneRuns returns true for every input: the whole claim. No condition. -/
import Derived.Test.YtpcgdleccebjpaaGreatM19
import Derived.Test.YtpcgdleccebjpaaGreatM23
namespace Go.Proofs.YtpcgdleccebjpaaGreat
open Go.Sy
open Go.ChangeShapes Go.WideShapes Go.ChangeAt Go.RowKit

set_option maxRecDepth 100000 in
theorem lifted (os : Os) (started : os.Started) (H : Type) (enc : TypeId × Value → H) :
    ReturnsInHanded {} Tryz.checked os 3 .any (Rows.pruneRunsSpec.pre6 enc Tryz.prog Tryz.f3 Rows.pruneRunsRow.domain false) (Rows.pruneRunsSpec.post enc Tryz.prog Tryz.f3 false true false false) := by
  refine returnsInHanded_of_change (C := Tryz.checked) own started (by kernel_rfl) Tryz.func3
    (ChangeSpec.witness6 (enc := enc) (C := Tryz.checked) false ⟨#[], #[.agg #[.slice none 0 0], .slice none 0 0, .int .i64 0], []⟩ 3 (by kernel_rfl) (by kernel_rfl) (by kernel_rfl) (by kernel_rfl)) ?_
  intro W base args ds gs before hval0 hW hcnd _
  have hval : ∀ (j : Nat) t v, Tryz.f3.params[j]? = some t → args[j]? = some v → Value.okWide Tryz.prog W .any base t v := hval0
  have hW' := hW
  obtain ⟨p, q, hA0, hV, rfl, hfz, hnd⟩ := hW
  have hA : DataW.TrodAll enc Tryz.prog W 0 (fun _ => true) true Tryz.f3.params.toList args.toList ds p := hA0
  rw [Tryz.params3] at hA hval
  obtain ⟨v0, vs0, d0, ds0, p0, q0, hargs, rfl, rfl, h0, r0⟩ := trodAll_cons hA
  obtain ⟨v1, vs1, d1, ds1, p1, q1, rfl, rfl, rfl, h1, r1⟩ := trodAll_cons r0
  obtain ⟨v2, vs2, d2, ds2, p2, q2, rfl, rfl, rfl, h2, r2⟩ := trodAll_cons r1
  obtain ⟨rfl, rfl, rfl⟩ := trodAll_nil r2
  obtain rfl : args = #[v0, v1, v2] := by cases args; simp_all
  obtain ⟨rfl, rfl⟩ := trodVars_none hV
  obtain ⟨c0, rfl, -⟩ := okWide_struct (tt_ok 24 _ _ rfl).2 (hval 0 24 v0 rfl rfl)
  obtain ⟨sa1, sn1, sc1, rfl⟩ := okWide_slice (tt_ok 25 _ _ rfl).2 (hval 1 25 v1 rfl rfl)
  obtain ⟨x2, rfl⟩ := okWide_int (tt_ok 3 _ _ rfl).2 (hval 2 3 v2 rfl rfl)
  obtain ⟨b0, e00⟩ := opens_val oProg h0
  obtain ⟨a0, m0, k0, e0, hl0⟩ := e00
  obtain ⟨b1, a1, m1, k1, e1, hl1⟩ := opens_val oNums h1
  simp only [Value.cells, List.cons.injEq, and_true, Value.slice.injEq] at e1
  obtain ⟨rfl, rfl, rfl⟩ := e1
  refine law_post (tb := 4) laidOut (by kernel_rfl) (by kernel_rfl) (by kernel_rfl) rfl rfl rfl rfl hW' ?_
  have := PruneRuns_spec (H := hpOf W) (K := fun v _ => v = .bool true) hl0 hl1 x2 (fun _ _ => rfl)
  rw [← Array.toArray_toList (xs := c0)]
  simp only [Value.cells] at e0
  rw [e0]
  exact this

theorem PruneRuns_holds : Rows.PruneRunsSaid :=
  OpenClaim.holds_of_wide 3 Tryz.f3 rfl rfl rfl rfl rfl rfl rfl ⟨rfl, rfl, rfl, rfl, rfl⟩ rfl rfl rfl rfl rfl (by kernel_rfl) Tryz.func3 (by kernel_rfl)
    (of_decide_eq_true (by kernel_rfl)) (by unfold Func.isWrapper; first | (rw [if_pos (by decide +kernel)]; kernel_rfl) | (rw [if_neg (by decide +kernel)]; exact ⟨rfl, rfl⟩))
    (fun os started H enc _ => lifted os started H enc)
#print axioms PruneRuns_holds
end Go.Proofs.YtpcgdleccebjpaaGreat
