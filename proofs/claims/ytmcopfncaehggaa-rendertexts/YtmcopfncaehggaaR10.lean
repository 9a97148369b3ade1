/- Part 'R10' of the proof: lemmas, each with its own conditions in its own statement. -/
import Derived.Test.YtmcopfncaehggaaR9
namespace Go.Proofs
open Go.Sy
set_option maxRecDepth 20000
def exR : Report := (1, [(⟨[97]⟩, [⟨[120]⟩], [])])
theorem ex_right : rightB exR = true := by decide
theorem ex_text : textT exR = [114,101,112,111,114,116,32,108,105,118,101,10,98,108,111,99,107,32,97,10,105,110,32,120,10,101,110,100,10] := by decide
theorem awake43 {H : Hp} {K : Value → Hp → Prop} (hK : ∀ H', Le H H' → K (.bool true) H') : Does Try.prog 16 [] H K := by
  have e1 : (if rightB exR = true then (0 : Int) else 12) = 0 := by rw [ex_right]; rfl
  have e2 : (if rightB exR = true then textT exR else []) = [114,101,112,111,114,116,32,108,105,118,101,10,98,108,111,99,107,32,97,10,105,110,32,120,10,101,110,100,10] := by rw [ex_right, if_pos rfl, ex_text]
  refine spec_of cx_ok cx_mix rfl Try.func16 Try.call16 Try.ntmps16 Try.results16 rfl rfl ?_
  intro x H1 hle1 hx
  obtain ⟨a2, n2, c2, ex, hr2⟩ := one_str (s := [120]) (by decide) hx
  subst ex
  intro x3 H3 hle3 hx3
  have hnil : RL H3 none 0 0 ([] : List Str) := ⟨rfl, Nat.le_refl _, by omega, .inl rfl⟩
  have hrow : Enc.R H3 [.string (bs [97]), .slice a2 n2 c2, .slice none 0 0] ((⟨[97]⟩, [⟨[120]⟩], []) : Row) :=
    ⟨[_], [_, _], rfl, ⟨rfl, by decide⟩, [_], [_], rfl, ⟨a2, n2, c2, rfl, hr2.up hle3⟩, ⟨none, 0, 0, rfl, hnil⟩⟩
  obtain ⟨a3, n3, c3, e3, hr3⟩ := RL.of_row (α := Row) hx3 (RC.nil.snoc hrow)
  subst e3
  have hrep : Enc.R H3 [.int .i64 1, .slice a3 n3 c3] exR := ⟨[_], [_], rfl, ⟨rfl, by decide⟩, ⟨a3, n3, c3, rfl, hr3⟩⟩
  refine text_spec hrep (by decide) fun H4 hle4 => ?_
  refine ⟨fun h => ?_, fun h => ?_⟩
  · exact kbool (hK _ hle1) (decide_eq_true e2).symm
  · exact absurd e1 (of_decide_eq_false h)
theorem RenderTexts_spec {a : Report} {H : Hp} {cs : List Value} {K : Value → Hp → Prop} (ha : Enc.R H cs a) (hK : ∀ H', Le H H' → K (.bool true) H') : Does Try.prog 4 [.agg cs.toArray] H K := by
  have ha0 := ha
  obtain ⟨a1, n1, c1, ecs, hl, h1⟩ := rep_open ha
  subst ecs
  refine spec_of cx_ok cx_mix rfl Try.func4 Try.call4 Try.ntmps4 Try.results4 rfl rfl ?_
  refine awake43 fun H1 hle1 => ?_
  refine ⟨fun h => ?_, fun h => ?_⟩
  · cases h
  · refine small2_spec ha0 fun b H2 hle2 hsm => ?_
    refine ⟨fun h => ?_, fun h => ?_⟩
    · exact hK H (Le.refl H)
    · have hb : b = true := by simpa using h
      have hsz := small_bound (hsm hb)
      refine text_spec ha0 hsz fun H3 hle3 => ?_
      refine ⟨some ([], [0, 2, 1, 3, 4]), by kernel_rfl, ?_⟩
      refine right_spec ha0 ?_
      refine refright_spec ha0 ?_
      have fin := hK H (Le.refl H)
      refine ⟨fun h => ?_, fun h => ?_⟩
      · simp at h
      · refine refright_spec ha0 ?_
        refine ⟨fun h => ?_, fun h => ?_⟩
        · have hr : rightB a = false := by simpa using h
          have e1 : (if rightB a = true then (0 : Int) else 12) = 12 := by rw [hr]; rfl
          have e2 : (if rightB a = true then textT a else []) = [] := by rw [hr]; rfl
          refine ⟨fun h => ?_, fun h => ?_⟩
          · exact kbool fin (decide_eq_true e2).symm
          · exact absurd e1 (of_decide_eq_false h)
        · have hr : rightB a = true := by simpa using h
          have e1 : (if rightB a = true then (0 : Int) else 12) = 0 := by rw [hr]; rfl
          have e2 : (if rightB a = true then textT a else []) = textT a := by rw [hr]; rfl
          refine ⟨fun h => ?_, fun h => ?_⟩
          · refine reftext_spec ha0 hsz ?_
            exact kbool fin (decide_eq_true e2).symm
          · exact absurd e1 (of_decide_eq_false h)
end Go.Proofs
