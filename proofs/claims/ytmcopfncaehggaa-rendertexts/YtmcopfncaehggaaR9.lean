/- Part 'R9' of the proof: lemmas, each with its own conditions in its own statement. -/
import Derived.Test.YtmcopfncaehggaaR8
import Derived.Test.YtmcopfncaehggaaE18
namespace Go.Proofs
open Go.Sy
set_option maxRecDepth 20000
theorem one_str {x : Value} {s : List UInt8} {H : Hp} (hs : s.length ≤ 9223372036854775807) (h : RowAt H x 1 [[.string (bs s)]]) : ∃ a n c, x = .slice a n c ∧ RL H a n c [(⟨s⟩ : Str)] :=
  RL.of_row (α := Str) h (RC.nil.snoc (cs := [.string (bs s)]) (x := (⟨s⟩ : Str)) ⟨rfl, hs⟩)
def endH : List UInt8 := [101,110,100]
theorem text_spec {r : Report} {H : Hp} {cs : List Value} {K : Value → Hp → Prop} (ha : Enc.R H cs r) (hs : (rowsT r.2).length ≤ 20000)
    (hK : ∀ H', Le H H' → K (.tuple #[.string (bs (if rightB r = true then textT r else [])), .int .i64 (if rightB r = true then 0 else 12)]) H') : Does Try.prog 17 [.agg cs.toArray] H K := by
  have ha0 := ha
  obtain ⟨a1, n1, c1, rfl, hl, h1⟩ := rep_open ha
  have hn1 := h1.n_eq
  have hmx := h1.le
  have hnl := nameOf_len r.1
  have hhl := headT_len r
  refine spec_of cx_ok cx_mix rfl Try.func17 Try.call17 Try.ntmps17 Try.results17 rfl rfl ?_
  refine right_spec ha0 ?_
  refine ⟨fun h => ?_, fun h => ?_⟩
  · have hrb : rightB r = false := by simpa using h
    have h9 := hK H (Le.refl H)
    rw [hrb] at h9
    exact h9
  · have hrb : rightB r = true := by simpa using h
    refine name_spec ?_
    refine ⟨[1], rfl, ?_⟩
    intro x H1 hle1 hx
    obtain ⟨a2, n2, c2, ex, hr2⟩ := one_str (s := nameOf r.1) (by omega) hx
    subst ex
    refine put_fresh (head := repH) hr2 (by simp only [List.length_append, List.length_singleton]; have e : repH.length = 7 := rfl; omega) ?_
    refine ⟨Nat, fun i => ⟨[(4, .ptr 1 0), (5, .fn 41 [.ptr 1 0]), (19, .v (.slice a1 n1 c1)), (20, .v (.int .i64 n1)), (21, .v (.int .i64 i))], [(1, .cells 69 [.ptr 1 0, .own 2]), (2, .row 5 1 (byteRows (headT r ++ rowsT (r.2.take i))))], 3⟩, fun i H' => Le H H' ∧ i ≤ r.2.length, fun i => r.2.length - i, ⟨0, [(1, 1), (2, 3)], ?_, hle1, by omega⟩, ?_⟩
    · have e0 : byteRows (repH ++ nameOf r.1 ++ [10]) = byteRows (headT r ++ rowsT (r.2.take 0)) := by rw [List.take_zero, rowsT, List.append_nil, headT]
      exact ⟨⟨⟨rfl, rfl⟩, ⟨rfl, rfl⟩, rfl, rfl, rfl, trivial⟩, ⟨⟨⟨rfl, rfl⟩, rfl, trivial⟩, e0, trivial⟩⟩
    rintro i H2 _ ⟨hle, hi⟩
    have hle1' := rowsT_le r.2 i
    refine ⟨fun h => ?_, fun h => ?_⟩
    · have hlt : i < r.2.length := by have := dt h; omega
      have hx := List.getElem?_eq_getElem hlt
      have hst := rowsT_step hx
      have hle2 := rowsT_le r.2 (i + 1)
      rw [hst, List.length_append] at hle2
      have hrt : (rowT r.2[i]).length = 6 + r.2[i].1.l.length + 1 + (lns inH r.2[i].2.1).length + (lns outH r.2[i].2.2).length := by
        rw [rowT]; simp only [List.length_append, List.length_singleton]; rfl
      have hq := h1.up hle
      have hel := hq.elem hx
      obtain ⟨ad, cs, e1, hh, r1⟩ := hel
      obtain ⟨b1, m1, d1, b2, m2, d2, ecs, hsl, p1, p2⟩ := row_open r1
      rw [ecs] at hh
      refine ⟨ad, ⟨by omega, by omega, e1⟩, ?_⟩
      refine ⟨_, hh, ?_⟩
      refine ⟨[1, 2], rfl, ?_⟩
      intro x2 H3 hle3 hx2
      obtain ⟨a3, n3, c3, ex3, hr3⟩ := one_str (s := r.2[i].1.l) (by omega) hx2
      subst ex3
      have hl1 : (lns blkH [(⟨r.2[i].1.l⟩ : Str)]).length = 6 + r.2[i].1.l.length + 1 := by simp only [lns, List.length_append, List.length_singleton, List.append_nil]; rfl
      have hSl : (headT r ++ rowsT (r.2.take i)).length = (headT r).length + (rowsT (r.2.take i)).length := List.length_append
      refine put_used (head := blkH) hr3 (by omega) ?_
      refine ⟨[1, 5], rfl, ?_⟩
      refine put_used (head := inH) (p1.up hle3) (by rw [List.length_append]; omega) ?_
      refine ⟨[1, 6], rfl, ?_⟩
      refine put_used (head := outH) (p2.up hle3) (by rw [List.length_append, List.length_append]; omega) ?_
      have e9 : byteRows (headT r ++ rowsT (r.2.take i) ++ lns blkH [(⟨r.2[i].1.l⟩ : Str)] ++ lns inH r.2[i].2.1 ++ lns outH r.2[i].2.2) = byteRows (headT r ++ rowsT (r.2.take (i + 1))) := by
        rw [hst, rowT, lns, lns]; simp only [List.append_assoc, List.append_nil]
      refine ⟨⟨by omega, by omega⟩, i + 1, [(1, 1), (2, 7)], ?_, ⟨hle.trans hle3, by omega⟩, by dsimp only; omega⟩
      exact ⟨⟨⟨rfl, rfl⟩, ⟨rfl, rfl⟩, rfl, rfl, rfl, trivial⟩, ⟨⟨⟨rfl, rfl⟩, rfl, trivial⟩, e9, trivial⟩⟩
    · have hil : i = r.2.length := by have := df h; omega
      refine ⟨[1, 2], rfl, ?_⟩
      intro x2 H3 hle3 hx2
      obtain ⟨a3, n3, c3, ex3, hr3⟩ := one_str (s := []) (by simp) hx2
      subst ex3
      have hSl : (headT r ++ rowsT (r.2.take i)).length = (headT r).length + (rowsT (r.2.take i)).length := List.length_append
      refine put_used (head := endH) hr3 (by have : (lns endH [(⟨[]⟩ : Str)]).length = 4 := rfl; omega) ?_
      refine ⟨[1, 4], rfl, ?_⟩
      refine string_spec (b := headT r ++ rowsT (r.2.take i) ++ lns endH [(⟨[]⟩ : Str)]) ?_
      have h9 := hK H3 (hle.trans hle3)
      have e7 : textT r = headT r ++ rowsT (r.2.take i) ++ lns endH [(⟨[]⟩ : Str)] := by rw [hil, List.take_length, textT]; rfl
      rw [hrb, if_pos rfl, if_pos rfl, e7] at h9
      exact h9
end Go.Proofs
