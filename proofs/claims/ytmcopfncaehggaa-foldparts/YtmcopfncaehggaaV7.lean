/- Part 'V7' of the proof: lemmas, each with its own conditions in its own statement. -/
import Derived.Test.YtmcopfncaehggaaV6
namespace Go.Proofs
open Go.Sy
set_option maxRecDepth 20000
def smallS (s : Stmt) : Prop := s.2.1.l.length ≤ 40 ∧ s.2.2.2.1.1.l.length ≤ 40 ∧ s.2.2.2.2.1.l.length ≤ 40
def smallB4 (b : Block) : Prop := (b.2.1.length ≤ 12 ∧ b.1.l.length ≤ 40 ∧ b.2.2.2.2.1.l.length ≤ 40 ∧ b.2.2.2.2.2.l.length ≤ 40 ∧ b.2.2.2.1.1.l.length ≤ 40) ∧ ∀ s ∈ b.2.1, smallS s
def small4 (p : Prog) : Prop := p.length ≤ 12 ∧ ∀ b ∈ p, smallB4 b
theorem small4_cnt {p : Prog} (h : small4 p) : cnt p ≤ 37 * p.length := by
  obtain ⟨_, h⟩ := h
  induction p with
  | nil => simp [cnt]
  | cons b r ih =>
    have h1 := ih (by simp_all; omega) fun x hx => h x (List.mem_cons_of_mem _ hx)
    have h2 := (h b List.mem_cons_self).1.1
    simp only [cnt, List.map_cons, List.sum_cons, List.length_cons] at h1 ⊢
    omega
theorem mem_take_succ {α : Type} {l : List α} {i : Nat} {x : α} (h : l[i]? = some x) {P : α → Prop} (h1 : ∀ y ∈ l.take i, P y) (h2 : P x) : ∀ y ∈ l.take (i + 1), P y := by
  intro y hy
  rw [List.take_add_one, h, Option.toList_some, List.mem_append, List.mem_singleton] at hy
  rcases hy with hy | rfl
  · exact h1 y hy
  · exact h2
theorem btr {b : Bool} (h : b = !false) : b = true := h
theorem small4_spec {p : Prog} {a : Option Addr} {n c : Nat} {H : Hp} {K : Value → Hp → Prop} (ha : RL H a n c p) (hK : ∀ b, (b = true → small4 p) → K (.bool b) H) : Does Try.prog 32 [.agg #[.slice a n c]] H K := by
  have hn1 := ha.n_eq
  have hmx := ha.le
  have hF := hK false (fun h => by cases h)
  refine spec_of cx_ok cx_mix rfl Try.func32 Try.call32 Try.ntmps32 Try.results32 rfl rfl ?_
  refine ⟨fun h => ?_, fun h => ?_⟩
  · exact hF
  have h12 : p.length ≤ 12 := by have := df h; omega
  refine ⟨Nat, fun i => ⟨[(12, .v (.slice a n c)), (13, .v (.int .i64 n)), (14, .v (.int .i64 i))], [], 0⟩,
    fun i H' => H' = H ∧ i ≤ p.length ∧ ∀ b ∈ p.take i, smallB4 b, fun i => p.length - i, ⟨0, [], ?_, rfl, by omega, by simp⟩, ?_⟩
  · exact ⟨⟨rfl, rfl, rfl, trivial⟩, trivial⟩
  rintro i H1 _ ⟨rfl, hi, hall⟩
  refine ⟨fun h => ?_, fun h => ?_⟩
  · have hlt : i < p.length := by have := dt h; omega
    have hx := List.getElem?_eq_getElem hlt
    obtain ⟨b, hb⟩ : ∃ b, b = p[i] := ⟨_, rfl⟩
    rw [← hb] at hx
    obtain ⟨ad, cs, e1, hh, r1⟩ := ha.elem hx
    obtain ⟨a2, n2, c2, rfl, hr2, hnm, htm⟩ := block_open r1
    have hn2 := hr2.n_eq
    have hmx2 := hr2.le
    refine ⟨ad, ⟨by omega, by omega, e1⟩, ?_⟩
    refine ⟨_, hh, ?_⟩
    refine ⟨fun h => ?_, fun h => hF⟩
    have g1 : b.2.1.length ≤ 12 := by have := df h; omega
    refine ⟨fun h => ?_, fun h => hF⟩
    have g2 : b.1.l.length ≤ 40 := by have := df h; simp only [sl_bs] at this; omega
    refine ⟨fun h => ?_, fun h => hF⟩
    have g3 : b.2.2.2.2.1.l.length ≤ 40 := by have := df h; simp only [sl_bs] at this; omega
    refine ⟨fun h => ?_, fun h => hF⟩
    have g4 : b.2.2.2.2.2.l.length ≤ 40 := by have := df h; simp only [sl_bs] at this; omega
    refine ⟨fun h => hF, fun h => ?_⟩
    have g5 : b.2.2.2.1.1.l.length ≤ 40 := by have := df h; simp only [sl_bs] at this; omega
    refine ⟨Nat, fun j => ⟨[(12, .v (.slice a n c)), (13, .v (.int .i64 n)), (14, .v (.int .i64 i)), (51, .v (.slice a2 n2 c2)), (52, .v (.int .i64 n2)), (53, .v (.int .i64 j))], [], 0⟩,
      fun j H' => H' = H1 ∧ j ≤ b.2.1.length ∧ ∀ s ∈ b.2.1.take j, smallS s, fun j => b.2.1.length - j, ⟨0, [], ?_, rfl, by omega, by simp⟩, ?_⟩
    · exact ⟨⟨rfl, rfl, rfl, rfl, rfl, rfl, trivial⟩, trivial⟩
    rintro j H2 _ ⟨rfl, hj, hsm⟩
    refine ⟨fun h => ?_, fun h => ?_⟩
    · have hltj : j < b.2.1.length := by have := dt h; omega
      have hxj := List.getElem?_eq_getElem hltj
      have hel := hr2.elem hxj
      obtain ⟨ad2, cs2, e2, hh2, r2⟩ := hel
      have hst := stmt_open r2
      obtain ⟨ecs, hsr⟩ := hst
      rw [ecs] at hh2
      refine ⟨ad2, ⟨by omega, by omega, e2⟩, ?_⟩
      refine ⟨_, hh2, ?_⟩
      refine ⟨fun h => ?_, fun h => hF⟩
      have k1 : b.2.1[j].2.1.l.length ≤ 40 := by have := df h; simp only [sl_bs] at this; omega
      refine ⟨fun h => ?_, fun h => hF⟩
      have k2 : b.2.1[j].2.2.2.1.1.l.length ≤ 40 := by have := df h; simp only [sl_bs] at this; omega
      refine ⟨fun h => hF, fun h => ?_⟩
      have k3 : b.2.1[j].2.2.2.2.1.l.length ≤ 40 := by have := df h; simp only [sl_bs] at this; omega
      refine ⟨⟨by omega, by omega⟩, j + 1, [], ?_, ⟨rfl, by omega, mem_take_succ hxj hsm ⟨k1, k2, k3⟩⟩, by dsimp only; omega⟩
      exact ⟨⟨rfl, rfl, rfl, rfl, rfl, rfl, trivial⟩, trivial⟩
    · have hjl : j = b.2.1.length := by have := df h; omega
      rw [hjl, List.take_length] at hsm
      refine ⟨⟨by omega, by omega⟩, i + 1, [], ?_, ⟨rfl, by omega, mem_take_succ hx hall ⟨⟨g1, g2, g3, g4, g5⟩, hsm⟩⟩, by dsimp only; omega⟩
      exact ⟨⟨rfl, rfl, rfl, trivial⟩, trivial⟩
  · have hil : i = p.length := by have := df h; omega
    rw [hil, List.take_length] at hall
    exact hK true fun _ => ⟨h12, hall⟩
theorem awake45 {H : Hp} {K : Value → Hp → Prop} (hK : ∀ H', Le H H' → K (.bool true) H') : Does Try.prog 31 [] H K := by
  refine spec_of cx_ok cx_mix rfl Try.func31 Try.call31 Try.ntmps31 Try.results31 rfl rfl ?_
  have hp : RL H none 0 0 ([] : Prog) := ⟨rfl, Nat.le_refl _, by omega, .inl rfl⟩
  have hk : RL H none 0 0 ([] : List UInt64) := ⟨rfl, Nat.le_refl _, by omega, .inl rfl⟩
  have hE : foldE [] [] (1, (⟨[]⟩, (1, 0)), (⟨[]⟩, (1, 0))) = (0, (⟨[]⟩, (2, 0)), (⟨[]⟩, (0, 0))) := by decide
  refine expr_spec (x := (1, (⟨[]⟩, (1, 0)), (⟨[]⟩, (1, 0)))) hp hk (by decide) fun H1 hle1 => ?_
  rw [hE]
  refine ⟨fun _ => ?_, fun h => by cases h⟩
  refine ⟨fun _ => ?_, fun h => by cases h⟩
  exact kbool (hK _ (Le.refl H)) (decide_eq_true rfl).symm
noncomputable def cxw45 : Cx := { cx with wrap := true }
theorem cxw45_ok : TOK cxw45 := ⟨cx_ok.tt, cx_ok.eqs⟩
theorem FoldParts_spec {p : Prog} {known : List UInt64} {x : Expr} {H : Hp} {cp cx0 : List Value} {ka : Option Addr} {kn kc : Nat} {K : Value → Hp → Prop} (h1 : Enc.R H cp p) (hk : RL H ka kn kc known) (h3 : Enc.R H cx0 x) (hK : ∀ H', Le H H' → K (.bool true) H') :
    Does Try.prog 8 [.agg cp.toArray, .slice ka kn kc, .agg cx0.toArray] H K := by
  obtain ⟨a, n, c, e1, ha⟩ := h1
  obtain ⟨e3, hx⟩ := expr_open h3
  subst e1 e3
  refine spec_of cxw45_ok cx_mix rfl Try.func8 Try.call8 Try.ntmps8 Try.results8 rfl rfl ?_
  refine awake45 fun H1 hle1 => ?_
  have hT := hK H (Le.refl H)
  refine ⟨(fun h => by cases h), fun _ => ?_⟩
  refine small4_spec ha fun b hb => ?_
  refine ⟨fun h => ?_, fun h => hT⟩
  have hb1 : b = true := by simpa using h
  have hc : cnt p < 400000 := by
    have h1 := small4_cnt (hb hb1)
    have h2 := (hb hb1).1
    omega
  refine ⟨fun h => ?_, fun h => hT⟩
  refine ⟨fun h => hT, fun h => ?_⟩
  refine ⟨some ([], [0, 1, 2, 3, 5, 6, 7, 8, 4, 9, 10, 11, 12, 13, 14, 16, 17, 18, 15, 19, 20, 21, 22]), by kernel_rfl, ?_⟩
  refine atom_spec ha hk hc fun H2 hle2 => ?_
  refine ratom_spec ha hk hc fun H3 hle3 => ?_
  refine ⟨fun h => ?_, fun h => by simp at h⟩
  refine expr_spec ha hk hc fun H4 hle4 => ?_
  refine rexpr_spec ha hk hc fun H5 hle5 => ?_
  exact kbool hT (by simp)
end Go.Proofs
