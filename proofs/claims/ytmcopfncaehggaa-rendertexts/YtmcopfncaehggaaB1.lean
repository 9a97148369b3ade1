/- Part 'B1' of the proof: lemmas, each with its own conditions in its own statement. -/
import Derived.Test.YtmcopfncaehggaaE17
import Derived.Lib.MakeNoZero
namespace Go.Proofs
open Go.Sy
open Go.RowKit (Below)
set_option maxRecDepth 20000
theorem noescape_spec {x : SV} {bx : List (Nat × Bx)} {nx : Nat} {H : Hp} {K : SV → List (Nat × Bx) → Nat → Hp → Prop} (hK : K x bx nx H) : ExtG Try.prog 90 [x] bx nx H K := by
  intro B ρ w hm hl
  refine ⟨x, bx, nx, H, ρ, w, ?_, hK, ?_, hm, Same.refl _ _, Nat.le_refl _, ⟨[], rfl⟩, Le.refl H⟩
  · have h : ∀ (v : Value) (w : World), (callFunc 90 #[v]).run Try.prog w = .ok (.value v) w := by
      intro v w
      kernel_rfl
    rw [← h (ga ρ x) w]
    congr 2
  · rw [lts_iff] at hl; exact hl x (by simp)
theorem digits_one : ∀ (n t : Nat) (acc : Array Value), (∀ u ∈ acc, u.oneCell' = true) → ∀ u ∈ Extern.BytealgMakeNoZero.digits n t acc, u.oneCell' = true
  | 0, _, _, h => h
  | n + 1, t, acc, h => by
    rw [Extern.BytealgMakeNoZero.digits]
    refine digits_one n _ _ fun u hu => ?_
    rcases Array.mem_push.1 hu with hu | hu
    · exact h u hu
    · subst hu; rfl
theorem run_mnz {P : Program} (w : World) (ps : Array TypeId) (t e : TypeId) (ht : P.underlying t = some (.slice e)) (n : Nat) (hn : n ≤ 281474976710656) :
    ∃ cs : Array Value, (Extern.BytealgMakeNoZero.makeNoZero ps #[t] #[.int .i64 n]).run P w = .ok (.slice (some ⟨w.heap.size, 0, none⟩) n cs.size) (w.drew.drew.alloc (.cells cs e)) ∧ n ≤ cs.size ∧ cs.size ≤ maxLen ∧ ∀ u ∈ cs, u.oneCell' = true := by
  have h1 : ¬ (n : Int) < 0 := by omega
  have h2 : ¬ (281474976710656 : Int) < (n : Int) := by omega
  refine ⟨Extern.BytealgMakeNoZero.digits (grownCap w n 0 e) ((Question.extern "internal/bytealg.MakeNoZero.bytes" 0).cut (w.tape (w.drawn + 1) (.extern "internal/bytealg.MakeNoZero.bytes" 0))) #[], ?_, ?_, ?_, digits_one _ _ _ (by simp)⟩
  · conv => lhs; arg 2; whnf
    rw [show ∀ k : Program → Sem Value, Sem.run P (Sem.program k) w = Sem.run P (k P) w from fun _ => rfl]
    have hb : ∀ {α β : Type} (x : Sem α) (f : α → Sem β), Sem.bind x f = x >>= f := fun _ _ => rfl
    have hp : ∀ {α : Type} (x : α), (Sem.pure x : Sem α) = pure x := fun _ => rfl
    simp [hb, hp, ht, h1, h2, Question.forced, newRow, Lib.size_digits, grownCap]
  · rw [Lib.size_digits]; simpa using grownCap_ge w n 0 e
  · rw [Lib.size_digits]; simpa using grownCap_le_maxLen w n 0 e (by simp only [maxLen]; omega)
theorem makenz_spec {n : Nat} {bx : List (Nat × Bx)} {nx : Nat} {H : Hp} {K : SV → List (Nat × Bx) → Nat → Hp → Prop} (hn : n ≤ 281474976710656)
    (hK : ∀ xs : List (List Value), xs.length = n → K (.own nx) ((nx, .row 5 1 xs) :: bx) (nx + 1) H) : ExtG Try.prog 109 [.v (.int .i64 n)] bx nx H K := by
  intro B ρ w hm hl
  have h : ∀ (w : World), (callFunc 109 #[.int .i64 n]).run Try.prog w = ((do pure (.value (← Extern.BytealgMakeNoZero.makeNoZero #[3] #[67] #[.int .i64 n]))) : Sem Next).run Try.prog w := by
    intro w
    kernel_rfl
  obtain ⟨cs, hrun, hge, hmx, hone⟩ := run_mnz (P := Try.prog) w #[3] 67 5 (cx_ok.tt 67 _ _ rfl).2 n hn
  have hcl := chop_flat 1 n (cs.toList.take n) (by simp; omega)
  let B' : Bs := { B with base := nx, ρ := ρ }
  have hr : Rel { cx with n := 0 } B' ρ ⟨[], bx, nx⟩ H { tmps := #[], defers := [] } w := ⟨fun t x hx => (by cases hx), rfl, rfl, { hm with base := Nat.le_refl _, agree := fun _ _ => ⟨rfl, rfl⟩ }⟩
  obtain ⟨ρ', hr', hg⟩ := hr.rowed (e := 5) (sz := 1) (xs := chop 1 n (cs.toList.take n)) (w' := w.drew.drew.alloc (.cells cs 5)) (v := (some ⟨w.heap.size, 0, none⟩, n, cs.size)) rfl rfl rfl (by simp) (fun g hg => _root_.Go.heap_alloc_old w.drew.drew _ hg)
    (by
      rw [hcl.1, hcl.2.1]
      refine ⟨by simp; omega, .inr ⟨w.heap.size, cs.size, cs, rfl, Nat.zero_le _, heap_alloc_new w.drew.drew _, hge, hmx, by simp, by simp⟩⟩)
    (fun x hx => ⟨(hcl.2.2 x hx).1, fun u hu => by
      have := List.mem_flatten.2 ⟨x, hx, hu⟩
      rw [hcl.1] at this
      exact hone u (by simpa using List.mem_of_mem_take this)⟩)
    (fun g hg => by simp only [Value.ownBlock, Option.some.injEq] at hg; omega)
  have hag := hr'.mem.agree
  refine ⟨.own nx, _, _, H, ρ', w.drew.drew.alloc (.cells cs 5), ?_, hK _ hcl.2.1, by rw [SV.lt]; exact Nat.ble_eq_true_of_le (Nat.le_refl _), { hr'.mem with base := Nat.le_trans hm.base (Nat.le_succ _), agree := fun k hk => ?_ }, hag, Nat.le_succ _, ⟨[_], rfl⟩, Le.refl H⟩
  · have e : gas ρ [SV.v (.int .i64 n)] = [.int .i64 n] := by simp [gas, ga]
    rw [e, h, Sem.run_bind, hrun, hg]
    rfl
  · have h1 := hag k (Nat.lt_of_lt_of_le hk hm.base)
    have h2 := hm.agree k hk
    exact ⟨h1.1.trans h2.1, h1.2.trans h2.2⟩
end Go.Proofs
