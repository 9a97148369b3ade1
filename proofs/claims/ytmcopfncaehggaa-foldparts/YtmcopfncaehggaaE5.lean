/- Part 'E5' of the proof: lemmas, each with its own conditions in its own statement. -/
import Derived.Test.YtmcopfncaehggaaE1
namespace Go.Proofs
open Go.Sy
theorem texts_spec {a b : List Str} {a1 a2 : Option Addr} {n1 c1 n2 c2 : Nat} {H : Hp} {K : Value → Hp → Prop} (ha : RL H a1 n1 c1 a) (hb : RL H a2 n2 c2 b)
   (hK : ∀ H', Le H H' → K (.bool (decide (a = b))) H') : Does Try.prog 40 [.slice a1 n1 c1, .slice a2 n2 c2] H K := by
  refine spec_of cx_ok cx_mix rfl Try.func40 Try.call40 Try.ntmps40 Try.results40 rfl rfl ?_
  have hn1 := ha.n_eq
  have hn2 := hb.n_eq
  have hmx := ha.le
  refine ⟨fun h => ?_, fun h => ?_⟩
  · have e : a ≠ b := by intro e; subst e; simp at h; omega
    have := hK H (Le.refl H)
    rw [decide_eq_false e] at this
    exact this
  · have hlen : a.length = b.length := by simp at h; omega
    refine ⟨Nat, fun k => ⟨[(0, .v (.slice a1 n1 c1)), (1, .v (.slice a2 n2 c2)), (12, .v (.int .i64 n1)), (13, .v (.int .i64 k))], [], 0⟩, fun k H' => Le H H' ∧ k ≤ a.length ∧ a.take k = b.take k, fun k => a.length - k, ⟨0, [], ?_, Le.refl H, by omega, rfl⟩, ?_⟩
    · exact ⟨⟨rfl, rfl, rfl, rfl, trivial⟩, trivial⟩
    rintro k H' _ ⟨hle, hk, htk⟩
    refine ⟨fun h => ?_, fun h => ?_⟩
    · have hlt : k < a.length := by have := of_decide_eq_true h; omega
      have hx := List.getElem?_eq_getElem hlt
      have hy := List.getElem?_eq_getElem (hlen ▸ hlt : k < b.length)
      obtain ⟨ad, cs, e1, h1, rfl, hl1⟩ := (ha.up hle).elem hx
      obtain ⟨bd, ds, e2, h2, rfl, hl2⟩ := (hb.up hle).elem hy
      refine ⟨some ([], [0, 1, 2, 3, 4, 5, 6, 7, 8]), by kernel_rfl, ?_⟩
      refine ⟨ad, ⟨by omega, by omega, e1⟩, ?_⟩
      refine ⟨_, h1, ?_⟩
      refine ⟨bd, ⟨by omega, by omega, e2⟩, ?_⟩
      refine ⟨_, h2, ?_⟩
      refine ⟨fun h => ?_, fun h => ?_⟩
      · have hne : a[k].l ≠ b[k].l := nt h
        have := hK H' hle
        rw [decide_eq_false (fun e => by subst e; exact hne rfl)] at this
        exact this
      · have heq : a[k].l = b[k].l := nf h
        refine ⟨⟨by omega, by omega⟩, k + 1, [], ?_, ⟨hle, by omega, ?_⟩, by dsimp only; omega⟩
        · exact ⟨⟨rfl, rfl, rfl, rfl, trivial⟩, trivial⟩
        · rw [List.take_add_one, List.take_add_one, htk, hx, hy]
          congr 2
          cases ha : a[k]; cases hb : b[k]; simp_all
    · have : a = b := by
        have h := of_decide_eq_false h
        have e : k = a.length := by omega
        subst e
        rw [List.take_length, hlen, List.take_length] at htk
        exact htk
      have h2 := hK H' hle
      rw [decide_eq_true this] at h2
      exact h2
end Go.Proofs
