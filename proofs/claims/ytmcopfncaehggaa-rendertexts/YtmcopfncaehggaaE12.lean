/- Part 'E12' of the proof: lemmas, each with its own conditions in its own statement. -/
import Derived.Test.YtmcopfncaehggaaE11
namespace Go.Proofs
open Go.Sy
set_option maxRecDepth 20000
/-- Is each worker named in the run of k picks from the i-th on? -/
def runs (n k : Int) (l : List Pick) (i w : Nat) : Bool := ((l.take (i + k.toNat)).drop i).any fun p => decide (who p.1 (cut n) = w)
def isR (n k : Int) (l : List Pick) : Prop := 1 ≤ k ∧ ∀ i : Nat, i < l.length → k ≤ l.length - i → ∀ w : Nat, w < (cut n).toNat → runs n k l i w = true
theorem any_take_succ {α : Type} (l : List α) (f : α → Bool) (j : Nat) (x : α) (h : l[j]? = some x) : (l.take (j+1)).any f = ((l.take j).any f || f x) := by
  rw [List.take_add_one, h, Option.toList_some, List.any_append]
  simp
theorem refis_spec {n k : Int} {l : List Pick} {a1 : Option Addr} {n1 c1 : Nat} {H : Hp} {K : Value → Hp → Prop} (ha : RL H a1 n1 c1 l) (hkr : -9223372036854775808 ≤ k ∧ k ≤ 9223372036854775807)
   (hK : ∀ b H', Le H H' → (b = true ↔ isR n k l) → K (.bool b) H') : Does Try.prog 23 [.slice a1 n1 c1, .int .i64 n, .int .i64 k] H K := by
  obtain ⟨kn, hkn⟩ : ∃ kn : Nat, kn = k.toNat := ⟨_, rfl⟩
  obtain ⟨wn, hwn⟩ : ∃ wn : Nat, wn = (cut n).toNat := ⟨_, rfl⟩
  have hc1 : 1 ≤ cut n ∧ cut n ≤ 64 := by unfold cut; omega
  obtain ⟨cn, hcn⟩ : ∃ cn : Int, cn = cut n := ⟨_, rfl⟩
  have hruns : ∀ i w, runs n k l i w = ((l.take (i + kn)).drop i).any fun p => decide (who p.1 cn = w) := by intro i w; rw [hcn, hkn]; rfl
  rw [← hcn] at hc1 hwn
  have hn1 := ha.n_eq
  have hmx := ha.le
  refine spec_of cx_ok cx_mix rfl Try.func23 Try.call23 Try.ntmps23 Try.results23 rfl rfl ?_
  refine workers_spec ?_
  rw [← hcn]
  refine ⟨fun h => ?_, fun h => ?_⟩
  · exact hK false H (Le.refl H) (by simp [isR]; intro h2; have := dt h; omega)
  · have hk1 := df h
    refine ⟨Nat, fun i => ⟨[(0, .v (.slice a1 n1 c1)), (1, .v (.int .i64 cn)), (2, .v (.int .i64 k)), (7, .v (.int .i64 i))], [], 0⟩, fun i H' => Le H H' ∧ i ≤ l.length ∧ ∀ j : Nat, j < i → ∀ w : Nat, w < wn → runs n k l j w = true, fun i => l.length - i, ⟨0, [], ?_, Le.refl H, by omega, by intros; omega⟩, ?_⟩
    · exact ⟨⟨rfl, rfl, rfl, rfl, trivial⟩, trivial⟩
    rintro i H' _ ⟨hle, hi, hall⟩
    refine ⟨fun h => ?_, fun h => ?_⟩
    · have hlt := dt h
      refine ⟨⟨by omega, by omega⟩, ?_⟩
      refine ⟨fun h => ?_, fun h => ?_⟩
      · have hki := dt h
        refine ⟨Nat, fun w => ⟨[(0, .v (.slice a1 n1 c1)), (1, .v (.int .i64 cn)), (2, .v (.int .i64 k)), (7, .v (.int .i64 i)), (8, .v (.int .i64 w))], [], 0⟩, fun w H' => Le H H' ∧ w ≤ wn ∧ ∀ j : Nat, j < w → runs n k l i j = true, fun w => wn - w, ⟨0, [], ?_, hle, by omega, by intros; omega⟩, ?_⟩
        · exact ⟨⟨rfl, rfl, rfl, rfl, rfl, trivial⟩, trivial⟩
        rintro w H' _ ⟨hle, hw, hrun⟩
        refine ⟨fun h => ?_, fun hwf => ?_⟩
        · have hwlt := dt h
          refine ⟨⟨by omega, by omega⟩, ?_⟩
          refine ⟨⟨by omega, by omega, by omega, by have := ha.2.1; omega⟩, ?_⟩
          have ek : ((i:Int)+k).toNat = i+kn := by omega
          have ei' : (i:Int).toNat = i := by omega
          have hp := ((ha.up hle).cut (l := i) (k := i + kn) (by omega) (by omega))
          have hpn := hp.n_eq
          have hpl : ((l.take (i + kn)).drop i).length = kn := by simp; omega
          have es : SV.v (.slice (cutA a1 (i:Int).toNat c1 2) (((i:Int)+k).toNat - (i:Int).toNat) (c1 - (i:Int).toNat)) = SV.v (.slice (cutA a1 i c1 2) (i + kn - i) (c1 - i)) := by rw [ek, ei']
          have es2 : SV.v (.int .i64 ((((i:Int)+k).toNat - (i:Int).toNat : Nat) : Int)) = SV.v (.int .i64 (kn : Int)) := by rw [ek, ei']; congr 2; omega
          refine ⟨Nat, fun j => ⟨[(0, .v (.slice a1 n1 c1)), (1, .v (.int .i64 cn)), (2, .v (.int .i64 k)), (7, .v (.int .i64 i)), (8, .v (.int .i64 w)), (9, .v (.bool ((((l.take (i + kn)).drop i).take j).any fun p => decide (who p.1 cn = w)))), (40, .v (.slice (cutA a1 i c1 2) (i + kn - i) (c1 - i))), (41, .v (.int .i64 (kn : Int))), (42, .v (.int .i64 j))], [], 0⟩, fun j H' => Le H H' ∧ j ≤ kn, fun j => kn - j, ⟨0, [], ?_, hle, by omega⟩, ?_⟩
          · have e0 : Value.bool ((((l.take (i + kn)).drop i).take 0).any fun p => decide (who p.1 cn = w)) = .bool false := by rw [List.take_zero]; rfl
            exact ⟨⟨rfl, rfl, rfl, rfl, rfl, e0, es, es2, rfl, trivial⟩, trivial⟩
          rintro j H2 hle2 ⟨hle, hj⟩
          refine ⟨fun h => ?_, fun h => ?_⟩
          · have hlt3 : j < kn := by have := of_decide_eq_true h; omega
            have hlt4 : j < ((l.take (i + kn)).drop i).length := by rw [hpl]; exact hlt3
            have hx := List.getElem?_eq_getElem hlt4
            have hq := hp.up hle2
            have hr := hq.elem hx
            obtain ⟨ad, cs, e1, h1, r1⟩ := hr
            have e3 := pick_open r1
            rw [e3] at h1
            refine ⟨ad, ⟨by omega, by omega, e1⟩, ?_⟩
            refine ⟨_, h1, ?_⟩
            have hts := any_take_succ ((l.take (i + kn)).drop i) (fun p => decide (who p.1 cn = w)) j _ hx
            refine ⟨fun h => ?_, fun h => ?_⟩
            · refine who_spec (by omega) ?_
              have e9 : SV.v (.bool (decide (who (((l.take (i + kn)).drop i)[j]).1 cn = w))) = SV.v (.bool ((((l.take (i + kn)).drop i).take (j+1)).any fun p => decide (who p.1 cn = w))) := by rw [hts, h, Bool.false_or]
              refine ⟨⟨by omega, by omega⟩, j + 1, [], ?_, ⟨hle, by omega⟩, by dsimp only; omega⟩
              exact ⟨⟨rfl, rfl, rfl, rfl, rfl, e9, rfl, rfl, rfl, trivial⟩, trivial⟩
            · have e9 : Value.bool ((((l.take (i + kn)).drop i).take (j+1)).any fun p => decide (who p.1 cn = w)) = .bool true := by rw [hts, h]; rfl
              refine ⟨⟨by omega, by omega⟩, j + 1, [], ?_, ⟨hle, by omega⟩, by dsimp only; omega⟩
              exact ⟨⟨rfl, rfl, rfl, rfl, rfl, e9, rfl, rfl, rfl, trivial⟩, trivial⟩
          · have e : j = kn := by have := of_decide_eq_false h; omega
            have ee : runs n k l i w = ((((l.take (i + kn)).drop i).take j).any fun p => decide (who p.1 cn = w)) := by rw [hruns, e, List.take_of_length_le (Nat.le_of_eq hpl)]
            refine ⟨fun h => ?_, fun h => ?_⟩
            · refine hK false H2 hle ⟨fun e => absurd e (by decide), fun ⟨_, hr⟩ => ?_⟩
              have h1 := hr i (by omega) (by omega) w (by omega)
              have h2 : (((l.take (i + kn)).drop i).take j).any (fun p => decide (who p.1 cn = w)) = false := by simpa using h
              rw [ee, h2] at h1
              exact absurd h1 (by decide)
            · have h2 : (((l.take (i + kn)).drop i).take j).any (fun p => decide (who p.1 cn = w)) = true := by simpa using h
              refine ⟨⟨by omega, by omega⟩, w + 1, [], ?_, ⟨hle, by omega, fun j' hj' => ?_⟩, by dsimp only; omega⟩
              · exact ⟨⟨rfl, rfl, rfl, rfl, rfl, trivial⟩, trivial⟩
              · by_cases e' : j' = w
                · rw [e', ee, h2]
                · exact hrun j' (by omega)
        · refine ⟨⟨by omega, by omega⟩, i + 1, [], ?_, ⟨hle, by omega, fun j hj w' hw' => ?_⟩, by dsimp only; omega⟩
          · exact ⟨⟨rfl, rfl, rfl, rfl, trivial⟩, trivial⟩
          · by_cases e : j = i
            · subst e
              have := df hwf
              exact hrun w' (by omega)
            · exact hall j (by omega) w' hw'
      · refine hK true H' hle ⟨fun _ => ⟨by omega, fun j hj hkj w hw => hall j ?_ w (by omega)⟩, fun _ => rfl⟩
        have := df h
        omega
    · refine hK true H' hle ⟨fun _ => ⟨by omega, fun j hj hkj w hw => hall j ?_ w (by omega)⟩, fun _ => rfl⟩
      have := df h
      omega
end Go.Proofs
