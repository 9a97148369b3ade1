/- Part 'E13' of the proof: lemmas, each with its own conditions in its own statement. -/
import Derived.Test.YtmcopfncaehggaaE12
import Derived.Test.YtmcopfncaehggaaSh1
namespace Go.Proofs
open Go.Sy
set_option maxRecDepth 20000
theorem does_of_calls {P : Program} {f : FuncId} {args : List Value} {H : Hp} {K : Value → Hp → Prop} {v : Value} (hc : ∀ l w, (callFunc f l).run P w = .ok (.enter f l) w)
    (h : ∀ w, Calls P f args.toArray w fun e w' => e = .returned v ∧ w' = w) (hK : K v H) : Does P f args H K :=
  ⟨hc, fun w hp => (h w).mono fun e w' ⟨e1, e2⟩ => ⟨v, H, e1, hK, Le.refl H, fun b o hb => by rw [e2]; exact hp b o hb, fun b h1 _ => h1, by rw [e2]; exact Go.RowKit.Below.refl _ _⟩⟩
theorem mul_spec {x y : Nat} {H : Hp} {K : Value → Hp → Prop} (hx : x < 18446744073709551616) (hy : y < 18446744073709551616)
    (hK : K (.tuple #[.int .u64 ((x * y / 18446744073709551616 : Nat) : Int), .int .u64 ((x * y % 18446744073709551616 : Nat) : Int)]) H) : Does Try.prog 79 [.int .u64 x, .int .u64 y] H K :=
  does_of_calls Try.call79 (fun w => Try.bits_Mul x y hx hy w) hK
theorem mul1_spec {c : Nat} {H : Hp} {K : Value → Hp → Prop} (hc : c < 18446744073709551616) (hK : K (.tuple #[.int .u64 0, .int .u64 c]) H) : Does Try.prog 79 [.int .u64 1, .int .u64 c] H K := by
  refine mul_spec (x := 1) (y := c) (by omega) hc ?_
  have e1 : 1 * c / 18446744073709551616 = 0 := by omega
  have e2 : 1 * c % 18446744073709551616 = c := by omega
  rw [e1, e2]
  exact hK
theorem row_of_one {x : Int} {n c : Nat} {a : Option Addr} {H : Hp} (ha : RL H a n c [x]) : RowAt H (.slice a n c) 1 [[.int .i64 x]] := by
  obtain ⟨css, hrow, h1, h2⟩ := ha.row
  match css, h1 with
  | [cs], _ =>
    have := h2 0 cs x rfl rfl
    obtain ⟨e, _⟩ := this
    rw [e] at hrow
    exact hrow
theorem repeat_spec {x : Int} {c cap : Nat} {a : Option Addr} {H : Hp} {K : SV → St → Hp → Prop} (ha : RL H a 1 cap [x]) (hc : c ≤ 1000000)
    (hK : ∀ H', Le H H' → K (.own 0) ⟨[], [(0, .row 3 1 (List.replicate c [.int .i64 x]))], 1⟩ H') : DoesG Try.prog 55 [.v (.slice a 1 cap), .v (.int .i64 c)] [] 0 H K := by
  have hrow := row_of_one ha
  obtain ⟨R, hR⟩ : ∃ R : Nat → List (List Value), R = fun n => List.replicate n [.int .i64 x] ++ List.replicate (c - n) [.int .i64 0] := ⟨_, rfl⟩
  have hRl : ∀ n ≤ c, (R n).length = c := by intro n hn; rw [hR]; simp; omega
  have hRc : R c = List.replicate c [.int .i64 x] := by rw [hR]; simp
  have e8 : ((List.take (List.replicate c [Value.int .i64 0]).length [[Value.int .i64 x]]).length : Nat) = min c 1 := by simp
  have e80 : SV.v (.int .i64 (((List.take (List.replicate c [Value.int .i64 0]).length [[Value.int .i64 x]]).length : Nat) : Int)) = SV.v (.int .i64 (min c 1 : Nat)) := by rw [e8]
  have e0 : List.take 0 (List.replicate c [Value.int .i64 0]) ++ List.take (List.replicate c [Value.int .i64 0]).length [[Value.int .i64 x]] ++ List.drop (0 + (List.take (List.replicate c [Value.int .i64 0]).length [[Value.int .i64 x]]).length) (List.replicate c [Value.int .i64 0]) = R (min c 1) := by
    rw [e8, hR]
    cases c with
    | zero => rfl
    | succ c => simp [List.replicate_succ]
  have hm : ∀ n ≤ c, (List.take ((R n).length - n) (List.take (n - 0) (List.drop 0 (R n)))).length = min n (c - n) := by
    intro n hn
    rw [List.drop_zero, List.length_take, List.length_take, hRl n hn]; omega
  have eN : ∀ n ≤ c, List.take n (R n) ++ List.take ((R n).length - n) (List.take (n - 0) (List.drop 0 (R n))) ++ List.drop (n + (List.take ((R n).length - n) (List.take (n - 0) (List.drop 0 (R n)))).length) (R n) = R (n + min n (c - n)) := by
    intro n hn
    rw [hm n hn, hRl n hn]
    have h1 : List.take n (R n) = List.replicate n [.int .i64 x] := by rw [hR]; simp
    have h2 : List.take (c - n) (List.take (n - 0) (List.drop 0 (R n))) = List.replicate (min n (c - n)) [.int .i64 x] := by
      rw [List.drop_zero, Nat.sub_zero, h1, List.take_replicate, Nat.min_comm]
    have h3 : List.drop (n + min n (c - n)) (R n) = List.replicate (c - (n + min n (c - n))) [.int .i64 0] := by
      rw [hR]
      simp only [List.drop_append, List.length_replicate, List.drop_replicate]
      rw [show n - (n + min n (c - n)) = 0 by omega, List.replicate_zero, List.nil_append]
      congr 1
      omega
    rw [h1, h2, h3, hR]
    simp only [List.replicate_append_replicate]
  have eM : ∀ n ≤ c, SV.v (.int .i64 ((n : Int) + (((List.take ((R n).length - n) (List.take (n - 0) (List.drop 0 (R n)))).length : Nat) : Int))) = SV.v (.int .i64 ((n + min n (c - n) : Nat) : Int)) := by
    intro n hn
    rw [hm n hn]; rfl
  refine spec_ofG cx_ok cx_mix Try.func55 Try.call55 Try.ntmps55 Try.results55 rfl rfl ?_
  refine ⟨fun h => ?_, fun h => ?_⟩
  · have := dt h; omega
  · refine ⟨⟨by omega, by omega⟩, ?_⟩
    refine ⟨⟨by omega, by omega⟩, ?_⟩
    refine mul1_spec (by omega) ?_
    refine ⟨fun h => ?_, fun h => ?_⟩
    · refine ⟨fun h => ?_, fun h => ?_⟩
      · have := dt h; omega
      · refine ⟨⟨by omega, by omega⟩, ?_⟩
        refine ⟨⟨rfl, by omega, by show (c : Int) * 8 ≤ _; omega, by omega⟩, ?_⟩
        refine ⟨_, hrow, ?_⟩
        refine ⟨by simp, ?_⟩
        refine ⟨Nat, fun n => ⟨[(7, .own 0), (8, .v (.int .i64 n))], [(0, .row 3 1 (R n))], 1⟩, fun n H' => Le H H' ∧ n ≤ c ∧ (1 ≤ c → 1 ≤ n), fun n => c - n, ⟨min c 1, [(0, 0)], ?_, Le.refl H, by omega, by omega⟩, ?_⟩
        · exact ⟨⟨rfl, e80, trivial⟩, ⟨e0, trivial⟩⟩
        rintro n H' _ ⟨hle, hn, h1⟩
        have hl := hRl n hn
        refine ⟨fun h => ?_, fun h => ?_⟩
        · have hlt : n < c := by have := dt h; omega
          refine ⟨some ([0], [0, 1, 2, 3, 4, 5, 6, 7, 8, 9]), by kernel_rfl, ?_⟩
          refine ⟨⟨by omega, by omega, by omega⟩, ?_⟩
          refine ⟨⟨by omega, by omega, by omega⟩, ?_⟩
          refine ⟨by show 0 + (n - 0) ≤ _; omega, ?_⟩
          refine ⟨by show n + ((R n).length - n) ≤ _; omega, ?_⟩
          have hm' := hm n hn
          refine ⟨⟨by show _ ≤ (n : Int) + ((List.take ((R n).length - n) (List.take (n - 0) (List.drop 0 (R n)))).length : Nat); omega, by show (n : Int) + ((List.take ((R n).length - n) (List.take (n - 0) (List.drop 0 (R n)))).length : Nat) ≤ _; omega⟩, ?_⟩
          refine ⟨n + min n (c - n), [(0, 0)], ?_, ⟨hle, by omega, by omega⟩, by dsimp only; omega⟩
          exact ⟨⟨rfl, eM n hn, trivial⟩, ⟨eN n hn, trivial⟩⟩
        · have hnc : n = c := by have := df h; omega
          refine ⟨.own 0, [(0, .row 3 1 (List.replicate c [.int .i64 x]))], 1, [(0, 0)], ?_, hK H' hle⟩
          have e5 : R n = List.replicate c [.int .i64 x] := by rw [hnc, hRc]
          exact ⟨⟨rfl, trivial⟩, ⟨e5, trivial⟩⟩
    · exact absurd (dt h) (by decide)
end Go.Proofs
