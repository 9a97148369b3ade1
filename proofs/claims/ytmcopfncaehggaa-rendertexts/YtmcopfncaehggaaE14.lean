/- Part 'E14' of the proof: lemmas, each with its own conditions in its own statement. -/
import Derived.Test.YtmcopfncaehggaaE13
namespace Go.Proofs
open Go.Sy
set_option maxRecDepth 20000
/-- Where worker w was picked last ahead of i. -/
def lastOf (f : Nat → Int) (w : Nat) : Nat → Int
  | 0 => -1
  | i + 1 => if f i = w then i else lastOf f w i
def wideOf (f : Nat → Int) : Nat → Int
  | 0 => 0
  | i + 1 => max (wideOf f i) (i - lastOf f (f i).toNat i)
def endOf (f : Nat → Int) (len : Nat) (wd : Int) : Nat → Int
  | 0 => wd
  | w + 1 => max (endOf f len wd w) (len - lastOf f w len)
def pk (n : Int) (l : List Pick) (i : Nat) : Int := who (l.getD i (0, 0)).1 (cut n)
def winF (n : Int) (l : List Pick) : Int := min (endOf (pk n l) l.length (wideOf (pk n l) l.length) (cut n).toNat) (l.length + 1)
theorem lastOf_lt (f : Nat → Int) (w : Nat) : ∀ i : Nat, -1 ≤ lastOf f w i ∧ lastOf f w i < i
  | 0 => by simp [lastOf]
  | i + 1 => by
    have := lastOf_lt f w i
    rw [lastOf]
    split <;> omega
theorem wideOf_le (f : Nat → Int) : ∀ i : Nat, 0 ≤ wideOf f i ∧ wideOf f i ≤ i
  | 0 => by simp [wideOf]
  | i + 1 => by
    have := wideOf_le f i
    have := lastOf_lt f (f i).toNat i
    rw [wideOf]
    omega
theorem endOf_le (f : Nat → Int) (len : Nat) (wd : Int) (h : 0 ≤ wd ∧ wd ≤ len) : ∀ w : Nat, 0 ≤ endOf f len wd w ∧ endOf f len wd w ≤ len + 1
  | 0 => by rw [endOf]; omega
  | w + 1 => by
    have := endOf_le f len wd h w
    have := lastOf_lt f w len
    rw [endOf]
    omega
def lastRow (f : Nat → Int) (N i : Nat) : List (List Value) := (List.range N).map fun w => [.int .i64 (lastOf f w i)]
theorem lastRow_zero (f : Nat → Int) (N : Nat) : lastRow f N 0 = List.replicate N [.int .i64 (-1)] := by
  apply List.ext_getElem?
  intro j
  simp only [lastRow, lastOf, List.getElem?_map, List.getElem?_replicate]
  by_cases h : j < N <;> simp [h]
theorem lastRow_set (f : Nat → Int) (N i : Nat) (h0 : 0 ≤ f i) (h1 : f i < N) (v : Value) (hv : v = .int .i64 i) : (lastRow f N i).set (f i).toNat [v] = lastRow f N (i + 1) := by
  subst hv
  apply List.ext_getElem?
  intro j
  simp only [lastRow, List.getElem?_map, List.getElem?_set, List.length_map, List.length_range, lastOf]
  by_cases hj : j < N
  · simp only [List.getElem?_range hj, Option.map_some]
    by_cases he : (f i).toNat = j
    · have : f i = (j : Int) := by omega
      simp [hj, this]
    · have : ¬ f i = (j : Int) := by omega
      simp [he, this]
  · have hno : (List.range N)[j]? = none := List.getElem?_eq_none (by simpa using hj)
    have hne : ¬ (f i).toNat = j := by omega
    rw [hno, if_neg hne]
    rfl
theorem lastRow_len (f : Nat → Int) (N i : Nat) : (lastRow f N i).length = N := by simp [lastRow]
theorem lastRow_get (f : Nat → Int) (N i w : Nat) (h : w < N) : (lastRow f N i)[w]? = some [.int .i64 (lastOf f w i)] := by
  simp [lastRow, h]
theorem who_range {p n : Int} (h : 1 ≤ n) : 0 ≤ who p n ∧ who p n < n := by
  unfold who
  rw [if_neg (by omega)]
  have h1 : 0 ≤ p.tmod n + n := by have := Int.lt_tmod_of_pos p (show 0 < n by omega); omega
  have h2 : p.tmod n < n := Int.tmod_lt_of_pos p (by omega)
  split <;> omega
theorem window_spec {n : Int} {l : List Pick} {a1 : Option Addr} {n1 c1 : Nat} {H : Hp} {K : Value → Hp → Prop} (ha : RL H a1 n1 c1 l) (hsm : l.length ≤ 9223372036854775800)
   (hK : ∀ H', Le H H' → K (.int .i64 (winF n l)) H') : Does Try.prog 24 [.slice a1 n1 c1, .int .i64 n] H K := by
  have hc1 : 1 ≤ cut n ∧ cut n ≤ 64 := by unfold cut; omega
  obtain ⟨cn, hcn⟩ : ∃ cn : Int, cn = cut n := ⟨_, rfl⟩
  obtain ⟨wn, hwn⟩ : ∃ wn : Nat, wn = (cut n).toNat := ⟨_, rfl⟩
  have ecn : cut n = (wn : Int) := by omega
  have hn1 := ha.n_eq
  have hmx := ha.le
  have hpk : ∀ i, 0 ≤ pk n l i ∧ pk n l i < wn := by
    intro i
    have := who_range (p := (l.getD i (0, 0)).1) hc1.1
    unfold pk
    omega
  refine spec_of cx_ok cx_mix rfl Try.func24 Try.call24 Try.ntmps24 Try.results24 rfl rfl ?_
  refine cut_spec ?_
  rw [ecn]
  refine ⟨[], rfl, ?_⟩
  intro x H1 hle1 hx
  obtain ⟨a2, n2, c2, e2, hr2⟩ := RL.of_row (α := Int) hx (RC.nil.snoc (cs := [.int .i64 (-1)]) (x := (-1 : Int)) ⟨rfl, by omega⟩)
  have en2 : n2 = 1 := hr2.n_eq
  subst en2
  subst e2
  refine repeat_spec hr2 (by omega) ?_
  intro H2 hle2
  have e0 : List.replicate wn [Value.int .i64 (-1)] = lastRow (pk n l) wn 0 := (lastRow_zero _ _).symm
  refine ⟨Nat, fun i => ⟨[(0, .v (.slice a1 n1 c1)), (1, .v (.int .i64 (wn : Int))), (5, .own 0), (6, .v (.int .i64 (wideOf (pk n l) i))), (17, .v (.slice a1 n1 c1)), (18, .v (.int .i64 n1)), (19, .v (.int .i64 i))], [(0, .row 3 1 (lastRow (pk n l) wn i))], 1⟩, fun i H' => Le H H' ∧ i ≤ l.length, fun i => l.length - i, ⟨0, [(0, 1)], ?_, hle1.trans hle2, by omega⟩, ?_⟩
  · exact ⟨⟨rfl, rfl, rfl, rfl, rfl, rfl, rfl, trivial⟩, ⟨e0, trivial⟩⟩
  rintro i H3 _ ⟨hle, hi⟩
  refine ⟨fun h => ?_, fun h => ?_⟩
  · have hlt : i < l.length := by have := dt h; omega
    have hx := List.getElem?_eq_getElem hlt
    have hq := ha.up hle
    have hr := hq.elem hx
    obtain ⟨ad, cs, e1, h1, r1⟩ := hr
    have e3 := pick_open r1
    rw [e3] at h1
    refine ⟨ad, ⟨by omega, by omega, e1⟩, ?_⟩
    refine ⟨_, h1, ?_⟩
    have epk : who (l[i]).1 (wn : Int) = pk n l i := by
      unfold pk
      rw [ecn, List.getD_eq_getElem?_getD, hx]
      rfl
    refine swho_spec (by omega) ?_
    rw [epk]
    have hpi := hpk i
    have hll := lastRow_len (pk n l) wn i
    have hget := lastRow_get (pk n l) wn i (pk n l i).toNat (by omega)
    have hlo := lastOf_lt (pk n l) (pk n l i).toNat i
    have hwi := wideOf_le (pk n l) i
    refine ⟨⟨by omega, by omega⟩, ?_⟩
    refine ⟨_, hget, ?_⟩
    refine ⟨⟨by omega, by omega⟩, ?_⟩
    refine ⟨⟨by omega, by omega⟩, ?_⟩
    refine ⟨_, hget, ?_⟩
    have eset := lastRow_set (pk n l) wn i hpi.1 hpi.2 _ rfl
    refine ⟨⟨by omega, by omega⟩, i + 1, [(0, 0)], ?_, ⟨hle, by omega⟩, by dsimp only; omega⟩
    exact ⟨⟨rfl, rfl, rfl, rfl, rfl, rfl, rfl, trivial⟩, ⟨eset, trivial⟩⟩
  · have hil : i = l.length := by have := df h; omega
    have hwi := wideOf_le (pk n l) i
    have ewd : wideOf (pk n l) i = wideOf (pk n l) l.length := by rw [hil]
    have erow : lastRow (pk n l) wn i = lastRow (pk n l) wn l.length := by rw [hil]
    have hll := lastRow_len (pk n l) wn l.length
    have ewn : SV.v (.int .i64 ((lastRow (pk n l) wn i).length : Int)) = SV.v (.int .i64 (wn : Int)) := by rw [lastRow_len]
    have ew6 : SV.v (.int .i64 (wideOf (pk n l) i)) = SV.v (.int .i64 (endOf (pk n l) l.length (wideOf (pk n l) l.length) 0)) := by rw [hil]; rfl
    refine ⟨Nat, fun w => ⟨[(0, .v (.slice a1 n1 c1)), (6, .v (.int .i64 (endOf (pk n l) l.length (wideOf (pk n l) l.length) w))), (40, .own 0), (41, .v (.int .i64 (wn : Int))), (42, .v (.int .i64 w))], [(0, .row 3 1 (lastRow (pk n l) wn l.length))], 1⟩, fun w H' => Le H H' ∧ w ≤ wn, fun w => wn - w, ⟨0, [(0, 0)], ?_, hle, by omega⟩, ?_⟩
    · exact ⟨⟨rfl, ew6, rfl, ewn, rfl, trivial⟩, ⟨erow, trivial⟩⟩
    rintro w H4 _ ⟨hle4, hw⟩
    have hend := endOf_le (pk n l) l.length (wideOf (pk n l) l.length) (by rw [← hil]; omega) w
    refine ⟨fun h => ?_, fun h => ?_⟩
    · have hlt : w < wn := by have := dt h; omega
      have hget := lastRow_get (pk n l) wn l.length w hlt
      have hlo := lastOf_lt (pk n l) w l.length
      refine ⟨⟨by omega, by omega⟩, ?_⟩
      refine ⟨_, hget, ?_⟩
      refine ⟨⟨by omega, by omega⟩, ?_⟩
      refine ⟨⟨by omega, by omega⟩, w + 1, [(0, 0)], ?_, ⟨hle4, by omega⟩, by dsimp only; omega⟩
      have ew : SV.v (.int .i64 (max (endOf (pk n l) l.length (wideOf (pk n l) l.length) w) ((n1 : Int) - lastOf (pk n l) w l.length))) = SV.v (.int .i64 (endOf (pk n l) l.length (wideOf (pk n l) l.length) (w + 1))) := by rw [hn1]; rfl
      exact ⟨⟨rfl, ew, rfl, rfl, rfl, trivial⟩, ⟨rfl, trivial⟩⟩
    · have hwe : w = wn := by have := df h; omega
      refine ⟨⟨by omega, by omega⟩, ?_⟩
      have h9 := hK H4 hle4
      have ew : winF n l = min (endOf (pk n l) l.length (wideOf (pk n l) l.length) w) ((n1 : Int) + 1) := by rw [hwe, hn1, hwn]; rfl
      rw [ew] at h9
      exact h9
end Go.Proofs
