/- Part 'M30' of the proof (Gw1, Gw2, Dl, Mg2, Mg3, Mg4, Mg5, W0, W1, W2, W3, W4, W5, W6, W7, W8, W9, W10, W11, W12, W13, W14, W15, Fo0, W16, Fo1, Fo2, Px0, Rn0, Px1, Fr0, Fr1, Fr2, Fr3, Fr4, Fr5, Lv0, Lv1, Lv2, Fo3, Ex1, Ex2, Ex3, Ex4, Fo4, Fo5, Fo5b, Fo6, Sw5, Ex5, Pr10, Fr6): lemmas, each with its own conditions in its own statement. -/
import Derived.Test.YtheokcjommfopaaGreatDoorM15
import Derived.Test.YtheokcjommfopaaGreatDoorM22
import Derived.Test.YtheokcjommfopaaGreatDoorM24
import Derived.Test.YtheokcjommfopaaGreatDoorM28
import Derived.Test.YtheokcjommfopaaGreatDoorM29
import Derived.Test.YtheokcjommfopaaGreatDoorM3
section
namespace Go.Proofs
open Go.Sy Go.Shelf Go.RowKit Go.Lib
set_option maxRecDepth 20000
end Go.Proofs
end
section
namespace Go.Proofs
open Go.Sy
set_option maxRecDepth 20000
set_option maxHeartbeats 4000000
theorem list_k {α : Type} [Enc α] {P : Prop} {H : Hp} {a : Option Addr} {n c : Nat} {xs : List (List α)} (h : RL H a n c xs) {i : Nat} {x : List α} (hi : xs[i]? = some x) (k : ∀ ad a1 n1 c1, a = some ad → ElemH H ad (i : Int) 1 [.slice a1 n1 c1] → RL H a1 n1 c1 x → P) : P :=
  elem_k h hi fun ad cs h1 h2 h3 => by
    obtain ⟨a1, n1, c1, rfl, h4⟩ := h3
    exact k ad a1 n1 c1 h1 h2 h4
end Go.Proofs
end
section
namespace Go.Proofs
open Go.Sy
set_option maxRecDepth 20000
end Go.Proofs
end
section
namespace Go.Proofs
open Go.Sy
set_option maxRecDepth 20000
set_option maxHeartbeats 4000000
theorem RC.drop {α : Type} [Enc α] {H : Hp} {css : List (List Value)} {xs : List α} (h : RC H css xs) (k : Nat) : RC H (css.drop k) (xs.drop k) := by
  have hl : css.length = xs.length := h.1
  refine ⟨by rw [List.length_drop, List.length_drop, hl], fun i cs x h1 h2 => ?_⟩
  rw [List.getElem?_drop] at h1 h2
  exact h.2 _ cs x h1 h2
end Go.Proofs
end
section
namespace Go.Proofs
open Go.Sy
set_option maxRecDepth 20000
set_option maxHeartbeats 4000000
end Go.Proofs
end
section
namespace Go.Proofs
open Go.Sy
set_option maxRecDepth 20000
set_option maxHeartbeats 4000000
theorem edge_k {P : Prop} {H : Hp} {a : Option Addr} {n c : Nat} {xs : List Edg} (h : RL H a n c xs) {i : Nat} {x : Edg} (hi : xs[i]? = some x) (k : ∀ ad, a = some ad → ElemH H ad (i : Int) 2 [.int .i64 x.1, .int .i64 x.2] → P) : P :=
  elem_k h hi fun ad cs h1 h2 h3 => by
    obtain ⟨rfl, _⟩ := edge_open h3
    exact k ad h1 h2
theorem of_row_k {α : Type} [Enc α] {P : Prop} {H : Hp} {v : Value} {css : List (List Value)} {xs : List α} (h : RowAt H v (Enc.sz α) css) (hc : RC H css xs) (k : ∀ a n c, v = .slice a n c → RL H a n c xs → P) : P := by
  obtain ⟨a, n, c, e, hr⟩ := RL.of_row h hc
  exact k a n c e hr
end Go.Proofs
end
section
namespace Go.Proofs
open Go.Sy
set_option maxRecDepth 20000
set_option maxHeartbeats 4000000
end Go.Proofs
end
section
namespace Go.Proofs
open Go.Sy
set_option maxRecDepth 20000
end Go.Proofs
end
section
namespace Go.Proofs
open Go.Sy
set_option maxRecDepth 20000
set_option maxHeartbeats 4000000
theorem kint {K : Value → Hp → Prop} {H : Hp} {k : IntKind} {x y : Int} (h : K (.int k x) H) (e : x = y) : K (.int k y) H := e ▸ h
end Go.Proofs
end
section
namespace Go.Proofs
open Go.Sy
set_option maxRecDepth 20000
set_option maxHeartbeats 4000000
theorem word_k {P : Prop} {H : Hp} {a : Option Addr} {n c : Nat} {xs : List UInt64} (h : RL H a n c xs) {i : Nat} {x : UInt64} (hi : xs[i]? = some x) (k : ∀ ad, a = some ad → ElemH H ad (i : Int) 1 [.int .u64 (x.toNat : Nat)] → x.toNat < 18446744073709551616 → P) : P :=
  elem_k h hi fun ad cs h1 h2 h3 => by
    have e : cs = [.int .u64 (x.toNat : Nat)] := h3
    subst e
    exact k ad h1 h2 x.toNat_lt
theorem u64_of {w : Nat} (h : w < 18446744073709551616) : (UInt64.ofNat w).toNat = w := UInt64.toNat_ofNat_of_lt' (by show w < 2 ^ 64; omega)
theorem rc_w {H : Hp} {l : List UInt64} : RC (α := UInt64) H (l.map fun w => [Value.int .u64 (w.toNat : Nat)]) l := by
  refine ⟨by simp, fun i cs x h1 h2 => ?_⟩
  rw [List.getElem?_map, h2] at h1
  cases h1
  exact rfl
end Go.Proofs
end
section
namespace Go.Proofs
open Go.Sy
set_option maxRecDepth 20000
set_option maxHeartbeats 4000000
abbrev Wd := List UInt64
abbrev c2 (w : Nat) : List (Nat × Bx) := [(0, .cells 3 [.v (.int .i64 3)]), (1, .cells 3 [.v (.int .i64 (w : Nat))])]
end Go.Proofs
end
section
namespace Go.Proofs
open Go.Sy
set_option maxRecDepth 20000
set_option maxHeartbeats 4000000
abbrev Rf := Int × Nm
abbrev Cd := Int × Int × Rf × Rf
abbrev vL (l : List Value) : List SV := l.map .v
abbrev c1 (w : Nat) : List (Nat × Bx) := [(0, .cells 3 [.v (.int .i64 (w : Nat))])]
abbrev uRows (l : Wd) : List (List Value) := l.map fun w => [.int .u64 (w.toNat : Nat)]
theorem uRows_of {H : Hp} {css : List (List Value)} {l : Wd} (h : RC (α := UInt64) H css l) : css = uRows l := by
  apply List.ext_getElem?
  intro i
  by_cases hi : i < css.length
  · have hi2 : i < l.length := by rw [← h.1]; exact hi
    have h1 := List.getElem?_eq_getElem hi
    have h2 := List.getElem?_eq_getElem hi2
    have h3 : css[i] = [.int .u64 (l[i].toNat : Nat)] := h.2 i _ _ h1 h2
    rw [h1, h3, List.getElem?_map, h2]; rfl
  · rw [List.getElem?_eq_none (by omega), List.getElem?_eq_none (by rw [List.length_map, ← h.1]; omega)]
theorem cloneUN_spec {l : Wd} (hl : l.length ≤ 1000000) {a : Option Addr} {n c : Nat} {H : Hp} {K : Value → Hp → Prop} (ha : RL H a n c l) (hK : ∀ v H', LeN 126 1 (uRows l) H v H' → RowAt H' v 1 (uRows l) → K v H') (hnil : a = none → l = [] → K (.slice none 0 0) H) : Does Tryz.prog 253 [.slice a n c] H K := by
  have hn := ha.n_eq
  refine spec_of cx_ok cx_mix rfl Tryz.func253 Tryz.call253 Tryz.ntmps253 Tryz.results253 rfl rfl ?_
  refine ⟨fun h => ?_, fun h => ?_⟩
  · have hno : a = none := by
      cases a with
      | none => rfl
      | some x => cases h
    subst hno
    exact hnil rfl (RL_nil ha)
  · obtain ⟨css, hrow, hrc⟩ := ha.row
    have hcl : css.length = l.length := hrc.1
    have e := uRows_of hrc
    refine ⟨css, hrow, ?_⟩
    refine ⟨⟨by show (0 + css.length) * 8 ≤ 140737488355328; omega, by show 0 + css.length ≤ 9223372036854775807; omega⟩, ?_⟩
    intro v H' hle hv
    rw [e] at hle hv
    exact hK v H' hle hv
theorem cloneU_spec {l : Wd} (hl : l.length ≤ 1000000) {a : Option Addr} {n c : Nat} {H : Hp} {K : Value → Hp → Prop} (ha : RL H a n c l) (hK : ∀ a1 n1 c1 H', Le H H' → RL H' a1 n1 c1 l → K (.slice a1 n1 c1) H') : Does Tryz.prog 253 [.slice a n c] H K := by
  refine cloneUN_spec hl ha (fun v H' hle hv => ?_) (fun _ e => ?_)
  · obtain ⟨a1, n1, c1, rfl, hr⟩ := RL.of_row (α := UInt64) hv rc_w
    exact hK _ _ _ _ hle.le hr
  · rw [e] at hK
    exact hK none 0 0 H (Le.refl H) rl_nil
end Go.Proofs
end
section
namespace Go.Proofs
open Go.Sy
set_option maxRecDepth 20000
set_option maxHeartbeats 4000000
theorem uRows_get {v : Wd} {i : Int} (h0 : 0 ≤ i) (h1 : i < (v.length : Nat)) : (uRows v)[i.toNat]? = some [.int .u64 ((v[i.toNat]?.getD 0).toNat : Nat)] := by
  have h : i.toNat < v.length := by omega
  rw [List.getElem?_map, List.getElem?_eq_getElem h]; rfl
theorem uRows_len (v : Wd) : (uRows v).length = v.length := List.length_map _
theorem uRows_set (v : Wd) (i : Nat) {x : Nat} (hx : x < 18446744073709551616) : (uRows v).set i [.int .u64 (x : Nat)] = uRows (v.set i (UInt64.ofNat x)) := by
  rw [uRows, uRows, List.map_set, u64_of hx]
abbrev b2 (v : Wd) : List (Nat × Bx) := [(0, .cells 103 [.own 1]), (1, .row 126 1 (uRows v))]
end Go.Proofs
end
section
namespace Go.Proofs
open Go.Sy
set_option maxRecDepth 20000
set_option maxHeartbeats 4000000
end Go.Proofs
end
section
namespace Go.Proofs
open Go.Sy
set_option maxRecDepth 20000
set_option maxHeartbeats 4000000
structure Tr3 where
  l : List Cd
instance : Enc Tr3 where
  sz := 3
  R H cs x := ∃ a n c, cs = [.slice none 0 0, .slice none 0 0, .slice a n c] ∧ RL H a n c x.l
  len h := by obtain ⟨_, _, _, rfl, _⟩ := h; rfl
  one h := by obtain ⟨_, _, _, rfl, _⟩ := h; intro u hu; simp at hu; rcases hu with rfl | rfl <;> rfl
  up hle h := by obtain ⟨a, n, c, e, h⟩ := h; exact ⟨a, n, c, e, h.up hle⟩
structure Sy3 where
  w : Nat
  m : Nat
  E : List Edg
  ent : List Int
  ini : Wd
  T : List (List Cd)
structure SA where
  ea : Option Addr
  en : Nat
  ec : Nat
  na : Option Addr
  nn : Nat
  nc : Nat
  ia : Option Addr
  ni : Nat
  ic : Nat
  ta : Option Addr
  tn : Nat
  tc : Nat
structure SysR (H : Hp) (s : Sy3) (z : SA) : Prop where
  e : RL H z.ea z.en z.ec s.E
  n : RL H z.na z.nn z.nc s.ent
  i : RL H z.ia z.ni z.ic s.ini
  t : RL (α := Tr3) H z.ta z.tn z.tc (s.T.map Tr3.mk)
theorem SysR.up {H H' : Hp} {s : Sy3} {z : SA} (h : SysR H s z) (hle : Le H H') : SysR H' s z := ⟨h.e.up hle, h.n.up hle, h.i.up hle, h.t.up hle⟩
theorem right_true {m : Int} {l : List Edg} (h : rightE m l = true) {a : Option Addr} {n c : Nat} {H : Hp} {K : Value → Hp → Prop} (ha : RL H a n c l) (hK : K (.bool true) H) : Does Tryz.prog 217 [.int .i64 m, .slice a n c] H K :=
  right_spec ha (by rw [h]; exact hK)
theorem nilRow_rc {m : Nat} {H : Hp} : RC (α := Wd) H (List.replicate m [Value.slice none 0 0]) (List.replicate m []) := by
  refine ⟨by simp, fun i cs x h1 h2 => ?_⟩
  rw [List.getElem?_replicate] at h1 h2
  split at h1
  · rename_i hlt
    rw [if_pos hlt] at h2
    cases h1; cases h2
    exact ⟨none, 0, 0, rfl, rl_nil⟩
  · cases h1
theorem wdrow_k {P : Prop} {H : Hp} {css : List (List Value)} {A : List Wd} (h : RC (α := Wd) H css A) {i : Nat} {x : Wd} (hi : A[i]? = some x) (k : ∀ a n c, css[i]? = some [.slice a n c] → RL H a n c x → P) : P := by
  have hlt := (List.getElem?_eq_some_iff.1 hi).1
  have hl : css.length = A.length := h.1
  have hg : css[i]? = some (css[i]'(by omega)) := List.getElem?_eq_getElem _
  obtain ⟨a, n, c, e, hr⟩ := h.2 i _ x hg hi
  exact k a n c (by rw [hg, e]) hr
theorem wd_set {H : Hp} {css : List (List Value)} {A : List Wd} (h : RC (α := Wd) H css A) {i : Nat} {a : Option Addr} {n c : Nat} {x : Wd} (hx : RL H a n c x) : RC (α := Wd) H (css.set i [.slice a n c]) (A.set i x) :=
  RC.set h (show Enc.R (α := Wd) H [.slice a n c] x from ⟨a, n, c, rfl, hx⟩) i
def fillV (f : Nat → Wd) (m i : Nat) : List Wd := (List.range i).map f ++ List.replicate (m - i) []
theorem fillV_len (f : Nat → Wd) {m i : Nat} (h : i ≤ m) : (fillV f m i).length = m := by
  rw [fillV, List.length_append, List.length_map, List.length_range, List.length_replicate]; omega
theorem fillV_get (f : Nat → Wd) {m i : Nat} (h : i < m) : (fillV f m i)[i]? = some [] := by
  rw [fillV, List.getElem?_append_right (by simp), List.length_map, List.length_range, Nat.sub_self, List.getElem?_replicate, if_pos (by omega)]
theorem fillV_set (f : Nat → Wd) {m i : Nat} (h : i < m) : (fillV f m i).set i (f i) = fillV f m (i + 1) := by
  have hl : ((List.range i).map f).length = i := by simp
  have hr : List.replicate (m - i) ([] : Wd) = [] :: List.replicate (m - (i + 1)) [] := by rw [show m - i = (m - (i + 1)) + 1 by omega, List.replicate_succ]
  rw [fillV, fillV, List.set_append_right _ _ (by omega), hl, Nat.sub_self, hr, List.set_cons_zero, List.range_succ, List.map_append]
  simp
theorem fillV_full (f : Nat → Wd) (m : Nat) : fillV f m m = (List.range m).map f := by simp [fillV]
theorem map_const (m : Nat) (x : Wd) : (List.range m).map (fun _ => x) = List.replicate m x := by
  rw [List.map_const', List.length_range]
end Go.Proofs
end
section
namespace Go.Proofs
open Go.Sy
set_option maxRecDepth 20000
set_option maxHeartbeats 4000000
end Go.Proofs
end
section
namespace Go.Proofs
open Go.Sy
set_option maxRecDepth 20000
set_option maxHeartbeats 4000000
theorem list_eq_take {α : Type} [DecidableEq α] {a b : List α} (hl : a.length = b.length) (h : ∀ i < a.length, a[i]? = b[i]?) : a = b := by
  apply List.ext_getElem?
  intro i
  by_cases hi : i < a.length
  · exact h i hi
  · rw [List.getElem?_eq_none (by omega), List.getElem?_eq_none (by omega)]
theorem equal_spec {x y : Wd} {a a2 : Option Addr} {n c n2 k2 : Nat} {H : Hp} {K : Value → Hp → Prop} (ha : RL H a n c x) (hb : RL H a2 n2 k2 y) (hK : K (.bool (decide (x = y))) H) : Does Tryz.prog 214 [.slice a n c, .slice a2 n2 k2] H K := by
  have hn := ha.n_eq
  have hn2 := hb.n_eq
  have hmx := ha.le
  refine spec_of cx_ok cx_mix rfl Tryz.func214 Tryz.call214 Tryz.ntmps214 Tryz.results214 rfl rfl ?_
  refine ⟨fun h => ?_, fun h => ?_⟩
  · have h1 : ¬ n = n2 := by have := nt h; omega
    exact kbool hK (decide_eq_false (fun e => h1 (by rw [hn, hn2, e])))
  · have h1 : n = n2 := by have := nf h; omega
    refine ⟨Nat, fun i => ⟨[(0, .v (.slice a n c)), (1, .v (.slice a2 n2 k2)), (11, .v (.slice a n c)), (12, .v (.int .i64 n)), (13, .v (.int .i64 i))], [], 0⟩,
      fun i H' => H' = H ∧ i ≤ x.length ∧ ∀ j < i, x[j]? = y[j]?, fun i => x.length - i, ⟨0, [], ?_, rfl, Nat.zero_le _, fun j hj => (by cases hj)⟩, ?_⟩
    · (repeat' (first|exact trivial|refine ⟨?_,?_⟩|exact rfl|assumption))
    rintro i H1 _ ⟨rfl, hi, hx⟩
    refine ⟨fun h => ?_, fun h => ?_⟩
    · have hlt : i < x.length := by have := dt h; omega
      have hlt2 : i < y.length := by omega
      have ex := List.getElem?_eq_getElem hlt
      have ey := List.getElem?_eq_getElem hlt2
      refine word_k ha ex fun ad q1 hh _ => ?_
      refine word_k hb ey fun ad2 q2 hh2 _ => ?_
      refine ⟨some ([], [0, 1, 2, 3, 4, 5, 6, 7, 8]), by kernel_rfl, ?_⟩
      refine ⟨ad, ⟨by omega, by omega, q1⟩, ?_⟩
      refine ⟨_, hh, ?_⟩
      refine ⟨ad2, ⟨by omega, by omega, q2⟩, ?_⟩
      refine ⟨_, hh2, ?_⟩
      refine ⟨fun h => ?_, fun h => ?_⟩
      · have hne : ¬ x[i].toNat = y[i].toNat := by have := nt h; omega
        exact kbool hK (decide_eq_false (fun e => hne (by subst e; rfl)))
      · have heq : x[i] = y[i] := UInt64.toNat_inj.1 (by have := nf h; omega)
        refine ⟨⟨by omega, by omega⟩, i + 1, [], ?_, ⟨rfl, hlt, fun j hj => ?_⟩, by dsimp only; omega⟩
        · (repeat' (first|exact trivial|refine ⟨?_,?_⟩|exact rfl|assumption))
        · rcases Nat.lt_succ_iff_lt_or_eq.1 hj with h | h
          · exact hx j h
          · rw [h, ex, ey, heq]
    · have hil : i = x.length := by have := df h; omega
      exact kbool hK (decide_eq_true (list_eq_take (by omega) (fun j hj => hx j (by omega))))
theorem equalF_spec {A B : List Wd} {a a2 : Option Addr} {n c n2 k2 : Nat} {H : Hp} {K : SV → St → Hp → Prop} (ha : RL H a n c A) (hb : RL H a2 n2 k2 B) (hK : K (.v (.bool (decide (A = B)))) ⟨[], [], 0⟩ H) :
    DoesG Tryz.prog 213 [.v (.slice a n c), .v (.slice a2 n2 k2), .fn 214 []] [] 0 H K := by
  have hn := ha.n_eq
  have hn2 := hb.n_eq
  have hmx := ha.le
  have hF : ¬ A = B → K (.v (.bool false)) ⟨[], [], 0⟩ H := fun h => by rw [decide_eq_false h] at hK; exact hK
  refine spec_ofG cx_ok cx_mix Tryz.func213 Tryz.call213 Tryz.ntmps213 Tryz.results213 rfl rfl ?_
  refine ⟨fun h => ?_, fun h => ?_⟩
  · have h1 : ¬ n = n2 := by have := nt h; omega
    exact ⟨.v (.bool false), [], 0, [], by (repeat' (first|exact trivial|refine ⟨?_,?_⟩|exact rfl|assumption)), hF (fun e => h1 (by rw [hn, hn2, e]))⟩
  · have h1 : n = n2 := by have := nf h; omega
    refine ⟨Nat, fun i => ⟨[(1, .v (.slice a2 n2 k2)), (2, .fn 214 []), (15, .v (.slice a n c)), (16, .v (.int .i64 n)), (17, .v (.int .i64 i))], [], 0⟩,
      fun i H' => H' = H ∧ i ≤ A.length ∧ ∀ j < i, A[j]? = B[j]?, fun i => A.length - i, ⟨0, [], ?_, rfl, Nat.zero_le _, fun j hj => (by cases hj)⟩, ?_⟩
    · (repeat' (first|exact trivial|refine ⟨?_,?_⟩|exact rfl|assumption))
    rintro i H1 _ ⟨rfl, hi, hx⟩
    refine ⟨fun h => ?_, fun h => ?_⟩
    · have hlt : i < A.length := by have := dt h; omega
      have hlt2 : i < B.length := by omega
      have ex := List.getElem?_eq_getElem hlt
      have ey := List.getElem?_eq_getElem hlt2
      refine list_k ha ex fun ad a5 n5 c5 q1 hh hr1 => ?_
      refine list_k hb ey fun ad2 a6 n6 c6 q2 hh2 hr2 => ?_
      refine ⟨ad, ⟨by omega, by omega, q1⟩, ?_⟩
      refine ⟨_, hh, ?_⟩
      refine ⟨ad2, ⟨by omega, by omega, q2⟩, ?_⟩
      refine ⟨_, hh2, ?_⟩
      refine equal_spec hr1 hr2 ?_
      refine ⟨fun h => ?_, fun h => ?_⟩
      · have hne : ¬ A[i] = B[i] := nt h
        exact ⟨.v (.bool false), [], 0, [], by (repeat' (first|exact trivial|refine ⟨?_,?_⟩|exact rfl|assumption)), hF (fun e => hne (by subst e; rfl))⟩
      · have heq : A[i] = B[i] := nf h
        refine ⟨⟨by omega, by omega⟩, i + 1, [], ?_, ⟨rfl, hlt, fun j hj => ?_⟩, by dsimp only; omega⟩
        · (repeat' (first|exact trivial|refine ⟨?_,?_⟩|exact rfl|assumption))
        · rcases Nat.lt_succ_iff_lt_or_eq.1 hj with h | h
          · exact hx j h
          · rw [h, ex, ey, heq]
    · have hil : i = A.length := by have := df h; omega
      rw [decide_eq_true (list_eq_take (by omega) (fun j hj => hx j (by omega)))] at hK
      exact ⟨.v (.bool true), [], 0, [], by (repeat' (first|exact trivial|refine ⟨?_,?_⟩|exact rfl|assumption)), hK⟩
theorem lsame_spec {A B : List Wd} {a a2 : Option Addr} {n c n2 k2 : Nat} {H : Hp} {K : Value → Hp → Prop} (ha : RL H a n c A) (hb : RL H a2 n2 k2 B) (hK : K (.bool (decide (A = B))) H) : Does Tryz.prog 156 [.slice a n c, .slice a2 n2 k2] H K := by
  refine spec_of cx_ok cx_mix rfl Tryz.func156 Tryz.call156 Tryz.ntmps156 Tryz.results156 rfl rfl ?_
  refine ⟨[], rfl, equalF_spec ha hb ?_⟩
  exact hK
def mixV (f : Nat → Wd) (b : Wd) (m i : Nat) : List Wd := (List.range m).map fun v => if v < i then f v else b
theorem mixV_get (f : Nat → Wd) (b : Wd) {m i : Nat} (h : i < m) : (mixV f b m i)[i]? = some b := by
  rw [mixV, List.getElem?_map, List.getElem?_range h]; simp
theorem mixV_set (f : Nat → Wd) (b : Wd) {m i : Nat} (_ : i < m) : (mixV f b m i).set i (f i) = mixV f b m (i + 1) := by
  apply List.ext_getElem?
  intro j
  rw [List.getElem?_set]
  have hl : (mixV f b m i).length = m := by simp [mixV]
  split
  · rename_i e
    subst e
    rw [if_pos (by omega), mixV, List.getElem?_map, List.getElem?_range (by omega)]
    simp
  · rename_i e
    rw [mixV, mixV, List.getElem?_map, List.getElem?_map]
    by_cases hj : j < m
    · rw [List.getElem?_range hj]
      simp only [Option.map_some, Option.some.injEq]
      by_cases h1 : j < i
      · rw [if_pos h1, if_pos (by omega)]
      · rw [if_neg h1, if_neg (by omega)]
    · rw [List.getElem?_eq_none (by simpa using hj)]; rfl
theorem mixV_zero (f : Nat → Wd) (b : Wd) (m : Nat) : mixV f b m 0 = List.replicate m b := by
  rw [mixV, ← map_const]; simp
theorem mixV_full (f : Nat → Wd) (b : Wd) (m : Nat) : mixV f b m m = (List.range m).map f := by
  apply List.map_congr_left
  intro v hv
  rw [if_pos (List.mem_range.1 hv)]
theorem rc_one {H : Hp} {css : List (List Value)} {A : List Wd} (h : RC (α := Wd) H css A) : ∀ y ∈ css, y.length = 1 ∧ ∀ u ∈ y, u.oneCell' = true := by
  intro y hy
  obtain ⟨i, hi⟩ := List.getElem?_of_mem hy
  have hlt := (List.getElem?_eq_some_iff.1 hi).1
  have hcl : css.length = A.length := h.1
  have := h.2 i y (A[i]'(by omega)) hi (List.getElem?_eq_getElem _)
  exact ⟨Enc.len this, Enc.one this⟩
end Go.Proofs
end
section
namespace Go.Proofs
open Go.Sy
set_option maxRecDepth 20000
set_option maxHeartbeats 4000000
end Go.Proofs
end
section
namespace Go.Proofs
open Go.Sy
set_option maxRecDepth 20000
set_option maxHeartbeats 4000000
def vIdx (p : Prog) (t : Bs8) : Int := idxS t (varsOf p) 0
theorem vIdx_range (p : Prog) (t : Bs8) : vIdx p t = -1 ∨ (0 ≤ vIdx p t ∧ vIdx p t < ((varsOf p).length : Nat)) := by
  have := idxS_range t (varsOf p) 0 (Int.le_refl 0)
  rcases this with h | ⟨h1, h2⟩
  · exact .inl h
  · exact .inr ⟨h1, by rw [vIdx]; omega⟩
end Go.Proofs
end
section
namespace Go.Proofs
open Go.Sy
set_option maxRecDepth 20000
set_option maxHeartbeats 4000000
abbrev zSys : List Value := [.int .i64 0, .int .i64 0, .int .i64 0, .slice none 0 0, .slice none 0 0, .slice none 0 0, .slice none 0 0]
end Go.Proofs
end
section
namespace Go.Proofs
open Go.Sy
set_option maxRecDepth 20000
set_option maxHeartbeats 4000000
theorem exprB_op {x : Expr} (h : exprB x = true) : 0 ≤ x.1 ∧ x.1 ≤ 4 := by
  unfold exprB at h
  split at h
  · rename_i h1
    simp only [op1, Bool.or_eq_true, decide_eq_true_eq] at h1
    omega
  · split at h
    · rename_i h1
      simp only [op2, Bool.or_eq_true, decide_eq_true_eq] at h1
      omega
    · cases h
theorem check_facts {p : Prog} (h : checkE p = 0) : 1 ≤ p.length ∧ p.length ≤ 128 ∧ (varsOf p).length ≤ 64 ∧ ∀ b ∈ p, blockB b = true := by
  unfold checkE at h
  split at h
  · cases h
  · rename_i h0
    split at h
    · rename_i h1
      split at h
      · cases h
      · refine ⟨by omega, by omega, by omega, fun b hb => List.all_eq_true.1 h1 b hb⟩
    · cases h
theorem block_stmts {b : Block} (h : blockB b = true) : ∀ s ∈ b.2.1, stmtB s = true := by
  rw [blockB, Bool.and_eq_true] at h
  exact fun s hs => List.all_eq_true.1 h.2 s hs
theorem eN_lt {p : Prog} {i : Nat} {t : Bs8} : ∀ e ∈ eN p i t, e.1 = (i : Int) ∧ 0 ≤ e.2 ∧ e.2 < (p.length : Nat) := by
  intro e he
  unfold eN at he
  have hr := idxS_range t (nms p) 0 (by omega)
  rw [List.length_map] at hr
  split at he
  · rename_i h0
    simp only [List.mem_cons, List.not_mem_nil, or_false] at he
    subst he
    exact ⟨rfl, h0, by dsimp only; omega⟩
  · simp at he
theorem eB_lt {p : Prog} {i : Nat} {b : Block} : ∀ e ∈ eB p i b, e.1 = (i : Int) ∧ 0 ≤ e.2 ∧ e.2 < (p.length : Nat) := by
  intro e he
  unfold eB at he
  rcases List.mem_append.1 he with he | he
  · split at he
    · exact eN_lt e he
    · cases he
  · split at he
    · exact eN_lt e he
    · cases he
theorem eAll_lt {p : Prog} : ∀ (l : List Block) (i : Nat), ∀ e ∈ eAll p l i, ((i : Int) ≤ e.1 ∧ e.1 < ((i + l.length : Nat) : Int)) ∧ 0 ≤ e.2 ∧ e.2 < (p.length : Nat)
  | [], _, e, he => by simp [eAll] at he
  | b :: r, i, e, he => by
    rw [eAll] at he
    rcases List.mem_append.1 he with he | he
    · have h := eB_lt e he
      rw [List.length_cons]
      exact ⟨⟨by omega, by omega⟩, h.2⟩
    · have h := eAll_lt r (i + 1) e he
      rw [List.length_cons]
      exact ⟨⟨by omega, by omega⟩, h.2⟩
end Go.Proofs
end
section
namespace Go.Proofs
open Go.Sy
set_option maxRecDepth 20000
set_option maxHeartbeats 4000000
end Go.Proofs
end
section
namespace Go.Proofs
open Go.Sy
set_option maxRecDepth 20000
set_option maxHeartbeats 4000000
end Go.Proofs
end
section
namespace Go.Proofs
open Go.Sy
set_option maxRecDepth 20000
set_option maxHeartbeats 4000000
end Go.Proofs
end
section
namespace Go.Proofs
open Go.Sy
set_option maxRecDepth 20000
set_option maxHeartbeats 4000000
theorem stmt_mk {H : Hp} {s : Stmt} (h : stmtR s) : Enc.R H (.int .i64 s.1 :: .string (bs s.2.1.l) :: .int .i64 s.2.2.1 :: (atmV s.2.2.2.1 ++ atmV s.2.2.2.2)) s :=
  ⟨[.int .i64 s.1], _, rfl, ⟨rfl, h.1⟩, [.string (bs s.2.1.l)], _, rfl, ⟨rfl, h.2.1⟩, [.int .i64 s.2.2.1], atmV s.2.2.2.1 ++ atmV s.2.2.2.2, rfl, ⟨rfl, h.2.2.1⟩, atmV s.2.2.2.1, atmV s.2.2.2.2, rfl, atm_mk h.2.2.2.1, atm_mk h.2.2.2.2⟩
end Go.Proofs
end
section
namespace Go.Proofs
open Go.Sy
set_option maxRecDepth 20000
set_option maxHeartbeats 4000000
end Go.Proofs
end
section
namespace Go.Proofs
open Go.Sy
set_option maxRecDepth 20000
set_option maxHeartbeats 4000000
end Go.Proofs
end
section
namespace Go.Proofs
open Go.Sy
set_option maxRecDepth 20000
set_option maxHeartbeats 4000000
theorem sum_rank {α : Type} (f : α → Nat) (R : α → α → Prop) (hR : ∀ a b, R a b → f a ≤ f b ∧ (f a = f b → a = b)) : ∀ (x y : List α), x.length = y.length → (∀ (i : Nat) (a b : α), x[i]? = some a → y[i]? = some b → R a b) → (x.map f).sum ≤ (y.map f).sum ∧ ((x.map f).sum = (y.map f).sum → x = y)
  | [], [], _, _ => ⟨Nat.le_refl _, fun _ => rfl⟩
  | [], b :: y, h, _ => by cases h
  | a :: x, [], h, _ => by cases h
  | a :: x, b :: y, h, h1 => by
    have h2 := hR a b (h1 0 a b rfl rfl)
    have h3 := sum_rank f R hR x y (by simpa using h) (fun i a b => h1 (i + 1) a b)
    simp only [List.map_cons, List.sum_cons]
    refine ⟨by omega, fun e => ?_⟩
    rw [h2.2 (by omega), h3.2 (by omega)]
theorem sum_bound {α : Type} (f : α → Nat) (k : Nat) : ∀ (x : List α), (∀ a ∈ x, f a ≤ k) → (x.map f).sum ≤ x.length * k
  | [], _ => by simp
  | a :: x, h => by
    have h1 := h a List.mem_cons_self
    have h2 := sum_bound f k x (fun a ha => h a (List.mem_cons_of_mem _ ha))
    simp only [List.map_cons, List.sum_cons, List.length_cons, Nat.add_mul, Nat.one_mul]
    omega
end Go.Proofs
end
section
namespace Go.Proofs
open Go.Sy
set_option maxRecDepth 20000
set_option maxHeartbeats 4000000
abbrev StE := Int × List Nm × Int × List Nm
def valA (p : Prog) (e : List Nm) (a : Atm) : Nm := if a.1.l = [] then nOf a.2 else if 0 ≤ vIdx p a.1.l then e[(vIdx p a.1.l).toNat]?.getD (0, 0) else (0, 0)
def inAt (inn : List Nm) (i : Int) : Nm := if i < 0 then (0, 0) else inn[i.toNat]?.getD (0, 0)
def inNext (i : Int) : Int := min i 2147483646 + 1
def setAt (p : Prog) (e : List Nm) (t : Bs8) (n : Nm) : List Nm := e.set (vIdx p t).toNat n
def doS (p : Prog) (inn : List Nm) (s : StE) (x : Stmt) : StE :=
  if x.1 = 1 then (s.1, setAt p s.2.1 x.2.1.l (nOp x.2.2.1 (valA p s.2.1 x.2.2.2.1) (valA p s.2.1 x.2.2.2.2)), s.2.2)
  else if x.1 = 2 then (s.1, setAt p s.2.1 x.2.1.l (nOf (inAt inn s.2.2.1)), inNext s.2.2.1, s.2.2.2)
  else if x.1 = 3 then (s.1, s.2.1, s.2.2.1, s.2.2.2 ++ [valA p s.2.1 x.2.2.2.1])
  else s
def doAll (p : Prog) (inn : List Nm) (s : StE) (l : List Stmt) : StE := l.foldl (doS p inn) s
def blkN (p : Prog) (i : Int) : Block := p[i.toNat]?.getD (⟨[]⟩, [], (0, (⟨[]⟩, 0, 0), ⟨[]⟩, ⟨[]⟩))
def runB (p : Prog) (inn : List Nm) (s : StE) : StE := doAll p inn s (blkN p s.1).2.1
def bIdx (p : Prog) (t : Bs8) : Int := max (idxS t (nms p) 0) 0
def goTo (p : Prog) (s : StE) (t : Term) : Bs8 := if t.1 = 2 ∧ valA p s.2.1 t.2.1 = (0, 0) then t.2.2.2.l else t.2.2.1.l
def folS (p : Prog) (s : StE) : StE × Bool := if (blkN p s.1).2.2.1 = 3 then (s, false) else ((bIdx p (goTo p s (blkN p s.1).2.2), s.2), true)
def itS (p : Prog) (inn : List Nm) (s0 : StE) : Nat → List StE × StE × Bool
  | 0 => ([], s0, true)
  | k + 1 => if (itS p inn s0 k).2.2 then ((itS p inn s0 k).1 ++ [(itS p inn s0 k).2.1], folS p (runB p inn (itS p inn s0 k).2.1)) else itS p inn s0 k
theorem itS_step {p : Prog} {inn : List Nm} {s0 : StE} {k : Nat} (h : (itS p inn s0 k).2.2 = true) : itS p inn s0 (k + 1) = ((itS p inn s0 k).1 ++ [(itS p inn s0 k).2.1], folS p (runB p inn (itS p inn s0 k).2.1)) := by
  rw [itS, if_pos h]
theorem itS_stop {p : Prog} {inn : List Nm} {s0 : StE} {k : Nat} (h : (itS p inn s0 k).2.2 = false) : itS p inn s0 (k + 1) = itS p inn s0 k := by
  rw [itS, if_neg (by rw [h]; decide)]
theorem itS_end {p : Prog} {inn : List Nm} {s0 : StE} {k : Nat} (h : (itS p inn s0 k).2.2 = false) : ∀ m, itS p inn s0 (k + m) = itS p inn s0 k
  | 0 => rfl
  | m + 1 => by rw [← Nat.add_assoc, itS_stop (by rw [itS_end h m]; exact h), itS_end h m]
theorem itS_len {p : Prog} {inn : List Nm} {s0 : StE} : ∀ (k : Nat), (itS p inn s0 k).2.2 = true → (itS p inn s0 k).1.length = k
  | 0, _ => rfl
  | k + 1, h => by
    by_cases h1 : (itS p inn s0 k).2.2 = true
    · rw [itS_step h1, List.length_append, itS_len k h1]; rfl
    · rw [itS_stop (by simpa using h1)] at h
      exact absurd h h1
theorem itS_le {p : Prog} {inn : List Nm} {s0 : StE} : ∀ (k : Nat), (itS p inn s0 k).1.length ≤ k
  | 0 => Nat.le_refl _
  | k + 1 => by
    have h := itS_le (p := p) (inn := inn) (s0 := s0) k
    rw [itS]
    split
    · rw [List.length_append, List.length_singleton]; omega
    · omega
def start0 (p : Prog) : StE := (0, List.replicate (varsOf p).length (0, 0), 0, [])
theorem insAt_has {i : Nat} {s : Bs8} {l : List Bs8} (_h : i ≤ l.length) : s ∈ insAt i s l ∧ ∀ t ∈ l, t ∈ insAt i s l := by
  rw [insAt]
  refine ⟨by simp, fun t ht => ?_⟩
  rw [← List.take_append_drop i l] at ht
  rcases List.mem_append.1 ht with ht | ht
  · simp [ht]
  · simp [ht]
theorem putS_has {l : List Bs8} (hl : SortedS l) (s : Bs8) : (s ≠ [] → s ∈ putS s l) ∧ ∀ t ∈ l, t ∈ putS s l := by
  by_cases h0 : s = []
  · rw [h0, putS_nil]; exact ⟨fun h => absurd rfl h, fun t h => h⟩
  · obtain ⟨i, hi, h1, h2⟩ := lower hl s
    have e := putS_at h0 hi h1 (fun x hx => h2 x (by
      have hlt := (List.getElem?_eq_some_iff.1 hx).1
      rw [List.drop_eq_getElem_cons hlt, (List.getElem?_eq_some_iff.1 hx).2]
      exact List.mem_cons_self))
    rw [e]
    split
    · rename_i hx
      exact ⟨fun _ => List.mem_of_getElem? hx, fun t h => h⟩
    · have := insAt_has (s := s) hi
      exact ⟨fun _ => this.1, this.2⟩
theorem putAll_has : ∀ (vs : List Bs8) {o : List Bs8}, SortedS o → (∀ s ∈ vs, s ≠ [] → s ∈ putAll vs o) ∧ ∀ t ∈ o, t ∈ putAll vs o
  | [], _, _ => ⟨fun s h => (by cases h), fun t h => h⟩
  | v :: r, o, ho => by
    have h1 := putS_has ho v
    have h2 := putAll_has r (putS_sorted ho v)
    refine ⟨fun s hs h0 => ?_, fun t ht => h2.2 t (h1.2 t ht)⟩
    rcases List.mem_cons.1 hs with rfl | hs
    · exact h2.2 _ (h1.1 h0)
    · exact h2.1 s hs h0
theorem bVars_has : ∀ (l : List Stmt) {o : List Bs8}, SortedS o → (∀ x ∈ l, ∀ s ∈ sVars x, s ≠ [] → s ∈ bVars o l) ∧ ∀ t ∈ o, t ∈ bVars o l
  | [], _, _ => ⟨fun s h => (by cases h), fun t h => h⟩
  | x :: r, o, ho => by
    have h1 := putAll_has (sVars x) ho
    have h2 := bVars_has r (putAll_sorted (sVars x) ho)
    refine ⟨fun y hy s hs h0 => ?_, fun t ht => h2.2 t (h1.2 t ht)⟩
    rcases List.mem_cons.1 hy with rfl | hy
    · exact h2.2 _ (h1.1 s hs h0)
    · exact h2.1 y hy s hs h0
theorem blkVars_sorted {o : List Bs8} (ho : SortedS o) (b : Block) : SortedS (blkVars o b) := putAll_sorted _ (bVars_sorted _ ho)
theorem blkVars_has {o : List Bs8} (ho : SortedS o) (b : Block) : (∀ x ∈ b.2.1, ∀ s ∈ sVars x, s ≠ [] → s ∈ blkVars o b) ∧ (b.2.2.2.1.1.l ≠ [] → b.2.2.2.1.1.l ∈ blkVars o b) ∧ ∀ t ∈ o, t ∈ blkVars o b := by
  have h1 := bVars_has b.2.1 ho
  have h2 := putAll_has [b.2.2.2.1.1.l] (bVars_sorted b.2.1 ho)
  exact ⟨fun x hx s hs h0 => h2.2 s (h1.1 x hx s hs h0), fun h0 => h2.1 _ (List.mem_singleton.2 rfl) h0, fun t ht => h2.2 t (h1.2 t ht)⟩
theorem vars_has : ∀ (p : Prog) {o : List Bs8}, SortedS o → (∀ b ∈ p, (∀ x ∈ b.2.1, ∀ s ∈ sVars x, s ≠ [] → s ∈ p.foldl blkVars o) ∧ (b.2.2.2.1.1.l ≠ [] → b.2.2.2.1.1.l ∈ p.foldl blkVars o)) ∧ ∀ t ∈ o, t ∈ p.foldl blkVars o
  | [], _, _ => ⟨fun s h => (by cases h), fun t h => h⟩
  | b :: r, o, ho => by
    have h1 := blkVars_has ho b
    have h2 := vars_has r (blkVars_sorted ho b)
    refine ⟨fun b' hb => ?_, fun t ht => h2.2 t (h1.2.2 t ht)⟩
    rcases List.mem_cons.1 hb with rfl | hb
    · exact ⟨fun x hx s hs h0 => h2.2 _ (h1.1 x hx s hs h0), fun h0 => h2.2 _ (h1.2.1 h0)⟩
    · exact h2.1 b' hb
theorem nil_sorted : SortedS [] := by simp [SortedS]
theorem idxS_at (t : Bs8) : ∀ (l : List Bs8) (i : Int), 0 ≤ i → t ∈ l → i ≤ idxS t l i ∧ idxS t l i < i + l.length ∧ l[(idxS t l i - i).toNat]? = some t
  | [], _, _, h => by cases h
  | x :: r, i, h0, h => by
    rw [idxS]
    split
    · rename_i e
      refine ⟨Int.le_refl _, by simp only [List.length_cons]; omega, ?_⟩
      rw [show (i - i).toNat = 0 by omega, List.getElem?_cons_zero, e]
    · rename_i e
      rcases List.mem_cons.1 h with h | h
      · exact absurd h.symm e
      · have := idxS_at t r (i + 1) (by omega) h
        simp only [List.length_cons]
        refine ⟨by omega, by omega, ?_⟩
        rw [show (idxS t r (i + 1) - i).toNat = (idxS t r (i + 1) - (i + 1)).toNat + 1 by omega, List.getElem?_cons_succ]
        exact this.2.2
theorem idxS_some {t : Bs8} : ∀ {l : List Bs8} {i : Int}, 0 ≤ i → 0 ≤ idxS t l i → t ∈ l
  | [], i, _, h => by rw [idxS] at h; omega
  | x :: r, i, h0, h => by
    rw [idxS] at h
    split at h
    · rename_i e
      rw [e]; exact List.mem_cons_self
    · exact List.mem_cons_of_mem _ (idxS_some (by omega) h)
theorem vIdx_mem {p : Prog} {t : Bs8} (h : t ∈ varsOf p) : 0 ≤ vIdx p t ∧ vIdx p t < ((varsOf p).length : Nat) := by
  have := idxS_at t (varsOf p) 0 (by omega) h
  unfold vIdx
  omega
theorem vIdx_stmt {p : Prog} {b : Block} (hb : b ∈ p) {x : Stmt} (hx : x ∈ b.2.1) {t : Bs8} (ht : t ∈ sVars x) (h0 : t ≠ []) : 0 ≤ vIdx p t ∧ vIdx p t < ((varsOf p).length : Nat) :=
  vIdx_mem (((vars_has p nil_sorted).1 b hb).1 x hx t ht h0)
theorem blkN_get {p : Prog} {i : Int} {b : Block} (h : p[i.toNat]? = some b) : blkN p i = b := by rw [blkN, h]; rfl
theorem doS_blk (p : Prog) (inn : List Nm) (s : StE) (x : Stmt) : (doS p inn s x).1 = s.1 ∧ (doS p inn s x).2.1.length = s.2.1.length := by
  unfold doS setAt
  repeat' split
  all_goals simp
theorem doAll_blk (p : Prog) (inn : List Nm) : ∀ (l : List Stmt) (s : StE), (doAll p inn s l).1 = s.1 ∧ (doAll p inn s l).2.1.length = s.2.1.length
  | [], _ => ⟨rfl, rfl⟩
  | x :: r, s => by
    have h1 := doS_blk p inn s x
    have h2 := doAll_blk p inn r (doS p inn s x)
    rw [doAll, List.foldl_cons]
    exact ⟨h2.1.trans h1.1, h2.2.trans h1.2⟩
theorem bIdx_range (p : Prog) (t : Bs8) (h : 1 ≤ p.length) : 0 ≤ bIdx p t ∧ bIdx p t < (p.length : Nat) := by
  have := idxS_range t (nms p) 0 (by omega)
  rw [List.length_map] at this
  unfold bIdx
  omega
end Go.Proofs
end
section
namespace Go.Proofs
open Go.Sy
set_option maxRecDepth 20000
set_option maxHeartbeats 4000000
theorem nOp_nOf (op : Int) (a b : Nm) : nOf (nOp op a b) = nOp op a b := by
  have h : ∀ x : Nm, nOf (nOf x) = nOf x := fun x => by simp only [nOf, wrp_wrp]
  unfold nOp
  repeat' split
  all_goals first | exact h _ | rfl
theorem vIdx_nil (p : Prog) : vIdx p [] < 0 := by
  rcases vIdx_range p [] with h | h
  · omega
  · exfalso
    have hm : [] ∈ varsOf p := idxS_some (i := 0) (by omega) h.1
    have hs := vars_sorted p nil_sorted
    have : ∀ (p : Prog) {o : List Bs8}, [] ∉ o → [] ∉ p.foldl blkVars o := by
      have h1 : ∀ (vs : List Bs8) {o : List Bs8}, [] ∉ o → [] ∉ putAll vs o := by
        intro vs
        induction vs with
        | nil => exact fun h => h
        | cons v r ih =>
          intro o h
          refine ih (o := putS v o) ?_
          by_cases hv : v = []
          · rw [hv, putS_nil]; exact h
          · intro hm
            rcases putS_mem hm with hm | hm
            · exact h hm
            · exact hv hm.symm
      have h2 : ∀ (l : List Stmt) {o : List Bs8}, [] ∉ o → [] ∉ bVars o l := by
        intro l
        induction l with
        | nil => exact fun h => h
        | cons v r ih => exact fun h => ih (h1 _ h)
      intro p
      induction p with
      | nil => exact fun h => h
      | cons b r ih => exact fun h => ih (h1 _ (h2 _ h))
    exact this p (by simp) hm
theorem stmtB_var {s : Stmt} (h : stmtB s = true) : (s.1 = 1 ∧ 0 ≤ s.2.2.1 ∧ s.2.2.1 ≤ 4 ∧ s.2.1.l ≠ []) ∨ (s.1 = 2 ∧ s.2.1.l ≠ []) ∨ (s.1 = 3 ∧ s.2.1.l = []) := by
  have hn : ∀ t : Bs8, nmB t = true → t ≠ [] := fun t ht e => by rw [e] at ht; exact absurd ht (by decide)
  unfold stmtB at h
  split at h
  · rename_i h1
    rw [Bool.and_eq_true] at h
    have := exprB_op h.2
    exact .inl ⟨h1, this.1, this.2, hn _ h.1⟩
  · split at h
    · rename_i h1
      rw [Bool.and_eq_true] at h
      exact .inr (.inl ⟨h1, hn _ h.1⟩)
    · split at h
      · rename_i h1
        rw [Bool.and_eq_true, Bool.and_eq_true] at h
        exact .inr (.inr ⟨h1, dt h.1.1⟩)
      · cases h
theorem eAll_mem {p : Prog} : ∀ (l : List Block) (i : Nat) {j : Nat} {b : Block} {e : Edg}, l[j]? = some b → e ∈ eB p (i + j) b → e ∈ eAll p l i
  | [], _, _, _, _, h, _ => by simp at h
  | x :: r, i, 0, b, e, h, he => by
    simp only [List.getElem?_cons_zero, Option.some.injEq] at h
    subst h
    rw [eAll]
    exact List.mem_append_left _ he
  | x :: r, i, j + 1, b, e, h, he => by
    rw [List.getElem?_cons_succ] at h
    rw [eAll]
    exact List.mem_append_right _ (eAll_mem r (i + 1) h (by rw [show i + 1 + j = i + (j + 1) by omega]; exact he))
theorem check_goes {p : Prog} (h : checkE p = 0) {b : Block} (hb : b ∈ p) {t : Bs8} (ht : t ∈ goes b.2.2) : t ∈ bnames p := by
  unfold checkE at h
  split at h
  · cases h
  · split at h
    · split at h
      · cases h
      · split at h
        · split at h
          · rename_i h5
            exact dt (List.all_eq_true.1 (List.all_eq_true.1 h5 b hb) t ht)
          · cases h
        · cases h
    · cases h
theorem term_kind {p : Prog} (h : checkE p = 0) {b : Block} (hb : b ∈ p) : b.2.2.1 = 1 ∨ b.2.2.1 = 2 ∨ b.2.2.1 = 3 := by
  have h1 := (check_facts h).2.2.2 b hb
  rw [blockB, Bool.and_eq_true, Bool.and_eq_true] at h1
  have h2 := h1.1.2
  unfold termB at h2
  split at h2
  · exact .inl (by assumption)
  · split at h2
    · exact .inr (.inl (by assumption))
    · split at h2
      · exact .inr (.inr (by assumption))
      · cases h2
theorem fol_edge {p : Prog} (h : checkE p = 0) {i : Int} {b : Block} (h0 : 0 ≤ i) (hb : p[i.toNat]? = some b) {s : StE} (h3 : b.2.2.1 ≠ 3) : (i, bIdx p (goTo p s b.2.2)) ∈ edgesOf p := by
  have hm := List.mem_of_getElem? hb
  have hg : ∀ t ∈ goes b.2.2, eN p i.toNat t = [(i, bIdx p t)] := fun t ht => by
    have h1 : t ∈ bnames p := check_goes h hm ht
    have h2 := idxS_at t (nms p) 0 (by omega) h1
    rw [eN, if_pos h2.1, bIdx, Int.max_eq_left h2.1, Int.toNat_of_nonneg h0]
  refine eAll_mem p 0 hb ?_
  rw [Nat.zero_add, eB]
  rcases term_kind h hm with h1 | h1 | h1
  · have e : goTo p s b.2.2 = b.2.2.2.2.1.l := by rw [goTo, if_neg (by omega)]
    rw [if_pos (.inl h1), e, hg _ (by rw [goes, if_pos h1]; simp)]
    simp
  · have hgo : goes b.2.2 = [b.2.2.2.2.1.l, b.2.2.2.2.2.l] := by rw [goes, if_neg (by omega), if_pos h1]
    rw [if_pos (.inr h1), if_pos h1, hg _ (by rw [hgo]; simp), hg _ (by rw [hgo]; simp), goTo]
    split <;> simp
  · exact absurd h1 h3
end Go.Proofs
end
section
namespace Go.Proofs
open Go.Sy
set_option maxRecDepth 20000
set_option maxHeartbeats 4000000
theorem vIdx_get {p : Prog} {t : Bs8} (h : t ∈ varsOf p) : ∃ j, vIdx p t = (j : Nat) ∧ j < (varsOf p).length ∧ (varsOf p)[j]? = some t := by
  have h1 := idxS_at t (varsOf p) 0 (by omega) h
  refine ⟨(idxS t (varsOf p) 0 - 0).toNat, by unfold vIdx; omega, by omega, h1.2.2⟩
theorem vIdx_inj {p : Prog} {t u : Bs8} (ht : t ∈ varsOf p) (hu : u ∈ varsOf p) (h : vIdx p t = vIdx p u) : t = u := by
  obtain ⟨j, h1, _, h2⟩ := vIdx_get ht
  obtain ⟨k, h3, _, h4⟩ := vIdx_get hu
  have e : j = k := by omega
  rw [e, h4] at h2
  exact (Option.some.inj h2).symm
def rest (p q : Prog) (k : Wd) : Wd := (varsOf q).map fun t => k[(vIdx p t).toNat]?.getD 0
end Go.Proofs
end
section
namespace Go.Proofs
open Go.Sy
set_option maxRecDepth 20000
set_option maxHeartbeats 4000000
end Go.Proofs
end
section
namespace Go.Proofs
open Go.Sy
set_option maxRecDepth 20000
set_option maxHeartbeats 4000000
theorem vars_nodup (p : Prog) : (varsOf p).Nodup := by
  have hs : SortedS (varsOf p) := vars_sorted p nil_sorted
  exact List.Pairwise.imp (fun {a b} (h : a < b) (e : a = b) => slt_irrefl b (by rw [e] at h; exact h)) hs
theorem stmts_512' {p : Prog} (h : checkE p = 0) : stmtsN p ≤ 512 := by
  unfold checkE at h
  split at h
  · cases h
  · omega
theorem check_nodup {p : Prog} (h : checkE p = 0) : (bnames p).Nodup := by
  unfold checkE at h
  split at h
  · cases h
  · split at h
    · split at h
      · cases h
      · split at h
        · assumption
        · cases h
    · cases h
end Go.Proofs
end
section
namespace Go.Proofs
open Go.Sy
set_option maxRecDepth 20000
set_option maxHeartbeats 4000000
end Go.Proofs
end
section
namespace Go.Proofs
open Go.Sy
set_option maxRecDepth 20000
set_option maxHeartbeats 4000000
end Go.Proofs
end
section
namespace Go.Proofs
open Go.Sy
set_option maxRecDepth 20000
set_option maxHeartbeats 4000000
end Go.Proofs
end
section
namespace Go.Proofs
open Go.Sy
set_option maxRecDepth 20000
set_option maxHeartbeats 4000000
theorem some1_spec {s : Bs8} {H : Hp} {K : Value → Hp → Prop} (hK : K (.bool (!decide (s = []))) H) : Does Tryz.prog 164 [.string (bs s)] H K := by
  refine spec_of cx_ok cx_mix rfl Tryz.func164 Tryz.call164 Tryz.ntmps164 Tryz.results164 rfl rfl ?_
  exact hK
def someL (l : List Bs8) : List Bs8 := l.filter fun s => !decide (s = [])
theorem someL_take {l : List Bs8} {i : Nat} {s : Bs8} (h : l[i]? = some s) : someL (l.take (i + 1)) = if s = [] then someL (l.take i) else someL (l.take i) ++ [s] := by
  rw [someL, List.take_add_one, h, Option.toList_some, List.filter_append]
  by_cases hs : s = []
  · simp [someL, hs]
  · simp [someL, hs]
theorem str_k {P : Prop} {H : Hp} {a : Option Addr} {n c : Nat} {l : List Bs8} (h : RL H a n c (ens l)) {i : Nat} {s : Bs8} (hi : l[i]? = some s) (k : ∀ ad, a = some ad → ElemH H ad (i : Int) 1 [.string (bs s)] → s.length ≤ 9223372036854775807 → P) : P :=
  elem_k h (i := i) (x := (⟨s⟩ : Str)) (by rw [List.getElem?_map, hi]; rfl) fun ad cs h1 h2 h3 => by
    obtain ⟨rfl, h4⟩ := h3
    exact k ad h1 h2 h4
theorem ens_small {H : Hp} {a : Option Addr} {n c : Nat} {l : List Bs8} (h : RL H a n c (ens l)) : ∀ s ∈ l, s.length ≤ 9223372036854775807 := fun s hs => by
  obtain ⟨i, hi⟩ := List.getElem?_of_mem hs
  exact str_k h hi fun _ _ _ h => h
theorem picked_spec {l : List Bs8} (hl : l.length ≤ 100000) {a : Option Addr} {n c : Nat} {H : Hp} {K : SV → St → Hp → Prop} (ha : RL H a n c (ens l)) (hK : K (.own 0) ⟨[], [(0, .row 9 1 (sRows (someL l)))], 1⟩ H) :
    DoesG Tryz.prog 163 [.v (.slice a n c), .fn 164 []] [] 0 H K := by
  have hn1 := ha.n_eq
  rw [List.length_map] at hn1
  refine spec_ofG cx_ok cx_mix Tryz.func163 Tryz.call163 Tryz.ntmps163 Tryz.results163 rfl rfl ?_
  refine ⟨Nat, fun i => ⟨[(1, .fn 164 []), (5, .own 0), (8, .v (.slice a n c)), (9, .v (.int .i64 n)), (10, .v (.int .i64 i))], [(0, .row 9 1 (sRows (someL (l.take i))))], 1⟩,
    fun i H' => H' = H ∧ i ≤ l.length, fun i => l.length - i, ⟨0, [], ?_, rfl, Nat.zero_le _⟩, ?_⟩
  · (repeat' (first|exact trivial|refine ⟨?_,?_⟩|exact rfl|assumption))
  rintro i H1 _ ⟨rfl, hi⟩
  refine ⟨fun h => ?_, fun h => ?_⟩
  · have hlt : i < l.length := by have := dt h; omega
    have hlv := someL_take (List.getElem?_eq_getElem hlt)
    have hlen : (sRows (someL (l.take i))).length ≤ i := by
      rw [List.length_map]
      exact Nat.le_trans (List.length_filter_le _ _) (by rw [List.length_take]; omega)
    refine str_k ha (List.getElem?_eq_getElem hlt) fun ad e1 hh hsz => ?_
    refine ⟨ad, ⟨by omega, by omega, e1⟩, ?_⟩
    refine ⟨_, hh, ?_⟩
    refine some1_spec ?_
    refine ⟨fun h => ?_, fun h => ?_⟩
    · have hne : ¬ l[i] = [] := nt h
      rw [if_neg hne] at hlv
      have e : sRows (someL (l.take i)) ++ [[.string (bs l[i])]] = sRows (someL (l.take (i + 1))) := by rw [hlv, ← sRows_snoc]
      refine ⟨⟨by show (_ + 1) * 16 ≤ 140737488355328; omega, by show _ + 1 ≤ 9223372036854775807; omega⟩, ?_⟩
      refine ⟨⟨by omega, by omega⟩, i + 1, [(0, 2)], ?_, ⟨rfl, hlt⟩, by dsimp only; omega⟩
      (repeat' (first|exact trivial|refine ⟨?_,?_⟩|exact rfl|assumption))
    · have heq : l[i] = [] := nf h
      rw [if_pos heq] at hlv
      have e : sRows (someL (l.take i)) = sRows (someL (l.take (i + 1))) := by rw [hlv]
      refine ⟨⟨by omega, by omega⟩, i + 1, [(0, 0)], ?_, ⟨rfl, hlt⟩, by dsimp only; omega⟩
      (repeat' (first|exact trivial|refine ⟨?_,?_⟩|exact rfl|assumption))
  · have hil : i = l.length := by have := df h; omega
    rw [hil, List.take_length]
    exact ⟨.own 0, [(0, .row 9 1 (sRows (someL l)))], 1, [(0, 0)], by (repeat' (first|exact trivial|refine ⟨?_,?_⟩|exact rfl|assumption)), hK⟩
def nmsOf (l : List Bs8) : List Bs8 := putAll l []
theorem nil_sortedS : SortedS ([] : List Bs8) := List.Pairwise.nil
theorem putAll_some : ∀ (vs : List Bs8) {o : List Bs8}, ¬ [] ∈ o → ¬ [] ∈ putAll vs o
  | [], _, h => h
  | v :: r, o, h => by
    refine putAll_some r (o := putS v o) fun hm => ?_
    by_cases hv : v = []
    · rw [hv, putS_nil] at hm; exact h hm
    · rcases putS_mem hm with hm | hm
      · exact h hm
      · exact hv hm.symm
theorem nmsOf_mem {l : List Bs8} {t : Bs8} : t ∈ nmsOf l ↔ t ∈ l ∧ t ≠ [] := by
  constructor
  · intro h
    refine ⟨(putAll_mem l h).resolve_left (by simp), fun e => ?_⟩
    subst e
    exact putAll_some l (o := []) (by simp) h
  · intro h
    exact (putAll_has l nil_sortedS).1 t h.1 h.2
theorem nmsOf_gSort (l : List Bs8) : gSort (someL l) = nmsOf l := by
  refine (gSort_eq (l' := nmsOf l) ?_ fun t => ?_).symm
  · exact putAll_sorted l nil_sortedS
  · rw [nmsOf_mem, someL, List.mem_filter]
    simp
theorem lsorted_spec {l : List Bs8} (hl : l.length ≤ 100000) {a : Option Addr} {n c : Nat} {H : Hp} {K : Value → Hp → Prop} (ha : RL H a n c (ens l)) (hK : ∀ a1 n1 c1 H', Le H H' → RL H' a1 n1 c1 (ens (nmsOf l)) → K (.slice a1 n1 c1) H') :
    Does Tryz.prog 106 [.slice a n c] H K := by
  have hsm := ens_small ha
  have hle : (someL l).length ≤ l.length := List.length_filter_le _ _
  refine spec_of cx_ok cx_mix rfl Tryz.func106 Tryz.call106 Tryz.ntmps106 Tryz.results106 rfl rfl ?_
  refine ⟨[], rfl, picked_spec hl ha ?_⟩
  refine ⟨[0], rfl, sortS_spec (l := someL l) (by omega) fun l' hl' hp hg => ?_⟩
  refine ⟨[0], rfl, compS_spec (l := l') (by omega) ?_⟩
  rw [hg, nmsOf_gSort]
  intro v H6 hle6 hv6
  obtain ⟨a7, n7, c7, rfl, hr7⟩ := RL.of_row (α := Str) hv6 (rc_sRows fun s hs => hsm s (nmsOf_mem.1 hs).1)
  exact hK _ _ _ _ hle6.le hr7
end Go.Proofs
end
section
namespace Go.Proofs
open Go.Sy
set_option maxRecDepth 20000
set_option maxHeartbeats 4000000
def useL (x : Stmt) : List Bs8 := if x.1 = 1 then (atomsOf x.2.2).map (fun a => a.1.l) else if x.1 = 3 then [x.2.2.2.1.1.l] else []
def usesS (x : Stmt) : List Bs8 := nmsOf (useL x)
theorem atomsOf_lenU (x : Expr) : (atomsOf x).length ≤ 2 := by
  unfold atomsOf
  split
  · simp
  · split <;> simp
theorem useL_len (x : Stmt) : (useL x).length ≤ 2 := by
  unfold useL
  split
  · rw [List.length_map]; exact atomsOf_lenU _
  · split <;> simp
theorem luses_spec {x : Stmt} (hx : stmtR x) {H : Hp} {K : Value → Hp → Prop} (hK : ∀ a1 n1 c1 H', Le H H' → RL H' a1 n1 c1 (ens (usesS x)) → K (.slice a1 n1 c1) H') :
    Does Tryz.prog 68 [stmtA x] H K := by
  have hsm : ∀ s ∈ useL x, s.length ≤ 9223372036854775807 := fun s hs => by
    unfold useL at hs
    split at hs
    · obtain ⟨y, hy, rfl⟩ := List.mem_map.1 hs
      exact (atomsOf_R hx.2.2 y hy).1
    · split at hs
      · rw [List.mem_singleton.1 hs]; exact hx.2.2.2.1.1
      · cases hs
  have hlen := useL_len x
  refine spec_of cx_ok cx_mix rfl Tryz.func68 Tryz.call68 Tryz.ntmps68 Tryz.results68 rfl rfl ?_
  refine ⟨fun h => ?_, fun h => ?_⟩
  · have hk : x.1 = 1 := dt h
    have hu : useL x = (atomsOf x.2.2).map (fun a => a.1.l) := if_pos hk
    refine patoms_spec hx.2.2 fun a n c H1 hle1 hr1 => ?_
    have hn1 := hr1.n_eq
    have hal := atomsOf_lenU x.2.2
    refine ⟨Nat, fun i => ⟨[(3, .own 0), (12, .v (.slice a n c)), (13, .v (.int .i64 n)), (14, .v (.int .i64 i))], [(0, .row 9 1 (sRows ((useL x).take i)))], 1⟩,
      fun i H' => H' = H1 ∧ i ≤ (atomsOf x.2.2).length, fun i => (atomsOf x.2.2).length - i, ⟨0, [], ?_, rfl, Nat.zero_le _⟩, ?_⟩
    · (repeat' (first|exact trivial|refine ⟨?_,?_⟩|exact rfl|assumption))
    rintro i H2 _ ⟨rfl, hi⟩
    have hrl : (sRows ((useL x).take i)).length ≤ 2 := by rw [List.length_map, List.length_take]; omega
    refine ⟨fun h => ?_, fun h => ?_⟩
    · have hlt : i < (atomsOf x.2.2).length := by have := dt h; omega
      have hui : (useL x)[i]? = some (atomsOf x.2.2)[i].1.l := by rw [hu, List.getElem?_map, List.getElem?_eq_getElem hlt]; rfl
      have e : sRows ((useL x).take i) ++ [[.string (bs (atomsOf x.2.2)[i].1.l)]] = sRows ((useL x).take (i + 1)) := by
        rw [List.take_add_one, hui, Option.toList_some, ← sRows_snoc]
      refine atom_k hr1 (List.getElem?_eq_getElem hlt) fun ad e1 hh _ => ?_
      refine ⟨ad, ⟨by omega, by omega, e1⟩, ?_⟩
      refine ⟨_, hh, ?_⟩
      refine ⟨⟨by show (_ + 1) * 16 ≤ 140737488355328; omega, by show _ + 1 ≤ 9223372036854775807; omega⟩, ?_⟩
      refine ⟨⟨by omega, by omega⟩, i + 1, [(0, 3)], ?_, ⟨rfl, hlt⟩, by dsimp only; omega⟩
      (repeat' (first|exact trivial|refine ⟨?_,?_⟩|exact rfl|assumption))
    · have hil : i = (atomsOf x.2.2).length := by have := df h; omega
      have e : (useL x).take i = useL x := List.take_of_length_le (by rw [hu, List.length_map]; omega)
      rw [e]
      intro v H6 hle6 hv6
      obtain ⟨a7, n7, c7, rfl, hr7⟩ := RL.of_row (α := Str) hv6 (rc_sRows hsm)
      refine lsorted_spec (l := useL x) (by omega) hr7 fun a1 n1 c1 H7 hle7 hr => ?_
      exact hK _ _ _ _ ((hle1.trans hle6.le).trans hle7) hr
  · have hk : ¬ x.1 = 1 := df h
    refine ⟨fun h => ?_, fun h => ?_⟩
    · have hk3 : x.1 = 3 := dt h
      have hu : useL x = [x.2.2.2.1.1.l] := by rw [useL, if_neg hk, if_pos hk3]
      refine ⟨⟨by show 1 * 16 ≤ 140737488355328; decide, by show 1 ≤ 9223372036854775807; decide⟩, ?_⟩
      intro v H6 hle6 hv6
      have hv7 : RowAt H6 v 1 (sRows (useL x)) := by rw [hu]; exact hv6
      obtain ⟨a7, n7, c7, rfl, hr7⟩ := RL.of_row (α := Str) hv7 (rc_sRows hsm)
      refine lsorted_spec (l := useL x) (by omega) hr7 fun a1 n1 c1 H7 hle7 hr => ?_
      exact hK _ _ _ _ (hle6.le.trans hle7) hr
    · have hk3 : ¬ x.1 = 3 := df h
      have hu : useL x = [] := by rw [useL, if_neg hk, if_neg hk3]
      refine lsorted_spec (l := []) (by decide) rl_nil fun a1 n1 c1 H7 hle7 hr => ?_
      rw [usesS, hu] at hK
      exact hK _ _ _ _ hle7 hr
end Go.Proofs
end
section
namespace Go.Proofs
open Go.Sy
set_option maxRecDepth 20000
set_option maxHeartbeats 4000000
end Go.Proofs
end
section
namespace Go.Proofs
open Go.Sy
set_option maxRecDepth 20000
set_option maxHeartbeats 4000000
abbrev stV (s : Stmt) : List Value := .int .i64 s.1 :: .string (bs s.2.1.l) :: .int .i64 s.2.2.1 :: (atmV s.2.2.2.1 ++ atmV s.2.2.2.2)
abbrev blkV (v : Value) (b : Block) : List Value := .string (bs b.1.l) :: v :: termV b.2.2
theorem stRows_of {H : Hp} {css : List (List Value)} {l : List Stmt} (h : RC (α := Stmt) H css l) : css = l.map stV := by
  apply List.ext_getElem?
  intro i
  rw [List.getElem?_map]
  have hl : css.length = l.length := h.1
  by_cases hi : i < l.length
  · have h1 : css[i]? = some (css[i]'(by omega)) := List.getElem?_eq_getElem _
    have h2 := List.getElem?_eq_getElem hi
    have h3 := (stmt_open (h.2 i _ _ h1 h2)).1
    rw [h1, h2, h3]; rfl
  · rw [List.getElem?_eq_none (by omega), List.getElem?_eq_none (by omega)]; rfl
theorem stRows_rc {H : Hp} {l : List Stmt} (h : ∀ s ∈ l, stmtR s) : RC (α := Stmt) H (l.map stV) l := by
  refine ⟨by simp, fun i cs x h1 h2 => ?_⟩
  rw [List.getElem?_map, h2] at h1
  cases h1
  exact stmt_mk (h x (List.mem_of_getElem? h2))
theorem newAt_k {P : Prop} {e : TypeId} {sz : Nat} {xs : List (List Value)} {H H2 : Hp} {x : Value} (h : NewAt e sz xs H x H2) (k : ∀ a n c, x = .slice a n c → P) : P := by
  rcases h with ⟨h1, _⟩ | ⟨g, cap, c, h1, _⟩
  · exact k _ _ _ h1
  · exact k _ _ _ h1
theorem cloneS2_spec {l : List Stmt} (hl : l.length ≤ 1000000) {a : Option Addr} {n c : Nat} {H : Hp} {K : Value → Hp → Prop} (ha : RL H a n c l) (hK : ∀ a1 n1 c1 H', LeN 61 9 (l.map stV) H (.slice a1 n1 c1) H' → (∀ s ∈ l, stmtR s) → K (.slice a1 n1 c1) H') : Does Tryz.prog 59 [.slice a n c] H K := by
  have hn := ha.n_eq
  have hR : ∀ s ∈ l, stmtR s := fun s hs => by
    obtain ⟨i, hi⟩ := List.getElem?_of_mem hs
    exact stmt_k ha hi fun _ _ _ h => h
  refine spec_of cx_ok cx_mix rfl Tryz.func59 Tryz.call59 Tryz.ntmps59 Tryz.results59 rfl rfl ?_
  refine ⟨fun h => ?_, fun h => ?_⟩
  · have hno : a = none := by
      cases a with
      | none => rfl
      | some x => cases h
    rw [hno] at ha
    have h0 := RL_nil ha
    refine hK none 0 0 H ⟨Le.refl H, .inl ⟨rfl, by rw [h0]; rfl⟩⟩ hR
  · obtain ⟨css, hrow, hrc⟩ := ha.row
    have hcl : css.length = l.length := hrc.1
    have hcs := stRows_of hrc
    refine ⟨css, hrow, ?_⟩
    refine ⟨⟨by show (0 + css.length) * 96 ≤ 140737488355328; omega, by show 0 + css.length ≤ 9223372036854775807; omega⟩, ?_⟩
    intro v H' hle hv
    rw [hcs] at hle
    refine newAt_k hle.new fun a1 n1 c1 e => ?_
    subst e
    exact hK _ _ _ H' hle hR
structure FamI (H H' : Hp) (vs : List Value) (p : Prog) : Prop where
  len : vs.length = p.length
  new : ∀ (i : Nat) (v : Value) (b : Block), vs[i]? = some v → p[i]? = some b → NewAt 61 9 (b.2.1.map stV) H v H'
  dis : vs.Pairwise fun v u => ∀ g, v.ownBlock = some g → u.ownBlock ≠ some g
theorem newAt_up {e : TypeId} {sz : Nat} {xs : List (List Value)} {H H2 H3 : Hp} {x : Value} (h : NewAt e sz xs H x H2) (hle : Le H2 H3) : NewAt e sz xs H x H3 := by
  rcases h with h1 | ⟨g, cap, c, h1, h2, h3, h4⟩
  · exact .inl h1
  · exact .inr ⟨g, cap, c, h1, h2, hle _ _ h3, h4⟩
theorem newAt_down {e : TypeId} {sz : Nat} {xs : List (List Value)} {H H1 H2 : Hp} {x : Value} (h : NewAt e sz xs H1 x H2) (hle : Le H H1) : NewAt e sz xs H x H2 := by
  rcases h with h1 | ⟨g, cap, c, h1, h2, h3⟩
  · exact .inl h1
  · refine .inr ⟨g, cap, c, h1, ?_, h3⟩
    cases hg : H g with
    | none => rfl
    | some o => rw [hle _ _ hg] at h2; cases h2
theorem FamI.up {H H' H2 : Hp} {vs : List Value} {p : Prog} (h : FamI H H' vs p) (hle : Le H' H2) : FamI H H2 vs p := ⟨h.len, fun i v b h1 h2 => newAt_up (h.new i v b h1 h2) hle, h.dis⟩
theorem FamI.snoc {H H1 H2 : Hp} {vs : List Value} {p : Prog} (h : FamI H H1 vs p) (hle0 : Le H H1) {v : Value} {b : Block} (hv : LeN 61 9 (b.2.1.map stV) H1 v H2) : FamI H H2 (vs ++ [v]) (p ++ [b]) := by
  refine ⟨by rw [List.length_append, List.length_append, h.len]; rfl, fun i u c h1 h2 => ?_, ?_⟩
  · rw [List.getElem?_append] at h1 h2
    have hl := h.len
    split at h1
    · rename_i hi
      rw [if_pos (by omega)] at h2
      exact newAt_up (h.new i u c h1 h2) hv.le
    · rename_i hi
      rw [if_neg (by omega)] at h2
      have e1 : i - vs.length = 0 := by
        have := (List.getElem?_eq_some_iff.1 h1).1
        simp at this; omega
      rw [e1] at h1
      rw [← hl, e1] at h2
      cases h1
      cases h2
      exact newAt_down hv.new hle0
  · rw [List.pairwise_append]
    refine ⟨h.dis, List.pairwise_singleton _ _, fun u hu w hw g hg hg' => ?_⟩
    rw [List.mem_singleton] at hw
    subst hw
    obtain ⟨i, hi⟩ := List.getElem?_of_mem hu
    have hlt := (List.getElem?_eq_some_iff.1 hi).1
    have hb : p[i]? = some (p[i]'(by have := h.len; omega)) := List.getElem?_eq_getElem _
    obtain ⟨_, o, ho⟩ := (h.new i u _ hi hb).fresh hg
    have := (hv.new.fresh hg').1
    rw [ho] at this
    cases this
theorem zipBlk_snoc {vs : List Value} {p : Prog} (hl : vs.length = p.length) (v : Value) (b : Block) : List.zipWith blkV (vs ++ [v]) (p ++ [b]) = List.zipWith blkV vs p ++ [blkV v b] := by
  rw [List.zipWith_append hl]; rfl
theorem blkR_mk {H : Hp} {v : Value} {b : Block} (hv : RowAt H v 9 (b.2.1.map stV)) (hst : ∀ s ∈ b.2.1, stmtR s) (hs : sR b.1) (ht : termR b.2.2) : Enc.R H (blkV v b) b :=
  of_row_k (α := Stmt) hv (stRows_rc hst) fun a n c e hr => by subst e; exact block_mk hr hs ht
theorem pclone2_spec {p : Prog} (hp : p.length ≤ 1000000) (hl : ∀ b ∈ p, b.2.1.length ≤ 1000000) {a : Option Addr} {n c : Nat} {H : Hp} {K : Value → Hp → Prop} (ha : RL H a n c p)
    (hK : ∀ v vs H3 H', Le H H3 → FamI H H3 vs p → LeN 66 8 (List.zipWith blkV vs p) H3 v H' → K (.agg #[v]) H') : Does Tryz.prog 30 [.agg #[.slice a n c]] H K := by
  have hn := ha.n_eq
  have hmx := ha.le
  refine spec_of cx_ok cx_mix rfl Tryz.func30 Tryz.call30 Tryz.ntmps30 Tryz.results30 rfl rfl ?_
  refine ⟨Nat × List Value, fun q => ⟨[(2, .ptr 0 0), (3, .ptr 1 0), (7, .v (.slice a n c)), (8, .v (.int .i64 n)), (9, .v (.int .i64 q.1))],
      [(0, .cells 24 [.v (.slice none 0 0)]), (1, .cells 24 [.own 2]), (2, .row 66 8 (List.zipWith blkV q.2 (p.take q.1)))], 3⟩,
    fun q H' => Le H H' ∧ q.1 ≤ p.length ∧ FamI H H' q.2 (p.take q.1), fun q => p.length - q.1, ⟨(0, []), [(0, 1), (1, 2)], ?_, Le.refl _, Nat.zero_le _, ⟨rfl, fun i v b h1 => (by cases h1), List.Pairwise.nil⟩⟩, ?_⟩
  · (repeat' (first|exact trivial|refine ⟨?_,?_⟩|exact rfl|assumption))
  rintro ⟨i, vs⟩ H1 hle1 ⟨_, hi, hf⟩
  dsimp only at hi hf
  have hvl : vs.length = i := by rw [hf.len, List.length_take]; omega
  have hcl : (List.zipWith blkV vs (p.take i)).length = i := by rw [List.length_zipWith, List.length_take]; omega
  refine ⟨fun h => ?_, fun h => ?_⟩
  · have hlt : i < p.length := by have := dt h; dsimp only at this; omega
    refine name_k p[i] fun b hbe => ?_
    have hbb : p[i]? = some b := by rw [hbe]; exact List.getElem?_eq_getElem hlt
    refine block_k (ha.up hle1) hbb fun ad a1 n1 c1 q1 hh hr1 hs1 ht1 => ?_
    refine ⟨ad, ⟨by dsimp only; omega, by dsimp only; omega, q1⟩, ?_⟩
    refine ⟨_, hh, ?_⟩
    refine cloneS2_spec (hl b (List.mem_of_getElem? hbb)) hr1 fun a5 n5 c5 H5 hle5 hst => ?_
    have htk : p.take (i + 1) = p.take i ++ [b] := by rw [List.take_add_one, hbb, Option.toList_some]
    have hz : List.zipWith blkV (vs ++ [.slice a5 n5 c5]) (p.take (i + 1)) = List.zipWith blkV vs (p.take i) ++ [blkV (.slice a5 n5 c5) b] := by rw [htk, zipBlk_snoc hf.len]
    refine ⟨⟨by show ((List.zipWith blkV vs (p.take i)).length + 1) * 112 ≤ 140737488355328; omega, by show (List.zipWith blkV vs (p.take i)).length + 1 ≤ 9223372036854775807; omega⟩, ?_⟩
    refine ⟨⟨by dsimp only; omega, by dsimp only; omega⟩, (i + 1, vs ++ [.slice a5 n5 c5]), [(0, 0), (1, 1), (2, 5)], ?_, ⟨hle1.trans hle5.le, hlt, by dsimp only; rw [htk]; exact hf.snoc hle1 hle5⟩, by dsimp only; omega⟩
    have hz := hz.symm
    (repeat' (first|exact trivial|refine ⟨?_,?_⟩|exact rfl|assumption))
  · have hil : i = p.length := by have := df h; dsimp only at this; omega
    rw [hil, List.take_length] at hf
    intro v H' hle hv
    have hle : LeN 66 8 (List.zipWith blkV vs (p.take i)) H1 v H' := hle
    rw [hil, List.take_length] at hle
    exact hK v vs H1 H' hle1 hf hle
abbrev famL (vs : List Value) (p : Prog) : List (Value × List (List Value)) := List.zip vs (p.map fun b => b.2.1.map stV)
theorem famL_mem {vs : List Value} {p : Prog} {q : Value × List (List Value)} (h : q ∈ famL vs p) : ∃ (i : Nat) (b : Block), vs[i]? = some q.1 ∧ p[i]? = some b ∧ q.2 = b.2.1.map stV := by
  obtain ⟨i, hi⟩ := List.getElem?_of_mem h
  rw [famL, List.getElem?_zip_eq_some, List.getElem?_map] at hi
  obtain ⟨h1, h2⟩ := hi
  cases hb : p[i]? with
  | none => rw [hb] at h2; cases h2
  | some b =>
    rw [hb] at h2
    simp only [Option.map_some, Option.some.injEq] at h2
    exact ⟨i, b, h1, hb, h2.symm⟩
theorem stV_ok (l : List Stmt) : ∀ y ∈ l.map stV, y.length = 9 ∧ ∀ u ∈ y, u.oneCell' = true := by
  intro y hy
  obtain ⟨s, _, rfl⟩ := List.mem_map.1 hy
  have h : (stV s).all (·.oneCell') = true := rfl
  exact ⟨rfl, fun u hu => List.all_eq_true.1 h u hu⟩
theorem cloneF_spec {p : Prog} (hp : p.length ≤ 1000000) (hl : ∀ b ∈ p, b.2.1.length ≤ 1000000) {a : Option Addr} {n c : Nat} {H : Hp} {K : SV → St → Hp → Prop} (ha : RL H a n c p)
    (hK : ∀ vs H', Le H H' → vs.length = p.length → (∀ (i : Nat) (v : Value) (b : Block), vs[i]? = some v → p[i]? = some b → ∃ a c, v = .slice a b.2.1.length c ∧ (a = none → b.2.1 = [])) → K (.agg [.own 0]) ⟨[], [(0, .row 66 8 (List.zipWith blkV vs p)), (1, .fam 61 9 (famL vs p))], 2⟩ H') : DoesG Tryz.prog 30 [.agg [.v (.slice a n c)]] [] 0 H K := by
  refine doesG_thawB (args := [.agg #[.slice a n c]]) (fun _ => rfl) (pclone2_spec hp hl ha (K := fun v H' => ∃ x vs H3, v = .agg #[x] ∧ Le H H3 ∧ FamI H H3 vs p ∧ LeN 66 8 (List.zipWith blkV vs p) H3 x H') (fun v vs H3 H' h1 h2 h3 => ⟨v, vs, H3, rfl, h1, h2, h3⟩)) ?_
  rintro v H2 hle ⟨x, vs, H3, rfl, h1, h2, h3⟩
  have hsl : ∀ (i : Nat) (v : Value) (b : Block), vs[i]? = some v → p[i]? = some b → ∃ a c, v = .slice a b.2.1.length c ∧ (a = none → b.2.1 = []) := fun i v b h4 h5 => by
    rcases h2.new i v b h4 h5 with ⟨h6, h7⟩ | ⟨g, cap, cc, h6, _⟩
    · have h8 : b.2.1 = [] := List.map_eq_nil_iff.1 h7
      exact ⟨none, 0, by rw [h6, h8]; rfl, fun _ => h8⟩
    · rw [List.length_map] at h6
      exact ⟨_, _, h6, fun h => by cases h⟩
  refine ⟨66, 8, List.zipWith blkV vs p, x, 61, 9, famL vs p, .agg [.own 0], fun ρ hρ => ?_, rfl, (LeN.base h1 h3).new, fun y hy => ?_, fun q hq => ?_, ?_, fun q hq g hg hg' => ?_, fun H' hle2 _ => hK vs H' hle2 h2.len hsl⟩
  · show Value.agg #[ρ.val 0] = _
    rw [hρ]
  · obtain ⟨i, hi⟩ := List.getElem?_of_mem hy
    rw [List.getElem?_zipWith_eq_some] at hi
    obtain ⟨v, b, h4, h5, rfl⟩ := hi
    obtain ⟨a1, c1, rfl, _⟩ := hsl i v b h4 h5
    have h : (blkV (.slice a1 b.2.1.length c1) b).all (·.oneCell') = true := rfl
    exact ⟨rfl, fun u hu => List.all_eq_true.1 h u hu⟩
  · obtain ⟨i, b, h4, h5, h6⟩ := famL_mem hq
    rw [h6]
    exact ⟨newAt_up (h2.new i _ b h4 h5) h3.le, stV_ok _⟩
  · have e : (famL vs p).map Prod.fst = vs := List.map_fst_zip (by rw [List.length_map]; exact Nat.le_of_eq h2.len)
    have hd := h2.dis
    rw [← e, List.pairwise_map] at hd
    exact hd
  · obtain ⟨i, b, h4, h5, _⟩ := famL_mem hq
    obtain ⟨_, o, ho⟩ := (h2.new i _ b h4 h5).fresh hg'
    have := (h3.new.fresh hg).1
    rw [ho] at this
    cases this
end Go.Proofs
end
section
namespace Go.Proofs
open Go.Sy
set_option maxRecDepth 20000
set_option maxHeartbeats 4000000
abbrev nRows (l : List Nm) : List (List Value) := eRows l
theorem nRows_of {H : Hp} {css : List (List Value)} {l : List Nm} (h : RC (α := Nm) H css l) : css = nRows l := by
  apply List.ext_getElem?
  intro i
  rw [List.getElem?_map]
  have hl : css.length = l.length := h.1
  by_cases hi : i < l.length
  · have h1 : css[i]? = some (css[i]'(by omega)) := List.getElem?_eq_getElem _
    have h2 := List.getElem?_eq_getElem hi
    have h3 := (edge_open (h.2 i _ _ h1 h2)).1
    rw [h1, h2, h3]; rfl
  · rw [List.getElem?_eq_none (by omega), List.getElem?_eq_none (by omega)]; rfl
theorem nRows_ok (l : List Nm) : ∀ y ∈ nRows l, y.length = 2 ∧ ∀ u ∈ y, u.oneCell' = true := by
  intro y hy
  obtain ⟨w, _, rfl⟩ := List.mem_map.1 hy
  exact ⟨rfl, fun u hu => by simp at hu; rcases hu with rfl | rfl <;> rfl⟩
theorem nRL_all {H : Hp} {a : Option Addr} {n c : Nat} {l : List Nm} (h : RL H a n c l) : ∀ e ∈ l, inI e.1 ∧ inI e.2 := RLe_all h
theorem cloneV_spec {l : List Nm} (hl : l.length ≤ 1000000) {a : Option Addr} {n c : Nat} {H : Hp} {K : Value → Hp → Prop} (ha : RL H a n c l) (hK : ∀ a1 n1 c1 H', LeN 55 2 (nRows l) H (.slice a1 n1 c1) H' → RL H' a1 n1 c1 l → K (.slice a1 n1 c1) H') : Does Tryz.prog 107 [.slice a n c] H K := by
    have hn := ha.n_eq
    have hall := nRL_all ha
    refine spec_of cx_ok cx_mix rfl Tryz.func107 Tryz.call107 Tryz.ntmps107 Tryz.results107 rfl rfl ?_
    refine ⟨fun h => ?_, fun h => ?_⟩
    · have hno : a = none := by
        cases a with
        | none => rfl
        | some x => cases h
      rw [hno] at ha
      have h0 := RL_nil ha
      refine hK none 0 0 H ⟨Le.refl H, .inl ⟨rfl, by rw [h0]; rfl⟩⟩ ?_
      rw [h0]; exact rl_nil
    · obtain ⟨css, hrow, hrc⟩ := ha.row
      have hcl : css.length = l.length := hrc.1
      have e := nRows_of hrc
      refine ⟨css, hrow, ?_⟩
      refine ⟨⟨by show (0 + css.length) * 16 ≤ 140737488355328; omega, by show 0 + css.length ≤ 9223372036854775807; omega⟩, ?_⟩
      intro v H' hle hv
      rw [e] at hle hv
      refine of_row_k (α := Nm) hv (rc_eRows hall) fun a1 n1 c1 ev hr => ?_
      subst ev
      exact hK _ _ _ H' hle hr
theorem cloneN_spec {l : List Nm} (hl : l.length ≤ 1000000) {a : Option Addr} {n c : Nat} {H : Hp} {K : Value → Hp → Prop} (ha : RL H a n c l) (hK : ∀ a1 n1 c1 H', LeN 55 2 (nRows l) H (.slice a1 n1 c1) H' → RL H' a1 n1 c1 l → K (.slice a1 n1 c1) H') : Does Tryz.prog 108 [.slice a n c] H K := by
    have hn := ha.n_eq
    have hall := nRL_all ha
    refine spec_of cx_ok cx_mix rfl Tryz.func108 Tryz.call108 Tryz.ntmps108 Tryz.results108 rfl rfl ?_
    refine ⟨fun h => ?_, fun h => ?_⟩
    · have hno : a = none := by
        cases a with
        | none => rfl
        | some x => cases h
      rw [hno] at ha
      have h0 := RL_nil ha
      refine hK none 0 0 H ⟨Le.refl H, .inl ⟨rfl, by rw [h0]; rfl⟩⟩ ?_
      rw [h0]; exact rl_nil
    · obtain ⟨css, hrow, hrc⟩ := ha.row
      have hcl : css.length = l.length := hrc.1
      have e := nRows_of hrc
      refine ⟨css, hrow, ?_⟩
      refine ⟨⟨by show (0 + css.length) * 16 ≤ 140737488355328; omega, by show 0 + css.length ≤ 9223372036854775807; omega⟩, ?_⟩
      intro v H' hle hv
      rw [e] at hle hv
      refine of_row_k (α := Nm) hv (rc_eRows hall) fun a1 n1 c1 ev hr => ?_
      subst ev
      exact hK _ _ _ H' hle hr
theorem cloneVG_spec {l : List Nm} (hl : l.length ≤ 1000000) {a : Option Addr} {n c : Nat} {H : Hp} {K : SV → St → Hp → Prop} (ha : RL H a n c l)
    (hK : ∀ H', Le H H' → K (.own 0) ⟨[], [(0, .row 55 2 (nRows l))], 1⟩ H') : DoesG Tryz.prog 107 [.v (.slice a n c)] [] 0 H K := by
  refine doesG_thawR (args := [.slice a n c]) (fun _ => rfl) (cloneV_spec hl ha (K := fun v H' => LeN 55 2 (nRows l) H v H') (fun _ _ _ H' h _ => h)) ?_
  intro v H2 hle h
  exact .inr ⟨55, 2, nRows l, v, .own 0, fun ρ hρ => hρ, rfl, h.new, nRows_ok l, fun H' hle2 _ => hK H' hle2⟩
noncomputable def cxW : Cx := { P := Tryz.prog, tt := tt, n := 0, wrap := false, base := 0, gf := 107 :: cx.gf, eqs := cx.eqs, xf := [] }
theorem cxW_ok : TOK cxW := ⟨cx_ok.tt, cx_ok.eqs⟩
theorem nm_k {P : Prop} {H : Hp} {a : Option Addr} {n c : Nat} {xs : List Nm} (h : RL H a n c xs) {i : Int} (h0 : 0 ≤ i) {x : Nm} (hi : xs[i.toNat]? = some x) (k : ∀ ad, a = some ad → ElemH H ad i 2 [.int .i64 x.1, .int .i64 x.2] → P) : P :=
  edge_k h hi fun ad e he => k ad e (by rwa [Int.toNat_of_nonneg h0] at he)
theorem eat_spec {l : List Nm} {i : Int} {a : Option Addr} {n c : Nat} {H : Hp} {K : Value → Hp → Prop} (ha : RL H a n c l) (hK : K (numV (inAt l i)) H) : Does Tryz.prog 169 [.slice a n c, .int .i64 i] H K := by
  have hn := ha.n_eq
  have hmx := ha.le
  refine spec_of cx_ok cx_mix rfl Tryz.func169 Tryz.call169 Tryz.ntmps169 Tryz.results169 rfl rfl ?_
  have hlow : i < 0 → inAt l i = (0, 0) := fun h => if_pos h
  have hhigh : ¬ i < 0 → (l.length : Int) ≤ i → inAt l i = (0, 0) := fun h0 h => by rw [inAt, if_neg h0, List.getElem?_eq_none (by omega)]; rfl
  refine ⟨fun h => ?_, fun h => ?_⟩
  · have h0 : ¬ i < 0 := df h
    refine ⟨fun h => ?_, fun h => ?_⟩
    · have h1 := dt h
      rw [hhigh h0 (by omega)] at hK
      exact hK
    · have h1 := df h
      have hlt : i.toNat < l.length := by omega
      have e : inAt l i = l[i.toNat] := by rw [inAt, if_neg h0, List.getElem?_eq_getElem hlt]; rfl
      rw [e] at hK
      refine nm_k ha (by omega) (List.getElem?_eq_getElem hlt) fun ad q1 hh => ?_
      refine ⟨ad, ⟨by omega, by omega, q1⟩, ?_⟩
      refine ⟨_, hh, ?_⟩
      exact hK
  · have h0 : i < 0 := dt h
    rw [hlow h0] at hK
    exact hK
theorem with_spec {l : List Nm} (hl : l.length ≤ 1000000) {i : Int} (hi : 0 ≤ i ∧ i < (l.length : Nat)) {x : Nm} {a : Option Addr} {n c : Nat} {H : Hp} {K : Value → Hp → Prop} (ha : RL H a n c l) (hx : inI x.1 ∧ inI x.2) (hK : ∀ a1 n1 c1 H', Le H H' → RL H' a1 n1 c1 (l.set i.toNat x) → K (.slice a1 n1 c1) H') : Does Tryz.prog 171 [.slice a n c, .int .i64 i, numV x] H K := by
  have hn := ha.n_eq
  have hmx := ha.le
  have hall := nRL_all ha
  refine spec_of cxW_ok cx_mix rfl Tryz.func171 Tryz.call171 Tryz.ntmps171 Tryz.results171 rfl rfl ?_
  refine ⟨[], rfl, cloneVG_spec hl ha fun H1 hle1 => ?_⟩
  have hll : (nRows l).length = l.length := List.length_map _
  have hlt : i.toNat < l.length := by omega
  have hg : (nRows l)[i.toNat]? = some [.int .i64 l[i.toNat].1, .int .i64 l[i.toNat].2] := by rw [List.getElem?_map, List.getElem?_eq_getElem hlt]; rfl
  have e : (nRows l).set i.toNat [.int .i64 x.1, .int .i64 x.2] = nRows (l.set i.toNat x) := List.map_set.symm
  refine ⟨⟨hi.1, by rw [hll]; exact hi.2⟩, ?_⟩
  refine ⟨_, hg, ?_⟩
  intro v H' hle hv
  have hv : RowAt H' v 2 ((nRows l).set i.toNat [.int .i64 x.1, .int .i64 x.2]) := hv
  rw [e] at hv
  refine of_row_k (α := Nm) hv (rc_eRows fun y hy => ?_) fun a1 n1 c1 ev hr => ?_
  · rcases List.mem_or_eq_of_mem_set hy with hy | hy
    · exact hall y hy
    · rw [hy]; exact hx
  · subst ev
    exact hK _ _ _ _ (hle1.trans hle.le) hr
theorem value_spec {p : Prog} (hc : cnt p < 400000) {l : List Nm} {x : Atm} {a a2 : Option Addr} {n c n2 c2 : Nat} {H : Hp} {K : Value → Hp → Prop} (ha : RL H a n c p) (hb : RL H a2 n2 c2 l) (hK : K (numV (valA p l x)) H) : Does Tryz.prog 109 [.agg #[.slice a n c], .slice a2 n2 c2, .agg (atmV x).toArray] H K := by
  refine spec_of cx_ok cx_mix rfl Tryz.func109 Tryz.call109 Tryz.ntmps109 Tryz.results109 rfl rfl ?_
  refine ⟨fun h => ?_, fun h => ?_⟩
  · have h0 : x.1.l = [] := dt h
    have e : valA p l x = nOf x.2 := by rw [valA, if_pos h0]
    rw [e] at hK
    refine gof_spec ?_
    exact hK
  · have h0 : ¬ x.1.l = [] := df h
    refine var_spec ha hc fun _ _ => ?_
    have hr := vIdx_range p x.1.l
    refine ⟨fun h => ?_, fun h => ?_⟩
    · have h1 : ¬ 0 ≤ vIdx p x.1.l := nt h
      have e : valA p l x = (0, 0) := by rw [valA, if_neg h0, if_neg h1]
      rw [e] at hK
      exact hK
    · have h1 : 0 ≤ vIdx p x.1.l := nf h
      have e : valA p l x = inAt l (vIdx p x.1.l) := by rw [valA, if_neg h0, if_pos h1, inAt, if_neg (by omega)]
      have e2 : max (idxS x.1.l (varsOf p) 0) 0 = vIdx p x.1.l := by rw [vIdx] at h1 ⊢; omega
      rw [e] at hK
      rw [e2]
      refine eat_spec hb ?_
      exact hK
theorem eval_spec {p : Prog} (hc : cnt p < 400000) {l : List Nm} {x : Expr} {a a2 : Option Addr} {n c n2 c2 : Nat} {H : Hp} {K : Value → Hp → Prop} (ha : RL H a n c p) (hb : RL H a2 n2 c2 l) (hK : K (.tuple #[numV (nOp x.1 (valA p l x.2.1) (valA p l x.2.2)), .int .i64 (if opIs x.1 then 0 else 10)]) H) : Does Tryz.prog 172 [.agg #[.slice a n c], .slice a2 n2 c2, .agg (exprV x).toArray] H K := by
  refine spec_of cx_ok cx_mix rfl Tryz.func172 Tryz.call172 Tryz.ntmps172 Tryz.results172 rfl rfl ?_
  refine ⟨some ([2], [0, 1, 2, 3, 4, 5, 7, 8, 9, 10, 6, 11, 12, 13, 14, 15, 16]), by kernel_rfl, ?_⟩
  refine value_spec hc ha hb ?_
  refine value_spec hc ha hb ?_
  refine gop_spec ?_
  exact hK
end Go.Proofs
end
section
namespace Go.Proofs
open Go.Sy
set_option maxRecDepth 20000
set_option maxHeartbeats 4000000
abbrev staV (b : Int) (ae : Option Addr) (ne ce : Nat) (i : Int) (x : Value) : Value := .agg #[.int .i64 b, .slice ae ne ce, .int .i64 i, x]
theorem wrp_in (n : Int) : inI (wrp n) := by have := wrp_le n; exact ⟨by omega, by omega⟩
theorem nOf_in (a : Nm) : inI (nOf a).1 ∧ inI (nOf a).2 := ⟨wrp_in _, wrp_in _⟩
theorem nOp_in (op : Int) (a b : Nm) : inI (nOp op a b).1 ∧ inI (nOp op a b).2 := by rw [← nOp_nOf]; exact nOf_in _
theorem xcheck_spec {p : Prog} (he : checkE p = 0) (hc : stmtsN p ≤ 1000000) (hv : cnt p < 400000) {b i : Int} {l : List Nm} (hb : 0 ≤ b ∧ b < (p.length : Nat)) (hl : l.length = (varsOf p).length) (hi : 0 ≤ i) {a ae ao : Option Addr} {n c ne ce no co : Nat} {H : Hp} {K : Value → Hp → Prop}
    (ha : RL H a n c p) (hE : RL H ae ne ce l) (hK : ∀ H', Le H H' → K (.int .i64 0) H') : Does Tryz.prog 70 [.agg #[.slice a n c], staV b ae ne ce i (.slice ao no co)] H K := by
  have hn := ha.n_eq
  have hne := hE.n_eq
  refine spec_of cx_ok cx_mix rfl Tryz.func70 Tryz.call70 Tryz.ntmps70 Tryz.results70 rfl rfl ?_
  refine pcheck_spec ha hc hv fun H0 hle0 => ?_
  refine ⟨fun h => absurd he (nt h), fun _ => ?_⟩
  refine ⟨some ([], [0, 1, 2, 3, 4, 5, 6, 7, 8, 9, 10, 11, 12, 13, 14, 15, 16, 17, 18, 19, 20, 21, 22, 23, 24]), by kernel_rfl, ?_⟩
  refine ⟨fun _ => ?_, fun h => absurd (dt h) (by omega)⟩
  refine ⟨fun _ => ?_, fun h => absurd (dt h) (by omega)⟩
  refine pvars_spec ha hv fun av nv cv H1 hle1 hrv => ?_
  have hnv := hrv.n_eq
  rw [List.length_map] at hnv
  refine ⟨fun _ => ?_, fun h => absurd (show (ne : Int) = nv by omega) (nt h)⟩
  refine ⟨fun h => absurd (dt h) (by omega), fun _ => ?_⟩
  exact hK _ hle1
theorem xclone_spec {b i : Int} {l o : List Nm} (hl : l.length ≤ 1000000) (ho : o.length ≤ 1000000) {ae ao : Option Addr} {ne ce no co : Nat} {H : Hp} {K : Value → Hp → Prop} (hE : RL H ae ne ce l) (hO : RL H ao no co o)
    (hK : ∀ a1 n1 c1 a2 n2 c2 H1 H', Le H H1 → RL H1 a1 n1 c1 l → LeN 55 2 (nRows o) H1 (.slice a2 n2 c2) H' → RL H' a2 n2 c2 o → K (staV b a1 n1 c1 i (.slice a2 n2 c2)) H') : Does Tryz.prog 71 [staV b ae ne ce i (.slice ao no co)] H K := by
  refine spec_of cx_ok cx_mix rfl Tryz.func71 Tryz.call71 Tryz.ntmps71 Tryz.results71 rfl rfl ?_
  refine ⟨some ([1000000, 0], [0, 1, 3, 4, 2, 6, 5, 7, 8, 9]), by kernel_rfl, ?_⟩
  refine cloneV_spec hl hE fun a1 n1 c1 H1 hle1 hr1 => ?_
  refine cloneN_spec ho (hO.up hle1.le) fun a2 n2 c2 H2 hle2 hr2 => ?_
  exact hK _ _ _ _ _ _ _ _ hle1.le hr1 hle2 hr2
theorem xdo_spec {p : Prog} (hc : cnt p < 400000) {inn l o : List Nm} {b i : Int} {x : Stmt} (hx : stmtB x = true) (hvx : x.2.1.l ≠ [] → 0 ≤ vIdx p x.2.1.l ∧ vIdx p x.2.1.l < (l.length : Nat)) (hl : l.length ≤ 1000000) (ho : o.length ≤ 1000000) (hi : 0 ≤ i) {a ae ai : Option Addr} {n c ne ce ni ci : Nat} {H : Hp} {K : SV → St → Hp → Prop}
    (ha : RL H a n c p) (hE : RL H ae ne ce l) (hI : RL H ai ni ci inn)
    (hK : ∀ a1 n1 c1 H', Le H H' → RL H' a1 n1 c1 (doS p inn (b, l, i, o) x).2.1 → x.1 ≠ 3 → K (.agg [.v (.int .i64 b), .v (.slice a1 n1 c1), .v (.int .i64 (doS p inn (b, l, i, o) x).2.2.1), .own 0]) ⟨[], [(0, .row 55 2 (nRows o))], 1⟩ H')
    (hK3 : x.1 = 3 → K (.agg [.v (.int .i64 b), .v (.slice ae ne ce), .v (.int .i64 i), .own 6]) ⟨[], [(6, .row 55 2 (nRows (o ++ [valA p l x.2.2.2.1])))], 7⟩ H) :
    DoesG Tryz.prog 111 [.agg [.v (.slice a n c)], .agg [.v (.int .i64 b), .v (.slice ae ne ce), .v (.int .i64 i), .own 0], .agg (vL (stmtV x)), .v (.slice ai ni ci)] [(0, .row 55 2 (nRows o))] 1 H K := by
  refine spec_ofG cx_ok cx_mix Tryz.func111 Tryz.call111 Tryz.ntmps111 Tryz.results111 rfl rfl ?_
  refine var_spec ha hc fun _ _ => ?_
  rcases stmtB_var hx with ⟨h1, h2, h3, h4⟩ | ⟨h1, h4⟩ | ⟨h1, h4⟩
  · refine ⟨fun _ => ?_, fun h => absurd h1 (df h)⟩
    have hv := hvx h4
    have e2 : max (idxS x.2.1.l (varsOf p) 0) 0 = vIdx p x.2.1.l := by rw [vIdx] at hv ⊢; omega
    refine eval_spec hc ha hE ?_
    rw [e2]
    refine with_spec hl hv hE (nOp_in _ _ _) fun a1 n1 c1 H1 hle1 hr1 => ?_
    have e : doS p inn (b, l, i, o) x = (b, setAt p l x.2.1.l (nOp x.2.2.1 (valA p l x.2.2.2.1) (valA p l x.2.2.2.2)), i, o) := by rw [doS, if_pos h1]
    rw [e] at hK
    exact ⟨.agg [.v (.int .i64 b), .v (.slice a1 n1 c1), .v (.int .i64 i), .own 0], [(0, .row 55 2 (nRows o))], 1, [(0, 0)], by (repeat' (first|exact trivial|refine ⟨?_,?_⟩|exact rfl|assumption)), hK a1 n1 c1 H1 hle1 hr1 (by omega)⟩
  · refine ⟨fun h => absurd (dt h) (by omega), fun _ => ?_⟩
    refine ⟨fun _ => ?_, fun h => absurd h1 (df h)⟩
    have hv := hvx h4
    have e2 : max (idxS x.2.1.l (varsOf p) 0) 0 = vIdx p x.2.1.l := by rw [vIdx] at hv ⊢; omega
    refine eat_spec hI ?_
    refine ⟨some ([1000000, 2], [0, 1, 2, 3, 4, 5, 6, 7, 8, 9, 10, 11]), by kernel_rfl, ?_⟩
    refine gof_spec ?_
    rw [e2]
    refine with_spec hl hv hE (nOf_in _) fun a1 n1 c1 H1 hle1 hr1 => ?_
    have e : doS p inn (b, l, i, o) x = (b, setAt p l x.2.1.l (nOf (inAt inn i)), inNext i, o) := by rw [doS, if_neg (by omega), if_pos h1]
    rw [e] at hK
    refine ⟨⟨by omega, by omega⟩, ?_⟩
    exact ⟨.agg [.v (.int .i64 b), .v (.slice a1 n1 c1), .v (.int .i64 (inNext i)), .own 0], [(0, .row 55 2 (nRows o))], 1, [(0, 0)], by (repeat' (first|exact trivial|refine ⟨?_,?_⟩|exact rfl|assumption)), hK a1 n1 c1 H1 hle1 hr1 (by omega)⟩
  · refine ⟨fun h => absurd (dt h) (by omega), fun _ => ?_⟩
    refine ⟨fun h => absurd (dt h) (by omega), fun _ => ?_⟩
    refine ⟨fun _ => ?_, fun h => absurd h1 (df h)⟩
    refine ⟨some ([1000000, 0, 2], [0, 1, 2, 3, 4, 5, 6, 7, 8, 9, 10, 11, 12]), by kernel_rfl, ?_⟩
    refine value_spec hc ha hE ?_
    have hll : (nRows o).length = o.length := List.length_map _
    have e : nRows o ++ [[.int .i64 (valA p l x.2.2.2.1).1, .int .i64 (valA p l x.2.2.2.1).2]] = nRows (o ++ [valA p l x.2.2.2.1]) := by show List.map _ _ ++ [_] = List.map _ (_ ++ [_]); rw [List.map_append]; rfl
    refine ⟨⟨by show (_ + 1) * 16 ≤ 140737488355328; rw [hll]; omega, by show _ + 1 ≤ 9223372036854775807; rw [hll]; omega⟩, ?_⟩
    exact ⟨.agg [.v (.int .i64 b), .v (.slice ae ne ce), .v (.int .i64 i), .own 6], [(6, .row 55 2 (nRows (o ++ [valA p l x.2.2.2.1])))], 7, [(6, 6)], by (repeat' (first|exact trivial|refine ⟨?_,?_⟩|exact rfl|assumption)), hK3 h1⟩
end Go.Proofs
end
section
namespace Go.Proofs
open Go.Sy
set_option maxRecDepth 20000
set_option maxHeartbeats 4000000
theorem xcloneG_spec {b i : Int} {l o : List Nm} (hl : l.length ≤ 1000000) (ho : o.length ≤ 1000000) {ae ao : Option Addr} {ne ce no co : Nat} {H : Hp} {K : SV → St → Hp → Prop} (hE : RL H ae ne ce l) (hO : RL H ao no co o)
    (hK : ∀ a1 n1 c1 H', Le H H' → RL H' a1 n1 c1 l → K (.agg [.v (.int .i64 b), .v (.slice a1 n1 c1), .v (.int .i64 i), .own 0]) ⟨[], [(0, .row 55 2 (nRows o))], 1⟩ H') : DoesG Tryz.prog 71 [.agg [.v (.int .i64 b), .v (.slice ae ne ce), .v (.int .i64 i), .v (.slice ao no co)]] [] 0 H K := by
  refine doesG_thawR (args := [staV b ae ne ce i (.slice ao no co)]) (fun _ => rfl) (xclone_spec hl ho hE hO (K := fun v H' => ∃ a1 n1 c1 x H1, v = staV b a1 n1 c1 i x ∧ Le H H1 ∧ RL H1 a1 n1 c1 l ∧ LeN 55 2 (nRows o) H1 x H')
    (fun a1 n1 c1 a2 n2 c2 H1 H' h1 h2 h3 _ => ⟨a1, n1, c1, _, H1, rfl, h1, h2, h3⟩)) ?_
  rintro v H2 hle ⟨a1, n1, c1, x, H1, rfl, h1, h2, h3⟩
  refine .inr ⟨55, 2, nRows o, x, .agg [.v (.int .i64 b), .v (.slice a1 n1 c1), .v (.int .i64 i), .own 0], fun ρ hρ => ?_, rfl, (LeN.base h1 h3).new, nRows_ok o, fun H' hle2 hkeep => hK a1 n1 c1 H' hle2 (h2.up fun b o hb => hkeep b o (h3.le b o hb) fun e => ?_)⟩
  · show Value.agg #[.int .i64 b, .slice a1 n1 c1, .int .i64 i, ρ.val 0] = _
    rw [hρ]
  · rcases h3.new with ⟨h4, _⟩ | ⟨g, cap, cc, h4, h5, _⟩
    · rw [h4] at e; cases e
    · rw [h4] at e
      simp only [Value.ownBlock, Option.some.injEq] at e
      subst e
      rw [h5] at hb
      cases hb
noncomputable def cxR : Cx := { P := Tryz.prog, tt := tt, n := 0, wrap := false, base := 0, gf := 71 :: 111 :: cx.gf, eqs := cx.eqs, xf := [] }
theorem cxR_ok : TOK cxR := ⟨cx_ok.tt, cx_ok.eqs⟩
theorem doAll_snoc (p : Prog) (inn : List Nm) (s : StE) {l : List Stmt} {k : Nat} {x : Stmt} (h : l[k]? = some x) : doAll p inn s (l.take (k + 1)) = doS p inn (doAll p inn s (l.take k)) x := by
  rw [doAll, List.take_add_one, h, Option.toList_some, List.foldl_append]; rfl
theorem doS_out (p : Prog) (inn : List Nm) (s : StE) (x : Stmt) : (doS p inn s x).2.2.2.length ≤ s.2.2.2.length + 1 ∧ (0 ≤ s.2.2.1 → 0 ≤ (doS p inn s x).2.2.1) := by
  unfold doS inNext
  repeat' split
  all_goals simp
  all_goals omega
theorem doAll_out (p : Prog) (inn : List Nm) : ∀ (l : List Stmt) (s : StE), (doAll p inn s l).2.2.2.length ≤ s.2.2.2.length + l.length ∧ (0 ≤ s.2.2.1 → 0 ≤ (doAll p inn s l).2.2.1)
  | [], _ => ⟨Nat.le_refl _, fun h => h⟩
  | x :: r, s => by
    have h1 := doS_out p inn s x
    have h2 := doAll_out p inn r (doS p inn s x)
    rw [doAll, List.foldl_cons, List.length_cons]
    exact ⟨by have := h2.1; unfold doAll at this; omega, fun h => h2.2 (h1.2 h)⟩
theorem doS_keep {p : Prog} {inn : List Nm} {s : StE} {x : Stmt} (h : x.1 ≠ 3) : (doS p inn s x).2.2.2 = s.2.2.2 := by
  unfold doS
  repeat' split
  all_goals first | rfl | contradiction
theorem valA_in (p : Prog) {e : List Nm} (h : ∀ y ∈ e, inI y.1 ∧ inI y.2) (a : Atm) : inI (valA p e a).1 ∧ inI (valA p e a).2 := by
  have z : inI ((0 : Int)) := ⟨by decide, by decide⟩
  unfold valA
  split
  · exact nOf_in _
  · split
    · cases hg : e[(vIdx p a.1.l).toNat]? with
      | none => exact ⟨z, z⟩
      | some y => exact h y (List.mem_of_getElem? hg)
    · exact ⟨z, z⟩
theorem doS_in (p : Prog) (inn : List Nm) (s : StE) (hE : ∀ y ∈ s.2.1, inI y.1 ∧ inI y.2) (hO : ∀ y ∈ s.2.2.2, inI y.1 ∧ inI y.2) (x : Stmt) : (∀ y ∈ (doS p inn s x).2.1, inI y.1 ∧ inI y.2) ∧ ∀ y ∈ (doS p inn s x).2.2.2, inI y.1 ∧ inI y.2 := by
  unfold doS setAt
  split
  · refine ⟨fun y hy => ?_, hO⟩
    rcases List.mem_or_eq_of_mem_set hy with hy | hy
    · exact hE y hy
    · rw [hy]; exact nOp_in _ _ _
  · split
    · refine ⟨fun y hy => ?_, hO⟩
      rcases List.mem_or_eq_of_mem_set hy with hy | hy
      · exact hE y hy
      · rw [hy]; exact nOf_in _
    · split
      · refine ⟨hE, fun y hy => ?_⟩
        rcases List.mem_append.1 hy with hy | hy
        · exact hO y hy
        · rw [List.mem_singleton.1 hy]; exact valA_in p hE _
      · exact ⟨hE, hO⟩
theorem doAll_in (p : Prog) (inn : List Nm) : ∀ (l : List Stmt) (s : StE), (∀ y ∈ s.2.1, inI y.1 ∧ inI y.2) → (∀ y ∈ s.2.2.2, inI y.1 ∧ inI y.2) → ∀ y ∈ (doAll p inn s l).2.2.2, inI y.1 ∧ inI y.2
  | [], _, _, h => h
  | x :: r, s, h1, h2 => by
    have h3 := doS_in p inn s h1 h2 x
    exact doAll_in p inn r (doS p inn s x) h3.1 h3.2
theorem run_spec {p : Prog} (hc : cnt p < 400000) {inn : List Nm} {s : StE} {q : Block} (h0 : 0 ≤ s.1) (hq : p[s.1.toNat]? = some q) (hst : ∀ x ∈ q.2.1, stmtB x = true) (hl : s.2.1.length = (varsOf p).length) (hvl : (varsOf p).length ≤ 1000) (ho : s.2.2.2.length + q.2.1.length ≤ 1000000) (hi : 0 ≤ s.2.2.1)
    {a ae ao ai : Option Addr} {n c ne ce no co ni ci : Nat} {H : Hp} {K : Value → Hp → Prop} (ha : RL H a n c p) (hE : RL H ae ne ce s.2.1) (hO : RL H ao no co s.2.2.2) (hI : RL H ai ni ci inn)
    (hK : ∀ a1 n1 c1 a2 n2 c2 H', Le H H' → RL H' a1 n1 c1 (runB p inn s).2.1 → RL H' a2 n2 c2 (runB p inn s).2.2.2 → K (staV s.1 a1 n1 c1 (runB p inn s).2.2.1 (.slice a2 n2 c2)) H') :
    Does Tryz.prog 73 [.agg #[.slice a n c], staV s.1 ae ne ce s.2.2.1 (.slice ao no co), .slice ai ni ci] H K := by
  obtain ⟨b, l, i, o⟩ := s
  dsimp only at h0 hl ho hi hE hO ⊢
  have hn := ha.n_eq
  have hmx := ha.le
  have hblt := (List.getElem?_eq_some_iff.1 hq).1
  refine spec_of cxR_ok cx_mix rfl Tryz.func73 Tryz.call73 Tryz.ntmps73 Tryz.results73 rfl rfl ?_
  refine ⟨[], rfl, xcloneG_spec (by omega) (by omega) hE hO fun a1 n1 c1 H1 hle1 hr1 => ?_⟩
  refine block_kI (ha.up hle1) h0 hq fun ad a5 n5 c5 q1 hh hr5 _ _ => ?_
  refine ⟨ad, ⟨by omega, by omega, q1⟩, ?_⟩
  refine ⟨_, hh, ?_⟩
  have hn5 := hr5.n_eq
  have hmx5 := hr5.le
  have hqm := List.mem_of_getElem? hq
  have hrb : runB p inn (b, l, i, o) = doAll p inn (b, l, i, o) q.2.1 := by rw [runB, blkN_get hq]
  rw [hrb] at hK
  refine ⟨Nat × StE × (Option Addr × Nat × Nat), fun z => ⟨[(2, .v (.slice ai ni ci)), (3, .ptr 0 0), (4, .ptr 1 0), (6, .ptr 2 0), (17, .v (.slice a5 n5 c5)), (18, .v (.int .i64 n5)), (19, .v (.int .i64 z.1))],
      [(0, .cells 24 [.v (.slice a n c)]), (1, .cells 43 [.v (.int .i64 b), .v (.slice z.2.2.1 z.2.2.2.1 z.2.2.2.2), .v (.int .i64 z.2.1.2.2.1), .own 3]), (2, .cells 43 [.v (.int .i64 0), .v (.slice none 0 0), .v (.int .i64 0), .v (.slice none 0 0)]), (3, .row 55 2 (nRows z.2.1.2.2.2))], 4⟩,
    fun z H' => Le H H' ∧ z.1 ≤ q.2.1.length ∧ z.2.1 = doAll p inn (b, l, i, o) (q.2.1.take z.1) ∧ RL H' z.2.2.1 z.2.2.2.1 z.2.2.2.2 z.2.1.2.1, fun z => q.2.1.length - z.1, ⟨(0, (b, l, i, o), (a1, n1, c1)), [(0, 0), (1, 1), (2, 2), (3, 3)], ?_, hle1, Nat.zero_le _, rfl, hr1⟩, ?_⟩
  · (repeat' (first|exact trivial|refine ⟨?_,?_⟩|exact rfl|assumption))
  rintro ⟨k, st, a6, n6, c6⟩ H2 _ ⟨hle2, hk, hst2, hr6⟩
  dsimp only at hk hst2 hr6
  have hz := doAll_blk p inn (q.2.1.take k) (b, l, i, o)
  have hz2 := doAll_out p inn (q.2.1.take k) (b, l, i, o)
  rw [← hst2] at hz hz2
  obtain ⟨b', l', i', o'⟩ := st
  dsimp only at hr6 hz hz2 hst2 ⊢
  have hb' : b' = b := hz.1
  refine ⟨fun h => ?_, fun h => ?_⟩
  · have hlt : k < q.2.1.length := by have := dt h; omega
    refine name_k q.2.1[k] fun x hxe => ?_
    have hxx : q.2.1[k]? = some x := by rw [hxe]; exact List.getElem?_eq_getElem hlt
    have hxm := List.mem_of_getElem? hxx
    have hstep := doAll_snoc p inn (b, l, i, o) hxx
    rw [← hst2, hb'] at hstep
    have hz3 := hz2.1
    rw [List.length_take] at hz3
    have hvx : x.2.1.l ≠ [] → 0 ≤ vIdx p x.2.1.l ∧ vIdx p x.2.1.l < (l'.length : Nat) := fun hne => by
      rw [hz.2, hl]
      exact vIdx_stmt hqm hxm (by simp) hne
    have h12 : Le H1 H2 := by assumption
    refine stmt_k (hr5.up h12) hxx fun ad e1 hh1 hR => ?_
    refine ⟨ad, ⟨by omega, by omega, e1⟩, ?_⟩
    refine ⟨_, hh1, ?_⟩
    refine ⟨[3], rfl, xdo_spec hc (inn := inn) (o := o') (hst x hxm) hvx (by rw [hz.2, hl]; omega) (by omega) (hz2.2 hi) (ha.up hle2) hr6 (hI.up hle2) (fun a7 n7 c7 H3 hle3 hr7 h3 => ?_) (fun h3 => ?_)⟩
    · have ho3 : (doS p inn (b, l', i', o') x).2.2.2 = o' := doS_keep h3
      have hb3 := (doS_blk p inn (b, l', i', o') x).1
      refine ⟨⟨by omega, by omega⟩, (k + 1, doS p inn (b, l', i', o') x, (a7, n7, c7)), [(0, 0), (1, 1), (2, 2), (3, 3)], ?_, ⟨hle2.trans hle3, hlt, hstep.symm, hr7⟩, by dsimp only; omega⟩
      dsimp only
      rw [ho3]
      (repeat' (first|exact trivial|refine ⟨?_,?_⟩|exact rfl|assumption))
    · have e3 : doS p inn (b, l', i', o') x = (b, l', i', o' ++ [valA p l' x.2.2.2.1]) := by rw [doS, if_neg (by omega), if_neg (by omega), if_pos h3]
      rw [e3] at hstep
      refine ⟨⟨by omega, by omega⟩, (k + 1, (b, l', i', o' ++ [valA p l' x.2.2.2.1]), (a6, n6, c6)), [(0, 0), (1, 1), (2, 2), (3, 10)], ?_, ⟨hle2, hlt, hstep.symm, hr6⟩, by dsimp only; omega⟩
      (repeat' (first|exact trivial|refine ⟨?_,?_⟩|exact rfl|assumption))
  · have hkl : k = q.2.1.length := by have := df h; omega
    rw [hkl, List.take_length] at hst2
    rw [← hst2] at hK
    intro v H' hle hv
    refine of_row_k (α := Nm) hv (rc_eRows fun y hy => ?_) fun a8 n8 c8 ev hr => ?_
    · have := doAll_in p inn q.2.1 (b, l, i, o) (nRL_all hE) (nRL_all hO)
      rw [← hst2] at this
      exact this y hy
    · subst ev
      exact hK _ _ _ _ _ _ _ (hle2.trans hle.le) (hr6.up hle.le) hr
theorem nm_zero {a : Nm} : (decide (a.1 = 0) && (decide (a.2 = 0) && true)) = true ↔ a = (0, 0) := by
  obtain ⟨x, y⟩ := a
  simp
theorem follow_spec {p : Prog} (hc : cnt p < 400000) (hp : p.length ≤ 12) {s : StE} {q : Block} (h0 : 0 ≤ s.1) (hq : p[s.1.toNat]? = some q)
    {a ae ao : Option Addr} {n c ne ce no co : Nat} {H : Hp} {K : Value → Hp → Prop} (ha : RL H a n c p) (hE : RL H ae ne ce s.2.1)
    (hK : K (.tuple #[staV (folS p s).1.1 ae ne ce s.2.2.1 (.slice ao no co), .bool (folS p s).2]) H) :
    Does Tryz.prog 72 [.agg #[.slice a n c], staV s.1 ae ne ce s.2.2.1 (.slice ao no co)] H K := by
  obtain ⟨b, l, i, o⟩ := s
  dsimp only at h0 hq hE ⊢
  have hn := ha.n_eq
  have hmx := ha.le
  have hblt := (List.getElem?_eq_some_iff.1 hq).1
  have hbk := blkN_get hq
  have hkind : ∀ t : Term, t = q.2.2 → (q.2.2.1 = 3 → folS p (b, l, i, o) = ((b, l, i, o), false)) ∧ (q.2.2.1 ≠ 3 → folS p (b, l, i, o) = ((bIdx p (goTo p (b, l, i, o) q.2.2), l, i, o), true)) := fun _ _ =>
    ⟨fun h => by rw [folS]; dsimp only; rw [hbk, if_pos h], fun h => by rw [folS]; dsimp only; rw [hbk, if_neg h]⟩
  have hkind := hkind _ rfl
  refine spec_of cx_ok cx_mix rfl Tryz.func72 Tryz.call72 Tryz.ntmps72 Tryz.results72 rfl rfl ?_
  refine block_kI ha h0 hq fun ad a5 n5 c5 q1 hh _ _ _ => ?_
  refine ⟨ad, ⟨by omega, by omega, q1⟩, ?_⟩
  refine ⟨_, hh, ?_⟩
  refine ⟨fun h => ?_, fun h => ?_⟩
  · have h3 := dt h
    rw [hkind.1 h3] at hK
    exact hK
  have h3 := df h
  rw [hkind.2 h3] at hK
  refine ⟨fun h => ?_, fun h => ?_⟩
  · have h2 := dt h
    refine value_spec hc ha hE ?_
    refine ⟨fun h => ?_, fun h => ?_⟩
    · have hz : valA p l q.2.2.2.1 = (0, 0) := nm_zero.1 h
      have hgo : goTo p (b, l, i, o) q.2.2 = q.2.2.2.2.2.l := by rw [goTo, if_pos ⟨h2, hz⟩]
      rw [hgo, bIdx] at hK
      refine block_spec hp ha fun _ _ => ?_
      exact hK
    · have hz : ¬ valA p l q.2.2.2.1 = (0, 0) := fun e => by rw [nm_zero.2 e] at h; cases h
      have hgo : goTo p (b, l, i, o) q.2.2 = q.2.2.2.2.1.l := by rw [goTo, if_neg (fun hh => hz hh.2)]
      rw [hgo, bIdx] at hK
      refine block_spec hp ha fun _ _ => ?_
      exact hK
  · have h2 := df h
    have hgo : goTo p (b, l, i, o) q.2.2 = q.2.2.2.2.1.l := by rw [goTo, if_neg (fun hh => h2 hh.1)]
    rw [hgo, bIdx] at hK
    refine block_spec hp ha fun _ _ => ?_
    exact hK
end Go.Proofs
end
section
namespace Go.Proofs
open Go.Sy
set_option maxRecDepth 20000
set_option maxHeartbeats 4000000
def goodS (p : Prog) (s : StE) : Prop := (0 ≤ s.1 ∧ s.1 < (p.length : Nat)) ∧ s.2.1.length = (varsOf p).length ∧ 0 ≤ s.2.2.1 ∧ s.2.2.1 ≤ 9223372036854775807
theorem doS_in2 (p : Prog) (inn : List Nm) (s : StE) (x : Stmt) (h : s.2.2.1 ≤ 9223372036854775807) : (doS p inn s x).2.2.1 ≤ 9223372036854775807 := by
  unfold doS inNext
  repeat' split
  all_goals (first | omega | (dsimp only; omega))
theorem doAll_in2 (p : Prog) (inn : List Nm) : ∀ (l : List Stmt) (s : StE), s.2.2.1 ≤ 9223372036854775807 → (doAll p inn s l).2.2.1 ≤ 9223372036854775807
  | [], _, h => h
  | x :: r, s, h => doAll_in2 p inn r (doS p inn s x) (doS_in2 p inn s x h)
theorem goodS_run {p : Prog} {inn : List Nm} {s : StE} (h : goodS p s) : goodS p (runB p inn s) := by
  have h1 := doAll_blk p inn (blkN p s.1).2.1 s
  have h2 := doAll_out p inn (blkN p s.1).2.1 s
  have h3 := doAll_in2 p inn (blkN p s.1).2.1 s h.2.2.2
  rw [runB]
  exact ⟨by rw [h1.1]; exact h.1, by rw [h1.2]; exact h.2.1, h2.2 h.2.2.1, h3⟩
theorem goodS_step {p : Prog} {inn : List Nm} {s : StE} (h : goodS p s) : goodS p (folS p (runB p inn s)).1 := by
  have h1 := goodS_run (inn := inn) h
  unfold folS
  split
  · exact h1
  · exact ⟨bIdx_range p _ (by have := h.1; omega), h1.2⟩
theorem goodS_it {p : Prog} {inn : List Nm} {s : StE} (h : goodS p s) : ∀ k, goodS p (itS p inn s k).2.1
  | 0 => h
  | k + 1 => by
    have h1 := goodS_it (inn := inn) h k
    rw [itS]
    split
    · exact goodS_step h1
    · exact h1
theorem le_stmts : ∀ {p : Prog} {b : Block}, b ∈ p → b.2.1.length ≤ stmtsN p
  | [], _, h => by cases h
  | x :: r, b, h => by
    unfold stmtsN
    rw [List.map_cons, List.sum_cons]
    rcases List.mem_cons.1 h with rfl | h
    · omega
    · have := le_stmts h
      unfold stmtsN at this
      omega
theorem stmts_512 {p : Prog} (h : checkE p = 0) : stmtsN p ≤ 512 := by
  unfold checkE at h
  split at h
  · cases h
  · omega
theorem fol_out (p : Prog) (s : StE) : (folS p s).1.2.2.2 = s.2.2.2 ∧ (folS p s).1.2.1 = s.2.1 ∧ (folS p s).1.2.2.1 = s.2.2.1 := by
  unfold folS
  split <;> exact ⟨rfl, rfl, rfl⟩
theorem blkN_mem {p : Prog} {s : StE} (h : goodS p s) : ∃ q, p[s.1.toNat]? = some q ∧ blkN p s.1 = q ∧ q ∈ p := by
  have hlt : s.1.toNat < p.length := by have := h.1; omega
  exact ⟨p[s.1.toNat], List.getElem?_eq_getElem hlt, blkN_get (List.getElem?_eq_getElem hlt), List.getElem_mem hlt⟩
theorem out_run {p : Prog} {inn : List Nm} {s : StE} (h : goodS p s) : (runB p inn s).2.2.2.length ≤ s.2.2.2.length + stmtsN p := by
  obtain ⟨q, _, e, hm⟩ := blkN_mem h
  have h1 := (doAll_out p inn q.2.1 s).1
  have h2 := le_stmts hm
  rw [runB, e]
  omega
theorem out_it {p : Prog} {inn : List Nm} {s : StE} (h : goodS p s) : ∀ k, (itS p inn s k).2.1.2.2.2.length ≤ s.2.2.2.length + k * stmtsN p
  | 0 => by simp [itS]
  | k + 1 => by
    have h1 := out_it (inn := inn) h k
    have h2 := out_run (inn := inn) (goodS_it (inn := inn) h k)
    rw [itS, Nat.add_mul, Nat.one_mul]
    split
    · rw [(fol_out p _).1]; omega
    · omega
theorem sta_mk {H : Hp} {s : StE} {a1 a2 : Option Addr} {n1 c1 n2 c2 : Nat} (h1 : inI s.1) (h2 : inI s.2.2.1) (hE : RL H a1 n1 c1 s.2.1) (hO : RL H a2 n2 c2 s.2.2.2) : Enc.R H [.int .i64 s.1, .slice a1 n1 c1, .int .i64 s.2.2.1, .slice a2 n2 c2] s :=
  ⟨[_], [_, _, _], rfl, ⟨rfl, h1⟩, [_], [_, _], rfl, ⟨_, _, _, rfl, hE⟩, [_], [_], rfl, ⟨rfl, h2⟩, ⟨_, _, _, rfl, hO⟩⟩
theorem sta_k {P : Prop} {H : Hp} {a : Option Addr} {n c : Nat} {xs : List StE} (h : RL H a n c xs) {i : Nat} {x : StE} (hi : xs[i]? = some x) (k : ∀ ad a1 n1 c1 a2 n2 c2, a = some ad → ElemH H ad (i : Int) 4 [.int .i64 x.1, .slice a1 n1 c1, .int .i64 x.2.2.1, .slice a2 n2 c2] → RL H a1 n1 c1 x.2.1 → RL H a2 n2 c2 x.2.2.2 → P) : P :=
  elem_k h hi fun ad cs h1 h2 h3 => by
    obtain ⟨x1, x2, rfl, ⟨rfl, _⟩, y1, y2, rfl, ⟨a1, n1, c1, rfl, hE⟩, z1, z2, rfl, ⟨rfl, _⟩, ⟨a2, n2, c2, rfl, hO⟩⟩ := h3
    exact k ad a1 n1 c1 a2 n2 c2 h1 h2 hE hO
theorem from_spec {p : Prog} (he : checkE p = 0) (hp : p.length ≤ 12) (hc : stmtsN p ≤ 1000000) (hv : cnt p < 400000) {inn : List Nm} {s : StE} (hs : goodS p s) (ho : s.2.2.2.length ≤ 100000) {most : Int} (hm : most ≤ 40)
    {a ae ao ai : Option Addr} {n c ne ce no co ni ci : Nat} {H : Hp} {K : Value → Hp → Prop} (ha : RL H a n c p) (hE : RL H ae ne ce s.2.1) (hO : RL H ao no co s.2.2.2) (hI : RL H ai ni ci inn)
    (hK : ∀ a1 n1 c1 a2 n2 c2 H', Le H H' → RL H' a1 n1 c1 (itS p inn s most.toNat).1 → RL H' a2 n2 c2 (itS p inn s most.toNat).2.1.2.2.2 → K (.tuple #[.agg #[.slice a1 n1 c1, .slice a2 n2 c2, .bool (!(itS p inn s most.toNat).2.2)], .int .i64 0]) H') :
    Does Tryz.prog 36 [.agg #[.slice a n c], staV s.1 ae ne ce s.2.2.1 (.slice ao no co), .slice ai ni ci, .int .i64 most] H K := by
  have hn := ha.n_eq
  have hmx := ha.le
  have hf := check_facts he
  have hst5 := stmts_512 he
  refine spec_of cx_ok cx_mix rfl Tryz.func36 Tryz.call36 Tryz.ntmps36 Tryz.results36 rfl rfl ?_
  have hmm : min (max most 0) 4096 = (most.toNat : Int) := by omega
  refine .inr ⟨Nat × List (List Value) × StE × Bool × (Option Addr × Nat × Nat) × (Option Addr × Nat × Nat), fun _ => 0, fun z => ⟨[(2, .v (.slice ai ni ci)), (3, .v (.int .i64 (min (max most 0) 4096))), (4, .ptr 0 0), (5, .ptr 1 0), (8, .ptr 2 0), (11, .ptr 3 0), (12, .v (.bool z.2.2.2.1))],
      [(0, .cells 24 [.v (.slice a n c)]), (1, .cells 43 [.v (.int .i64 z.2.2.1.1), .v (.slice z.2.2.2.2.1.1 z.2.2.2.2.1.2.1 z.2.2.2.2.1.2.2), .v (.int .i64 z.2.2.1.2.2.1), .v (.slice z.2.2.2.2.2.1 z.2.2.2.2.2.2.1 z.2.2.2.2.2.2.2)]), (2, .cells 37 [.v (.slice none 0 0), .v (.slice none 0 0), .v (.bool false)]), (3, .cells 37 [.own 4, .v (.slice none 0 0), .v (.bool false)]), (4, .row 43 4 z.2.1)], 5⟩,
    fun z H' => Le H H' ∧ z.1 ≤ most.toNat ∧ itS p inn s z.1 = (((itS p inn s z.1).1), z.2.2.1, z.2.2.2.1) ∧ RC (α := StE) H' z.2.1 (itS p inn s z.1).1 ∧ RL H' z.2.2.2.2.1.1 z.2.2.2.2.1.2.1 z.2.2.2.2.1.2.2 z.2.2.1.2.1 ∧ RL H' z.2.2.2.2.2.1 z.2.2.2.2.2.2.1 z.2.2.2.2.2.2.2 z.2.2.1.2.2.2, fun z => most.toNat - z.1, ?_, ?_⟩
  · refine xcheck_spec he hc hv hs.1 hs.2.1 hs.2.2.1 ha hE fun _ _ => ?_
    refine ⟨fun h => absurd rfl (nt h), fun _ => ?_⟩
    have hE1 := hs.2.1
    refine xclone_spec (by omega) (by omega) hE hO fun a1 n1 c1 a2 n2 c2 H0 H1 hle0 hr0 hle1 hr2 => ?_
    have hle : Le H H1 := hle0.trans hle1.le
    have hr1 := hr0.up hle1.le
    have hgd := hs
    have hit : itS p inn s 0 = ([], s, true) := rfl
    have hrc : RC (α := StE) H1 [] ([] : List StE) := RC.nil
    have hcl : ([] : List (List Value)).length = 0 := rfl
    refine ⟨fun h => ?_, fun h => ?_⟩
    · have hlt : 0 < most.toNat := by have := dt h; omega
      refine ⟨some ([1000000, 3], [0, 1, 2, 3, 4, 5, 6, 7]), by kernel_rfl, ?_⟩
      obtain ⟨qq, hq, hbq, hqm⟩ := blkN_mem hgd
      have hst := block_stmts (hf.2.2.2 qq hqm)
      have hqs := le_stmts hqm
      refine xclone_spec (l := s.2.1) (o := s.2.2.2) (by omega) (by omega) hr1 hr2 fun a3 n3 c3 a4 n4 c4 H2 H3 hle2 hr3 hle3 hr4 => ?_
      have h13 : Le H1 H3 := hle2.trans hle3.le
      refine ⟨⟨by show ([].length + 1) * 64 ≤ 140737488355328; omega, by show [].length + 1 ≤ 9223372036854775807; omega⟩, ?_⟩
      refine ⟨some ([1000000, 1], [0, 1, 2, 3, 4, 5, 6, 7, 8, 9, 10]), by kernel_rfl, ?_⟩
      refine run_spec (s := s) hv hgd.1.1 hq hst hE1 (by omega) (by omega) hgd.2.2.1 (ha.up (hle.trans h13)) (hr1.up h13) (hr2.up h13) (hI.up (hle.trans h13)) fun a5 n5 c5 a6 n6 c6 H4 hle4 hr5 hr6 => ?_
      have hgr := goodS_run (inn := inn) hgd
      have hb1 : (runB p inn s).1 = s.1 := (doAll_blk p inn _ s).1
      rw [← hb1]
      refine follow_spec (s := runB p inn s) hv hp hgr.1.1 (by rw [hb1]; exact hq) (ha.up ((hle.trans h13).trans hle4)) hr5 ?_
      have hfo := fol_out p (runB p inn s)
      have e : SV.v (.int .i64 (runB p inn s).2.2.1) = SV.v (.int .i64 (folS p (runB p inn s)).1.2.2.1) := by rw [hfo.2.2]
      have hstp := itS_step (p := p) (inn := inn) (s0 := s) (k := 0) (by rw [hit])
      have h14 := h13.trans hle4
      have hrow : RC (α := StE) H4 ([] ++ [[.int .i64 (runB p inn s).1, .slice a3 n3 c3, .int .i64 s.2.2.1, .slice a4 n4 c4]]) (itS p inn s (0 + 1)).1 := by
        rw [hstp, hit, hb1]
        have g1 := hgd.1
        have g2 := hgd.2.2
        exact (hrc.up h14).snoc (sta_mk ⟨by omega, by omega⟩ ⟨by omega, by omega⟩ (hr3.up (hle3.le.trans hle4)) (hr4.up hle4))
      refine ⟨(0 + 1, [] ++ [[.int .i64 (runB p inn s).1, .slice a3 n3 c3, .int .i64 s.2.2.1, .slice a4 n4 c4]], (folS p (runB p inn s)).1, (folS p (runB p inn s)).2, (a5, n5, c5), (a6, n6, c6)), [(0, 0), (1, 1), (2, 2), (3, 3), (4, 5)], rfl, ?_, ⟨hle.trans h14, hlt, ?_, hrow, ?_, ?_⟩⟩
      · (repeat' (first|exact trivial|refine ⟨?_,?_⟩|exact rfl|assumption))
      · rw [hstp, hit]
      · rw [hfo.2.1]; exact hr5
      · rw [hfo.1]; exact hr6
    · have hlt : most.toNat = 0 := by have := df h; omega
      rw [hlt] at hK
      exact hK none 0 0 a2 n2 c2 H1 hle rl_nil hr2
  · rintro ⟨k, css, st, g, ⟨a1, n1, c1⟩, ⟨a2, n2, c2⟩⟩ H1 _ ⟨hle, hk, hit, hrc, hr1, hr2⟩
    dsimp only at hk hit hrc hr1 hr2
    have hgd : goodS p st := by have := goodS_it (inn := inn) hs k; rw [hit] at this; exact this
    have hol : st.2.2.2.length ≤ 100000 + 40 * 512 := by
      have h1 := out_it (inn := inn) hs k
      rw [hit] at h1
      have h2 : k * stmtsN p ≤ 40 * 512 := Nat.mul_le_mul (by omega) hst5
      have h1 : st.2.2.2.length ≤ s.2.2.2.length + k * stmtsN p := h1
      omega
    have hcl : css.length = (itS p inn s k).1.length := hrc.1
    have hle4 := itS_le (p := p) (inn := inn) (s0 := s) k
    refine ⟨fun h => ?_, fun h => ?_⟩
    · have hgt : g = true := h
      subst hgt
      have hkl : (itS p inn s k).1.length = k := itS_len k (by rw [hit])
      have hE1 := hgd.2.1
      refine ⟨fun h => ?_, fun h => ?_⟩
      · have hlt : k < most.toNat := by have := dt h; dsimp only at this; omega
        refine ⟨some ([1000000, 3, 4], [0, 1, 2, 3, 4, 5, 6, 7]), by kernel_rfl, ?_⟩
        obtain ⟨qq, hq, hbq, hqm⟩ := blkN_mem hgd
        have hst := block_stmts (hf.2.2.2 qq hqm)
        have hqs := le_stmts hqm
        refine xclone_spec (l := st.2.1) (o := st.2.2.2) (by omega) (by omega) hr1 hr2 fun a3 n3 c3 a4 n4 c4 H2 H3 hle2 hr3 hle3 hr4 => ?_
        have h13 : Le H1 H3 := hle2.trans hle3.le
        refine ⟨⟨by show (css.length + 1) * 64 ≤ 140737488355328; omega, by show css.length + 1 ≤ 9223372036854775807; omega⟩, ?_⟩
        refine ⟨some ([1000000, 1], [0, 1, 2, 3, 4, 5, 6, 7, 8, 9, 10]), by kernel_rfl, ?_⟩
        refine run_spec (s := st) hv hgd.1.1 hq hst hE1 (by omega) (by omega) hgd.2.2.1 (ha.up (hle.trans h13)) (hr1.up h13) (hr2.up h13) (hI.up (hle.trans h13)) fun a5 n5 c5 a6 n6 c6 H4 hle4 hr5 hr6 => ?_
        have hgr := goodS_run (inn := inn) hgd
        have hb1 : (runB p inn st).1 = st.1 := (doAll_blk p inn _ st).1
        rw [← hb1]
        refine follow_spec (s := runB p inn st) hv hp hgr.1.1 (by rw [hb1]; exact hq) (ha.up ((hle.trans h13).trans hle4)) hr5 ?_
        have hfo := fol_out p (runB p inn st)
        have e : SV.v (.int .i64 (runB p inn st).2.2.1) = SV.v (.int .i64 (folS p (runB p inn st)).1.2.2.1) := by rw [hfo.2.2]
        have hstp := itS_step (p := p) (inn := inn) (s0 := s) (k := k) (by rw [hit])
        have h14 := h13.trans hle4
        have hrow : RC (α := StE) H4 (css ++ [[.int .i64 (runB p inn st).1, .slice a3 n3 c3, .int .i64 st.2.2.1, .slice a4 n4 c4]]) (itS p inn s (k + 1)).1 := by
          rw [hstp, hit, hb1]
          have g1 := hgd.1
          have g2 := hgd.2.2
          exact (hrc.up h14).snoc (sta_mk ⟨by omega, by omega⟩ ⟨by omega, by omega⟩ (hr3.up (hle3.le.trans hle4)) (hr4.up hle4))
        refine ⟨(k + 1, css ++ [[.int .i64 (runB p inn st).1, .slice a3 n3 c3, .int .i64 st.2.2.1, .slice a4 n4 c4]], (folS p (runB p inn st)).1, (folS p (runB p inn st)).2, (a5, n5, c5), (a6, n6, c6)), [(0, 0), (1, 1), (2, 2), (3, 3), (4, 6)], rfl, ?_, ⟨hle.trans h14, hlt, ?_, hrow, ?_, ?_⟩, by dsimp only; omega⟩
        · (repeat' (first|exact trivial|refine ⟨?_,?_⟩|exact rfl|assumption))
        · rw [hstp, hit]
        · rw [hfo.2.1]; exact hr5
        · rw [hfo.1]; exact hr6
      · have hge : most.toNat = k := by have := df h; dsimp only at this; omega
        rw [hge, hit] at hK
        intro v H5 hle5 hv5
        refine of_row_k (α := StE) hv5 (hrc.up hle5.le) fun a7 n7 c7 ev hr7 => ?_
        subst ev
        exact hK _ _ _ _ _ _ _ (hle.trans hle5.le) hr7 (hr2.up hle5.le)
    · have hgf : g = false := h
      subst hgf
      have hend := itS_end (p := p) (inn := inn) (s0 := s) (k := k) (by rw [hit]) (most.toNat - k)
      rw [show k + (most.toNat - k) = most.toNat by omega] at hend
      rw [hend, hit] at hK
      intro v H5 hle5 hv5
      refine of_row_k (α := StE) hv5 (hrc.up hle5.le) fun a7 n7 c7 ev hr7 => ?_
      subst ev
      exact hK _ _ _ _ _ _ _ (hle.trans hle5.le) hr7 (hr2.up hle5.le)
end Go.Proofs
end
section
namespace Go.Proofs
open Go.Sy
set_option maxRecDepth 20000
set_option maxHeartbeats 4000000
theorem zipBlk_get {vs : List Value} {q : Prog} {i : Nat} {v : Value} {b : Block} (hv : vs[i]? = some v) (hb : q[i]? = some b) : (List.zipWith blkV vs q)[i]? = some (blkV v b) := by
  rw [List.getElem?_zipWith, hv, hb]
end Go.Proofs
end
section
namespace Go.Proofs
open Go.Sy
set_option maxRecDepth 20000
set_option maxHeartbeats 4000000
theorem prog_R {p : Prog} {a : Option Addr} {n c : Nat} {H : Hp} (ha : RL H a n c p) {i : Nat} {b : Block} (hb : p[i]? = some b) : sR b.1 ∧ termR b.2.2 ∧ ∀ s ∈ b.2.1, stmtR s :=
  block_k ha hb fun _ _ _ _ _ _ hr hs ht => ⟨hs, ht, fun s hs2 => by
    obtain ⟨j, hj⟩ := List.getElem?_of_mem hs2
    exact stmt_k hr hj fun _ _ _ h => h⟩
end Go.Proofs
end
section
namespace Go.Proofs
open Go.Sy
set_option maxRecDepth 20000
theorem str_vc (b c : Str) : decide (sl (bs b.l) = sl (bs c.l)) = decide (b = c) := by
  obtain ⟨b⟩ := b
  obtain ⟨c⟩ := c
  rw [decide_eq_decide, sl_bs, sl_bs]
  exact ⟨fun h => by cases h; rfl, fun h => by cases h; rfl⟩
theorem neS_vc (s t : Stmt) : (!(decide (s.1 = t.1) && (decide (sl (bs s.2.1.l) = sl (bs t.2.1.l)) && (decide (s.2.2.1 = t.2.2.1) && (decide (sl (bs s.2.2.2.1.1.l) = sl (bs t.2.2.2.1.1.l)) && (decide (s.2.2.2.1.2.1 = t.2.2.2.1.2.1) && (decide (s.2.2.2.1.2.2 = t.2.2.2.1.2.2) && true) && true) && (decide (sl (bs s.2.2.2.2.1.l) = sl (bs t.2.2.2.2.1.l)) && (decide (s.2.2.2.2.2.1 = t.2.2.2.2.2.1) && (decide (s.2.2.2.2.2.2 = t.2.2.2.2.2.2) && true) && true) && true)) && true)))) = decide (s ≠ t) := by
  rw [str_vc, str_vc, str_vc]
  obtain ⟨a, b, c, ⟨d, e, f⟩, g, h, i⟩ := s
  obtain ⟨a', b', c', ⟨d', e', f'⟩, g', h', i'⟩ := t
  rw [Bool.eq_iff_iff]
  simp [and_assoc, or_assoc]
end Go.Proofs
end
section
namespace Go.Proofs
open Go.Sy
set_option maxRecDepth 20000
set_option maxHeartbeats 4000000
def neS (x y : Stmt) : Bool := decide (x ≠ y)
end Go.Proofs
end
section
namespace Go.Proofs
open Go.Sy
set_option maxRecDepth 20000
set_option maxHeartbeats 400000
theorem eqStm_spec {x y : List Stmt} {a a2 : Option Addr} {n c n2 k2 : Nat} {H : Hp} {K : Value → Hp → Prop} (ha : RL H a n c x) (hb : RL H a2 n2 k2 y) (hK : K (.bool (decide (x = y))) H) : Does Tryz.prog 63 [.slice a n c, .slice a2 n2 k2] H K := by
  have hn := ha.n_eq
  have hn2 := hb.n_eq
  have hmx := ha.le
  refine spec_of cx_ok cx_mix rfl Tryz.func63 Tryz.call63 Tryz.ntmps63 Tryz.results63 rfl rfl ?_
  refine ⟨fun h => ?_, fun h => ?_⟩
  · have h1 : ¬ n = n2 := by have := nt h; omega
    exact kbool hK (decide_eq_false (fun e => h1 (by rw [hn, hn2, e])))
  · have h1 : n = n2 := by have := nf h; omega
    refine ⟨Nat, fun i => ⟨[(0, .v (.slice a n c)), (1, .v (.slice a2 n2 k2)), (11, .v (.slice a n c)), (12, .v (.int .i64 n)), (13, .v (.int .i64 i))], [], 0⟩,
      fun i H' => H' = H ∧ i ≤ x.length ∧ ∀ j < i, x[j]? = y[j]?, fun i => x.length - i, ⟨0, [], ?_, rfl, Nat.zero_le _, fun j hj => (by cases hj)⟩, ?_⟩
    · (repeat' (first|exact trivial|refine ⟨?_,?_⟩|exact rfl|assumption))
    rintro i H1 _ ⟨rfl, hi, hx⟩
    refine ⟨fun h => ?_, fun h => ?_⟩
    · have hlt : i < x.length := by have := dt h; omega
      have hlt2 : i < y.length := by omega
      have ex := List.getElem?_eq_getElem hlt
      have ey := List.getElem?_eq_getElem hlt2
      refine stmt_k ha ex fun ad q1 hh _ => ?_
      refine stmt_k hb ey fun ad2 q2 hh2 _ => ?_
      refine ⟨some ([], [0, 1, 2, 3, 4, 5, 6, 7, 8]), by kernel_rfl, ?_⟩
      refine ⟨ad, ⟨by omega, by omega, q1⟩, ?_⟩
      refine ⟨_, hh, ?_⟩
      refine ⟨ad2, ⟨by omega, by omega, q2⟩, ?_⟩
      refine ⟨_, hh2, ?_⟩
      refine ⟨fun h => ?_, fun h => ?_⟩
      · have h1 : neS x[i] y[i] = true := (neS_vc _ _).symm.trans h
        have hne : ¬ x[i] = y[i] := dt h1
        exact kbool hK (decide_eq_false (fun e => hne (by subst e; rfl)))
      · have h1 : neS x[i] y[i] = false := (neS_vc _ _).symm.trans h
        have heq : x[i] = y[i] := by
          have := df h1
          exact Classical.not_not.1 this
        refine ⟨⟨by omega, by omega⟩, i + 1, [], ?_, ⟨rfl, hlt, fun j hj => ?_⟩, by dsimp only; omega⟩
        · (repeat' (first|exact trivial|refine ⟨?_,?_⟩|exact rfl|assumption))
        · rcases Nat.lt_succ_iff_lt_or_eq.1 hj with h | h
          · exact hx j h
          · rw [h, ex, ey, heq]
    · have hil : i = x.length := by have := df h; omega
      exact kbool hK (decide_eq_true (list_eq_take (by omega) (fun j hj => hx j (by omega))))
theorem eqT_vc (s t : Term) : (decide (s.1 = t.1) && (decide (sl (bs s.2.1.1.l) = sl (bs t.2.1.1.l)) && (decide (s.2.1.2.1 = t.2.1.2.1) && (decide (s.2.1.2.2 = t.2.1.2.2) && true) && true) && (decide (sl (bs s.2.2.1.l) = sl (bs t.2.2.1.l)) && (decide (sl (bs s.2.2.2.l) = sl (bs t.2.2.2.l)) && true)))) = decide (s = t) := by
  rw [str_vc, str_vc, str_vc]
  obtain ⟨a, ⟨d, e, f⟩, g, h⟩ := s
  obtain ⟨a', ⟨d', e', f'⟩, g', h'⟩ := t
  rw [Bool.eq_iff_iff]
  simp [and_assoc]
abbrev blkZ (v : Value) (b : Block) : List Value := [.string (bs b.1.l), v, .int .i64 b.2.2.1, .string (bs b.2.2.2.1.1.l), .int .i64 b.2.2.2.1.2.1, .int .i64 b.2.2.2.1.2.2, .string (bs b.2.2.2.2.1.l), .string (bs b.2.2.2.2.2.l)]
theorem same1_spec {x y : Block} {a a2 : Option Addr} {n c n2 k2 : Nat} {H : Hp} {K : Value → Hp → Prop} (ha : RL H a n c x.2.1) (hb : RL H a2 n2 k2 y.2.1) (hK : K (.bool (decide (x = y))) H) : Does Tryz.prog 62 [.agg (blkZ (.slice a n c) x).toArray, .agg (blkZ (.slice a2 n2 k2) y).toArray] H K := by
  have hF : ¬ x = y → K (.bool false) H := fun h => by rw [decide_eq_false h] at hK; exact hK
  refine spec_of cx_ok cx_mix rfl Tryz.func62 Tryz.call62 Tryz.ntmps62 Tryz.results62 rfl rfl ?_
  refine ⟨fun h => ?_, fun h => ?_⟩
  · have h1 : x.1 = y.1 := by
      have := (str_vc x.1 y.1).symm.trans h
      exact dt this
    refine ⟨fun h => ?_, fun h => ?_⟩
    · have h2 : x.2.2 = y.2.2 := dt ((eqT_vc x.2.2 y.2.2).symm.trans h)
      refine eqStm_spec ha hb ?_
      have e : decide (x = y) = decide (x.2.1 = y.2.1) := by
        rw [decide_eq_decide]
        exact ⟨fun e => by rw [e], fun e => Prod.ext h1 (Prod.ext e h2)⟩
      rw [e] at hK
      exact hK
    · have h2 : ¬ x.2.2 = y.2.2 := df ((eqT_vc x.2.2 y.2.2).symm.trans h)
      exact hF fun e => h2 (by rw [e])
  · have h1 : ¬ x.1 = y.1 := by
      have := (str_vc x.1 y.1).symm.trans h
      exact df this
    exact hF fun e => h1 (by rw [e])
theorem equalB_spec {A B : Prog} {a a2 : Option Addr} {n c n2 k2 : Nat} {H : Hp} {K : SV → St → Hp → Prop} (ha : RL H a n c A) (hb : RL H a2 n2 k2 B) (hK : K (.v (.bool (decide (A = B)))) ⟨[], [], 0⟩ H) :
    DoesG Tryz.prog 61 [.v (.slice a n c), .v (.slice a2 n2 k2), .fn 62 []] [] 0 H K := by
  have hn := ha.n_eq
  have hn2 := hb.n_eq
  have hmx := ha.le
  have hF : ¬ A = B → K (.v (.bool false)) ⟨[], [], 0⟩ H := fun h => by rw [decide_eq_false h] at hK; exact hK
  refine spec_ofG cx_ok cx_mix Tryz.func61 Tryz.call61 Tryz.ntmps61 Tryz.results61 rfl rfl ?_
  refine ⟨fun h => ?_, fun h => ?_⟩
  · have h1 : ¬ n = n2 := by have := nt h; omega
    exact ⟨.v (.bool false), [], 0, [], by (repeat' (first|exact trivial|refine ⟨?_,?_⟩|exact rfl|assumption)), hF (fun e => h1 (by rw [hn, hn2, e]))⟩
  · have h1 : n = n2 := by have := nf h; omega
    refine ⟨Nat, fun i => ⟨[(1, .v (.slice a2 n2 k2)), (2, .fn 62 []), (15, .v (.slice a n c)), (16, .v (.int .i64 n)), (17, .v (.int .i64 i))], [], 0⟩,
      fun i H' => H' = H ∧ i ≤ A.length ∧ ∀ j < i, A[j]? = B[j]?, fun i => A.length - i, ⟨0, [], ?_, rfl, Nat.zero_le _, fun j hj => (by cases hj)⟩, ?_⟩
    · (repeat' (first|exact trivial|refine ⟨?_,?_⟩|exact rfl|assumption))
    rintro i H1 _ ⟨rfl, hi, hx⟩
    refine ⟨fun h => ?_, fun h => ?_⟩
    · have hlt : i < A.length := by have := dt h; omega
      have hlt2 : i < B.length := by omega
      have ex := List.getElem?_eq_getElem hlt
      have ey := List.getElem?_eq_getElem hlt2
      refine block_k ha ex fun ad a5 n5 c5 q1 hh hr1 _ _ => ?_
      refine block_k hb ey fun ad2 a6 n6 c6 q2 hh2 hr2 _ _ => ?_
      refine ⟨ad, ⟨by omega, by omega, q1⟩, ?_⟩
      refine ⟨_, hh, ?_⟩
      refine ⟨ad2, ⟨by omega, by omega, q2⟩, ?_⟩
      refine ⟨_, hh2, ?_⟩
      refine same1_spec hr1 hr2 ?_
      refine ⟨fun h => ?_, fun h => ?_⟩
      · have hne : ¬ A[i] = B[i] := nt h
        exact ⟨.v (.bool false), [], 0, [], by (repeat' (first|exact trivial|refine ⟨?_,?_⟩|exact rfl|assumption)), hF (fun e => hne (by subst e; rfl))⟩
      · have heq : A[i] = B[i] := nf h
        refine ⟨⟨by omega, by omega⟩, i + 1, [], ?_, ⟨rfl, hlt, fun j hj => ?_⟩, by dsimp only; omega⟩
        · (repeat' (first|exact trivial|refine ⟨?_,?_⟩|exact rfl|assumption))
        · rcases Nat.lt_succ_iff_lt_or_eq.1 hj with h | h
          · exact hx j h
          · rw [h, ex, ey, heq]
    · have hil : i = A.length := by have := df h; omega
      rw [decide_eq_true (list_eq_take (by omega) (fun j hj => hx j (by omega)))] at hK
      exact ⟨.v (.bool true), [], 0, [], by (repeat' (first|exact trivial|refine ⟨?_,?_⟩|exact rfl|assumption)), hK⟩
theorem psame4_spec {A B : Prog} {a a2 : Option Addr} {n c n2 k2 : Nat} {H : Hp} {K : Value → Hp → Prop} (ha : RL H a n c A) (hb : RL H a2 n2 k2 B) (hK : K (.bool (decide (A = B))) H) : Does Tryz.prog 32 [.agg #[.slice a n c], .agg #[.slice a2 n2 k2]] H K := by
  refine spec_of cx_ok cx_mix rfl Tryz.func32 Tryz.call32 Tryz.ntmps32 Tryz.results32 rfl rfl ?_
  refine ⟨[], rfl, equalB_spec ha hb ?_⟩
  exact hK
end Go.Proofs
end
section
namespace Go.Proofs
open Go.Sy
set_option maxRecDepth 20000
set_option maxHeartbeats 4000000
theorem start_spec {p : Prog} (he : checkE p = 0) (hv : cnt p < 400000) {a : Option Addr} {n c : Nat} {H : Hp} {K : Value → Hp → Prop} (ha : RL H a n c p)
    (hK : ∀ a1 n1 c1 H', Le H H' → RL H' a1 n1 c1 (start0 p).2.1 → K (staV 0 a1 n1 c1 0 (.slice none 0 0)) H') : Does Tryz.prog 37 [.agg #[.slice a n c]] H K := by
  have hf := check_facts he
  refine spec_of cx_ok cx_mix rfl Tryz.func37 Tryz.call37 Tryz.ntmps37 Tryz.results37 rfl rfl ?_
  refine pvars_spec ha hv fun av nv cv H1 hle1 hrv => ?_
  have hnv := hrv.n_eq
  rw [List.length_map] at hnv
  refine ⟨⟨rfl, by omega, by show (nv : Int) * 16 ≤ _; omega, by omega⟩, ?_⟩
  intro v H' hle hv2
  have e : List.replicate (nv : Int).toNat [Value.int .i64 0, Value.int .i64 0] = nRows (start0 p).2.1 := by
    show _ = List.map _ (List.replicate _ _)
    rw [List.map_replicate, Int.toNat_natCast, hnv]
  have hv2 : RowAt H' v 2 (List.replicate (nv : Int).toNat [Value.int .i64 0, Value.int .i64 0]) := hv2
  rw [e] at hv2
  refine of_row_k (α := Nm) hv2 (rc_eRows fun y hy => ?_) fun a1 n1 c1 ev hr => ?_
  · rw [(List.mem_replicate.1 hy).2]; exact ⟨⟨by decide, by decide⟩, ⟨by decide, by decide⟩⟩
  · subst ev
    exact hK _ _ _ _ (hle1.trans hle.le) hr
theorem goodS_start {p : Prog} (he : checkE p = 0) : goodS p (start0 p) := by
  have hf := check_facts he
  exact ⟨⟨Int.le_refl _, by show (0 : Int) < _; omega⟩, by simp [start0], Int.le_refl _, (by show (0 : Int) ≤ 9223372036854775807; decide)⟩
theorem all_spec {p : Prog} (he : checkE p = 0) (hp : p.length ≤ 12) (hc : stmtsN p ≤ 1000000) (hv : cnt p < 400000) {inn : List Nm} {most : Int} (hm : most ≤ 40)
    {a ai : Option Addr} {n c ni ci : Nat} {H : Hp} {K : Value → Hp → Prop} (ha : RL H a n c p) (hI : RL H ai ni ci inn)
    (hK : ∀ a1 n1 c1 a2 n2 c2 H', Le H H' → RL H' a1 n1 c1 (itS p inn (start0 p) most.toNat).1 → RL H' a2 n2 c2 (itS p inn (start0 p) most.toNat).2.1.2.2.2 → K (.tuple #[.agg #[.slice a1 n1 c1, .slice a2 n2 c2, .bool (!(itS p inn (start0 p) most.toNat).2.2)], .int .i64 0]) H') :
    Does Tryz.prog 12 [.agg #[.slice a n c], .slice ai ni ci, .int .i64 most] H K := by
  refine spec_of cx_ok cx_mix rfl Tryz.func12 Tryz.call12 Tryz.ntmps12 Tryz.results12 rfl rfl ?_
  refine ⟨some ([1], [0, 1, 3, 4, 2, 5, 6, 7, 8, 9]), by kernel_rfl, ?_⟩
  refine start_spec he hv ha fun a1 n1 c1 H1 hle1 hr1 => ?_
  refine from_spec he hp hc hv (s := start0 p) (goodS_start he) (by simp [start0]) hm (ha.up hle1) hr1 rl_nil (hI.up hle1) fun a2 n2 c2 a3 n3 c3 H2 hle2 hr2 hr3 => ?_
  exact hK _ _ _ _ _ _ _ (hle1.trans hle2) hr2 hr3
end Go.Proofs
end
section
namespace Go.Proofs
open Go.Sy
set_option maxRecDepth 20000
set_option maxHeartbeats 4000000
end Go.Proofs
end
section
namespace Go.Proofs
open Go.Sy
set_option maxRecDepth 20000
set_option maxHeartbeats 4000000
theorem nums_spec {l : List Nm} {a a2 : Option Addr} {n c n2 c2 : Nat} {H : Hp} {K : Value → Hp → Prop} (ha : RL H a n c l) (hb : RL H a2 n2 c2 l) (hK : K (.bool true) H) : Does Tryz.prog 13 [.slice a n c, .slice a2 n2 c2] H K := by
  have hn := ha.n_eq
  have hn2 := hb.n_eq
  have hmx := ha.le
  refine spec_of cx_ok cx_mix rfl Tryz.func13 Tryz.call13 Tryz.ntmps13 Tryz.results13 rfl rfl ?_
  refine ⟨fun h => absurd (show (n : Int) = n2 by omega) (nt h), fun _ => ?_⟩
  refine ⟨Nat, fun i => ⟨[(0, .v (.slice a n c)), (1, .v (.slice a2 n2 c2)), (12, .v (.int .i64 n)), (13, .v (.int .i64 i))], [], 0⟩, fun i H' => H' = H ∧ i ≤ l.length, fun i => l.length - i, ⟨0, [], ?_, rfl, Nat.zero_le _⟩, ?_⟩
  · (repeat' (first|exact trivial|refine ⟨?_,?_⟩|exact rfl|assumption))
  rintro i H1 _ ⟨rfl, hi⟩
  refine ⟨fun h => ?_, fun h => ?_⟩
  · have hlt : i < l.length := by have := dt h; omega
    have hx := List.getElem?_eq_getElem hlt
    refine edge_k ha hx fun ad q1 hh => ?_
    refine edge_k hb hx fun ad2 q2 hh2 => ?_
    refine ⟨some ([], [0, 1, 2, 3, 4, 5, 6, 7, 8]), by kernel_rfl, ?_⟩
    refine ⟨ad, ⟨by omega, by omega, q1⟩, ?_⟩
    refine ⟨_, hh, ?_⟩
    refine ⟨ad2, ⟨by omega, by omega, q2⟩, ?_⟩
    refine ⟨_, hh2, ?_⟩
    refine ⟨fun h => by simp at h, fun _ => ?_⟩
    refine ⟨⟨by omega, by omega⟩, i + 1, [], ?_, ⟨rfl, hlt⟩, by dsimp only; omega⟩
    (repeat' (first|exact trivial|refine ⟨?_,?_⟩|exact rfl|assumption))
  · exact hK
end Go.Proofs
end
