/- Part 'M33' of the proof (Gw1, Gw2, Dl, Mg2, Mg3, Mg4, Mg5, W0, W1, W2, W3, W4, W5, W6, W7, W8, W9, W10, W11, W12, Rn0, Lv0, Lv1, Lv2, W13, W14, W15, Px0, Px1, Fo0, W16, Fo1, Fo2, Fo3, Ex1, Ex2, Ex3, Ex4, Ex5, Ex6, Fr0, Fr1, Fr2): lemmas, each with its own conditions in its own statement. -/
import Derived.Test.YtmpnlhcnkobpfaaGreatRDoorM15
import Derived.Test.YtmpnlhcnkobpfaaGreatRDoorM25
import Derived.Test.YtmpnlhcnkobpfaaGreatRDoorM27
import Derived.Test.YtmpnlhcnkobpfaaGreatRDoorM3
import Derived.Test.YtmpnlhcnkobpfaaGreatRDoorM31
import Derived.Test.YtmpnlhcnkobpfaaGreatRDoorM32
section
namespace Go.Proofs
open Go.Sy Go.Shelf Go.RowKit Go.Lib
set_option maxRecDepth 20000
end Go.Proofs
end
section
namespace Go.Proofs
open Go.Sy
set_option maxRecDepth 20000
set_option maxHeartbeats 4000000
theorem list_k {α : Type} [Enc α] {P : Prop} {H : Hp} {a : Option Addr} {n c : Nat} {xs : List (List α)} (h : RL H a n c xs) {i : Nat} {x : List α} (hi : xs[i]? = some x) (k : ∀ ad a1 n1 c1, a = some ad → ElemH H ad (i : Int) 1 [.slice a1 n1 c1] → RL H a1 n1 c1 x → P) : P :=
  elem_k h hi fun ad cs h1 h2 h3 => by
    obtain ⟨a1, n1, c1, rfl, h4⟩ := h3
    exact k ad a1 n1 c1 h1 h2 h4
end Go.Proofs
end
section
namespace Go.Proofs
open Go.Sy
set_option maxRecDepth 20000
end Go.Proofs
end
section
namespace Go.Proofs
open Go.Sy
set_option maxRecDepth 20000
set_option maxHeartbeats 4000000
theorem RC.drop {α : Type} [Enc α] {H : Hp} {css : List (List Value)} {xs : List α} (h : RC H css xs) (k : Nat) : RC H (css.drop k) (xs.drop k) := by
  have hl : css.length = xs.length := h.1
  refine ⟨by rw [List.length_drop, List.length_drop, hl], fun i cs x h1 h2 => ?_⟩
  rw [List.getElem?_drop] at h1 h2
  exact h.2 _ cs x h1 h2
end Go.Proofs
end
section
namespace Go.Proofs
open Go.Sy
set_option maxRecDepth 20000
set_option maxHeartbeats 4000000
end Go.Proofs
end
section
namespace Go.Proofs
open Go.Sy
set_option maxRecDepth 20000
set_option maxHeartbeats 4000000
theorem edge_k {P : Prop} {H : Hp} {a : Option Addr} {n c : Nat} {xs : List Edg} (h : RL H a n c xs) {i : Nat} {x : Edg} (hi : xs[i]? = some x) (k : ∀ ad, a = some ad → ElemH H ad (i : Int) 2 [.int .i64 x.1, .int .i64 x.2] → P) : P :=
  elem_k h hi fun ad cs h1 h2 h3 => by
    obtain ⟨rfl, _⟩ := edge_open h3
    exact k ad h1 h2
theorem of_row_k {α : Type} [Enc α] {P : Prop} {H : Hp} {v : Value} {css : List (List Value)} {xs : List α} (h : RowAt H v (Enc.sz α) css) (hc : RC H css xs) (k : ∀ a n c, v = .slice a n c → RL H a n c xs → P) : P := by
  obtain ⟨a, n, c, e, hr⟩ := RL.of_row h hc
  exact k a n c e hr
end Go.Proofs
end
section
namespace Go.Proofs
open Go.Sy
set_option maxRecDepth 20000
set_option maxHeartbeats 4000000
end Go.Proofs
end
section
namespace Go.Proofs
open Go.Sy
set_option maxRecDepth 20000
end Go.Proofs
end
section
namespace Go.Proofs
open Go.Sy
set_option maxRecDepth 20000
set_option maxHeartbeats 4000000
theorem kint {K : Value → Hp → Prop} {H : Hp} {k : IntKind} {x y : Int} (h : K (.int k x) H) (e : x = y) : K (.int k y) H := e ▸ h
end Go.Proofs
end
section
namespace Go.Proofs
open Go.Sy
set_option maxRecDepth 20000
set_option maxHeartbeats 4000000
theorem word_k {P : Prop} {H : Hp} {a : Option Addr} {n c : Nat} {xs : List UInt64} (h : RL H a n c xs) {i : Nat} {x : UInt64} (hi : xs[i]? = some x) (k : ∀ ad, a = some ad → ElemH H ad (i : Int) 1 [.int .u64 (x.toNat : Nat)] → x.toNat < 18446744073709551616 → P) : P :=
  elem_k h hi fun ad cs h1 h2 h3 => by
    have e : cs = [.int .u64 (x.toNat : Nat)] := h3
    subst e
    exact k ad h1 h2 x.toNat_lt
theorem u64_of {w : Nat} (h : w < 18446744073709551616) : (UInt64.ofNat w).toNat = w := UInt64.toNat_ofNat_of_lt' (by show w < 2 ^ 64; omega)
theorem rc_w {H : Hp} {l : List UInt64} : RC (α := UInt64) H (l.map fun w => [Value.int .u64 (w.toNat : Nat)]) l := by
  refine ⟨by simp, fun i cs x h1 h2 => ?_⟩
  rw [List.getElem?_map, h2] at h1
  cases h1
  exact rfl
end Go.Proofs
end
section
namespace Go.Proofs
open Go.Sy
set_option maxRecDepth 20000
set_option maxHeartbeats 4000000
abbrev Wd := List UInt64
abbrev c2 (w : Nat) : List (Nat × Bx) := [(0, .cells 3 [.v (.int .i64 3)]), (1, .cells 3 [.v (.int .i64 (w : Nat))])]
end Go.Proofs
end
section
namespace Go.Proofs
open Go.Sy
set_option maxRecDepth 20000
set_option maxHeartbeats 4000000
abbrev Rf := Int × Nm
abbrev Cd := Int × Int × Rf × Rf
abbrev vL (l : List Value) : List SV := l.map .v
abbrev c1 (w : Nat) : List (Nat × Bx) := [(0, .cells 3 [.v (.int .i64 (w : Nat))])]
abbrev uRows (l : Wd) : List (List Value) := l.map fun w => [.int .u64 (w.toNat : Nat)]
theorem uRows_of {H : Hp} {css : List (List Value)} {l : Wd} (h : RC (α := UInt64) H css l) : css = uRows l := by
  apply List.ext_getElem?
  intro i
  by_cases hi : i < css.length
  · have hi2 : i < l.length := by rw [← h.1]; exact hi
    have h1 := List.getElem?_eq_getElem hi
    have h2 := List.getElem?_eq_getElem hi2
    have h3 : css[i] = [.int .u64 (l[i].toNat : Nat)] := h.2 i _ _ h1 h2
    rw [h1, h3, List.getElem?_map, h2]; rfl
  · rw [List.getElem?_eq_none (by omega), List.getElem?_eq_none (by rw [List.length_map, ← h.1]; omega)]
theorem cloneUN_spec {l : Wd} (hl : l.length ≤ 1000000) {a : Option Addr} {n c : Nat} {H : Hp} {K : Value → Hp → Prop} (ha : RL H a n c l) (hK : ∀ v H', LeN 168 1 (uRows l) H v H' → RowAt H' v 1 (uRows l) → K v H') (hnil : a = none → l = [] → K (.slice none 0 0) H) : Does Tryz.prog 247 [.slice a n c] H K := by
  have hn := ha.n_eq
  refine spec_of cx_ok cx_mix rfl Tryz.func247 Tryz.call247 Tryz.ntmps247 Tryz.results247 rfl rfl ?_
  refine ⟨fun h => ?_, fun h => ?_⟩
  · have hno : a = none := by
      cases a with
      | none => rfl
      | some x => cases h
    subst hno
    exact hnil rfl (RL_nil ha)
  · obtain ⟨css, hrow, hrc⟩ := ha.row
    have hcl : css.length = l.length := hrc.1
    have e := uRows_of hrc
    refine ⟨css, hrow, ?_⟩
    refine ⟨⟨by show (0 + css.length) * 8 ≤ 140737488355328; omega, by show 0 + css.length ≤ 9223372036854775807; omega⟩, ?_⟩
    intro v H' hle hv
    rw [e] at hle hv
    exact hK v H' hle hv
theorem cloneU_spec {l : Wd} (hl : l.length ≤ 1000000) {a : Option Addr} {n c : Nat} {H : Hp} {K : Value → Hp → Prop} (ha : RL H a n c l) (hK : ∀ a1 n1 c1 H', Le H H' → RL H' a1 n1 c1 l → K (.slice a1 n1 c1) H') : Does Tryz.prog 247 [.slice a n c] H K := by
  refine cloneUN_spec hl ha (fun v H' hle hv => ?_) (fun _ e => ?_)
  · obtain ⟨a1, n1, c1, rfl, hr⟩ := RL.of_row (α := UInt64) hv rc_w
    exact hK _ _ _ _ hle.le hr
  · rw [e] at hK
    exact hK none 0 0 H (Le.refl H) rl_nil
end Go.Proofs
end
section
namespace Go.Proofs
open Go.Sy
set_option maxRecDepth 20000
set_option maxHeartbeats 4000000
theorem uRows_get {v : Wd} {i : Int} (h0 : 0 ≤ i) (h1 : i < (v.length : Nat)) : (uRows v)[i.toNat]? = some [.int .u64 ((v[i.toNat]?.getD 0).toNat : Nat)] := by
  have h : i.toNat < v.length := by omega
  rw [List.getElem?_map, List.getElem?_eq_getElem h]; rfl
theorem uRows_len (v : Wd) : (uRows v).length = v.length := List.length_map _
theorem uRows_set (v : Wd) (i : Nat) {x : Nat} (hx : x < 18446744073709551616) : (uRows v).set i [.int .u64 (x : Nat)] = uRows (v.set i (UInt64.ofNat x)) := by
  rw [uRows, uRows, List.map_set, u64_of hx]
abbrev b2 (v : Wd) : List (Nat × Bx) := [(0, .cells 29 [.own 1]), (1, .row 168 1 (uRows v))]
end Go.Proofs
end
section
namespace Go.Proofs
open Go.Sy
set_option maxRecDepth 20000
set_option maxHeartbeats 4000000
end Go.Proofs
end
section
namespace Go.Proofs
open Go.Sy
set_option maxRecDepth 20000
set_option maxHeartbeats 4000000
structure Tr3 where
  l : List Cd
instance : Enc Tr3 where
  sz := 3
  R H cs x := ∃ a n c, cs = [.slice none 0 0, .slice none 0 0, .slice a n c] ∧ RL H a n c x.l
  len h := by obtain ⟨_, _, _, rfl, _⟩ := h; rfl
  one h := by obtain ⟨_, _, _, rfl, _⟩ := h; intro u hu; simp at hu; rcases hu with rfl | rfl <;> rfl
  up hle h := by obtain ⟨a, n, c, e, h⟩ := h; exact ⟨a, n, c, e, h.up hle⟩
structure Sy3 where
  w : Nat
  m : Nat
  E : List Edg
  ent : List Int
  ini : Wd
  T : List (List Cd)
structure SA where
  ea : Option Addr
  en : Nat
  ec : Nat
  na : Option Addr
  nn : Nat
  nc : Nat
  ia : Option Addr
  ni : Nat
  ic : Nat
  ta : Option Addr
  tn : Nat
  tc : Nat
structure SysR (H : Hp) (s : Sy3) (z : SA) : Prop where
  e : RL H z.ea z.en z.ec s.E
  n : RL H z.na z.nn z.nc s.ent
  i : RL H z.ia z.ni z.ic s.ini
  t : RL (α := Tr3) H z.ta z.tn z.tc (s.T.map Tr3.mk)
theorem SysR.up {H H' : Hp} {s : Sy3} {z : SA} (h : SysR H s z) (hle : Le H H') : SysR H' s z := ⟨h.e.up hle, h.n.up hle, h.i.up hle, h.t.up hle⟩
theorem right_true {m : Int} {l : List Edg} (h : rightE m l = true) {a : Option Addr} {n c : Nat} {H : Hp} {K : Value → Hp → Prop} (ha : RL H a n c l) (hK : K (.bool true) H) : Does Tryz.prog 211 [.int .i64 m, .slice a n c] H K :=
  right_spec ha (by rw [h]; exact hK)
theorem nilRow_rc {m : Nat} {H : Hp} : RC (α := Wd) H (List.replicate m [Value.slice none 0 0]) (List.replicate m []) := by
  refine ⟨by simp, fun i cs x h1 h2 => ?_⟩
  rw [List.getElem?_replicate] at h1 h2
  split at h1
  · rename_i hlt
    rw [if_pos hlt] at h2
    cases h1; cases h2
    exact ⟨none, 0, 0, rfl, rl_nil⟩
  · cases h1
theorem wdrow_k {P : Prop} {H : Hp} {css : List (List Value)} {A : List Wd} (h : RC (α := Wd) H css A) {i : Nat} {x : Wd} (hi : A[i]? = some x) (k : ∀ a n c, css[i]? = some [.slice a n c] → RL H a n c x → P) : P := by
  have hlt := (List.getElem?_eq_some_iff.1 hi).1
  have hl : css.length = A.length := h.1
  have hg : css[i]? = some (css[i]'(by omega)) := List.getElem?_eq_getElem _
  obtain ⟨a, n, c, e, hr⟩ := h.2 i _ x hg hi
  exact k a n c (by rw [hg, e]) hr
theorem wd_set {H : Hp} {css : List (List Value)} {A : List Wd} (h : RC (α := Wd) H css A) {i : Nat} {a : Option Addr} {n c : Nat} {x : Wd} (hx : RL H a n c x) : RC (α := Wd) H (css.set i [.slice a n c]) (A.set i x) :=
  RC.set h (show Enc.R (α := Wd) H [.slice a n c] x from ⟨a, n, c, rfl, hx⟩) i
def fillV (f : Nat → Wd) (m i : Nat) : List Wd := (List.range i).map f ++ List.replicate (m - i) []
theorem fillV_len (f : Nat → Wd) {m i : Nat} (h : i ≤ m) : (fillV f m i).length = m := by
  rw [fillV, List.length_append, List.length_map, List.length_range, List.length_replicate]; omega
theorem fillV_get (f : Nat → Wd) {m i : Nat} (h : i < m) : (fillV f m i)[i]? = some [] := by
  rw [fillV, List.getElem?_append_right (by simp), List.length_map, List.length_range, Nat.sub_self, List.getElem?_replicate, if_pos (by omega)]
theorem fillV_set (f : Nat → Wd) {m i : Nat} (h : i < m) : (fillV f m i).set i (f i) = fillV f m (i + 1) := by
  have hl : ((List.range i).map f).length = i := by simp
  have hr : List.replicate (m - i) ([] : Wd) = [] :: List.replicate (m - (i + 1)) [] := by rw [show m - i = (m - (i + 1)) + 1 by omega, List.replicate_succ]
  rw [fillV, fillV, List.set_append_right _ _ (by omega), hl, Nat.sub_self, hr, List.set_cons_zero, List.range_succ, List.map_append]
  simp
theorem fillV_full (f : Nat → Wd) (m : Nat) : fillV f m m = (List.range m).map f := by simp [fillV]
theorem map_const (m : Nat) (x : Wd) : (List.range m).map (fun _ => x) = List.replicate m x := by
  rw [List.map_const', List.length_range]
end Go.Proofs
end
section
namespace Go.Proofs
open Go.Sy
set_option maxRecDepth 20000
set_option maxHeartbeats 4000000
end Go.Proofs
end
section
namespace Go.Proofs
open Go.Sy
set_option maxRecDepth 20000
set_option maxHeartbeats 4000000
theorem list_eq_take {α : Type} [DecidableEq α] {a b : List α} (hl : a.length = b.length) (h : ∀ i < a.length, a[i]? = b[i]?) : a = b := by
  apply List.ext_getElem?
  intro i
  by_cases hi : i < a.length
  · exact h i hi
  · rw [List.getElem?_eq_none (by omega), List.getElem?_eq_none (by omega)]
theorem equal_spec {x y : Wd} {a a2 : Option Addr} {n c n2 k2 : Nat} {H : Hp} {K : Value → Hp → Prop} (ha : RL H a n c x) (hb : RL H a2 n2 k2 y) (hK : K (.bool (decide (x = y))) H) : Does Tryz.prog 208 [.slice a n c, .slice a2 n2 k2] H K := by
  have hn := ha.n_eq
  have hn2 := hb.n_eq
  have hmx := ha.le
  refine spec_of cx_ok cx_mix rfl Tryz.func208 Tryz.call208 Tryz.ntmps208 Tryz.results208 rfl rfl ?_
  refine ⟨fun h => ?_, fun h => ?_⟩
  · have h1 : ¬ n = n2 := by have := nt h; omega
    exact kbool hK (decide_eq_false (fun e => h1 (by rw [hn, hn2, e])))
  · have h1 : n = n2 := by have := nf h; omega
    refine ⟨Nat, fun i => ⟨[(0, .v (.slice a n c)), (1, .v (.slice a2 n2 k2)), (11, .v (.slice a n c)), (12, .v (.int .i64 n)), (13, .v (.int .i64 i))], [], 0⟩,
      fun i H' => H' = H ∧ i ≤ x.length ∧ ∀ j < i, x[j]? = y[j]?, fun i => x.length - i, ⟨0, [], ?_, rfl, Nat.zero_le _, fun j hj => (by cases hj)⟩, ?_⟩
    · (repeat' (first|exact trivial|refine ⟨?_,?_⟩|exact rfl|assumption))
    rintro i H1 _ ⟨rfl, hi, hx⟩
    refine ⟨fun h => ?_, fun h => ?_⟩
    · have hlt : i < x.length := by have := dt h; omega
      have hlt2 : i < y.length := by omega
      have ex := List.getElem?_eq_getElem hlt
      have ey := List.getElem?_eq_getElem hlt2
      refine word_k ha ex fun ad q1 hh _ => ?_
      refine word_k hb ey fun ad2 q2 hh2 _ => ?_
      refine ⟨some ([], [0, 1, 2, 3, 4, 5, 6, 7, 8]), by kernel_rfl, ?_⟩
      refine ⟨ad, ⟨by omega, by omega, q1⟩, ?_⟩
      refine ⟨_, hh, ?_⟩
      refine ⟨ad2, ⟨by omega, by omega, q2⟩, ?_⟩
      refine ⟨_, hh2, ?_⟩
      refine ⟨fun h => ?_, fun h => ?_⟩
      · have hne : ¬ x[i].toNat = y[i].toNat := by have := nt h; omega
        exact kbool hK (decide_eq_false (fun e => hne (by subst e; rfl)))
      · have heq : x[i] = y[i] := UInt64.toNat_inj.1 (by have := nf h; omega)
        refine ⟨⟨by omega, by omega⟩, i + 1, [], ?_, ⟨rfl, hlt, fun j hj => ?_⟩, by dsimp only; omega⟩
        · (repeat' (first|exact trivial|refine ⟨?_,?_⟩|exact rfl|assumption))
        · rcases Nat.lt_succ_iff_lt_or_eq.1 hj with h | h
          · exact hx j h
          · rw [h, ex, ey, heq]
    · have hil : i = x.length := by have := df h; omega
      exact kbool hK (decide_eq_true (list_eq_take (by omega) (fun j hj => hx j (by omega))))
theorem equalF_spec {A B : List Wd} {a a2 : Option Addr} {n c n2 k2 : Nat} {H : Hp} {K : SV → St → Hp → Prop} (ha : RL H a n c A) (hb : RL H a2 n2 k2 B) (hK : K (.v (.bool (decide (A = B)))) ⟨[], [], 0⟩ H) :
    DoesG Tryz.prog 207 [.v (.slice a n c), .v (.slice a2 n2 k2), .fn 208 []] [] 0 H K := by
  have hn := ha.n_eq
  have hn2 := hb.n_eq
  have hmx := ha.le
  have hF : ¬ A = B → K (.v (.bool false)) ⟨[], [], 0⟩ H := fun h => by rw [decide_eq_false h] at hK; exact hK
  refine spec_ofG cx_ok cx_mix Tryz.func207 Tryz.call207 Tryz.ntmps207 Tryz.results207 rfl rfl ?_
  refine ⟨fun h => ?_, fun h => ?_⟩
  · have h1 : ¬ n = n2 := by have := nt h; omega
    exact ⟨.v (.bool false), [], 0, [], by (repeat' (first|exact trivial|refine ⟨?_,?_⟩|exact rfl|assumption)), hF (fun e => h1 (by rw [hn, hn2, e]))⟩
  · have h1 : n = n2 := by have := nf h; omega
    refine ⟨Nat, fun i => ⟨[(1, .v (.slice a2 n2 k2)), (2, .fn 208 []), (15, .v (.slice a n c)), (16, .v (.int .i64 n)), (17, .v (.int .i64 i))], [], 0⟩,
      fun i H' => H' = H ∧ i ≤ A.length ∧ ∀ j < i, A[j]? = B[j]?, fun i => A.length - i, ⟨0, [], ?_, rfl, Nat.zero_le _, fun j hj => (by cases hj)⟩, ?_⟩
    · (repeat' (first|exact trivial|refine ⟨?_,?_⟩|exact rfl|assumption))
    rintro i H1 _ ⟨rfl, hi, hx⟩
    refine ⟨fun h => ?_, fun h => ?_⟩
    · have hlt : i < A.length := by have := dt h; omega
      have hlt2 : i < B.length := by omega
      have ex := List.getElem?_eq_getElem hlt
      have ey := List.getElem?_eq_getElem hlt2
      refine list_k ha ex fun ad a5 n5 c5 q1 hh hr1 => ?_
      refine list_k hb ey fun ad2 a6 n6 c6 q2 hh2 hr2 => ?_
      refine ⟨ad, ⟨by omega, by omega, q1⟩, ?_⟩
      refine ⟨_, hh, ?_⟩
      refine ⟨ad2, ⟨by omega, by omega, q2⟩, ?_⟩
      refine ⟨_, hh2, ?_⟩
      refine equal_spec hr1 hr2 ?_
      refine ⟨fun h => ?_, fun h => ?_⟩
      · have hne : ¬ A[i] = B[i] := nt h
        exact ⟨.v (.bool false), [], 0, [], by (repeat' (first|exact trivial|refine ⟨?_,?_⟩|exact rfl|assumption)), hF (fun e => hne (by subst e; rfl))⟩
      · have heq : A[i] = B[i] := nf h
        refine ⟨⟨by omega, by omega⟩, i + 1, [], ?_, ⟨rfl, hlt, fun j hj => ?_⟩, by dsimp only; omega⟩
        · (repeat' (first|exact trivial|refine ⟨?_,?_⟩|exact rfl|assumption))
        · rcases Nat.lt_succ_iff_lt_or_eq.1 hj with h | h
          · exact hx j h
          · rw [h, ex, ey, heq]
    · have hil : i = A.length := by have := df h; omega
      rw [decide_eq_true (list_eq_take (by omega) (fun j hj => hx j (by omega)))] at hK
      exact ⟨.v (.bool true), [], 0, [], by (repeat' (first|exact trivial|refine ⟨?_,?_⟩|exact rfl|assumption)), hK⟩
theorem lsame_spec {A B : List Wd} {a a2 : Option Addr} {n c n2 k2 : Nat} {H : Hp} {K : Value → Hp → Prop} (ha : RL H a n c A) (hb : RL H a2 n2 k2 B) (hK : K (.bool (decide (A = B))) H) : Does Tryz.prog 166 [.slice a n c, .slice a2 n2 k2] H K := by
  refine spec_of cx_ok cx_mix rfl Tryz.func166 Tryz.call166 Tryz.ntmps166 Tryz.results166 rfl rfl ?_
  refine ⟨[], rfl, equalF_spec ha hb ?_⟩
  exact hK
def mixV (f : Nat → Wd) (b : Wd) (m i : Nat) : List Wd := (List.range m).map fun v => if v < i then f v else b
theorem mixV_get (f : Nat → Wd) (b : Wd) {m i : Nat} (h : i < m) : (mixV f b m i)[i]? = some b := by
  rw [mixV, List.getElem?_map, List.getElem?_range h]; simp
theorem mixV_set (f : Nat → Wd) (b : Wd) {m i : Nat} (_ : i < m) : (mixV f b m i).set i (f i) = mixV f b m (i + 1) := by
  apply List.ext_getElem?
  intro j
  rw [List.getElem?_set]
  have hl : (mixV f b m i).length = m := by simp [mixV]
  split
  · rename_i e
    subst e
    rw [if_pos (by omega), mixV, List.getElem?_map, List.getElem?_range (by omega)]
    simp
  · rename_i e
    rw [mixV, mixV, List.getElem?_map, List.getElem?_map]
    by_cases hj : j < m
    · rw [List.getElem?_range hj]
      simp only [Option.map_some, Option.some.injEq]
      by_cases h1 : j < i
      · rw [if_pos h1, if_pos (by omega)]
      · rw [if_neg h1, if_neg (by omega)]
    · rw [List.getElem?_eq_none (by simpa using hj)]; rfl
theorem mixV_zero (f : Nat → Wd) (b : Wd) (m : Nat) : mixV f b m 0 = List.replicate m b := by
  rw [mixV, ← map_const]; simp
theorem mixV_full (f : Nat → Wd) (b : Wd) (m : Nat) : mixV f b m m = (List.range m).map f := by
  apply List.map_congr_left
  intro v hv
  rw [if_pos (List.mem_range.1 hv)]
theorem rc_one {H : Hp} {css : List (List Value)} {A : List Wd} (h : RC (α := Wd) H css A) : ∀ y ∈ css, y.length = 1 ∧ ∀ u ∈ y, u.oneCell' = true := by
  intro y hy
  obtain ⟨i, hi⟩ := List.getElem?_of_mem hy
  have hlt := (List.getElem?_eq_some_iff.1 hi).1
  have hcl : css.length = A.length := h.1
  have := h.2 i y (A[i]'(by omega)) hi (List.getElem?_eq_getElem _)
  exact ⟨Enc.len this, Enc.one this⟩
end Go.Proofs
end
section
namespace Go.Proofs
open Go.Sy
set_option maxRecDepth 20000
set_option maxHeartbeats 4000000
theorem same10_spec {x y : Wd} {a a2 : Option Addr} {n c n2 k2 : Nat} {H : Hp} {K : Value → Hp → Prop} (ha : RL H a n c x) (hb : RL H a2 n2 k2 y) (hK : K (.bool (decide (x = y))) H) : Does Tryz.prog 57 [.slice a n c, .slice a2 n2 k2] H K := by
  have hn := ha.n_eq
  have hn2 := hb.n_eq
  have hmx := ha.le
  refine spec_of cx_ok cx_mix rfl Tryz.func57 Tryz.call57 Tryz.ntmps57 Tryz.results57 rfl rfl ?_
  refine ⟨fun h => ?_, fun h => ?_⟩
  · have h1 : ¬ n = n2 := by have := nt h; omega
    exact kbool hK (decide_eq_false (fun e => h1 (by rw [hn, hn2, e])))
  · have h1 : n = n2 := by have := nf h; omega
    refine ⟨Nat, fun i => ⟨[(0, .v (.slice a n c)), (1, .v (.slice a2 n2 k2)), (11, .v (.slice a n c)), (12, .v (.int .i64 n)), (13, .v (.int .i64 i))], [], 0⟩,
      fun i H' => H' = H ∧ i ≤ x.length ∧ ∀ j < i, x[j]? = y[j]?, fun i => x.length - i, ⟨0, [], ?_, rfl, Nat.zero_le _, fun j hj => (by cases hj)⟩, ?_⟩
    · (repeat' (first|exact trivial|refine ⟨?_,?_⟩|exact rfl|assumption))
    rintro i H1 _ ⟨rfl, hi, hx⟩
    refine ⟨fun h => ?_, fun h => ?_⟩
    · have hlt : i < x.length := by have := dt h; omega
      have hlt2 : i < y.length := by omega
      have ex := List.getElem?_eq_getElem hlt
      have ey := List.getElem?_eq_getElem hlt2
      refine word_k ha ex fun ad q1 hh _ => ?_
      refine word_k hb ey fun ad2 q2 hh2 _ => ?_
      refine ⟨some ([], [0, 1, 2, 3, 4, 5, 6, 7, 8]), by kernel_rfl, ?_⟩
      refine ⟨ad, ⟨by omega, by omega, q1⟩, ?_⟩
      refine ⟨_, hh, ?_⟩
      refine ⟨ad2, ⟨by omega, by omega, q2⟩, ?_⟩
      refine ⟨_, hh2, ?_⟩
      refine ⟨fun h => ?_, fun h => ?_⟩
      · have hne : ¬ x[i].toNat = y[i].toNat := by have := nt h; omega
        exact kbool hK (decide_eq_false (fun e => hne (by subst e; rfl)))
      · have heq : x[i] = y[i] := UInt64.toNat_inj.1 (by have := nf h; omega)
        refine ⟨⟨by omega, by omega⟩, i + 1, [], ?_, ⟨rfl, hlt, fun j hj => ?_⟩, by dsimp only; omega⟩
        · (repeat' (first|exact trivial|refine ⟨?_,?_⟩|exact rfl|assumption))
        · rcases Nat.lt_succ_iff_lt_or_eq.1 hj with h | h
          · exact hx j h
          · rw [h, ex, ey, heq]
    · have hil : i = x.length := by have := df h; omega
      exact kbool hK (decide_eq_true (list_eq_take (by omega) (fun j hj => hx j (by omega))))
theorem same17_spec {A B : List Wd} {a a2 : Option Addr} {n c n2 k2 : Nat} {H : Hp} {K : Value → Hp → Prop} (ha : RL H a n c A) (hb : RL H a2 n2 k2 B) (hK : K (.bool (decide (A = B))) H) : Does Tryz.prog 123 [.slice a n c, .slice a2 n2 k2] H K := by
  have hn := ha.n_eq
  have hn2 := hb.n_eq
  have hmx := ha.le
  refine spec_of cx_ok cx_mix rfl Tryz.func123 Tryz.call123 Tryz.ntmps123 Tryz.results123 rfl rfl ?_
  refine ⟨fun h => ?_, fun h => ?_⟩
  · have h1 : ¬ n = n2 := by have := nt h; omega
    exact kbool hK (decide_eq_false (fun e => h1 (by rw [hn, hn2, e])))
  · have h1 : n = n2 := by have := nf h; omega
    refine ⟨Nat, fun i => ⟨[(0, .v (.slice a n c)), (1, .v (.slice a2 n2 k2)), (11, .v (.slice a n c)), (12, .v (.int .i64 n)), (13, .v (.int .i64 i))], [], 0⟩,
      fun i H' => H' = H ∧ i ≤ A.length ∧ ∀ j < i, A[j]? = B[j]?, fun i => A.length - i, ⟨0, [], ?_, rfl, Nat.zero_le _, fun j hj => (by cases hj)⟩, ?_⟩
    · (repeat' (first|exact trivial|refine ⟨?_,?_⟩|exact rfl|assumption))
    rintro i H1 _ ⟨rfl, hi, hx⟩
    refine ⟨fun h => ?_, fun h => ?_⟩
    · have hlt : i < A.length := by have := dt h; omega
      have hlt2 : i < B.length := by omega
      have ex := List.getElem?_eq_getElem hlt
      have ey := List.getElem?_eq_getElem hlt2
      refine list_k ha ex fun ad a5 n5 c5 q1 hh hr1 => ?_
      refine list_k hb ey fun ad2 a6 n6 c6 q2 hh2 hr2 => ?_
      refine ⟨some ([], [0, 1, 2, 3, 4, 5, 6, 7, 8, 9]), by kernel_rfl, ?_⟩
      refine ⟨ad, ⟨by omega, by omega, q1⟩, ?_⟩
      refine ⟨_, hh, ?_⟩
      refine ⟨ad2, ⟨by omega, by omega, q2⟩, ?_⟩
      refine ⟨_, hh2, ?_⟩
      refine same10_spec hr1 hr2 ?_
      refine ⟨fun h => ?_, fun h => ?_⟩
      · have hne : ¬ A[i] = B[i] := nt h
        exact kbool hK (decide_eq_false (fun e => hne (by subst e; rfl)))
      · have heq : A[i] = B[i] := nf h
        refine ⟨⟨by omega, by omega⟩, i + 1, [], ?_, ⟨rfl, hlt, fun j hj => ?_⟩, by dsimp only; omega⟩
        · (repeat' (first|exact trivial|refine ⟨?_,?_⟩|exact rfl|assumption))
        · rcases Nat.lt_succ_iff_lt_or_eq.1 hj with h | h
          · exact hx j h
          · rw [h, ex, ey, heq]
    · have hil : i = A.length := by have := df h; omega
      exact kbool hK (decide_eq_true (list_eq_take (by omega) (fun j hj => hx j (by omega))))
theorem wd_snoc {H : Hp} {css : List (List Value)} {A : List Wd} (h : RC (α := Wd) H css A) {a : Option Addr} {n c : Nat} {x : Wd} (hx : RL H a n c x) : RC (α := Wd) H (css ++ [[.slice a n c]]) (A ++ [x]) :=
  RC.snoc h (show Enc.R (α := Wd) H [.slice a n c] x from ⟨a, n, c, rfl, hx⟩)
end Go.Proofs
end
section
namespace Go.Proofs
open Go.Sy
set_option maxRecDepth 20000
set_option maxHeartbeats 4000000
def vIdx (p : Prog) (t : Bs8) : Int := idxS t (varsOf p) 0
end Go.Proofs
end
section
namespace Go.Proofs
open Go.Sy
set_option maxRecDepth 20000
set_option maxHeartbeats 4000000
abbrev zSys : List Value := [.int .i64 0, .int .i64 0, .int .i64 0, .slice none 0 0, .slice none 0 0, .slice none 0 0, .slice none 0 0]
abbrev iRow0 : List (List Value) := [[.int .i64 0]]
theorem ints_k {P : Prop} {H : Hp} {v : Value} (h : RowAt H v 1 iRow0) (k : ∀ a n c, v = .slice a n c → RL H a n c [(0 : Int)] → P) : P := by
  obtain ⟨a, n, c, e, hr⟩ := rI_all (l := [0]) h (fun z hz => by rw [List.mem_singleton] at hz; rw [hz]; exact ⟨by omega, by omega⟩)
  exact k a n c e hr
end Go.Proofs
end
section
namespace Go.Proofs
open Go.Sy
set_option maxRecDepth 20000
set_option maxHeartbeats 4000000
theorem insAt_has {i : Nat} {s : Bs8} {l : List Bs8} (_h : i ≤ l.length) : s ∈ insAt i s l ∧ ∀ t ∈ l, t ∈ insAt i s l := by
  rw [insAt]
  refine ⟨by simp, fun t ht => ?_⟩
  rw [← List.take_append_drop i l] at ht
  rcases List.mem_append.1 ht with ht | ht
  · simp [ht]
  · simp [ht]
theorem putS_has {l : List Bs8} (hl : SortedS l) (s : Bs8) : (s ≠ [] → s ∈ putS s l) ∧ ∀ t ∈ l, t ∈ putS s l := by
  by_cases h0 : s = []
  · rw [h0, putS_nil]; exact ⟨fun h => absurd rfl h, fun t h => h⟩
  · obtain ⟨i, hi, h1, h2⟩ := lower hl s
    have e := putS_at h0 hi h1 (fun x hx => h2 x (by
      have hlt := (List.getElem?_eq_some_iff.1 hx).1
      rw [List.drop_eq_getElem_cons hlt, (List.getElem?_eq_some_iff.1 hx).2]
      exact List.mem_cons_self))
    rw [e]
    split
    · rename_i hx
      exact ⟨fun _ => List.mem_of_getElem? hx, fun t h => h⟩
    · have := insAt_has (s := s) hi
      exact ⟨fun _ => this.1, this.2⟩
theorem putAll_has : ∀ (vs : List Bs8) {o : List Bs8}, SortedS o → (∀ s ∈ vs, s ≠ [] → s ∈ putAll vs o) ∧ ∀ t ∈ o, t ∈ putAll vs o
  | [], _, _ => ⟨fun s h => (by cases h), fun t h => h⟩
  | v :: r, o, ho => by
    have h1 := putS_has ho v
    have h2 := putAll_has r (putS_sorted ho v)
    refine ⟨fun s hs h0 => ?_, fun t ht => h2.2 t (h1.2 t ht)⟩
    rcases List.mem_cons.1 hs with rfl | hs
    · exact h2.2 _ (h1.1 h0)
    · exact h2.1 s hs h0
theorem bVars_has : ∀ (l : List Stmt) {o : List Bs8}, SortedS o → (∀ x ∈ l, ∀ s ∈ sVars x, s ≠ [] → s ∈ bVars o l) ∧ ∀ t ∈ o, t ∈ bVars o l
  | [], _, _ => ⟨fun s h => (by cases h), fun t h => h⟩
  | x :: r, o, ho => by
    have h1 := putAll_has (sVars x) ho
    have h2 := bVars_has r (putAll_sorted (sVars x) ho)
    refine ⟨fun y hy s hs h0 => ?_, fun t ht => h2.2 t (h1.2 t ht)⟩
    rcases List.mem_cons.1 hy with rfl | hy
    · exact h2.2 _ (h1.1 s hs h0)
    · exact h2.1 y hy s hs h0
theorem blkVars_sorted {o : List Bs8} (ho : SortedS o) (b : Block) : SortedS (blkVars o b) := putAll_sorted _ (bVars_sorted _ ho)
theorem blkVars_has {o : List Bs8} (ho : SortedS o) (b : Block) : (∀ x ∈ b.2.1, ∀ s ∈ sVars x, s ≠ [] → s ∈ blkVars o b) ∧ (b.2.2.2.1.1.l ≠ [] → b.2.2.2.1.1.l ∈ blkVars o b) ∧ ∀ t ∈ o, t ∈ blkVars o b := by
  have h1 := bVars_has b.2.1 ho
  have h2 := putAll_has [b.2.2.2.1.1.l] (bVars_sorted b.2.1 ho)
  exact ⟨fun x hx s hs h0 => h2.2 s (h1.1 x hx s hs h0), fun h0 => h2.1 _ (List.mem_singleton.2 rfl) h0, fun t ht => h2.2 t (h1.2 t ht)⟩
theorem vars_has : ∀ (p : Prog) {o : List Bs8}, SortedS o → (∀ b ∈ p, (∀ x ∈ b.2.1, ∀ s ∈ sVars x, s ≠ [] → s ∈ p.foldl blkVars o) ∧ (b.2.2.2.1.1.l ≠ [] → b.2.2.2.1.1.l ∈ p.foldl blkVars o)) ∧ ∀ t ∈ o, t ∈ p.foldl blkVars o
  | [], _, _ => ⟨fun s h => (by cases h), fun t h => h⟩
  | b :: r, o, ho => by
    have h1 := blkVars_has ho b
    have h2 := vars_has r (blkVars_sorted ho b)
    refine ⟨fun b' hb => ?_, fun t ht => h2.2 t (h1.2.2 t ht)⟩
    rcases List.mem_cons.1 hb with rfl | hb
    · exact ⟨fun x hx s hs h0 => h2.2 _ (h1.1 x hx s hs h0), fun h0 => h2.2 _ (h1.2.1 h0)⟩
    · exact h2.1 b' hb
theorem nil_sorted : SortedS [] := by simp [SortedS]
theorem idxS_at (t : Bs8) : ∀ (l : List Bs8) (i : Int), 0 ≤ i → t ∈ l → i ≤ idxS t l i ∧ idxS t l i < i + l.length ∧ l[(idxS t l i - i).toNat]? = some t
  | [], _, _, h => by cases h
  | x :: r, i, h0, h => by
    rw [idxS]
    split
    · rename_i e
      refine ⟨Int.le_refl _, by simp only [List.length_cons]; omega, ?_⟩
      rw [show (i - i).toNat = 0 by omega, List.getElem?_cons_zero, e]
    · rename_i e
      rcases List.mem_cons.1 h with h | h
      · exact absurd h.symm e
      · have := idxS_at t r (i + 1) (by omega) h
        simp only [List.length_cons]
        refine ⟨by omega, by omega, ?_⟩
        rw [show (idxS t r (i + 1) - i).toNat = (idxS t r (i + 1) - (i + 1)).toNat + 1 by omega, List.getElem?_cons_succ]
        exact this.2.2
theorem vIdx_mem {p : Prog} {t : Bs8} (h : t ∈ varsOf p) : 0 ≤ vIdx p t ∧ vIdx p t < ((varsOf p).length : Nat) := by
  have := idxS_at t (varsOf p) 0 (by omega) h
  unfold vIdx
  omega
theorem vIdx_stmt {p : Prog} {b : Block} (hb : b ∈ p) {x : Stmt} (hx : x ∈ b.2.1) {t : Bs8} (ht : t ∈ sVars x) (h0 : t ≠ []) : 0 ≤ vIdx p t ∧ vIdx p t < ((varsOf p).length : Nat) :=
  vIdx_mem (((vars_has p nil_sorted).1 b hb).1 x hx t ht h0)
theorem vIdx_term {p : Prog} {b : Block} (hb : b ∈ p) (h0 : b.2.2.2.1.1.l ≠ []) : 0 ≤ vIdx p b.2.2.2.1.1.l ∧ vIdx p b.2.2.2.1.1.l < ((varsOf p).length : Nat) :=
  vIdx_mem (((vars_has p nil_sorted).1 b hb).2 h0)
end Go.Proofs
end
section
namespace Go.Proofs
open Go.Sy
set_option maxRecDepth 20000
set_option maxHeartbeats 4000000
theorem some1_spec {s : Bs8} {H : Hp} {K : Value → Hp → Prop} (hK : K (.bool (!decide (s = []))) H) : Does Tryz.prog 227 [.string (bs s)] H K := by
  refine spec_of cx_ok cx_mix rfl Tryz.func227 Tryz.call227 Tryz.ntmps227 Tryz.results227 rfl rfl ?_
  exact hK
def someL (l : List Bs8) : List Bs8 := l.filter fun s => !decide (s = [])
theorem someL_take {l : List Bs8} {i : Nat} {s : Bs8} (h : l[i]? = some s) : someL (l.take (i + 1)) = if s = [] then someL (l.take i) else someL (l.take i) ++ [s] := by
  rw [someL, List.take_add_one, h, Option.toList_some, List.filter_append]
  by_cases hs : s = []
  · simp [someL, hs]
  · simp [someL, hs]
theorem str_k {P : Prop} {H : Hp} {a : Option Addr} {n c : Nat} {l : List Bs8} (h : RL H a n c (ens l)) {i : Nat} {s : Bs8} (hi : l[i]? = some s) (k : ∀ ad, a = some ad → ElemH H ad (i : Int) 1 [.string (bs s)] → s.length ≤ 9223372036854775807 → P) : P :=
  elem_k h (i := i) (x := (⟨s⟩ : Str)) (by rw [List.getElem?_map, hi]; rfl) fun ad cs h1 h2 h3 => by
    obtain ⟨rfl, h4⟩ := h3
    exact k ad h1 h2 h4
theorem ens_small {H : Hp} {a : Option Addr} {n c : Nat} {l : List Bs8} (h : RL H a n c (ens l)) : ∀ s ∈ l, s.length ≤ 9223372036854775807 := fun s hs => by
  obtain ⟨i, hi⟩ := List.getElem?_of_mem hs
  exact str_k h hi fun _ _ _ h => h
theorem picked_spec {l : List Bs8} (hl : l.length ≤ 100000) {a : Option Addr} {n c : Nat} {H : Hp} {K : SV → St → Hp → Prop} (ha : RL H a n c (ens l)) (hK : K (.own 0) ⟨[], [(0, .row 9 1 (sRows (someL l)))], 1⟩ H) :
    DoesG Tryz.prog 226 [.v (.slice a n c), .fn 227 []] [] 0 H K := by
  have hn1 := ha.n_eq
  rw [List.length_map] at hn1
  refine spec_ofG cx_ok cx_mix Tryz.func226 Tryz.call226 Tryz.ntmps226 Tryz.results226 rfl rfl ?_
  refine ⟨Nat, fun i => ⟨[(1, .fn 227 []), (5, .own 0), (8, .v (.slice a n c)), (9, .v (.int .i64 n)), (10, .v (.int .i64 i))], [(0, .row 9 1 (sRows (someL (l.take i))))], 1⟩,
    fun i H' => H' = H ∧ i ≤ l.length, fun i => l.length - i, ⟨0, [], ?_, rfl, Nat.zero_le _⟩, ?_⟩
  · (repeat' (first|exact trivial|refine ⟨?_,?_⟩|exact rfl|assumption))
  rintro i H1 _ ⟨rfl, hi⟩
  refine ⟨fun h => ?_, fun h => ?_⟩
  · have hlt : i < l.length := by have := dt h; omega
    have hlv := someL_take (List.getElem?_eq_getElem hlt)
    have hlen : (sRows (someL (l.take i))).length ≤ i := by
      rw [List.length_map]
      exact Nat.le_trans (List.length_filter_le _ _) (by rw [List.length_take]; omega)
    refine str_k ha (List.getElem?_eq_getElem hlt) fun ad e1 hh hsz => ?_
    refine ⟨ad, ⟨by omega, by omega, e1⟩, ?_⟩
    refine ⟨_, hh, ?_⟩
    refine some1_spec ?_
    refine ⟨fun h => ?_, fun h => ?_⟩
    · have hne : ¬ l[i] = [] := nt h
      rw [if_neg hne] at hlv
      have e : sRows (someL (l.take i)) ++ [[.string (bs l[i])]] = sRows (someL (l.take (i + 1))) := by rw [hlv, ← sRows_snoc]
      refine ⟨⟨by show (_ + 1) * 16 ≤ 140737488355328; omega, by show _ + 1 ≤ 9223372036854775807; omega⟩, ?_⟩
      refine ⟨⟨by omega, by omega⟩, i + 1, [(0, 2)], ?_, ⟨rfl, hlt⟩, by dsimp only; omega⟩
      (repeat' (first|exact trivial|refine ⟨?_,?_⟩|exact rfl|assumption))
    · have heq : l[i] = [] := nf h
      rw [if_pos heq] at hlv
      have e : sRows (someL (l.take i)) = sRows (someL (l.take (i + 1))) := by rw [hlv]
      refine ⟨⟨by omega, by omega⟩, i + 1, [(0, 0)], ?_, ⟨rfl, hlt⟩, by dsimp only; omega⟩
      (repeat' (first|exact trivial|refine ⟨?_,?_⟩|exact rfl|assumption))
  · have hil : i = l.length := by have := df h; omega
    rw [hil, List.take_length]
    exact ⟨.own 0, [(0, .row 9 1 (sRows (someL l)))], 1, [(0, 0)], by (repeat' (first|exact trivial|refine ⟨?_,?_⟩|exact rfl|assumption)), hK⟩
def nmsOf (l : List Bs8) : List Bs8 := putAll l []
theorem nil_sortedS : SortedS ([] : List Bs8) := List.Pairwise.nil
theorem putAll_some : ∀ (vs : List Bs8) {o : List Bs8}, ¬ [] ∈ o → ¬ [] ∈ putAll vs o
  | [], _, h => h
  | v :: r, o, h => by
    refine putAll_some r (o := putS v o) fun hm => ?_
    by_cases hv : v = []
    · rw [hv, putS_nil] at hm; exact h hm
    · rcases putS_mem hm with hm | hm
      · exact h hm
      · exact hv hm.symm
theorem nmsOf_mem {l : List Bs8} {t : Bs8} : t ∈ nmsOf l ↔ t ∈ l ∧ t ≠ [] := by
  constructor
  · intro h
    refine ⟨(putAll_mem l h).resolve_left (by simp), fun e => ?_⟩
    subst e
    exact putAll_some l (o := []) (by simp) h
  · intro h
    exact (putAll_has l nil_sortedS).1 t h.1 h.2
theorem nmsOf_gSort (l : List Bs8) : gSort (someL l) = nmsOf l := by
  refine (gSort_eq (l' := nmsOf l) ?_ fun t => ?_).symm
  · exact putAll_sorted l nil_sortedS
  · rw [nmsOf_mem, someL, List.mem_filter]
    simp
theorem lsorted_spec {l : List Bs8} (hl : l.length ≤ 100000) {a : Option Addr} {n c : Nat} {H : Hp} {K : Value → Hp → Prop} (ha : RL H a n c (ens l)) (hK : ∀ a1 n1 c1 H', Le H H' → RL H' a1 n1 c1 (ens (nmsOf l)) → K (.slice a1 n1 c1) H') :
    Does Tryz.prog 187 [.slice a n c] H K := by
  have hsm := ens_small ha
  have hle : (someL l).length ≤ l.length := List.length_filter_le _ _
  refine spec_of cx_ok cx_mix rfl Tryz.func187 Tryz.call187 Tryz.ntmps187 Tryz.results187 rfl rfl ?_
  refine ⟨[], rfl, picked_spec hl ha ?_⟩
  refine ⟨[0], rfl, sortS_spec (l := someL l) (by omega) fun l' hl' hp hg => ?_⟩
  refine ⟨[0], rfl, compS_spec (l := l') (by omega) ?_⟩
  rw [hg, nmsOf_gSort]
  intro v H6 hle6 hv6
  obtain ⟨a7, n7, c7, rfl, hr7⟩ := RL.of_row (α := Str) hv6 (rc_sRows fun s hs => hsm s (nmsOf_mem.1 hs).1)
  exact hK _ _ _ _ hle6.le hr7
end Go.Proofs
end
section
namespace Go.Proofs
open Go.Sy
set_option maxRecDepth 20000
set_option maxHeartbeats 4000000
def useL (x : Stmt) : List Bs8 := if x.1 = 1 then (atomsOf x.2.2).map (fun a => a.1.l) else if x.1 = 3 then [x.2.2.2.1.1.l] else []
def usesS (x : Stmt) : List Bs8 := nmsOf (useL x)
theorem atomsOf_lenU (x : Expr) : (atomsOf x).length ≤ 2 := by
  unfold atomsOf
  split
  · simp
  · split <;> simp
theorem useL_len (x : Stmt) : (useL x).length ≤ 2 := by
  unfold useL
  split
  · rw [List.length_map]; exact atomsOf_lenU _
  · split <;> simp
theorem luses_spec {x : Stmt} (hx : stmtR x) {H : Hp} {K : Value → Hp → Prop} (hK : ∀ a1 n1 c1 H', Le H H' → RL H' a1 n1 c1 (ens (usesS x)) → K (.slice a1 n1 c1) H') :
    Does Tryz.prog 134 [stmtA x] H K := by
  have hsm : ∀ s ∈ useL x, s.length ≤ 9223372036854775807 := fun s hs => by
    unfold useL at hs
    split at hs
    · obtain ⟨y, hy, rfl⟩ := List.mem_map.1 hs
      exact (atomsOf_R hx.2.2 y hy).1
    · split at hs
      · rw [List.mem_singleton.1 hs]; exact hx.2.2.2.1.1
      · cases hs
  have hlen := useL_len x
  refine spec_of cx_ok cx_mix rfl Tryz.func134 Tryz.call134 Tryz.ntmps134 Tryz.results134 rfl rfl ?_
  refine ⟨fun h => ?_, fun h => ?_⟩
  · have hk : x.1 = 1 := dt h
    have hu : useL x = (atomsOf x.2.2).map (fun a => a.1.l) := if_pos hk
    refine patoms_spec hx.2.2 fun a n c H1 hle1 hr1 => ?_
    have hn1 := hr1.n_eq
    have hal := atomsOf_lenU x.2.2
    refine ⟨Nat, fun i => ⟨[(3, .own 0), (12, .v (.slice a n c)), (13, .v (.int .i64 n)), (14, .v (.int .i64 i))], [(0, .row 9 1 (sRows ((useL x).take i)))], 1⟩,
      fun i H' => H' = H1 ∧ i ≤ (atomsOf x.2.2).length, fun i => (atomsOf x.2.2).length - i, ⟨0, [], ?_, rfl, Nat.zero_le _⟩, ?_⟩
    · (repeat' (first|exact trivial|refine ⟨?_,?_⟩|exact rfl|assumption))
    rintro i H2 _ ⟨rfl, hi⟩
    have hrl : (sRows ((useL x).take i)).length ≤ 2 := by rw [List.length_map, List.length_take]; omega
    refine ⟨fun h => ?_, fun h => ?_⟩
    · have hlt : i < (atomsOf x.2.2).length := by have := dt h; omega
      have hui : (useL x)[i]? = some (atomsOf x.2.2)[i].1.l := by rw [hu, List.getElem?_map, List.getElem?_eq_getElem hlt]; rfl
      have e : sRows ((useL x).take i) ++ [[.string (bs (atomsOf x.2.2)[i].1.l)]] = sRows ((useL x).take (i + 1)) := by
        rw [List.take_add_one, hui, Option.toList_some, ← sRows_snoc]
      refine atom_k hr1 (List.getElem?_eq_getElem hlt) fun ad e1 hh _ => ?_
      refine ⟨ad, ⟨by omega, by omega, e1⟩, ?_⟩
      refine ⟨_, hh, ?_⟩
      refine ⟨⟨by show (_ + 1) * 16 ≤ 140737488355328; omega, by show _ + 1 ≤ 9223372036854775807; omega⟩, ?_⟩
      refine ⟨⟨by omega, by omega⟩, i + 1, [(0, 3)], ?_, ⟨rfl, hlt⟩, by dsimp only; omega⟩
      (repeat' (first|exact trivial|refine ⟨?_,?_⟩|exact rfl|assumption))
    · have hil : i = (atomsOf x.2.2).length := by have := df h; omega
      have e : (useL x).take i = useL x := List.take_of_length_le (by rw [hu, List.length_map]; omega)
      rw [e]
      intro v H6 hle6 hv6
      obtain ⟨a7, n7, c7, rfl, hr7⟩ := RL.of_row (α := Str) hv6 (rc_sRows hsm)
      refine lsorted_spec (l := useL x) (by omega) hr7 fun a1 n1 c1 H7 hle7 hr => ?_
      exact hK _ _ _ _ ((hle1.trans hle6.le).trans hle7) hr
  · have hk : ¬ x.1 = 1 := df h
    refine ⟨fun h => ?_, fun h => ?_⟩
    · have hk3 : x.1 = 3 := dt h
      have hu : useL x = [x.2.2.2.1.1.l] := by rw [useL, if_neg hk, if_pos hk3]
      refine ⟨⟨by show 1 * 16 ≤ 140737488355328; decide, by show 1 ≤ 9223372036854775807; decide⟩, ?_⟩
      intro v H6 hle6 hv6
      have hv7 : RowAt H6 v 1 (sRows (useL x)) := by rw [hu]; exact hv6
      obtain ⟨a7, n7, c7, rfl, hr7⟩ := RL.of_row (α := Str) hv7 (rc_sRows hsm)
      refine lsorted_spec (l := useL x) (by omega) hr7 fun a1 n1 c1 H7 hle7 hr => ?_
      exact hK _ _ _ _ (hle6.le.trans hle7) hr
    · have hk3 : ¬ x.1 = 3 := df h
      have hu : useL x = [] := by rw [useL, if_neg hk, if_neg hk3]
      refine lsorted_spec (l := []) (by decide) rl_nil fun a1 n1 c1 H7 hle7 hr => ?_
      rw [usesS, hu] at hK
      exact hK _ _ _ _ hle7 hr
end Go.Proofs
end
section
namespace Go.Proofs
open Go.Sy
set_option maxRecDepth 20000
set_option maxHeartbeats 4000000
def askB (a : Atm) : Block := (⟨[]⟩, [], (0, a, ⟨[]⟩, ⟨[]⟩))
def useA (x : Stmt) : List Atm := if x.1 = 1 then atomsOf x.2.2 else if x.1 = 3 then [x.2.2.2.1] else []
theorem useL_A (x : Stmt) : useL x = (useA x).map (fun a => a.1.l) := by
  unfold useL useA
  split
  · rfl
  · split <;> rfl
def askP (x : Stmt) : Prog := (askB (⟨[]⟩, 0, 0)) :: (useA x).map askB
theorem askP_vars (x : Stmt) : varsOf (askP x) = usesS x := by
  rw [usesS, nmsOf, useL_A]
  have h : ∀ (l : List Atm) (o : List Bs8), (l.map askB).foldl blkVars o = putAll (l.map fun a => a.1.l) o := by
    intro l
    induction l with
    | nil => exact fun _ => rfl
    | cons a r ih => intro o; rw [List.map_cons, List.map_cons, List.foldl_cons, ih]; rfl
  rw [askP, varsOf, List.foldl_cons, h]
  rfl
abbrev askV (a : Atm) : List Value := [.string (bs []), .slice none 0 0, .int .i64 0, .string (bs a.1.l), .int .i64 a.2.1, .int .i64 a.2.2, .string (bs []), .string (bs [])]
theorem askV_rc {H : Hp} : ∀ {l : List Atm}, (∀ a ∈ l, atmR a) → RC (α := Block) H (l.map askV) (l.map askB) := by
  intro l h
  refine ⟨by rw [List.length_map, List.length_map], fun i cs b h1 h2 => ?_⟩
  rw [List.getElem?_map] at h1 h2
  cases h3 : l[i]? with
  | none => rw [h3] at h1; cases h1
  | some a =>
    rw [h3] at h1 h2
    cases h1; cases h2
    have ha := h a (List.mem_of_getElem? h3)
    exact block_mk (b := askB a) rl_nil (Nat.zero_le _) ⟨⟨by show (_ : Int) ≤ 0; decide, by show (0 : Int) ≤ _; decide⟩, ha, Nat.zero_le _, Nat.zero_le _⟩
abbrev aZ : Atm := (⟨[]⟩, 0, 0)
theorem ruses_spec {x : Stmt} (hx : stmtR x) {H : Hp} {K : Value → Hp → Prop} (hK : ∀ a1 n1 c1 H', Le H H' → RL H' a1 n1 c1 (ens (usesS x)) → K (.slice a1 n1 c1) H') :
    Does Tryz.prog 82 [stmtA x] H K := by
  rw [← askP_vars] at hK
  have hal := atomsOf_lenU x.2.2
  have hZ : atmR aZ := ⟨Nat.zero_le _, ⟨by show (_ : Int) ≤ 0; decide, by show (0 : Int) ≤ _; decide⟩, ⟨by show (_ : Int) ≤ 0; decide, by show (0 : Int) ≤ _; decide⟩⟩
  have hmem : ∀ a ∈ aZ :: useA x, atmR a := fun a ha => by
    rcases List.mem_cons.1 ha with rfl | ha
    · exact hZ
    · unfold useA at ha
      split at ha
      · exact atomsOf_R hx.2.2 a ha
      · split at ha
        · rw [List.mem_singleton.1 ha]; exact hx.2.2.2.1
        · cases ha
  have hul : (useA x).length ≤ 2 := by
    unfold useA
    split
    · exact hal
    · split <;> simp
  have hcnt : cnt (askP x) < 400000 := by
    have h : ∀ (l : List Atm), ((l.map askB).map fun b : Block => 3 * b.2.1.length + 1).sum = l.length := fun l => by
      induction l with
      | nil => rfl
      | cons a r ih => simp only [List.map_cons, List.sum_cons, ih, List.length_cons]; show 3 * 0 + 1 + _ = _; omega
    have h2 := h (aZ :: useA x)
    rw [List.length_cons] at h2
    have h3 : cnt (askP x) = ((List.map askB (aZ :: useA x)).map fun b : Block => 3 * b.2.1.length + 1).sum := rfl
    omega
  have fin : ∀ (H1 : Hp), Le H H1 → ∀ v H6, Le H1 H6 → RowAt H6 v 8 ((aZ :: useA x).map askV) → ∃ a n c, v = .slice a n c ∧ RL H6 a n c (askP x) := fun H1 hle1 v H6 hle6 hv6 =>
    RL.of_row (α := Block) hv6 (askV_rc hmem)
  refine spec_of cx_ok cx_mix rfl Tryz.func82 Tryz.call82 Tryz.ntmps82 Tryz.results82 rfl rfl ?_
  refine ⟨fun h => ?_, fun h => ?_⟩
  · have hk : x.1 = 1 := dt h
    have hu : useA x = atomsOf x.2.2 := if_pos hk
    refine ratoms_spec hx.2.2 fun a n c H1 hle1 hr1 => ?_
    have hn1 := hr1.n_eq
    refine ⟨Nat, fun i => ⟨[(1, .ptr 0 0), (3, .ptr 2 0), (14, .v (.slice a n c)), (15, .v (.int .i64 n)), (16, .v (.int .i64 i))], [(0, .cells 103 (vL (stmtV x))), (1, .row 57 8 ((aZ :: (useA x).take i).map askV)), (2, .cells 24 [.own 1])], 3⟩,
      fun i H' => H' = H1 ∧ i ≤ (atomsOf x.2.2).length, fun i => (atomsOf x.2.2).length - i, ⟨0, [(0, 0), (1, 1), (2, 2)], ?_, rfl, Nat.zero_le _⟩, ?_⟩
    · (repeat' (first|exact trivial|refine ⟨?_,?_⟩|exact rfl|assumption))
    rintro i H2 _ ⟨rfl, hi⟩
    have hrl : ((aZ :: (useA x).take i).map askV).length ≤ 3 := by rw [List.length_map, List.length_cons, List.length_take]; omega
    refine ⟨fun h => ?_, fun h => ?_⟩
    · have hlt : i < (atomsOf x.2.2).length := by have := dt h; omega
      have hui : (useA x)[i]? = some (atomsOf x.2.2)[i] := by rw [hu, List.getElem?_eq_getElem hlt]
      have e : (aZ :: (useA x).take i).map askV ++ [askV (atomsOf x.2.2)[i]] = (aZ :: (useA x).take (i + 1)).map askV := by
        rw [List.take_add_one, hui, Option.toList_some, List.map_cons, List.map_cons, List.map_append]; rfl
      refine atom_k hr1 (List.getElem?_eq_getElem hlt) fun ad e1 hh _ => ?_
      refine ⟨ad, ⟨by omega, by omega, e1⟩, ?_⟩
      refine ⟨_, hh, ?_⟩
      refine ⟨⟨by show (_ + 1) * 112 ≤ 140737488355328; omega, by show _ + 1 ≤ 9223372036854775807; omega⟩, ?_⟩
      refine ⟨⟨by omega, by omega⟩, i + 1, [(0, 0), (1, 5), (2, 2)], ?_, ⟨rfl, hlt⟩, by dsimp only; omega⟩
      (repeat' (first|exact trivial|refine ⟨?_,?_⟩|exact rfl|assumption))
    · have hil : i = (atomsOf x.2.2).length := by have := df h; omega
      have e : (useA x).take i = useA x := List.take_of_length_le (by rw [hu]; omega)
      rw [e]
      refine ⟨fun h => absurd (dt h) (by omega), fun _ => ?_⟩
      intro v H6 hle6 hv6
      obtain ⟨a7, n7, c7, rfl, hr7⟩ := fin H2 hle1 v H6 hle6.le hv6
      refine rvars_spec hr7 hcnt fun a1 n1 c1 H7 hle7 hr => ?_
      exact hK _ _ _ _ ((hle1.trans hle6.le).trans hle7) hr
  · have hk : ¬ x.1 = 1 := df h
    refine ⟨fun h => ?_, fun h => ?_⟩
    · have hk3 : x.1 = 3 := dt h
      have hu : useA x = [x.2.2.2.1] := by rw [useA, if_neg hk, if_pos hk3]
      refine ⟨⟨by show (1 + 1) * 112 ≤ 140737488355328; decide, by show 1 + 1 ≤ 9223372036854775807; decide⟩, ?_⟩
      intro v H6 hle6 hv6
      obtain ⟨a7, n7, c7, rfl, hr7⟩ := fin H (Le.refl H) v H6 hle6.le (by rw [hu]; exact hv6)
      refine rvars_spec hr7 hcnt fun a1 n1 c1 H7 hle7 hr => ?_
      exact hK _ _ _ _ (hle6.le.trans hle7) hr
    · have hk3 : ¬ x.1 = 3 := df h
      have hu : useA x = [] := by rw [useA, if_neg hk, if_neg hk3]
      intro v H6 hle6 hv6
      obtain ⟨a7, n7, c7, rfl, hr7⟩ := fin H (Le.refl H) v H6 hle6.le (by rw [hu]; exact hv6)
      refine rvars_spec hr7 hcnt fun a1 n1 c1 H7 hle7 hr => ?_
      exact hK _ _ _ _ (hle6.le.trans hle7) hr
end Go.Proofs
end
section
namespace Go.Proofs
open Go.Sy
set_option maxRecDepth 20000
set_option maxHeartbeats 4000000
theorem exprB_op {x : Expr} (h : exprB x = true) : 0 ≤ x.1 ∧ x.1 ≤ 4 := by
  unfold exprB at h
  split at h
  · rename_i h1
    simp only [op1, Bool.or_eq_true, decide_eq_true_eq] at h1
    omega
  · split at h
    · rename_i h1
      simp only [op2, Bool.or_eq_true, decide_eq_true_eq] at h1
      omega
    · cases h
theorem check_facts {p : Prog} (h : checkE p = 0) : 1 ≤ p.length ∧ p.length ≤ 128 ∧ (varsOf p).length ≤ 64 ∧ ∀ b ∈ p, blockB b = true := by
  unfold checkE at h
  split at h
  · cases h
  · rename_i h0
    split at h
    · rename_i h1
      split at h
      · cases h
      · refine ⟨by omega, by omega, by omega, fun b hb => List.all_eq_true.1 h1 b hb⟩
    · cases h
theorem eN_lt {p : Prog} {i : Nat} {t : Bs8} : ∀ e ∈ eN p i t, e.1 = (i : Int) ∧ 0 ≤ e.2 ∧ e.2 < (p.length : Nat) := by
  intro e he
  unfold eN at he
  have hr := idxS_range t (nms p) 0 (by omega)
  rw [List.length_map] at hr
  split at he
  · rename_i h0
    simp only [List.mem_cons, List.not_mem_nil, or_false] at he
    subst he
    exact ⟨rfl, h0, by dsimp only; omega⟩
  · simp at he
theorem eB_lt {p : Prog} {i : Nat} {b : Block} : ∀ e ∈ eB p i b, e.1 = (i : Int) ∧ 0 ≤ e.2 ∧ e.2 < (p.length : Nat) := by
  intro e he
  unfold eB at he
  rcases List.mem_append.1 he with he | he
  · split at he
    · exact eN_lt e he
    · cases he
  · split at he
    · exact eN_lt e he
    · cases he
theorem eAll_lt {p : Prog} : ∀ (l : List Block) (i : Nat), ∀ e ∈ eAll p l i, ((i : Int) ≤ e.1 ∧ e.1 < ((i + l.length : Nat) : Int)) ∧ 0 ≤ e.2 ∧ e.2 < (p.length : Nat)
  | [], _, e, he => by simp [eAll] at he
  | b :: r, i, e, he => by
    rw [eAll] at he
    rcases List.mem_append.1 he with he | he
    · have h := eB_lt e he
      rw [List.length_cons]
      exact ⟨⟨by omega, by omega⟩, h.2⟩
    · have h := eAll_lt r (i + 1) e he
      rw [List.length_cons]
      exact ⟨⟨by omega, by omega⟩, h.2⟩
end Go.Proofs
end
section
namespace Go.Proofs
open Go.Sy
set_option maxRecDepth 20000
set_option maxHeartbeats 4000000
end Go.Proofs
end
section
namespace Go.Proofs
open Go.Sy
set_option maxRecDepth 20000
set_option maxHeartbeats 4000000
end Go.Proofs
end
section
namespace Go.Proofs
open Go.Sy
set_option maxRecDepth 20000
set_option maxHeartbeats 4000000
end Go.Proofs
end
section
namespace Go.Proofs
open Go.Sy
set_option maxRecDepth 20000
set_option maxHeartbeats 4000000
theorem stmtB_var {s : Stmt} (h : stmtB s = true) : (s.1 = 1 ∧ 0 ≤ s.2.2.1 ∧ s.2.2.1 ≤ 4 ∧ s.2.1.l ≠ []) ∨ (s.1 = 2 ∧ s.2.1.l ≠ []) ∨ (s.1 = 3 ∧ s.2.1.l = []) := by
  have hn : ∀ t : Bs8, nmB t = true → t ≠ [] := fun t ht e => by rw [e] at ht; exact absurd ht (by decide)
  unfold stmtB at h
  split at h
  · rename_i h1
    rw [Bool.and_eq_true] at h
    have := exprB_op h.2
    exact .inl ⟨h1, this.1, this.2, hn _ h.1⟩
  · split at h
    · rename_i h1
      rw [Bool.and_eq_true] at h
      exact .inr (.inl ⟨h1, hn _ h.1⟩)
    · split at h
      · rename_i h1
        rw [Bool.and_eq_true, Bool.and_eq_true] at h
        exact .inr (.inr ⟨h1, dt h.1.1⟩)
      · cases h
end Go.Proofs
end
section
namespace Go.Proofs
open Go.Sy
set_option maxRecDepth 20000
set_option maxHeartbeats 4000000
end Go.Proofs
end
section
namespace Go.Proofs
open Go.Sy
set_option maxRecDepth 20000
set_option maxHeartbeats 4000000
end Go.Proofs
end
section
namespace Go.Proofs
open Go.Sy
set_option maxRecDepth 20000
set_option maxHeartbeats 4000000
end Go.Proofs
end
section
namespace Go.Proofs
open Go.Sy
set_option maxRecDepth 20000
set_option maxHeartbeats 4000000
end Go.Proofs
end
section
namespace Go.Proofs
open Go.Sy
set_option maxRecDepth 20000
set_option maxHeartbeats 4000000
abbrev stV (s : Stmt) : List Value := .int .i64 s.1 :: .string (bs s.2.1.l) :: .int .i64 s.2.2.1 :: (atmV s.2.2.2.1 ++ atmV s.2.2.2.2)
structure FamI (H H' : Hp) (vs : List Value) (p : Prog) : Prop where
  len : vs.length = p.length
  new : ∀ (i : Nat) (v : Value) (b : Block), vs[i]? = some v → p[i]? = some b → NewAt 103 9 (b.2.1.map stV) H v H'
  dis : vs.Pairwise fun v u => ∀ g, v.ownBlock = some g → u.ownBlock ≠ some g
theorem newAt_up {e : TypeId} {sz : Nat} {xs : List (List Value)} {H H2 H3 : Hp} {x : Value} (h : NewAt e sz xs H x H2) (hle : Le H2 H3) : NewAt e sz xs H x H3 := by
  rcases h with h1 | ⟨g, cap, c, h1, h2, h3, h4⟩
  · exact .inl h1
  · exact .inr ⟨g, cap, c, h1, h2, hle _ _ h3, h4⟩
theorem newAt_down {e : TypeId} {sz : Nat} {xs : List (List Value)} {H H1 H2 : Hp} {x : Value} (h : NewAt e sz xs H1 x H2) (hle : Le H H1) : NewAt e sz xs H x H2 := by
  rcases h with h1 | ⟨g, cap, c, h1, h2, h3⟩
  · exact .inl h1
  · refine .inr ⟨g, cap, c, h1, ?_, h3⟩
    cases hg : H g with
    | none => rfl
    | some o => rw [hle _ _ hg] at h2; cases h2
theorem FamI.up {H H' H2 : Hp} {vs : List Value} {p : Prog} (h : FamI H H' vs p) (hle : Le H' H2) : FamI H H2 vs p := ⟨h.len, fun i v b h1 h2 => newAt_up (h.new i v b h1 h2) hle, h.dis⟩
theorem FamI.snoc {H H1 H2 : Hp} {vs : List Value} {p : Prog} (h : FamI H H1 vs p) (hle0 : Le H H1) {v : Value} {b : Block} (hv : LeN 103 9 (b.2.1.map stV) H1 v H2) : FamI H H2 (vs ++ [v]) (p ++ [b]) := by
  refine ⟨by rw [List.length_append, List.length_append, h.len]; rfl, fun i u c h1 h2 => ?_, ?_⟩
  · rw [List.getElem?_append] at h1 h2
    have hl := h.len
    split at h1
    · rename_i hi
      rw [if_pos (by omega)] at h2
      exact newAt_up (h.new i u c h1 h2) hv.le
    · rename_i hi
      rw [if_neg (by omega)] at h2
      have e1 : i - vs.length = 0 := by
        have := (List.getElem?_eq_some_iff.1 h1).1
        simp at this; omega
      rw [e1] at h1
      rw [← hl, e1] at h2
      cases h1
      cases h2
      exact newAt_down hv.new hle0
  · rw [List.pairwise_append]
    refine ⟨h.dis, List.pairwise_singleton _ _, fun u hu w hw g hg hg' => ?_⟩
    rw [List.mem_singleton] at hw
    subst hw
    obtain ⟨i, hi⟩ := List.getElem?_of_mem hu
    have hlt := (List.getElem?_eq_some_iff.1 hi).1
    have hb : p[i]? = some (p[i]'(by have := h.len; omega)) := List.getElem?_eq_getElem _
    obtain ⟨_, o, ho⟩ := (h.new i u _ hi hb).fresh hg
    have := (hv.new.fresh hg').1
    rw [ho] at this
    cases this
end Go.Proofs
end
section
namespace Go.Proofs
open Go.Sy
set_option maxRecDepth 20000
set_option maxHeartbeats 4000000
end Go.Proofs
end
section
namespace Go.Proofs
open Go.Sy
set_option maxRecDepth 20000
set_option maxHeartbeats 4000000
end Go.Proofs
end
section
namespace Go.Proofs
open Go.Sy
set_option maxRecDepth 20000
set_option maxHeartbeats 4000000
end Go.Proofs
end
section
namespace Go.Proofs
open Go.Sy
set_option maxRecDepth 20000
set_option maxHeartbeats 4000000
end Go.Proofs
end
section
namespace Go.Proofs
open Go.Sy
set_option maxRecDepth 20000
set_option maxHeartbeats 4000000
end Go.Proofs
end
section
namespace Go.Proofs
open Go.Sy
set_option maxRecDepth 20000
set_option maxHeartbeats 4000000
end Go.Proofs
end
section
namespace Go.Proofs
open Go.Sy
set_option maxRecDepth 20000
set_option maxHeartbeats 4000000
def rest (p q : Prog) (k : Wd) : Wd := (varsOf q).map fun t => k[(vIdx p t).toNat]?.getD 0
end Go.Proofs
end
section
namespace Go.Proofs
open Go.Sy
set_option maxRecDepth 20000
set_option maxHeartbeats 4000000
end Go.Proofs
end
section
namespace Go.Proofs
open Go.Sy
set_option maxRecDepth 20000
set_option maxHeartbeats 4000000
end Go.Proofs
end
