/- Part 'M23' of the proof (Gw1, Gw2, Dl, Mg2, Mg3, Mg4, Mg5, W0, W1, W2, W3, W4, W5, W6, W7, W8, W9, W10, W11, W12, W13, W14, W15, Fo0, W16, Fo1, Fo2, Px0, Rn0, Px1, Fr0, Fr1, Fr2, Fr3, Fr4, Fr5, Pn1, Pn2, Fo3, Fo4, Fo5, Ex1, Ex2, Ex3, Ex4, Ex5, Pr10, Fr6, Pn3): lemmas, each with its own conditions in its own statement. -/
import Derived.Test.YtpcgdleccebjpaaGreatM10
import Derived.Test.YtpcgdleccebjpaaGreatM17
import Derived.Test.YtpcgdleccebjpaaGreatM2
import Derived.Test.YtpcgdleccebjpaaGreatM21
import Derived.Test.YtpcgdleccebjpaaGreatM22
section
namespace Go.Proofs
open Go.Sy Go.Shelf Go.RowKit Go.Lib
set_option maxRecDepth 20000
theorem growD_spec {n : Nat} (h0 : 0 < n) (hn : n ≤ 1000000000) {H : Hp} {K : Value → Hp → Prop} (hK : ∀ v H', LeN 57 9 [] H v H' → K v H') : Does Tryz.prog 57 [.slice none 0 0, .int .i64 (n : Nat)] H K := by
  refine ⟨Tryz.call57, fun w hp => ?_⟩
  have hi := (tt_ok 57 _ _ rfl).1
  have hbig : (0 + n) * Tryz.t57.bytes ≤ 140737488355328 := by show (0 + n) * 96 ≤ _; omega
  refine (Any8.slices_Grow_grow Tryz.laysGw Tryz.t57 _ hi rfl (by decide) none 0 0 n [] w (Nat.le_refl _) (by omega) hbig (by omega) rfl (fun _ => rfl) (fun a ha => by cases ha)).mono fun e w' ⟨e1, e2⟩ => ?_
  have hsz : H w.heap.size = none := by
    cases h : H w.heap.size with
    | none => rfl
    | some o =>
      have := hp _ _ h
      rw [Array.getElem?_eq_none (Nat.le_refl _)] at this
      cases this
  obtain ⟨cells, hc⟩ : ∃ x, x = (([] : List Value).toArray ++ Builtin.zeroCells (Value.cells (Option.get Tryz.t57.zero rfl)) (0 + n - 0) ++ Builtin.zeroCells (Value.cells (Option.get Tryz.t57.zero rfl)) (grownCap w (0 + n) 0 57 - (0 + n))) := ⟨_, rfl⟩
  have e3 : w' = w.drew.alloc (.cells cells 57) := by rw [hc]; exact e2
  have hz : ∀ k, (Builtin.zeroCells (Value.cells (Option.get Tryz.t57.zero rfl)) k).size = k * 9 := fun k => by
    show (Builtin.zeroCells _ k).size = _
    simp [Builtin.zeroCells]
    rfl
  let H' : Hp := fun b => if b = w.heap.size then some (.cells cells 57 (0, 0)) else H b
  have hle : Le H H' := fun b o hb => by
    show (if b = w.heap.size then _ else H b) = _
    rw [if_neg (fun e => by rw [e, hsz] at hb; cases hb)]
    exact hb
  have hg0 : n ≤ grownCap w (0 + n) 0 57 := by have := grownCap_ge w (0 + n) 0 57; omega
  have hmax : maxLen = 9223372036854775807 := rfl
  refine ⟨_, H', e1, hK _ _ ⟨hle, .inr ⟨w.heap.size, _, cells, rfl, hsz, if_pos rfl, Nat.zero_le _, grownCap_le_maxLen w _ _ _ (by rw [hmax]; omega), ?_, by simp⟩⟩, hle, ?_, ?_, ?_⟩
  · rw [hc]
    simp only [Array.size_append, hz, List.size_toArray, List.length_nil]
    show _ = grownCap w (0 + n) 0 57 * 9
    omega
  · intro b o hb
    have hb : (if b = w.heap.size then some (.cells cells 57 (0, 0)) else H b) = some o := hb
    rw [e3]
    split at hb
    · rename_i e
      rw [e, ← hb]
      exact _root_.Go.heap_alloc_new w.drew _
    · have h1 := hp b o hb
      rw [← h1]
      exact _root_.Go.heap_alloc_old w.drew _ (Array.getElem?_eq_some_iff.1 h1).1
  · intro b h1 h2
    show (if b = w.heap.size then _ else H b) = none
    rw [if_neg (by omega)]
    exact h1
  · rw [e3]
    exact ⟨⟨rfl, rfl, rfl, by show _ ≤ (w.heap.push _).size; simp, fun k hk => _root_.Go.heap_alloc_old w.drew _ hk⟩, Nat.le_succ _⟩
/-- A nil slice grown. -/
theorem grow_spec {n : Nat} (hn : n ≤ 1000000000) {H : Hp} {K : SV → St → Hp → Prop} (hK0 : n = 0 → K (.v (.slice none 0 0)) ⟨[], [], 0⟩ H) (hK : ∀ H', Le H H' → K (.own 0) ⟨[], [(0, .row 57 9 [])], 1⟩ H') : DoesG Tryz.prog 57 [.v (.slice none 0 0), .v (.int .i64 (n : Nat))] [] 0 H K := by
  rcases Nat.eq_zero_or_pos n with h0 | h0
  · subst h0
    have hd : Does Tryz.prog 57 [.slice none 0 0, .int .i64 ((0 : Nat) : Int)] H fun v H' => v = .slice none 0 0 ∧ H' = H :=
      ⟨Tryz.call57, fun w hp => (Any8.slices_Grow_room Tryz.laysGw none 0 0 0 w (Nat.le_refl _) (by omega) (by omega) (Nat.le_refl _)).mono fun e w' ⟨e1, e2⟩ =>
        ⟨_, H, e1, ⟨rfl, rfl⟩, Le.refl H, fun b o hb => by rw [e2]; exact hp b o hb, fun b h1 _ => h1, by rw [e2]; exact BelowD.refl _ _⟩⟩
    refine doesG_thawR (fun _ => rfl) hd fun v H2 hle h => .inl ⟨.v (.slice none 0 0), fun _ => ?_, rfl, ?_⟩
    · rw [h.1]; rfl
    · rw [h.2]; exact hK0 rfl
  · refine doesG_thawR (fun _ => rfl) (growD_spec h0 hn (K := fun v H' => LeN 57 9 [] H v H') fun _ _ h => h) fun v H2 hle h => .inr ⟨57, 9, [], v, .own 0, fun ρ hρ => hρ, rfl, h.new, fun y hy => (by cases hy), fun H' hle2 _ => hK H' hle2⟩
end Go.Proofs
end
section
namespace Go.Proofs
open Go.Sy
set_option maxRecDepth 20000
set_option maxHeartbeats 4000000
noncomputable def cxG : Cx := { P := Tryz.prog, tt := tt, n := 0, wrap := false, base := 0, gf := 57 :: cx.gf, eqs := cx.eqs, xf := [] }
theorem cxG_ok : TOK cxG := ⟨cx_ok.tt, cx_ok.eqs⟩
def lensN {α : Type} (ls : List (List α)) : Nat := (ls.map List.length).sum
theorem lensN_take {α : Type} {ls : List (List α)} {i : Nat} {x : List α} (h : ls[i]? = some x) : lensN (ls.take (i + 1)) = lensN (ls.take i) + x.length := by
  rw [lensN, List.take_add_one, h, Option.toList_some, List.map_append, List.sum_append, ← lensN]
  simp
theorem lensN_le {α : Type} (ls : List (List α)) (i : Nat) : lensN (ls.take i) ≤ lensN ls := by
  conv => rhs; rw [← List.take_append_drop i ls]
  rw [lensN, lensN, List.map_append, List.sum_append]; omega
theorem flat_take {α : Type} {ls : List (List α)} {i : Nat} {x : List α} (h : ls[i]? = some x) : (ls.take (i + 1)).flatten = (ls.take i).flatten ++ x := by
  rw [List.take_add_one, h, Option.toList_some, List.flatten_append]
  simp
theorem flatN_len {α : Type} (ls : List (List α)) : ls.flatten.length = lensN ls := List.length_flatten
theorem list_k {α : Type} [Enc α] {P : Prop} {H : Hp} {a : Option Addr} {n c : Nat} {xs : List (List α)} (h : RL H a n c xs) {i : Nat} {x : List α} (hi : xs[i]? = some x) (k : ∀ ad a1 n1 c1, a = some ad → ElemH H ad (i : Int) 1 [.slice a1 n1 c1] → RL H a1 n1 c1 x → P) : P :=
  elem_k h hi fun ad cs h1 h2 h3 => by
    obtain ⟨a1, n1, c1, rfl, h4⟩ := h3
    exact k ad a1 n1 c1 h1 h2 h4
theorem concat_spec {ls : List (List Stmt)} (hl : lensN ls ≤ 2000000) {a : Option Addr} {n c : Nat} {H : Hp} {K : Value → Hp → Prop} (ha : RL H a n c ls)
    (hK : ∀ a1 n1 c1 H', Le H H' → RL H' a1 n1 c1 ls.flatten → K (.slice a1 n1 c1) H') : Does Tryz.prog 28 [.slice a n c] H K := by
  have hn1 := ha.n_eq
  have hmx := ha.le
  refine spec_of cxG_ok cx_mix rfl Tryz.func28 Tryz.call28 Tryz.ntmps28 Tryz.results28 rfl rfl ?_
  refine ⟨Nat, fun i => ⟨[(0, .v (.slice a n c)), (3, .v (.int .i64 (lensN (ls.take i) : Nat))), (9, .v (.slice a n c)), (10, .v (.int .i64 n)), (11, .v (.int .i64 i))], [], 0⟩,
    fun i H' => H' = H ∧ i ≤ ls.length, fun i => ls.length - i, ⟨0, [], ?_, rfl, Nat.zero_le _⟩, ?_⟩
  · (repeat' (first | exact trivial | refine ⟨?_, ?_⟩ | exact rfl | assumption))
  rintro i H1 _ ⟨rfl, hi⟩
  refine ⟨fun h => ?_, fun h => ?_⟩
  · have hlt : i < ls.length := by have := dt h; omega
    refine name_k ls[i] fun x hxe => ?_
    have hxx : ls[i]? = some x := by rw [hxe]; exact List.getElem?_eq_getElem hlt
    have hst := lensN_take hxx
    have hle := lensN_le ls (i + 1)
    refine list_k ha hxx fun ad a5 n5 c5 q1 hh hr5 => ?_
    have hn5 := hr5.n_eq
    refine ⟨ad, ⟨by omega, by omega, q1⟩, ?_⟩
    refine ⟨_, hh, ?_⟩
    refine ⟨⟨by omega, by omega⟩, ?_⟩
    refine ⟨fun h => absurd (dt h) (by omega), fun _ => ?_⟩
    refine ⟨⟨by omega, by omega⟩, i + 1, [], ?_, ⟨rfl, hlt⟩, by dsimp only; omega⟩
    have e : SV.v (.int .i64 ((lensN (ls.take i) : Nat) + (n5 : Nat))) = SV.v (.int .i64 ((lensN (ls.take (i + 1)) : Nat))) := by rw [hst, hn5]; rfl
    (repeat' (first | exact trivial | refine ⟨?_, ?_⟩ | exact rfl | assumption))
  · have hil : i = ls.length := by have := df h; omega
    have e0 : lensN (ls.take i) = lensN ls := by rw [hil, List.take_length]
    rw [e0]
    refine ⟨[], rfl, ?_⟩
    refine grow_spec (by omega) (fun _ => ?_) (fun H2 hle2 => ?_)
    · refine ⟨Nat × List (List Value), fun z => ⟨[(6, .own 0), (25, .v (.slice a n c)), (26, .v (.int .i64 n)), (27, .v (.int .i64 z.1))], [(0, .row 57 9 z.2)], 1⟩,
        fun z H' => H' = H1 ∧ z.1 ≤ ls.length ∧ RC (α := Stmt) H1 z.2 (ls.take z.1).flatten, fun z => ls.length - z.1, ⟨(0, []), [], ?_, rfl, Nat.zero_le _, RC.nil⟩, ?_⟩
      · (repeat' (first | exact trivial | refine ⟨?_, ?_⟩ | exact rfl | assumption))
      rintro ⟨j, css⟩ H3 _ ⟨rfl, hj, hrc⟩
      dsimp only at hj hrc
      have hcl : css.length = (ls.take j).flatten.length := hrc.1
      rw [flatN_len] at hcl
      refine ⟨fun h => ?_, fun h => ?_⟩
      · have hlt : j < ls.length := by have := dt h; dsimp only at this; omega
        refine name_k ls[j] fun x hxe => ?_
        have hxx : ls[j]? = some x := by rw [hxe]; exact List.getElem?_eq_getElem hlt
        have hst := lensN_take hxx
        have hle := lensN_le ls (j + 1)
        refine list_k ha hxx fun ad a5 n5 c5 q1 hh hr5 => ?_
        have hn5 := hr5.n_eq
        refine ⟨ad, ⟨by dsimp only; omega, by dsimp only; omega, q1⟩, ?_⟩
        refine ⟨_, hh, ?_⟩
        obtain ⟨dss, hrow, hrd⟩ := hr5.row
        have hdl : dss.length = x.length := hrd.1
        refine ⟨dss, hrow, ?_⟩
        refine ⟨⟨by show (css.length + dss.length) * 96 ≤ 140737488355328; omega, by show css.length + dss.length ≤ 9223372036854775807; omega⟩, ?_⟩
        have hrc2 : RC (α := Stmt) H3 (css ++ dss) (ls.take (j + 1)).flatten := by rw [flat_take hxx]; exact hrc.append hrd
        refine ⟨⟨by omega, by omega⟩, (j + 1, css ++ dss), [(0, 1)], ?_, ⟨rfl, hlt, hrc2⟩, by dsimp only; omega⟩
        (repeat' (first | exact trivial | refine ⟨?_, ?_⟩ | exact rfl | assumption))
      · have hjl : j = ls.length := by have := df h; dsimp only at this; omega
        rw [hjl, List.take_length] at hrc
        intro v H6 hle6 hv6
        obtain ⟨a7, n7, c7, rfl, hr7⟩ := RL.of_row (α := Stmt) hv6 (hrc.up hle6.le)
        exact hK _ _ _ _ (id hle6.le) hr7
    · refine ⟨Nat × List (List Value), fun z => ⟨[(6, .own 0), (25, .v (.slice a n c)), (26, .v (.int .i64 n)), (27, .v (.int .i64 z.1))], [(0, .row 57 9 z.2)], 1⟩,
        fun z H' => H' = H2 ∧ z.1 ≤ ls.length ∧ RC (α := Stmt) H2 z.2 (ls.take z.1).flatten, fun z => ls.length - z.1, ⟨(0, []), [(0, 0)], ?_, rfl, Nat.zero_le _, RC.nil⟩, ?_⟩
      · (repeat' (first | exact trivial | refine ⟨?_, ?_⟩ | exact rfl | assumption))
      rintro ⟨j, css⟩ H3 _ ⟨rfl, hj, hrc⟩
      dsimp only at hj hrc
      have hcl : css.length = (ls.take j).flatten.length := hrc.1
      rw [flatN_len] at hcl
      refine ⟨fun h => ?_, fun h => ?_⟩
      · have hlt : j < ls.length := by have := dt h; dsimp only at this; omega
        refine name_k ls[j] fun x hxe => ?_
        have hxx : ls[j]? = some x := by rw [hxe]; exact List.getElem?_eq_getElem hlt
        have hst := lensN_take hxx
        have hle := lensN_le ls (j + 1)
        refine list_k (ha.up hle2) hxx fun ad a5 n5 c5 q1 hh hr5 => ?_
        have hn5 := hr5.n_eq
        refine ⟨ad, ⟨by dsimp only; omega, by dsimp only; omega, q1⟩, ?_⟩
        refine ⟨_, hh, ?_⟩
        obtain ⟨dss, hrow, hrd⟩ := hr5.row
        have hdl : dss.length = x.length := hrd.1
        refine ⟨dss, hrow, ?_⟩
        refine ⟨⟨by show (css.length + dss.length) * 96 ≤ 140737488355328; omega, by show css.length + dss.length ≤ 9223372036854775807; omega⟩, ?_⟩
        have hrc2 : RC (α := Stmt) H3 (css ++ dss) (ls.take (j + 1)).flatten := by rw [flat_take hxx]; exact hrc.append hrd
        refine ⟨⟨by omega, by omega⟩, (j + 1, css ++ dss), [(0, 1)], ?_, ⟨rfl, hlt, hrc2⟩, by dsimp only; omega⟩
        (repeat' (first | exact trivial | refine ⟨?_, ?_⟩ | exact rfl | assumption))
      · have hjl : j = ls.length := by have := df h; dsimp only at this; omega
        rw [hjl, List.take_length] at hrc
        intro v H6 hle6 hv6
        obtain ⟨a7, n7, c7, rfl, hr7⟩ := RL.of_row (α := Stmt) hv6 (hrc.up hle6.le)
        exact hK _ _ _ _ (hle2.trans hle6.le) hr7
end Go.Proofs
end
section
namespace Go.Proofs
open Go.Sy
set_option maxRecDepth 20000
theorem del_row (xs : List (List Value)) (z : List Value) {i j : Nat} (hij : i < j) (hj : j ≤ xs.length) :
    ∃ R1 R2 : List (List Value), ∃ n : Nat, R1 = xs.take (0 + (i - 0)) ++ (xs.drop j).take (xs.length - j) ++ xs.drop (0 + (i - 0) + ((xs.drop j).take (xs.length - j)).length) ∧
      n = i - 0 + ((xs.drop j).take (xs.length - j)).length ∧ n = i + (xs.length - j) ∧ R1.length = xs.length ∧
      R2 = R1.take (0 + n) ++ List.replicate (xs.length - n) z ++ R1.drop (0 + n + (xs.length - n)) ∧ R2.length = xs.length ∧ R2.take n = xs.take i ++ xs.drop j := by
  have hyl : (xs.drop j).take (xs.length - j) = xs.drop j := List.take_of_length_le (by simp)
  refine ⟨_, _, _, rfl, rfl, ?_, ?_, rfl, ?_, ?_⟩
  · rw [hyl]; simp
  · rw [hyl]; simp; omega
  · rw [hyl]; simp; omega
  · rw [hyl]
    have e1 : (xs.take (0 + (i - 0)) ++ xs.drop j).length = i - 0 + (xs.drop j).length := by simp; omega
    have e2 : (xs.take (0 + (i - 0)) ++ xs.drop j ++ xs.drop (0 + (i - 0) + (xs.drop j).length)).take (0 + (i - 0 + (xs.drop j).length)) = xs.take i ++ xs.drop j := by
      rw [Nat.zero_add, ← e1, List.take_left]
      simp
    rw [e2]
    have e3 : (xs.take i ++ xs.drop j).length = i - 0 + (xs.drop j).length := by simp; omega
    rw [← e3, List.append_assoc, List.take_left]
theorem delete_spec' {i j : Nat} {xs : List (List Value)} (hij : i < j) (hj : j ≤ xs.length) (_hm : xs.length ≤ 9223372036854775807) {H : Hp} {K : SV → St → Hp → Prop}
    (hK : K (.own 1) ⟨[], [(0, .dead), (1, .row 53 8 (xs.take i ++ xs.drop j))], 2⟩ H) : DoesG Tryz.prog 29 [.own 0, .v (.int .i64 i), .v (.int .i64 j)] [(0, .row 53 8 xs)] 1 H K := by
  obtain ⟨R1, R2, n, h1, h2, h3, h4, h5, h6, h7⟩ := del_row xs [.string (bs []), .slice none 0 0, .int .i64 0, .string (bs []), .int .i64 0, .int .i64 0, .string (bs []), .string (bs [])] hij hj
  refine spec_ofG cx_ok cx_mix Tryz.func29 Tryz.call29 Tryz.ntmps29 Tryz.results29 rfl rfl ?_
  refine .inr ?_
  refine ⟨⟨by omega, by omega, by omega, by omega⟩, ?_⟩
  intro v
  refine ⟨fun h => ?_, fun h => ?_⟩
  · have := dt h; omega
  · refine ⟨some ([0], [0, 1, 2, 3, 4, 5, 6, 7]), by kernel_rfl, ?_⟩
    refine ⟨⟨by omega, by omega, by omega⟩, ?_⟩
    refine ⟨⟨by omega, by omega, by omega⟩, ?_⟩
    have hyl : ((xs.drop j).take (xs.length - j)).length = xs.length - j := by simp
    refine ⟨by show j + (xs.length - j) ≤ _; omega, ?_⟩
    refine ⟨by show 0 + (i - 0) + ((xs.drop j).take (xs.length - j)).length ≤ _; omega, ?_⟩
    refine .inl ?_
    refine .inl ?_
    refine ⟨⟨by omega, by show ((i - 0 + ((xs.drop j).take (xs.length - j)).length : Nat) : Int) ≤ _; omega, by show (((0 : Nat)) : Int) + _ ≤ ((xs.take (0 + (i - 0)) ++ (xs.drop j).take (xs.length - j) ++ xs.drop (0 + (i - 0) + ((xs.drop j).take (xs.length - j)).length)).length : Int); rw [← h1, h4]; omega⟩, fun h => ?_, fun h => ?_⟩
    · refine ⟨by show 0 + (i - 0 + ((xs.drop j).take (xs.length - j)).length) + (xs.length - (i - 0 + ((xs.drop j).take (xs.length - j)).length)) ≤ (xs.take (0 + (i - 0)) ++ (xs.drop j).take (xs.length - j) ++ xs.drop (0 + (i - 0) + ((xs.drop j).take (xs.length - j)).length)).length; rw [← h1, h4]; omega, ?_⟩
      refine .inl ?_
      refine .inl ?_
      refine ⟨by show (i - 0 + ((xs.drop j).take (xs.length - j)).length) ≤ ((xs.take (0 + (i - 0)) ++ (xs.drop j).take (xs.length - j) ++ xs.drop (0 + (i - 0) + ((xs.drop j).take (xs.length - j)).length)).take (0 + (i - 0 + ((xs.drop j).take (xs.length - j)).length)) ++ List.replicate (xs.length - (i - 0 + ((xs.drop j).take (xs.length - j)).length)) [Value.string (bs []), Value.slice none 0 0, Value.int .i64 0, Value.string (bs []), Value.int .i64 0, Value.int .i64 0, Value.string (bs []), Value.string (bs [])] ++ (xs.take (0 + (i - 0)) ++ (xs.drop j).take (xs.length - j) ++ xs.drop (0 + (i - 0) + ((xs.drop j).take (xs.length - j)).length)).drop (0 + (i - 0 + ((xs.drop j).take (xs.length - j)).length) + (xs.length - (i - 0 + ((xs.drop j).take (xs.length - j)).length)))).length; rw [← h1, ← h2, ← h5, h6]; omega, ?_⟩
      have e9 : ((xs.take (0 + (i - 0)) ++ (xs.drop j).take (xs.length - j) ++ xs.drop (0 + (i - 0) + ((xs.drop j).take (xs.length - j)).length)).take (0 + (i - 0 + ((xs.drop j).take (xs.length - j)).length)) ++ List.replicate (xs.length - (i - 0 + ((xs.drop j).take (xs.length - j)).length)) [Value.string (bs []), Value.slice none 0 0, Value.int .i64 0, Value.string (bs []), Value.int .i64 0, Value.int .i64 0, Value.string (bs []), Value.string (bs [])] ++ (xs.take (0 + (i - 0)) ++ (xs.drop j).take (xs.length - j) ++ xs.drop (0 + (i - 0) + ((xs.drop j).take (xs.length - j)).length)).drop (0 + (i - 0 + ((xs.drop j).take (xs.length - j)).length) + (xs.length - (i - 0 + ((xs.drop j).take (xs.length - j)).length)))).take (i - 0 + ((xs.drop j).take (xs.length - j)).length) = xs.take i ++ xs.drop j := by rw [← h1, ← h2, ← h5, h7]
      exact ⟨.own 1, [(0, .dead), (1, .row 53 8 (xs.take i ++ xs.drop j))], 2, [(0, 0), (1, 1)], ⟨⟨rfl, trivial⟩, ⟨trivial, e9, trivial⟩⟩, hK⟩
    · exfalso
      have h' : (((i - 0 + ((xs.drop j).take (xs.length - j)).length) : Nat) : Int) = (xs.length : Int) := h
      omega
theorem delete_spec {x y : Int} {i j : Nat} (hx : x = i) (hy : y = j) {xs : List (List Value)} (hij : i < j) (hj : j ≤ xs.length) (hm : xs.length ≤ 9223372036854775807) {H : Hp} {K : SV → St → Hp → Prop}
    (hK : K (.own 1) ⟨[], [(0, .dead), (1, .row 53 8 (xs.take i ++ xs.drop j))], 2⟩ H) : DoesG Tryz.prog 29 [.own 0, .v (.int .i64 x), .v (.int .i64 y)] [(0, .row 53 8 xs)] 1 H K := by
  subst hx
  subst hy
  exact delete_spec' hij hj hm hK
end Go.Proofs
end
section
namespace Go.Proofs
open Go.Sy
set_option maxRecDepth 20000
set_option maxHeartbeats 4000000
theorem RC.drop {α : Type} [Enc α] {H : Hp} {css : List (List Value)} {xs : List α} (h : RC H css xs) (k : Nat) : RC H (css.drop k) (xs.drop k) := by
  have hl : css.length = xs.length := h.1
  refine ⟨by rw [List.length_drop, List.length_drop, hl], fun i cs x h1 h2 => ?_⟩
  rw [List.getElem?_drop] at h1 h2
  exact h.2 _ cs x h1 h2
theorem joinG_spec {q : Prog} (hq : stmtsN q ≤ 1000000) {a t : Nat} (hta : t ≠ a) (ht : t < q.length) (ha : a < q.length) (hlen : q.length ≤ 1000) {css : List (List Value)} {H : Hp} {K : SV → St → Hp → Prop} (hrc : RC (α := Block) H css q)
    (hK : ∀ css' H', Le H H' → RC (α := Block) H' css' (joinP q a t) → K (.tup []) ⟨[], [(0, .cells 24 [.own 2]), (1, .dead), (2, .row 53 8 css')], 3⟩ H') :
    DoesG Tryz.prog 27 [.v (.int .i64 a), .v (.int .i64 t), .ptr 0 0] [(0, .cells 24 [.own 1]), (1, .row 53 8 css)] 2 H K := by
  refine spec_ofG cx_ok cx_mix Tryz.func27 Tryz.call27 Tryz.ntmps27 Tryz.results27 rfl rfl ?_
  have hcl : css.length = q.length := hrc.1
  refine name_k q[a] fun x hxe => ?_
  refine name_k q[t] fun y hye => ?_
  have hx : q[a]? = some x := by rw [hxe]; exact List.getElem?_eq_getElem ha
  have hy : q[t]? = some y := by rw [hye]; exact List.getElem?_eq_getElem ht
  have hj := joinP_eq hx hy
  refine blockrow_k hrc hx fun a1 n1 c1 hg1 hr1 hs1 ht1 => ?_
  refine blockrow_k hrc hy fun a2 n2 c2 hg2 hr2 hs2 ht2 => ?_
  have hg1' : css[(a : Int).toNat]? = _ := hg1
  have hg2' : css[(t : Int).toNat]? = _ := hg2
  refine ⟨some ([1, 2], [0, 1, 2, 3, 4, 5, 6, 7, 8, 9, 10, 11, 12, 13, 14, 15, 16, 17, 18, 19]), by kernel_rfl, ?_⟩
  refine ⟨⟨by omega, by omega⟩, ?_⟩
  refine ⟨_, hg1', ?_⟩
  refine ⟨⟨by omega, by omega⟩, ?_⟩
  refine ⟨_, hg2', ?_⟩
  intro w H1 hle1 hw
  have hrl : RC (α := List Stmt) H1 [[.slice a1 n1 c1], [.slice a2 n2 c2]] [x.2.1, y.2.1] := ((RC.nil (α := List Stmt)).snoc (show Enc.R (α := List Stmt) H1 [.slice a1 n1 c1] x.2.1 from ⟨a1, n1, c1, rfl, hr1.up hle1.le⟩)).snoc (show Enc.R (α := List Stmt) H1 [.slice a2 n2 c2] y.2.1 from ⟨a2, n2, c2, rfl, hr2.up hle1.le⟩)
  obtain ⟨a3, n3, c3, rfl, hr3⟩ := RL.of_row (α := List Stmt) hw hrl
  have hsum := sum_set (fun b => b.2.1.length) (y := y) hx
  have hl1 := stmts_le hx
  have hl2 := stmts_le hy
  have hls : lensN [x.2.1, y.2.1] ≤ 2000000 := by simp only [lensN, List.map_cons, List.map_nil, List.sum_cons, List.sum_nil]; omega
  refine concat_spec hls hr3 fun a4 n4 c4 H2 hle2 hr4 => ?_
  have hle : Le H H2 := hle1.le.trans hle2
  have ef : [x.2.1, y.2.1].flatten = x.2.1 ++ y.2.1 := by simp
  rw [ef] at hr4
  refine ⟨⟨by omega, by omega⟩, ?_⟩
  refine ⟨_, hg1', ?_⟩
  have hat : (a : Int).toNat = a := rfl
  have hgt : (css.set (a : Int).toNat [.string (bs x.1.l), .slice a4 n4 c4, .int .i64 x.2.2.1, .string (bs x.2.2.2.1.1.l), .int .i64 x.2.2.2.1.2.1, .int .i64 x.2.2.2.1.2.2, .string (bs x.2.2.2.2.1.l), .string (bs x.2.2.2.2.2.l)])[(t : Int).toNat]? = _ := (List.getElem?_set_ne (by rw [hat]; exact fun e => hta e.symm)).trans hg2
  have hga : (css.set (a : Int).toNat [.string (bs x.1.l), .slice a4 n4 c4, .int .i64 x.2.2.1, .string (bs x.2.2.2.1.1.l), .int .i64 x.2.2.2.1.2.1, .int .i64 x.2.2.2.1.2.2, .string (bs x.2.2.2.2.1.l), .string (bs x.2.2.2.2.2.l)])[(a : Int).toNat]? = some [.string (bs x.1.l), .slice a4 n4 c4, .int .i64 x.2.2.1, .string (bs x.2.2.2.1.1.l), .int .i64 x.2.2.2.1.2.1, .int .i64 x.2.2.2.1.2.2, .string (bs x.2.2.2.2.1.l), .string (bs x.2.2.2.2.2.l)] := List.getElem?_set_self (by rw [hat]; omega)
  have hsl : (css.set (a : Int).toNat [.string (bs x.1.l), .slice a4 n4 c4, .int .i64 x.2.2.1, .string (bs x.2.2.2.1.1.l), .int .i64 x.2.2.2.1.2.1, .int .i64 x.2.2.2.1.2.2, .string (bs x.2.2.2.2.1.l), .string (bs x.2.2.2.2.2.l)]).length = q.length := by rw [List.length_set]; exact hcl
  refine ⟨some ([1], [0, 1, 2, 3, 4, 5, 6, 7, 8, 9, 10, 11]), by kernel_rfl, ?_⟩
  refine ⟨⟨by omega, by rw [List.length_set]; omega⟩, ?_⟩
  refine ⟨_, hgt, ?_⟩
  refine ⟨⟨by omega, by rw [List.length_set]; omega⟩, ?_⟩
  refine ⟨_, hga, ?_⟩
  refine ⟨⟨by omega, by omega⟩, ?_⟩
  have hrc2 : RC (α := Block) H2 ((css.set a [.string (bs x.1.l), .slice a4 n4 c4, .int .i64 x.2.2.1, .string (bs x.2.2.2.1.1.l), .int .i64 x.2.2.2.1.2.1, .int .i64 x.2.2.2.1.2.2, .string (bs x.2.2.2.2.1.l), .string (bs x.2.2.2.2.2.l)]).set a (.string (bs (catB x y).1.l) :: .slice a4 n4 c4 :: termV (catB x y).2.2)) (q.set a (catB x y)) := by
    rw [List.set_set]
    exact rc_set (hrc.up hle) (block_mk hr4 hs1 ht2)
  have hrc3 : RC (α := Block) H2 (((css.set a [.string (bs x.1.l), .slice a4 n4 c4, .int .i64 x.2.2.1, .string (bs x.2.2.2.1.1.l), .int .i64 x.2.2.2.1.2.1, .int .i64 x.2.2.2.1.2.2, .string (bs x.2.2.2.2.1.l), .string (bs x.2.2.2.2.2.l)]).set a (.string (bs (catB x y).1.l) :: .slice a4 n4 c4 :: termV (catB x y).2.2)).take t ++ ((css.set a [.string (bs x.1.l), .slice a4 n4 c4, .int .i64 x.2.2.1, .string (bs x.2.2.2.1.1.l), .int .i64 x.2.2.2.1.2.1, .int .i64 x.2.2.2.1.2.2, .string (bs x.2.2.2.2.1.l), .string (bs x.2.2.2.2.2.l)]).set a (.string (bs (catB x y).1.l) :: .slice a4 n4 c4 :: termV (catB x y).2.2)).drop (t + 1)) (joinP q a t) := by
    rw [hj, List.eraseIdx_eq_take_drop_succ]
    exact (hrc2.take t).append (RC.drop hrc2 (t + 1))
  refine ⟨[1], rfl, delete_spec (i := t) (j := t + 1) rfl rfl (by omega) (by rw [List.length_set, List.length_set]; omega) (by rw [List.length_set, List.length_set]; omega) ?_⟩
  refine ⟨.tup [], [(0, .cells 24 [.own 2]), (1, .dead), (2, .row 53 8 _)], 3, [(0, 0), (1, 1), (2, 3)], ?_, hK _ H2 hle hrc3⟩
  (repeat' (first | exact trivial | refine ⟨?_, ?_⟩ | exact rfl | assumption))
end Go.Proofs
end
section
namespace Go.Proofs
open Go.Sy
set_option maxRecDepth 20000
set_option maxHeartbeats 4000000
noncomputable def cxM : Cx := { P := Tryz.prog, tt := tt, n := 0, wrap := false, base := 0, gf := 8 :: cx.gf, eqs := cx.eqs, xf := [] }
theorem cxM_ok : TOK cxM := ⟨cx_ok.tt, cx_ok.eqs⟩
theorem progG_spec {p : Prog} (hp : p.length ≤ 12) (hl : ∀ b ∈ p, b.2.1.length ≤ 1000000) (hc : stmtsN p ≤ 1000000) (hv : cnt p < 400000) {a : Option Addr} {n c : Nat} {H : Hp} {K : SV → St → Hp → Prop} (ha : RL H a n c p)
    (hbad : checkE p ≠ 0 → ∀ H', Le H H' → K (.tup [.agg [.v (.slice none 0 0)], .v (.int .i64 (checkE p))]) ⟨[], [], 0⟩ H')
    (hK : checkE p = 0 → ∀ css R H', Le H H' → StrictL R → IsReach (p.length : Nat) (gSort (edgesOf (endsP p))) [0] R → RC (α := Block) H' css (keepP (endsP p) R p.length) → K (.tup [.agg [.own 0], .v (.int .i64 0)]) ⟨[], [(0, .row 53 8 css)], 1⟩ H') :
    DoesG Tryz.prog 8 [.agg [.v (.slice a n c)]] [] 0 H K := by
  refine doesG_thawR (args := [.agg #[.slice a n c]]) (fun _ => rfl) (pprogN_spec hp hl hc hv ha (K := fun v H' => (checkE p ≠ 0 ∧ v = .tuple #[.agg #[.slice none 0 0], .int .i64 (checkE p)]) ∨ (checkE p = 0 ∧ ∃ x css R H3, v = .tuple #[.agg #[x], .int .i64 0] ∧ Le H H3 ∧ StrictL R ∧ IsReach (p.length : Nat) (gSort (edgesOf (endsP p))) [0] R ∧ RC (α := Block) H3 css (keepP (endsP p) R p.length) ∧ LeN 53 8 css H3 x H'))
    (fun he _ _ => .inl ⟨he, rfl⟩) (fun he v css R H3 H' h1 h2 h3 h4 h5 _ => .inr ⟨he, v, css, R, H3, rfl, h1, h2, h3, h4, h5⟩)) ?_
  rintro v H2 hle (⟨he, rfl⟩ | ⟨he, x, css, R, H3, rfl, h1, hS, hR, h2, h3⟩)
  · exact .inl ⟨.tup [.agg [.v (.slice none 0 0)], .v (.int .i64 (checkE p))], fun _ => rfl, rfl, hbad he H2 hle⟩
  · refine .inr ⟨53, 8, css, x, .tup [.agg [.own 0], .v (.int .i64 0)], fun ρ hρ => ?_, rfl, (LeN.base h1 h3).new, fun y hy => ?_, fun H' hle2 hkeep => hK he css R H' hle2 hS hR (h2.up fun b o hb => hkeep b o (h3.le b o hb) fun e => ?_)⟩
    · show Value.tuple #[Value.agg #[ρ.val 0], .int .i64 0] = _
      rw [hρ]
    · obtain ⟨i, hi⟩ := List.getElem?_of_mem hy
      have hlt := (List.getElem?_eq_some_iff.1 hi).1
      have hcl : css.length = (keepP (endsP p) R p.length).length := h2.1
      have := h2.2 i y ((keepP (endsP p) R p.length)[i]'(by omega)) hi (List.getElem?_eq_getElem _)
      exact ⟨Enc.len this, Enc.one this⟩
    · rcases h3.new with ⟨h4, _⟩ | ⟨g, cap, cc, h4, h5, _⟩
      · rw [h4] at e; cases e
      · rw [h4] at e
        simp only [Value.ownBlock, Option.some.injEq] at e
        subst e
        rw [h5] at hb
        cases hb
theorem pair_none {q : Prog} (hq : q.length ≤ 12) (h : pairP q = none) {a : Option Addr} {n c : Nat} {H : Hp} {K : Value → Hp → Prop} (ha : RL H a n c q) (hK : ∀ H', Le H H' → K (.tuple #[.int .i64 0, .int .i64 0, .bool false]) H') : Does Tryz.prog 30 [.agg #[.slice a n c]] H K :=
  pair_spec hq ha (by rw [h]; exact hK)
theorem pair_some {q : Prog} (hq : q.length ≤ 12) {i t : Nat} (h : pairP q = some (i, t)) {a : Option Addr} {n c : Nat} {H : Hp} {K : Value → Hp → Prop} (ha : RL H a n c q) (hK : ∀ H', Le H H' → K (.tuple #[.int .i64 i, .int .i64 t, .bool true]) H') : Does Tryz.prog 30 [.agg #[.slice a n c]] H K :=
  pair_spec hq ha (by rw [h]; exact hK)
theorem keepP_stmts (q : Prog) (R : List Int) : ∀ i, i ≤ q.length → stmtsN (keepP q R i) ≤ stmtsN (q.take i)
  | 0, _ => by simp [keepP, stmtsN]
  | i + 1, h => by
    have hb : q[i]? = some q[i] := List.getElem?_eq_getElem h
    have h1 := keepP_stmts q R i (by omega)
    have h2 := stmtsN_take hb
    rw [keepP_succ hb, h2]
    have h3 : ∀ x y : Prog, stmtsN (x ++ y) = stmtsN x + stmtsN y := fun x y => by rw [stmtsN, List.map_append, List.sum_append]; rfl
    rw [h3]
    split
    · have h4 : stmtsN [q[i]] = q[i].2.1.length := by simp [stmtsN]
      rw [h4]; omega
    · have h4 : stmtsN [] = 0 := rfl
      rw [h4]; omega
theorem endsP_stmts (p : Prog) : stmtsN (endsP p) = stmtsN p := by
  rw [stmtsN, stmtsN, endsP, List.map_map]; rfl
theorem pmerge_spec {p : Prog} (hp : p.length ≤ 12) (hl : ∀ b ∈ p, b.2.1.length ≤ 1000000) (hc : stmtsN p ≤ 1000000) (hv : cnt p < 400000) {a : Option Addr} {n c : Nat} {H : Hp} {K : Value → Hp → Prop} (ha : RL H a n c p)
    (hbad : checkE p ≠ 0 → ∀ H', Le H H' → K (.tuple #[.agg #[.slice none 0 0], .int .i64 (checkE p)]) H')
    (hK : checkE p = 0 → ∀ a1 n1 c1 R r H', Le H H' → StrictL R → IsReach (p.length : Nat) (gSort (edgesOf (endsP p))) [0] R → Mrg (keepP (endsP p) R p.length) r → RL H' a1 n1 c1 r → K (.tuple #[.agg #[.slice a1 n1 c1], .int .i64 0]) H') : Does Tryz.prog 9 [.agg #[.slice a n c]] H K := by
  refine spec_of cxM_ok cx_mix rfl Tryz.func9 Tryz.call9 Tryz.ntmps9 Tryz.results9 rfl rfl ?_
  by_cases he : checkE p = 0
  · refine .inr ⟨Prog × List Int × List (List Value), fun _ => 0, fun z => ⟨[(2, .ptr 1 0), (4, .ptr 3 0), (6, .fn 27 [.ptr 3 0])], [(1, .cells 24 [.v (.slice none 0 0)]), (3, .cells 24 [.own 4]), (4, .row 53 8 z.2.2)], 5⟩,
      fun z H' => Le H H' ∧ RC (α := Block) H' z.2.2 z.1 ∧ z.1.length ≤ 12 ∧ stmtsN z.1 ≤ 1000000 ∧ StrictL z.2.1 ∧ IsReach (p.length : Nat) (gSort (edgesOf (endsP p))) [0] z.2.1 ∧ ∀ r, Mrg z.1 r → Mrg (keepP (endsP p) z.2.1 p.length) r, fun z => z.1.length, ?_, ?_⟩
    · refine ⟨[], rfl, progG_spec hp hl hc hv ha (fun h => absurd he h) fun _ css R H1 hle1 hS hR hrc => ?_⟩
      refine ⟨fun h => absurd rfl (nt h), fun _ => ?_⟩
      have hq : (keepP (endsP p) R p.length).length ≤ 12 := Nat.le_trans (keepP_len _ _ _) hp
      have hst : stmtsN (keepP (endsP p) R p.length) ≤ 1000000 := by
        have h1 := keepP_stmts (endsP p) R p.length (by rw [endsP_len]; exact Nat.le_refl _)
        have h2 := stmtsN_le (endsP p) p.length
        rw [endsP_stmts] at h2
        omega
      have hM : ∀ r, Mrg (keepP (endsP p) R p.length) r → Mrg (keepP (endsP p) R p.length) r := fun r h => h
      intro v H2 hle2 hv2
      obtain ⟨a3, n3, c3, rfl, hr3⟩ := RL.of_row (α := Block) hv2 (hrc.up hle2.le)
      rcases hpp : pairP (keepP (endsP p) R p.length) with _ | ⟨i, t⟩
      · refine pair_none hq hpp hr3 fun _ _ => ?_
        refine ⟨(fun h => by cases h), fun _ => ?_⟩
        intro v H5 hle5 hv5
        obtain ⟨a6, n6, c6, rfl, hr6⟩ := RL.of_row (α := Block) hv5 (hrc.up hle5.le)
        exact hK he _ _ _ R _ _ (hle1.trans hle5.le) hS hR (hM _ (.stop hpp)) hr6
      · obtain ⟨h1, h2, h3⟩ := firstP_spec hpp
        refine pair_some hq hpp hr3 fun _ _ => ?_
        refine ⟨fun _ => ?_, (fun h => by cases h)⟩
        have hjl := joinP_len h2 h3
        have hjs := joinP_stmts h1 h2 h3
        refine ⟨[3, 2], rfl, joinG_spec hst h1 h2 h3 (by omega) hrc fun css' H3 hle3 hrc3 => ?_⟩
        refine ⟨(joinP (keepP (endsP p) R p.length) i t, R, css'), [(1, 1), (3, 3), (4, 4)], rfl, ?_, ⟨hle1.trans hle3, hrc3, by dsimp only; omega, by dsimp only; omega, hS, hR, fun r hr => hM r (.step hpp hr)⟩⟩
        (repeat' (first | exact trivial | refine ⟨?_, ?_⟩ | exact rfl | assumption))
    · rintro ⟨q, R, css⟩ H1 _ ⟨hle1, hrc, hq, hst, hS, hR, hM⟩
      dsimp only at hrc hq hst hS hR hM
      intro v H2 hle2 hv2
      obtain ⟨a3, n3, c3, rfl, hr3⟩ := RL.of_row (α := Block) hv2 (hrc.up hle2.le)
      rcases hpp : pairP q with _ | ⟨i, t⟩
      · refine pair_none hq hpp hr3 fun _ _ => ?_
        refine ⟨(fun h => by cases h), fun _ => ?_⟩
        intro v H5 hle5 hv5
        obtain ⟨a6, n6, c6, rfl, hr6⟩ := RL.of_row (α := Block) hv5 (hrc.up hle5.le)
        exact hK he _ _ _ R _ _ (hle1.trans hle5.le) hS hR (hM _ (.stop hpp)) hr6
      · obtain ⟨h1, h2, h3⟩ := firstP_spec hpp
        refine pair_some hq hpp hr3 fun _ _ => ?_
        refine ⟨fun _ => ?_, (fun h => by cases h)⟩
        have hjl := joinP_len h2 h3
        have hjs := joinP_stmts h1 h2 h3
        refine ⟨[3, 4], rfl, joinG_spec hst h1 h2 h3 (by omega) hrc fun css' H3 hle3 hrc3 => ?_⟩
        refine ⟨(joinP q i t, R, css'), [(1, 1), (3, 3), (4, 5)], rfl, ?_, ⟨hle1.trans hle3, hrc3, by dsimp only; omega, by dsimp only; omega, hS, hR, fun r hr => hM r (.step hpp hr)⟩, by dsimp only; omega⟩
        (repeat' (first | exact trivial | refine ⟨?_, ?_⟩ | exact rfl | assumption))
  · refine .inl ⟨0, ?_⟩
    refine ⟨[], rfl, progG_spec hp hl hc hv ha (fun _ H1 hle1 => ?_) fun h => absurd h he⟩
    refine ⟨fun _ => ?_, fun h => absurd (nf h) he⟩
    exact hbad he _ hle1
end Go.Proofs
end
section
namespace Go.Proofs
open Go.Sy
set_option maxRecDepth 20000
set_option maxHeartbeats 4000000
theorem edge_k {P : Prop} {H : Hp} {a : Option Addr} {n c : Nat} {xs : List Edg} (h : RL H a n c xs) {i : Nat} {x : Edg} (hi : xs[i]? = some x) (k : ∀ ad, a = some ad → ElemH H ad (i : Int) 2 [.int .i64 x.1, .int .i64 x.2] → P) : P :=
  elem_k h hi fun ad cs h1 h2 h3 => by
    obtain ⟨rfl, _⟩ := edge_open h3
    exact k ad h1 h2
theorem of_row_k {α : Type} [Enc α] {P : Prop} {H : Hp} {v : Value} {css : List (List Value)} {xs : List α} (h : RowAt H v (Enc.sz α) css) (hc : RC H css xs) (k : ∀ a n c, v = .slice a n c → RL H a n c xs → P) : P := by
  obtain ⟨a, n, c, e, hr⟩ := RL.of_row h hc
  exact k a n c e hr
end Go.Proofs
end
section
namespace Go.Proofs
open Go.Sy
set_option maxRecDepth 20000
set_option maxHeartbeats 4000000
end Go.Proofs
end
section
namespace Go.Proofs
open Go.Sy
set_option maxRecDepth 20000
/-! Words: what is known of a variable. -/
end Go.Proofs
end
section
namespace Go.Proofs
open Go.Sy
set_option maxRecDepth 20000
set_option maxHeartbeats 4000000
end Go.Proofs
end
section
namespace Go.Proofs
open Go.Sy
set_option maxRecDepth 20000
set_option maxHeartbeats 4000000
end Go.Proofs
end
section
namespace Go.Proofs
open Go.Sy
set_option maxRecDepth 20000
set_option maxHeartbeats 4000000
/-! The lattice of constants: values that may be. -/
abbrev Wd := List UInt64
/-- The cells that check's closure looks at. -/
abbrev c2 (w : Nat) : List (Nat × Bx) := [(0, .cells 3 [.v (.int .i64 3)]), (1, .cells 3 [.v (.int .i64 (w : Nat))])]
/-! The document's lattice. -/
end Go.Proofs
end
section
namespace Go.Proofs
open Go.Sy
set_option maxRecDepth 20000
set_option maxHeartbeats 4000000
/-! What a block does to what is known. -/
abbrev Rf := Int × Nm
abbrev Cd := Int × Int × Rf × Rf
abbrev vL (l : List Value) : List SV := l.map .v
abbrev c1 (w : Nat) : List (Nat × Bx) := [(0, .cells 3 [.v (.int .i64 (w : Nat))])]
abbrev uRows (l : Wd) : List (List Value) := l.map fun w => [.int .u64 (w.toNat : Nat)]
end Go.Proofs
end
section
namespace Go.Proofs
open Go.Sy
set_option maxRecDepth 20000
set_option maxHeartbeats 4000000
abbrev b2 (v : Wd) : List (Nat × Bx) := [(0, .cells 999 [.own 1]), (1, .row 149 1 (uRows v))]
end Go.Proofs
end
section
namespace Go.Proofs
open Go.Sy
set_option maxRecDepth 20000
set_option maxHeartbeats 4000000
end Go.Proofs
end
section
namespace Go.Proofs
open Go.Sy
set_option maxRecDepth 20000
set_option maxHeartbeats 4000000
/-! Equations over constants. -/
/-- What a node does, as it lies in memory: no sets. -/
structure Tr3 where
  l : List Cd
instance : Enc Tr3 where
  sz := 3
  R H cs x := ∃ a n c, cs = [.slice none 0 0, .slice none 0 0, .slice a n c] ∧ RL H a n c x.l
  len h := by obtain ⟨_, _, _, rfl, _⟩ := h; rfl
  one h := by obtain ⟨_, _, _, rfl, _⟩ := h; intro u hu; simp at hu; rcases hu with rfl | rfl <;> rfl
  up hle h := by obtain ⟨a, n, c, e, h⟩ := h; exact ⟨a, n, c, e, h.up hle⟩
structure Sy3 where
  w : Nat
  m : Nat
  E : List Edg
  ent : List Int
  ini : Wd
  T : List (List Cd)
structure SA where
  ea : Option Addr
  en : Nat
  ec : Nat
  na : Option Addr
  nn : Nat
  nc : Nat
  ia : Option Addr
  ni : Nat
  ic : Nat
  ta : Option Addr
  tn : Nat
  tc : Nat
structure SysR (H : Hp) (s : Sy3) (z : SA) : Prop where
  e : RL H z.ea z.en z.ec s.E
  n : RL H z.na z.nn z.nc s.ent
  i : RL H z.ia z.ni z.ic s.ini
  t : RL (α := Tr3) H z.ta z.tn z.tc (s.T.map Tr3.mk)
theorem SysR.up {H H' : Hp} {s : Sy3} {z : SA} (h : SysR H s z) (hle : Le H H') : SysR H' s z := ⟨h.e.up hle, h.n.up hle, h.i.up hle, h.t.up hle⟩
end Go.Proofs
end
section
namespace Go.Proofs
open Go.Sy
set_option maxRecDepth 20000
set_option maxHeartbeats 4000000
end Go.Proofs
end
section
namespace Go.Proofs
open Go.Sy
set_option maxRecDepth 20000
set_option maxHeartbeats 4000000
end Go.Proofs
end
section
namespace Go.Proofs
open Go.Sy
set_option maxRecDepth 20000
set_option maxHeartbeats 4000000
/-! The document's way to a solution. -/
end Go.Proofs
end
section
namespace Go.Proofs
open Go.Sy
set_option maxRecDepth 20000
set_option maxHeartbeats 4000000
/-! A program's codes. -/
def vIdx (p : Prog) (t : Bs8) : Int := idxS t (varsOf p) 0
theorem vIdx_range (p : Prog) (t : Bs8) : vIdx p t = -1 ∨ (0 ≤ vIdx p t ∧ vIdx p t < ((varsOf p).length : Nat)) := by
  have := idxS_range t (varsOf p) 0 (Int.le_refl 0)
  rcases this with h | ⟨h1, h2⟩
  · exact .inl h
  · exact .inr ⟨h1, by rw [vIdx]; omega⟩
end Go.Proofs
end
section
namespace Go.Proofs
open Go.Sy
set_option maxRecDepth 20000
set_option maxHeartbeats 4000000
/-! A program's equations. -/
end Go.Proofs
end
section
namespace Go.Proofs
open Go.Sy
set_option maxRecDepth 20000
set_option maxHeartbeats 4000000
/-! A program's equations are in order. -/
theorem exprB_op {x : Expr} (h : exprB x = true) : 0 ≤ x.1 ∧ x.1 ≤ 4 := by
  unfold exprB at h
  split at h
  · rename_i h1
    simp only [op1, Bool.or_eq_true, decide_eq_true_eq] at h1
    omega
  · split at h
    · rename_i h1
      simp only [op2, Bool.or_eq_true, decide_eq_true_eq] at h1
      omega
    · cases h
theorem check_facts {p : Prog} (h : checkE p = 0) : 1 ≤ p.length ∧ p.length ≤ 128 ∧ (varsOf p).length ≤ 64 ∧ ∀ b ∈ p, blockB b = true := by
  unfold checkE at h
  split at h
  · cases h
  · rename_i h0
    split at h
    · rename_i h1
      split at h
      · cases h
      · refine ⟨by omega, by omega, by omega, fun b hb => List.all_eq_true.1 h1 b hb⟩
    · cases h
theorem block_stmts {b : Block} (h : blockB b = true) : ∀ s ∈ b.2.1, stmtB s = true := by
  rw [blockB, Bool.and_eq_true] at h
  exact fun s hs => List.all_eq_true.1 h.2 s hs
theorem eN_lt {p : Prog} {i : Nat} {t : Bs8} : ∀ e ∈ eN p i t, e.1 = (i : Int) ∧ 0 ≤ e.2 ∧ e.2 < (p.length : Nat) := by
  intro e he
  unfold eN at he
  have hr := idxS_range t (nms p) 0 (by omega)
  rw [List.length_map] at hr
  split at he
  · rename_i h0
    simp only [List.mem_cons, List.not_mem_nil, or_false] at he
    subst he
    exact ⟨rfl, h0, by dsimp only; omega⟩
  · simp at he
theorem eB_lt {p : Prog} {i : Nat} {b : Block} : ∀ e ∈ eB p i b, e.1 = (i : Int) ∧ 0 ≤ e.2 ∧ e.2 < (p.length : Nat) := by
  intro e he
  unfold eB at he
  rcases List.mem_append.1 he with he | he
  · split at he
    · exact eN_lt e he
    · cases he
  · split at he
    · exact eN_lt e he
    · cases he
theorem eAll_lt {p : Prog} : ∀ (l : List Block) (i : Nat), ∀ e ∈ eAll p l i, ((i : Int) ≤ e.1 ∧ e.1 < ((i + l.length : Nat) : Int)) ∧ 0 ≤ e.2 ∧ e.2 < (p.length : Nat)
  | [], _, e, he => by simp [eAll] at he
  | b :: r, i, e, he => by
    rw [eAll] at he
    rcases List.mem_append.1 he with he | he
    · have h := eB_lt e he
      rw [List.length_cons]
      exact ⟨⟨by omega, by omega⟩, h.2⟩
    · have h := eAll_lt r (i + 1) e he
      rw [List.length_cons]
      exact ⟨⟨by omega, by omega⟩, h.2⟩
end Go.Proofs
end
section
namespace Go.Proofs
open Go.Sy
set_option maxRecDepth 20000
set_option maxHeartbeats 4000000
/-! Two systems that are alike. -/
end Go.Proofs
end
section
namespace Go.Proofs
open Go.Sy
set_option maxRecDepth 20000
set_option maxHeartbeats 4000000
end Go.Proofs
end
section
namespace Go.Proofs
open Go.Sy
set_option maxRecDepth 20000
set_option maxHeartbeats 4000000
/-! Folding of expressions (from V5, V6). -/
end Go.Proofs
end
section
namespace Go.Proofs
open Go.Sy
set_option maxRecDepth 20000
set_option maxHeartbeats 4000000
/-! The example, and PropSystems. -/
end Go.Proofs
end
section
namespace Go.Proofs
open Go.Sy
set_option maxRecDepth 20000
set_option maxHeartbeats 4000000
/-! Folding: statements, the example. -/
end Go.Proofs
end
section
namespace Go.Proofs
open Go.Sy
set_option maxRecDepth 20000
set_option maxHeartbeats 4000000
/-! Folding of a program: the law, and the document's way. -/
end Go.Proofs
end
section
namespace Go.Proofs
open Go.Sy
set_option maxRecDepth 20000
set_option maxHeartbeats 4000000
/-! The least solution is one. -/
end Go.Proofs
end
section
namespace Go.Proofs
open Go.Sy
set_option maxRecDepth 20000
set_option maxHeartbeats 4000000
/-! Runs: the law. -/
abbrev StE := Int × List Nm × Int × List Nm
def valA (p : Prog) (e : List Nm) (a : Atm) : Nm := if a.1.l = [] then nOf a.2 else if 0 ≤ vIdx p a.1.l then e[(vIdx p a.1.l).toNat]?.getD (0, 0) else (0, 0)
def inAt (inn : List Nm) (i : Int) : Nm := if i < 0 then (0, 0) else inn[i.toNat]?.getD (0, 0)
def inNext (i : Int) : Int := min i 2147483646 + 1
def setAt (p : Prog) (e : List Nm) (t : Bs8) (n : Nm) : List Nm := e.set (vIdx p t).toNat n
def doS (p : Prog) (inn : List Nm) (s : StE) (x : Stmt) : StE :=
  if x.1 = 1 then (s.1, setAt p s.2.1 x.2.1.l (nOp x.2.2.1 (valA p s.2.1 x.2.2.2.1) (valA p s.2.1 x.2.2.2.2)), s.2.2)
  else if x.1 = 2 then (s.1, setAt p s.2.1 x.2.1.l (nOf (inAt inn s.2.2.1)), inNext s.2.2.1, s.2.2.2)
  else if x.1 = 3 then (s.1, s.2.1, s.2.2.1, s.2.2.2 ++ [valA p s.2.1 x.2.2.2.1])
  else s
def doAll (p : Prog) (inn : List Nm) (s : StE) (l : List Stmt) : StE := l.foldl (doS p inn) s
def blkN (p : Prog) (i : Int) : Block := p[i.toNat]?.getD (⟨[]⟩, [], (0, (⟨[]⟩, 0, 0), ⟨[]⟩, ⟨[]⟩))
def runB (p : Prog) (inn : List Nm) (s : StE) : StE := doAll p inn s (blkN p s.1).2.1
def bIdx (p : Prog) (t : Bs8) : Int := max (idxS t (nms p) 0) 0
def goTo (p : Prog) (s : StE) (t : Term) : Bs8 := if t.1 = 2 ∧ valA p s.2.1 t.2.1 = (0, 0) then t.2.2.2.l else t.2.2.1.l
def folS (p : Prog) (s : StE) : StE × Bool := if (blkN p s.1).2.2.1 = 3 then (s, false) else ((bIdx p (goTo p s (blkN p s.1).2.2), s.2), true)
/-- What is there behind so many rounds. -/
def itS (p : Prog) (inn : List Nm) (s0 : StE) : Nat → List StE × StE × Bool
  | 0 => ([], s0, true)
  | k + 1 => if (itS p inn s0 k).2.2 then ((itS p inn s0 k).1 ++ [(itS p inn s0 k).2.1], folS p (runB p inn (itS p inn s0 k).2.1)) else itS p inn s0 k
theorem itS_step {p : Prog} {inn : List Nm} {s0 : StE} {k : Nat} (h : (itS p inn s0 k).2.2 = true) : itS p inn s0 (k + 1) = ((itS p inn s0 k).1 ++ [(itS p inn s0 k).2.1], folS p (runB p inn (itS p inn s0 k).2.1)) := by
  rw [itS, if_pos h]
theorem itS_stop {p : Prog} {inn : List Nm} {s0 : StE} {k : Nat} (h : (itS p inn s0 k).2.2 = false) : itS p inn s0 (k + 1) = itS p inn s0 k := by
  rw [itS, if_neg (by rw [h]; decide)]
theorem itS_end {p : Prog} {inn : List Nm} {s0 : StE} {k : Nat} (h : (itS p inn s0 k).2.2 = false) : ∀ m, itS p inn s0 (k + m) = itS p inn s0 k
  | 0 => rfl
  | m + 1 => by rw [← Nat.add_assoc, itS_stop (by rw [itS_end h m]; exact h), itS_end h m]
theorem itS_len {p : Prog} {inn : List Nm} {s0 : StE} : ∀ (k : Nat), (itS p inn s0 k).2.2 = true → (itS p inn s0 k).1.length = k
  | 0, _ => rfl
  | k + 1, h => by
    by_cases h1 : (itS p inn s0 k).2.2 = true
    · rw [itS_step h1, List.length_append, itS_len k h1]; rfl
    · rw [itS_stop (by simpa using h1)] at h
      exact absurd h h1
theorem itS_le {p : Prog} {inn : List Nm} {s0 : StE} : ∀ (k : Nat), (itS p inn s0 k).1.length ≤ k
  | 0 => Nat.le_refl _
  | k + 1 => by
    have h := itS_le (p := p) (inn := inn) (s0 := s0) k
    rw [itS]
    split
    · rw [List.length_append, List.length_singleton]; omega
    · omega
def start0 (p : Prog) : StE := (0, List.replicate (varsOf p).length (0, 0), 0, [])
/-! Which names are variables. -/
theorem insAt_has {i : Nat} {s : Bs8} {l : List Bs8} (_h : i ≤ l.length) : s ∈ insAt i s l ∧ ∀ t ∈ l, t ∈ insAt i s l := by
  rw [insAt]
  refine ⟨by simp, fun t ht => ?_⟩
  rw [← List.take_append_drop i l] at ht
  rcases List.mem_append.1 ht with ht | ht
  · simp [ht]
  · simp [ht]
theorem putS_has {l : List Bs8} (hl : SortedS l) (s : Bs8) : (s ≠ [] → s ∈ putS s l) ∧ ∀ t ∈ l, t ∈ putS s l := by
  by_cases h0 : s = []
  · rw [h0, putS_nil]; exact ⟨fun h => absurd rfl h, fun t h => h⟩
  · obtain ⟨i, hi, h1, h2⟩ := lower hl s
    have e := putS_at h0 hi h1 (fun x hx => h2 x (by
      have hlt := (List.getElem?_eq_some_iff.1 hx).1
      rw [List.drop_eq_getElem_cons hlt, (List.getElem?_eq_some_iff.1 hx).2]
      exact List.mem_cons_self))
    rw [e]
    split
    · rename_i hx
      exact ⟨fun _ => List.mem_of_getElem? hx, fun t h => h⟩
    · have := insAt_has (s := s) hi
      exact ⟨fun _ => this.1, this.2⟩
theorem putAll_has : ∀ (vs : List Bs8) {o : List Bs8}, SortedS o → (∀ s ∈ vs, s ≠ [] → s ∈ putAll vs o) ∧ ∀ t ∈ o, t ∈ putAll vs o
  | [], _, _ => ⟨fun s h => (by cases h), fun t h => h⟩
  | v :: r, o, ho => by
    have h1 := putS_has ho v
    have h2 := putAll_has r (putS_sorted ho v)
    refine ⟨fun s hs h0 => ?_, fun t ht => h2.2 t (h1.2 t ht)⟩
    rcases List.mem_cons.1 hs with rfl | hs
    · exact h2.2 _ (h1.1 h0)
    · exact h2.1 s hs h0
theorem bVars_has : ∀ (l : List Stmt) {o : List Bs8}, SortedS o → (∀ x ∈ l, ∀ s ∈ sVars x, s ≠ [] → s ∈ bVars o l) ∧ ∀ t ∈ o, t ∈ bVars o l
  | [], _, _ => ⟨fun s h => (by cases h), fun t h => h⟩
  | x :: r, o, ho => by
    have h1 := putAll_has (sVars x) ho
    have h2 := bVars_has r (putAll_sorted (sVars x) ho)
    refine ⟨fun y hy s hs h0 => ?_, fun t ht => h2.2 t (h1.2 t ht)⟩
    rcases List.mem_cons.1 hy with rfl | hy
    · exact h2.2 _ (h1.1 s hs h0)
    · exact h2.1 y hy s hs h0
theorem blkVars_sorted {o : List Bs8} (ho : SortedS o) (b : Block) : SortedS (blkVars o b) := putAll_sorted _ (bVars_sorted _ ho)
theorem blkVars_has {o : List Bs8} (ho : SortedS o) (b : Block) : (∀ x ∈ b.2.1, ∀ s ∈ sVars x, s ≠ [] → s ∈ blkVars o b) ∧ (b.2.2.2.1.1.l ≠ [] → b.2.2.2.1.1.l ∈ blkVars o b) ∧ ∀ t ∈ o, t ∈ blkVars o b := by
  have h1 := bVars_has b.2.1 ho
  have h2 := putAll_has [b.2.2.2.1.1.l] (bVars_sorted b.2.1 ho)
  exact ⟨fun x hx s hs h0 => h2.2 s (h1.1 x hx s hs h0), fun h0 => h2.1 _ (List.mem_singleton.2 rfl) h0, fun t ht => h2.2 t (h1.2 t ht)⟩
theorem vars_has : ∀ (p : Prog) {o : List Bs8}, SortedS o → (∀ b ∈ p, (∀ x ∈ b.2.1, ∀ s ∈ sVars x, s ≠ [] → s ∈ p.foldl blkVars o) ∧ (b.2.2.2.1.1.l ≠ [] → b.2.2.2.1.1.l ∈ p.foldl blkVars o)) ∧ ∀ t ∈ o, t ∈ p.foldl blkVars o
  | [], _, _ => ⟨fun s h => (by cases h), fun t h => h⟩
  | b :: r, o, ho => by
    have h1 := blkVars_has ho b
    have h2 := vars_has r (blkVars_sorted ho b)
    refine ⟨fun b' hb => ?_, fun t ht => h2.2 t (h1.2.2 t ht)⟩
    rcases List.mem_cons.1 hb with rfl | hb
    · exact ⟨fun x hx s hs h0 => h2.2 _ (h1.1 x hx s hs h0), fun h0 => h2.2 _ (h1.2.1 h0)⟩
    · exact h2.1 b' hb
theorem nil_sorted : SortedS [] := by simp [SortedS]
theorem idxS_at (t : Bs8) : ∀ (l : List Bs8) (i : Int), 0 ≤ i → t ∈ l → i ≤ idxS t l i ∧ idxS t l i < i + l.length ∧ l[(idxS t l i - i).toNat]? = some t
  | [], _, _, h => by cases h
  | x :: r, i, h0, h => by
    rw [idxS]
    split
    · rename_i e
      refine ⟨Int.le_refl _, by simp only [List.length_cons]; omega, ?_⟩
      rw [show (i - i).toNat = 0 by omega, List.getElem?_cons_zero, e]
    · rename_i e
      rcases List.mem_cons.1 h with h | h
      · exact absurd h.symm e
      · have := idxS_at t r (i + 1) (by omega) h
        simp only [List.length_cons]
        refine ⟨by omega, by omega, ?_⟩
        rw [show (idxS t r (i + 1) - i).toNat = (idxS t r (i + 1) - (i + 1)).toNat + 1 by omega, List.getElem?_cons_succ]
        exact this.2.2
theorem idxS_some {t : Bs8} : ∀ {l : List Bs8} {i : Int}, 0 ≤ i → 0 ≤ idxS t l i → t ∈ l
  | [], i, _, h => by rw [idxS] at h; omega
  | x :: r, i, h0, h => by
    rw [idxS] at h
    split at h
    · rename_i e
      rw [e]; exact List.mem_cons_self
    · exact List.mem_cons_of_mem _ (idxS_some (by omega) h)
theorem vIdx_mem {p : Prog} {t : Bs8} (h : t ∈ varsOf p) : 0 ≤ vIdx p t ∧ vIdx p t < ((varsOf p).length : Nat) := by
  have := idxS_at t (varsOf p) 0 (by omega) h
  unfold vIdx
  omega
theorem vIdx_stmt {p : Prog} {b : Block} (hb : b ∈ p) {x : Stmt} (hx : x ∈ b.2.1) {t : Bs8} (ht : t ∈ sVars x) (h0 : t ≠ []) : 0 ≤ vIdx p t ∧ vIdx p t < ((varsOf p).length : Nat) :=
  vIdx_mem (((vars_has p nil_sorted).1 b hb).1 x hx t ht h0)
theorem blkN_get {p : Prog} {i : Int} {b : Block} (h : p[i.toNat]? = some b) : blkN p i = b := by rw [blkN, h]; rfl
theorem doS_blk (p : Prog) (inn : List Nm) (s : StE) (x : Stmt) : (doS p inn s x).1 = s.1 ∧ (doS p inn s x).2.1.length = s.2.1.length := by
  unfold doS setAt
  repeat' split
  all_goals simp
theorem doAll_blk (p : Prog) (inn : List Nm) : ∀ (l : List Stmt) (s : StE), (doAll p inn s l).1 = s.1 ∧ (doAll p inn s l).2.1.length = s.2.1.length
  | [], _ => ⟨rfl, rfl⟩
  | x :: r, s => by
    have h1 := doS_blk p inn s x
    have h2 := doAll_blk p inn r (doS p inn s x)
    rw [doAll, List.foldl_cons]
    exact ⟨h2.1.trans h1.1, h2.2.trans h1.2⟩
theorem bIdx_range (p : Prog) (t : Bs8) (h : 1 ≤ p.length) : 0 ≤ bIdx p t ∧ bIdx p t < (p.length : Nat) := by
  have := idxS_range t (nms p) 0 (by omega)
  rw [List.length_map] at this
  unfold bIdx
  omega
end Go.Proofs
end
section
namespace Go.Proofs
open Go.Sy
set_option maxRecDepth 20000
set_option maxHeartbeats 4000000
/-! What is known along a run. -/
theorem nOp_nOf (op : Int) (a b : Nm) : nOf (nOp op a b) = nOp op a b := by
  have h : ∀ x : Nm, nOf (nOf x) = nOf x := fun x => by simp only [nOf, wrp_wrp]
  unfold nOp
  repeat' split
  all_goals first | exact h _ | rfl
theorem vIdx_nil (p : Prog) : vIdx p [] < 0 := by
  rcases vIdx_range p [] with h | h
  · omega
  · exfalso
    have hm : [] ∈ varsOf p := idxS_some (i := 0) (by omega) h.1
    have hs := vars_sorted p nil_sorted
    have : ∀ (p : Prog) {o : List Bs8}, [] ∉ o → [] ∉ p.foldl blkVars o := by
      have h1 : ∀ (vs : List Bs8) {o : List Bs8}, [] ∉ o → [] ∉ putAll vs o := by
        intro vs
        induction vs with
        | nil => exact fun h => h
        | cons v r ih =>
          intro o h
          refine ih (o := putS v o) ?_
          by_cases hv : v = []
          · rw [hv, putS_nil]; exact h
          · intro hm
            rcases putS_mem hm with hm | hm
            · exact h hm
            · exact hv hm.symm
      have h2 : ∀ (l : List Stmt) {o : List Bs8}, [] ∉ o → [] ∉ bVars o l := by
        intro l
        induction l with
        | nil => exact fun h => h
        | cons v r ih => exact fun h => ih (h1 _ h)
      intro p
      induction p with
      | nil => exact fun h => h
      | cons b r ih => exact fun h => ih (h1 _ (h2 _ h))
    exact this p (by simp) hm
theorem stmtB_var {s : Stmt} (h : stmtB s = true) : (s.1 = 1 ∧ 0 ≤ s.2.2.1 ∧ s.2.2.1 ≤ 4 ∧ s.2.1.l ≠ []) ∨ (s.1 = 2 ∧ s.2.1.l ≠ []) ∨ (s.1 = 3 ∧ s.2.1.l = []) := by
  have hn : ∀ t : Bs8, nmB t = true → t ≠ [] := fun t ht e => by rw [e] at ht; exact absurd ht (by decide)
  unfold stmtB at h
  split at h
  · rename_i h1
    rw [Bool.and_eq_true] at h
    have := exprB_op h.2
    exact .inl ⟨h1, this.1, this.2, hn _ h.1⟩
  · split at h
    · rename_i h1
      rw [Bool.and_eq_true] at h
      exact .inr (.inl ⟨h1, hn _ h.1⟩)
    · split at h
      · rename_i h1
        rw [Bool.and_eq_true, Bool.and_eq_true] at h
        exact .inr (.inr ⟨h1, dt h.1.1⟩)
      · cases h
theorem eAll_mem {p : Prog} : ∀ (l : List Block) (i : Nat) {j : Nat} {b : Block} {e : Edg}, l[j]? = some b → e ∈ eB p (i + j) b → e ∈ eAll p l i
  | [], _, _, _, _, h, _ => by simp at h
  | x :: r, i, 0, b, e, h, he => by
    simp only [List.getElem?_cons_zero, Option.some.injEq] at h
    subst h
    rw [eAll]
    exact List.mem_append_left _ he
  | x :: r, i, j + 1, b, e, h, he => by
    rw [List.getElem?_cons_succ] at h
    rw [eAll]
    exact List.mem_append_right _ (eAll_mem r (i + 1) h (by rw [show i + 1 + j = i + (j + 1) by omega]; exact he))
/-- What an end's names are. -/
theorem check_goes {p : Prog} (h : checkE p = 0) {b : Block} (hb : b ∈ p) {t : Bs8} (ht : t ∈ goes b.2.2) : t ∈ bnames p := by
  unfold checkE at h
  split at h
  · cases h
  · split at h
    · split at h
      · cases h
      · split at h
        · split at h
          · rename_i h5
            exact dt (List.all_eq_true.1 (List.all_eq_true.1 h5 b hb) t ht)
          · cases h
        · cases h
    · cases h
theorem term_kind {p : Prog} (h : checkE p = 0) {b : Block} (hb : b ∈ p) : b.2.2.1 = 1 ∨ b.2.2.1 = 2 ∨ b.2.2.1 = 3 := by
  have h1 := (check_facts h).2.2.2 b hb
  rw [blockB, Bool.and_eq_true, Bool.and_eq_true] at h1
  have h2 := h1.1.2
  unfold termB at h2
  split at h2
  · exact .inl (by assumption)
  · split at h2
    · exact .inr (.inl (by assumption))
    · split at h2
      · exact .inr (.inr (by assumption))
      · cases h2
end Go.Proofs
end
section
namespace Go.Proofs
open Go.Sy
set_option maxRecDepth 20000
set_option maxHeartbeats 4000000
/-! FoldRuns: the law. What a program's variables that are left know. -/
theorem vIdx_at {q : Prog} {j : Nat} (hj : j < (varsOf q).length) : vIdx q (varsOf q)[j] = (j : Int) := by
  have hs : SortedS (varsOf q) := vars_sorted q nil_sorted
  have h := idxS_at (varsOf q)[j] (varsOf q) 0 (by omega) (List.getElem_mem hj)
  have h2 := h.2.2
  have hi : (idxS (varsOf q)[j] (varsOf q) 0 - 0).toNat < (varsOf q).length := (List.getElem?_eq_some_iff.1 h2).1
  have h3 := (List.getElem?_eq_some_iff.1 h2).2
  have hp := List.pairwise_iff_getElem.1 hs
  unfold vIdx
  rcases Nat.lt_trichotomy (idxS (varsOf q)[j] (varsOf q) 0 - 0).toNat j with h4 | h4 | h4
  · have := hp _ _ hi hj h4
    rw [h3] at this
    exact absurd this (slt_irrefl _)
  · omega
  · have := hp _ _ hj hi h4
    rw [h3] at this
    exact absurd this (slt_irrefl _)
theorem vIdx_get {p : Prog} {t : Bs8} (h : t ∈ varsOf p) : ∃ j, vIdx p t = (j : Nat) ∧ j < (varsOf p).length ∧ (varsOf p)[j]? = some t := by
  have h1 := idxS_at t (varsOf p) 0 (by omega) h
  refine ⟨(idxS t (varsOf p) 0 - 0).toNat, by unfold vIdx; omega, by omega, h1.2.2⟩
theorem vIdx_inj {p : Prog} {t u : Bs8} (ht : t ∈ varsOf p) (hu : u ∈ varsOf p) (h : vIdx p t = vIdx p u) : t = u := by
  obtain ⟨j, h1, _, h2⟩ := vIdx_get ht
  obtain ⟨k, h3, _, h4⟩ := vIdx_get hu
  have e : j = k := by omega
  rw [e, h4] at h2
  exact (Option.some.inj h2).symm
def rest (p q : Prog) (k : Wd) : Wd := (varsOf q).map fun t => k[(vIdx p t).toNat]?.getD 0
end Go.Proofs
end
section
namespace Go.Proofs
open Go.Sy
set_option maxRecDepth 20000
set_option maxHeartbeats 4000000
/-! FoldRuns: the law. Expressions and statements with numbers put in. -/
end Go.Proofs
end
section
namespace Go.Proofs
open Go.Sy
set_option maxRecDepth 20000
set_option maxHeartbeats 4000000
/-! FoldRuns: the law. A program with numbers put in may be. -/
theorem vars_nodup (p : Prog) : (varsOf p).Nodup := by
  have hs : SortedS (varsOf p) := vars_sorted p nil_sorted
  exact List.Pairwise.imp (fun {a b} (h : a < b) (e : a = b) => slt_irrefl b (by rw [e] at h; exact h)) hs
theorem stmts_512' {p : Prog} (h : checkE p = 0) : stmtsN p ≤ 512 := by
  unfold checkE at h
  split at h
  · cases h
  · omega
theorem check_nodup {p : Prog} (h : checkE p = 0) : (bnames p).Nodup := by
  unfold checkE at h
  split at h
  · cases h
  · split at h
    · split at h
      · cases h
      · split at h
        · assumption
        · cases h
    · cases h
end Go.Proofs
end
section
namespace Go.Proofs
open Go.Sy
set_option maxRecDepth 20000
set_option maxHeartbeats 4000000
/-! FoldRuns: the law. What is known of a program with numbers put in. -/
end Go.Proofs
end
section
namespace Go.Proofs
open Go.Sy
set_option maxRecDepth 20000
set_option maxHeartbeats 4000000
/-! FoldRuns: the law. What was folded stays. -/
end Go.Proofs
end
section
namespace Go.Proofs
open Go.Sy
set_option maxRecDepth 20000
set_option maxHeartbeats 4000000
/-! FoldRuns: the law. Runs. -/
def restE (p q : Prog) (e : List Nm) : List Nm := (varsOf q).map fun t => e[(vIdx p t).toNat]?.getD (0, 0)
theorem restE_len (p q : Prog) (e : List Nm) : (restE p q e).length = (varsOf q).length := List.length_map _
theorem restE_at {p q : Prog} {e : List Nm} {j : Nat} (hj : j < (varsOf q).length) : (restE p q e)[j]? = some (e[(vIdx p (varsOf q)[j]).toNat]?.getD (0, 0)) := by
  rw [restE, List.getElem?_map, List.getElem?_eq_getElem hj]; rfl
theorem restE_idx {p q : Prog} {e : List Nm} {t : Bs8} (h : t ∈ varsOf q) : (restE p q e)[(vIdx q t).toNat]? = some (e[(vIdx p t).toNat]?.getD (0, 0)) := by
  obtain ⟨j, h1, h2, h3⟩ := vIdx_get h
  rw [h1, Int.toNat_natCast, restE_at h2]
  have e2 : (varsOf q)[j] = t := by rw [List.getElem?_eq_getElem h2] at h3; exact Option.some.inj h3
  rw [e2]
theorem restE_set {p q : Prog} (hs : ∀ t ∈ varsOf q, t ∈ varsOf p) {e : List Nm} (he : e.length = (varsOf p).length) {t : Bs8} (ht : t ∈ varsOf q) (n : Nm) : restE p q (setAt p e t n) = setAt q (restE p q e) t n := by
  apply List.ext_getElem?
  intro i
  by_cases hi : i < (varsOf q).length
  · have hm : (varsOf q)[i] ∈ varsOf q := List.getElem_mem hi
    obtain ⟨j1, e1, l1, _⟩ := vIdx_get (hs t ht)
    obtain ⟨j2, e2, l2, g2⟩ := vIdx_get ht
    obtain ⟨j3, e3, l3, _⟩ := vIdx_get (hs _ hm)
    have hj := vIdx_at hi
    rw [restE_at hi, setAt, setAt, List.getElem?_set, List.getElem?_set, restE_at hi, restE_len, he]
    by_cases h : t = (varsOf q)[i]
    · rw [← h] at hj e3
      rw [← h, if_pos rfl, if_pos (by omega), if_pos (by omega), if_pos (by omega)]; rfl
    · have n1 : ¬ (vIdx p t).toNat = (vIdx p (varsOf q)[i]).toNat := fun e => h (vIdx_inj (hs t ht) (hs _ hm) (by omega))
      have n2 : ¬ (vIdx q t).toNat = i := fun e => h (vIdx_inj ht hm (by omega))
      rw [if_neg n1, if_neg n2]
  · rw [List.getElem?_eq_none (by rw [restE_len]; omega), List.getElem?_eq_none (by rw [setAt, List.length_set, restE_len]; omega)]
end Go.Proofs
end
section
namespace Go.Proofs
open Go.Sy
set_option maxRecDepth 20000
set_option maxHeartbeats 4000000
/-! PruneRuns: the law. What nobody comes to is not missed. -/
theorem at_name {q : Prog} {t : Bs8} (h : t ∈ bnames q) : ∃ b, (0 ≤ bIdx q t ∧ bIdx q t = idxS t (nms q) 0) ∧ q[(bIdx q t).toNat]? = some b ∧ b.1.l = t := by
  have h1 := idxS_at t (nms q) 0 (by omega) h
  have e : bIdx q t = idxS t (nms q) 0 := by unfold bIdx; omega
  have h2 : (q.map fun b : Block => b.1.l)[(idxS t (nms q) 0 - 0).toNat]? = some t := h1.2.2
  rw [List.getElem?_map, Int.sub_zero] at h2
  cases hb : q[(idxS t (nms q) 0).toNat]? with
  | none => rw [hb] at h2; cases h2
  | some b =>
    rw [hb] at h2
    exact ⟨b, ⟨by rw [e]; exact h1.1, e⟩, by rw [e]; exact hb, Option.some.inj h2⟩
theorem name_get {q : Prog} {i : Nat} {b : Block} (h : q[i]? = some b) : (bnames q)[i]? = some b.1.l := by
  show (q.map fun b : Block => b.1.l)[i]? = _
  rw [List.getElem?_map, h]; rfl
theorem name_inj {q : Prog} (hn : (bnames q).Nodup) {i j : Nat} {b b' : Block} (h1 : q[i]? = some b) (h2 : q[j]? = some b') (h : b.1.l = b'.1.l) : i = j := by
  have e1 := name_get h1
  have e2 := name_get h2
  rw [h] at e1
  obtain ⟨l1, g1⟩ := List.getElem?_eq_some_iff.1 e1
  obtain ⟨l2, g2⟩ := List.getElem?_eq_some_iff.1 e2
  exact (List.getElem_inj hn).1 (g1.trans g2.symm)
theorem name_mem {q : Prog} {b : Block} (h : b ∈ q) : b.1.l ∈ bnames q := List.mem_map.2 ⟨b, h, rfl⟩
theorem idx_of {q : Prog} (hn : (bnames q).Nodup) {i : Nat} {b : Block} (h : q[i]? = some b) : bIdx q b.1.l = (i : Int) := by
  obtain ⟨b', h1, h2, h3⟩ := at_name (name_mem (List.mem_of_getElem? h))
  have := name_inj hn h2 h h3
  omega
theorem goes_edge {q : Prog} {i : Nat} {b : Block} (hb : q[i]? = some b) {t : Bs8} (ht : t ∈ goes b.2.2) (hn : t ∈ bnames q) : ((i : Int), bIdx q t) ∈ edgesOf q := by
  obtain ⟨_, h1, _, _⟩ := at_name hn
  have hg : eN q i t = [((i : Int), bIdx q t)] := by rw [eN, if_pos (by omega), h1.2]
  refine eAll_mem q 0 hb ?_
  rw [Nat.zero_add, eB]
  unfold goes at ht
  split at ht
  · rename_i h1
    rw [List.mem_singleton.1 ht] at hg
    rw [if_pos (.inl h1), hg]
    rw [List.mem_singleton.1 ht]
    simp
  · split at ht
    · rename_i h1
      rw [if_pos (.inr h1), if_pos h1]
      simp only [List.mem_cons, List.not_mem_nil, or_false] at ht
      rcases ht with e | e
      · rw [e] at hg ⊢; rw [hg]; simp
      · rw [e] at hg ⊢; rw [hg]; simp
    · cases ht
theorem eAll_inv {p : Prog} : ∀ (l : List Block) (i : Nat) (e : Edg), e ∈ eAll p l i → ∃ j b, l[j]? = some b ∧ e ∈ eB p (i + j) b
  | [], _, e, h => by cases h
  | b :: r, i, e, h => by
    rw [eAll, List.mem_append] at h
    rcases h with h | h
    · exact ⟨0, b, rfl, h⟩
    · obtain ⟨j, b', h1, h2⟩ := eAll_inv r (i + 1) e h
      exact ⟨j + 1, b', h1, by rw [show i + (j + 1) = i + 1 + j by omega]; exact h2⟩
theorem edge_inv {q : Prog} {e : Edg} (h : e ∈ edgesOf q) : ∃ (i : Nat) (b : Block) (t : Bs8), q[i]? = some b ∧ e.1 = (i : Int) ∧ t ∈ goes b.2.2 ∧ t ∈ bnames q ∧ e.2 = bIdx q t := by
  obtain ⟨j, b, h1, h2⟩ := eAll_inv q 0 e h
  rw [Nat.zero_add] at h2
  have hN : ∀ t, e ∈ eN q j t → e.1 = (j : Int) ∧ t ∈ bnames q ∧ e.2 = bIdx q t := fun t ht => by
    unfold eN at ht
    split at ht
    · rename_i h0
      rw [List.mem_singleton] at ht
      have hm : t ∈ bnames q := idxS_some (i := 0) (by omega) h0
      rw [ht]
      exact ⟨rfl, hm, by unfold bIdx; dsimp only; omega⟩
    · cases ht
  unfold eB at h2
  rcases List.mem_append.1 h2 with h3 | h3
  · split at h3
    · rename_i h4
      have := hN _ h3
      refine ⟨j, b, _, h1, this.1, ?_, this.2.1, this.2.2⟩
      unfold goes
      rcases h4 with h4 | h4
      · rw [if_pos h4]; simp
      · rw [if_neg (by omega), if_pos h4]; simp
    · cases h3
  · split at h3
    · rename_i h4
      have := hN _ h3
      refine ⟨j, b, _, h1, this.1, ?_, this.2.1, this.2.2⟩
      unfold goes
      rw [if_neg (by omega), if_pos h4]; simp
    · cases h3
/-- A program, of which blocks were left out. -/
structure Kept (p q : Prog) : Prop where
  chk : checkE p = 0
  src : ∀ b' ∈ q, ∃ b ∈ p, b' = endB b
  nd : (bnames q).Nodup
  head : ∃ b, p[0]? = some b ∧ q[0]? = some (endB b)
  closed : ∀ b' ∈ q, ∀ t ∈ goes b'.2.2, t ∈ bnames q
theorem keepP_mem {q : Prog} {R : List Int} {n : Nat} {b : Block} : b ∈ keepP q R n ↔ ∃ k, k < n ∧ (k : Int) ∈ R ∧ q[k]? = some b := by
  rw [keepP, List.mem_filterMap]
  constructor
  · rintro ⟨k, h1, h2⟩
    obtain ⟨h3, h4⟩ := List.mem_filter.1 h1
    exact ⟨k, List.mem_range.1 h3, dt h4, h2⟩
  · rintro ⟨k, h1, h2, h3⟩
    exact ⟨k, List.mem_filter.2 ⟨List.mem_range.2 h1, decide_eq_true h2⟩, h3⟩
theorem range_all (q : Prog) : (List.range q.length).filterMap (fun k => q[k]?) = q := by
  have h : ∀ (l : Prog), (List.range l.length).filterMap (fun k => l[k]?) = l := fun l => by
    induction l with
    | nil => rfl
    | cons b r ih =>
      rw [List.length_cons, List.range_succ_eq_map, List.filterMap_cons]
      simp only [List.getElem?_cons_zero, List.filterMap_map]
      congr 1
  exact h q
theorem keepP_sub (q : Prog) (R : List Int) : (keepP q R q.length).Sublist q := by
  have h := List.Sublist.filterMap (fun k => q[k]?) (List.filter_sublist (p := fun (k : Nat) => decide ((k : Int) ∈ R)) (l := List.range q.length))
  rw [range_all] at h
  exact h
theorem keepP_all {q : Prog} {R : List Int} (h : ∀ k, k < q.length → (k : Int) ∈ R) : keepP q R q.length = q := by
  rw [keepP, List.filter_eq_self.2 (fun k hk => decide_eq_true (h k (List.mem_range.1 hk))), range_all]
theorem endT_goes (t : Term) : ∀ u ∈ goes (endT t), u ∈ goes t := by
  intro u hu
  unfold endT at hu
  split at hu
  · rename_i h2
    have e : goes t = [t.2.2.1.l, t.2.2.2.l] := by rw [goes, if_neg (by omega), if_pos h2]
    split at hu
    · rw [goes, if_pos rfl] at hu
      rw [e, List.mem_singleton.1 hu]; simp
    · split at hu
      · rw [goes, if_pos rfl] at hu
        rw [e, List.mem_singleton.1 hu]; simp
      · exact hu
  · exact hu
theorem endT_idem (t : Term) : endT (endT t) = endT t := by
  by_cases h2 : t.1 = 2
  · by_cases h3 : t.2.1.1.l = [] ∧ t.2.1.2 = (0, 0)
    · have e : endT t = (1, za, t.2.2.2, ⟨[]⟩) := by rw [endT, if_pos h2, if_pos h3]
      rw [e, endT, if_neg (show ¬ (1 : Int) = 2 by decide)]
    · by_cases h4 : t.2.1.1.l = [] ∨ t.2.2.1.l = t.2.2.2.l
      · have e : endT t = (1, za, t.2.2.1, ⟨[]⟩) := by rw [endT, if_pos h2, if_neg h3, if_pos h4]
        rw [e, endT, if_neg (show ¬ (1 : Int) = 2 by decide)]
      · have e : endT t = t := by rw [endT, if_pos h2, if_neg h3, if_neg h4]
        rw [e, e]
  · have e : endT t = t := by rw [endT, if_neg h2]
    rw [e, e]
theorem endsP_names (p : Prog) : bnames (endsP p) = bnames p := by
  show (p.map endB).map _ = p.map _
  rw [List.map_map]; rfl
theorem endsP_get {p : Prog} {i : Nat} {b : Block} (h : p[i]? = some b) : (endsP p)[i]? = some (endB b) := by
  show (p.map endB)[i]? = _
  rw [List.getElem?_map, h]; rfl
theorem check_goes0 {p : Prog} (h : checkE p = 0) {b : Block} (hb : b ∈ p) : ∀ t ∈ goes (endB b).2.2, t ∈ bnames p := fun _ ht => check_goes h hb (endT_goes _ _ ht)
theorem kept_prog {p : Prog} (h : checkE p = 0) {R : List Int} (hR : IsReach (p.length : Nat) (gSort (edgesOf (endsP p))) [0] R) : Kept p (keepP (endsP p) R p.length) := by
  have hl : (endsP p).length = p.length := endsP_len p
  have hf := check_facts h
  have h0 : (0 : Int) ∈ R := hR.from' 0 (by simp) (decide_eq_true (by omega))
  refine ⟨h, ?_, ?_, ?_, ?_⟩
  · intro b' hb'
    obtain ⟨k, _, _, h3⟩ := keepP_mem.1 hb'
    obtain ⟨b, hb, e⟩ := List.mem_map.1 (List.mem_of_getElem? h3)
    exact ⟨b, hb, e.symm⟩
  · have h1 := (keepP_sub (endsP p) R).map (fun b : Block => b.1.l)
    rw [hl] at h1
    have h2 : (bnames (endsP p)).Nodup := by rw [endsP_names]; exact check_nodup h
    exact List.Nodup.sublist h1 h2
  · have hlt : 0 < p.length := by omega
    refine ⟨p[0], List.getElem?_eq_getElem hlt, ?_⟩
    have e : p.length = (p.length - 1) + 1 := by omega
    rw [keepP, e, List.range_succ_eq_map, List.filter_cons, if_pos (decide_eq_true (by exact h0)), List.filterMap_cons, endsP_get (List.getElem?_eq_getElem hlt)]
    rfl
  · intro b' hb' t ht
    obtain ⟨k, h1, h2, h3⟩ := keepP_mem.1 hb'
    obtain ⟨b, hb, e⟩ := List.mem_map.1 (List.mem_of_getElem? h3)
    have hn : t ∈ bnames (endsP p) := by rw [endsP_names]; rw [← e] at ht; exact check_goes0 h hb t ht
    obtain ⟨b2, h4, h5, h6⟩ := at_name hn
    have hed := goes_edge h3 ht hn
    have hlt := (List.getElem?_eq_some_iff.1 h5).1
    rw [hl] at hlt
    have hin : bIdx (endsP p) t ∈ R := hR.closed _ h2 _ (nxt_mem.2 ⟨(gSort_mem _ _).2 hed, decide_eq_true (by omega), decide_eq_true (by omega)⟩)
    rw [← h6]
    refine name_mem (keepP_mem.2 ⟨(bIdx (endsP p) t).toNat, hlt, ?_, h5⟩)
    rw [Int.toNat_of_nonneg h4.1]
    exact hin
theorem kept_vars {p q : Prog} (h : Kept p q) : ∀ t ∈ varsOf q, t ∈ varsOf p := by
  intro t ht
  have h0 : t ≠ [] := fun e => by
    have := vIdx_mem ht
    rw [e] at this
    have := vIdx_nil q
    omega
  rcases vars_mem q ht with h1 | ⟨b', hb', h1⟩
  · cases h1
  · obtain ⟨b, hb, rfl⟩ := h.src b' hb'
    have hv := (vars_has p nil_sorted).1 b hb
    rcases h1 with h1 | ⟨x, hx, h1⟩
    · have e : (endT b.2.2).2.1.1.l = b.2.2.2.1.1.l ∨ (endT b.2.2).2.1.1.l = [] := by
        unfold endT
        split
        · split
          · exact .inr rfl
          · split
            · exact .inr rfl
            · exact .inl rfl
        · exact .inl rfl
      have h1 : t = (endT b.2.2).2.1.1.l := h1
      rcases e with e | e
      · rw [h1, e] at h0 ⊢; exact hv.2 h0
      · rw [h1, e] at h0; exact absurd rfl h0
    · exact hv.1 x hx t h1 h0
theorem rest_valA {p q : Prog} (hs : ∀ t ∈ varsOf q, t ∈ varsOf p) {e : List Nm} {a : Atm} (ha : a.1.l ≠ [] → a.1.l ∈ varsOf q) : valA q (restE p q e) a = valA p e a := by
  unfold valA
  by_cases h0 : a.1.l = []
  · rw [if_pos h0, if_pos h0]
  · have hq := ha h0
    rw [if_neg h0, if_neg h0, if_pos (vIdx_mem hq).1, if_pos (vIdx_mem (hs _ hq)).1, restE_idx hq]; rfl
theorem rest_do {p q : Prog} (hs : ∀ t ∈ varsOf q, t ∈ varsOf p) {inn : List Nm} {x : Stmt} (hx : stmtB x = true) (hm : ∀ t ∈ sVars x, t ≠ [] → t ∈ varsOf q) {s1 s2 : StE} (hl : s1.2.1.length = (varsOf p).length) (h : s2.2 = (restE p q s1.2.1, s1.2.2)) :
    (doS q inn s2 x).2 = (restE p q (doS p inn s1 x).2.1, (doS p inn s1 x).2.2) := by
  have hA : valA q s2.2.1 x.2.2.2.1 = valA p s1.2.1 x.2.2.2.1 := by rw [h]; exact rest_valA hs (hm _ (by simp))
  have hB : valA q s2.2.1 x.2.2.2.2 = valA p s1.2.1 x.2.2.2.2 := by rw [h]; exact rest_valA hs (hm _ (by simp))
  have h1 : s2.2.1 = restE p q s1.2.1 := by rw [h]
  have h2 : s2.2.2 = s1.2.2 := by rw [h]
  rcases stmtB_var hx with ⟨hk, _, _, h4⟩ | ⟨hk, h4⟩ | ⟨hk, _⟩
  · rw [doS, doS, if_pos hk, if_pos hk, hA, hB, h1, h2]
    dsimp only
    rw [restE_set hs hl (hm _ (by simp) h4)]
  · rw [doS, doS, if_neg (by omega), if_pos hk, if_neg (by omega), if_pos hk, h1, h2]
    dsimp only
    rw [restE_set hs hl (hm _ (by simp) h4)]
  · rw [doS, doS, if_neg (by omega), if_neg (by omega), if_pos hk, if_neg (by omega), if_neg (by omega), if_pos hk, hA, h1, h2]
theorem rest_all {p q : Prog} (hs : ∀ t ∈ varsOf q, t ∈ varsOf p) {inn : List Nm} : ∀ (l : List Stmt) {s1 s2 : StE}, (∀ x ∈ l, stmtB x = true) → (∀ x ∈ l, ∀ t ∈ sVars x, t ≠ [] → t ∈ varsOf q) → s1.2.1.length = (varsOf p).length → s2.2 = (restE p q s1.2.1, s1.2.2) →
    (doAll q inn s2 l).2 = (restE p q (doAll p inn s1 l).2.1, (doAll p inn s1 l).2.2)
  | [], _, _, _, _, _, h => h
  | x :: r, s1, s2, h1, h2, hl, h => by
    have hd := rest_do hs (inn := inn) (h1 x List.mem_cons_self) (h2 x List.mem_cons_self) hl h
    rw [doAll, doAll, List.foldl_cons, List.foldl_cons]
    exact rest_all hs r (fun y hy => h1 y (List.mem_cons_of_mem _ hy)) (fun y hy => h2 y (List.mem_cons_of_mem _ hy)) ((doS_blk p inn s1 x).2.trans hl) hd
/-- Two runs that stand alike. -/
theorem itS_bisim {p q : Prog} {inn : List Nm} (Rl : StE → StE → Prop)
    (hs : ∀ s1 s2, Rl s1 s2 → (folS p (runB p inn s1)).2 = (folS q (runB q inn s2)).2 ∧ (folS p (runB p inn s1)).1.2.2 = (folS q (runB q inn s2)).1.2.2 ∧ ((folS p (runB p inn s1)).2 = true → Rl (folS p (runB p inn s1)).1 (folS q (runB q inn s2)).1))
    {s1 s2 : StE} (h : Rl s1 s2) (ho : s1.2.2 = s2.2.2) : ∀ k, (itS p inn s1 k).1.length = (itS q inn s2 k).1.length ∧ (itS p inn s1 k).2.2 = (itS q inn s2 k).2.2 ∧ (itS p inn s1 k).2.1.2.2 = (itS q inn s2 k).2.1.2.2 ∧
    ((itS p inn s1 k).2.2 = true → Rl (itS p inn s1 k).2.1 (itS q inn s2 k).2.1)
  | 0 => ⟨rfl, rfl, ho, fun _ => h⟩
  | k + 1 => by
    have hi := itS_bisim Rl hs h ho k
    by_cases h1 : (itS p inn s1 k).2.2 = true
    · have h2 : (itS q inn s2 k).2.2 = true := hi.2.1 ▸ h1
      have hs := hs _ _ (hi.2.2.2 h1)
      rw [itS_step h1, itS_step h2]
      refine ⟨?_, hs.1, hs.2.1, hs.2.2⟩
      simp only [List.length_append, List.length_singleton]
      rw [hi.1]
    · have h1 : (itS p inn s1 k).2.2 = false := by simpa using h1
      have h2 : (itS q inn s2 k).2.2 = false := hi.2.1 ▸ h1
      rw [itS_stop h1, itS_stop h2]
      exact hi
theorem goTo_goes {p : Prog} {z : StE} {t : Term} (h : t.1 = 1 ∨ t.1 = 2) : goTo p z t ∈ goes t := by
  unfold goTo goes
  rcases h with h7 | h7
  · rw [if_neg (c := t.1 = 2 ∧ valA p z.2.1 t.2.1 = (0, 0)) (fun h => by have := h.1; omega), if_pos h7]; simp
  · rw [if_neg (c := t.1 = 1) (by omega), if_pos h7]
    split <;> simp
def KRel (p q : Prog) (s1 s2 : StE) : Prop := ∃ b, p[s1.1.toNat]? = some b ∧ q[s2.1.toNat]? = some (endB b) ∧ s1.2.1.length = (varsOf p).length ∧ s2.2 = (restE p q s1.2.1, s1.2.2)
theorem atm_num {a : Atm} (h : atmB a = true) (h0 : a.1.l = []) : nOf a.2 = a.2 := by
  unfold atmB at h
  rw [if_pos h0] at h
  exact (dt h).symm
theorem kept_step {p q : Prog} (h : Kept p q) {inn : List Nm} {s1 s2 : StE} (hr : KRel p q s1 s2) :
    (folS p (runB p inn s1)).2 = (folS q (runB q inn s2)).2 ∧ (folS p (runB p inn s1)).1.2.2 = (folS q (runB q inn s2)).1.2.2 ∧ ((folS p (runB p inn s1)).2 = true → KRel p q (folS p (runB p inn s1)).1 (folS q (runB q inn s2)).1) := by
  obtain ⟨b, h1, h2, hl, he⟩ := hr
  have hb := List.mem_of_getElem? h1
  have hb2 := List.mem_of_getElem? h2
  have hs := kept_vars h
  have hB := (check_facts h.chk).2.2.2 b hb
  have hst := block_stmts hB
  have hq := (vars_has q nil_sorted).1 _ hb2
  have hd := rest_all hs (inn := inn) b.2.1 hst hq.1 hl he
  have hr1 : runB p inn s1 = doAll p inn s1 b.2.1 := by rw [runB, blkN_get h1]
  have hr2 : runB q inn s2 = doAll q inn s2 b.2.1 := by rw [runB, blkN_get h2]; rfl
  have e1 := doAll_blk p inn b.2.1 s1
  have e2 := doAll_blk q inn b.2.1 s2
  rw [hr1, hr2]
  generalize doAll p inn s1 b.2.1 = z1 at hd e1
  generalize doAll q inn s2 b.2.1 = z2 at hd e2
  have hM1 : blkN p z1.1 = b := by rw [e1.1]; exact blkN_get h1
  have hM2 : blkN q z2.1 = endB b := by rw [e2.1]; exact blkN_get h2
  have ho : z2.2.2 = z1.2.2 := by rw [hd]
  have hz : z2.2.1 = restE p q z1.2.1 := by rw [hd]
  have hk : (endB b).2.2.1 = 3 ↔ b.2.2.1 = 3 := by
    show (endT b.2.2).1 = 3 ↔ _
    unfold endT
    split
    · rename_i h2
      split
      · dsimp only; omega
      · split
        · dsimp only; omega
        · exact Iff.rfl
    · exact Iff.rfl
  unfold folS
  rw [hM1, hM2]
  by_cases h3 : b.2.2.1 = 3
  · rw [if_pos h3, if_pos (hk.2 h3)]
    exact ⟨rfl, ho.symm, fun h => by cases h⟩
  · rw [if_neg h3, if_neg (fun h => h3 (hk.1 h))]
    rw [blockB, Bool.and_eq_true, Bool.and_eq_true] at hB
    have hT := hB.1.2
    have hgo : goTo p z1 b.2.2 = goTo q z2 (endB b).2.2 := by
      show goTo p z1 b.2.2 = goTo q z2 (endT b.2.2)
      by_cases h4 : b.2.2.1 = 2
      · have hat : atmB b.2.2.2.1 = true := by
          unfold termB at hT
          rw [if_neg (by omega), if_pos h4, Bool.and_eq_true] at hT
          exact hT.2
        by_cases h5 : b.2.2.2.1.1.l = [] ∧ b.2.2.2.1.2 = (0, 0)
        · have e : endT b.2.2 = (1, za, b.2.2.2.2.2, ⟨[]⟩) := by rw [endT, if_pos h4, if_pos h5]
          have ev : valA p z1.2.1 b.2.2.2.1 = (0, 0) := by rw [valA, if_pos h5.1, h5.2]; decide
          rw [e, goTo, goTo, if_pos ⟨h4, ev⟩, if_neg (fun h => absurd h.1 (show ¬ (1 : Int) = 2 by decide))]
        · by_cases h6 : b.2.2.2.1.1.l = [] ∨ b.2.2.2.2.1.l = b.2.2.2.2.2.l
          · have e : endT b.2.2 = (1, za, b.2.2.2.2.1, ⟨[]⟩) := by rw [endT, if_pos h4, if_neg h5, if_pos h6]
            rw [e, goTo, goTo, if_neg (c := _ ∧ valA q _ _ = _) (fun h => absurd h.1 (show ¬ (1 : Int) = 2 by decide))]
            dsimp only
            split
            · rename_i h7
              rcases h6 with h6 | h6
              · exfalso
                have ev : valA p z1.2.1 b.2.2.2.1 = b.2.2.2.1.2 := by rw [valA, if_pos h6, atm_num hat h6]
                exact h5 ⟨h6, ev ▸ h7.2⟩
              · exact h6.symm
            · rfl
          · have e : endT b.2.2 = b.2.2 := by rw [endT, if_pos h4, if_neg h5, if_neg h6]
            have hv : valA q z2.2.1 b.2.2.2.1 = valA p z1.2.1 b.2.2.2.1 := by
              rw [hz]
              refine rest_valA hs fun h0 => ?_
              have := hq.2
              rw [show (endB b).2.2 = b.2.2 from e] at this
              exact this h0
            rw [e, goTo, goTo, hv]
      · have e : endT b.2.2 = b.2.2 := by rw [endT, if_neg h4]
        rw [e, goTo, goTo, if_neg (fun h => h4 h.1), if_neg (fun h => h4 h.1)]
    refine ⟨rfl, ho.symm, fun _ => ?_⟩
    have hgq : goTo q z2 (endB b).2.2 ∈ goes (endB b).2.2 := by
      have : (endB b).2.2.1 = 1 ∨ (endB b).2.2.1 = 2 := by
        have hk2 := term_kind h.chk hb
        show (endT b.2.2).1 = 1 ∨ (endT b.2.2).1 = 2
        unfold endT
        split
        · split
          · exact .inl rfl
          · split
            · exact .inl rfl
            · exact .inr (by assumption)
        · rename_i h9
          exact .inl (by omega)
      exact goTo_goes this
    have hnq := h.closed _ hb2 _ hgq
    obtain ⟨b2, g1, g2, g3⟩ := at_name hnq
    obtain ⟨b3, hb3, e3⟩ := h.src b2 (List.mem_of_getElem? g2)
    have hnp : goTo q z2 (endB b).2.2 ∈ bnames p := by rw [← g3, e3]; exact name_mem (b := b3) hb3
    obtain ⟨b4, g4, g5, g6⟩ := at_name hnp
    have e4 : b4 = b3 := by
      obtain ⟨k, hk3⟩ := List.getElem?_of_mem hb3
      have hnm : b4.1.l = b3.1.l := by rw [g6, ← g3, e3]; rfl
      have e5 := name_inj (check_nodup h.chk) g5 hk3 hnm
      rw [e5, hk3] at g5
      exact (Option.some.inj g5).symm
    refine ⟨b4, ?_, ?_, ?_, ?_⟩
    · show p[(bIdx p (goTo p z1 b.2.2)).toNat]? = some b4
      rw [hgo]; exact g5
    · show q[(bIdx q (goTo q z2 (endB b).2.2)).toNat]? = some (endB b4)
      rw [g2, e3, e4]
    · exact e1.2.trans hl
    · exact hd
theorem kept_start {p q : Prog} (h : Kept p q) : KRel p q (start0 p) (start0 q) := by
  obtain ⟨b, h1, h2⟩ := h.head
  refine ⟨b, h1, h2, by simp [start0], ?_⟩
  show (List.replicate (varsOf q).length ((0, 0) : Nm), (0 : Int), ([] : List Nm)) = (restE p q (List.replicate (varsOf p).length ((0, 0) : Nm)), (0 : Int), ([] : List Nm))
  refine Prod.ext ?_ rfl
  refine (List.eq_replicate_iff.2 ⟨restE_len _ _ _, fun x hx => ?_⟩).symm
  obtain ⟨t, _, rfl⟩ := List.mem_map.1 hx
  rw [List.getElem?_replicate]
  split <;> rfl
theorem kept_it {p q : Prog} (h : Kept p q) (inn : List Nm) (k : Nat) : (itS p inn (start0 p) k).1.length = (itS q inn (start0 q) k).1.length ∧ (itS p inn (start0 p) k).2.2 = (itS q inn (start0 q) k).2.2 ∧ (itS p inn (start0 p) k).2.1.2.2 = (itS q inn (start0 q) k).2.1.2.2 := by
  have r := itS_bisim (inn := inn) (KRel p q) (fun _ _ hr => kept_step h hr) (kept_start h) rfl k
  exact ⟨r.1, r.2.1, r.2.2.1⟩
end Go.Proofs
end
section
namespace Go.Proofs
open Go.Sy
set_option maxRecDepth 20000
set_option maxHeartbeats 4000000
/-! PruneRuns: the law. Blocks that are put together are gone through at once. -/
theorem vars_iff {p : Prog} {t : Bs8} : t ∈ varsOf p ↔ t ≠ [] ∧ ∃ b ∈ p, t = b.2.2.2.1.1.l ∨ ∃ s ∈ b.2.1, t ∈ sVars s := by
  constructor
  · intro ht
    refine ⟨fun e => ?_, ?_⟩
    · have h1 := vIdx_mem ht
      rw [e] at h1
      have := vIdx_nil p
      omega
    · rcases vars_mem p ht with h | h
      · cases h
      · exact h
  · rintro ⟨h0, b, hb, h⟩
    have hv := (vars_has p nil_sorted).1 b hb
    rcases h with h | ⟨s, hs, h⟩
    · rw [h] at h0 ⊢; exact hv.2 h0
    · exact hv.1 s hs t h h0
theorem check_mk {q : Prog} (h1 : 1 ≤ q.length) (h2 : q.length ≤ 128) (h3 : stmtsN q ≤ 512) (h4 : ∀ b ∈ q, blockB b = true) (h5 : (varsOf q).length ≤ 64) (h6 : (bnames q).Nodup) (h7 : ∀ b ∈ q, ∀ t ∈ goes b.2.2, t ∈ bnames q) : checkE q = 0 := by
  unfold checkE
  rw [if_neg (by omega), if_pos (List.all_eq_true.2 h4), if_neg (by omega), if_pos h6, if_pos (List.all_eq_true.2 fun b hb => List.all_eq_true.2 fun t ht => decide_eq_true (h7 b hb t ht))]
/-- A program as pruning leaves it. -/
structure Whole (q : Prog) : Prop where
  chk : checkE q = 0
  ends : endsP q = q
  all : ∀ S : Int → Prop, S 0 → (∀ e ∈ edgesOf q, S e.1 → S e.2) → ∀ i : Nat, i < q.length → S (i : Int)
structure Pair (q : Prog) (a t : Nat) (x y : Block) : Prop where
  hx : q[a]? = some x
  hy : q[t]? = some y
  k : x.2.2.1 = 1
  to : bIdx q x.2.2.2.2.1.l = (t : Int)
  pos : 0 < t
  ne : t ≠ a
  one : ∀ e ∈ edgesOf q, e.2 = (t : Int) → e.1 = (a : Int)
theorem firstP_tgt {q : Prog} {z : Nat × Nat} : ∀ {i : Nat}, firstP q i = some z → ∃ j, tgt q j = some z
  | 0, h => by cases h
  | i + 1, h => by
    rw [firstP_succ] at h
    cases h1 : firstP q i with
    | some x => rw [h1] at h; cases h; exact firstP_tgt h1
    | none => rw [h1] at h; exact ⟨i, h⟩
theorem pair_of {q : Prog} {a t : Nat} (h : pairP q = some (a, t)) : ∃ x y, Pair q a t x y := by
  obtain ⟨j, hj⟩ := firstP_tgt h
  unfold tgt at hj
  split at hj
  · rename_i x hx
    split at hj
    · rename_i hok
      simp only [okP, Bool.and_eq_true, decide_eq_true_eq, Bool.not_eq_true', decide_eq_false_iff_not] at hok
      simp only [Option.some.injEq, Prod.mk.injEq] at hj
      obtain ⟨rfl, rfl⟩ := hj
      obtain ⟨⟨⟨hk, hpos⟩, hne⟩, hin⟩ := hok
      have hr := toI_range q x
      have hlt : (toI q x).toNat < q.length := by omega
      have hto : bIdx q x.2.2.2.2.1.l = toI q x := by unfold bIdx toI at *; omega
      have hmem : x.2.2.2.2.1.l ∈ bnames q := idxS_some (i := 0) (by omega) (Int.le_of_lt hpos)
      refine ⟨x, q[(toI q x).toNat], hx, List.getElem?_eq_getElem hlt, hk, by omega, by omega, by omega, fun e he he2 => ?_⟩
      have hed := goes_edge hx (t := x.2.2.2.2.1.l) (by rw [goes, if_pos hk]; simp) hmem
      rw [indeg, List.countP_eq_length_filter] at hin
      obtain ⟨z, hz⟩ := List.length_eq_one_iff.1 hin
      have m1 : e ∈ (gSort (edgesOf q)).filter fun e => decide (e.2 = toI q x) := List.mem_filter.2 ⟨(gSort_mem _ _).2 he, decide_eq_true (by omega)⟩
      have m2 : ((j : Int), bIdx q x.2.2.2.2.1.l) ∈ (gSort (edgesOf q)).filter fun e => decide (e.2 = toI q x) := List.mem_filter.2 ⟨(gSort_mem _ _).2 hed, decide_eq_true hto⟩
      rw [hz, List.mem_singleton] at m1 m2
      rw [m1, ← m2]
    · cases hj
  · cases hj
def phi (t i : Nat) : Nat := if i < t then i else i - 1
theorem join_get {q : Prog} {a t : Nat} {x y : Block} (P : Pair q a t x y) {i : Nat} {b : Block} (hi : i ≠ t) (hb : q[i]? = some b) : (joinP q a t)[phi t i]? = some (if i = a then catB x y else b) := by
  have hlt := (List.getElem?_eq_some_iff.1 P.hx).1
  rw [joinP_eq P.hx P.hy, List.getElem?_eraseIdx]
  have e : (if phi t i < t then (q.set a (catB x y))[phi t i]? else (q.set a (catB x y))[phi t i + 1]?) = (q.set a (catB x y))[i]? := by
    unfold phi
    by_cases h : i < t
    · rw [if_pos h, if_pos h]
    · rw [if_neg h, if_neg (by omega), show i - 1 + 1 = i by omega]
  rw [e, List.getElem?_set]
  by_cases h : a = i
  · rw [if_pos h, if_pos (by omega), if_pos h.symm]
  · rw [if_neg h, if_neg (fun h2 => h h2.symm), hb]
theorem join_inv {q : Prog} {a t : Nat} {x y : Block} (P : Pair q a t x y) {j : Nat} {b' : Block} (hj : (joinP q a t)[j]? = some b') : ∃ i b, i ≠ t ∧ j = phi t i ∧ q[i]? = some b ∧ b' = if i = a then catB x y else b := by
  have hlen := joinP_len (List.getElem?_eq_some_iff.1 P.hy).1 (List.getElem?_eq_some_iff.1 P.hx).1
  have hjl := (List.getElem?_eq_some_iff.1 hj).1
  have key : ∀ i, i ≠ t → j = phi t i → i < q.length → ∃ i b, i ≠ t ∧ j = phi t i ∧ q[i]? = some b ∧ b' = if i = a then catB x y else b := fun i h1 h2 h3 => by
    have h4 := join_get P h1 (List.getElem?_eq_getElem h3)
    rw [← h2, hj] at h4
    exact ⟨i, q[i], h1, h2, List.getElem?_eq_getElem h3, Option.some.inj h4⟩
  by_cases h : j < t
  · exact key j (by omega) (by rw [phi, if_pos h]) (by omega)
  · exact key (j + 1) (by omega) (by rw [phi, if_neg (by omega)]; omega) (by omega)
theorem join_sub {q : Prog} {a t : Nat} {x y : Block} (P : Pair q a t x y) : (bnames (joinP q a t)).Sublist (bnames q) := by
  have e : (q.set a (catB x y)).map (fun b : Block => b.1.l) = q.map fun b : Block => b.1.l := by
    apply List.ext_getElem?
    intro i
    rw [List.getElem?_map, List.getElem?_map, List.getElem?_set]
    by_cases h : a = i
    · have hlt := (List.getElem?_eq_some_iff.1 P.hx).1
      rw [if_pos h, if_pos (by omega), ← h, P.hx]; rfl
    · rw [if_neg h]
  show ((joinP q a t).map _).Sublist _
  rw [joinP_eq P.hx P.hy]
  have h := (List.eraseIdx_sublist (q.set a (catB x y)) t).map (fun b : Block => b.1.l)
  rw [e] at h
  exact h
theorem join_nd {q : Prog} (hc : checkE q = 0) {a t : Nat} {x y : Block} (P : Pair q a t x y) : (bnames (joinP q a t)).Nodup := List.Nodup.sublist (join_sub P) (check_nodup hc)
/-- Where a name stands, behind the putting together. -/
theorem join_idx {q : Prog} (hc : checkE q = 0) {a t : Nat} {x y : Block} (P : Pair q a t x y) {u : Bs8} (hu : u ∈ bnames q) (hne : bIdx q u ≠ (t : Int)) :
    ∃ j : Nat, j ≠ t ∧ j < q.length ∧ bIdx q u = (j : Int) ∧ bIdx (joinP q a t) u = ((phi t j : Nat) : Int) ∧ u ∈ bnames (joinP q a t) := by
  obtain ⟨b, h1, h2, h3⟩ := at_name hu
  have hj : (bIdx q u).toNat ≠ t := by omega
  have h4 := join_get P hj h2
  have hn : (if (bIdx q u).toNat = a then catB x y else b).1.l = u := by
    split
    · rename_i h5
      rw [h5, P.hx] at h2
      rw [← h3, ← Option.some.inj h2]; rfl
    · exact h3
  have h5 := idx_of (join_nd hc P) h4
  rw [hn] at h5
  refine ⟨(bIdx q u).toNat, hj, (List.getElem?_eq_some_iff.1 h2).1, by omega, h5, ?_⟩
  rw [← hn]
  exact name_mem (List.mem_of_getElem? h4)
theorem pair_term {q : Prog} (hc : checkE q = 0) {a t : Nat} {x y : Block} (P : Pair q a t x y) : x.2.2.2.1.1.l = [] := by
  have hB := (check_facts hc).2.2.2 x (List.mem_of_getElem? P.hx)
  rw [blockB, Bool.and_eq_true, Bool.and_eq_true] at hB
  have hT := hB.1.2
  unfold termB at hT
  rw [if_pos P.k] at hT
  simp only [Bool.and_eq_true, decide_eq_true_eq] at hT
  rw [hT.2.2]; rfl
abbrev loB : LO Bs8 where
  lt a b := a < b
  dec a b := inferInstanceAs (Decidable (a < b))
  deq := inferInstance
  irrefl := slt_irrefl
  trans := slt_trans
  tri := slt_tri
theorem sorted_ext {l m : List Bs8} (hl : SortedS l) (hm : SortedS m) (h : ∀ x, x ∈ l ↔ x ∈ m) : l = m := @strict_ext Bs8 loB l m hl hm h
theorem join_vars {q : Prog} (hc : checkE q = 0) {a t : Nat} {x y : Block} (P : Pair q a t x y) : varsOf (joinP q a t) = varsOf q := by
  refine sorted_ext (vars_sorted _ nil_sorted) (vars_sorted _ nil_sorted) fun u => ?_
  have hcat : (joinP q a t)[phi t a]? = some (catB x y) := by
    have := join_get P P.ne.symm P.hx
    rwa [if_pos rfl] at this
  have hcm := List.mem_of_getElem? hcat
  constructor
  · intro h
    obtain ⟨h0, b', hb', h⟩ := vars_iff.1 h
    obtain ⟨j, hj⟩ := List.getElem?_of_mem hb'
    obtain ⟨i, b, h1, h2, h3, h4⟩ := join_inv P hj
    refine vars_iff.2 ⟨h0, ?_⟩
    split at h4
    · rw [h4] at h
      rcases h with h | ⟨s, hs, h⟩
      · exact ⟨y, List.mem_of_getElem? P.hy, .inl h⟩
      · rcases List.mem_append.1 hs with hs | hs
        · exact ⟨x, List.mem_of_getElem? P.hx, .inr ⟨s, hs, h⟩⟩
        · exact ⟨y, List.mem_of_getElem? P.hy, .inr ⟨s, hs, h⟩⟩
    · rw [h4] at h
      exact ⟨b, List.mem_of_getElem? h3, h⟩
  · intro h
    obtain ⟨h0, b, hb, h⟩ := vars_iff.1 h
    obtain ⟨i, hi⟩ := List.getElem?_of_mem hb
    refine vars_iff.2 ⟨h0, ?_⟩
    by_cases e1 : i = t
    · rw [e1, P.hy] at hi
      have e := Option.some.inj hi
      rw [← e] at h
      rcases h with h | ⟨s, hs, h⟩
      · exact ⟨_, hcm, .inl h⟩
      · exact ⟨_, hcm, .inr ⟨s, List.mem_append.2 (.inr hs), h⟩⟩
    · by_cases e2 : i = a
      · rw [e2, P.hx] at hi
        have e := Option.some.inj hi
        rw [← e] at h
        rcases h with h | ⟨s, hs, h⟩
        · rw [pair_term hc P] at h; exact absurd h h0
        · exact ⟨_, hcm, .inr ⟨s, List.mem_append.2 (.inl hs), h⟩⟩
      · have h2 := join_get P e1 hi
        rw [if_neg e2] at h2
        exact ⟨b, List.mem_of_getElem? h2, h⟩
theorem join_goes {q : Prog} (hc : checkE q = 0) {a t : Nat} {x y : Block} (P : Pair q a t x y) {i : Nat} {b : Block} (hb : q[i]? = some b) (hi : i ≠ a) {u : Bs8} (hu : u ∈ goes b.2.2) :
    ∃ j : Nat, j ≠ t ∧ j < q.length ∧ bIdx q u = (j : Int) ∧ bIdx (joinP q a t) u = ((phi t j : Nat) : Int) ∧ u ∈ bnames (joinP q a t) := by
  have hn := check_goes hc (List.mem_of_getElem? hb) hu
  refine join_idx hc P hn fun e => ?_
  have := P.one _ (goes_edge hb hu hn) e
  dsimp only at this
  omega
theorem join_check {q : Prog} (hc : checkE q = 0) {a t : Nat} {x y : Block} (P : Pair q a t x y) : checkE (joinP q a t) = 0 := by
  have hf := check_facts hc
  have lx := (List.getElem?_eq_some_iff.1 P.hx).1
  have ly := (List.getElem?_eq_some_iff.1 P.hy).1
  have hne := P.ne
  have hlen := joinP_len ly lx
  refine check_mk (by omega) (by omega) ?_ ?_ ?_ (join_nd hc P) ?_
  · rw [joinP_stmts P.ne ly lx]; exact stmts_512' hc
  · intro b' hb'
    obtain ⟨j, hj⟩ := List.getElem?_of_mem hb'
    obtain ⟨i, b, h1, h2, h3, h4⟩ := join_inv P hj
    split at h4
    · have hX := hf.2.2.2 x (List.mem_of_getElem? P.hx)
      have hY := hf.2.2.2 y (List.mem_of_getElem? P.hy)
      rw [blockB, Bool.and_eq_true, Bool.and_eq_true] at hX hY
      rw [h4, blockB, Bool.and_eq_true, Bool.and_eq_true]
      refine ⟨⟨hX.1.1, hY.1.2⟩, ?_⟩
      show (x.2.1 ++ y.2.1).all stmtB = true
      rw [List.all_append, hX.2, hY.2]; rfl
    · rw [h4]; exact hf.2.2.2 b (List.mem_of_getElem? h3)
  · rw [join_vars hc P]; exact hf.2.2.1
  · intro b' hb' u hu
    obtain ⟨j, hj⟩ := List.getElem?_of_mem hb'
    obtain ⟨i, b, h1, h2, h3, h4⟩ := join_inv P hj
    split at h4
    · rw [h4] at hu
      obtain ⟨_, _, _, _, _, h5⟩ := join_goes hc P P.hy hne hu
      exact h5
    · rename_i h6
      rw [h4] at hu
      obtain ⟨_, _, _, _, _, h5⟩ := join_goes hc P h3 h6 hu
      exact h5
theorem join_whole {q : Prog} (hw : Whole q) {a t : Nat} {x y : Block} (P : Pair q a t x y) : Whole (joinP q a t) := by
  have hc := hw.chk
  have lx := (List.getElem?_eq_some_iff.1 P.hx).1
  have ly := (List.getElem?_eq_some_iff.1 P.hy).1
  have hlen := joinP_len ly lx
  have hcat : (joinP q a t)[phi t a]? = some (catB x y) := by
    have := join_get P P.ne.symm P.hx
    rwa [if_pos rfl] at this
  have hE : ∀ b ∈ q, endT b.2.2 = b.2.2 := fun b hb => by
    obtain ⟨i, hi⟩ := List.getElem?_of_mem hb
    have h1 := endsP_get hi
    rw [hw.ends, hi] at h1
    have h2 := Option.some.inj h1
    show (endB b).2.2 = _
    rw [← h2]
  refine ⟨join_check hc P, ?_, ?_⟩
  · show (joinP q a t).map endB = _
    refine (List.map_congr_left fun b' hb' => ?_).trans (List.map_id _)
    obtain ⟨j, hj⟩ := List.getElem?_of_mem hb'
    obtain ⟨i, b, h1, h2, h3, h4⟩ := join_inv P hj
    have e : endT b'.2.2 = b'.2.2 := by
      split at h4
      · rw [h4]; exact hE y (List.mem_of_getElem? P.hy)
      · rw [h4]; exact hE b (List.mem_of_getElem? h3)
    show (b'.1, b'.2.1, endT b'.2.2) = b'
    rw [e]
  · intro S h0 hS j hj
    have hpos := P.pos
    have key := hw.all (fun i => S (if i = (t : Int) then ((phi t a : Nat) : Int) else ((phi t i.toNat : Nat) : Int))) (by
      rw [if_neg (by omega), show phi t (0 : Int).toNat = 0 by unfold phi; rw [if_pos (by exact hpos)]; rfl]
      exact h0) (fun e he hs => by
      obtain ⟨i, b, u, h1, h2, h3, h4, h5⟩ := edge_inv he
      by_cases e1 : i = a
      · have e2 := e1 ▸ h1
        rw [P.hx] at e2
        have e2 := Option.some.inj e2
        rw [← e2, goes, if_pos P.k, List.mem_singleton] at h3
        rw [h5, h3, P.to, if_pos rfl]
        rw [h2, if_neg (by have := P.ne; omega), e1, Int.toNat_natCast] at hs
        exact hs
      · obtain ⟨j, g1, g2, g3, g4, g5⟩ := join_goes hc P h1 e1 h3
        rw [h5, g3, if_neg (by omega), Int.toNat_natCast]
        by_cases e3 : i = t
        · rw [h2, if_pos (by omega)] at hs
          have e4 := e3 ▸ h1
          rw [P.hy] at e4
          have e4 := Option.some.inj e4
          rw [← e4] at h3
          have := hS _ (goes_edge hcat (t := u) h3 g5) hs
          try dsimp only at this
          rw [g4] at this
          exact this
        · rw [h2, if_neg (by omega), Int.toNat_natCast] at hs
          have h6 := join_get P e3 h1
          rw [if_neg e1] at h6
          have := hS _ (goes_edge h6 (t := u) h3 g5) hs
          try dsimp only at this
          rw [g4] at this
          exact this)
    by_cases h : j < t
    · have := key j (by omega)
      try dsimp only at this
      rw [if_neg (by omega), Int.toNat_natCast, phi, if_pos h] at this
      exact this
    · have := key (j + 1) (by omega)
      try dsimp only at this
      rw [if_neg (by omega), Int.toNat_natCast, phi, if_neg (by omega), Nat.add_sub_cancel] at this
      exact this
/-! Runs that end. -/
inductive Ends (p : Prog) (inn : List Nm) : StE → Nat → List Nm → Prop
  | stop {s : StE} (h : (folS p (runB p inn s)).2 = false) : Ends p inn s 1 (folS p (runB p inn s)).1.2.2.2
  | step {s : StE} {k : Nat} {o : List Nm} (h : (folS p (runB p inn s)).2 = true) (hr : Ends p inn (folS p (runB p inn s)).1 k o) : Ends p inn s (k + 1) o
theorem itS_front {p : Prog} {inn : List Nm} {s : StE} : ∀ k, itS p inn s (k + 1) = if (folS p (runB p inn s)).2 = true then (s :: (itS p inn (folS p (runB p inn s)).1 k).1, (itS p inn (folS p (runB p inn s)).1 k).2) else ([s], folS p (runB p inn s))
  | 0 => by
    rw [itS_step (k := 0) rfl]
    show ([] ++ [s], folS p (runB p inn s)) = _
    split
    · rename_i h
      show _ = ([s], ((folS p (runB p inn s)).1, true))
      rw [← h]; rfl
    · rfl
  | k + 1 => by
    have ih := itS_front (p := p) (inn := inn) (s := s) k
    by_cases h : (folS p (runB p inn s)).2 = true
    · rw [if_pos h] at ih ⊢
      by_cases h2 : (itS p inn (folS p (runB p inn s)).1 k).2.2 = true
      · have h3 : (itS p inn s (k + 1)).2.2 = true := by rw [ih]; exact h2
        rw [itS_step h3, itS_step h2, ih]; rfl
      · have h2 : (itS p inn (folS p (runB p inn s)).1 k).2.2 = false := by simpa using h2
        have h3 : (itS p inn s (k + 1)).2.2 = false := by rw [ih]; exact h2
        rw [itS_stop h3, itS_stop h2, ih]
    · rw [if_neg h] at ih ⊢
      have h3 : (itS p inn s (k + 1)).2.2 = false := by rw [ih]; simpa using h
      rw [itS_stop h3, ih]
theorem ends_it {p : Prog} {inn : List Nm} {s : StE} {k : Nat} {o : List Nm} (h : Ends p inn s k o) : ∀ m, k ≤ m → (itS p inn s m).2.2 = false ∧ (itS p inn s m).1.length = k ∧ (itS p inn s m).2.1.2.2.2 = o := by
  induction h with
  | stop h =>
    intro m hm
    obtain ⟨m, rfl⟩ : ∃ m', m = m' + 1 := ⟨m - 1, by omega⟩
    rw [itS_front, if_neg (by rw [h]; decide)]
    exact ⟨h, rfl, rfl⟩
  | step h _ ih =>
    intro m hm
    obtain ⟨m, rfl⟩ : ∃ m', m = m' + 1 := ⟨m - 1, by omega⟩
    rw [itS_front, if_pos h]
    have := ih m (by omega)
    exact ⟨this.1, by rw [List.length_cons, this.2.1], this.2.2⟩
theorem it_ends {p : Prog} {inn : List Nm} : ∀ (m : Nat) (s : StE), (itS p inn s m).2.2 = false → Ends p inn s (itS p inn s m).1.length (itS p inn s m).2.1.2.2.2
  | 0, _, h => by cases h
  | m + 1, s, h => by
    rw [itS_front] at h ⊢
    by_cases h1 : (folS p (runB p inn s)).2 = true
    · rw [if_pos h1] at h ⊢
      exact .step h1 (it_ends m _ h)
    · rw [if_neg h1] at h ⊢
      exact .stop h
theorem doS_mv (p : Prog) (inn : List Nm) (i j : Int) (e : List Nm × Int × List Nm) (x : Stmt) : doS p inn (j, e) x = (j, (doS p inn (i, e) x).2) := by
  unfold doS
  split
  · rfl
  · split
    · rfl
    · split
      · rfl
      · rfl
theorem doAll_mv (p : Prog) (inn : List Nm) (i j : Int) : ∀ (l : List Stmt) (e : List Nm × Int × List Nm), doAll p inn (j, e) l = (j, (doAll p inn (i, e) l).2)
  | [], _ => rfl
  | x :: r, e => by
    have h1 := doS_mv p inn i j e x
    have h2 := doS_mv p inn i i e x
    rw [doAll, doAll, List.foldl_cons, List.foldl_cons, h1, h2]
    exact doAll_mv p inn i j r _
theorem doS_vars {p q : Prog} (h : varsOf p = varsOf q) (inn : List Nm) (s : StE) (x : Stmt) : doS p inn s x = doS q inn s x := by
  unfold doS setAt valA vIdx
  rw [h]
theorem doAll_vars {p q : Prog} (h : varsOf p = varsOf q) (inn : List Nm) (s : StE) (l : List Stmt) : doAll p inn s l = doAll q inn s l := by
  have : doS p inn = doS q inn := funext fun s => funext fun x => doS_vars h inn s x
  rw [doAll, doAll, this]
theorem goTo_vars {p q : Prog} (h : varsOf p = varsOf q) (i j : Int) (e : List Nm × Int × List Nm) (t : Term) : goTo p (i, e) t = goTo q (j, e) t := by
  unfold goTo valA vIdx
  rw [h]
theorem runB_at {p : Prog} {inn : List Nm} {i : Nat} {b : Block} (h : p[i]? = some b) (e : List Nm × Int × List Nm) : runB p inn ((i : Int), e) = ((i : Int), (doAll p inn (0, e) b.2.1).2) := by
  rw [runB, blkN_get (i := (i : Int)) (b := b) (by rw [Int.toNat_natCast]; exact h)]
  exact doAll_mv p inn 0 i b.2.1 e
theorem folS_at {p : Prog} {i : Nat} {b : Block} (h : p[i]? = some b) (e : List Nm × Int × List Nm) : folS p ((i : Int), e) = if b.2.2.1 = 3 then (((i : Int), e), false) else ((bIdx p (goTo p ((i : Int), e) b.2.2), e), true) := by
  rw [folS, blkN_get (i := (i : Int)) (b := b) (by rw [Int.toNat_natCast]; exact h)]
theorem join_ends {q : Prog} (hc : checkE q = 0) {a t : Nat} {x y : Block} (P : Pair q a t x y) {inn : List Nm} : ∀ (n k : Nat), k ≤ n → ∀ (i : Nat) (e : List Nm × Int × List Nm) (o : List Nm), i ≠ t → i < q.length → Ends q inn ((i : Int), e) k o → ∃ k', k' ≤ k ∧ Ends (joinP q a t) inn (((phi t i : Nat) : Int), e) k' o
  | 0, k, hk, i, e, o, _, _, h => by cases h <;> omega
  | n + 1, k, hk, i, e, o, hi, hlt, h => by
    have hV := join_vars hc P
    have hb : q[i]? = some q[i] := List.getElem?_eq_getElem hlt
    generalize q[i] = b at hb
    have hr := join_get P hi hb
    by_cases e1 : i = a
    · subst e1
      rw [P.hx] at hb
      have e2 := Option.some.inj hb
      subst e2
      rw [if_pos rfl] at hr
      have hf : folS q (runB q inn ((i : Int), e)) = (((t : Int), (doAll q inn (0, e) x.2.1).2), true) := by
        rw [runB_at P.hx, folS_at P.hx, if_neg (by have := P.k; omega), goTo, if_neg (fun h => by have := P.k; omega), P.to]
      have hrr : runB (joinP q i t) inn (((phi t i : Nat) : Int), e) = (((phi t i : Nat) : Int), (doAll q inn (0, (doAll q inn (0, e) x.2.1).2) y.2.1).2) := by
        rw [runB_at hr]
        show (((phi t i : Nat) : Int), (doAll (joinP q i t) inn (0, e) (x.2.1 ++ y.2.1)).2) = _
        rw [doAll_vars hV, doAll, List.foldl_append, ← doAll, ← doAll, doAll_mv q inn 0 0 x.2.1 e]
      cases h with
      | stop h => rw [hf] at h; cases h
      | step h hr2 =>
        rename_i k
        rw [hf] at hr2
        generalize (doAll q inn (0, e) x.2.1).2 = e1 at hr2 hrr
        have hg := runB_at (inn := inn) P.hy e1
        by_cases h3 : y.2.2.1 = 3
        · cases hr2 with
          | stop h4 =>
            refine ⟨1, by omega, ?_⟩
            have hs : folS (joinP q i t) (runB (joinP q i t) inn (((phi t i : Nat) : Int), e)) = ((((phi t i : Nat) : Int), (doAll q inn (0, e1) y.2.1).2), false) := by
              rw [hrr, folS_at hr]
              show (if y.2.2.1 = 3 then _ else _) = _
              rw [if_pos h3]
            have h5 := Ends.stop (p := joinP q i t) (inn := inn) (s := (((phi t i : Nat) : Int), e)) (by rw [hs])
            rw [hs] at h5
            rw [hg, folS_at P.hy, if_pos h3]
            exact h5
          | step h4 _ => rw [hg, folS_at P.hy, if_pos h3] at h4; cases h4
        · have hk3 : y.2.2.1 = 1 ∨ y.2.2.1 = 2 := by have := term_kind hc (List.mem_of_getElem? P.hy); omega
          cases hr2 with
          | stop h4 => rw [hg, folS_at P.hy, if_neg h3] at h4; cases h4
          | step h4 h5 =>
            rename_i k2
            rw [hg, folS_at P.hy, if_neg h3] at h5
            generalize (doAll q inn (0, e1) y.2.1).2 = e2 at h5 hrr
            obtain ⟨j, g1, g2, g3, g4, _⟩ := join_goes hc P P.hy P.ne (goTo_goes (p := q) (z := ((t : Int), e2)) hk3)
            rw [g3] at h5
            obtain ⟨k', hk', h6⟩ := join_ends hc P n k2 (by omega) j e2 o g1 g2 h5
            have hs : folS (joinP q i t) (runB (joinP q i t) inn (((phi t i : Nat) : Int), e)) = ((((phi t j : Nat) : Int), e2), true) := by
              rw [hrr, folS_at hr]
              show (if y.2.2.1 = 3 then _ else _) = _
              rw [if_neg h3]
              show ((bIdx (joinP q i t) (goTo (joinP q i t) (((phi t i : Nat) : Int), e2) y.2.2), e2), true) = _
              rw [goTo_vars hV _ (t : Int), g4]
            refine ⟨k' + 1, by omega, .step (by rw [hs]) ?_⟩
            rw [hs]
            exact h6
    · rw [if_neg e1] at hr
      have hrr : runB (joinP q a t) inn (((phi t i : Nat) : Int), e) = (((phi t i : Nat) : Int), (doAll q inn (0, e) b.2.1).2) := by rw [runB_at hr, doAll_vars hV]
      have hg := runB_at (inn := inn) hb e
      generalize (doAll q inn (0, e) b.2.1).2 = e2 at hrr hg
      by_cases h3 : b.2.2.1 = 3
      · have hs : folS (joinP q a t) (runB (joinP q a t) inn (((phi t i : Nat) : Int), e)) = ((((phi t i : Nat) : Int), e2), false) := by rw [hrr, folS_at hr, if_pos h3]
        cases h with
        | stop h4 =>
          refine ⟨1, by omega, ?_⟩
          have h5 := Ends.stop (p := joinP q a t) (inn := inn) (s := (((phi t i : Nat) : Int), e)) (by rw [hs])
          rw [hs] at h5
          rw [hg, folS_at hb, if_pos h3]
          exact h5
        | step h4 _ => rw [hg, folS_at hb, if_pos h3] at h4; cases h4
      · have hk3 : b.2.2.1 = 1 ∨ b.2.2.1 = 2 := by have := term_kind hc (List.mem_of_getElem? hb); omega
        cases h with
        | stop h4 => rw [hg, folS_at hb, if_neg h3] at h4; cases h4
        | step h4 h5 =>
          rename_i k2
          rw [hg, folS_at hb, if_neg h3] at h5
          obtain ⟨j, g1, g2, g3, g4, _⟩ := join_goes hc P hb e1 (goTo_goes (p := q) (z := ((i : Int), e2)) hk3)
          rw [g3] at h5
          obtain ⟨k', hk', h6⟩ := join_ends hc P n k2 (by omega) j e2 o g1 g2 h5
          have hs : folS (joinP q a t) (runB (joinP q a t) inn (((phi t i : Nat) : Int), e)) = ((((phi t j : Nat) : Int), e2), true) := by
            rw [hrr, folS_at hr, if_neg h3, goTo_vars hV _ (i : Int), g4]
          refine ⟨k' + 1, by omega, .step (by rw [hs]) ?_⟩
          rw [hs]
          exact h6
theorem mrg_all {q m : Prog} (h : Mrg q m) : Whole q → Whole m ∧ pairP m = none ∧ m.length ≤ q.length ∧ ∀ (inn : List Nm) (k : Nat) (o : List Nm), Ends q inn (start0 q) k o → ∃ k', k' ≤ k ∧ Ends m inn (start0 m) k' o := by
  induction h with
  | stop h => exact fun hw => ⟨hw, h, Nat.le_refl _, fun _ k _ he => ⟨k, Nat.le_refl _, he⟩⟩
  | step h _ ih =>
    rename_i q r a t _
    intro hw
    obtain ⟨x, y, P⟩ := pair_of h
    obtain ⟨h1, h2, h3, h4⟩ := ih (join_whole hw P)
    have hlen := joinP_len (List.getElem?_eq_some_iff.1 P.hy).1 (List.getElem?_eq_some_iff.1 P.hx).1
    have hpos := P.pos
    refine ⟨h1, h2, by omega, fun inn k o he => ?_⟩
    obtain ⟨k1, hk1, he1⟩ := join_ends hw.chk P k k (Nat.le_refl _) 0 (List.replicate (varsOf q).length (0, 0), 0, []) o (by omega) (by omega) he
    have e0 : start0 (joinP q a t) = (((phi t 0 : Nat) : Int), (List.replicate (varsOf q).length (0, 0), 0, [])) := by
      rw [start0, join_vars hw.chk P, phi, if_pos (by omega)]; rfl
    rw [← e0] at he1
    obtain ⟨k2, hk2, he2⟩ := h4 inn k1 o he1
    exact ⟨k2, by omega, he2⟩
/-- What pruning leaves is whole. -/
theorem endB_check {b : Block} (h : blockB b = true) : blockB (endB b) = true := by
  rw [blockB, Bool.and_eq_true, Bool.and_eq_true] at h ⊢
  refine ⟨⟨h.1.1, ?_⟩, h.2⟩
  have hT := h.1.2
  show termB (endT b.2.2) = true
  unfold endT
  split
  · rename_i h2
    unfold termB at hT
    rw [if_neg (by omega), if_pos h2, Bool.and_eq_true, Bool.and_eq_true] at hT
    split
    · rw [termB, if_pos rfl]
      rw [hT.1.2]; rfl
    · split
      · rw [termB, if_pos rfl]
        rw [hT.1.1]; rfl
      · rw [termB, if_neg (by omega), if_pos h2, hT.1.1, hT.1.2, hT.2]; rfl
  · exact hT
theorem sub_sum (f : Block → Nat) {l m : Prog} (h : l.Sublist m) : (l.map f).sum ≤ (m.map f).sum := by
  induction h with
  | slnil => exact Nat.le_refl _
  | cons a _ ih => rw [List.map_cons, List.sum_cons]; omega
  | cons_cons a _ ih => rw [List.map_cons, List.map_cons, List.sum_cons, List.sum_cons]; omega
theorem kept_whole {p : Prog} (h : checkE p = 0) {R : List Int} (hR : IsReach (p.length : Nat) (gSort (edgesOf (endsP p))) [0] R) : Whole (keepP (endsP p) R p.length) := by
  have hK := kept_prog h hR
  have hl : (endsP p).length = p.length := endsP_len p
  have hf := check_facts h
  have hsub := keepP_sub (endsP p) R
  rw [hl] at hsub
  obtain ⟨b0, _, hb0⟩ := hK.head
  have hl0 := (List.getElem?_eq_some_iff.1 hb0).1
  have hll := hsub.length_le
  have hnE : (bnames (endsP p)).Nodup := by rw [endsP_names]; exact check_nodup h
  refine ⟨check_mk (by omega) (by omega) ?_ ?_ ?_ hK.nd hK.closed, ?_, ?_⟩
  · have h1 := sub_sum (fun b => b.2.1.length) hsub
    have h2 : stmtsN (endsP p) = stmtsN p := endsP_stmts p
    have h3 := stmts_512' h
    unfold stmtsN at h2 h3 ⊢
    omega
  · intro b' hb'
    obtain ⟨b, hb, rfl⟩ := hK.src b' hb'
    exact endB_check (hf.2.2.2 b hb)
  · exact Nat.le_trans (List.Nodup.length_le_of_subset (vars_nodup _) (fun t ht => kept_vars hK t ht)) hf.2.2.1
  · show (keepP (endsP p) R p.length).map endB = _
    refine (List.map_congr_left fun b' hb' => ?_).trans (List.map_id _)
    obtain ⟨b, hb, rfl⟩ := hK.src b' hb'
    show (b.1, b.2.1, endT (endT b.2.2)) = (b.1, b.2.1, endT b.2.2)
    rw [endT_idem]
  · intro S h0 hS j hj
    have key := hR.least (fun i => ∃ (b : Block) (j : Nat), (endsP p)[i.toNat]? = some b ∧ (keepP (endsP p) R p.length)[j]? = some b ∧ S (j : Int)) (fun x hx _ => by
        rw [List.mem_singleton] at hx
        obtain ⟨b, g1, g2⟩ := hK.head
        subst hx
        exact ⟨endB b, 0, endsP_get g1, g2, h0⟩) (fun x hx z hz => by
        obtain ⟨b, j, g1, g2, g3⟩ := hx
        obtain ⟨g4, g5, g6⟩ := nxt_mem.1 hz
        obtain ⟨i, b2, u, k1, k2, k3, k4, k5⟩ := edge_inv ((gSort_mem _ _).1 g4)
        dsimp only at k2 k5
        rw [k2, Int.toNat_natCast, k1] at g1
        have e := Option.some.inj g1
        subst e
        have hu := hK.closed _ (List.mem_of_getElem? g2) u k3
        have hS2 := hS _ (goes_edge g2 k3 hu) g3
        dsimp only at hS2
        obtain ⟨b3, m1, m2, m3⟩ := at_name hu
        obtain ⟨b4, n1, n2, n3⟩ := at_name k4
        obtain ⟨k', _, _, o3⟩ := keepP_mem.1 (List.mem_of_getElem? m2)
        have e2 := name_inj hnE n2 o3 (n3.trans m3.symm)
        refine ⟨b3, (bIdx (keepP (endsP p) R p.length) u).toNat, ?_, m2, ?_⟩
        · rw [k5, e2]; exact o3
        · rw [Int.toNat_of_nonneg m1.1]; exact hS2)
    have hjb := List.getElem?_eq_getElem hj
    generalize (keepP (endsP p) R p.length)[j] = b at hjb
    obtain ⟨k, _, h2, h3⟩ := keepP_mem.1 (List.mem_of_getElem? hjb)
    obtain ⟨b2, j2, g1, g2, g3⟩ := key _ h2
    rw [Int.toNat_natCast, h3] at g1
    have e := Option.some.inj g1
    subst e
    have := name_inj hK.nd g2 hjb rfl
    subst this
    exact g3
theorem whole_reach {q : Prog} (hw : Whole q) {R : List Int} (hR : IsReach (q.length : Nat) (gSort (edgesOf q)) [0] R) : ∀ k, k < q.length → (k : Int) ∈ R := fun k hk => by
  have hf := check_facts hw.chk
  refine hw.all (· ∈ R) (hR.from' 0 (by simp) (decide_eq_true (by omega))) (fun e he hs => ?_) k hk
  have h1 := eAll_lt q 0 e he
  exact hR.closed _ hs _ (nxt_mem.2 ⟨(gSort_mem _ _).2 he, decide_eq_true (by omega), decide_eq_true (by omega)⟩)
theorem whole_keep {q : Prog} (hw : Whole q) {R : List Int} (hR : IsReach (q.length : Nat) (gSort (edgesOf (endsP q))) [0] R) : keepP (endsP q) R q.length = q := by
  rw [hw.ends] at hR ⊢
  exact keepP_all (whole_reach hw hR)
theorem whole_reach_len {q : Prog} (hw : Whole q) {R : List Int} (hs : StrictL R) (hR : IsReach (q.length : Nat) (gSort (edgesOf q)) [0] R) : R.length = q.length := by
  have h1 := reach_len hs hR
  have h2 : ((List.range q.length).map (fun (k : Nat) => (k : Int))).Nodup := by
    refine List.pairwise_map.2 (List.Pairwise.imp (fun {a b} (h : a ≠ b) => ?_) List.nodup_range)
    omega
  have h3 := List.Nodup.length_le_of_subset h2 (l₂ := R) (fun x hx => by
    obtain ⟨k, hk, rfl⟩ := List.mem_map.1 hx
    exact whole_reach hw hR k (List.mem_range.1 hk))
  rw [List.length_map, List.length_range] at h3
  omega
end Go.Proofs
end
section
namespace Go.Proofs
open Go.Sy
set_option maxRecDepth 20000
set_option maxHeartbeats 4000000
/-! proper.Clone with the rows of its blocks taken over. -/
abbrev stV (s : Stmt) : List Value := .int .i64 s.1 :: .string (bs s.2.1.l) :: .int .i64 s.2.2.1 :: (atmV s.2.2.2.1 ++ atmV s.2.2.2.2)
structure FamI (H H' : Hp) (vs : List Value) (p : Prog) : Prop where
  len : vs.length = p.length
  new : ∀ (i : Nat) (v : Value) (b : Block), vs[i]? = some v → p[i]? = some b → NewAt 57 9 (b.2.1.map stV) H v H'
  dis : vs.Pairwise fun v u => ∀ g, v.ownBlock = some g → u.ownBlock ≠ some g
theorem newAt_up {e : TypeId} {sz : Nat} {xs : List (List Value)} {H H2 H3 : Hp} {x : Value} (h : NewAt e sz xs H x H2) (hle : Le H2 H3) : NewAt e sz xs H x H3 := by
  rcases h with h1 | ⟨g, cap, c, h1, h2, h3, h4⟩
  · exact .inl h1
  · exact .inr ⟨g, cap, c, h1, h2, hle _ _ h3, h4⟩
theorem newAt_down {e : TypeId} {sz : Nat} {xs : List (List Value)} {H H1 H2 : Hp} {x : Value} (h : NewAt e sz xs H1 x H2) (hle : Le H H1) : NewAt e sz xs H x H2 := by
  rcases h with h1 | ⟨g, cap, c, h1, h2, h3⟩
  · exact .inl h1
  · refine .inr ⟨g, cap, c, h1, ?_, h3⟩
    cases hg : H g with
    | none => rfl
    | some o => rw [hle _ _ hg] at h2; cases h2
theorem FamI.up {H H' H2 : Hp} {vs : List Value} {p : Prog} (h : FamI H H' vs p) (hle : Le H' H2) : FamI H H2 vs p := ⟨h.len, fun i v b h1 h2 => newAt_up (h.new i v b h1 h2) hle, h.dis⟩
theorem FamI.snoc {H H1 H2 : Hp} {vs : List Value} {p : Prog} (h : FamI H H1 vs p) (hle0 : Le H H1) {v : Value} {b : Block} (hv : LeN 57 9 (b.2.1.map stV) H1 v H2) : FamI H H2 (vs ++ [v]) (p ++ [b]) := by
  refine ⟨by rw [List.length_append, List.length_append, h.len]; rfl, fun i u c h1 h2 => ?_, ?_⟩
  · rw [List.getElem?_append] at h1 h2
    have hl := h.len
    split at h1
    · rename_i hi
      rw [if_pos (by omega)] at h2
      exact newAt_up (h.new i u c h1 h2) hv.le
    · rename_i hi
      rw [if_neg (by omega)] at h2
      have e1 : i - vs.length = 0 := by
        have := (List.getElem?_eq_some_iff.1 h1).1
        simp at this; omega
      rw [e1] at h1
      rw [← hl, e1] at h2
      cases h1
      cases h2
      exact newAt_down hv.new hle0
  · rw [List.pairwise_append]
    refine ⟨h.dis, List.pairwise_singleton _ _, fun u hu w hw g hg hg' => ?_⟩
    rw [List.mem_singleton] at hw
    subst hw
    obtain ⟨i, hi⟩ := List.getElem?_of_mem hu
    have hlt := (List.getElem?_eq_some_iff.1 hi).1
    have hb : p[i]? = some (p[i]'(by have := h.len; omega)) := List.getElem?_eq_getElem _
    obtain ⟨_, o, ho⟩ := (h.new i u _ hi hb).fresh hg
    have := (hv.new.fresh hg').1
    rw [ho] at this
    cases this
end Go.Proofs
end
section
namespace Go.Proofs
open Go.Sy
set_option maxRecDepth 20000
set_option maxHeartbeats 4000000
/-! fold.Program. -/
end Go.Proofs
end
section
namespace Go.Proofs
open Go.Sy
set_option maxRecDepth 20000
set_option maxHeartbeats 4000000
end Go.Proofs
end
section
namespace Go.Proofs
open Go.Sy
set_option maxRecDepth 20000
set_option maxHeartbeats 4000000
/-! Running: values, environments. -/
abbrev nRows (l : List Nm) : List (List Value) := eRows l
theorem nRows_of {H : Hp} {css : List (List Value)} {l : List Nm} (h : RC (α := Nm) H css l) : css = nRows l := by
  apply List.ext_getElem?
  intro i
  rw [List.getElem?_map]
  have hl : css.length = l.length := h.1
  by_cases hi : i < l.length
  · have h1 : css[i]? = some (css[i]'(by omega)) := List.getElem?_eq_getElem _
    have h2 := List.getElem?_eq_getElem hi
    have h3 := (edge_open (h.2 i _ _ h1 h2)).1
    rw [h1, h2, h3]; rfl
  · rw [List.getElem?_eq_none (by omega), List.getElem?_eq_none (by omega)]; rfl
theorem nRows_ok (l : List Nm) : ∀ y ∈ nRows l, y.length = 2 ∧ ∀ u ∈ y, u.oneCell' = true := by
  intro y hy
  obtain ⟨w, _, rfl⟩ := List.mem_map.1 hy
  exact ⟨rfl, fun u hu => by simp at hu; rcases hu with rfl | rfl <;> rfl⟩
theorem nRL_all {H : Hp} {a : Option Addr} {n c : Nat} {l : List Nm} (h : RL H a n c l) : ∀ e ∈ l, inI e.1 ∧ inI e.2 := RLe_all h
theorem cloneV_spec {l : List Nm} (hl : l.length ≤ 1000000) {a : Option Addr} {n c : Nat} {H : Hp} {K : Value → Hp → Prop} (ha : RL H a n c l) (hK : ∀ a1 n1 c1 H', LeN 46 2 (nRows l) H (.slice a1 n1 c1) H' → RL H' a1 n1 c1 l → K (.slice a1 n1 c1) H') : Does Tryz.prog 71 [.slice a n c] H K := by
    have hn := ha.n_eq
    have hall := nRL_all ha
    refine spec_of cx_ok cx_mix rfl Tryz.func71 Tryz.call71 Tryz.ntmps71 Tryz.results71 rfl rfl ?_
    refine ⟨fun h => ?_, fun h => ?_⟩
    · have hno : a = none := by
        cases a with
        | none => rfl
        | some x => cases h
      rw [hno] at ha
      have h0 := RL_nil ha
      refine hK none 0 0 H ⟨Le.refl H, .inl ⟨rfl, by rw [h0]; rfl⟩⟩ ?_
      rw [h0]; exact rl_nil
    · obtain ⟨css, hrow, hrc⟩ := ha.row
      have hcl : css.length = l.length := hrc.1
      have e := nRows_of hrc
      refine ⟨css, hrow, ?_⟩
      refine ⟨⟨by show (0 + css.length) * 16 ≤ 140737488355328; omega, by show 0 + css.length ≤ 9223372036854775807; omega⟩, ?_⟩
      intro v H' hle hv
      rw [e] at hle hv
      refine of_row_k (α := Nm) hv (rc_eRows hall) fun a1 n1 c1 ev hr => ?_
      subst ev
      exact hK _ _ _ H' hle hr
theorem cloneN_spec {l : List Nm} (hl : l.length ≤ 1000000) {a : Option Addr} {n c : Nat} {H : Hp} {K : Value → Hp → Prop} (ha : RL H a n c l) (hK : ∀ a1 n1 c1 H', LeN 46 2 (nRows l) H (.slice a1 n1 c1) H' → RL H' a1 n1 c1 l → K (.slice a1 n1 c1) H') : Does Tryz.prog 72 [.slice a n c] H K := by
    have hn := ha.n_eq
    have hall := nRL_all ha
    refine spec_of cx_ok cx_mix rfl Tryz.func72 Tryz.call72 Tryz.ntmps72 Tryz.results72 rfl rfl ?_
    refine ⟨fun h => ?_, fun h => ?_⟩
    · have hno : a = none := by
        cases a with
        | none => rfl
        | some x => cases h
      rw [hno] at ha
      have h0 := RL_nil ha
      refine hK none 0 0 H ⟨Le.refl H, .inl ⟨rfl, by rw [h0]; rfl⟩⟩ ?_
      rw [h0]; exact rl_nil
    · obtain ⟨css, hrow, hrc⟩ := ha.row
      have hcl : css.length = l.length := hrc.1
      have e := nRows_of hrc
      refine ⟨css, hrow, ?_⟩
      refine ⟨⟨by show (0 + css.length) * 16 ≤ 140737488355328; omega, by show 0 + css.length ≤ 9223372036854775807; omega⟩, ?_⟩
      intro v H' hle hv
      rw [e] at hle hv
      refine of_row_k (α := Nm) hv (rc_eRows hall) fun a1 n1 c1 ev hr => ?_
      subst ev
      exact hK _ _ _ H' hle hr
theorem cloneVG_spec {l : List Nm} (hl : l.length ≤ 1000000) {a : Option Addr} {n c : Nat} {H : Hp} {K : SV → St → Hp → Prop} (ha : RL H a n c l)
    (hK : ∀ H', Le H H' → K (.own 0) ⟨[], [(0, .row 46 2 (nRows l))], 1⟩ H') : DoesG Tryz.prog 71 [.v (.slice a n c)] [] 0 H K := by
  refine doesG_thawR (args := [.slice a n c]) (fun _ => rfl) (cloneV_spec hl ha (K := fun v H' => LeN 46 2 (nRows l) H v H') (fun _ _ _ H' h _ => h)) ?_
  intro v H2 hle h
  exact .inr ⟨46, 2, nRows l, v, .own 0, fun ρ hρ => hρ, rfl, h.new, nRows_ok l, fun H' hle2 _ => hK H' hle2⟩
noncomputable def cxW : Cx := { P := Tryz.prog, tt := tt, n := 0, wrap := false, base := 0, gf := 71 :: cx.gf, eqs := cx.eqs, xf := [] }
theorem cxW_ok : TOK cxW := ⟨cx_ok.tt, cx_ok.eqs⟩
theorem nm_k {P : Prop} {H : Hp} {a : Option Addr} {n c : Nat} {xs : List Nm} (h : RL H a n c xs) {i : Int} (h0 : 0 ≤ i) {x : Nm} (hi : xs[i.toNat]? = some x) (k : ∀ ad, a = some ad → ElemH H ad i 2 [.int .i64 x.1, .int .i64 x.2] → P) : P :=
  edge_k h hi fun ad e he => k ad e (by rwa [Int.toNat_of_nonneg h0] at he)
theorem eat_spec {l : List Nm} {i : Int} {a : Option Addr} {n c : Nat} {H : Hp} {K : Value → Hp → Prop} (ha : RL H a n c l) (hK : K (numV (inAt l i)) H) : Does Tryz.prog 100 [.slice a n c, .int .i64 i] H K := by
  have hn := ha.n_eq
  have hmx := ha.le
  refine spec_of cx_ok cx_mix rfl Tryz.func100 Tryz.call100 Tryz.ntmps100 Tryz.results100 rfl rfl ?_
  have hlow : i < 0 → inAt l i = (0, 0) := fun h => if_pos h
  have hhigh : ¬ i < 0 → (l.length : Int) ≤ i → inAt l i = (0, 0) := fun h0 h => by rw [inAt, if_neg h0, List.getElem?_eq_none (by omega)]; rfl
  refine ⟨fun h => ?_, fun h => ?_⟩
  · have h0 : ¬ i < 0 := df h
    refine ⟨fun h => ?_, fun h => ?_⟩
    · have h1 := dt h
      rw [hhigh h0 (by omega)] at hK
      exact hK
    · have h1 := df h
      have hlt : i.toNat < l.length := by omega
      have e : inAt l i = l[i.toNat] := by rw [inAt, if_neg h0, List.getElem?_eq_getElem hlt]; rfl
      rw [e] at hK
      refine nm_k ha (by omega) (List.getElem?_eq_getElem hlt) fun ad q1 hh => ?_
      refine ⟨ad, ⟨by omega, by omega, q1⟩, ?_⟩
      refine ⟨_, hh, ?_⟩
      exact hK
  · have h0 : i < 0 := dt h
    rw [hlow h0] at hK
    exact hK
theorem with_spec {l : List Nm} (hl : l.length ≤ 1000000) {i : Int} (hi : 0 ≤ i ∧ i < (l.length : Nat)) {x : Nm} {a : Option Addr} {n c : Nat} {H : Hp} {K : Value → Hp → Prop} (ha : RL H a n c l) (hx : inI x.1 ∧ inI x.2) (hK : ∀ a1 n1 c1 H', Le H H' → RL H' a1 n1 c1 (l.set i.toNat x) → K (.slice a1 n1 c1) H') : Does Tryz.prog 101 [.slice a n c, .int .i64 i, numV x] H K := by
  have hn := ha.n_eq
  have hmx := ha.le
  have hall := nRL_all ha
  refine spec_of cxW_ok cx_mix rfl Tryz.func101 Tryz.call101 Tryz.ntmps101 Tryz.results101 rfl rfl ?_
  refine ⟨[], rfl, cloneVG_spec hl ha fun H1 hle1 => ?_⟩
  have hll : (nRows l).length = l.length := List.length_map _
  have hlt : i.toNat < l.length := by omega
  have hg : (nRows l)[i.toNat]? = some [.int .i64 l[i.toNat].1, .int .i64 l[i.toNat].2] := by rw [List.getElem?_map, List.getElem?_eq_getElem hlt]; rfl
  have e : (nRows l).set i.toNat [.int .i64 x.1, .int .i64 x.2] = nRows (l.set i.toNat x) := List.map_set.symm
  refine ⟨⟨hi.1, by rw [hll]; exact hi.2⟩, ?_⟩
  refine ⟨_, hg, ?_⟩
  intro v H' hle hv
  have hv : RowAt H' v 2 ((nRows l).set i.toNat [.int .i64 x.1, .int .i64 x.2]) := hv
  rw [e] at hv
  refine of_row_k (α := Nm) hv (rc_eRows fun y hy => ?_) fun a1 n1 c1 ev hr => ?_
  · rcases List.mem_or_eq_of_mem_set hy with hy | hy
    · exact hall y hy
    · rw [hy]; exact hx
  · subst ev
    exact hK _ _ _ _ (hle1.trans hle.le) hr
theorem value_spec {p : Prog} (hc : cnt p < 400000) {l : List Nm} {x : Atm} {a a2 : Option Addr} {n c n2 c2 : Nat} {H : Hp} {K : Value → Hp → Prop} (ha : RL H a n c p) (hb : RL H a2 n2 c2 l) (hK : K (numV (valA p l x)) H) : Does Tryz.prog 73 [.agg #[.slice a n c], .slice a2 n2 c2, .agg (atmV x).toArray] H K := by
  refine spec_of cx_ok cx_mix rfl Tryz.func73 Tryz.call73 Tryz.ntmps73 Tryz.results73 rfl rfl ?_
  refine ⟨fun h => ?_, fun h => ?_⟩
  · have h0 : x.1.l = [] := dt h
    have e : valA p l x = nOf x.2 := by rw [valA, if_pos h0]
    rw [e] at hK
    refine gof_spec ?_
    exact hK
  · have h0 : ¬ x.1.l = [] := df h
    refine var_spec ha hc fun _ _ => ?_
    have hr := vIdx_range p x.1.l
    refine ⟨fun h => ?_, fun h => ?_⟩
    · have h1 : ¬ 0 ≤ vIdx p x.1.l := nt h
      have e : valA p l x = (0, 0) := by rw [valA, if_neg h0, if_neg h1]
      rw [e] at hK
      exact hK
    · have h1 : 0 ≤ vIdx p x.1.l := nf h
      have e : valA p l x = inAt l (vIdx p x.1.l) := by rw [valA, if_neg h0, if_pos h1, inAt, if_neg (by omega)]
      have e2 : max (idxS x.1.l (varsOf p) 0) 0 = vIdx p x.1.l := by rw [vIdx] at h1 ⊢; omega
      rw [e] at hK
      rw [e2]
      refine eat_spec hb ?_
      exact hK
theorem eval_spec {p : Prog} (hc : cnt p < 400000) {l : List Nm} {x : Expr} {a a2 : Option Addr} {n c n2 c2 : Nat} {H : Hp} {K : Value → Hp → Prop} (ha : RL H a n c p) (hb : RL H a2 n2 c2 l) (hK : K (.tuple #[numV (nOp x.1 (valA p l x.2.1) (valA p l x.2.2)), .int .i64 (if opIs x.1 then 0 else 10)]) H) : Does Tryz.prog 102 [.agg #[.slice a n c], .slice a2 n2 c2, .agg (exprV x).toArray] H K := by
  refine spec_of cx_ok cx_mix rfl Tryz.func102 Tryz.call102 Tryz.ntmps102 Tryz.results102 rfl rfl ?_
  refine ⟨some ([2], [0, 1, 2, 3, 4, 5, 7, 8, 9, 10, 6, 11, 12, 13, 14, 15, 16]), by kernel_rfl, ?_⟩
  refine value_spec hc ha hb ?_
  refine value_spec hc ha hb ?_
  refine gop_spec ?_
  exact hK
end Go.Proofs
end
section
namespace Go.Proofs
open Go.Sy
set_option maxRecDepth 20000
set_option maxHeartbeats 4000000
/-! Running: statements. -/
abbrev staV (b : Int) (ae : Option Addr) (ne ce : Nat) (i : Int) (x : Value) : Value := .agg #[.int .i64 b, .slice ae ne ce, .int .i64 i, x]
theorem wrp_in (n : Int) : inI (wrp n) := by have := wrp_le n; exact ⟨by omega, by omega⟩
theorem nOf_in (a : Nm) : inI (nOf a).1 ∧ inI (nOf a).2 := ⟨wrp_in _, wrp_in _⟩
theorem nOp_in (op : Int) (a b : Nm) : inI (nOp op a b).1 ∧ inI (nOp op a b).2 := by rw [← nOp_nOf]; exact nOf_in _
theorem xcheck_spec {p : Prog} (he : checkE p = 0) (hc : stmtsN p ≤ 1000000) (hv : cnt p < 400000) {b i : Int} {l : List Nm} (hb : 0 ≤ b ∧ b < (p.length : Nat)) (hl : l.length = (varsOf p).length) (hi : 0 ≤ i) {a ae ao : Option Addr} {n c ne ce no co : Nat} {H : Hp} {K : Value → Hp → Prop}
    (ha : RL H a n c p) (hE : RL H ae ne ce l) (hK : ∀ H', Le H H' → K (.int .i64 0) H') : Does Tryz.prog 46 [.agg #[.slice a n c], staV b ae ne ce i (.slice ao no co)] H K := by
  have hn := ha.n_eq
  have hne := hE.n_eq
  refine spec_of cx_ok cx_mix rfl Tryz.func46 Tryz.call46 Tryz.ntmps46 Tryz.results46 rfl rfl ?_
  refine pcheck_spec ha hc hv fun H0 hle0 => ?_
  refine ⟨fun h => absurd he (nt h), fun _ => ?_⟩
  refine ⟨some ([], [0, 1, 2, 3, 4, 5, 6, 7, 8, 9, 10, 11, 12, 13, 14, 15, 16, 17, 18, 19, 20, 21, 22, 23, 24]), by kernel_rfl, ?_⟩
  refine ⟨fun _ => ?_, fun h => absurd (dt h) (by omega)⟩
  refine ⟨fun _ => ?_, fun h => absurd (dt h) (by omega)⟩
  refine pvars_spec ha hv fun av nv cv H1 hle1 hrv => ?_
  have hnv := hrv.n_eq
  rw [List.length_map] at hnv
  refine ⟨fun _ => ?_, fun h => absurd (show (ne : Int) = nv by omega) (nt h)⟩
  refine ⟨fun h => absurd (dt h) (by omega), fun _ => ?_⟩
  exact hK _ hle1
theorem xclone_spec {b i : Int} {l o : List Nm} (hl : l.length ≤ 1000000) (ho : o.length ≤ 1000000) {ae ao : Option Addr} {ne ce no co : Nat} {H : Hp} {K : Value → Hp → Prop} (hE : RL H ae ne ce l) (hO : RL H ao no co o)
    (hK : ∀ a1 n1 c1 a2 n2 c2 H1 H', Le H H1 → RL H1 a1 n1 c1 l → LeN 46 2 (nRows o) H1 (.slice a2 n2 c2) H' → RL H' a2 n2 c2 o → K (staV b a1 n1 c1 i (.slice a2 n2 c2)) H') : Does Tryz.prog 47 [staV b ae ne ce i (.slice ao no co)] H K := by
  refine spec_of cx_ok cx_mix rfl Tryz.func47 Tryz.call47 Tryz.ntmps47 Tryz.results47 rfl rfl ?_
  refine ⟨some ([1000000, 0], [0, 1, 3, 4, 2, 6, 5, 7, 8, 9]), by kernel_rfl, ?_⟩
  refine cloneV_spec hl hE fun a1 n1 c1 H1 hle1 hr1 => ?_
  refine cloneN_spec ho (hO.up hle1.le) fun a2 n2 c2 H2 hle2 hr2 => ?_
  exact hK _ _ _ _ _ _ _ _ hle1.le hr1 hle2 hr2
theorem xdo_spec {p : Prog} (hc : cnt p < 400000) {inn l o : List Nm} {b i : Int} {x : Stmt} (hx : stmtB x = true) (hvx : x.2.1.l ≠ [] → 0 ≤ vIdx p x.2.1.l ∧ vIdx p x.2.1.l < (l.length : Nat)) (hl : l.length ≤ 1000000) (ho : o.length ≤ 1000000) (hi : 0 ≤ i) {a ae ai : Option Addr} {n c ne ce ni ci : Nat} {H : Hp} {K : SV → St → Hp → Prop}
    (ha : RL H a n c p) (hE : RL H ae ne ce l) (hI : RL H ai ni ci inn)
    (hK : ∀ a1 n1 c1 H', Le H H' → RL H' a1 n1 c1 (doS p inn (b, l, i, o) x).2.1 → x.1 ≠ 3 → K (.agg [.v (.int .i64 b), .v (.slice a1 n1 c1), .v (.int .i64 (doS p inn (b, l, i, o) x).2.2.1), .own 0]) ⟨[], [(0, .row 46 2 (nRows o))], 1⟩ H')
    (hK3 : x.1 = 3 → K (.agg [.v (.int .i64 b), .v (.slice ae ne ce), .v (.int .i64 i), .own 6]) ⟨[], [(6, .row 46 2 (nRows (o ++ [valA p l x.2.2.2.1])))], 7⟩ H) :
    DoesG Tryz.prog 74 [.agg [.v (.slice a n c)], .agg [.v (.int .i64 b), .v (.slice ae ne ce), .v (.int .i64 i), .own 0], .agg (vL (stmtV x)), .v (.slice ai ni ci)] [(0, .row 46 2 (nRows o))] 1 H K := by
  refine spec_ofG cx_ok cx_mix Tryz.func74 Tryz.call74 Tryz.ntmps74 Tryz.results74 rfl rfl ?_
  refine var_spec ha hc fun _ _ => ?_
  rcases stmtB_var hx with ⟨h1, h2, h3, h4⟩ | ⟨h1, h4⟩ | ⟨h1, h4⟩
  · refine ⟨fun _ => ?_, fun h => absurd h1 (df h)⟩
    have hv := hvx h4
    have e2 : max (idxS x.2.1.l (varsOf p) 0) 0 = vIdx p x.2.1.l := by rw [vIdx] at hv ⊢; omega
    refine eval_spec hc ha hE ?_
    rw [e2]
    refine with_spec hl hv hE (nOp_in _ _ _) fun a1 n1 c1 H1 hle1 hr1 => ?_
    have e : doS p inn (b, l, i, o) x = (b, setAt p l x.2.1.l (nOp x.2.2.1 (valA p l x.2.2.2.1) (valA p l x.2.2.2.2)), i, o) := by rw [doS, if_pos h1]
    rw [e] at hK
    exact ⟨.agg [.v (.int .i64 b), .v (.slice a1 n1 c1), .v (.int .i64 i), .own 0], [(0, .row 46 2 (nRows o))], 1, [(0, 0)], by (repeat' (first | exact trivial | refine ⟨?_, ?_⟩ | exact rfl | assumption)), hK a1 n1 c1 H1 hle1 hr1 (by omega)⟩
  · refine ⟨fun h => absurd (dt h) (by omega), fun _ => ?_⟩
    refine ⟨fun _ => ?_, fun h => absurd h1 (df h)⟩
    have hv := hvx h4
    have e2 : max (idxS x.2.1.l (varsOf p) 0) 0 = vIdx p x.2.1.l := by rw [vIdx] at hv ⊢; omega
    refine eat_spec hI ?_
    refine ⟨some ([1000000, 2], [0, 1, 2, 3, 4, 5, 6, 7, 8, 9, 10, 11]), by kernel_rfl, ?_⟩
    refine gof_spec ?_
    rw [e2]
    refine with_spec hl hv hE (nOf_in _) fun a1 n1 c1 H1 hle1 hr1 => ?_
    have e : doS p inn (b, l, i, o) x = (b, setAt p l x.2.1.l (nOf (inAt inn i)), inNext i, o) := by rw [doS, if_neg (by omega), if_pos h1]
    rw [e] at hK
    refine ⟨⟨by omega, by omega⟩, ?_⟩
    exact ⟨.agg [.v (.int .i64 b), .v (.slice a1 n1 c1), .v (.int .i64 (inNext i)), .own 0], [(0, .row 46 2 (nRows o))], 1, [(0, 0)], by (repeat' (first | exact trivial | refine ⟨?_, ?_⟩ | exact rfl | assumption)), hK a1 n1 c1 H1 hle1 hr1 (by omega)⟩
  · refine ⟨fun h => absurd (dt h) (by omega), fun _ => ?_⟩
    refine ⟨fun h => absurd (dt h) (by omega), fun _ => ?_⟩
    refine ⟨fun _ => ?_, fun h => absurd h1 (df h)⟩
    refine ⟨some ([1000000, 0, 2], [0, 1, 2, 3, 4, 5, 6, 7, 8, 9, 10, 11, 12]), by kernel_rfl, ?_⟩
    refine value_spec hc ha hE ?_
    have hll : (nRows o).length = o.length := List.length_map _
    have e : nRows o ++ [[.int .i64 (valA p l x.2.2.2.1).1, .int .i64 (valA p l x.2.2.2.1).2]] = nRows (o ++ [valA p l x.2.2.2.1]) := by show List.map _ _ ++ [_] = List.map _ (_ ++ [_]); rw [List.map_append]; rfl
    refine ⟨⟨by show (_ + 1) * 16 ≤ 140737488355328; rw [hll]; omega, by show _ + 1 ≤ 9223372036854775807; rw [hll]; omega⟩, ?_⟩
    exact ⟨.agg [.v (.int .i64 b), .v (.slice ae ne ce), .v (.int .i64 i), .own 6], [(6, .row 46 2 (nRows (o ++ [valA p l x.2.2.2.1])))], 7, [(6, 6)], by (repeat' (first | exact trivial | refine ⟨?_, ?_⟩ | exact rfl | assumption)), hK3 h1⟩
end Go.Proofs
end
section
namespace Go.Proofs
open Go.Sy
set_option maxRecDepth 20000
set_option maxHeartbeats 4000000
/-! Running: blocks. -/
theorem xcloneG_spec {b i : Int} {l o : List Nm} (hl : l.length ≤ 1000000) (ho : o.length ≤ 1000000) {ae ao : Option Addr} {ne ce no co : Nat} {H : Hp} {K : SV → St → Hp → Prop} (hE : RL H ae ne ce l) (hO : RL H ao no co o)
    (hK : ∀ a1 n1 c1 H', Le H H' → RL H' a1 n1 c1 l → K (.agg [.v (.int .i64 b), .v (.slice a1 n1 c1), .v (.int .i64 i), .own 0]) ⟨[], [(0, .row 46 2 (nRows o))], 1⟩ H') : DoesG Tryz.prog 47 [.agg [.v (.int .i64 b), .v (.slice ae ne ce), .v (.int .i64 i), .v (.slice ao no co)]] [] 0 H K := by
  refine doesG_thawR (args := [staV b ae ne ce i (.slice ao no co)]) (fun _ => rfl) (xclone_spec hl ho hE hO (K := fun v H' => ∃ a1 n1 c1 x H1, v = staV b a1 n1 c1 i x ∧ Le H H1 ∧ RL H1 a1 n1 c1 l ∧ LeN 46 2 (nRows o) H1 x H')
    (fun a1 n1 c1 a2 n2 c2 H1 H' h1 h2 h3 _ => ⟨a1, n1, c1, _, H1, rfl, h1, h2, h3⟩)) ?_
  rintro v H2 hle ⟨a1, n1, c1, x, H1, rfl, h1, h2, h3⟩
  refine .inr ⟨46, 2, nRows o, x, .agg [.v (.int .i64 b), .v (.slice a1 n1 c1), .v (.int .i64 i), .own 0], fun ρ hρ => ?_, rfl, (LeN.base h1 h3).new, nRows_ok o, fun H' hle2 hkeep => hK a1 n1 c1 H' hle2 (h2.up fun b o hb => hkeep b o (h3.le b o hb) fun e => ?_)⟩
  · show Value.agg #[.int .i64 b, .slice a1 n1 c1, .int .i64 i, ρ.val 0] = _
    rw [hρ]
  · rcases h3.new with ⟨h4, _⟩ | ⟨g, cap, cc, h4, h5, _⟩
    · rw [h4] at e; cases e
    · rw [h4] at e
      simp only [Value.ownBlock, Option.some.injEq] at e
      subst e
      rw [h5] at hb
      cases hb
noncomputable def cxR : Cx := { P := Tryz.prog, tt := tt, n := 0, wrap := false, base := 0, gf := 47 :: 74 :: cx.gf, eqs := cx.eqs, xf := [] }
theorem cxR_ok : TOK cxR := ⟨cx_ok.tt, cx_ok.eqs⟩
theorem doAll_snoc (p : Prog) (inn : List Nm) (s : StE) {l : List Stmt} {k : Nat} {x : Stmt} (h : l[k]? = some x) : doAll p inn s (l.take (k + 1)) = doS p inn (doAll p inn s (l.take k)) x := by
  rw [doAll, List.take_add_one, h, Option.toList_some, List.foldl_append]; rfl
theorem doS_out (p : Prog) (inn : List Nm) (s : StE) (x : Stmt) : (doS p inn s x).2.2.2.length ≤ s.2.2.2.length + 1 ∧ (0 ≤ s.2.2.1 → 0 ≤ (doS p inn s x).2.2.1) := by
  unfold doS inNext
  repeat' split
  all_goals simp
  all_goals omega
theorem doAll_out (p : Prog) (inn : List Nm) : ∀ (l : List Stmt) (s : StE), (doAll p inn s l).2.2.2.length ≤ s.2.2.2.length + l.length ∧ (0 ≤ s.2.2.1 → 0 ≤ (doAll p inn s l).2.2.1)
  | [], _ => ⟨Nat.le_refl _, fun h => h⟩
  | x :: r, s => by
    have h1 := doS_out p inn s x
    have h2 := doAll_out p inn r (doS p inn s x)
    rw [doAll, List.foldl_cons, List.length_cons]
    exact ⟨by have := h2.1; unfold doAll at this; omega, fun h => h2.2 (h1.2 h)⟩
theorem doS_keep {p : Prog} {inn : List Nm} {s : StE} {x : Stmt} (h : x.1 ≠ 3) : (doS p inn s x).2.2.2 = s.2.2.2 := by
  unfold doS
  repeat' split
  all_goals first | rfl | contradiction
theorem valA_in (p : Prog) {e : List Nm} (h : ∀ y ∈ e, inI y.1 ∧ inI y.2) (a : Atm) : inI (valA p e a).1 ∧ inI (valA p e a).2 := by
  have z : inI ((0 : Int)) := ⟨by decide, by decide⟩
  unfold valA
  split
  · exact nOf_in _
  · split
    · cases hg : e[(vIdx p a.1.l).toNat]? with
      | none => exact ⟨z, z⟩
      | some y => exact h y (List.mem_of_getElem? hg)
    · exact ⟨z, z⟩
theorem doS_in (p : Prog) (inn : List Nm) (s : StE) (hE : ∀ y ∈ s.2.1, inI y.1 ∧ inI y.2) (hO : ∀ y ∈ s.2.2.2, inI y.1 ∧ inI y.2) (x : Stmt) : (∀ y ∈ (doS p inn s x).2.1, inI y.1 ∧ inI y.2) ∧ ∀ y ∈ (doS p inn s x).2.2.2, inI y.1 ∧ inI y.2 := by
  unfold doS setAt
  split
  · refine ⟨fun y hy => ?_, hO⟩
    rcases List.mem_or_eq_of_mem_set hy with hy | hy
    · exact hE y hy
    · rw [hy]; exact nOp_in _ _ _
  · split
    · refine ⟨fun y hy => ?_, hO⟩
      rcases List.mem_or_eq_of_mem_set hy with hy | hy
      · exact hE y hy
      · rw [hy]; exact nOf_in _
    · split
      · refine ⟨hE, fun y hy => ?_⟩
        rcases List.mem_append.1 hy with hy | hy
        · exact hO y hy
        · rw [List.mem_singleton.1 hy]; exact valA_in p hE _
      · exact ⟨hE, hO⟩
theorem doAll_in (p : Prog) (inn : List Nm) : ∀ (l : List Stmt) (s : StE), (∀ y ∈ s.2.1, inI y.1 ∧ inI y.2) → (∀ y ∈ s.2.2.2, inI y.1 ∧ inI y.2) → ∀ y ∈ (doAll p inn s l).2.2.2, inI y.1 ∧ inI y.2
  | [], _, _, h => h
  | x :: r, s, h1, h2 => by
    have h3 := doS_in p inn s h1 h2 x
    exact doAll_in p inn r (doS p inn s x) h3.1 h3.2
theorem run_spec {p : Prog} (hc : cnt p < 400000) {inn : List Nm} {s : StE} {q : Block} (h0 : 0 ≤ s.1) (hq : p[s.1.toNat]? = some q) (hst : ∀ x ∈ q.2.1, stmtB x = true) (hl : s.2.1.length = (varsOf p).length) (hvl : (varsOf p).length ≤ 1000) (ho : s.2.2.2.length + q.2.1.length ≤ 1000000) (hi : 0 ≤ s.2.2.1)
    {a ae ao ai : Option Addr} {n c ne ce no co ni ci : Nat} {H : Hp} {K : Value → Hp → Prop} (ha : RL H a n c p) (hE : RL H ae ne ce s.2.1) (hO : RL H ao no co s.2.2.2) (hI : RL H ai ni ci inn)
    (hK : ∀ a1 n1 c1 a2 n2 c2 H', Le H H' → RL H' a1 n1 c1 (runB p inn s).2.1 → RL H' a2 n2 c2 (runB p inn s).2.2.2 → K (staV s.1 a1 n1 c1 (runB p inn s).2.2.1 (.slice a2 n2 c2)) H') :
    Does Tryz.prog 49 [.agg #[.slice a n c], staV s.1 ae ne ce s.2.2.1 (.slice ao no co), .slice ai ni ci] H K := by
  obtain ⟨b, l, i, o⟩ := s
  dsimp only at h0 hl ho hi hE hO ⊢
  have hn := ha.n_eq
  have hmx := ha.le
  have hblt := (List.getElem?_eq_some_iff.1 hq).1
  refine spec_of cxR_ok cx_mix rfl Tryz.func49 Tryz.call49 Tryz.ntmps49 Tryz.results49 rfl rfl ?_
  refine ⟨[], rfl, xcloneG_spec (by omega) (by omega) hE hO fun a1 n1 c1 H1 hle1 hr1 => ?_⟩
  refine block_kI (ha.up hle1) h0 hq fun ad a5 n5 c5 q1 hh hr5 _ _ => ?_
  refine ⟨ad, ⟨by omega, by omega, q1⟩, ?_⟩
  refine ⟨_, hh, ?_⟩
  have hn5 := hr5.n_eq
  have hmx5 := hr5.le
  have hqm := List.mem_of_getElem? hq
  have hrb : runB p inn (b, l, i, o) = doAll p inn (b, l, i, o) q.2.1 := by rw [runB, blkN_get hq]
  rw [hrb] at hK
  refine ⟨Nat × StE × (Option Addr × Nat × Nat), fun z => ⟨[(2, .v (.slice ai ni ci)), (3, .ptr 0 0), (4, .ptr 1 0), (6, .ptr 2 0), (17, .v (.slice a5 n5 c5)), (18, .v (.int .i64 n5)), (19, .v (.int .i64 z.1))],
      [(0, .cells 24 [.v (.slice a n c)]), (1, .cells 67 [.v (.int .i64 b), .v (.slice z.2.2.1 z.2.2.2.1 z.2.2.2.2), .v (.int .i64 z.2.1.2.2.1), .own 3]), (2, .cells 67 [.v (.int .i64 0), .v (.slice none 0 0), .v (.int .i64 0), .v (.slice none 0 0)]), (3, .row 46 2 (nRows z.2.1.2.2.2))], 4⟩,
    fun z H' => Le H H' ∧ z.1 ≤ q.2.1.length ∧ z.2.1 = doAll p inn (b, l, i, o) (q.2.1.take z.1) ∧ RL H' z.2.2.1 z.2.2.2.1 z.2.2.2.2 z.2.1.2.1, fun z => q.2.1.length - z.1, ⟨(0, (b, l, i, o), (a1, n1, c1)), [(0, 0), (1, 1), (2, 2), (3, 3)], ?_, hle1, Nat.zero_le _, rfl, hr1⟩, ?_⟩
  · (repeat' (first | exact trivial | refine ⟨?_, ?_⟩ | exact rfl | assumption))
  rintro ⟨k, st, a6, n6, c6⟩ H2 _ ⟨hle2, hk, hst2, hr6⟩
  dsimp only at hk hst2 hr6
  have hz := doAll_blk p inn (q.2.1.take k) (b, l, i, o)
  have hz2 := doAll_out p inn (q.2.1.take k) (b, l, i, o)
  rw [← hst2] at hz hz2
  obtain ⟨b', l', i', o'⟩ := st
  dsimp only at hr6 hz hz2 hst2 ⊢
  have hb' : b' = b := hz.1
  refine ⟨fun h => ?_, fun h => ?_⟩
  · have hlt : k < q.2.1.length := by have := dt h; omega
    refine name_k q.2.1[k] fun x hxe => ?_
    have hxx : q.2.1[k]? = some x := by rw [hxe]; exact List.getElem?_eq_getElem hlt
    have hxm := List.mem_of_getElem? hxx
    have hstep := doAll_snoc p inn (b, l, i, o) hxx
    rw [← hst2, hb'] at hstep
    have hz3 := hz2.1
    rw [List.length_take] at hz3
    have hvx : x.2.1.l ≠ [] → 0 ≤ vIdx p x.2.1.l ∧ vIdx p x.2.1.l < (l'.length : Nat) := fun hne => by
      rw [hz.2, hl]
      exact vIdx_stmt hqm hxm (by simp) hne
    have h12 : Le H1 H2 := by assumption
    refine stmt_k (hr5.up h12) hxx fun ad e1 hh1 hR => ?_
    refine ⟨ad, ⟨by omega, by omega, e1⟩, ?_⟩
    refine ⟨_, hh1, ?_⟩
    refine ⟨[3], rfl, xdo_spec hc (inn := inn) (o := o') (hst x hxm) hvx (by rw [hz.2, hl]; omega) (by omega) (hz2.2 hi) (ha.up hle2) hr6 (hI.up hle2) (fun a7 n7 c7 H3 hle3 hr7 h3 => ?_) (fun h3 => ?_)⟩
    · have ho3 : (doS p inn (b, l', i', o') x).2.2.2 = o' := doS_keep h3
      have hb3 := (doS_blk p inn (b, l', i', o') x).1
      refine ⟨⟨by omega, by omega⟩, (k + 1, doS p inn (b, l', i', o') x, (a7, n7, c7)), [(0, 0), (1, 1), (2, 2), (3, 3)], ?_, ⟨hle2.trans hle3, hlt, hstep.symm, hr7⟩, by dsimp only; omega⟩
      dsimp only
      rw [ho3]
      (repeat' (first | exact trivial | refine ⟨?_, ?_⟩ | exact rfl | assumption))
    · have e3 : doS p inn (b, l', i', o') x = (b, l', i', o' ++ [valA p l' x.2.2.2.1]) := by rw [doS, if_neg (by omega), if_neg (by omega), if_pos h3]
      rw [e3] at hstep
      refine ⟨⟨by omega, by omega⟩, (k + 1, (b, l', i', o' ++ [valA p l' x.2.2.2.1]), (a6, n6, c6)), [(0, 0), (1, 1), (2, 2), (3, 10)], ?_, ⟨hle2, hlt, hstep.symm, hr6⟩, by dsimp only; omega⟩
      (repeat' (first | exact trivial | refine ⟨?_, ?_⟩ | exact rfl | assumption))
  · have hkl : k = q.2.1.length := by have := df h; omega
    rw [hkl, List.take_length] at hst2
    rw [← hst2] at hK
    intro v H' hle hv
    refine of_row_k (α := Nm) hv (rc_eRows fun y hy => ?_) fun a8 n8 c8 ev hr => ?_
    · have := doAll_in p inn q.2.1 (b, l, i, o) (nRL_all hE) (nRL_all hO)
      rw [← hst2] at this
      exact this y hy
    · subst ev
      exact hK _ _ _ _ _ _ _ (hle2.trans hle.le) (hr6.up hle.le) hr
theorem nm_zero {a : Nm} : (decide (a.1 = 0) && (decide (a.2 = 0) && true)) = true ↔ a = (0, 0) := by
  obtain ⟨x, y⟩ := a
  simp
theorem follow_spec {p : Prog} (hc : cnt p < 400000) (hp : p.length ≤ 12) {s : StE} {q : Block} (h0 : 0 ≤ s.1) (hq : p[s.1.toNat]? = some q)
    {a ae ao : Option Addr} {n c ne ce no co : Nat} {H : Hp} {K : Value → Hp → Prop} (ha : RL H a n c p) (hE : RL H ae ne ce s.2.1)
    (hK : K (.tuple #[staV (folS p s).1.1 ae ne ce s.2.2.1 (.slice ao no co), .bool (folS p s).2]) H) :
    Does Tryz.prog 48 [.agg #[.slice a n c], staV s.1 ae ne ce s.2.2.1 (.slice ao no co)] H K := by
  obtain ⟨b, l, i, o⟩ := s
  dsimp only at h0 hq hE ⊢
  have hn := ha.n_eq
  have hmx := ha.le
  have hblt := (List.getElem?_eq_some_iff.1 hq).1
  have hbk := blkN_get hq
  have hkind : ∀ t : Term, t = q.2.2 → (q.2.2.1 = 3 → folS p (b, l, i, o) = ((b, l, i, o), false)) ∧ (q.2.2.1 ≠ 3 → folS p (b, l, i, o) = ((bIdx p (goTo p (b, l, i, o) q.2.2), l, i, o), true)) := fun _ _ =>
    ⟨fun h => by rw [folS]; dsimp only; rw [hbk, if_pos h], fun h => by rw [folS]; dsimp only; rw [hbk, if_neg h]⟩
  have hkind := hkind _ rfl
  refine spec_of cx_ok cx_mix rfl Tryz.func48 Tryz.call48 Tryz.ntmps48 Tryz.results48 rfl rfl ?_
  refine block_kI ha h0 hq fun ad a5 n5 c5 q1 hh _ _ _ => ?_
  refine ⟨ad, ⟨by omega, by omega, q1⟩, ?_⟩
  refine ⟨_, hh, ?_⟩
  refine ⟨fun h => ?_, fun h => ?_⟩
  · have h3 := dt h
    rw [hkind.1 h3] at hK
    exact hK
  have h3 := df h
  rw [hkind.2 h3] at hK
  refine ⟨fun h => ?_, fun h => ?_⟩
  · have h2 := dt h
    refine value_spec hc ha hE ?_
    refine ⟨fun h => ?_, fun h => ?_⟩
    · have hz : valA p l q.2.2.2.1 = (0, 0) := nm_zero.1 h
      have hgo : goTo p (b, l, i, o) q.2.2 = q.2.2.2.2.2.l := by rw [goTo, if_pos ⟨h2, hz⟩]
      rw [hgo, bIdx] at hK
      refine block_spec hp ha fun _ _ => ?_
      exact hK
    · have hz : ¬ valA p l q.2.2.2.1 = (0, 0) := fun e => by rw [nm_zero.2 e] at h; cases h
      have hgo : goTo p (b, l, i, o) q.2.2 = q.2.2.2.2.1.l := by rw [goTo, if_neg (fun hh => hz hh.2)]
      rw [hgo, bIdx] at hK
      refine block_spec hp ha fun _ _ => ?_
      exact hK
  · have h2 := df h
    have hgo : goTo p (b, l, i, o) q.2.2 = q.2.2.2.2.1.l := by rw [goTo, if_neg (fun hh => h2 hh.1)]
    rw [hgo, bIdx] at hK
    refine block_spec hp ha fun _ _ => ?_
    exact hK
end Go.Proofs
end
section
namespace Go.Proofs
open Go.Sy
set_option maxRecDepth 20000
set_option maxHeartbeats 4000000
/-! Running: whole runs. -/
def goodS (p : Prog) (s : StE) : Prop := (0 ≤ s.1 ∧ s.1 < (p.length : Nat)) ∧ s.2.1.length = (varsOf p).length ∧ 0 ≤ s.2.2.1 ∧ s.2.2.1 ≤ 9223372036854775807
theorem doS_in2 (p : Prog) (inn : List Nm) (s : StE) (x : Stmt) (h : s.2.2.1 ≤ 9223372036854775807) : (doS p inn s x).2.2.1 ≤ 9223372036854775807 := by
  unfold doS inNext
  repeat' split
  all_goals (first | omega | (dsimp only; omega))
theorem doAll_in2 (p : Prog) (inn : List Nm) : ∀ (l : List Stmt) (s : StE), s.2.2.1 ≤ 9223372036854775807 → (doAll p inn s l).2.2.1 ≤ 9223372036854775807
  | [], _, h => h
  | x :: r, s, h => doAll_in2 p inn r (doS p inn s x) (doS_in2 p inn s x h)
theorem goodS_run {p : Prog} {inn : List Nm} {s : StE} (h : goodS p s) : goodS p (runB p inn s) := by
  have h1 := doAll_blk p inn (blkN p s.1).2.1 s
  have h2 := doAll_out p inn (blkN p s.1).2.1 s
  have h3 := doAll_in2 p inn (blkN p s.1).2.1 s h.2.2.2
  rw [runB]
  exact ⟨by rw [h1.1]; exact h.1, by rw [h1.2]; exact h.2.1, h2.2 h.2.2.1, h3⟩
theorem goodS_step {p : Prog} {inn : List Nm} {s : StE} (h : goodS p s) : goodS p (folS p (runB p inn s)).1 := by
  have h1 := goodS_run (inn := inn) h
  unfold folS
  split
  · exact h1
  · exact ⟨bIdx_range p _ (by have := h.1; omega), h1.2⟩
theorem goodS_it {p : Prog} {inn : List Nm} {s : StE} (h : goodS p s) : ∀ k, goodS p (itS p inn s k).2.1
  | 0 => h
  | k + 1 => by
    have h1 := goodS_it (inn := inn) h k
    rw [itS]
    split
    · exact goodS_step h1
    · exact h1
theorem le_stmts : ∀ {p : Prog} {b : Block}, b ∈ p → b.2.1.length ≤ stmtsN p
  | [], _, h => by cases h
  | x :: r, b, h => by
    unfold stmtsN
    rw [List.map_cons, List.sum_cons]
    rcases List.mem_cons.1 h with rfl | h
    · omega
    · have := le_stmts h
      unfold stmtsN at this
      omega
theorem stmts_512 {p : Prog} (h : checkE p = 0) : stmtsN p ≤ 512 := by
  unfold checkE at h
  split at h
  · cases h
  · omega
theorem fol_out (p : Prog) (s : StE) : (folS p s).1.2.2.2 = s.2.2.2 ∧ (folS p s).1.2.1 = s.2.1 ∧ (folS p s).1.2.2.1 = s.2.2.1 := by
  unfold folS
  split <;> exact ⟨rfl, rfl, rfl⟩
theorem blkN_mem {p : Prog} {s : StE} (h : goodS p s) : ∃ q, p[s.1.toNat]? = some q ∧ blkN p s.1 = q ∧ q ∈ p := by
  have hlt : s.1.toNat < p.length := by have := h.1; omega
  exact ⟨p[s.1.toNat], List.getElem?_eq_getElem hlt, blkN_get (List.getElem?_eq_getElem hlt), List.getElem_mem hlt⟩
theorem out_run {p : Prog} {inn : List Nm} {s : StE} (h : goodS p s) : (runB p inn s).2.2.2.length ≤ s.2.2.2.length + stmtsN p := by
  obtain ⟨q, _, e, hm⟩ := blkN_mem h
  have h1 := (doAll_out p inn q.2.1 s).1
  have h2 := le_stmts hm
  rw [runB, e]
  omega
theorem out_it {p : Prog} {inn : List Nm} {s : StE} (h : goodS p s) : ∀ k, (itS p inn s k).2.1.2.2.2.length ≤ s.2.2.2.length + k * stmtsN p
  | 0 => by simp [itS]
  | k + 1 => by
    have h1 := out_it (inn := inn) h k
    have h2 := out_run (inn := inn) (goodS_it (inn := inn) h k)
    rw [itS, Nat.add_mul, Nat.one_mul]
    split
    · rw [(fol_out p _).1]; omega
    · omega
theorem sta_mk {H : Hp} {s : StE} {a1 a2 : Option Addr} {n1 c1 n2 c2 : Nat} (h1 : inI s.1) (h2 : inI s.2.2.1) (hE : RL H a1 n1 c1 s.2.1) (hO : RL H a2 n2 c2 s.2.2.2) : Enc.R H [.int .i64 s.1, .slice a1 n1 c1, .int .i64 s.2.2.1, .slice a2 n2 c2] s :=
  ⟨[_], [_, _, _], rfl, ⟨rfl, h1⟩, [_], [_, _], rfl, ⟨_, _, _, rfl, hE⟩, [_], [_], rfl, ⟨rfl, h2⟩, ⟨_, _, _, rfl, hO⟩⟩
theorem from_spec {p : Prog} (he : checkE p = 0) (hp : p.length ≤ 12) (hc : stmtsN p ≤ 1000000) (hv : cnt p < 400000) {inn : List Nm} {s : StE} (hs : goodS p s) (ho : s.2.2.2.length ≤ 100000) {most : Int} (hm : most ≤ 40)
    {a ae ao ai : Option Addr} {n c ne ce no co ni ci : Nat} {H : Hp} {K : Value → Hp → Prop} (ha : RL H a n c p) (hE : RL H ae ne ce s.2.1) (hO : RL H ao no co s.2.2.2) (hI : RL H ai ni ci inn)
    (hK : ∀ a1 n1 c1 a2 n2 c2 H', Le H H' → RL H' a1 n1 c1 (itS p inn s most.toNat).1 → RL H' a2 n2 c2 (itS p inn s most.toNat).2.1.2.2.2 → K (.tuple #[.agg #[.slice a1 n1 c1, .slice a2 n2 c2, .bool (!(itS p inn s most.toNat).2.2)], .int .i64 0]) H') :
    Does Tryz.prog 22 [.agg #[.slice a n c], staV s.1 ae ne ce s.2.2.1 (.slice ao no co), .slice ai ni ci, .int .i64 most] H K := by
  have hn := ha.n_eq
  have hmx := ha.le
  have hf := check_facts he
  have hst5 := stmts_512 he
  refine spec_of cx_ok cx_mix rfl Tryz.func22 Tryz.call22 Tryz.ntmps22 Tryz.results22 rfl rfl ?_
  have hmm : min (max most 0) 4096 = (most.toNat : Int) := by omega
  refine .inr ⟨Nat × List (List Value) × StE × Bool × (Option Addr × Nat × Nat) × (Option Addr × Nat × Nat), fun _ => 0, fun z => ⟨[(2, .v (.slice ai ni ci)), (3, .v (.int .i64 (min (max most 0) 4096))), (4, .ptr 0 0), (5, .ptr 1 0), (8, .ptr 2 0), (11, .ptr 3 0), (12, .v (.bool z.2.2.2.1))],
      [(0, .cells 24 [.v (.slice a n c)]), (1, .cells 67 [.v (.int .i64 z.2.2.1.1), .v (.slice z.2.2.2.2.1.1 z.2.2.2.2.1.2.1 z.2.2.2.2.1.2.2), .v (.int .i64 z.2.2.1.2.2.1), .v (.slice z.2.2.2.2.2.1 z.2.2.2.2.2.2.1 z.2.2.2.2.2.2.2)]), (2, .cells 31 [.v (.slice none 0 0), .v (.slice none 0 0), .v (.bool false)]), (3, .cells 31 [.own 4, .v (.slice none 0 0), .v (.bool false)]), (4, .row 67 4 z.2.1)], 5⟩,
    fun z H' => Le H H' ∧ z.1 ≤ most.toNat ∧ itS p inn s z.1 = (((itS p inn s z.1).1), z.2.2.1, z.2.2.2.1) ∧ RC (α := StE) H' z.2.1 (itS p inn s z.1).1 ∧ RL H' z.2.2.2.2.1.1 z.2.2.2.2.1.2.1 z.2.2.2.2.1.2.2 z.2.2.1.2.1 ∧ RL H' z.2.2.2.2.2.1 z.2.2.2.2.2.2.1 z.2.2.2.2.2.2.2 z.2.2.1.2.2.2, fun z => most.toNat - z.1, ?_, ?_⟩
  · refine xcheck_spec he hc hv hs.1 hs.2.1 hs.2.2.1 ha hE fun _ _ => ?_
    refine ⟨fun h => absurd rfl (nt h), fun _ => ?_⟩
    have hE1 := hs.2.1
    refine xclone_spec (by omega) (by omega) hE hO fun a1 n1 c1 a2 n2 c2 H0 H1 hle0 hr0 hle1 hr2 => ?_
    have hle : Le H H1 := hle0.trans hle1.le
    have hr1 := hr0.up hle1.le
    have hgd := hs
    have hit : itS p inn s 0 = ([], s, true) := rfl
    have hrc : RC (α := StE) H1 [] ([] : List StE) := RC.nil
    have hcl : ([] : List (List Value)).length = 0 := rfl
    refine ⟨fun h => ?_, fun h => ?_⟩
    · have hlt : 0 < most.toNat := by have := dt h; omega
      refine ⟨some ([1000000, 3], [0, 1, 2, 3, 4, 5, 6, 7]), by kernel_rfl, ?_⟩
      obtain ⟨qq, hq, hbq, hqm⟩ := blkN_mem hgd
      have hst := block_stmts (hf.2.2.2 qq hqm)
      have hqs := le_stmts hqm
      refine xclone_spec (l := s.2.1) (o := s.2.2.2) (by omega) (by omega) hr1 hr2 fun a3 n3 c3 a4 n4 c4 H2 H3 hle2 hr3 hle3 hr4 => ?_
      have h13 : Le H1 H3 := hle2.trans hle3.le
      refine ⟨⟨by show ([].length + 1) * 64 ≤ 140737488355328; omega, by show [].length + 1 ≤ 9223372036854775807; omega⟩, ?_⟩
      refine ⟨some ([1000000, 1], [0, 1, 2, 3, 4, 5, 6, 7, 8, 9, 10]), by kernel_rfl, ?_⟩
      refine run_spec (s := s) hv hgd.1.1 hq hst hE1 (by omega) (by omega) hgd.2.2.1 (ha.up (hle.trans h13)) (hr1.up h13) (hr2.up h13) (hI.up (hle.trans h13)) fun a5 n5 c5 a6 n6 c6 H4 hle4 hr5 hr6 => ?_
      have hgr := goodS_run (inn := inn) hgd
      have hb1 : (runB p inn s).1 = s.1 := (doAll_blk p inn _ s).1
      rw [← hb1]
      refine follow_spec (s := runB p inn s) hv hp hgr.1.1 (by rw [hb1]; exact hq) (ha.up ((hle.trans h13).trans hle4)) hr5 ?_
      have hfo := fol_out p (runB p inn s)
      have e : SV.v (.int .i64 (runB p inn s).2.2.1) = SV.v (.int .i64 (folS p (runB p inn s)).1.2.2.1) := by rw [hfo.2.2]
      have hstp := itS_step (p := p) (inn := inn) (s0 := s) (k := 0) (by rw [hit])
      have h14 := h13.trans hle4
      have hrow : RC (α := StE) H4 ([] ++ [[.int .i64 (runB p inn s).1, .slice a3 n3 c3, .int .i64 s.2.2.1, .slice a4 n4 c4]]) (itS p inn s (0 + 1)).1 := by
        rw [hstp, hit, hb1]
        have g1 := hgd.1
        have g2 := hgd.2.2
        exact (hrc.up h14).snoc (sta_mk ⟨by omega, by omega⟩ ⟨by omega, by omega⟩ (hr3.up (hle3.le.trans hle4)) (hr4.up hle4))
      refine ⟨(0 + 1, [] ++ [[.int .i64 (runB p inn s).1, .slice a3 n3 c3, .int .i64 s.2.2.1, .slice a4 n4 c4]], (folS p (runB p inn s)).1, (folS p (runB p inn s)).2, (a5, n5, c5), (a6, n6, c6)), [(0, 0), (1, 1), (2, 2), (3, 3), (4, 5)], rfl, ?_, ⟨hle.trans h14, hlt, ?_, hrow, ?_, ?_⟩⟩
      · (repeat' (first | exact trivial | refine ⟨?_, ?_⟩ | exact rfl | assumption))
      · rw [hstp, hit]
      · rw [hfo.2.1]; exact hr5
      · rw [hfo.1]; exact hr6
    · have hlt : most.toNat = 0 := by have := df h; omega
      rw [hlt] at hK
      exact hK none 0 0 a2 n2 c2 H1 hle rl_nil hr2
  · rintro ⟨k, css, st, g, ⟨a1, n1, c1⟩, ⟨a2, n2, c2⟩⟩ H1 _ ⟨hle, hk, hit, hrc, hr1, hr2⟩
    dsimp only at hk hit hrc hr1 hr2
    have hgd : goodS p st := by have := goodS_it (inn := inn) hs k; rw [hit] at this; exact this
    have hol : st.2.2.2.length ≤ 100000 + 40 * 512 := by
      have h1 := out_it (inn := inn) hs k
      rw [hit] at h1
      have h2 : k * stmtsN p ≤ 40 * 512 := Nat.mul_le_mul (by omega) hst5
      have h1 : st.2.2.2.length ≤ s.2.2.2.length + k * stmtsN p := h1
      omega
    have hcl : css.length = (itS p inn s k).1.length := hrc.1
    have hle4 := itS_le (p := p) (inn := inn) (s0 := s) k
    refine ⟨fun h => ?_, fun h => ?_⟩
    · have hgt : g = true := h
      subst hgt
      have hkl : (itS p inn s k).1.length = k := itS_len k (by rw [hit])
      have hE1 := hgd.2.1
      refine ⟨fun h => ?_, fun h => ?_⟩
      · have hlt : k < most.toNat := by have := dt h; dsimp only at this; omega
        refine ⟨some ([1000000, 3, 4], [0, 1, 2, 3, 4, 5, 6, 7]), by kernel_rfl, ?_⟩
        obtain ⟨qq, hq, hbq, hqm⟩ := blkN_mem hgd
        have hst := block_stmts (hf.2.2.2 qq hqm)
        have hqs := le_stmts hqm
        refine xclone_spec (l := st.2.1) (o := st.2.2.2) (by omega) (by omega) hr1 hr2 fun a3 n3 c3 a4 n4 c4 H2 H3 hle2 hr3 hle3 hr4 => ?_
        have h13 : Le H1 H3 := hle2.trans hle3.le
        refine ⟨⟨by show (css.length + 1) * 64 ≤ 140737488355328; omega, by show css.length + 1 ≤ 9223372036854775807; omega⟩, ?_⟩
        refine ⟨some ([1000000, 1], [0, 1, 2, 3, 4, 5, 6, 7, 8, 9, 10]), by kernel_rfl, ?_⟩
        refine run_spec (s := st) hv hgd.1.1 hq hst hE1 (by omega) (by omega) hgd.2.2.1 (ha.up (hle.trans h13)) (hr1.up h13) (hr2.up h13) (hI.up (hle.trans h13)) fun a5 n5 c5 a6 n6 c6 H4 hle4 hr5 hr6 => ?_
        have hgr := goodS_run (inn := inn) hgd
        have hb1 : (runB p inn st).1 = st.1 := (doAll_blk p inn _ st).1
        rw [← hb1]
        refine follow_spec (s := runB p inn st) hv hp hgr.1.1 (by rw [hb1]; exact hq) (ha.up ((hle.trans h13).trans hle4)) hr5 ?_
        have hfo := fol_out p (runB p inn st)
        have e : SV.v (.int .i64 (runB p inn st).2.2.1) = SV.v (.int .i64 (folS p (runB p inn st)).1.2.2.1) := by rw [hfo.2.2]
        have hstp := itS_step (p := p) (inn := inn) (s0 := s) (k := k) (by rw [hit])
        have h14 := h13.trans hle4
        have hrow : RC (α := StE) H4 (css ++ [[.int .i64 (runB p inn st).1, .slice a3 n3 c3, .int .i64 st.2.2.1, .slice a4 n4 c4]]) (itS p inn s (k + 1)).1 := by
          rw [hstp, hit, hb1]
          have g1 := hgd.1
          have g2 := hgd.2.2
          exact (hrc.up h14).snoc (sta_mk ⟨by omega, by omega⟩ ⟨by omega, by omega⟩ (hr3.up (hle3.le.trans hle4)) (hr4.up hle4))
        refine ⟨(k + 1, css ++ [[.int .i64 (runB p inn st).1, .slice a3 n3 c3, .int .i64 st.2.2.1, .slice a4 n4 c4]], (folS p (runB p inn st)).1, (folS p (runB p inn st)).2, (a5, n5, c5), (a6, n6, c6)), [(0, 0), (1, 1), (2, 2), (3, 3), (4, 6)], rfl, ?_, ⟨hle.trans h14, hlt, ?_, hrow, ?_, ?_⟩, by dsimp only; omega⟩
        · (repeat' (first | exact trivial | refine ⟨?_, ?_⟩ | exact rfl | assumption))
        · rw [hstp, hit]
        · rw [hfo.2.1]; exact hr5
        · rw [hfo.1]; exact hr6
      · have hge : most.toNat = k := by have := df h; dsimp only at this; omega
        rw [hge, hit] at hK
        intro v H5 hle5 hv5
        refine of_row_k (α := StE) hv5 (hrc.up hle5.le) fun a7 n7 c7 ev hr7 => ?_
        subst ev
        exact hK _ _ _ _ _ _ _ (hle.trans hle5.le) hr7 (hr2.up hle5.le)
    · have hgf : g = false := h
      subst hgf
      have hend := itS_end (p := p) (inn := inn) (s0 := s) (k := k) (by rw [hit]) (most.toNat - k)
      rw [show k + (most.toNat - k) = most.toNat by omega] at hend
      rw [hend, hit] at hK
      intro v H5 hle5 hv5
      refine of_row_k (α := StE) hv5 (hrc.up hle5.le) fun a7 n7 c7 ev hr7 => ?_
      subst ev
      exact hK _ _ _ _ _ _ _ (hle.trans hle5.le) hr7 (hr2.up hle5.le)
end Go.Proofs
end
section
namespace Go.Proofs
open Go.Sy
set_option maxRecDepth 20000
set_option maxHeartbeats 4000000
/-! Running from the start. -/
theorem start_spec {p : Prog} (he : checkE p = 0) (hv : cnt p < 400000) {a : Option Addr} {n c : Nat} {H : Hp} {K : Value → Hp → Prop} (ha : RL H a n c p)
    (hK : ∀ a1 n1 c1 H', Le H H' → RL H' a1 n1 c1 (start0 p).2.1 → K (staV 0 a1 n1 c1 0 (.slice none 0 0)) H') : Does Tryz.prog 23 [.agg #[.slice a n c]] H K := by
  have hf := check_facts he
  refine spec_of cx_ok cx_mix rfl Tryz.func23 Tryz.call23 Tryz.ntmps23 Tryz.results23 rfl rfl ?_
  refine pvars_spec ha hv fun av nv cv H1 hle1 hrv => ?_
  have hnv := hrv.n_eq
  rw [List.length_map] at hnv
  refine ⟨⟨rfl, by omega, by show (nv : Int) * 16 ≤ _; omega, by omega⟩, ?_⟩
  intro v H' hle hv2
  have e : List.replicate (nv : Int).toNat [Value.int .i64 0, Value.int .i64 0] = nRows (start0 p).2.1 := by
    show _ = List.map _ (List.replicate _ _)
    rw [List.map_replicate, Int.toNat_natCast, hnv]
  have hv2 : RowAt H' v 2 (List.replicate (nv : Int).toNat [Value.int .i64 0, Value.int .i64 0]) := hv2
  rw [e] at hv2
  refine of_row_k (α := Nm) hv2 (rc_eRows fun y hy => ?_) fun a1 n1 c1 ev hr => ?_
  · rw [(List.mem_replicate.1 hy).2]; exact ⟨⟨by decide, by decide⟩, ⟨by decide, by decide⟩⟩
  · subst ev
    exact hK _ _ _ _ (hle1.trans hle.le) hr
theorem goodS_start {p : Prog} (he : checkE p = 0) : goodS p (start0 p) := by
  have hf := check_facts he
  exact ⟨⟨Int.le_refl _, by show (0 : Int) < _; omega⟩, by simp [start0], Int.le_refl _, (by show (0 : Int) ≤ 9223372036854775807; decide)⟩
theorem all_spec {p : Prog} (he : checkE p = 0) (hp : p.length ≤ 12) (hc : stmtsN p ≤ 1000000) (hv : cnt p < 400000) {inn : List Nm} {most : Int} (hm : most ≤ 40)
    {a ai : Option Addr} {n c ni ci : Nat} {H : Hp} {K : Value → Hp → Prop} (ha : RL H a n c p) (hI : RL H ai ni ci inn)
    (hK : ∀ a1 n1 c1 a2 n2 c2 H', Le H H' → RL H' a1 n1 c1 (itS p inn (start0 p) most.toNat).1 → RL H' a2 n2 c2 (itS p inn (start0 p) most.toNat).2.1.2.2.2 → K (.tuple #[.agg #[.slice a1 n1 c1, .slice a2 n2 c2, .bool (!(itS p inn (start0 p) most.toNat).2.2)], .int .i64 0]) H') :
    Does Tryz.prog 7 [.agg #[.slice a n c], .slice ai ni ci, .int .i64 most] H K := by
  refine spec_of cx_ok cx_mix rfl Tryz.func7 Tryz.call7 Tryz.ntmps7 Tryz.results7 rfl rfl ?_
  refine ⟨some ([1], [0, 1, 3, 4, 2, 5, 6, 7, 8, 9]), by kernel_rfl, ?_⟩
  refine start_spec he hv ha fun a1 n1 c1 H1 hle1 hr1 => ?_
  refine from_spec he hp hc hv (s := start0 p) (goodS_start he) (by simp [start0]) hm (ha.up hle1) hr1 rl_nil (hI.up hle1) fun a2 n2 c2 a3 n3 c3 H2 hle2 hr2 hr3 => ?_
  exact hK _ _ _ _ _ _ _ (hle1.trans hle2) hr2 hr3
end Go.Proofs
end
section
namespace Go.Proofs
open Go.Sy
set_option maxRecDepth 20000
set_option maxHeartbeats 4000000
/-! PropRuns. -/
end Go.Proofs
end
section
namespace Go.Proofs
open Go.Sy
set_option maxRecDepth 20000
set_option maxHeartbeats 4000000
/-! FoldRuns. -/
theorem nums_spec {l : List Nm} {a a2 : Option Addr} {n c n2 c2 : Nat} {H : Hp} {K : Value → Hp → Prop} (ha : RL H a n c l) (hb : RL H a2 n2 c2 l) (hK : K (.bool true) H) : Does Tryz.prog 10 [.slice a n c, .slice a2 n2 c2] H K := by
  have hn := ha.n_eq
  have hn2 := hb.n_eq
  have hmx := ha.le
  refine spec_of cx_ok cx_mix rfl Tryz.func10 Tryz.call10 Tryz.ntmps10 Tryz.results10 rfl rfl ?_
  refine ⟨fun h => absurd (show (n : Int) = n2 by omega) (nt h), fun _ => ?_⟩
  refine ⟨Nat, fun i => ⟨[(0, .v (.slice a n c)), (1, .v (.slice a2 n2 c2)), (12, .v (.int .i64 n)), (13, .v (.int .i64 i))], [], 0⟩, fun i H' => H' = H ∧ i ≤ l.length, fun i => l.length - i, ⟨0, [], ?_, rfl, Nat.zero_le _⟩, ?_⟩
  · (repeat' (first | exact trivial | refine ⟨?_, ?_⟩ | exact rfl | assumption))
  rintro i H1 _ ⟨rfl, hi⟩
  refine ⟨fun h => ?_, fun h => ?_⟩
  · have hlt : i < l.length := by have := dt h; omega
    have hx := List.getElem?_eq_getElem hlt
    refine edge_k ha hx fun ad q1 hh => ?_
    refine edge_k hb hx fun ad2 q2 hh2 => ?_
    refine ⟨some ([], [0, 1, 2, 3, 4, 5, 6, 7, 8]), by kernel_rfl, ?_⟩
    refine ⟨ad, ⟨by omega, by omega, q1⟩, ?_⟩
    refine ⟨_, hh, ?_⟩
    refine ⟨ad2, ⟨by omega, by omega, q2⟩, ?_⟩
    refine ⟨_, hh2, ?_⟩
    refine ⟨fun h => by simp at h, fun _ => ?_⟩
    refine ⟨⟨by omega, by omega⟩, i + 1, [], ?_, ⟨rfl, hlt⟩, by dsimp only; omega⟩
    (repeat' (first | exact trivial | refine ⟨?_, ?_⟩ | exact rfl | assumption))
  · exact hK
end Go.Proofs
end
section
namespace Go.Proofs
open Go.Sy
set_option maxRecDepth 20000
set_option maxHeartbeats 4000000
/-! PruneRuns. -/
theorem cnt_le (p : Prog) : cnt p = 3 * stmtsN p + p.length := by
  induction p with
  | nil => rfl
  | cons b r ih =>
    unfold cnt stmtsN at ih ⊢
    rw [List.map_cons, List.sum_cons, List.map_cons, List.sum_cons, List.length_cons, ih]
    omega
theorem whole_few {q : Prog} (hw : Whole q) (hp : q.length ≤ 12) : stmtsN q ≤ 1000000 ∧ cnt q < 400000 ∧ ∀ b ∈ q, b.2.1.length ≤ 1000000 := by
  have h1 := stmts_512' hw.chk
  have h2 := cnt_le q
  exact ⟨by omega, by omega, fun b hb => by have := le_stmts hb; omega⟩
theorem PruneRuns_spec {p : Prog} {inn : List Nm} {a ai : Option Addr} {n c ni ci : Nat} {H : Hp} {K : Value → Hp → Prop} (ha : RL H a n c p) (hI : RL H ai ni ci inn) (most : Int) (hK : ∀ H', Le H H' → K (.bool true) H') : Does Tryz.prog 3 [.agg #[.slice a n c], .slice ai ni ci, .int .i64 most] H K := by
  have hn := ha.n_eq
  have hmx := ha.le
  have hni := hI.n_eq
  refine spec_of cx_ok cx_mix rfl Tryz.func3 Tryz.call3 Tryz.ntmps3 Tryz.results3 rfl rfl ?_
  refine awake47_spec fun _ _ => ?_
  refine ⟨(fun h => by cases h), fun _ => ?_⟩
  refine small4_spec ha fun t ht => ?_
  refine ⟨fun h => ?f0, fun h => ?t0⟩
  case t0 => exact hK _ (Le.refl H)
  have hb4 := ht (by simpa using h)
  have hp := hb4.1
  have hl : ∀ b ∈ p, b.2.1.length ≤ 1000000 := fun b h => by have := (hb4.2 b h).1.1; omega
  have hc : stmtsN p ≤ 1000000 := small_stmts hb4
  have hv : cnt p < 400000 := small_cnt hb4
  refine ⟨fun h => ?g0, fun h => ?u0⟩
  case u0 => exact hK _ (Le.refl H)
  refine rcheck_spec ha hc hv fun _ _ => ?_
  refine ⟨fun h => ?t2, fun h => ?f2⟩
  case t2 => exact hK _ (Le.refl H)
  have he : checkE p = 0 := nf h
  have hf := check_facts he
  refine all_spec he hp hc hv (by omega) ha hI fun a1 n1 c1 a2 n2 c2 H1 hle1 hr1 hr2 => ?_
  refine pprog_spec hp hl hc hv (ha.up hle1) (fun hb => absurd he hb) (fun _ aq nq cq R H2 hle2 hS hR hq => ?_)
  have hWq := kept_whole he hR
  have hit := kept_it (kept_prog he hR) inn (min most 25).toNat
  have hpq : (keepP (endsP p) R p.length).length ≤ 12 := Nat.le_trans (keepP_len _ _ _) hp
  have h12 := hle1.trans hle2
  refine pmerge_spec hp hl hc hv (ha.up h12) (fun hb => absurd he hb) (fun _ am nm cm R2 m H3 hle3 hS2 hR2 hM hm => ?_)
  have e1 : R = R2 := strict_ext hS hS2 (hR.mem hR2)
  subst e1
  refine name_k (keepP (endsP p) R p.length) fun q hqe => ?_
  rw [← hqe] at hWq hit hpq hM hq
  obtain ⟨hWm, hnone, hml, hends⟩ := mrg_all hM hWq
  obtain ⟨hcq, hvq, hlq⟩ := whole_few hWq hpq
  have hpm : m.length ≤ 12 := by omega
  obtain ⟨hcm, hvm, hlm⟩ := whole_few hWm hpm
  have h13 := h12.trans hle3
  refine all_spec hWq.chk hpq hcq hvq (by omega) (hq.up hle3) (hI.up h13) fun a3 n3 c3 a4 n4 c4 H4 hle4 hr3 hr4 => ?_
  have h14 := h13.trans hle4
  refine all_spec hWm.chk hpm hcm hvm (by omega) (hm.up hle4) (hI.up h14) fun a5 n5 c5 a6 n6 c6 H5 hle5 hr5 hr6 => ?_
  have hfl : (itS q inn (start0 q) (min most 25).toNat).2.2 = (itS p inn (start0 p) (min most 25).toNat).2.2 := hit.2.1.symm
  have hou : (itS q inn (start0 q) (min most 25).toNat).2.1.2.2.2 = (itS p inn (start0 p) (min most 25).toNat).2.1.2.2.2 := by rw [hit.2.2]
  have hle_ : (itS q inn (start0 q) (min most 25).toNat).1.length = (itS p inn (start0 p) (min most 25).toNat).1.length := hit.1.symm
  rw [hfl]
  rw [hou] at hr4
  have h25 := (h12.trans hle3).trans hle4
  have hn1 := hr1.n_eq
  have hn3 := hr3.n_eq
  have hn5 := hr5.n_eq
  have hm1 := hr1.le
  refine ⟨fun _ => ?_, fun h => absurd rfl (nt h)⟩
  refine ⟨fun _ => ?_, fun h => absurd rfl (nt h)⟩
  refine ⟨fun _ => ?_, fun h => absurd rfl (nt h)⟩
  refine ⟨fun _ => ?_, fun h => absurd rfl (nt h)⟩
  refine nums_spec (hr2.up (((hle2.trans hle3).trans hle4).trans hle5)) (hr4.up hle5) ?_
  refine ⟨fun _ => ?_, fun h => by cases h⟩
  refine ⟨fun _ => ?_, fun h => by simp at h⟩
  refine ⟨fun h => absurd (show (n1 : Int) = n3 by omega) (nt h), fun _ => ?_⟩
  have h3_5 := (hle3.trans hle4).trans hle5
  refine ⟨fun hen => ?_, fun _ => ?_⟩
  · have hE : (itS p inn (start0 p) (min most 25).toNat).2.2 = false := by simpa using hen
    have hEq : (itS q inn (start0 q) (min most 25).toNat).2.2 = false := by rw [hfl]; exact hE
    obtain ⟨k', hk', hem⟩ := hends inn _ _ (it_ends _ _ hEq)
    have hkk := itS_le (p := q) (inn := inn) (s0 := start0 q) (min most 25).toNat
    obtain ⟨g1, g2, g3⟩ := ends_it hem (min most 25).toNat (by omega)
    rw [hou] at g3
    rw [g3] at hr6
    rw [g1]
    rw [g2] at hn5
    refine ⟨fun _ => ?_, fun h => by cases h⟩
    refine nums_spec (hr2.up ((((hle2.trans hle3).trans hle4).trans hle5))) hr6 ?_
    refine ⟨fun _ => ?_, fun h => by cases h⟩
    refine ⟨fun h => absurd (dt h) (by omega), fun _ => ?_⟩
    refine pprog_spec hpq hlq hcq hvq (hq.up h3_5) (fun hb => absurd hWq.chk hb) (fun _ ag ng cg R2 H6 hle6 hS2' hR2' hq2 => ?_)
    rw [whole_keep hWq hR2'] at hq2
    refine pmerge_spec hpm hlm hcm hvm (hm.up ((hle4.trans hle5).trans hle6)) (fun hb => absurd hWm.chk hb) (fun _ ah nh ch R3 r H7 hle7 hS3 hR3 hM3 hm2 => ?_)
    rw [whole_keep hWm hR3] at hM3
    rw [hM3.one (Mrg.stop hnone)] at hm2
    have hq7 := (hq.up h3_5).up (hle6.trans hle7)
    have hm7 := hm.up (((hle4.trans hle5).trans hle6).trans hle7)
    have h17 := ((h14.trans hle5).trans hle6).trans hle7
    have hnq := hq7.n_eq
    have hel : (gSort (edgesOf q)).length ≤ 100000 := by
      have h1 := gSort_len (edgesOf q)
      have h2 : (edgesOf q).length ≤ 2 * q.length := eAll_len _ _ 0
      omega
    refine ⟨none, ?_⟩
    refine region_plan (α := Unit) ?_ ?_ (.two 18 19 (.one [8] [0, 1, 2, 3, 4, 5, 6, 7, 8, 9, 10, 11, 12, 13, 14, 15, 16, 17, 22, 23, 24, 18, 19, 20, 21, 25, 26, 27]) (.one [8] [0, 1, 2, 3, 4, 5, 6, 7, 8, 9, 10, 11, 12, 13, 14, 15, 16, 17, 22, 23, 24, 19, 18, 20, 21, 25, 26, 27]))
      (fun _ => ⟨[(6, .v (.bool true))], [], 0⟩)
      (fun _ H' => Le H7 H') (by kernel_rfl) ⟨?_, ?_⟩ ?_
    · exact ⟨cx_ok.tt, cx_ok.eqs⟩
    · exact cx_mix
    · refine psame_spec hq7 (hq2.up hle7) ?_
      refine ⟨fun _ => ?_, fun h => by cases h⟩
      refine psame_spec hm7 hm2 ?_
      refine ⟨fun _ => ?_, fun h => by cases h⟩
      refine pcheck_spec hm7 hcm hvm fun _ _ => ?_
      refine ⟨fun _ => ?_, fun h => absurd hWm.chk (df h)⟩
      refine redges_spec hpq hq7 fun b1 b2 b3 H8 hle8 hr8 => ?_
      intro x H9 hle9 hx
      obtain ⟨d1, d2, d3, rfl, hr9⟩ := rI_all (l := [0]) hx (fun z hz => by rw [List.mem_singleton] at hz; rw [hz]; exact ⟨by omega, by omega⟩)
      have hr8 := hr8.up hle9.le
      have h79 := hle8.trans hle9.le
      refine rreached_spec (m := (nq : Nat)) (by omega) (by omega) hel (by simp) hr8 hr9 fun f1 f2 f3 R4 H10 hle10 hr10 hS10 hR10 => ?_
      have hf2 := hr10.n_eq
      have hrl := whole_reach_len hWq hS10 (hnq ▸ hR10)
      have hd : decide ((f2 : Int) = (nq : Int)) = true := decide_eq_true (by omega)
      refine ⟨(), [], ?_, h79.trans hle10⟩
      rw [hd]
      (repeat' (first | exact trivial | refine ⟨?_, ?_⟩ | exact rfl | assumption))
    · refine psame_spec hq7 (hq2.up hle7) ?_
      refine ⟨fun _ => ?_, fun h => by cases h⟩
      refine psame_spec hm7 hm2 ?_
      refine ⟨fun _ => ?_, fun h => by cases h⟩
      refine pcheck_spec hm7 hcm hvm fun _ _ => ?_
      refine ⟨fun _ => ?_, fun h => absurd hWm.chk (df h)⟩
      refine redges_spec hpq hq7 fun b1 b2 b3 H8 hle8 hr8 => ?_
      intro x H9 hle9 hx
      obtain ⟨d1, d2, d3, rfl, hr9⟩ := rI_all (l := [0]) hx (fun z hz => by rw [List.mem_singleton] at hz; rw [hz]; exact ⟨by omega, by omega⟩)
      have hr8 := hr8.up hle9.le
      have h79 := hle8.trans hle9.le
      refine rreached_spec (m := (nq : Nat)) (by omega) (by omega) hel (by simp) hr8 hr9 fun f1 f2 f3 R4 H10 hle10 hr10 hS10 hR10 => ?_
      have hf2 := hr10.n_eq
      have hrl := whole_reach_len hWq hS10 (hnq ▸ hR10)
      have hd : decide ((f2 : Int) = (nq : Int)) = true := decide_eq_true (by omega)
      refine ⟨(), [], ?_, h79.trans hle10⟩
      rw [hd]
      (repeat' (first | exact trivial | refine ⟨?_, ?_⟩ | exact rfl | assumption))
    intro _ H8 _ hle8
    exact hK _ (h17.trans hle8)
  · skip
    refine pprog_spec hpq hlq hcq hvq (hq.up h3_5) (fun hb => absurd hWq.chk hb) (fun _ ag ng cg R2 H6 hle6 hS2' hR2' hq2 => ?_)
    rw [whole_keep hWq hR2'] at hq2
    refine pmerge_spec hpm hlm hcm hvm (hm.up ((hle4.trans hle5).trans hle6)) (fun hb => absurd hWm.chk hb) (fun _ ah nh ch R3 r H7 hle7 hS3 hR3 hM3 hm2 => ?_)
    rw [whole_keep hWm hR3] at hM3
    rw [hM3.one (Mrg.stop hnone)] at hm2
    have hq7 := (hq.up h3_5).up (hle6.trans hle7)
    have hm7 := hm.up (((hle4.trans hle5).trans hle6).trans hle7)
    have h17 := ((h14.trans hle5).trans hle6).trans hle7
    have hnq := hq7.n_eq
    have hel : (gSort (edgesOf q)).length ≤ 100000 := by
      have h1 := gSort_len (edgesOf q)
      have h2 : (edgesOf q).length ≤ 2 * q.length := eAll_len _ _ 0
      omega
    refine ⟨none, ?_⟩
    refine region_plan (α := Unit) ?_ ?_ (.two 18 19 (.one [8] [0, 1, 2, 3, 4, 5, 6, 7, 8, 9, 10, 11, 12, 13, 14, 15, 16, 17, 22, 23, 24, 18, 19, 20, 21, 25, 26, 27]) (.one [8] [0, 1, 2, 3, 4, 5, 6, 7, 8, 9, 10, 11, 12, 13, 14, 15, 16, 17, 22, 23, 24, 19, 18, 20, 21, 25, 26, 27]))
      (fun _ => ⟨[(6, .v (.bool true))], [], 0⟩)
      (fun _ H' => Le H7 H') (by kernel_rfl) ⟨?_, ?_⟩ ?_
    · exact ⟨cx_ok.tt, cx_ok.eqs⟩
    · exact cx_mix
    · refine psame_spec hq7 (hq2.up hle7) ?_
      refine ⟨fun _ => ?_, fun h => by cases h⟩
      refine psame_spec hm7 hm2 ?_
      refine ⟨fun _ => ?_, fun h => by cases h⟩
      refine pcheck_spec hm7 hcm hvm fun _ _ => ?_
      refine ⟨fun _ => ?_, fun h => absurd hWm.chk (df h)⟩
      refine redges_spec hpq hq7 fun b1 b2 b3 H8 hle8 hr8 => ?_
      intro x H9 hle9 hx
      obtain ⟨d1, d2, d3, rfl, hr9⟩ := rI_all (l := [0]) hx (fun z hz => by rw [List.mem_singleton] at hz; rw [hz]; exact ⟨by omega, by omega⟩)
      have hr8 := hr8.up hle9.le
      have h79 := hle8.trans hle9.le
      refine rreached_spec (m := (nq : Nat)) (by omega) (by omega) hel (by simp) hr8 hr9 fun f1 f2 f3 R4 H10 hle10 hr10 hS10 hR10 => ?_
      have hf2 := hr10.n_eq
      have hrl := whole_reach_len hWq hS10 (hnq ▸ hR10)
      have hd : decide ((f2 : Int) = (nq : Int)) = true := decide_eq_true (by omega)
      refine ⟨(), [], ?_, h79.trans hle10⟩
      rw [hd]
      (repeat' (first | exact trivial | refine ⟨?_, ?_⟩ | exact rfl | assumption))
    · refine psame_spec hq7 (hq2.up hle7) ?_
      refine ⟨fun _ => ?_, fun h => by cases h⟩
      refine psame_spec hm7 hm2 ?_
      refine ⟨fun _ => ?_, fun h => by cases h⟩
      refine pcheck_spec hm7 hcm hvm fun _ _ => ?_
      refine ⟨fun _ => ?_, fun h => absurd hWm.chk (df h)⟩
      refine redges_spec hpq hq7 fun b1 b2 b3 H8 hle8 hr8 => ?_
      intro x H9 hle9 hx
      obtain ⟨d1, d2, d3, rfl, hr9⟩ := rI_all (l := [0]) hx (fun z hz => by rw [List.mem_singleton] at hz; rw [hz]; exact ⟨by omega, by omega⟩)
      have hr8 := hr8.up hle9.le
      have h79 := hle8.trans hle9.le
      refine rreached_spec (m := (nq : Nat)) (by omega) (by omega) hel (by simp) hr8 hr9 fun f1 f2 f3 R4 H10 hle10 hr10 hS10 hR10 => ?_
      have hf2 := hr10.n_eq
      have hrl := whole_reach_len hWq hS10 (hnq ▸ hR10)
      have hd : decide ((f2 : Int) = (nq : Int)) = true := decide_eq_true (by omega)
      refine ⟨(), [], ?_, h79.trans hle10⟩
      rw [hd]
      (repeat' (first | exact trivial | refine ⟨?_, ?_⟩ | exact rfl | assumption))
    intro _ H8 _ hle8
    exact hK _ (h17.trans hle8)
end Go.Proofs
end
