/- Part 'M23' of the proof (Gw1, Gw2, Dl, Mg2, Mg3, Mg4, Mg5): lemmas, each with its own conditions in its own statement. -/
import Derived.Test.YtnnkkkimpolfdaaGreatM2
import Derived.Test.YtnnkkkimpolfdaaGreatM22
section
namespace Go.Proofs
open Go.Sy Go.Shelf Go.RowKit Go.Lib
set_option maxRecDepth 20000
theorem growD_spec {n : Nat} (h0 : 0 < n) (hn : n ≤ 1000000000) {H : Hp} {K : Value → Hp → Prop} (hK : ∀ v H', LeN 75 9 [] H v H' → K v H') : Does Tryz.prog 96 [.slice none 0 0, .int .i64 (n : Nat)] H K := by
  refine ⟨Tryz.call96, fun w hp => ?_⟩
  have hi := (tt_ok 75 _ _ rfl).1
  have hbig : (0 + n) * Tryz.t75.bytes ≤ 140737488355328 := by show (0 + n) * 96 ≤ _; omega
  refine (Any8.slices_Grow_grow Tryz.laysGw Tryz.t75 _ hi rfl (by decide) none 0 0 n [] w (Nat.le_refl _) (by omega) hbig (by omega) rfl (fun _ => rfl) (fun a ha => by cases ha)).mono fun e w' ⟨e1, e2⟩ => ?_
  have hsz : H w.heap.size = none := by
    cases h : H w.heap.size with
    | none => rfl
    | some o =>
      have := hp _ _ h
      rw [Array.getElem?_eq_none (Nat.le_refl _)] at this
      cases this
  obtain ⟨cells, hc⟩ : ∃ x, x = (([] : List Value).toArray ++ Builtin.zeroCells (Value.cells (Option.get Tryz.t75.zero rfl)) (0 + n - 0) ++ Builtin.zeroCells (Value.cells (Option.get Tryz.t75.zero rfl)) (grownCap w (0 + n) 0 75 - (0 + n))) := ⟨_, rfl⟩
  have e3 : w' = w.drew.alloc (.cells cells 75) := by rw [hc]; exact e2
  have hz : ∀ k, (Builtin.zeroCells (Value.cells (Option.get Tryz.t75.zero rfl)) k).size = k * 9 := fun k => by
    show (Builtin.zeroCells _ k).size = _
    simp [Builtin.zeroCells]
    rfl
  let H' : Hp := fun b => if b = w.heap.size then some (.cells cells 75 (0, 0)) else H b
  have hle : Le H H' := fun b o hb => by
    show (if b = w.heap.size then _ else H b) = _
    rw [if_neg (fun e => by rw [e, hsz] at hb; cases hb)]
    exact hb
  have hg0 : n ≤ grownCap w (0 + n) 0 75 := by have := grownCap_ge w (0 + n) 0 75; omega
  have hmax : maxLen = 9223372036854775807 := rfl
  refine ⟨_, H', e1, hK _ _ ⟨hle, .inr ⟨w.heap.size, _, cells, rfl, hsz, if_pos rfl, Nat.zero_le _, grownCap_le_maxLen w _ _ _ (by rw [hmax]; omega), ?_, by simp⟩⟩, hle, ?_, ?_, ?_⟩
  · rw [hc]
    simp only [Array.size_append, hz, List.size_toArray, List.length_nil]
    show _ = grownCap w (0 + n) 0 75 * 9
    omega
  · intro b o hb
    have hb : (if b = w.heap.size then some (.cells cells 75 (0, 0)) else H b) = some o := hb
    rw [e3]
    split at hb
    · rename_i e
      rw [e, ← hb]
      exact _root_.Go.heap_alloc_new w.drew _
    · have h1 := hp b o hb
      rw [← h1]
      exact _root_.Go.heap_alloc_old w.drew _ (Array.getElem?_eq_some_iff.1 h1).1
  · intro b h1 h2
    show (if b = w.heap.size then _ else H b) = none
    rw [if_neg (by omega)]
    exact h1
  · rw [e3]
    exact ⟨⟨rfl, rfl, rfl, by show _ ≤ (w.heap.push _).size; simp, fun k hk => _root_.Go.heap_alloc_old w.drew _ hk⟩, Nat.le_succ _⟩
/-- A nil slice grown. -/
theorem grow_spec {n : Nat} (hn : n ≤ 1000000000) {H : Hp} {K : SV → St → Hp → Prop} (hK0 : n = 0 → K (.v (.slice none 0 0)) ⟨[], [], 0⟩ H) (hK : ∀ H', Le H H' → K (.own 0) ⟨[], [(0, .row 75 9 [])], 1⟩ H') : DoesG Tryz.prog 96 [.v (.slice none 0 0), .v (.int .i64 (n : Nat))] [] 0 H K := by
  rcases Nat.eq_zero_or_pos n with h0 | h0
  · subst h0
    have hd : Does Tryz.prog 96 [.slice none 0 0, .int .i64 ((0 : Nat) : Int)] H fun v H' => v = .slice none 0 0 ∧ H' = H :=
      ⟨Tryz.call96, fun w hp => (Any8.slices_Grow_room Tryz.laysGw none 0 0 0 w (Nat.le_refl _) (by omega) (by omega) (Nat.le_refl _)).mono fun e w' ⟨e1, e2⟩ =>
        ⟨_, H, e1, ⟨rfl, rfl⟩, Le.refl H, fun b o hb => by rw [e2]; exact hp b o hb, fun b h1 _ => h1, by rw [e2]; exact BelowD.refl _ _⟩⟩
    refine doesG_thawR (fun _ => rfl) hd fun v H2 hle h => .inl ⟨.v (.slice none 0 0), fun _ => ?_, rfl, ?_⟩
    · rw [h.1]; rfl
    · rw [h.2]; exact hK0 rfl
  · refine doesG_thawR (fun _ => rfl) (growD_spec h0 hn (K := fun v H' => LeN 75 9 [] H v H') fun _ _ h => h) fun v H2 hle h => .inr ⟨75, 9, [], v, .own 0, fun ρ hρ => hρ, rfl, h.new, fun y hy => (by cases hy), fun H' hle2 _ => hK H' hle2⟩
end Go.Proofs
end
section
namespace Go.Proofs
open Go.Sy
set_option maxRecDepth 20000
set_option maxHeartbeats 4000000
noncomputable def cxG : Cx := { P := Tryz.prog, tt := tt, n := 0, wrap := false, base := 0, gf := 96 :: cx.gf, eqs := cx.eqs, xf := [] }
theorem cxG_ok : TOK cxG := ⟨cx_ok.tt, cx_ok.eqs⟩
def lensN {α : Type} (ls : List (List α)) : Nat := (ls.map List.length).sum
theorem lensN_take {α : Type} {ls : List (List α)} {i : Nat} {x : List α} (h : ls[i]? = some x) : lensN (ls.take (i + 1)) = lensN (ls.take i) + x.length := by
  rw [lensN, List.take_add_one, h, Option.toList_some, List.map_append, List.sum_append, ← lensN]
  simp
theorem lensN_le {α : Type} (ls : List (List α)) (i : Nat) : lensN (ls.take i) ≤ lensN ls := by
  conv => rhs; rw [← List.take_append_drop i ls]
  rw [lensN, lensN, List.map_append, List.sum_append]; omega
theorem flat_take {α : Type} {ls : List (List α)} {i : Nat} {x : List α} (h : ls[i]? = some x) : (ls.take (i + 1)).flatten = (ls.take i).flatten ++ x := by
  rw [List.take_add_one, h, Option.toList_some, List.flatten_append]
  simp
theorem flatN_len {α : Type} (ls : List (List α)) : ls.flatten.length = lensN ls := List.length_flatten
theorem list_k {α : Type} [Enc α] {P : Prop} {H : Hp} {a : Option Addr} {n c : Nat} {xs : List (List α)} (h : RL H a n c xs) {i : Nat} {x : List α} (hi : xs[i]? = some x) (k : ∀ ad a1 n1 c1, a = some ad → ElemH H ad (i : Int) 1 [.slice a1 n1 c1] → RL H a1 n1 c1 x → P) : P :=
  elem_k h hi fun ad cs h1 h2 h3 => by
    obtain ⟨a1, n1, c1, rfl, h4⟩ := h3
    exact k ad a1 n1 c1 h1 h2 h4
theorem concat_spec {ls : List (List Stmt)} (hl : lensN ls ≤ 2000000) {a : Option Addr} {n c : Nat} {H : Hp} {K : Value → Hp → Prop} (ha : RL H a n c ls)
    (hK : ∀ a1 n1 c1 H', Le H H' → RL H' a1 n1 c1 ls.flatten → K (.slice a1 n1 c1) H') : Does Tryz.prog 51 [.slice a n c] H K := by
  have hn1 := ha.n_eq
  have hmx := ha.le
  refine spec_of cxG_ok cx_mix rfl Tryz.func51 Tryz.call51 Tryz.ntmps51 Tryz.results51 rfl rfl ?_
  refine ⟨Nat, fun i => ⟨[(0, .v (.slice a n c)), (3, .v (.int .i64 (lensN (ls.take i) : Nat))), (9, .v (.slice a n c)), (10, .v (.int .i64 n)), (11, .v (.int .i64 i))], [], 0⟩,
    fun i H' => H' = H ∧ i ≤ ls.length, fun i => ls.length - i, ⟨0, [], ?_, rfl, Nat.zero_le _⟩, ?_⟩
  · (repeat' (first | exact trivial | refine ⟨?_, ?_⟩ | exact rfl | assumption))
  rintro i H1 _ ⟨rfl, hi⟩
  refine ⟨fun h => ?_, fun h => ?_⟩
  · have hlt : i < ls.length := by have := dt h; omega
    refine name_k ls[i] fun x hxe => ?_
    have hxx : ls[i]? = some x := by rw [hxe]; exact List.getElem?_eq_getElem hlt
    have hst := lensN_take hxx
    have hle := lensN_le ls (i + 1)
    refine list_k ha hxx fun ad a5 n5 c5 q1 hh hr5 => ?_
    have hn5 := hr5.n_eq
    refine ⟨ad, ⟨by omega, by omega, q1⟩, ?_⟩
    refine ⟨_, hh, ?_⟩
    refine ⟨⟨by omega, by omega⟩, ?_⟩
    refine ⟨fun h => absurd (dt h) (by omega), fun _ => ?_⟩
    refine ⟨⟨by omega, by omega⟩, i + 1, [], ?_, ⟨rfl, hlt⟩, by dsimp only; omega⟩
    have e : SV.v (.int .i64 ((lensN (ls.take i) : Nat) + (n5 : Nat))) = SV.v (.int .i64 ((lensN (ls.take (i + 1)) : Nat))) := by rw [hst, hn5]; rfl
    (repeat' (first | exact trivial | refine ⟨?_, ?_⟩ | exact rfl | assumption))
  · have hil : i = ls.length := by have := df h; omega
    have e0 : lensN (ls.take i) = lensN ls := by rw [hil, List.take_length]
    rw [e0]
    refine ⟨[], rfl, ?_⟩
    refine grow_spec (by omega) (fun _ => ?_) (fun H2 hle2 => ?_)
    · refine ⟨Nat × List (List Value), fun z => ⟨[(6, .own 0), (25, .v (.slice a n c)), (26, .v (.int .i64 n)), (27, .v (.int .i64 z.1))], [(0, .row 75 9 z.2)], 1⟩,
        fun z H' => H' = H1 ∧ z.1 ≤ ls.length ∧ RC (α := Stmt) H1 z.2 (ls.take z.1).flatten, fun z => ls.length - z.1, ⟨(0, []), [], ?_, rfl, Nat.zero_le _, RC.nil⟩, ?_⟩
      · (repeat' (first | exact trivial | refine ⟨?_, ?_⟩ | exact rfl | assumption))
      rintro ⟨j, css⟩ H3 _ ⟨rfl, hj, hrc⟩
      dsimp only at hj hrc
      have hcl : css.length = (ls.take j).flatten.length := hrc.1
      rw [flatN_len] at hcl
      refine ⟨fun h => ?_, fun h => ?_⟩
      · have hlt : j < ls.length := by have := dt h; dsimp only at this; omega
        refine name_k ls[j] fun x hxe => ?_
        have hxx : ls[j]? = some x := by rw [hxe]; exact List.getElem?_eq_getElem hlt
        have hst := lensN_take hxx
        have hle := lensN_le ls (j + 1)
        refine list_k ha hxx fun ad a5 n5 c5 q1 hh hr5 => ?_
        have hn5 := hr5.n_eq
        refine ⟨ad, ⟨by dsimp only; omega, by dsimp only; omega, q1⟩, ?_⟩
        refine ⟨_, hh, ?_⟩
        obtain ⟨dss, hrow, hrd⟩ := hr5.row
        have hdl : dss.length = x.length := hrd.1
        refine ⟨dss, hrow, ?_⟩
        refine ⟨⟨by show (css.length + dss.length) * 96 ≤ 140737488355328; omega, by show css.length + dss.length ≤ 9223372036854775807; omega⟩, ?_⟩
        have hrc2 : RC (α := Stmt) H3 (css ++ dss) (ls.take (j + 1)).flatten := by rw [flat_take hxx]; exact hrc.append hrd
        refine ⟨⟨by omega, by omega⟩, (j + 1, css ++ dss), [(0, 1)], ?_, ⟨rfl, hlt, hrc2⟩, by dsimp only; omega⟩
        (repeat' (first | exact trivial | refine ⟨?_, ?_⟩ | exact rfl | assumption))
      · have hjl : j = ls.length := by have := df h; dsimp only at this; omega
        rw [hjl, List.take_length] at hrc
        intro v H6 hle6 hv6
        obtain ⟨a7, n7, c7, rfl, hr7⟩ := RL.of_row (α := Stmt) hv6 (hrc.up hle6.le)
        exact hK _ _ _ _ (id hle6.le) hr7
    · refine ⟨Nat × List (List Value), fun z => ⟨[(6, .own 0), (25, .v (.slice a n c)), (26, .v (.int .i64 n)), (27, .v (.int .i64 z.1))], [(0, .row 75 9 z.2)], 1⟩,
        fun z H' => H' = H2 ∧ z.1 ≤ ls.length ∧ RC (α := Stmt) H2 z.2 (ls.take z.1).flatten, fun z => ls.length - z.1, ⟨(0, []), [(0, 0)], ?_, rfl, Nat.zero_le _, RC.nil⟩, ?_⟩
      · (repeat' (first | exact trivial | refine ⟨?_, ?_⟩ | exact rfl | assumption))
      rintro ⟨j, css⟩ H3 _ ⟨rfl, hj, hrc⟩
      dsimp only at hj hrc
      have hcl : css.length = (ls.take j).flatten.length := hrc.1
      rw [flatN_len] at hcl
      refine ⟨fun h => ?_, fun h => ?_⟩
      · have hlt : j < ls.length := by have := dt h; dsimp only at this; omega
        refine name_k ls[j] fun x hxe => ?_
        have hxx : ls[j]? = some x := by rw [hxe]; exact List.getElem?_eq_getElem hlt
        have hst := lensN_take hxx
        have hle := lensN_le ls (j + 1)
        refine list_k (ha.up hle2) hxx fun ad a5 n5 c5 q1 hh hr5 => ?_
        have hn5 := hr5.n_eq
        refine ⟨ad, ⟨by dsimp only; omega, by dsimp only; omega, q1⟩, ?_⟩
        refine ⟨_, hh, ?_⟩
        obtain ⟨dss, hrow, hrd⟩ := hr5.row
        have hdl : dss.length = x.length := hrd.1
        refine ⟨dss, hrow, ?_⟩
        refine ⟨⟨by show (css.length + dss.length) * 96 ≤ 140737488355328; omega, by show css.length + dss.length ≤ 9223372036854775807; omega⟩, ?_⟩
        have hrc2 : RC (α := Stmt) H3 (css ++ dss) (ls.take (j + 1)).flatten := by rw [flat_take hxx]; exact hrc.append hrd
        refine ⟨⟨by omega, by omega⟩, (j + 1, css ++ dss), [(0, 1)], ?_, ⟨rfl, hlt, hrc2⟩, by dsimp only; omega⟩
        (repeat' (first | exact trivial | refine ⟨?_, ?_⟩ | exact rfl | assumption))
      · have hjl : j = ls.length := by have := df h; dsimp only at this; omega
        rw [hjl, List.take_length] at hrc
        intro v H6 hle6 hv6
        obtain ⟨a7, n7, c7, rfl, hr7⟩ := RL.of_row (α := Stmt) hv6 (hrc.up hle6.le)
        exact hK _ _ _ _ (hle2.trans hle6.le) hr7
end Go.Proofs
end
section
namespace Go.Proofs
open Go.Sy
set_option maxRecDepth 20000
theorem del_row (xs : List (List Value)) (z : List Value) {i j : Nat} (hij : i < j) (hj : j ≤ xs.length) :
    ∃ R1 R2 : List (List Value), ∃ n : Nat, R1 = xs.take (0 + (i - 0)) ++ (xs.drop j).take (xs.length - j) ++ xs.drop (0 + (i - 0) + ((xs.drop j).take (xs.length - j)).length) ∧
      n = i - 0 + ((xs.drop j).take (xs.length - j)).length ∧ n = i + (xs.length - j) ∧ R1.length = xs.length ∧
      R2 = R1.take (0 + n) ++ List.replicate (xs.length - n) z ++ R1.drop (0 + n + (xs.length - n)) ∧ R2.length = xs.length ∧ R2.take n = xs.take i ++ xs.drop j := by
  have hyl : (xs.drop j).take (xs.length - j) = xs.drop j := List.take_of_length_le (by simp)
  refine ⟨_, _, _, rfl, rfl, ?_, ?_, rfl, ?_, ?_⟩
  · rw [hyl]; simp
  · rw [hyl]; simp; omega
  · rw [hyl]; simp; omega
  · rw [hyl]
    have e1 : (xs.take (0 + (i - 0)) ++ xs.drop j).length = i - 0 + (xs.drop j).length := by simp; omega
    have e2 : (xs.take (0 + (i - 0)) ++ xs.drop j ++ xs.drop (0 + (i - 0) + (xs.drop j).length)).take (0 + (i - 0 + (xs.drop j).length)) = xs.take i ++ xs.drop j := by
      rw [Nat.zero_add, ← e1, List.take_left]
      simp
    rw [e2]
    have e3 : (xs.take i ++ xs.drop j).length = i - 0 + (xs.drop j).length := by simp; omega
    rw [← e3, List.append_assoc, List.take_left]
theorem delete_spec' {i j : Nat} {xs : List (List Value)} (hij : i < j) (hj : j ≤ xs.length) (_hm : xs.length ≤ 9223372036854775807) {H : Hp} {K : SV → St → Hp → Prop}
    (hK : K (.own 1) ⟨[], [(0, .dead), (1, .row 41 8 (xs.take i ++ xs.drop j))], 2⟩ H) : DoesG Tryz.prog 52 [.own 0, .v (.int .i64 i), .v (.int .i64 j)] [(0, .row 41 8 xs)] 1 H K := by
  obtain ⟨R1, R2, n, h1, h2, h3, h4, h5, h6, h7⟩ := del_row xs [.string (bs []), .slice none 0 0, .int .i64 0, .string (bs []), .int .i64 0, .int .i64 0, .string (bs []), .string (bs [])] hij hj
  refine spec_ofG cx_ok cx_mix Tryz.func52 Tryz.call52 Tryz.ntmps52 Tryz.results52 rfl rfl ?_
  refine .inr ?_
  refine ⟨⟨by omega, by omega, by omega, by omega⟩, ?_⟩
  intro v
  refine ⟨fun h => ?_, fun h => ?_⟩
  · have := dt h; omega
  · refine ⟨some ([0], [0, 1, 2, 3, 4, 5, 6, 7]), by kernel_rfl, ?_⟩
    refine ⟨⟨by omega, by omega, by omega⟩, ?_⟩
    refine ⟨⟨by omega, by omega, by omega⟩, ?_⟩
    have hyl : ((xs.drop j).take (xs.length - j)).length = xs.length - j := by simp
    refine ⟨by show j + (xs.length - j) ≤ _; omega, ?_⟩
    refine ⟨by show 0 + (i - 0) + ((xs.drop j).take (xs.length - j)).length ≤ _; omega, ?_⟩
    refine .inl ?_
    refine .inl ?_
    refine ⟨⟨by omega, by show ((i - 0 + ((xs.drop j).take (xs.length - j)).length : Nat) : Int) ≤ _; omega, by show (((0 : Nat)) : Int) + _ ≤ ((xs.take (0 + (i - 0)) ++ (xs.drop j).take (xs.length - j) ++ xs.drop (0 + (i - 0) + ((xs.drop j).take (xs.length - j)).length)).length : Int); rw [← h1, h4]; omega⟩, fun h => ?_, fun h => ?_⟩
    · refine ⟨by show 0 + (i - 0 + ((xs.drop j).take (xs.length - j)).length) + (xs.length - (i - 0 + ((xs.drop j).take (xs.length - j)).length)) ≤ (xs.take (0 + (i - 0)) ++ (xs.drop j).take (xs.length - j) ++ xs.drop (0 + (i - 0) + ((xs.drop j).take (xs.length - j)).length)).length; rw [← h1, h4]; omega, ?_⟩
      refine .inl ?_
      refine .inl ?_
      refine ⟨by show (i - 0 + ((xs.drop j).take (xs.length - j)).length) ≤ ((xs.take (0 + (i - 0)) ++ (xs.drop j).take (xs.length - j) ++ xs.drop (0 + (i - 0) + ((xs.drop j).take (xs.length - j)).length)).take (0 + (i - 0 + ((xs.drop j).take (xs.length - j)).length)) ++ List.replicate (xs.length - (i - 0 + ((xs.drop j).take (xs.length - j)).length)) [Value.string (bs []), Value.slice none 0 0, Value.int .i64 0, Value.string (bs []), Value.int .i64 0, Value.int .i64 0, Value.string (bs []), Value.string (bs [])] ++ (xs.take (0 + (i - 0)) ++ (xs.drop j).take (xs.length - j) ++ xs.drop (0 + (i - 0) + ((xs.drop j).take (xs.length - j)).length)).drop (0 + (i - 0 + ((xs.drop j).take (xs.length - j)).length) + (xs.length - (i - 0 + ((xs.drop j).take (xs.length - j)).length)))).length; rw [← h1, ← h2, ← h5, h6]; omega, ?_⟩
      have e9 : ((xs.take (0 + (i - 0)) ++ (xs.drop j).take (xs.length - j) ++ xs.drop (0 + (i - 0) + ((xs.drop j).take (xs.length - j)).length)).take (0 + (i - 0 + ((xs.drop j).take (xs.length - j)).length)) ++ List.replicate (xs.length - (i - 0 + ((xs.drop j).take (xs.length - j)).length)) [Value.string (bs []), Value.slice none 0 0, Value.int .i64 0, Value.string (bs []), Value.int .i64 0, Value.int .i64 0, Value.string (bs []), Value.string (bs [])] ++ (xs.take (0 + (i - 0)) ++ (xs.drop j).take (xs.length - j) ++ xs.drop (0 + (i - 0) + ((xs.drop j).take (xs.length - j)).length)).drop (0 + (i - 0 + ((xs.drop j).take (xs.length - j)).length) + (xs.length - (i - 0 + ((xs.drop j).take (xs.length - j)).length)))).take (i - 0 + ((xs.drop j).take (xs.length - j)).length) = xs.take i ++ xs.drop j := by rw [← h1, ← h2, ← h5, h7]
      exact ⟨.own 1, [(0, .dead), (1, .row 41 8 (xs.take i ++ xs.drop j))], 2, [(0, 0), (1, 1)], ⟨⟨rfl, trivial⟩, ⟨trivial, e9, trivial⟩⟩, hK⟩
    · exfalso
      have h' : (((i - 0 + ((xs.drop j).take (xs.length - j)).length) : Nat) : Int) = (xs.length : Int) := h
      omega
theorem delete_spec {x y : Int} {i j : Nat} (hx : x = i) (hy : y = j) {xs : List (List Value)} (hij : i < j) (hj : j ≤ xs.length) (hm : xs.length ≤ 9223372036854775807) {H : Hp} {K : SV → St → Hp → Prop}
    (hK : K (.own 1) ⟨[], [(0, .dead), (1, .row 41 8 (xs.take i ++ xs.drop j))], 2⟩ H) : DoesG Tryz.prog 52 [.own 0, .v (.int .i64 x), .v (.int .i64 y)] [(0, .row 41 8 xs)] 1 H K := by
  subst hx
  subst hy
  exact delete_spec' hij hj hm hK
end Go.Proofs
end
section
namespace Go.Proofs
open Go.Sy
set_option maxRecDepth 20000
set_option maxHeartbeats 4000000
theorem RC.drop {α : Type} [Enc α] {H : Hp} {css : List (List Value)} {xs : List α} (h : RC H css xs) (k : Nat) : RC H (css.drop k) (xs.drop k) := by
  have hl : css.length = xs.length := h.1
  refine ⟨by rw [List.length_drop, List.length_drop, hl], fun i cs x h1 h2 => ?_⟩
  rw [List.getElem?_drop] at h1 h2
  exact h.2 _ cs x h1 h2
theorem joinG_spec {q : Prog} (hq : stmtsN q ≤ 1000000) {a t : Nat} (hta : t ≠ a) (ht : t < q.length) (ha : a < q.length) (hlen : q.length ≤ 1000) {css : List (List Value)} {H : Hp} {K : SV → St → Hp → Prop} (hrc : RC (α := Block) H css q)
    (hK : ∀ css' H', Le H H' → RC (α := Block) H' css' (joinP q a t) → K (.tup []) ⟨[], [(0, .cells 24 [.own 2]), (1, .dead), (2, .row 41 8 css')], 3⟩ H') :
    DoesG Tryz.prog 50 [.v (.int .i64 a), .v (.int .i64 t), .ptr 0 0] [(0, .cells 24 [.own 1]), (1, .row 41 8 css)] 2 H K := by
  refine spec_ofG cx_ok cx_mix Tryz.func50 Tryz.call50 Tryz.ntmps50 Tryz.results50 rfl rfl ?_
  have hcl : css.length = q.length := hrc.1
  refine name_k q[a] fun x hxe => ?_
  refine name_k q[t] fun y hye => ?_
  have hx : q[a]? = some x := by rw [hxe]; exact List.getElem?_eq_getElem ha
  have hy : q[t]? = some y := by rw [hye]; exact List.getElem?_eq_getElem ht
  have hj := joinP_eq hx hy
  refine blockrow_k hrc hx fun a1 n1 c1 hg1 hr1 hs1 ht1 => ?_
  refine blockrow_k hrc hy fun a2 n2 c2 hg2 hr2 hs2 ht2 => ?_
  have hg1' : css[(a : Int).toNat]? = _ := hg1
  have hg2' : css[(t : Int).toNat]? = _ := hg2
  refine ⟨some ([1, 2], [0, 1, 2, 3, 4, 5, 6, 7, 8, 9, 10, 11, 12, 13, 14, 15, 16, 17, 18, 19]), by kernel_rfl, ?_⟩
  refine ⟨⟨by omega, by omega⟩, ?_⟩
  refine ⟨_, hg1', ?_⟩
  refine ⟨⟨by omega, by omega⟩, ?_⟩
  refine ⟨_, hg2', ?_⟩
  intro w H1 hle1 hw
  have hrl : RC (α := List Stmt) H1 [[.slice a1 n1 c1], [.slice a2 n2 c2]] [x.2.1, y.2.1] := ((RC.nil (α := List Stmt)).snoc (show Enc.R (α := List Stmt) H1 [.slice a1 n1 c1] x.2.1 from ⟨a1, n1, c1, rfl, hr1.up hle1.le⟩)).snoc (show Enc.R (α := List Stmt) H1 [.slice a2 n2 c2] y.2.1 from ⟨a2, n2, c2, rfl, hr2.up hle1.le⟩)
  obtain ⟨a3, n3, c3, rfl, hr3⟩ := RL.of_row (α := List Stmt) hw hrl
  have hsum := sum_set (fun b => b.2.1.length) (y := y) hx
  have hl1 := stmts_le hx
  have hl2 := stmts_le hy
  have hls : lensN [x.2.1, y.2.1] ≤ 2000000 := by simp only [lensN, List.map_cons, List.map_nil, List.sum_cons, List.sum_nil]; omega
  refine concat_spec hls hr3 fun a4 n4 c4 H2 hle2 hr4 => ?_
  have hle : Le H H2 := hle1.le.trans hle2
  have ef : [x.2.1, y.2.1].flatten = x.2.1 ++ y.2.1 := by simp
  rw [ef] at hr4
  refine ⟨⟨by omega, by omega⟩, ?_⟩
  refine ⟨_, hg1', ?_⟩
  have hat : (a : Int).toNat = a := rfl
  have hgt : (css.set (a : Int).toNat [.string (bs x.1.l), .slice a4 n4 c4, .int .i64 x.2.2.1, .string (bs x.2.2.2.1.1.l), .int .i64 x.2.2.2.1.2.1, .int .i64 x.2.2.2.1.2.2, .string (bs x.2.2.2.2.1.l), .string (bs x.2.2.2.2.2.l)])[(t : Int).toNat]? = _ := (List.getElem?_set_ne (by rw [hat]; exact fun e => hta e.symm)).trans hg2
  have hga : (css.set (a : Int).toNat [.string (bs x.1.l), .slice a4 n4 c4, .int .i64 x.2.2.1, .string (bs x.2.2.2.1.1.l), .int .i64 x.2.2.2.1.2.1, .int .i64 x.2.2.2.1.2.2, .string (bs x.2.2.2.2.1.l), .string (bs x.2.2.2.2.2.l)])[(a : Int).toNat]? = some [.string (bs x.1.l), .slice a4 n4 c4, .int .i64 x.2.2.1, .string (bs x.2.2.2.1.1.l), .int .i64 x.2.2.2.1.2.1, .int .i64 x.2.2.2.1.2.2, .string (bs x.2.2.2.2.1.l), .string (bs x.2.2.2.2.2.l)] := List.getElem?_set_self (by rw [hat]; omega)
  have hsl : (css.set (a : Int).toNat [.string (bs x.1.l), .slice a4 n4 c4, .int .i64 x.2.2.1, .string (bs x.2.2.2.1.1.l), .int .i64 x.2.2.2.1.2.1, .int .i64 x.2.2.2.1.2.2, .string (bs x.2.2.2.2.1.l), .string (bs x.2.2.2.2.2.l)]).length = q.length := by rw [List.length_set]; exact hcl
  refine ⟨some ([1], [0, 1, 2, 3, 4, 5, 6, 7, 8, 9, 10, 11]), by kernel_rfl, ?_⟩
  refine ⟨⟨by omega, by rw [List.length_set]; omega⟩, ?_⟩
  refine ⟨_, hgt, ?_⟩
  refine ⟨⟨by omega, by rw [List.length_set]; omega⟩, ?_⟩
  refine ⟨_, hga, ?_⟩
  refine ⟨⟨by omega, by omega⟩, ?_⟩
  have hrc2 : RC (α := Block) H2 ((css.set a [.string (bs x.1.l), .slice a4 n4 c4, .int .i64 x.2.2.1, .string (bs x.2.2.2.1.1.l), .int .i64 x.2.2.2.1.2.1, .int .i64 x.2.2.2.1.2.2, .string (bs x.2.2.2.2.1.l), .string (bs x.2.2.2.2.2.l)]).set a (.string (bs (catB x y).1.l) :: .slice a4 n4 c4 :: termV (catB x y).2.2)) (q.set a (catB x y)) := by
    rw [List.set_set]
    exact rc_set (hrc.up hle) (block_mk hr4 hs1 ht2)
  have hrc3 : RC (α := Block) H2 (((css.set a [.string (bs x.1.l), .slice a4 n4 c4, .int .i64 x.2.2.1, .string (bs x.2.2.2.1.1.l), .int .i64 x.2.2.2.1.2.1, .int .i64 x.2.2.2.1.2.2, .string (bs x.2.2.2.2.1.l), .string (bs x.2.2.2.2.2.l)]).set a (.string (bs (catB x y).1.l) :: .slice a4 n4 c4 :: termV (catB x y).2.2)).take t ++ ((css.set a [.string (bs x.1.l), .slice a4 n4 c4, .int .i64 x.2.2.1, .string (bs x.2.2.2.1.1.l), .int .i64 x.2.2.2.1.2.1, .int .i64 x.2.2.2.1.2.2, .string (bs x.2.2.2.2.1.l), .string (bs x.2.2.2.2.2.l)]).set a (.string (bs (catB x y).1.l) :: .slice a4 n4 c4 :: termV (catB x y).2.2)).drop (t + 1)) (joinP q a t) := by
    rw [hj, List.eraseIdx_eq_take_drop_succ]
    exact (hrc2.take t).append (RC.drop hrc2 (t + 1))
  refine ⟨[1], rfl, delete_spec (i := t) (j := t + 1) rfl rfl (by omega) (by rw [List.length_set, List.length_set]; omega) (by rw [List.length_set, List.length_set]; omega) ?_⟩
  refine ⟨.tup [], [(0, .cells 24 [.own 2]), (1, .dead), (2, .row 41 8 _)], 3, [(0, 0), (1, 1), (2, 3)], ?_, hK _ H2 hle hrc3⟩
  (repeat' (first | exact trivial | refine ⟨?_, ?_⟩ | exact rfl | assumption))
end Go.Proofs
end
section
namespace Go.Proofs
open Go.Sy
set_option maxRecDepth 20000
set_option maxHeartbeats 4000000
noncomputable def cxM : Cx := { P := Tryz.prog, tt := tt, n := 0, wrap := false, base := 0, gf := 11 :: cx.gf, eqs := cx.eqs, xf := [] }
theorem cxM_ok : TOK cxM := ⟨cx_ok.tt, cx_ok.eqs⟩
theorem progG_spec {p : Prog} (hp : p.length ≤ 12) (hl : ∀ b ∈ p, b.2.1.length ≤ 1000000) (hc : stmtsN p ≤ 1000000) (hv : cnt p < 400000) {a : Option Addr} {n c : Nat} {H : Hp} {K : SV → St → Hp → Prop} (ha : RL H a n c p)
    (hbad : checkE p ≠ 0 → ∀ H', Le H H' → K (.tup [.agg [.v (.slice none 0 0)], .v (.int .i64 (checkE p))]) ⟨[], [], 0⟩ H')
    (hK : checkE p = 0 → ∀ css R H', Le H H' → StrictL R → IsReach (p.length : Nat) (gSort (edgesOf (endsP p))) [0] R → RC (α := Block) H' css (keepP (endsP p) R p.length) → K (.tup [.agg [.own 0], .v (.int .i64 0)]) ⟨[], [(0, .row 41 8 css)], 1⟩ H') :
    DoesG Tryz.prog 11 [.agg [.v (.slice a n c)]] [] 0 H K := by
  refine doesG_thawR (args := [.agg #[.slice a n c]]) (fun _ => rfl) (pprogN_spec hp hl hc hv ha (K := fun v H' => (checkE p ≠ 0 ∧ v = .tuple #[.agg #[.slice none 0 0], .int .i64 (checkE p)]) ∨ (checkE p = 0 ∧ ∃ x css R H3, v = .tuple #[.agg #[x], .int .i64 0] ∧ Le H H3 ∧ StrictL R ∧ IsReach (p.length : Nat) (gSort (edgesOf (endsP p))) [0] R ∧ RC (α := Block) H3 css (keepP (endsP p) R p.length) ∧ LeN 41 8 css H3 x H'))
    (fun he _ _ => .inl ⟨he, rfl⟩) (fun he v css R H3 H' h1 h2 h3 h4 h5 _ => .inr ⟨he, v, css, R, H3, rfl, h1, h2, h3, h4, h5⟩)) ?_
  rintro v H2 hle (⟨he, rfl⟩ | ⟨he, x, css, R, H3, rfl, h1, hS, hR, h2, h3⟩)
  · exact .inl ⟨.tup [.agg [.v (.slice none 0 0)], .v (.int .i64 (checkE p))], fun _ => rfl, rfl, hbad he H2 hle⟩
  · refine .inr ⟨41, 8, css, x, .tup [.agg [.own 0], .v (.int .i64 0)], fun ρ hρ => ?_, rfl, (LeN.base h1 h3).new, fun y hy => ?_, fun H' hle2 hkeep => hK he css R H' hle2 hS hR (h2.up fun b o hb => hkeep b o (h3.le b o hb) fun e => ?_)⟩
    · show Value.tuple #[Value.agg #[ρ.val 0], .int .i64 0] = _
      rw [hρ]
    · obtain ⟨i, hi⟩ := List.getElem?_of_mem hy
      have hlt := (List.getElem?_eq_some_iff.1 hi).1
      have hcl : css.length = (keepP (endsP p) R p.length).length := h2.1
      have := h2.2 i y ((keepP (endsP p) R p.length)[i]'(by omega)) hi (List.getElem?_eq_getElem _)
      exact ⟨Enc.len this, Enc.one this⟩
    · rcases h3.new with ⟨h4, _⟩ | ⟨g, cap, cc, h4, h5, _⟩
      · rw [h4] at e; cases e
      · rw [h4] at e
        simp only [Value.ownBlock, Option.some.injEq] at e
        subst e
        rw [h5] at hb
        cases hb
theorem pair_none {q : Prog} (hq : q.length ≤ 12) (h : pairP q = none) {a : Option Addr} {n c : Nat} {H : Hp} {K : Value → Hp → Prop} (ha : RL H a n c q) (hK : ∀ H', Le H H' → K (.tuple #[.int .i64 0, .int .i64 0, .bool false]) H') : Does Tryz.prog 53 [.agg #[.slice a n c]] H K :=
  pair_spec hq ha (by rw [h]; exact hK)
theorem pair_some {q : Prog} (hq : q.length ≤ 12) {i t : Nat} (h : pairP q = some (i, t)) {a : Option Addr} {n c : Nat} {H : Hp} {K : Value → Hp → Prop} (ha : RL H a n c q) (hK : ∀ H', Le H H' → K (.tuple #[.int .i64 i, .int .i64 t, .bool true]) H') : Does Tryz.prog 53 [.agg #[.slice a n c]] H K :=
  pair_spec hq ha (by rw [h]; exact hK)
theorem keepP_stmts (q : Prog) (R : List Int) : ∀ i, i ≤ q.length → stmtsN (keepP q R i) ≤ stmtsN (q.take i)
  | 0, _ => by simp [keepP, stmtsN]
  | i + 1, h => by
    have hb : q[i]? = some q[i] := List.getElem?_eq_getElem h
    have h1 := keepP_stmts q R i (by omega)
    have h2 := stmtsN_take hb
    rw [keepP_succ hb, h2]
    have h3 : ∀ x y : Prog, stmtsN (x ++ y) = stmtsN x + stmtsN y := fun x y => by rw [stmtsN, List.map_append, List.sum_append]; rfl
    rw [h3]
    split
    · have h4 : stmtsN [q[i]] = q[i].2.1.length := by simp [stmtsN]
      rw [h4]; omega
    · have h4 : stmtsN [] = 0 := rfl
      rw [h4]; omega
theorem endsP_stmts (p : Prog) : stmtsN (endsP p) = stmtsN p := by
  rw [stmtsN, stmtsN, endsP, List.map_map]; rfl
theorem pmerge_spec {p : Prog} (hp : p.length ≤ 12) (hl : ∀ b ∈ p, b.2.1.length ≤ 1000000) (hc : stmtsN p ≤ 1000000) (hv : cnt p < 400000) {a : Option Addr} {n c : Nat} {H : Hp} {K : Value → Hp → Prop} (ha : RL H a n c p)
    (hbad : checkE p ≠ 0 → ∀ H', Le H H' → K (.tuple #[.agg #[.slice none 0 0], .int .i64 (checkE p)]) H')
    (hK : checkE p = 0 → ∀ a1 n1 c1 R r H', Le H H' → StrictL R → IsReach (p.length : Nat) (gSort (edgesOf (endsP p))) [0] R → Mrg (keepP (endsP p) R p.length) r → RL H' a1 n1 c1 r → K (.tuple #[.agg #[.slice a1 n1 c1], .int .i64 0]) H') : Does Tryz.prog 16 [.agg #[.slice a n c]] H K := by
  refine spec_of cxM_ok cx_mix rfl Tryz.func16 Tryz.call16 Tryz.ntmps16 Tryz.results16 rfl rfl ?_
  by_cases he : checkE p = 0
  · refine .inr ⟨Prog × List Int × List (List Value), fun _ => 0, fun z => ⟨[(2, .ptr 1 0), (4, .ptr 3 0), (6, .fn 50 [.ptr 3 0])], [(1, .cells 24 [.v (.slice none 0 0)]), (3, .cells 24 [.own 4]), (4, .row 41 8 z.2.2)], 5⟩,
      fun z H' => Le H H' ∧ RC (α := Block) H' z.2.2 z.1 ∧ z.1.length ≤ 12 ∧ stmtsN z.1 ≤ 1000000 ∧ StrictL z.2.1 ∧ IsReach (p.length : Nat) (gSort (edgesOf (endsP p))) [0] z.2.1 ∧ ∀ r, Mrg z.1 r → Mrg (keepP (endsP p) z.2.1 p.length) r, fun z => z.1.length, ?_, ?_⟩
    · refine ⟨[], rfl, progG_spec hp hl hc hv ha (fun h => absurd he h) fun _ css R H1 hle1 hS hR hrc => ?_⟩
      refine ⟨fun h => absurd rfl (nt h), fun _ => ?_⟩
      have hq : (keepP (endsP p) R p.length).length ≤ 12 := Nat.le_trans (keepP_len _ _ _) hp
      have hst : stmtsN (keepP (endsP p) R p.length) ≤ 1000000 := by
        have h1 := keepP_stmts (endsP p) R p.length (by rw [endsP_len]; exact Nat.le_refl _)
        have h2 := stmtsN_le (endsP p) p.length
        rw [endsP_stmts] at h2
        omega
      have hM : ∀ r, Mrg (keepP (endsP p) R p.length) r → Mrg (keepP (endsP p) R p.length) r := fun r h => h
      intro v H2 hle2 hv2
      obtain ⟨a3, n3, c3, rfl, hr3⟩ := RL.of_row (α := Block) hv2 (hrc.up hle2.le)
      rcases hpp : pairP (keepP (endsP p) R p.length) with _ | ⟨i, t⟩
      · refine pair_none hq hpp hr3 fun _ _ => ?_
        refine ⟨(fun h => by cases h), fun _ => ?_⟩
        intro v H5 hle5 hv5
        obtain ⟨a6, n6, c6, rfl, hr6⟩ := RL.of_row (α := Block) hv5 (hrc.up hle5.le)
        exact hK he _ _ _ R _ _ (hle1.trans hle5.le) hS hR (hM _ (.stop hpp)) hr6
      · obtain ⟨h1, h2, h3⟩ := firstP_spec hpp
        refine pair_some hq hpp hr3 fun _ _ => ?_
        refine ⟨fun _ => ?_, (fun h => by cases h)⟩
        have hjl := joinP_len h2 h3
        have hjs := joinP_stmts h1 h2 h3
        refine ⟨[3, 2], rfl, joinG_spec hst h1 h2 h3 (by omega) hrc fun css' H3 hle3 hrc3 => ?_⟩
        refine ⟨(joinP (keepP (endsP p) R p.length) i t, R, css'), [(1, 1), (3, 3), (4, 4)], rfl, ?_, ⟨hle1.trans hle3, hrc3, by dsimp only; omega, by dsimp only; omega, hS, hR, fun r hr => hM r (.step hpp hr)⟩⟩
        (repeat' (first | exact trivial | refine ⟨?_, ?_⟩ | exact rfl | assumption))
    · rintro ⟨q, R, css⟩ H1 _ ⟨hle1, hrc, hq, hst, hS, hR, hM⟩
      dsimp only at hrc hq hst hS hR hM
      intro v H2 hle2 hv2
      obtain ⟨a3, n3, c3, rfl, hr3⟩ := RL.of_row (α := Block) hv2 (hrc.up hle2.le)
      rcases hpp : pairP q with _ | ⟨i, t⟩
      · refine pair_none hq hpp hr3 fun _ _ => ?_
        refine ⟨(fun h => by cases h), fun _ => ?_⟩
        intro v H5 hle5 hv5
        obtain ⟨a6, n6, c6, rfl, hr6⟩ := RL.of_row (α := Block) hv5 (hrc.up hle5.le)
        exact hK he _ _ _ R _ _ (hle1.trans hle5.le) hS hR (hM _ (.stop hpp)) hr6
      · obtain ⟨h1, h2, h3⟩ := firstP_spec hpp
        refine pair_some hq hpp hr3 fun _ _ => ?_
        refine ⟨fun _ => ?_, (fun h => by cases h)⟩
        have hjl := joinP_len h2 h3
        have hjs := joinP_stmts h1 h2 h3
        refine ⟨[3, 4], rfl, joinG_spec hst h1 h2 h3 (by omega) hrc fun css' H3 hle3 hrc3 => ?_⟩
        refine ⟨(joinP q i t, R, css'), [(1, 1), (3, 3), (4, 5)], rfl, ?_, ⟨hle1.trans hle3, hrc3, by dsimp only; omega, by dsimp only; omega, hS, hR, fun r hr => hM r (.step hpp hr)⟩, by dsimp only; omega⟩
        (repeat' (first | exact trivial | refine ⟨?_, ?_⟩ | exact rfl | assumption))
  · refine .inl ⟨0, ?_⟩
    refine ⟨[], rfl, progG_spec hp hl hc hv ha (fun _ H1 hle1 => ?_) fun h => absurd h he⟩
    refine ⟨fun _ => ?_, fun h => absurd (nf h) he⟩
    exact hbad he _ hle1
end Go.Proofs
end
section
namespace Go.Proofs
open Go.Sy
set_option maxRecDepth 20000
set_option maxHeartbeats 4000000
theorem edge_k {P : Prop} {H : Hp} {a : Option Addr} {n c : Nat} {xs : List Edg} (h : RL H a n c xs) {i : Nat} {x : Edg} (hi : xs[i]? = some x) (k : ∀ ad, a = some ad → ElemH H ad (i : Int) 2 [.int .i64 x.1, .int .i64 x.2] → P) : P :=
  elem_k h hi fun ad cs h1 h2 h3 => by
    obtain ⟨rfl, _⟩ := edge_open h3
    exact k ad h1 h2
theorem count_step {α : Type} {f : α → Bool} {l : List α} {i : Nat} {x : α} (h : l[i]? = some x) : (l.take (i + 1)).countP f = (l.take i).countP f + (if f x then 1 else 0) := by
  rw [List.take_add_one, h, Option.toList_some, List.countP_append, List.countP_singleton]
theorem count_take_le {α : Type} (f : α → Bool) (l : List α) (i : Nat) : (l.take i).countP f ≤ l.length := by
  have h1 := List.countP_le_length (p := f) (l := l.take i)
  rw [List.length_take] at h1
  omega
theorem eAll_dst {p : Prog} : ∀ (l : List Block) (i : Nat), ∀ e ∈ eAll p l i, 0 ≤ e.2
  | [], _, e, he => by simp [eAll] at he
  | b :: r, i, e, he => by
    rw [eAll] at he
    have hN : ∀ t, e ∈ eN p i t → 0 ≤ e.2 := fun t h => by
      unfold eN at h
      split at h
      · rename_i h0
        simp only [List.mem_cons, List.not_mem_nil, or_false] at h; rw [h]; exact h0
      · cases h
    rcases List.mem_append.1 he with he | he
    · unfold eB at he
      rcases List.mem_append.1 he with he | he
      · split at he
        · exact hN _ he
        · cases he
      · split at he
        · exact hN _ he
        · cases he
    · exact eAll_dst r (i + 1) e he
theorem row_k {α : Type} [Enc α] {P : Prop} {H : Hp} {a : Option Addr} {n c : Nat} {xs : List α} (h : RL H a n c xs) (k : ∀ css, RowAt H (.slice a n c) (Enc.sz α) css → RC H css xs → css.length = xs.length → P) : P := by
  obtain ⟨css, h1, h2⟩ := h.row
  exact k css h1 h2 h2.1
theorem of_row_m {α : Type} [Enc α] {M : Value → Prop} {H : Hp} {v : Value} {css : List (List Value)} {xs : List α} (h : RowAt H v (Enc.sz α) css) (hc : RC H css xs) (k : ∀ a n c, RL H a n c xs → M (.slice a n c)) : M v := by
  obtain ⟨a, n, c, rfl, hr⟩ := RL.of_row h hc
  exact k a n c hr
theorem room2 {c8 c9 : List (List Value)} (h8 : c8.length ≤ 1000000) (h9 : c9.length ≤ 1000000) : (([] ++ c8).length + c9.length) * 96 ≤ 140737488355328 ∧ ([] ++ c8).length + c9.length ≤ 9223372036854775807 := by
  rw [List.nil_append]; omega
theorem of_row_k {α : Type} [Enc α] {P : Prop} {H : Hp} {v : Value} {css : List (List Value)} {xs : List α} (h : RowAt H v (Enc.sz α) css) (hc : RC H css xs) (k : ∀ a n c, v = .slice a n c → RL H a n c xs → P) : P := by
  obtain ⟨a, n, c, e, hr⟩ := RL.of_row h hc
  exact k a n c e hr
theorem rone_spec {q : Prog} (hq : q.length ≤ 12) (hst : stmtsN q ≤ 1000000) {a : Option Addr} {n c : Nat} {H : Hp} {K : Value → Hp → Prop} (ha : RL H a n c q)
    (hN : pairP q = none → ∀ H', Le H H' → K (.tuple #[.agg #[.slice a n c], .bool false]) H')
    (hS : ∀ i t, pairP q = some (i, t) → ∀ a1 n1 c1 H', Le H H' → RL H' a1 n1 c1 (joinP q i t) → K (.tuple #[.agg #[.slice a1 n1 c1], .bool true]) H') : Does Tryz.prog 54 [.agg #[.slice a n c]] H K := by
  have hn1 := ha.n_eq
  have hmx := ha.le
  refine spec_of cx_ok cx_mix rfl Tryz.func54 Tryz.call54 Tryz.ntmps54 Tryz.results54 rfl rfl ?_
  refine redges_spec hq ha fun a1 n1 c1 H1 hle1 hr1 => ?_
  have hne1 := hr1.n_eq
  have hel : (gSort (edgesOf q)).length ≤ 1000000 := by
    have h1 := gSort_len (edgesOf q)
    have h2 : (edgesOf q).length ≤ 2 * q.length := eAll_len _ _ 0
    omega
  have ha1 := ha.up hle1
  refine ⟨Nat, fun i => ⟨[(1, .ptr 0 0), (2, .ptr 1 0), (4, .v (.slice a1 n1 c1)), (17, .v (.slice a n c)), (18, .v (.int .i64 n)), (19, .v (.int .i64 i))], [(0, .cells 24 [.v (.slice a n c)]), (1, .cells 24 [.v (.slice none 0 0)])], 2⟩,
    fun i H' => H' = H1 ∧ i ≤ q.length ∧ firstP q i = none, fun i => q.length - i, ⟨0, [(0, 0), (1, 1)], ?_, rfl, Nat.zero_le _, rfl⟩, ?_⟩
  · (repeat' (first | exact trivial | refine ⟨?_, ?_⟩ | exact rfl | assumption))
  rintro i H2 _ ⟨rfl, hi, hf⟩
  refine ⟨fun h => ?_, fun h => ?_⟩
  · have hlt : i < q.length := by have := dt h; omega
    refine name_k q[i] fun b hbe => ?_
    have hbb : q[i]? = some b := by rw [hbe]; exact List.getElem?_eq_getElem hlt
    have hT := toI_range q b
    have htg : tgt q i = if okP q i b then some (i, (toI q b).toNat) else none := by rw [tgt, hbb]
    have hnext : okP q i b = false → firstP q (i + 1) = none := fun h => by rw [firstP_succ, hf, htg, h]; rfl
    have hthis : okP q i b = true → pairP q = some (i, (toI q b).toNat) := fun h => pairP_at hlt hf (by rw [htg, h]; rfl)
    refine block_k ha1 hbb fun ad a5 n5 c5 q1 hh hr5 hs5 ht5 => ?_
    refine ⟨ad, ⟨by omega, by omega, q1⟩, ?_⟩
    refine ⟨_, hh, ?_⟩
    refine ⟨fun h1 => ?_, fun h1 => ?_⟩
    · have h1 : ¬ b.2.2.1 = 1 := nt h1
      refine ⟨⟨by omega, by omega⟩, i + 1, [(0, 0), (1, 1)], ?_, ⟨rfl, hlt, hnext (by rw [okP, decide_eq_false h1]; simp)⟩, by dsimp only; omega⟩
      (repeat' (first | exact trivial | refine ⟨?_, ?_⟩ | exact rfl | assumption))
    have h1 : b.2.2.1 = 1 := nf h1
    refine block6_spec hq ha1 ?_
    refine name_k (toI q b) fun t hte => ?_
    have hte2 : idxS b.2.2.2.2.1.l (List.map (fun x => x.1.l) q) 0 = t := hte.symm
    rw [hte2]
    rw [← hte] at hT hthis
    have hok : okP q i b = (decide (b.2.2.1 = 1) && decide (0 < t) && !decide (t = (i : Int)) && decide (indeg q t = 1)) := by rw [okP, ← hte]
    refine ⟨Nat, fun j => ⟨[(1, .ptr 0 0), (2, .ptr 1 0), (4, .v (.slice a1 n1 c1)), (5, .v (.int .i64 (i : Nat))), (7, .v (.int .i64 t)), (8, .v (.int .i64 (((gSort (edgesOf q)).take j).countP fun e => decide (e.2 = t) : Nat))), (17, .v (.slice a n c)), (18, .v (.int .i64 n)), (19, .v (.int .i64 (i : Nat))),
        (33, .v (.slice a1 n1 c1)), (34, .v (.int .i64 n1)), (35, .v (.int .i64 j))], [(0, .cells 24 [.v (.slice a n c)]), (1, .cells 24 [.v (.slice none 0 0)])], 2⟩,
      fun j H' => H' = H2 ∧ j ≤ (gSort (edgesOf q)).length, fun j => (gSort (edgesOf q)).length - j, ⟨0, [(0, 0), (1, 1)], ?_, rfl, Nat.zero_le _⟩, ?_⟩
    · (repeat' (first | exact trivial | refine ⟨?_, ?_⟩ | exact rfl | assumption))
    rintro j H3 _ ⟨rfl, hj⟩
    refine ⟨fun h => ?_, fun h => ?_⟩
    · have hjl : j < (gSort (edgesOf q)).length := by have := dt h; omega
      refine name_k (gSort (edgesOf q))[j] fun e hee => ?_
      have hee2 : (gSort (edgesOf q))[j]? = some e := by rw [hee]; exact List.getElem?_eq_getElem hjl
      have hst2 := count_step (f := fun (e : Edg) => decide (e.2 = t)) hee2
      have hcl := count_take_le (fun (e : Edg) => decide (e.2 = t)) (gSort (edgesOf q)) j
      refine edge_k hr1 hee2 fun ad e1 hh2 => ?_
      refine ⟨ad, ⟨by omega, by omega, e1⟩, ?_⟩
      refine ⟨_, hh2, ?_⟩
      refine ⟨fun h2 => ?_, fun h2 => ?_⟩
      · have h2 : e.2 = t := dt h2
        refine ⟨⟨by omega, by omega⟩, ?_⟩
        refine ⟨⟨by omega, by omega⟩, j + 1, [(0, 0), (1, 1)], ?_, ⟨rfl, hjl⟩, by dsimp only; omega⟩
        have ec : SV.v (.int .i64 ((((gSort (edgesOf q)).take j).countP fun e => decide (e.2 = t) : Nat) + 1)) = SV.v (.int .i64 (((gSort (edgesOf q)).take (j + 1)).countP fun e => decide (e.2 = t) : Nat)) := by rw [hst2, decide_eq_true h2]; rfl
        (repeat' (first | exact trivial | refine ⟨?_, ?_⟩ | exact rfl | assumption))
      · have h2 : ¬ e.2 = t := df h2
        refine ⟨⟨by omega, by omega⟩, j + 1, [(0, 0), (1, 1)], ?_, ⟨rfl, hjl⟩, by dsimp only; omega⟩
        have ec : SV.v (.int .i64 (((gSort (edgesOf q)).take j).countP fun e => decide (e.2 = t) : Nat)) = SV.v (.int .i64 (((gSort (edgesOf q)).take (j + 1)).countP fun e => decide (e.2 = t) : Nat)) := by rw [hst2, decide_eq_false h2]; rfl
        (repeat' (first | exact trivial | refine ⟨?_, ?_⟩ | exact rfl | assumption))
    have hjl : j = (gSort (edgesOf q)).length := by have := df h; omega
    have ecnt : ((gSort (edgesOf q)).take j).countP (fun e => decide (e.2 = t)) = indeg q t := by rw [hjl, List.take_length]; rfl
    rw [ecnt]
    refine ⟨fun h2 => ?_, fun h2 => ?_⟩
    · have h2 : ¬ t = (i : Int) := df h2
      refine ⟨fun h3 => ?_, fun h3 => ?_⟩
      · have h3 : ¬ t = 0 := df h3
        refine ⟨fun h4 => ?_, fun h4 => ?_⟩
        · have h4 : ¬ indeg q t = 1 := by have := nt h4; omega
          refine ⟨⟨by omega, by omega⟩, i + 1, [(0, 0), (1, 1)], ?_, ⟨rfl, hlt, hnext (by rw [hok, decide_eq_false h4, Bool.and_false])⟩, by dsimp only; omega⟩
          (repeat' (first | exact trivial | refine ⟨?_, ?_⟩ | exact rfl | assumption))
        · have h4 : indeg q t = 1 := by have := nf h4; omega
          have h5 : 0 < t := by
            rcases hT with h | h
            · exfalso
              have h6 : indeg q t = 0 := by
                rw [indeg, List.countP_eq_zero]
                intro e he h7
                have h8 := eAll_dst (p := q) q 0 e ((gSort_mem _ _).1 he)
                have h9 := dt h7
                omega
              omega
            · omega
          have e := hthis (by rw [hok, decide_eq_true h4, decide_eq_false h2, decide_eq_true h1, decide_eq_true h5]; rfl)
          have hS := hS _ _ e
          refine name_k t.toNat fun tn htn => ?_
          rw [← htn] at hS e
          have htt : t = (tn : Int) := by omega
          obtain ⟨hne, htl, _⟩ := firstP_spec e
          refine name_k q[tn] fun y hye => ?_
          have hyy : q[tn]? = some y := by rw [hye]; exact List.getElem?_eq_getElem htl
          have hjn := joinP_eq hbb hyy
          have hls : b.2.1.length ≤ 1000000 := Nat.le_trans (stmts_le hbb) hst
          have hly : y.2.1.length ≤ 1000000 := Nat.le_trans (stmts_le hyy) hst
          refine ⟨Nat × List (List Value), fun z => ⟨[(1, .ptr 0 0), (2, .ptr 1 0), (5, .v (.int .i64 (i : Nat))), (7, .v (.int .i64 t)), (11, .ptr 2 0), (58, .v (.slice a n c)), (59, .v (.int .i64 n)), (60, .v (.int .i64 z.1))],
              [(0, .cells 24 [.v (.slice a n c)]), (1, .cells 24 [.v (.slice none 0 0)]), (2, .cells 24 [.own 3]), (3, .row 41 8 z.2)], 4⟩,
            fun z H' => Le H3 H' ∧ z.1 ≤ q.length ∧ RC (α := Block) H' z.2 (((q.set i (catB b y)).take z.1).eraseIdx tn), fun z => q.length - z.1, ⟨(0, []), [(0, 0), (1, 1), (2, 2)], ?_, Le.refl _, Nat.zero_le _, by simpa using RC.nil⟩, ?_⟩
          · (repeat' (first | exact trivial | refine ⟨?_, ?_⟩ | exact rfl | assumption))
          rintro ⟨k, css⟩ H4 _ ⟨hle4, hk, hrc⟩
          dsimp only at hk hrc
          have hcl : css.length = (((q.set i (catB b y)).take k).eraseIdx tn).length := hrc.1
          have hcl2 : (((q.set i (catB b y)).take k).eraseIdx tn).length ≤ k := Nat.le_trans (List.length_eraseIdx_le _ _) (by rw [List.length_take]; omega)
          refine ⟨fun h => ?_, fun h => ?_⟩
          · have hkl : k < q.length := by have := dt h; dsimp only at this; omega
            refine name_k q[k] fun x hxe => ?_
            have hxx : q[k]? = some x := by rw [hxe]; exact List.getElem?_eq_getElem hkl
            refine block_k (ha1.up hle4) hxx fun ad6 a6 n6 c6 q6 hh6 hr6 hs6 ht6 => ?_
            refine ⟨ad6, ⟨by dsimp only; omega, by dsimp only; omega, q6⟩, ?_⟩
            refine ⟨_, hh6, ?_⟩
            refine ⟨fun h7 => ?_, fun h7 => ?_⟩
            · have h7 : k = i := by have := dt h7; dsimp only at this; omega
              have hxb : x = b := by rw [h7, hbb] at hxx; exact (Option.some.inj hxx).symm
              have hz : (q.set i (catB b y))[k]? = some (catB x y) := by rw [h7, hxb]; exact List.getElem?_set_self hlt
              have hstep := erase_step (t := tn) hz
              rw [if_neg (by omega)] at hstep
              have hlx : x.2.1.length ≤ 1000000 := by rw [hxb]; exact hls
              refine block_kI (ha1.up hle4) (j := t) (by omega) (x := y) (by rw [htt]; exact hyy) fun ad7 a7 n7 c7 q7 hh7 hr7 hs7 ht7 => ?_
              refine row_k hr6 fun c8 hw8 hr8 hl8 => ?_
              refine row_k hr7 fun c9 hw9 hr9 hl9 => ?_
              refine ⟨none, ?_⟩
              refine region_plan (α := List (List Value)) ?_ ?_ (.two 1 5 (.one [4, 5, 6, 7] [0, 1, 3, 4, 6, 7, 8, 9, 10, 11, 13, 14, 15, 16, 17, 18, 2, 5, 12, 19, 20]) (.two 1 12 (.one [4, 5, 6, 7] [0, 3, 4, 6, 7, 8, 9, 10, 11, 13, 14, 15, 16, 17, 18, 2, 5, 1, 12, 19, 20]) (.one [4, 5, 6, 7] [0, 3, 4, 6, 7, 8, 9, 10, 11, 13, 14, 15, 16, 17, 18, 2, 5, 12, 1, 19, 20])))
                (fun dss => ⟨[(1, .ptr 0 0), (2, .ptr 1 0), (5, .v (.int .i64 (i : Nat))), (7, .v (.int .i64 t)), (11, .ptr 2 0), (12, .v (.int .i64 (k : Nat))), (13, .ptr 4 0), (58, .v (.slice a n c)), (59, .v (.int .i64 n)), (60, .v (.int .i64 (k : Nat)))],
                  [(0, .cells 24 [.v (.slice a n c)]), (1, .cells 24 [.v (.slice none 0 0)]), (2, .cells 24 [.own 3]), (3, .row 41 8 css),
                   (4, .cells 41 [.v (.string (bs x.1.l)), .own 5, .v (.int .i64 y.2.2.1), .v (.string (bs y.2.2.2.1.1.l)), .v (.int .i64 y.2.2.2.1.2.1), .v (.int .i64 y.2.2.2.1.2.2), .v (.string (bs y.2.2.2.2.1.l)), .v (.string (bs y.2.2.2.2.2.l))]), (5, .row 75 9 dss)], 6⟩)
                (fun dss H' => H' = H4 ∧ RC (α := Stmt) H4 dss (x.2.1 ++ y.2.1)) (by kernel_rfl) ⟨?_, ?_, ?_⟩ ?_
              · exact ⟨cx_ok.tt, cx_ok.eqs⟩
              · exact cx_mix
              · refine ⟨ad7, ⟨by omega, by omega, q7⟩, ?_⟩
                refine ⟨_, hh7, ?_⟩
                refine ⟨ad7, ⟨by omega, by omega, q7⟩, ?_⟩
                refine ⟨_, hh7, ?_⟩
                refine ⟨c8, hw8, ?_⟩
                refine ⟨⟨by show (0 + c8.length) * 96 ≤ 140737488355328; omega, by show 0 + c8.length ≤ 9223372036854775807; omega⟩, ?_⟩
                refine ⟨c9, hw9, ?_⟩
                refine ⟨room2 (by omega) (by omega), ?_⟩
                refine ⟨c8 ++ c9, [(0, 0), (1, 1), (2, 2), (3, 3), (4, 4), (5, 7)], ?_, rfl, hr8.append hr9⟩
                (repeat' (first | exact trivial | refine ⟨?_, ?_⟩ | exact rfl | assumption))
              · refine ⟨ad7, ⟨by omega, by omega, q7⟩, ?_⟩
                refine ⟨_, hh7, ?_⟩
                refine ⟨ad7, ⟨by omega, by omega, q7⟩, ?_⟩
                refine ⟨_, hh7, ?_⟩
                refine ⟨c8, hw8, ?_⟩
                refine ⟨⟨by show (0 + c8.length) * 96 ≤ 140737488355328; omega, by show 0 + c8.length ≤ 9223372036854775807; omega⟩, ?_⟩
                refine ⟨c9, hw9, ?_⟩
                refine ⟨room2 (by omega) (by omega), ?_⟩
                refine ⟨c8 ++ c9, [(0, 0), (1, 1), (2, 2), (3, 3), (4, 4), (5, 7)], ?_, rfl, hr8.append hr9⟩
                (repeat' (first | exact trivial | refine ⟨?_, ?_⟩ | exact rfl | assumption))
              · refine ⟨ad7, ⟨by omega, by omega, q7⟩, ?_⟩
                refine ⟨_, hh7, ?_⟩
                refine ⟨ad7, ⟨by omega, by omega, q7⟩, ?_⟩
                refine ⟨_, hh7, ?_⟩
                refine ⟨c8, hw8, ?_⟩
                refine ⟨⟨by show (0 + c8.length) * 96 ≤ 140737488355328; omega, by show 0 + c8.length ≤ 9223372036854775807; omega⟩, ?_⟩
                refine ⟨c9, hw9, ?_⟩
                refine ⟨room2 (by omega) (by omega), ?_⟩
                refine ⟨c8 ++ c9, [(0, 0), (1, 1), (2, 2), (3, 3), (4, 4), (5, 7)], ?_, rfl, hr8.append hr9⟩
                (repeat' (first | exact trivial | refine ⟨?_, ?_⟩ | exact rfl | assumption))
              rintro dss H5 _ ⟨rfl, hrd⟩
              refine ⟨fun _ => ?_, fun h8 => ?_⟩
              · intro w H6 hle6 hw
                refine of_row_k (α := Stmt) hw (hrd.up hle6.le) fun a8 n8 c8 ew hr8 => ?_
                subst ew
                refine ⟨⟨by show (css.length + 1) * 112 ≤ 140737488355328; omega, by show css.length + 1 ≤ 9223372036854775807; omega⟩, ?_⟩
                have hrc2 : RC (α := Block) H6 (css ++ [Value.string (bs (catB x y).1.l) :: .slice a8 n8 c8 :: termV (catB x y).2.2]) (((q.set i (catB b y)).take (k + 1)).eraseIdx tn) := by
                  rw [hstep]; exact (hrc.up hle6.le).snoc (block_mk hr8 hs6 ht7)
                refine ⟨⟨by omega, by omega⟩, (k + 1, css ++ [Value.string (bs (catB x y).1.l) :: .slice a8 n8 c8 :: termV (catB x y).2.2]), [(0, 0), (1, 1), (2, 2), (3, 7)], ?_, ⟨hle4.trans hle6.le, hkl, hrc2⟩, by dsimp only; omega⟩
                (repeat' (first | exact trivial | refine ⟨?_, ?_⟩ | exact rfl | assumption))
              · exact absurd (nf h8) (by omega)
            · have h7 : ¬ k = i := by have := df h7; dsimp only at this; omega
              have hz : (q.set i (catB b y))[k]? = some x := by rw [List.getElem?_set_ne (fun e => h7 e.symm)]; exact hxx
              have hstep := erase_step (t := tn) hz
              refine ⟨fun h8 => ?_, fun h8 => ?_⟩
              · have h8 : ¬ k = tn := by have := nt h8; dsimp only at this; omega
                rw [if_neg h8] at hstep
                refine ⟨⟨by show (css.length + 1) * 112 ≤ 140737488355328; omega, by show css.length + 1 ≤ 9223372036854775807; omega⟩, ?_⟩
                have hrc2 : RC (α := Block) H4 (css ++ [Value.string (bs x.1.l) :: .slice a6 n6 c6 :: termV x.2.2]) (((q.set i (catB b y)).take (k + 1)).eraseIdx tn) := by
                  rw [hstep]; exact hrc.snoc (block_mk hr6 hs6 ht6)
                refine ⟨⟨by dsimp only; omega, by dsimp only; omega⟩, (k + 1, css ++ [Value.string (bs x.1.l) :: .slice a6 n6 c6 :: termV x.2.2]), [(0, 0), (1, 1), (2, 2), (3, 6)], ?_, ⟨hle4, hkl, hrc2⟩, by dsimp only; omega⟩
                (repeat' (first | exact trivial | refine ⟨?_, ?_⟩ | exact rfl | assumption))
              · have h8 : k = tn := by have := nf h8; dsimp only at this; omega
                rw [if_pos h8, List.append_nil] at hstep
                refine ⟨⟨by dsimp only; omega, by dsimp only; omega⟩, (k + 1, css), [(0, 0), (1, 1), (2, 2), (3, 3)], ?_, ⟨hle4, hkl, by rw [hstep]; exact hrc⟩, by dsimp only; omega⟩
                (repeat' (first | exact trivial | refine ⟨?_, ?_⟩ | exact rfl | assumption))
          · have hkl : k = q.length := by have := df h; dsimp only at this; omega
            have hall : ((q.set i (catB b y)).take k).eraseIdx tn = joinP q i tn := by rw [hjn, List.take_of_length_le (by rw [List.length_set]; omega)]
            rw [hall] at hrc
            intro w H6 hle6 hw
            refine of_row_k (α := Block) hw (hrc.up hle6.le) fun a8 n8 c8 ew hr8 => ?_
            subst ew
            exact hS _ _ _ _ ((hle1.trans hle4).trans hle6.le) hr8
      · have h3 : ¬ 0 < t := by have := dt h3; omega
        refine ⟨⟨by omega, by omega⟩, i + 1, [(0, 0), (1, 1)], ?_, ⟨rfl, hlt, hnext (by rw [hok, decide_eq_false h3]; simp)⟩, by dsimp only; omega⟩
        (repeat' (first | exact trivial | refine ⟨?_, ?_⟩ | exact rfl | assumption))
    · have h2 : t = (i : Int) := dt h2
      refine ⟨⟨by omega, by omega⟩, i + 1, [(0, 0), (1, 1)], ?_, ⟨rfl, hlt, hnext (by rw [hok, decide_eq_true h2]; simp)⟩, by dsimp only; omega⟩
      (repeat' (first | exact trivial | refine ⟨?_, ?_⟩ | exact rfl | assumption))
  · have hil : i = q.length := by have := df h; omega
    rw [hil] at hf
    exact hN hf _ hle1
end Go.Proofs
end
section
namespace Go.Proofs
open Go.Sy
set_option maxRecDepth 20000
set_option maxHeartbeats 4000000
theorem rone_none {q : Prog} (hq : q.length ≤ 12) (hst : stmtsN q ≤ 1000000) (h : pairP q = none) {a : Option Addr} {n c : Nat} {H : Hp} {K : Value → Hp → Prop} (ha : RL H a n c q) (hK : ∀ H', Le H H' → K (.tuple #[.agg #[.slice a n c], .bool false]) H') : Does Tryz.prog 54 [.agg #[.slice a n c]] H K :=
  rone_spec hq hst ha (fun _ => hK) (fun i t e => by rw [h] at e; cases e)
theorem rone_some {q : Prog} (hq : q.length ≤ 12) (hst : stmtsN q ≤ 1000000) {i t : Nat} (h : pairP q = some (i, t)) {a : Option Addr} {n c : Nat} {H : Hp} {K : Value → Hp → Prop} (ha : RL H a n c q) (hK : ∀ a1 n1 c1 H', Le H H' → RL H' a1 n1 c1 (joinP q i t) → K (.tuple #[.agg #[.slice a1 n1 c1], .bool true]) H') : Does Tryz.prog 54 [.agg #[.slice a n c]] H K :=
  rone_spec hq hst ha (fun e => by rw [h] at e; cases e) (fun i2 t2 e => by rw [h] at e; simp only [Option.some.injEq, Prod.mk.injEq] at e; obtain ⟨rfl, rfl⟩ := e; exact hK)
theorem rmerge_spec {p : Prog} (hp : p.length ≤ 12) (hst : stmtsN p ≤ 1000000) {a : Option Addr} {n c : Nat} {H : Hp} {K : Value → Hp → Prop} (ha : RL H a n c p)
    (hK : ∀ a1 n1 c1 R r H', Le H H' → StrictL R → IsReach (p.length : Nat) (gSort (edgesOf (endsP p))) [0] R → Mrg (keepP (endsP p) R p.length) r → RL H' a1 n1 c1 r → K (.agg #[.slice a1 n1 c1]) H') : Does Tryz.prog 17 [.agg #[.slice a n c]] H K := by
  refine spec_of cx_ok cx_mix rfl Tryz.func17 Tryz.call17 Tryz.ntmps17 Tryz.results17 rfl rfl ?_
  refine rprog_spec hp ha fun a1 n1 c1 R H1 hle1 hS hR hr1 => ?_
  have e2 : keepP (endsP p) R p.length = keepR (endsP p) R := by
    have := keepP_eq (q := endsP p) hS (fun x hx => by rw [endsP_len]; exact dt (hR.node x hx))
    rwa [endsP_len] at this
  rw [← e2] at hr1
  have hq0 : (keepP (endsP p) R p.length).length ≤ 12 := Nat.le_trans (keepP_len _ _ _) hp
  have hst0 : stmtsN (keepP (endsP p) R p.length) ≤ 1000000 := by
    have h1 := keepP_stmts (endsP p) R p.length (by rw [endsP_len]; exact Nat.le_refl _)
    have h2 := stmtsN_le (endsP p) p.length
    rw [endsP_stmts] at h2
    omega
  refine name_k (keepP (endsP p) R p.length) fun q0 hq0e => ?_
  rw [← hq0e] at hr1 hq0 hst0
  have hK2 := fun a1 n1 c1 r H' h => hK a1 n1 c1 R r H' h hS hR
  rw [← hq0e] at hK2
  refine ⟨Prog × (Option Addr × Nat × Nat) × Nat, fun z => ⟨[(2, .ptr 0 0), (3, .ptr 1 0), (4, .v (.int .i64 z.2.2))], [(0, .cells 24 [.v (.slice none 0 0)]), (1, .cells 24 [.v (.slice z.2.1.1 z.2.1.2.1 z.2.1.2.2)])], 2⟩,
    fun z H' => Le H H' ∧ RL H' z.2.1.1 z.2.1.2.1 z.2.1.2.2 z.1 ∧ z.1.length + z.2.2 ≤ 12 ∧ stmtsN z.1 ≤ 1000000 ∧ ∀ r, Mrg z.1 r → Mrg q0 r, fun z => 128 - z.2.2, ⟨(q0, (a1, n1, c1), 0), [(0, 1), (1, 2)], ?_, hle1, hr1, hq0, hst0, fun _ h => h⟩, ?_⟩
  · (repeat' (first | exact trivial | refine ⟨?_, ?_⟩ | exact rfl | assumption))
  rintro ⟨q, ⟨a2, n2, c2⟩, i⟩ H2 _ ⟨hle2, hr2, hq, hst2, hM⟩
  dsimp only at hr2 hq hst2 hM
  refine ⟨fun h => ?_, fun h => ?_⟩
  · rcases hpp : pairP q with _ | ⟨k, t⟩
    · refine rone_none (by omega) hst2 hpp hr2 fun H3 hle3 => ?_
      refine ⟨fun _ => ?_, (fun h => by cases h)⟩
      exact hK2 _ _ _ _ _ (hle2.trans hle3) (hM _ (.stop hpp)) (hr2.up hle3)
    · obtain ⟨h1, h2, h3⟩ := firstP_spec hpp
      have hjl := joinP_len h2 h3
      have hjs := joinP_stmts h1 h2 h3
      refine rone_some (by omega) hst2 hpp hr2 fun a3 n3 c3 H3 hle3 hr3 => ?_
      refine ⟨(fun h => by cases h), fun _ => ?_⟩
      refine ⟨⟨by dsimp only; omega, by dsimp only; omega⟩, (joinP q k t, (a3, n3, c3), i + 1), [(0, 0), (1, 1)], ?_, ⟨hle2.trans hle3, hr3, by dsimp only; omega, by dsimp only; omega, fun r hr => hM r (.step hpp hr)⟩, by dsimp only; omega⟩
      (repeat' (first | exact trivial | refine ⟨?_, ?_⟩ | exact rfl | assumption))
  · have := df h
    dsimp only at this
    omega
/-- PruneMerges. -/
theorem PruneMerges_spec {p : Prog} {a : Option Addr} {n c : Nat} {H : Hp} {K : Value → Hp → Prop} (ha : RL H a n c p) (hK : ∀ H', Le H H' → K (.bool true) H') : Does Tryz.prog 4 [.agg #[.slice a n c]] H K := by
  refine spec_of cx_ok cx_mix rfl Tryz.func4 Tryz.call4 Tryz.ntmps4 Tryz.results4 rfl rfl ?_
  refine awake47_spec fun _ _ => ?_
  refine ⟨(fun h => by cases h), fun _ => ?_⟩
  refine small4_spec ha fun b hb => ?_
  refine ⟨fun _ => hK _ (Le.refl H), fun h => ?_⟩
  have hb := hb (by simpa using h)
  have hp := hb.1
  have hl : ∀ b ∈ p, b.2.1.length ≤ 1000000 := fun b h => by have := (hb.2 b h).1.1; omega
  have hc : stmtsN p ≤ 1000000 := small_stmts hb
  have hv : cnt p < 400000 := small_cnt hb
  refine pmerge_spec hp hl hc hv ha (fun he H2 hle2 => ?_) (fun he a1 n1 c1 R r H2 hle2 hS hR hM hr1 => ?_)
  · refine rcheck_spec (ha.up hle2) hc hv fun _ _ => ?_
    refine ⟨fun _ => ?_, fun h => absurd (nf h) he⟩
    refine ⟨fun _ => ?_, fun h => absurd rfl (df h)⟩
    exact kbool (hK _ hle2) rfl
  · refine rcheck_spec (ha.up hle2) hc hv fun _ _ => ?_
    refine ⟨fun h => absurd he (nt h), fun _ => ?_⟩
    refine ⟨some ([], [0, 1, 2, 3, 4, 5, 6, 7, 8]), by kernel_rfl, ?_⟩
    refine ⟨fun _ => ?_, fun h => absurd rfl (df h)⟩
    refine rmerge_spec hp hc (ha.up hle2) fun a2 n2 c2 R2 r2 H3 hle3 hS2 hR2 hM2 hr2 => ?_
    have e1 : R = R2 := strict_ext hS hS2 (hR.mem hR2)
    rw [← e1] at hM2
    have e2 : r = r2 := hM.one hM2
    rw [← e2] at hr2
    refine psame_spec (hr1.up hle3) hr2 ?_
    exact hK _ (hle2.trans hle3)
end Go.Proofs
end
