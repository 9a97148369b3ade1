/- Part 'M33' of the proof (It4, Lv6, Lv7, Lv8, Lv9, Lr1, Lv10, Lv11, Lv12, Lv13, Lr2): lemmas, each with its own conditions in its own statement. -/
import Derived.Test.YtpcgdleccebjpaaGreatDoorM27
import Derived.Test.YtpcgdleccebjpaaGreatDoorM29
import Derived.Test.YtpcgdleccebjpaaGreatDoorM30
import Derived.Test.YtpcgdleccebjpaaGreatDoorM31
import Derived.Test.YtpcgdleccebjpaaGreatDoorM32
section
namespace Go.Proofs
open Go.RowKit Go.Shelf Go.Sy
set_option maxRecDepth 20000
/-- The table that TrailingZeros64 reads, as it lies. -/
def TabH (H : Hp) : Prop := ∃ cells T fr, H 0 = some (.cells cells T fr) ∧ ∀ j, j < 64 → cells[j]? = some (.int .u8 (Lib.deBruijn64tab.getD j 0))
theorem TabH.up {H H' : Hp} (h : TabH H) (hle : Le H H') : TabH H' := by
  obtain ⟨c, T, fr, h1, h2⟩ := h
  exact ⟨c, T, fr, hle _ _ h1, h2⟩
theorem allL_small : ∀ (l : List UInt64) (i : Nat), ∀ x ∈ allL l i, 0 ≤ x ∧ x < ((64 * (i + l.length) : Nat) : Int)
  | [], _, x, h => by cases h
  | w :: r, i, x, h => by
    rw [allL] at h
    rcases List.mem_append.1 h with h | h
    · obtain ⟨k, hk, rfl⟩ := List.mem_map.1 h
      have := List.mem_range.1 (List.mem_filter.1 hk).1
      rw [List.length_cons]
      omega
    · have := allL_small r (i + 1) x h
      rw [List.length_cons]
      omega
theorem list_spec {ws : List UInt64} (hw : ws.length ≤ 100000) {a : Option Addr} {n c : Nat} {H : Hp} {K : Value → Hp → Prop} (ha : RL H a n c ws) (hT : TabH H) (hK : ∀ a1 n1 c1 H', Le H H' → RL H' a1 n1 c1 (allL ws 0) → K (.slice a1 n1 c1) H') : Does Tryz.prog 72 [.slice a n c] H K := by
  refine ⟨Tryz.call72, fun w hp => ?_⟩
  obtain ⟨tc, tT, tf, ht1, ht2⟩ := hT
  have hb0 := hp _ _ ht1
  have hs : 0 < w.heap.size := (Array.getElem?_eq_some_iff.1 hb0).1
  have hTw : TabAt 0 Lib.deBruijn64tab w := fun j hj => by
    have hj : j < 64 := hj
    have := ht2 j hj
    simp only [World.cell?, hb0]
    exact this
  have hA : WordsAt w a n ws w.heap.size := by
    refine ⟨ha.n_eq, ?_⟩
    obtain ⟨h1, h2, _, h4⟩ := ha
    rcases h4 with h4 | ⟨ad, e, hsp, cells, T, fr, hH, hcs, hx⟩
    · exact .inl (by omega)
    · obtain ⟨b, off, sp⟩ := ad
      dsimp only at hsp hH hx hcs
      subst hsp
      have hb := hp _ _ hH
      refine .inr ⟨b, off, e, (Array.getElem?_eq_some_iff.1 hb).1, fun j hj => ?_⟩
      have hjl : j < ws.length := by omega
      obtain ⟨cs, h5, h6⟩ := hx j ws[j] (List.getElem?_eq_getElem hjl)
      have h5 : cs = [.int .u64 ws[j].toNat] := h5
      have h7 := h6 0 (by decide)
      rw [h5] at h7
      simp only [World.cell?, hb]
      rw [List.getElem?_eq_getElem hjl]
      have e1 : off + j * Enc.sz UInt64 + 0 = off + j := by show off + j * 1 + 0 = _; omega
      rw [e1] at h7
      exact h7
  have hlen := allL_len ws 0
  refine (callsIn_wide.1 (list_in a n c ws hw w hs ha.2.1 hTw hA)).mono ?_
  rintro e W' ⟨v, rfl, hown, hB⟩
  have hrowR : RC (α := Int) H (iRows (allL ws 0)) (allL ws 0) := rc_iRows fun x hx => by
    have := allL_small ws 0 x hx
    exact ⟨by omega, by omega⟩
  rcases hown.2 with ⟨rfl, hz⟩ | ⟨g, cap, cur, rfl, hg, hgb, h5, h6, h7, h8⟩
  · refine ⟨_, H, rfl, hK none 0 0 H (Le.refl H) ?_, Le.refl H, fun b o hb => ?_, fun b hb _ => hb, hB⟩
    · rw [List.eq_nil_of_length_eq_zero hz]; exact rl_nil
    · rw [hB.block b (Array.getElem?_eq_some_iff.1 (hp b o hb)).1]; exact hp b o hb
  · have hgn : H g = none := by
      cases hh : H g with
      | none => rfl
      | some o => have := (Array.getElem?_eq_some_iff.1 (hp g o hh)).1; omega
    obtain ⟨H', hH'⟩ : ∃ H' : Hp, H' = fun b => if b = g then some (.cells cur 3 (0, 0)) else H b := ⟨_, rfl⟩
    have hle : Le H H' := fun b o hb => by
      rw [hH']
      dsimp only
      rw [if_neg (fun e => by rw [e, hgn] at hb; cases hb)]
      exact hb
    refine ⟨_, H', rfl, ?_, hle, fun b o hb => ?_, fun b hb hlt => ?_, hB⟩
    · have hrow : RowAt H' (.slice (some ⟨g, 0, none⟩) (allL ws 0).length cap) 1 (iRows (allL ws 0)) := by
        refine ⟨some ⟨g, 0, none⟩, cap, by rw [List.length_map], ⟨by rw [List.length_map]; exact h5, by simp only [maxLen] at h6; omega⟩, iRows_one _, .inr ⟨⟨g, 0, none⟩, rfl, rfl, cur, 3, (0, 0), by rw [hH']; simp, by dsimp only; omega, fun i x hi j hj => ?_⟩⟩
        have hj0 : j = 0 := by omega
        subst hj0
        rw [List.getElem?_map] at hi
        obtain ⟨y, hy, rfl⟩ := Option.map_eq_some_iff.1 hi
        have hil := (List.getElem?_eq_some_iff.1 hy).1
        have h9 : (cur.toList.take ((allL ws 0).length * 1))[i]? = some (.int .i64 y) := by rw [h8, List.getElem?_map, hy]; rfl
        rw [List.getElem?_take, if_pos (by omega)] at h9
        have e : 0 + i * 1 + 0 = i := by omega
        rw [e, ← Array.getElem?_toList, h9]; rfl
      refine of_row_k (α := Int) hrow (hrowR.up hle) fun a1 n1 c1 ev hr => ?_
      rw [ev]
      exact hK _ _ _ _ hle hr
    · rw [hH'] at hb
      dsimp only at hb
      split at hb
      · rename_i e
        rw [e, hgb]; exact hb
      · rw [hB.block b (Array.getElem?_eq_some_iff.1 (hp b o hb)).1]; exact hp b o hb
    · rw [hH']
      dsimp only
      rw [if_neg (by omega)]
      exact hb
end Go.Proofs
end
section
namespace Go.Proofs
open Go.Sy
set_option maxRecDepth 20000
set_option maxHeartbeats 4000000
/-! The names of sets. -/
def nmsAt (V : List Bs8) (l : List Int) : List Bs8 := l.map fun n => V[n.toNat]?.getD []
def numB (x : Wd) : List Int := allL x 0
def namesB (V : List Bs8) (x : Wd) : List Bs8 := nmsAt V (numB x)
theorem allL_has : ∀ (l : Wd) (i : Nat) (m : Nat), ((m : Int) ∈ allL l i) ↔ (64 * i ≤ m ∧ bitAt l (m - 64 * i) = true)
  | [], i, m => by simp [allL, bitAt]
  | w :: r, i, m => by
    rw [allL, List.mem_append, allL_has r (i + 1) m]
    constructor
    · rintro (h | ⟨h1, h2⟩)
      · obtain ⟨k, hk, e⟩ := List.mem_map.1 h
        obtain ⟨h3, h4⟩ := List.mem_filter.1 hk
        have h3 := List.mem_range.1 h3
        have e : m = i * 64 + k := by omega
        refine ⟨by omega, ?_⟩
        rw [bitAt, show (m - 64 * i) / 64 = 0 by omega, show (m - 64 * i) % 64 = k by omega]
        simpa using h4
      · refine ⟨by omega, ?_⟩
        rw [bitAt] at h2 ⊢
        rw [show (m - 64 * i) / 64 = (m - 64 * (i + 1)) / 64 + 1 by omega, show (m - 64 * i) % 64 = (m - 64 * (i + 1)) % 64 by omega, List.getElem?_cons_succ]
        exact h2
    · rintro ⟨h1, h2⟩
      by_cases h3 : m - 64 * i < 64
      · left
        refine List.mem_map.2 ⟨m - 64 * i, List.mem_filter.2 ⟨List.mem_range.2 h3, ?_⟩, by omega⟩
        rw [bitAt, show (m - 64 * i) / 64 = 0 by omega, show (m - 64 * i) % 64 = m - 64 * i by omega] at h2
        simpa using h2
      · right
        refine ⟨by omega, ?_⟩
        rw [bitAt] at h2 ⊢
        rw [show (m - 64 * i) / 64 = (m - 64 * (i + 1)) / 64 + 1 by omega, show (m - 64 * i) % 64 = (m - 64 * (i + 1)) % 64 by omega, List.getElem?_cons_succ] at h2
        exact h2
theorem allL_nat : ∀ (l : Wd) (i : Nat), ∀ x ∈ allL l i, 0 ≤ x
  | [], _, x, h => by cases h
  | w :: r, i, x, h => by
    rw [allL] at h
    rcases List.mem_append.1 h with h | h
    · obtain ⟨k, _, rfl⟩ := List.mem_map.1 h; omega
    · exact allL_nat r (i + 1) x h
theorem num_in {w : Nat} {x : Wd} (hx : okB w x) : ∀ n ∈ numB x, 0 ≤ n ∧ n < (w : Int) := fun n hn => by
  have h0 := allL_nat x 0 n hn
  have h1 := (allL_has x 0 n.toNat).1 (by rw [Int.toNat_of_nonneg h0]; exact hn)
  refine ⟨h0, ?_⟩
  by_cases h : n < (w : Int)
  · exact h
  · have := hx.2 n.toNat (by omega)
    have h2 := h1.2
    rw [show n.toNat - 64 * 0 = n.toNat by omega, this] at h2
    cases h2
theorem nms_in {V : List Bs8} {x : Wd} (hx : okB V.length x) {i : Nat} {n : Int} (hi : (numB x)[i]? = some n) : V[n.toNat]? = some (V[n.toNat]?.getD []) := by
  have h := num_in hx n (List.mem_of_getElem? hi)
  have h2 : n.toNat < V.length := by omega
  rw [List.getElem?_eq_getElem h2]; rfl
theorem str_kI {P : Prop} {H : Hp} {a : Option Addr} {n c : Nat} {l : List Bs8} (h : RL H a n c (ens l)) {j : Int} (h0 : 0 ≤ j) {s : Bs8} (hi : l[j.toNat]? = some s) (k : ∀ ad, a = some ad → ElemH H ad j 1 [.string (bs s)] → s.length ≤ 9223372036854775807 → P) : P :=
  str_k h hi fun ad e1 e2 e3 => k ad e1 (by rw [Int.toNat_of_nonneg h0] at e2; exact e2) e3
theorem lnames_spec {V : List Bs8} (hV : V.length ≤ 64) {L : List Wd} (hL : ∀ x ∈ L, okB V.length x) (hLl : L.length ≤ 1000) {a a2 : Option Addr} {n c n2 k2 : Nat} {H : Hp} {K : Value → Hp → Prop} (ha : RL H a n c (ens V)) (hb : RL H a2 n2 k2 L) (hT : TabH H) (hK : ∀ a1 n1 c1 H', Le H H' → RL (α := List Str) H' a1 n1 c1 (L.map fun x => ens (namesB V x)) → K (.slice a1 n1 c1) H') :
    Does Tryz.prog 101 [.slice a n c, .slice a2 n2 k2] H K := by
  have hn1 := ha.n_eq
  rw [List.length_map] at hn1
  have hn2 := hb.n_eq
  have hsm := ens_small ha
  refine spec_of cx_ok cx_mix rfl Tryz.func101 Tryz.call101 Tryz.ntmps101 Tryz.results101 rfl rfl ?_
  refine ⟨Nat × List (List Value), fun q => ⟨[(0, .v (.slice a n c)), (5, .own 0), (11, .v (.slice a2 n2 k2)), (12, .v (.int .i64 n2)), (13, .v (.int .i64 q.1))], [(0, .row 79 1 q.2)], 1⟩,
    fun q H' => Le H H' ∧ q.1 ≤ L.length ∧ RC (α := List Str) H' q.2 ((L.take q.1).map fun x => ens (namesB V x)), fun q => L.length - q.1, ⟨(0, []), [], ?_, Le.refl H, Nat.zero_le _, RC.nil⟩, ?_⟩
  · (repeat' (first | exact trivial | refine ⟨?_, ?_⟩ | exact rfl | assumption))
  rintro ⟨i, css⟩ H1 _ ⟨hle1, hi, hrc⟩
  dsimp only at hi hrc
  have hcl : css.length = i := by have h1 := hrc.1; rw [List.length_map, List.length_take] at h1; omega
  refine ⟨fun h => ?_, fun h => ?_⟩
  · have hlt : i < L.length := by have := dt h; dsimp only at this; omega
    refine name_k L[i] fun x hx => ?_
    have hxx : L[i]? = some x := by rw [hx]; exact List.getElem?_eq_getElem hlt
    have hok := hL x (by rw [hx]; exact List.getElem_mem hlt)
    have hst : (L.take (i + 1)).map (fun x => ens (namesB V x)) = (L.take i).map (fun x => ens (namesB V x)) ++ [ens (namesB V x)] := by
      rw [List.take_add_one, hxx, Option.toList_some, List.map_append]; rfl
    refine list_k (hb.up hle1) hxx fun ad a5 n5 c5 q1 hh hr1 => ?_
    refine ⟨ad, ⟨by dsimp only; omega, by dsimp only; omega, q1⟩, ?_⟩
    refine ⟨_, hh, ?_⟩
    refine list_spec (by rw [hok.1, sizeB]; omega) hr1 (hT.up hle1) fun b1 b2 b3 H2 hle2 hr2 => ?_
    have hn3 := hr2.n_eq
    have hnl : (numB x).length ≤ 64 := by
      have h1 := allL_len x 0
      have h2 := hok.1
      unfold sizeB at h2
      have h3 : x.length ≤ 1 := by omega
      show (allL x 0).length ≤ 64
      omega
    refine ⟨Nat, fun j => ⟨[(0, .v (.slice a n c)), (5, .own 0), (8, .own 1), (11, .v (.slice a2 n2 k2)), (12, .v (.int .i64 n2)), (13, .v (.int .i64 i)), (18, .v (.slice b1 b2 b3)), (19, .v (.int .i64 b2)), (20, .v (.int .i64 j))], [(0, .row 79 1 css), (1, .row 9 1 (sRows (nmsAt V ((numB x).take j))))], 2⟩,
      fun j H' => H' = H2 ∧ j ≤ (numB x).length, fun j => (numB x).length - j, ⟨0, [(0, 0)], ?_, rfl, Nat.zero_le _⟩, ?_⟩
    · (repeat' (first | exact trivial | refine ⟨?_, ?_⟩ | exact rfl | assumption))
    rintro j H3 _ ⟨rfl, hj⟩
    have hrl : (sRows (nmsAt V ((numB x).take j))).length ≤ 64 := by rw [List.length_map, nmsAt, List.length_map, List.length_take]; omega
    refine ⟨fun h => ?_, fun h => ?_⟩
    · have hjl : j < (numB x).length := by have := dt h; show j < (allL x 0).length; omega
      refine name_k (numB x)[j] fun k hk => ?_
      have hkk : (numB x)[j]? = some k := by rw [hk]; exact List.getElem?_eq_getElem hjl
      have hkin := num_in hok k (List.mem_of_getElem? hkk)
      have hjl2 : j < b2 := by rw [hn3]; exact hjl
      have e : sRows (nmsAt V ((numB x).take j)) ++ [[.string (bs (V[k.toNat]?.getD []))]] = sRows (nmsAt V ((numB x).take (j + 1))) := by
        rw [nmsAt, nmsAt, List.take_add_one, hkk, Option.toList_some, List.map_append, List.map_cons, List.map_nil, sRows_snoc]
      refine int_k hr2 hkk fun ad e1 hh => ?_
      refine ⟨ad, ⟨by omega, by omega, e1⟩, ?_⟩
      refine ⟨_, hh, ?_⟩
      refine str_kI (ha.up (hle1.trans hle2)) hkin.1 (nms_in hok hkk) fun ad2 e2 hh2 hsz => ?_
      refine ⟨ad2, ⟨hkin.1, by omega, e2⟩, ?_⟩
      refine ⟨_, hh2, ?_⟩
      refine ⟨⟨by show (_ + 1) * 16 ≤ 140737488355328; omega, by show _ + 1 ≤ 9223372036854775807; omega⟩, ?_⟩
      refine ⟨⟨by omega, by omega⟩, j + 1, [(0, 0), (1, 3)], ?_, ⟨rfl, hjl⟩, by dsimp only; omega⟩
      (repeat' (first | exact trivial | refine ⟨?_, ?_⟩ | exact rfl | assumption))
    · have hjl : j = (numB x).length := by have := df h; show j = (allL x 0).length; have hj2 : j ≤ (allL x 0).length := hj; omega
      rw [hjl, List.take_length]
      intro v H6 hle6 hv6
      have hsb : ∀ s ∈ nmsAt V (numB x), s.length ≤ 9223372036854775807 := fun s hs => by
        obtain ⟨k, hk, rfl⟩ := List.mem_map.1 hs
        obtain ⟨i2, hi2⟩ := List.getElem?_of_mem hk
        exact hsm _ (List.mem_of_getElem? (nms_in hok hi2))
      obtain ⟨a7, n7, c7, rfl, hr7⟩ := RL.of_row (α := Str) hv6 (rc_sRows hsb)
      refine ⟨⟨by show (css.length + 1) * 24 ≤ 140737488355328; omega, by show css.length + 1 ≤ 9223372036854775807; omega⟩, ?_⟩
      have hrc2 : RC (α := List Str) H6 (css ++ [[.slice a7 n7 c7]]) ((L.take (i + 1)).map fun x => ens (namesB V x)) := by
        rw [hst]
        exact RC.snoc (RC.up hrc (hle2.trans hle6.le)) (show Enc.R (α := List Str) H6 [.slice a7 n7 c7] (ens (namesB V x)) from ⟨a7, n7, c7, rfl, hr7⟩)
      refine ⟨⟨by omega, by omega⟩, (i + 1, css ++ [[.slice a7 n7 c7]]), [(0, 3)], ?_, ⟨(hle1.trans hle2).trans hle6.le, hlt, hrc2⟩, by dsimp only; omega⟩
      (repeat' (first | exact trivial | refine ⟨?_, ?_⟩ | exact rfl | assumption))
  · have hil : i = L.length := by have := df h; dsimp only at this; omega
    rw [hil, List.take_length] at hrc
    intro v H6 hle6 hv6
    obtain ⟨a7, n7, c7, rfl, hr7⟩ := RL.of_row (α := List Str) hv6 (RC.up hrc hle6.le)
    exact hK _ _ _ _ (hle1.trans hle6.le) hr7
end Go.Proofs
end
section
namespace Go.Proofs
open Go.Sy
set_option maxRecDepth 20000
set_option maxHeartbeats 4000000
theorem idxP_lt {α : Type} (f : α → Bool) : ∀ (l : List α) (i : Nat), ∀ n ∈ idxP f l i, (i : Int) ≤ n ∧ n < ((i + l.length : Nat) : Int)
  | [], _, n, h => by simp [idxP] at h
  | x :: r, i, n, h => by
    have ih := idxP_lt f r (i + 1)
    rw [idxP] at h
    rw [List.length_cons]
    split at h
    · rcases List.mem_cons.1 h with rfl | h
      · omega
      · have := ih n h; omega
    · have := ih n h; omega
theorem lsysOf_ok {p : Prog} (h : checkE p = 0) : Bt.OkS (lsysOf p) := by
  have hf := check_facts h
  refine ⟨.inl rfl, ?_, ?_, ?_, ?_, ?_, ?_, ?_, ?_⟩
  · show (varsOf p).length ≤ 1024
    omega
  · show 1 ≤ p.length ∧ p.length ≤ 256
    omega
  · show (gSort (revL (gSort (edgesOf p)))).length ≤ 1024
    have h0 := gSort_len (revL (gSort (edgesOf p)))
    rw [List.length_map] at h0
    have h1 := gSort_len (edgesOf p)
    have h2 := eAll_len p p 0
    rw [edgesOf] at h1 h0 ⊢
    omega
  · intro e he
    have he : e ∈ revL (gSort (edgesOf p)) := (gSort_mem _ _).1 he
    obtain ⟨e', he', rfl⟩ := List.mem_map.1 he
    have he' : e' ∈ edgesOf p := (gSort_mem _ _).1 he'
    have h1 := eAll_lt p 0 e' he'
    show (0 ≤ e'.2 ∧ e'.2 < (p.length : Nat)) ∧ 0 ≤ e'.1 ∧ e'.1 < (p.length : Nat)
    omega
  · intro v hv
    have := idxP_lt isExit p 0 v hv
    show 0 ≤ v ∧ v < (p.length : Nat)
    omega
  · exact nilB_ok _
  · exact List.length_map _
  · intro t ht
    have ht : t ∈ p.map (trF (varsOf p)) := ht
    obtain ⟨b, hb, rfl⟩ := List.mem_map.1 ht
    exact trF_ok _ b
theorem louts_ok {p : Prog} (h : checkE p = 0) : ∀ x ∈ Bt.outsS (lsysOf p) (Bt.solveS (lsysOf p)), okB (varsOf p).length x := fun x hx => by
  have ho := lsysOf_ok h
  obtain ⟨v, hv, rfl⟩ := List.mem_map.1 hx
  exact Bt.bApp_ok (Bt.tAt_ok ho v).1 (Bt.tAt_ok ho v).2 (Bt.aAt_ok (Bt.solveS_ok ho) (List.mem_range.1 hv))
/-- What is live at the beginnings, and at the ends. -/
def liveI (p : Prog) : List (List Bs8) := (Bt.outsS (lsysOf p) (Bt.solveS (lsysOf p))).map (namesB (varsOf p))
def liveO (p : Prog) : List (List Bs8) := (Bt.solveS (lsysOf p)).map (namesB (varsOf p))
theorem lsets_spec {p : Prog} (hp : p.length ≤ 12) (hl : ∀ b ∈ p, b.2.1.length ≤ 100000) (hc : stmtsN p ≤ 1000000) (hv : cnt p < 400000) {a : Option Addr} {n c : Nat} {H : Hp} {K : Value → Hp → Prop} (ha : RL H a n c p) (hT : TabH H)
    (hbad : checkE p ≠ 0 → ∀ H', Le H H' → K (.tuple #[.slice none 0 0, .slice none 0 0, .int .i64 (checkE p)]) H')
    (hK : checkE p = 0 → ∀ a1 n1 c1 a2 n2 c2 H', Le H H' → RL (α := List Str) H' a1 n1 c1 ((liveI p).map ens) → RL (α := List Str) H' a2 n2 c2 ((liveO p).map ens) → K (.tuple #[.slice a1 n1 c1, .slice a2 n2 c2, .int .i64 0]) H') :
    Does Tryz.prog 43 [.agg #[.slice a n c]] H K := by
  have hn := ha.n_eq
  refine spec_of cx_ok cx_mix rfl Tryz.func43 Tryz.call43 Tryz.ntmps43 Tryz.results43 rfl rfl ?_
  refine lsys_spec hp hl hc hv ha (fun he H1 hle1 => ?_) (fun he z H1 hle1 hs => ?_)
  · refine ⟨fun _ => ?_, (fun h => absurd (nf h) he)⟩
    exact hbad he _ hle1
  · have ho := lsysOf_ok he
    have hA := Bt.solveS_ok ho
    refine ⟨fun h => absurd rfl (nt h), fun _ => ?_⟩
    refine Bt.lsolve_spec ho hs fun a1 n1 c1 k H2 hle2 hr2 => ?_
    refine Bt.louts_spec ho hA (hs.up hle2) hr2 fun a2 n2 c2 H3 hle3 hr3 => ?_
    have hle := (hle1.trans hle2).trans hle3
    refine pvars_spec (ha.up hle) hv fun av nv cv H4 hle4 hrv => ?_
    have hv64 := vars64 he
    have hle' := hle.trans hle4
    have hm : (Bt.solveS (lsysOf p)).length = p.length := hA.len
    refine lnames_spec (V := varsOf p) hv64 (louts_ok he) (by rw [Bt.outsS, List.length_map, List.length_range]; show p.length ≤ 1000; omega) hrv (hr3.up hle4) (hT.up hle') fun a5 n5 c5 H5 hle5 hr5 => ?_
    refine lnames_spec (V := varsOf p) hv64 (fun x hx => hA.ok x hx) (by omega) (hrv.up hle5) (hr2.up ((hle3.trans hle4).trans hle5)) (hT.up (hle'.trans hle5)) fun a6 n6 c6 H6 hle6 hr6 => ?_
    refine hK he _ _ _ _ _ _ H6 ((hle'.trans hle5).trans hle6) ?_ ?_
    · rw [liveI, List.map_map]; exact hr5.up hle6
    · rw [liveO, List.map_map]; exact hr6
theorem strs_k {P : Prop} {H : Hp} {a : Option Addr} {n c : Nat} {xs : List (List Str)} (h : RL H a n c xs) {i : Nat} {x : List Str} (hi : xs[i]? = some x) (k : ∀ ad a1 n1 c1, a = some ad → ElemH H ad (i : Int) 1 [.slice a1 n1 c1] → RL H a1 n1 c1 x → P) : P :=
  elem_k h hi fun ad cs h1 h2 h3 => by
    obtain ⟨a1, n1, c1, rfl, h4⟩ := h3
    exact k ad a1 n1 c1 h1 h2 h4
def isLive (p : Prog) (i : Int) (v : Bs8) : Bool := decide (checkE p = 0) && decide (0 ≤ i) && decide (v ∈ (liveO p)[i.toNat]?.getD [])
theorem lis_spec {p : Prog} (hp : p.length ≤ 12) (hl : ∀ b ∈ p, b.2.1.length ≤ 100000) (hc : stmtsN p ≤ 1000000) (hv : cnt p < 400000) {i : Int} {v : Bs8} {a : Option Addr} {n c : Nat} {H : Hp} {K : Value → Hp → Prop} (ha : RL H a n c p) (hT : TabH H)
    (hK : ∀ H', Le H H' → K (.bool (isLive p i v)) H') :
    Does Tryz.prog 44 [.agg #[.slice a n c], .int .i64 i, .string (bs v)] H K := by
  refine spec_of cx_ok cx_mix rfl Tryz.func44 Tryz.call44 Tryz.ntmps44 Tryz.results44 rfl rfl ?_
  refine lsets_spec hp hl hc hv ha hT (fun he H1 hle1 => ?_) (fun he a1 n1 c1 a2 n2 c2 H1 hle1 hr1 hr2 => ?_)
  · have e : isLive p i v = false := by rw [isLive, decide_eq_false he]; rfl
    rw [e] at hK
    refine ⟨(fun h => absurd (dt h) he), fun _ => ?_⟩
    exact hK _ hle1
  · have hn2 := hr2.n_eq
    rw [List.length_map] at hn2
    refine ⟨fun _ => ?_, (fun h => absurd rfl (df h))⟩
    refine ⟨fun h => ?_, fun h => ?_⟩
    · have h0 : 0 ≤ i := dt h
      refine ⟨fun h => ?_, fun h => ?_⟩
      · have h1 : i < (n2 : Int) := dt h
        have hlt : i.toNat < (liveO p).length := by omega
        have hg : ((liveO p).map ens)[i.toNat]? = some (ens (liveO p)[i.toNat]) := by rw [List.getElem?_map, List.getElem?_eq_getElem hlt]; rfl
        have e : isLive p i v = decide (v ∈ (liveO p)[i.toNat]) := by
          rw [isLive, decide_eq_true he, decide_eq_true h0, List.getElem?_eq_getElem hlt]; rfl
        rw [e] at hK
        refine strs_k hr2 hg fun ad a5 n5 c5 q1 hh hr5 => ?_
        rw [Int.toNat_of_nonneg h0] at hh
        refine ⟨ad, ⟨h0, h1, q1⟩, ?_⟩
        refine ⟨_, hh, ?_⟩
        refine contains_spec hr5 ?_
        exact hK _ hle1
      · have h1 : ¬ i < (n2 : Int) := df h
        have e : isLive p i v = false := by
          rw [isLive, List.getElem?_eq_none (by omega)]
          simp
        rw [e] at hK
        exact hK _ hle1
    · have h0 : ¬ 0 ≤ i := df h
      have e : isLive p i v = false := by rw [isLive, decide_eq_false h0]; simp
      rw [e] at hK
      exact hK _ hle1
end Go.Proofs
end
section
namespace Go.Proofs
open Go.Sy
set_option maxRecDepth 20000
set_option maxHeartbeats 4000000
/-! What is first done with a name in a block. -/
def firstS (v : Bs8) (t : Term) : List Stmt → Int
  | [] => if t.1 = 2 ∧ t.2.1.1.l = v then 1 else 0
  | s :: r => if v ∈ usesS s then 1 else if s.1 ≠ 3 ∧ s.2.1.l = v then 2 else firstS v t r
def genL (V : List Bs8) (b : Block) (i : Nat) : List Int := ((List.range i).filter fun k => decide (firstS (V[k]?.getD []) b.2.2 b.2.1 = 1)).map fun k : Nat => (k : Int)
def killK (V : List Bs8) (l : List Stmt) (k : Nat) : List Int := (l.filter fun x => decide (x.1 ≠ 3 ∧ x.2.1.l = V[k]?.getD [])).map fun _ => (k : Int)
def killL (V : List Bs8) (b : Block) (i : Nat) : List Int := (List.range i).flatMap (killK V b.2.1)
def rtrF (V : List Bs8) (b : Block) : Wd × Wd := (ofB V.length (genL V b V.length), ofB V.length (killL V b V.length))
theorem idxS_is {V : List Bs8} (hV : SortedS V) {m : Nat} {v : Bs8} (hm : V[m]? = some v) (t : Bs8) : idxS t V 0 = (m : Int) ↔ t = v := by
  have hnd : ∀ (i j : Nat) (x : Bs8), V[i]? = some x → V[j]? = some x → i = j := fun i j x hi hj => by
    obtain ⟨h1, rfl⟩ := List.getElem?_eq_some_iff.1 hi
    obtain ⟨h2, h3⟩ := List.getElem?_eq_some_iff.1 hj
    rcases Nat.lt_trichotomy i j with h | h | h
    · have := List.pairwise_iff_getElem.1 hV i j h1 h2 h
      rw [h3] at this
      exact absurd this (slt_irrefl _)
    · exact h
    · have := List.pairwise_iff_getElem.1 hV j i h2 h1 h
      rw [h3] at this
      exact absurd this (slt_irrefl _)
  constructor
  · intro h
    have hin : t ∈ V := idxS_some (Int.le_refl 0) (by omega)
    have h2 := (idxS_at t V 0 (Int.le_refl 0) hin).2.2
    rw [h, show ((m : Int) - 0).toNat = m by omega, hm] at h2
    exact (Option.some.inj h2).symm
  · rintro rfl
    have hin : t ∈ V := List.mem_of_getElem? hm
    have h1 := idxS_at t V 0 (Int.le_refl 0) hin
    have := hnd _ _ _ h1.2.2 hm
    omega
theorem bit_one1 {V : List Bs8} (hV : SortedS V) {m : Nat} {v : Bs8} (hm : V[m]? = some v) (t : Bs8) : bitAt (oneV V t) m = decide (t = v) := by
  have hlt := (List.getElem?_eq_some_iff.1 hm).1
  rw [oneV, bit_of]
  by_cases h : t = v
  · rw [decide_eq_true h]
    refine decide_eq_true ⟨hlt, ?_⟩
    rw [List.mem_singleton]
    exact ((idxS_is hV hm t).2 h).symm
  · rw [decide_eq_false h]
    refine decide_eq_false fun h2 => h ((idxS_is hV hm t).1 ?_)
    exact (List.mem_singleton.1 h2.2).symm
theorem bit_use {V : List Bs8} (hV : SortedS V) {m : Nat} {v : Bs8} (hm : V[m]? = some v) {k : Wd} (hk : okB V.length k) : ∀ (l : List Bs8) {g : Wd}, okB V.length g → bitAt (useF V k g l) m = (bitAt g m || (decide (v ∈ l) && !bitAt k m))
  | [], g, _ => by simp [useF]
  | t :: r, g, hg => by
    have hd := bDiff_ok (oneV_ok V t) hk
    have ih := bit_use hV hm hk r (g := bOr g (bDiff (oneV V t) k)) (bOr_ok hg hd)
    rw [show useF V k g (t :: r) = useF V k (bOr g (bDiff (oneV V t) k)) r from rfl, ih, bit_bOr (hg.1.trans hd.1.symm), bit_bDiff ((oneV_ok V t).1.trans hk.1.symm), bit_one1 hV hm]
    by_cases h1 : t = v
    · by_cases h2 : v ∈ r <;> cases bitAt g m <;> cases bitAt k m <;> simp [h1, h2]
    · have h3 : ¬ v = t := fun e => h1 e.symm
      by_cases h2 : v ∈ r <;> cases bitAt g m <;> cases bitAt k m <;> simp [h1, h2, h3]
theorem bit_trF {V : List Bs8} (hV : SortedS V) {m : Nat} {v : Bs8} (hm : V[m]? = some v) (hv : v ≠ []) {t : Term} (ht : t.1 ≠ 2 → t.2.1.1.l = []) : ∀ (l : List Stmt) {z : Wd × Wd}, okB V.length z.1 ∧ okB V.length z.2 →
    bitAt (useF V (l.foldl (stmF V) z).2 (l.foldl (stmF V) z).1 (nmsOf [t.2.1.1.l])) m = (bitAt z.1 m || (!bitAt z.2 m && decide (firstS v t l = 1))) ∧ bitAt (l.foldl (stmF V) z).2 m = (bitAt z.2 m || decide (∃ s ∈ l, s.1 ≠ 3 ∧ s.2.1.l = v))
  | [], z, hz => by
    refine ⟨?_, by simp⟩
    rw [List.foldl_nil, bit_use hV hm hz.2 _ hz.1]
    have e : decide (v ∈ nmsOf [t.2.1.1.l]) = decide (firstS v t [] = 1) := by
      rw [decide_eq_decide, nmsOf_mem, List.mem_singleton, firstS]
      constructor
      · rintro ⟨h1, h2⟩
        rw [if_pos]
        refine ⟨?_, h1.symm⟩
        by_cases h : t.1 = 2
        · exact h
        · rw [ht h] at h1; exact absurd h1 h2
      · intro h
        split at h
        · rename_i h2; exact ⟨h2.2.symm, hv⟩
        · cases h
    rw [e]
    cases bitAt z.1 m <;> cases bitAt z.2 m <;> simp
  | s :: r, z, hz => by
    have hz1 := stmF_ok hz s
    obtain ⟨h1, h2⟩ := bit_trF hV hm hv ht r (z := stmF V z s) hz1
    rw [List.foldl_cons]
    have e1 : bitAt (stmF V z s).1 m = (bitAt z.1 m || (decide (v ∈ usesS s) && !bitAt z.2 m)) := bit_use hV hm hz.2 _ hz.1
    have e2 : bitAt (stmF V z s).2 m = (bitAt z.2 m || decide (s.1 ≠ 3 ∧ s.2.1.l = v)) := by
      show bitAt (if s.1 = 3 then z.2 else bOr z.2 (oneV V s.2.1.l)) m = _
      split
      · rename_i h; simp [h]
      · rename_i h
        rw [bit_bOr (hz.2.1.trans (oneV_ok V _).1.symm), bit_one1 hV hm]
        simp [h]
    refine ⟨?_, ?_⟩
    · rw [h1, e1, e2, firstS]
      by_cases a1 : v ∈ usesS s <;> by_cases a2 : s.1 ≠ 3 ∧ s.2.1.l = v <;> cases bitAt z.1 m <;> cases bitAt z.2 m <;> simp [a1, a2]
    · rw [h2, e2, Bool.or_assoc]
      congr 1
      by_cases a2 : s.1 ≠ 3 ∧ s.2.1.l = v
      · simp [a2]
      · by_cases a3 : ∃ x ∈ r, x.1 ≠ 3 ∧ x.2.1.l = v <;> simp [a2, a3]
theorem trF_eq {V : List Bs8} (hV : SortedS V) (hne : ¬ [] ∈ V) {b : Block} (ht : b.2.2.1 ≠ 2 → b.2.2.2.1.1.l = []) : trF V b = rtrF V b := by
  have hok := trF_ok V b
  have key : ∀ m v, V[m]? = some v → _ := fun m v hm => bit_trF hV hm (fun e => hne (e ▸ List.mem_of_getElem? hm)) ht b.2.1 (z := (nilB V.length, nilB V.length)) ⟨nilB_ok _, nilB_ok _⟩
  have hg : ∀ k : Nat, (k : Int) ∈ genL V b V.length ↔ k < V.length ∧ firstS (V[k]?.getD []) b.2.2 b.2.1 = 1 := fun k => by
    rw [genL, List.mem_map]
    constructor
    · rintro ⟨j, hj, e⟩
      have : j = k := by omega
      subst this
      obtain ⟨h1, h2⟩ := List.mem_filter.1 hj
      exact ⟨List.mem_range.1 h1, dt h2⟩
    · rintro ⟨h1, h2⟩
      exact ⟨k, List.mem_filter.2 ⟨List.mem_range.2 h1, decide_eq_true h2⟩, rfl⟩
  have hk : ∀ k : Nat, (k : Int) ∈ killL V b V.length ↔ k < V.length ∧ ∃ s ∈ b.2.1, s.1 ≠ 3 ∧ s.2.1.l = V[k]?.getD [] := fun k => by
    rw [killL, List.mem_flatMap]
    constructor
    · rintro ⟨j, hj, h⟩
      obtain ⟨s, hs, e⟩ := List.mem_map.1 h
      have : j = k := by omega
      subst this
      obtain ⟨h1, h2⟩ := List.mem_filter.1 hs
      exact ⟨List.mem_range.1 hj, s, h1, dt h2⟩
    · rintro ⟨h1, s, hs, h2⟩
      exact ⟨k, List.mem_range.2 h1, List.mem_map.2 ⟨s, List.mem_filter.2 ⟨hs, decide_eq_true h2⟩, rfl⟩⟩
  refine Prod.ext ?_ ?_
  · refine bits_ext (by rw [hok.1.1]; exact (ofB_len _ _).symm) fun m => ?_
    show bitAt (trF V b).1 m = bitAt (ofB V.length (genL V b V.length)) m
    rw [bit_of]
    by_cases hm : m < V.length
    · have h := (key m V[m] (List.getElem?_eq_getElem hm)).1
      show bitAt (useF V _ _ _) m = _
      rw [h, nilB, bit_nil, Bool.false_or, Bool.not_false, Bool.true_and, decide_eq_decide, hg, List.getElem?_eq_getElem hm]
      simp [hm]
    · rw [hok.1.2 m (by omega)]
      exact (decide_eq_false fun h => hm h.1).symm
  · refine bits_ext (by rw [hok.2.1]; exact (ofB_len _ _).symm) fun m => ?_
    show bitAt (trF V b).2 m = bitAt (ofB V.length (killL V b V.length)) m
    rw [bit_of]
    by_cases hm : m < V.length
    · have h := (key m V[m] (List.getElem?_eq_getElem hm)).2
      show bitAt (b.2.1.foldl (stmF V) (nilB V.length, nilB V.length)).2 m = _
      rw [h, nilB, bit_nil, Bool.false_or, decide_eq_decide, hk, List.getElem?_eq_getElem hm]
      simp [hm]
    · rw [hok.2.2 m (by omega)]
      exact (decide_eq_false fun h => hm h.1).symm
end Go.Proofs
end
section
namespace Go.Proofs
open Go.Sy
set_option maxRecDepth 20000
set_option maxHeartbeats 4000000
/-! The document's equations of live. -/
end Go.Proofs
end
section
namespace Go.Proofs
open Go.Sy
set_option maxRecDepth 20000
set_option maxHeartbeats 4000000
/-! LiveRuns: the law. -/
theorem vars_some2 (p : Prog) : ¬ [] ∈ varsOf p := by
  have hB : ∀ (l : List Stmt) {o : List Bs8}, ¬ [] ∈ o → ¬ [] ∈ bVars o l := fun l => by
    induction l with
    | nil => exact fun h => h
    | cons s r ih => exact fun h => ih (putAll_some (sVars s) h)
  have : ∀ (q : Prog) {o : List Bs8}, ¬ [] ∈ o → ¬ [] ∈ q.foldl blkVars o := fun q => by
    induction q with
    | nil => exact fun h => h
    | cons b r ih => exact fun h => ih (putAll_some _ (hB b.2.1 h))
  exact this p (by simp)
theorem term_nil {p : Prog} (he : checkE p = 0) {b : Block} (hb : b ∈ p) : b.2.2.1 ≠ 2 → b.2.2.2.1.1.l = [] := fun h2 => by
  have hB := (check_facts he).2.2.2 b hb
  rw [blockB, Bool.and_eq_true, Bool.and_eq_true] at hB
  have ht := hB.1.2
  unfold termB at ht
  split at ht
  · simp only [Bool.and_eq_true, decide_eq_true_eq] at ht
    rw [ht.2.2]; rfl
  · split at ht
    · simp only [Bool.and_eq_true, decide_eq_true_eq] at ht
      rw [ht.2]; rfl
    · cases ht
def agree (V : List Bs8) (P : Nat → Bs8 → Prop) (e1 e2 : List Nm) : Prop :=
  e1.length = V.length ∧ e2.length = V.length ∧ ∀ (m : Nat) (v : Bs8), V[m]? = some v → P m v → e1[m]? = e2[m]?
def liveP (t : Term) (O : Nat → Prop) (l : List Stmt) (m : Nat) (v : Bs8) : Prop := firstS v t l = 1 ∨ (firstS v t l = 0 ∧ O m)
theorem agree_sub {V : List Bs8} {P Q : Nat → Bs8 → Prop} {e1 e2 : List Nm} (h : agree V P e1 e2) (hs : ∀ m v, V[m]? = some v → Q m v → P m v) : agree V Q e1 e2 :=
  ⟨h.1, h.2.1, fun m v hm hq => h.2.2 m v hm (hs m v hm hq)⟩
theorem val_agree {p : Prog} {P : Nat → Bs8 → Prop} {e1 e2 : List Nm} (h : agree (varsOf p) P e1 e2) {a : Atm} (hP : a.1.l ≠ [] → ∀ m, (varsOf p)[m]? = some a.1.l → P m a.1.l) : valA p e1 a = valA p e2 a := by
  unfold valA
  split
  · rfl
  · rename_i h0
    split
    · rename_i h1
      have hm : a.1.l ∈ varsOf p := idxS_some (i := 0) (by omega) h1
      have h2 := (idxS_at a.1.l (varsOf p) 0 (by omega) hm).2.2
      rw [Int.sub_zero] at h2
      have h3 : (varsOf p)[(vIdx p a.1.l).toNat]? = some a.1.l := h2
      rw [h.2.2 _ _ h3 (hP h0 _ h3)]
    · rfl
theorem liveP_step {t : Term} {O : Nat → Prop} {x : Stmt} {r : List Stmt} {m : Nat} {v : Bs8} (h : liveP t O r m v) (hk : x.1 ≠ 3 → x.2.1.l ≠ v) : liveP t O (x :: r) m v := by
  unfold liveP firstS
  by_cases h1 : v ∈ usesS x
  · rw [if_pos h1]; exact .inl rfl
  · rw [if_neg h1, if_neg (fun h2 => hk h2.1 h2.2)]; exact h
theorem liveP_use {t : Term} {O : Nat → Prop} {x : Stmt} {r : List Stmt} {m : Nat} {v : Bs8} (h1 : v ∈ usesS x) : liveP t O (x :: r) m v := by
  unfold liveP firstS
  rw [if_pos h1]; exact .inl rfl
theorem set_agree {p : Prog} {t : Term} {O : Nat → Prop} {x : Stmt} {r : List Stmt} {e1 e2 : List Nm} (h : agree (varsOf p) (liveP t O (x :: r)) e1 e2) (n : Nm) : agree (varsOf p) (liveP t O r) (setAt p e1 x.2.1.l n) (setAt p e2 x.2.1.l n) := by
  refine ⟨by rw [setAt, List.length_set]; exact h.1, by rw [setAt, List.length_set]; exact h.2.1, fun m v hm hl => ?_⟩
  have hs := idxS_is (vars_sorted p nil_sortedS) hm x.2.1.l
  have hlt := (List.getElem?_eq_some_iff.1 hm).1
  rw [setAt, setAt, List.getElem?_set, List.getElem?_set]
  by_cases e : x.2.1.l = v
  · have e2 := hs.2 e
    have e2 : vIdx p x.2.1.l = (m : Int) := e2
    have e3 : (vIdx p x.2.1.l).toNat = m := by omega
    rw [if_pos e3, if_pos e3, if_pos (by rw [h.1]; omega), if_pos (by rw [h.2.1]; omega)]
  · by_cases e3 : (vIdx p x.2.1.l).toNat = m
    · rw [if_pos e3, if_pos e3, if_pos (by rw [h.1]; omega), if_pos (by rw [h.2.1]; omega)]
    · rw [if_neg e3, if_neg e3]
      exact h.2.2 m v hm (liveP_step hl (fun _ => e))
theorem uses_atom {x : Stmt} (hx : stmtB x = true) (h1 : x.1 = 1) : (x.2.2.2.1.1.l ≠ [] → x.2.2.2.1.1.l ∈ usesS x) ∧ (x.2.2.2.2.1.l ≠ [] → x.2.2.2.2.1.l ∈ usesS x) := by
  unfold stmtB at hx
  rw [if_pos h1, Bool.and_eq_true] at hx
  have hx := hx.2
  unfold exprB at hx
  have hu : usesS x = nmsOf ((atomsOf x.2.2).map fun a => a.1.l) := by rw [usesS, useL, if_pos h1]
  rw [hu, nmsOf_mem, nmsOf_mem]
  by_cases e : op1 x.2.2.1 = true
  · rw [if_pos e, Bool.and_eq_true] at hx
    have e2 := dt hx.2
    rw [atomsOf, if_pos e, e2]
    exact ⟨fun h => ⟨by simp, h⟩, fun h => absurd rfl h⟩
  · rw [if_neg e] at hx
    by_cases e3 : op2 x.2.2.1 = true
    · rw [atomsOf, if_neg e, if_pos e3]
      exact ⟨fun h => ⟨by simp, h⟩, fun h => ⟨by simp, h⟩⟩
    · rw [if_neg e3] at hx; cases hx
theorem uses_out {x : Stmt} (h1 : x.1 = 3) : x.2.2.2.1.1.l ≠ [] → x.2.2.2.1.1.l ∈ usesS x := fun h => by
  have hu : usesS x = nmsOf [x.2.2.2.1.1.l] := by rw [usesS, useL, if_neg (by omega), if_pos h1]
  rw [hu, nmsOf_mem]
  exact ⟨by simp, h⟩
theorem do_agree {p : Prog} {inn : List Nm} {t : Term} {O : Nat → Prop} {x : Stmt} {r : List Stmt} (hx : stmtB x = true) {s1 s2 : StE} (h : agree (varsOf p) (liveP t O (x :: r)) s1.2.1 s2.2.1) (h1 : s1.1 = s2.1) (h2 : s1.2.2 = s2.2.2) :
    agree (varsOf p) (liveP t O r) (doS p inn s1 x).2.1 (doS p inn s2 x).2.1 ∧ (doS p inn s1 x).1 = (doS p inn s2 x).1 ∧ (doS p inn s1 x).2.2 = (doS p inn s2 x).2.2 := by
  rcases stmtB_var hx with ⟨hk, _⟩ | ⟨hk, _⟩ | ⟨hk, _⟩
  · have hu := uses_atom hx hk
    have ea : valA p s1.2.1 x.2.2.2.1 = valA p s2.2.1 x.2.2.2.1 := val_agree h fun h0 m _ => liveP_use (hu.1 h0)
    have eb : valA p s1.2.1 x.2.2.2.2 = valA p s2.2.1 x.2.2.2.2 := val_agree h fun h0 m _ => liveP_use (hu.2 h0)
    rw [doS, doS, if_pos hk, if_pos hk, ea, eb]
    exact ⟨set_agree h _, h1, h2⟩
  · rw [doS, doS, if_neg (by omega), if_pos hk, if_neg (by omega), if_pos hk, h2]
    exact ⟨set_agree h _, h1, rfl⟩
  · have ea : valA p s1.2.1 x.2.2.2.1 = valA p s2.2.1 x.2.2.2.1 := val_agree h fun h0 m _ => liveP_use (uses_out hk h0)
    rw [doS, doS, if_neg (by omega), if_neg (by omega), if_pos hk, if_neg (by omega), if_neg (by omega), if_pos hk, h2, ea]
    exact ⟨agree_sub h fun m v _ hl => liveP_step hl (fun h3 => absurd hk h3), h1, rfl⟩
theorem all_agree {p : Prog} {inn : List Nm} {t : Term} {O : Nat → Prop} : ∀ (l : List Stmt) {s1 s2 : StE}, (∀ x ∈ l, stmtB x = true) → agree (varsOf p) (liveP t O l) s1.2.1 s2.2.1 → s1.1 = s2.1 → s1.2.2 = s2.2.2 →
    agree (varsOf p) (liveP t O []) (doAll p inn s1 l).2.1 (doAll p inn s2 l).2.1 ∧ (doAll p inn s1 l).1 = (doAll p inn s2 l).1 ∧ (doAll p inn s1 l).2.2 = (doAll p inn s2 l).2.2
  | [], _, _, _, h, h1, h2 => ⟨h, h1, h2⟩
  | x :: r, s1, s2, hl, h, h1, h2 => by
    have hd := do_agree (inn := inn) (hl x List.mem_cons_self) h h1 h2
    rw [doAll, doAll, List.foldl_cons, List.foldl_cons]
    exact all_agree r (fun y hy => hl y (List.mem_cons_of_mem _ hy)) hd.1 hd.2.1 hd.2.2
theorem first_free {v : Bs8} {t : Term} : ∀ {l : List Stmt}, firstS v t l = 0 → ∀ s ∈ l, ¬ (s.1 ≠ 3 ∧ s.2.1.l = v)
  | [], _, s, hs => by cases hs
  | x :: r, h, s, hs => by
    unfold firstS at h
    split at h
    · cases h
    · split at h
      · cases h
      · rename_i h2
        rcases List.mem_cons.1 hs with rfl | hs
        · exact h2
        · exact first_free h s hs
theorem live_bits {V : List Bs8} (hV : SortedS V) (hne : ¬ [] ∈ V) {b : Block} (ht : b.2.2.1 ≠ 2 → b.2.2.2.1.1.l = []) {x : Wd} (hx : okB V.length x) {m : Nat} {v : Bs8} (hm : V[m]? = some v)
    (h : liveP b.2.2 (fun m => bitAt x m = true) b.2.1 m v) : bitAt (Bt.bApp (trF V b) x) m = true := by
  have hlt := (List.getElem?_eq_some_iff.1 hm).1
  rw [trF_eq hV hne ht, rtrF, Bt.bit_app (t := (ofB V.length (genL V b V.length), ofB V.length (killL V b V.length))) (ofB_ok _ _) (ofB_ok _ _) hx]
  dsimp only
  rw [bit_of, bit_of]
  rcases h with h | ⟨h, h2⟩
  · have hg : (m : Int) ∈ genL V b V.length := by
      rw [genL]
      refine List.mem_map.2 ⟨m, List.mem_filter.2 ⟨List.mem_range.2 hlt, ?_⟩, rfl⟩
      rw [hm]
      exact decide_eq_true h
    rw [decide_eq_true (show m < V.length ∧ (m : Int) ∈ genL V b V.length from ⟨hlt, hg⟩), Bool.or_true]
  · have hk : ¬ (m < V.length ∧ (m : Int) ∈ killL V b V.length) := fun h3 => by
      obtain ⟨k, _, h4⟩ := List.mem_flatMap.1 h3.2
      obtain ⟨s, hs, e⟩ := List.mem_map.1 h4
      obtain ⟨hs1, hs2⟩ := List.mem_filter.1 hs
      have e : k = m := by omega
      have hs2 := dt hs2
      rw [e, hm] at hs2
      exact first_free h s hs1 hs2
    rw [decide_eq_false hk, h2]
    rfl
/-- Where two runs stand, of which no one asks for what is other. -/
def lvA (p : Prog) : List Wd := Bt.solveS (lsysOf p)
structure LRel (p : Prog) (s1 s2 : StE) : Prop where
  b : s1.1 = s2.1
  r : 0 ≤ s1.1 ∧ s1.1 < (p.length : Nat)
  o : s1.2.2 = s2.2.2
  e : agree (varsOf p) (fun m _ => bitAt (Bt.bApp (Bt.tAt (lsysOf p) s1.1.toNat) (Bt.aAt (lvA p) s1.1.toNat)) m = true) s1.2.1 s2.2.1
theorem lsys_tAt {p : Prog} {i : Nat} {b : Block} (h : p[i]? = some b) : Bt.tAt (lsysOf p) i = trF (varsOf p) b := by
  have e : (lsysOf p).T[i]? = some (trF (varsOf p) b) := by
    show (p.map (trF (varsOf p)))[i]? = _
    rw [List.getElem?_map, h]; rfl
  rw [Bt.tAt, e]; rfl
theorem lsys_edge {p : Prog} {e : Edg} (h : e ∈ edgesOf p) : (e.2, e.1) ∈ (lsysOf p).E := by
  show (e.2, e.1) ∈ gSort (revL (gSort (edgesOf p)))
  refine (gSort_mem _ _).2 ?_
  exact List.mem_map.2 ⟨e, (gSort_mem _ _).2 h, rfl⟩
theorem lsys_le {p : Prog} (he : checkE p = 0) {e : Edg} (h : e ∈ edgesOf p) {m : Nat} (hb : bitAt (Bt.bApp (Bt.tAt (lsysOf p) e.2.toNat) (Bt.aAt (lvA p) e.2.toNat)) m = true) : bitAt (Bt.aAt (lvA p) e.1.toNat) m = true := by
  have h1 := Bt.sol_edge (lsysOf_ok he) (lsys_edge h)
  have h2 := h1.2 m
  unfold Bt.lb at h2
  rw [if_pos (show (lsysOf p).wh = 1 from rfl)] at h2
  exact h2 hb
theorem lrel_step {p : Prog} (he : checkE p = 0) {inn : List Nm} {s1 s2 : StE} (h : LRel p s1 s2) :
    (folS p (runB p inn s1)).2 = (folS p (runB p inn s2)).2 ∧ (folS p (runB p inn s1)).1.2.2 = (folS p (runB p inn s2)).1.2.2 ∧ ((folS p (runB p inn s1)).2 = true → LRel p (folS p (runB p inn s1)).1 (folS p (runB p inn s2)).1) := by
  have hlt : s1.1.toNat < p.length := by have := h.r; omega
  have hb : p[s1.1.toNat]? = some p[s1.1.toNat] := List.getElem?_eq_getElem hlt
  generalize p[s1.1.toNat] = b at hb
  have hm := List.mem_of_getElem? hb
  have hok := (check_facts he).2.2.2 b hm
  rw [blockB, Bool.and_eq_true, Bool.and_eq_true] at hok
  have hst : ∀ x ∈ b.2.1, stmtB x = true := fun x hx => List.all_eq_true.1 hok.2 x hx
  have hx : okB (varsOf p).length (Bt.aAt (lvA p) s1.1.toNat) := Bt.aAt_ok (Bt.solveS_ok (lsysOf_ok he)) hlt
  have hN : blkN p s1.1 = b := blkN_get hb
  have hN2 : blkN p s2.1 = b := by rw [← h.b]; exact hN
  have hA : agree (varsOf p) (liveP b.2.2 (fun m => bitAt (Bt.aAt (lvA p) s1.1.toNat) m = true) b.2.1) s1.2.1 s2.2.1 := agree_sub h.e fun m v hv hl => by
    have := live_bits (vars_sorted p nil_sortedS) (vars_some2 p) (term_nil he hm) hx hv hl
    rw [lsys_tAt hb]
    exact this
  obtain ⟨hE, hB, hO⟩ := all_agree (inn := inn) b.2.1 hst hA h.b h.o
  have hr1 : runB p inn s1 = doAll p inn s1 b.2.1 := by rw [runB, hN]
  have hr2 : runB p inn s2 = doAll p inn s2 b.2.1 := by rw [runB, hN2]
  rw [hr1, hr2]
  have hb1 := (doAll_blk p inn b.2.1 s1).1
  have hb2 := (doAll_blk p inn b.2.1 s2).1
  generalize doAll p inn s1 b.2.1 = z1 at hE hB hO hb1
  generalize doAll p inn s2 b.2.1 = z2 at hE hB hO hb2
  have hM1 : blkN p z1.1 = b := by rw [hb1]; exact hN
  have hM2 : blkN p z2.1 = b := by rw [hb2]; exact hN2
  unfold folS
  rw [hM1, hM2]
  by_cases h3 : b.2.2.1 = 3
  · rw [if_pos h3, if_pos h3]
    exact ⟨rfl, hO, fun h => by cases h⟩
  · rw [if_neg h3, if_neg h3]
    have hg : goTo p z1 b.2.2 = goTo p z2 b.2.2 := by
      unfold goTo
      by_cases h2 : b.2.2.1 = 2
      · have ev : valA p z1.2.1 b.2.2.2.1 = valA p z2.2.1 b.2.2.2.1 := val_agree hE fun h0 m _ => .inl (by unfold firstS; rw [if_pos ⟨h2, rfl⟩])
        rw [ev]
      · rw [if_neg (fun h => h2 h.1), if_neg (fun h => h2 h.1)]
    refine ⟨rfl, hO, fun _ => ⟨by show bIdx p _ = bIdx p _; rw [hg], bIdx_range p _ (by omega), hO, ?_⟩⟩
    have hed := fol_edge he h.r.1 hb (s := z1) h3
    refine agree_sub hE fun m v hv hl => ?_
    have hbit := lsys_le he hed hl
    by_cases h5 : firstS v b.2.2 [] = 1
    · exact .inl h5
    · refine .inr ⟨?_, hbit⟩
      unfold firstS at h5 ⊢
      split
      · rename_i h6
        exact absurd (if_pos h6) h5
      · rfl
theorem lrel_it {p : Prog} (he : checkE p = 0) {inn : List Nm} {s1 s2 : StE} (h : LRel p s1 s2) : ∀ k, (itS p inn s1 k).1.length = (itS p inn s2 k).1.length ∧ (itS p inn s1 k).2.2 = (itS p inn s2 k).2.2 ∧ (itS p inn s1 k).2.1.2.2 = (itS p inn s2 k).2.1.2.2 ∧
    ((itS p inn s1 k).2.2 = true → LRel p (itS p inn s1 k).2.1 (itS p inn s2 k).2.1)
  | 0 => ⟨rfl, rfl, h.o, fun _ => h⟩
  | k + 1 => by
    have hi := lrel_it he (inn := inn) h k
    by_cases h1 : (itS p inn s1 k).2.2 = true
    · have h2 : (itS p inn s2 k).2.2 = true := hi.2.1 ▸ h1
      have hs := lrel_step he (inn := inn) (hi.2.2.2 h1)
      rw [itS_step h1, itS_step h2]
      refine ⟨?_, hs.1, hs.2.1, hs.2.2⟩
      simp only [List.length_append, List.length_singleton]
      rw [hi.1]
    · have h1 : (itS p inn s1 k).2.2 = false := by simpa using h1
      have h2 : (itS p inn s2 k).2.2 = false := hi.2.1 ▸ h1
      rw [itS_stop h1, itS_stop h2]
      exact hi
/-- A variable that isn't live at a block's end may be anything behind it. -/
theorem lrel_start {p : Prog} (he : checkE p = 0) {b : Int} (hb : 0 ≤ b ∧ b < (p.length : Nat)) {s : StE} (hed : (b, s.1) ∈ edgesOf p) (hs : goodS p s) {i : Nat} {v : Bs8} (hv : (varsOf p)[i]? = some v) (hl : isLive p b v = false) (n : Nm) :
    LRel p s (s.1, s.2.1.set i n, s.2.2) := by
  refine ⟨rfl, hs.1, rfl, hs.2.1, by rw [List.length_set]; exact hs.2.1, fun m w hm hbit => ?_⟩
  have hbit2 := lsys_le he hed hbit
  show s.2.1[m]? = (s.2.1.set i n)[m]?
  rw [List.getElem?_set]
  by_cases e : i = m
  · exfalso
    subst e
    have hlt : b.toNat < p.length := by omega
    have hA : (lvA p)[b.toNat]? = some (Bt.aAt (lvA p) b.toNat) := Bt.aAt_get (Bt.solveS_ok (lsysOf_ok he)) hlt
    have hO : (liveO p)[b.toNat]? = some (namesB (varsOf p) (Bt.aAt (lvA p) b.toNat)) := by
      show ((lvA p).map (namesB (varsOf p)))[b.toNat]? = _
      rw [List.getElem?_map, hA]; rfl
    have : isLive p b v = true := by
      unfold isLive
      rw [hO, decide_eq_true he, decide_eq_true hb.1]
      refine (Bool.and_eq_true _ _).mpr ⟨rfl, decide_eq_true ?_⟩
      show v ∈ nmsAt (varsOf p) (numB (Bt.aAt (lvA p) b.toNat))
      refine List.mem_map.2 ⟨(i : Int), (allL_has _ 0 i).2 ⟨by omega, by simpa using hbit2⟩, ?_⟩
      rw [Int.toNat_natCast, hv]; rfl
    rw [this] at hl
    cases hl
  · rw [if_neg e]
end Go.Proofs
end
section
namespace Go.Proofs
open Go.Sy
set_option maxRecDepth 20000
set_option maxHeartbeats 4000000
end Go.Proofs
end
section
namespace Go.Proofs
open Go.Sy
set_option maxRecDepth 20000
set_option maxHeartbeats 4000000
/-! soughref38: names, Sets, Lists. -/
end Go.Proofs
end
section
namespace Go.Proofs
open Go.Sy
set_option maxRecDepth 20000
set_option maxHeartbeats 4000000
/-! Lists of names that are one; two systems that are alike; the example of live. -/
namespace Bt
end Bt
def stLi : Stmt := (2, ⟨[120]⟩, 0, (⟨[]⟩, 0, 0), (⟨[]⟩, 0, 0))
def stLo : Stmt := (3, ⟨[]⟩, 0, (⟨[120]⟩, 0, 0), (⟨[]⟩, 0, 0))
def blLa : Block := (⟨[97]⟩, [stLi], (1, za, ⟨[98]⟩, ⟨[]⟩))
def blLb : Block := (⟨[98]⟩, [stLo], (3, za, ⟨[]⟩, ⟨[]⟩))
def progL : Prog := [blLa, blLb]
theorem live_L0 : isLive progL 0 [120] = true := by decide +kernel
theorem live_L1 : isLive progL 1 [120] = false := by decide +kernel
theorem zero_RL : i64R 0 := ⟨by decide, by decide⟩
theorem stLi_R : stmtR stLi := ⟨⟨by decide, by decide⟩, Nat.le_of_lt_succ (by decide), zero_RL, ⟨Nat.zero_le _, zero_RL, zero_RL⟩, ⟨Nat.zero_le _, zero_RL, zero_RL⟩⟩
theorem stLo_R : stmtR stLo := ⟨⟨by decide, by decide⟩, Nat.zero_le _, zero_RL, ⟨Nat.le_of_lt_succ (by decide), zero_RL, zero_RL⟩, ⟨Nat.zero_le _, zero_RL, zero_RL⟩⟩
theorem stmt_mk2 {H : Hp} {s : Stmt} (h : stmtR s) : Enc.R H (.int .i64 s.1 :: .string (bs s.2.1.l) :: .int .i64 s.2.2.1 :: (atmV s.2.2.2.1 ++ atmV s.2.2.2.2)) s :=
  ⟨[.int .i64 s.1], _, rfl, ⟨rfl, h.1⟩, [.string (bs s.2.1.l)], _, rfl, ⟨rfl, h.2.1⟩, [.int .i64 s.2.2.1], atmV s.2.2.2.1 ++ atmV s.2.2.2.2, rfl, ⟨rfl, h.2.2.1⟩, atmV s.2.2.2.1, atmV s.2.2.2.2, rfl, atm_mk h.2.2.2.1, atm_mk h.2.2.2.2⟩
theorem awake38_spec {H : Hp} {K : Value → Hp → Prop} (hT : TabH H) (hK : ∀ H', Le H H' → K (.bool true) H') : Does Tryz.prog 37 [] H K := by
  refine spec_of cx_ok cx_mix rfl Tryz.func37 Tryz.call37 Tryz.ntmps37 Tryz.results37 rfl rfl ?_
  intro x H1 hle1 hx
  refine of_row_k (α := Stmt) hx (show RC (α := Stmt) H1 _ [stLi] from RC.nil.snoc (stmt_mk2 stLi_R)) fun sa sn sc ex hr1 => ?_
  subst ex
  intro x2 H2 hle2 hx2
  refine of_row_k (α := Stmt) hx2 (show RC (α := Stmt) H2 _ [stLo] from RC.nil.snoc (stmt_mk2 stLo_R)) fun sb sm sd ex2 hr2 => ?_
  subst ex2
  intro y H3 hle3 hy
  have h23 := hle2.le.trans hle3.le
  refine of_row_k (α := Block) hy (show RC (α := Block) H3 _ progL from (RC.nil.snoc (block_mk (b := blLa) (hr1.up h23) (Nat.le_of_lt_succ (by decide)) ⟨⟨by decide, by decide⟩, za_R, Nat.le_of_lt_succ (by decide), Nat.zero_le _⟩)).snoc (block_mk (b := blLb) (hr2.up hle3.le) (Nat.le_of_lt_succ (by decide)) ⟨⟨by decide, by decide⟩, za_R, Nat.zero_le _, Nat.zero_le _⟩)) fun a n c ey hr => ?_
  subst ey
  have hle := hle1.le.trans h23
  refine lis_spec (p := progL) (i := 0) (v := [120]) (by decide) (by decide) (by decide) (by decide) hr (hT.up hle) fun H4 hle4 => ?_
  rw [live_L0]
  refine ⟨fun _ => ?_, (fun h => by cases h)⟩
  intro y H3 hle3 hy
  have h23 := hle2.le.trans hle3.le
  refine of_row_k (α := Block) hy (show RC (α := Block) H3 _ progL from (RC.nil.snoc (block_mk (b := blLa) (hr1.up h23) (Nat.le_of_lt_succ (by decide)) ⟨⟨by decide, by decide⟩, za_R, Nat.le_of_lt_succ (by decide), Nat.zero_le _⟩)).snoc (block_mk (b := blLb) (hr2.up hle3.le) (Nat.le_of_lt_succ (by decide)) ⟨⟨by decide, by decide⟩, za_R, Nat.zero_le _, Nat.zero_le _⟩)) fun a n c ey hr => ?_
  subst ey
  have hle := hle1.le.trans h23
  refine lis_spec (p := progL) (i := 1) (v := [120]) (by decide) (by decide) (by decide) (by decide) hr (hT.up hle) fun H5 hle5 => ?_
  rw [live_L1]
  exact hK _ (hle1.le.trans hle2.le)
end Go.Proofs
end
section
namespace Go.Proofs
open Go.Sy
set_option maxRecDepth 20000
set_option maxHeartbeats 4000000
/-! LiveSystems, LiveSets. -/
end Go.Proofs
end
section
namespace Go.Proofs
open Go.Sy
set_option maxRecDepth 20000
set_option maxHeartbeats 4000000
/-! LiveRuns. -/
theorem nums2_spec {l : List Nm} {a a2 : Option Addr} {n c n2 c2 : Nat} {H : Hp} {K : Value → Hp → Prop} (ha : RL H a n c l) (hb : RL H a2 n2 c2 l) (hK : K (.bool true) H) : Does Tryz.prog 51 [.slice a n c, .slice a2 n2 c2] H K := by
  have hn := ha.n_eq
  have hn2 := hb.n_eq
  have hmx := ha.le
  refine spec_of cx_ok cx_mix rfl Tryz.func51 Tryz.call51 Tryz.ntmps51 Tryz.results51 rfl rfl ?_
  refine ⟨fun h => absurd (show (n : Int) = n2 by omega) (nt h), fun _ => ?_⟩
  refine ⟨Nat, fun i => ⟨[(0, .v (.slice a n c)), (1, .v (.slice a2 n2 c2)), (12, .v (.int .i64 n)), (13, .v (.int .i64 i))], [], 0⟩, fun i H' => H' = H ∧ i ≤ l.length, fun i => l.length - i, ⟨0, [], ?_, rfl, Nat.zero_le _⟩, ?_⟩
  · (repeat' (first | exact trivial | refine ⟨?_, ?_⟩ | exact rfl | assumption))
  rintro i H1 _ ⟨rfl, hi⟩
  refine ⟨fun h => ?_, fun h => ?_⟩
  · have hlt : i < l.length := by have := dt h; omega
    have hx := List.getElem?_eq_getElem hlt
    refine edge_k ha hx fun ad q1 hh => ?_
    refine edge_k hb hx fun ad2 q2 hh2 => ?_
    refine ⟨some ([], [0, 1, 2, 3, 4, 5, 6, 7, 8]), by kernel_rfl, ?_⟩
    refine ⟨ad, ⟨by omega, by omega, q1⟩, ?_⟩
    refine ⟨_, hh, ?_⟩
    refine ⟨ad2, ⟨by omega, by omega, q2⟩, ?_⟩
    refine ⟨_, hh2, ?_⟩
    refine ⟨fun h => by simp at h, fun _ => ?_⟩
    refine ⟨⟨by omega, by omega⟩, i + 1, [], ?_, ⟨rfl, hlt⟩, by dsimp only; omega⟩
    (repeat' (first | exact trivial | refine ⟨?_, ?_⟩ | exact rfl | assumption))
  · exact hK
theorem fol_goes {p : Prog} (he : checkE p = 0) {s : StE} (hs : goodS p s) (hg : (folS p s).2 = true) : (s.1, (folS p s).1.1) ∈ edgesOf p := by
  obtain ⟨b, hb, hN, hm⟩ := blkN_mem hs
  unfold folS at hg ⊢
  rw [hN] at hg ⊢
  by_cases h3 : b.2.2.1 = 3
  · rw [if_pos h3] at hg; cases hg
  · rw [if_neg h3]
    exact fol_edge he hs.1.1 hb h3
theorem LiveRuns_spec {p : Prog} {inn : List Nm} {nn : Nm} {a ai : Option Addr} {n c ni ci : Nat} {H : Hp} {K : Value → Hp → Prop} (ha : RL H a n c p) (hI : RL H ai ni ci inn) {most at' which : Int} (h1 : 0 ≤ most ∧ most ≤ 255) (h2 : 0 ≤ at' ∧ at' ≤ 255) (h3 : 0 ≤ which ∧ which ≤ 255) (hN : inI nn.1 ∧ inI nn.2)
    (hT : TabH H) (hK : ∀ H', Le H H' → K (.bool true) H') : Does Tryz.prog 11 [.agg #[.slice a n c], .slice ai ni ci, .int .u8 most, .int .u8 at', .int .u8 which, numV nn] H K := by
  have hn := ha.n_eq
  have hmx := ha.le
  have hni := hI.n_eq
  refine spec_of cx_ok cx_mix rfl Tryz.func11 Tryz.call11 Tryz.ntmps11 Tryz.results11 rfl rfl ?_
  refine awake38_spec hT fun _ _ => ?_
  refine ⟨(fun h => by cases h), fun _ => ?_⟩
  refine small4_spec ha fun t ht => ?_
  refine ⟨fun h => ?f0, fun h => ?t0⟩
  case t0 => exact hK _ (Le.refl H)
  have hb4 := ht (by simpa using h)
  have hp := hb4.1
  have hl : ∀ b ∈ p, b.2.1.length ≤ 100000 := fun b h => by have := (hb4.2 b h).1.1; omega
  have hc : stmtsN p ≤ 1000000 := small_stmts hb4
  have hv : cnt p < 400000 := small_cnt hb4
  refine ⟨fun h => ?g0, fun h => ?u0⟩
  case u0 => exact hK _ (Le.refl H)
  refine rcheck_spec ha hc hv fun _ _ => ?_
  refine ⟨fun h => ?t2, fun h => ?f2⟩
  case f2 => exact hK _ (Le.refl H)
  have he : checkE p = 0 := by simpa using h
  have hf := check_facts he
  refine rvars_spec ha hv fun av nv cv H1 hle1 hrv => ?_
  have hnv := hrv.n_eq
  rw [List.length_map] at hnv
  refine ⟨fun _ => hK _ hle1, fun h0 => ?_⟩
  have h0 : ¬ ((nv : Int) = 0) := df h0
  refine rvars_spec (ha.up hle1) hv fun bv mv dv H2 hle2 hrw => ?_
  have hmv := hrw.n_eq
  rw [List.length_map] at hmv
  refine ⟨⟨by omega, by omega⟩, ?_⟩
  refine ⟨fun h => absurd h (by omega), ?_⟩
  refine ⟨fun h => absurd h (by decide), ?_⟩
  have hmost : 0 ≤ most.tmod 30 ∧ most.tmod 30 < 30 := ⟨Int.tmod_nonneg _ h1.1, Int.tmod_lt_of_pos _ (by decide)⟩
  refine ⟨⟨by show _ ≤ most.tmod 30; omega, by show most.tmod 30 ≤ _; omega⟩, ?_⟩
  have h12 := hle1.trans hle2
  refine all_spec he hp hc hv (by omega) (ha.up h12) (hI.up h12) fun a1 n1 c1 a2 n2 c2 H3 hle3 hr1 hr2 => ?_
  have hn1 := hr1.n_eq
  have hm1 := hr1.le
  have h13 := h12.trans hle3
  refine ⟨fun _ => hK _ h13, fun hn0 => ?_⟩
  have hn0 : ¬ ((n1 : Int) = 0) := df hn0
  have hjr : 0 ≤ at'.tmod (n1 : Int) ∧ at'.tmod (n1 : Int) < (n1 : Int) := ⟨Int.tmod_nonneg _ h2.1, Int.tmod_lt_of_pos _ (by omega)⟩
  refine ⟨some ([3], [0, 1, 2, 3, 4, 5, 6, 7, 8, 9, 10, 11]), by kernel_rfl, ?_⟩
  refine ⟨⟨by omega, by omega⟩, ?_⟩
  refine ⟨fun h => absurd h hn0, ?_⟩
  refine name_k (at'.tmod (n1 : Int)).toNat fun j hj => ?_
  have hji : (j : Int) = at'.tmod (n1 : Int) := by omega
  have hgV := goodV2 he inn (most.tmod 30).toNat
  have hoV := visit_out he inn (k := (most.tmod 30).toNat) (by omega)
  have hst5 := stmts_512 he
  refine name_k (itS p inn (start0 p) (most.tmod 30).toNat).1 fun V hV => ?_
  rw [← hV] at hr1 hgV hoV hn1
  have hjl : j < V.length := by omega
  refine name_k V[j] fun s hse => ?_
  have hss : V[j]? = some s := by rw [hse]; exact List.getElem?_eq_getElem hjl
  have hgs := hgV s (List.mem_of_getElem? hss)
  have hos := hoV s (List.mem_of_getElem? hss)
  refine sta_k hr1 hss fun ad a5 n5 c5 a6 n6 c6 e1 hh hr5 hr6 => ?_
  rw [hji] at hh
  refine ⟨ad, ⟨hjr.1, hjr.2, e1⟩, ?_⟩
  refine ⟨_, hh, ?_⟩
  refine xblock_spec he hc hv hgs (by omega) (ha.up h13) hr5 hr6 (hI.up h13) fun a7 n7 c7 a8 n8 c8 H4 hle4 hr7 hr8 => ?_
  have h14 := h13.trans hle4
  have hgr := goodS_run (inn := inn) hgs
  have hor := out_run (inn := inn) hgs
  have hb1 : (runB p inn s).1 = s.1 := (doAll_blk p inn _ s).1
  rw [← hb1]
  refine xgo_spec (s := runB p inn s) he hp hc hv hgr (by omega) (ha.up h14) hr7 hr8 fun a9 n9 c9 b1 m1 k1 H5 hle5 hr9 hrA => ?_
  have h15 := h14.trans hle5
  refine ⟨some ([], [0, 1, 2, 3, 4, 5, 6, 7, 8, 9, 10, 11, 12, 13, 14, 15, 16, 17, 18, 19]), by kernel_rfl, ?_⟩
  refine ⟨fun _ => ?_, fun h => absurd rfl (nt h)⟩
  refine ⟨fun _ => ?_, fun h => absurd rfl (nt h)⟩
  refine ⟨fun hgo => ?_, fun hgo => ?_⟩
  case refine_2 =>
    refine ⟨fun _ => ?_, fun h => absurd rfl (df h)⟩
    exact kbool (hK _ h15) (by decide)
  have hgo : (folS p (runB p inn s)).2 = true := by simpa using hgo
  have hwr : 0 ≤ which.tmod (mv : Int) ∧ which.tmod (mv : Int) < (mv : Int) := ⟨Int.tmod_nonneg _ h3.1, Int.tmod_lt_of_pos _ (by omega)⟩
  refine name_k (which.tmod (mv : Int)).toNat fun w hw => ?_
  have hwi : (w : Int) = which.tmod (mv : Int) := by omega
  have hwl : w < (varsOf p).length := by omega
  refine name_k (varsOf p)[w] fun v hve => ?_
  have hvw : (varsOf p)[w]? = some v := by rw [hve]; exact List.getElem?_eq_getElem hwl
  refine str_k (hrw.up ((hle3.trans hle4).trans hle5)) hvw fun ad2 e2 hh2 _ => ?_
  rw [hwi] at hh2
  refine ⟨ad2, ⟨hwr.1, hwr.2, e2⟩, ?_⟩
  refine ⟨_, hh2, ?_⟩
  refine lis_spec hp hl hc hv (i := (runB p inn s).1) (v := v) (ha.up h15) (hT.up h15) fun _ _ => ?_
  refine ⟨fun _ => ?_, fun hlive => ?_⟩
  case refine_1 =>
    refine ⟨fun _ => ?_, fun h => absurd rfl (df h)⟩
    exact kbool (hK _ h15) (by decide)
  have hfo := fol_out p (runB p inn s)
  have hgx : goodS p (folS p (runB p inn s)).1 := goodS_step (inn := inn) hgs
  have hElen := hgx.2.1
  have hol : (folS p (runB p inn s)).1.2.2.2.length ≤ 100000 := by rw [hfo.1]; omega
  refine row_k hr9 fun css hrow hrc hcl => ?_
  have hcss : css = nRows (folS p (runB p inn s)).1.2.1 := nRows_of hrc
  subst hcss
  refine ⟨nRows (folS p (runB p inn s)).1.2.1, hrow, ?_⟩
  refine ⟨⟨by show (0 + (nRows (folS p (runB p inn s)).1.2.1).length) * 16 ≤ 140737488355328; omega, by show 0 + (nRows (folS p (runB p inn s)).1.2.1).length ≤ 9223372036854775807; omega⟩, ?_⟩
  refine name_k (folS p (runB p inn s)).1 fun x hxe => ?_
  have hxl : w < (folS p (runB p inn s)).1.2.1.length := by omega
  have hll : (nRows (folS p (runB p inn s)).1.2.1).length = (folS p (runB p inn s)).1.2.1.length := List.length_map _
  have hg : ([] ++ nRows (folS p (runB p inn s)).1.2.1)[(which.tmod (mv : Int)).toNat]? = some [.int .i64 ((folS p (runB p inn s)).1.2.1[w]).1, .int .i64 ((folS p (runB p inn s)).1.2.1[w]).2] := by rw [← hw, List.nil_append, List.getElem?_map, List.getElem?_eq_getElem hxl]; rfl
  have e : ([] ++ nRows (folS p (runB p inn s)).1.2.1).set (which.tmod (mv : Int)).toNat [.int .i64 nn.1, .int .i64 nn.2] = nRows ((folS p (runB p inn s)).1.2.1.set w nn) := by rw [← hw, List.nil_append]; exact List.map_set.symm
  refine ⟨⟨hwr.1, by show which.tmod (mv : Int) < (([] ++ nRows (folS p (runB p inn s)).1.2.1).length : Nat); rw [List.nil_append]; omega⟩, ?_⟩
  refine ⟨_, hg, ?_⟩
  refine from_spec he hp hc hv hgx hol (most := 30) (by decide) (ha.up h15) hr9 hrA (hI.up h15) fun d1 d2 d3 d4 d5 d6 H6 hle6 hrD hrO => ?_
  intro y H7 hle7 hy
  have hy : RowAt H7 y 2 (([] ++ nRows (folS p (runB p inn s)).1.2.1).set (which.tmod (mv : Int)).toNat [.int .i64 nn.1, .int .i64 nn.2]) := hy
  rw [e] at hy
  have hallE := nRL_all hr9
  refine of_row_k (α := Nm) hy (rc_eRows fun z hz => ?_) fun f1 f2 f3 ev hrY => ?_
  · rcases List.mem_or_eq_of_mem_set hz with hz | hz
    · exact hallE z hz
    · rw [hz]; exact hN
  subst ev
  have h67 := hle6.trans hle7.le
  have hgy : goodS p ((folS p (runB p inn s)).1.1, (folS p (runB p inn s)).1.2.1.set w nn, (folS p (runB p inn s)).1.2.2) := ⟨hgx.1, by show (List.set _ _ _).length = _; rw [List.length_set]; exact hgx.2.1, hgx.2.2⟩
  have hrel := lrel_start he hgr.1 (fol_goes he hgr hgo) hgx hvw (by simpa using hlive) nn
  obtain ⟨g1, g2, g3, _⟩ := lrel_it he (inn := inn) hrel (30 : Int).toNat
  have h57 := h15.trans h67
  refine from_spec he hp hc hv hgy hol (most := 30) (by decide) (ha.up h57) hrY (hrA.up h67) (hI.up h57) fun t1 t2 t3 t4 t5 t6 H8 hle8 hrT hrU => ?_
  have hnD := hrD.n_eq
  have hnT := hrT.n_eq
  have hmD := hrD.le
  rw [← g1] at hnT
  rw [← g3] at hrU
  rw [← g2]
  refine nums2_spec (hrO.up (hle7.le.trans hle8)) hrU ?_
  refine ⟨fun _ => ?_, fun h => by cases h⟩
  refine ⟨fun _ => ?_, fun h => by simp at h⟩
  exact kbool (hK _ (h57.trans hle8)) (decide_eq_true (show (d2 : Int) = (t2 : Int) by omega)).symm
end Go.Proofs
end
