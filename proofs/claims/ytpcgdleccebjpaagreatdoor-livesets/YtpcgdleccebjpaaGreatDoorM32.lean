/- Part 'M32' of the proof (It4, Lv6, Lv7, Lv8, Lv9, Lv10, Lv11, Lv12, Lv13): lemmas, each with its own conditions in its own statement. -/
import Derived.Test.YtpcgdleccebjpaaGreatDoorM27
import Derived.Test.YtpcgdleccebjpaaGreatDoorM29
import Derived.Test.YtpcgdleccebjpaaGreatDoorM30
import Derived.Test.YtpcgdleccebjpaaGreatDoorM31
section
namespace Go.Proofs
open Go.RowKit Go.Shelf Go.Sy
set_option maxRecDepth 20000
/-- The table that TrailingZeros64 reads, as it lies. -/
def TabH (H : Hp) : Prop := ∃ cells T fr, H 0 = some (.cells cells T fr) ∧ ∀ j, j < 64 → cells[j]? = some (.int .u8 (Lib.deBruijn64tab.getD j 0))
theorem TabH.up {H H' : Hp} (h : TabH H) (hle : Le H H') : TabH H' := by
  obtain ⟨c, T, fr, h1, h2⟩ := h
  exact ⟨c, T, fr, hle _ _ h1, h2⟩
theorem allL_small : ∀ (l : List UInt64) (i : Nat), ∀ x ∈ allL l i, 0 ≤ x ∧ x < ((64 * (i + l.length) : Nat) : Int)
  | [], _, x, h => by cases h
  | w :: r, i, x, h => by
    rw [allL] at h
    rcases List.mem_append.1 h with h | h
    · obtain ⟨k, hk, rfl⟩ := List.mem_map.1 h
      have := List.mem_range.1 (List.mem_filter.1 hk).1
      rw [List.length_cons]
      omega
    · have := allL_small r (i + 1) x h
      rw [List.length_cons]
      omega
theorem list_spec {ws : List UInt64} (hw : ws.length ≤ 100000) {a : Option Addr} {n c : Nat} {H : Hp} {K : Value → Hp → Prop} (ha : RL H a n c ws) (hT : TabH H) (hK : ∀ a1 n1 c1 H', Le H H' → RL H' a1 n1 c1 (allL ws 0) → K (.slice a1 n1 c1) H') : Does Tryz.prog 72 [.slice a n c] H K := by
  refine ⟨Tryz.call72, fun w hp => ?_⟩
  obtain ⟨tc, tT, tf, ht1, ht2⟩ := hT
  have hb0 := hp _ _ ht1
  have hs : 0 < w.heap.size := (Array.getElem?_eq_some_iff.1 hb0).1
  have hTw : TabAt 0 Lib.deBruijn64tab w := fun j hj => by
    have hj : j < 64 := hj
    have := ht2 j hj
    simp only [World.cell?, hb0]
    exact this
  have hA : WordsAt w a n ws w.heap.size := by
    refine ⟨ha.n_eq, ?_⟩
    obtain ⟨h1, h2, _, h4⟩ := ha
    rcases h4 with h4 | ⟨ad, e, hsp, cells, T, fr, hH, hcs, hx⟩
    · exact .inl (by omega)
    · obtain ⟨b, off, sp⟩ := ad
      dsimp only at hsp hH hx hcs
      subst hsp
      have hb := hp _ _ hH
      refine .inr ⟨b, off, e, (Array.getElem?_eq_some_iff.1 hb).1, fun j hj => ?_⟩
      have hjl : j < ws.length := by omega
      obtain ⟨cs, h5, h6⟩ := hx j ws[j] (List.getElem?_eq_getElem hjl)
      have h5 : cs = [.int .u64 ws[j].toNat] := h5
      have h7 := h6 0 (by decide)
      rw [h5] at h7
      simp only [World.cell?, hb]
      rw [List.getElem?_eq_getElem hjl]
      have e1 : off + j * Enc.sz UInt64 + 0 = off + j := by show off + j * 1 + 0 = _; omega
      rw [e1] at h7
      exact h7
  have hlen := allL_len ws 0
  refine (callsIn_wide.1 (list_in a n c ws hw w hs ha.2.1 hTw hA)).mono ?_
  rintro e W' ⟨v, rfl, hown, hB⟩
  have hrowR : RC (α := Int) H (iRows (allL ws 0)) (allL ws 0) := rc_iRows fun x hx => by
    have := allL_small ws 0 x hx
    exact ⟨by omega, by omega⟩
  rcases hown.2 with ⟨rfl, hz⟩ | ⟨g, cap, cur, rfl, hg, hgb, h5, h6, h7, h8⟩
  · refine ⟨_, H, rfl, hK none 0 0 H (Le.refl H) ?_, Le.refl H, fun b o hb => ?_, fun b hb _ => hb, hB⟩
    · rw [List.eq_nil_of_length_eq_zero hz]; exact rl_nil
    · rw [hB.block b (Array.getElem?_eq_some_iff.1 (hp b o hb)).1]; exact hp b o hb
  · have hgn : H g = none := by
      cases hh : H g with
      | none => rfl
      | some o => have := (Array.getElem?_eq_some_iff.1 (hp g o hh)).1; omega
    obtain ⟨H', hH'⟩ : ∃ H' : Hp, H' = fun b => if b = g then some (.cells cur 3 (0, 0)) else H b := ⟨_, rfl⟩
    have hle : Le H H' := fun b o hb => by
      rw [hH']
      dsimp only
      rw [if_neg (fun e => by rw [e, hgn] at hb; cases hb)]
      exact hb
    refine ⟨_, H', rfl, ?_, hle, fun b o hb => ?_, fun b hb hlt => ?_, hB⟩
    · have hrow : RowAt H' (.slice (some ⟨g, 0, none⟩) (allL ws 0).length cap) 1 (iRows (allL ws 0)) := by
        refine ⟨some ⟨g, 0, none⟩, cap, by rw [List.length_map], ⟨by rw [List.length_map]; exact h5, by simp only [maxLen] at h6; omega⟩, iRows_one _, .inr ⟨⟨g, 0, none⟩, rfl, rfl, cur, 3, (0, 0), by rw [hH']; simp, by dsimp only; omega, fun i x hi j hj => ?_⟩⟩
        have hj0 : j = 0 := by omega
        subst hj0
        rw [List.getElem?_map] at hi
        obtain ⟨y, hy, rfl⟩ := Option.map_eq_some_iff.1 hi
        have hil := (List.getElem?_eq_some_iff.1 hy).1
        have h9 : (cur.toList.take ((allL ws 0).length * 1))[i]? = some (.int .i64 y) := by rw [h8, List.getElem?_map, hy]; rfl
        rw [List.getElem?_take, if_pos (by omega)] at h9
        have e : 0 + i * 1 + 0 = i := by omega
        rw [e, ← Array.getElem?_toList, h9]; rfl
      refine of_row_k (α := Int) hrow (hrowR.up hle) fun a1 n1 c1 ev hr => ?_
      rw [ev]
      exact hK _ _ _ _ hle hr
    · rw [hH'] at hb
      dsimp only at hb
      split at hb
      · rename_i e
        rw [e, hgb]; exact hb
      · rw [hB.block b (Array.getElem?_eq_some_iff.1 (hp b o hb)).1]; exact hp b o hb
    · rw [hH']
      dsimp only
      rw [if_neg (by omega)]
      exact hb
end Go.Proofs
end
section
namespace Go.Proofs
open Go.Sy
set_option maxRecDepth 20000
set_option maxHeartbeats 4000000
/-! The names of sets. -/
def nmsAt (V : List Bs8) (l : List Int) : List Bs8 := l.map fun n => V[n.toNat]?.getD []
def numB (x : Wd) : List Int := allL x 0
def namesB (V : List Bs8) (x : Wd) : List Bs8 := nmsAt V (numB x)
theorem allL_has : ∀ (l : Wd) (i : Nat) (m : Nat), ((m : Int) ∈ allL l i) ↔ (64 * i ≤ m ∧ bitAt l (m - 64 * i) = true)
  | [], i, m => by simp [allL, bitAt]
  | w :: r, i, m => by
    rw [allL, List.mem_append, allL_has r (i + 1) m]
    constructor
    · rintro (h | ⟨h1, h2⟩)
      · obtain ⟨k, hk, e⟩ := List.mem_map.1 h
        obtain ⟨h3, h4⟩ := List.mem_filter.1 hk
        have h3 := List.mem_range.1 h3
        have e : m = i * 64 + k := by omega
        refine ⟨by omega, ?_⟩
        rw [bitAt, show (m - 64 * i) / 64 = 0 by omega, show (m - 64 * i) % 64 = k by omega]
        simpa using h4
      · refine ⟨by omega, ?_⟩
        rw [bitAt] at h2 ⊢
        rw [show (m - 64 * i) / 64 = (m - 64 * (i + 1)) / 64 + 1 by omega, show (m - 64 * i) % 64 = (m - 64 * (i + 1)) % 64 by omega, List.getElem?_cons_succ]
        exact h2
    · rintro ⟨h1, h2⟩
      by_cases h3 : m - 64 * i < 64
      · left
        refine List.mem_map.2 ⟨m - 64 * i, List.mem_filter.2 ⟨List.mem_range.2 h3, ?_⟩, by omega⟩
        rw [bitAt, show (m - 64 * i) / 64 = 0 by omega, show (m - 64 * i) % 64 = m - 64 * i by omega] at h2
        simpa using h2
      · right
        refine ⟨by omega, ?_⟩
        rw [bitAt] at h2 ⊢
        rw [show (m - 64 * i) / 64 = (m - 64 * (i + 1)) / 64 + 1 by omega, show (m - 64 * i) % 64 = (m - 64 * (i + 1)) % 64 by omega, List.getElem?_cons_succ] at h2
        exact h2
theorem allL_nat : ∀ (l : Wd) (i : Nat), ∀ x ∈ allL l i, 0 ≤ x
  | [], _, x, h => by cases h
  | w :: r, i, x, h => by
    rw [allL] at h
    rcases List.mem_append.1 h with h | h
    · obtain ⟨k, _, rfl⟩ := List.mem_map.1 h; omega
    · exact allL_nat r (i + 1) x h
theorem num_in {w : Nat} {x : Wd} (hx : okB w x) : ∀ n ∈ numB x, 0 ≤ n ∧ n < (w : Int) := fun n hn => by
  have h0 := allL_nat x 0 n hn
  have h1 := (allL_has x 0 n.toNat).1 (by rw [Int.toNat_of_nonneg h0]; exact hn)
  refine ⟨h0, ?_⟩
  by_cases h : n < (w : Int)
  · exact h
  · have := hx.2 n.toNat (by omega)
    have h2 := h1.2
    rw [show n.toNat - 64 * 0 = n.toNat by omega, this] at h2
    cases h2
theorem nms_in {V : List Bs8} {x : Wd} (hx : okB V.length x) {i : Nat} {n : Int} (hi : (numB x)[i]? = some n) : V[n.toNat]? = some (V[n.toNat]?.getD []) := by
  have h := num_in hx n (List.mem_of_getElem? hi)
  have h2 : n.toNat < V.length := by omega
  rw [List.getElem?_eq_getElem h2]; rfl
theorem str_kI {P : Prop} {H : Hp} {a : Option Addr} {n c : Nat} {l : List Bs8} (h : RL H a n c (ens l)) {j : Int} (h0 : 0 ≤ j) {s : Bs8} (hi : l[j.toNat]? = some s) (k : ∀ ad, a = some ad → ElemH H ad j 1 [.string (bs s)] → s.length ≤ 9223372036854775807 → P) : P :=
  str_k h hi fun ad e1 e2 e3 => k ad e1 (by rw [Int.toNat_of_nonneg h0] at e2; exact e2) e3
theorem lnames_spec {V : List Bs8} (hV : V.length ≤ 64) {L : List Wd} (hL : ∀ x ∈ L, okB V.length x) (hLl : L.length ≤ 1000) {a a2 : Option Addr} {n c n2 k2 : Nat} {H : Hp} {K : Value → Hp → Prop} (ha : RL H a n c (ens V)) (hb : RL H a2 n2 k2 L) (hT : TabH H) (hK : ∀ a1 n1 c1 H', Le H H' → RL (α := List Str) H' a1 n1 c1 (L.map fun x => ens (namesB V x)) → K (.slice a1 n1 c1) H') :
    Does Tryz.prog 101 [.slice a n c, .slice a2 n2 k2] H K := by
  have hn1 := ha.n_eq
  rw [List.length_map] at hn1
  have hn2 := hb.n_eq
  have hsm := ens_small ha
  refine spec_of cx_ok cx_mix rfl Tryz.func101 Tryz.call101 Tryz.ntmps101 Tryz.results101 rfl rfl ?_
  refine ⟨Nat × List (List Value), fun q => ⟨[(0, .v (.slice a n c)), (5, .own 0), (11, .v (.slice a2 n2 k2)), (12, .v (.int .i64 n2)), (13, .v (.int .i64 q.1))], [(0, .row 79 1 q.2)], 1⟩,
    fun q H' => Le H H' ∧ q.1 ≤ L.length ∧ RC (α := List Str) H' q.2 ((L.take q.1).map fun x => ens (namesB V x)), fun q => L.length - q.1, ⟨(0, []), [], ?_, Le.refl H, Nat.zero_le _, RC.nil⟩, ?_⟩
  · (repeat' (first | exact trivial | refine ⟨?_, ?_⟩ | exact rfl | assumption))
  rintro ⟨i, css⟩ H1 _ ⟨hle1, hi, hrc⟩
  dsimp only at hi hrc
  have hcl : css.length = i := by have h1 := hrc.1; rw [List.length_map, List.length_take] at h1; omega
  refine ⟨fun h => ?_, fun h => ?_⟩
  · have hlt : i < L.length := by have := dt h; dsimp only at this; omega
    refine name_k L[i] fun x hx => ?_
    have hxx : L[i]? = some x := by rw [hx]; exact List.getElem?_eq_getElem hlt
    have hok := hL x (by rw [hx]; exact List.getElem_mem hlt)
    have hst : (L.take (i + 1)).map (fun x => ens (namesB V x)) = (L.take i).map (fun x => ens (namesB V x)) ++ [ens (namesB V x)] := by
      rw [List.take_add_one, hxx, Option.toList_some, List.map_append]; rfl
    refine list_k (hb.up hle1) hxx fun ad a5 n5 c5 q1 hh hr1 => ?_
    refine ⟨ad, ⟨by dsimp only; omega, by dsimp only; omega, q1⟩, ?_⟩
    refine ⟨_, hh, ?_⟩
    refine list_spec (by rw [hok.1, sizeB]; omega) hr1 (hT.up hle1) fun b1 b2 b3 H2 hle2 hr2 => ?_
    have hn3 := hr2.n_eq
    have hnl : (numB x).length ≤ 64 := by
      have h1 := allL_len x 0
      have h2 := hok.1
      unfold sizeB at h2
      have h3 : x.length ≤ 1 := by omega
      show (allL x 0).length ≤ 64
      omega
    refine ⟨Nat, fun j => ⟨[(0, .v (.slice a n c)), (5, .own 0), (8, .own 1), (11, .v (.slice a2 n2 k2)), (12, .v (.int .i64 n2)), (13, .v (.int .i64 i)), (18, .v (.slice b1 b2 b3)), (19, .v (.int .i64 b2)), (20, .v (.int .i64 j))], [(0, .row 79 1 css), (1, .row 9 1 (sRows (nmsAt V ((numB x).take j))))], 2⟩,
      fun j H' => H' = H2 ∧ j ≤ (numB x).length, fun j => (numB x).length - j, ⟨0, [(0, 0)], ?_, rfl, Nat.zero_le _⟩, ?_⟩
    · (repeat' (first | exact trivial | refine ⟨?_, ?_⟩ | exact rfl | assumption))
    rintro j H3 _ ⟨rfl, hj⟩
    have hrl : (sRows (nmsAt V ((numB x).take j))).length ≤ 64 := by rw [List.length_map, nmsAt, List.length_map, List.length_take]; omega
    refine ⟨fun h => ?_, fun h => ?_⟩
    · have hjl : j < (numB x).length := by have := dt h; show j < (allL x 0).length; omega
      refine name_k (numB x)[j] fun k hk => ?_
      have hkk : (numB x)[j]? = some k := by rw [hk]; exact List.getElem?_eq_getElem hjl
      have hkin := num_in hok k (List.mem_of_getElem? hkk)
      have hjl2 : j < b2 := by rw [hn3]; exact hjl
      have e : sRows (nmsAt V ((numB x).take j)) ++ [[.string (bs (V[k.toNat]?.getD []))]] = sRows (nmsAt V ((numB x).take (j + 1))) := by
        rw [nmsAt, nmsAt, List.take_add_one, hkk, Option.toList_some, List.map_append, List.map_cons, List.map_nil, sRows_snoc]
      refine int_k hr2 hkk fun ad e1 hh => ?_
      refine ⟨ad, ⟨by omega, by omega, e1⟩, ?_⟩
      refine ⟨_, hh, ?_⟩
      refine str_kI (ha.up (hle1.trans hle2)) hkin.1 (nms_in hok hkk) fun ad2 e2 hh2 hsz => ?_
      refine ⟨ad2, ⟨hkin.1, by omega, e2⟩, ?_⟩
      refine ⟨_, hh2, ?_⟩
      refine ⟨⟨by show (_ + 1) * 16 ≤ 140737488355328; omega, by show _ + 1 ≤ 9223372036854775807; omega⟩, ?_⟩
      refine ⟨⟨by omega, by omega⟩, j + 1, [(0, 0), (1, 3)], ?_, ⟨rfl, hjl⟩, by dsimp only; omega⟩
      (repeat' (first | exact trivial | refine ⟨?_, ?_⟩ | exact rfl | assumption))
    · have hjl : j = (numB x).length := by have := df h; show j = (allL x 0).length; have hj2 : j ≤ (allL x 0).length := hj; omega
      rw [hjl, List.take_length]
      intro v H6 hle6 hv6
      have hsb : ∀ s ∈ nmsAt V (numB x), s.length ≤ 9223372036854775807 := fun s hs => by
        obtain ⟨k, hk, rfl⟩ := List.mem_map.1 hs
        obtain ⟨i2, hi2⟩ := List.getElem?_of_mem hk
        exact hsm _ (List.mem_of_getElem? (nms_in hok hi2))
      obtain ⟨a7, n7, c7, rfl, hr7⟩ := RL.of_row (α := Str) hv6 (rc_sRows hsb)
      refine ⟨⟨by show (css.length + 1) * 24 ≤ 140737488355328; omega, by show css.length + 1 ≤ 9223372036854775807; omega⟩, ?_⟩
      have hrc2 : RC (α := List Str) H6 (css ++ [[.slice a7 n7 c7]]) ((L.take (i + 1)).map fun x => ens (namesB V x)) := by
        rw [hst]
        exact RC.snoc (RC.up hrc (hle2.trans hle6.le)) (show Enc.R (α := List Str) H6 [.slice a7 n7 c7] (ens (namesB V x)) from ⟨a7, n7, c7, rfl, hr7⟩)
      refine ⟨⟨by omega, by omega⟩, (i + 1, css ++ [[.slice a7 n7 c7]]), [(0, 3)], ?_, ⟨(hle1.trans hle2).trans hle6.le, hlt, hrc2⟩, by dsimp only; omega⟩
      (repeat' (first | exact trivial | refine ⟨?_, ?_⟩ | exact rfl | assumption))
  · have hil : i = L.length := by have := df h; dsimp only at this; omega
    rw [hil, List.take_length] at hrc
    intro v H6 hle6 hv6
    obtain ⟨a7, n7, c7, rfl, hr7⟩ := RL.of_row (α := List Str) hv6 (RC.up hrc hle6.le)
    exact hK _ _ _ _ (hle1.trans hle6.le) hr7
end Go.Proofs
end
section
namespace Go.Proofs
open Go.Sy
set_option maxRecDepth 20000
set_option maxHeartbeats 4000000
theorem idxP_lt {α : Type} (f : α → Bool) : ∀ (l : List α) (i : Nat), ∀ n ∈ idxP f l i, (i : Int) ≤ n ∧ n < ((i + l.length : Nat) : Int)
  | [], _, n, h => by simp [idxP] at h
  | x :: r, i, n, h => by
    have ih := idxP_lt f r (i + 1)
    rw [idxP] at h
    rw [List.length_cons]
    split at h
    · rcases List.mem_cons.1 h with rfl | h
      · omega
      · have := ih n h; omega
    · have := ih n h; omega
theorem lsysOf_ok {p : Prog} (h : checkE p = 0) : Bt.OkS (lsysOf p) := by
  have hf := check_facts h
  refine ⟨.inl rfl, ?_, ?_, ?_, ?_, ?_, ?_, ?_, ?_⟩
  · show (varsOf p).length ≤ 1024
    omega
  · show 1 ≤ p.length ∧ p.length ≤ 256
    omega
  · show (gSort (revL (gSort (edgesOf p)))).length ≤ 1024
    have h0 := gSort_len (revL (gSort (edgesOf p)))
    rw [List.length_map] at h0
    have h1 := gSort_len (edgesOf p)
    have h2 := eAll_len p p 0
    rw [edgesOf] at h1 h0 ⊢
    omega
  · intro e he
    have he : e ∈ revL (gSort (edgesOf p)) := (gSort_mem _ _).1 he
    obtain ⟨e', he', rfl⟩ := List.mem_map.1 he
    have he' : e' ∈ edgesOf p := (gSort_mem _ _).1 he'
    have h1 := eAll_lt p 0 e' he'
    show (0 ≤ e'.2 ∧ e'.2 < (p.length : Nat)) ∧ 0 ≤ e'.1 ∧ e'.1 < (p.length : Nat)
    omega
  · intro v hv
    have := idxP_lt isExit p 0 v hv
    show 0 ≤ v ∧ v < (p.length : Nat)
    omega
  · exact nilB_ok _
  · exact List.length_map _
  · intro t ht
    have ht : t ∈ p.map (trF (varsOf p)) := ht
    obtain ⟨b, hb, rfl⟩ := List.mem_map.1 ht
    exact trF_ok _ b
theorem louts_ok {p : Prog} (h : checkE p = 0) : ∀ x ∈ Bt.outsS (lsysOf p) (Bt.solveS (lsysOf p)), okB (varsOf p).length x := fun x hx => by
  have ho := lsysOf_ok h
  obtain ⟨v, hv, rfl⟩ := List.mem_map.1 hx
  exact Bt.bApp_ok (Bt.tAt_ok ho v).1 (Bt.tAt_ok ho v).2 (Bt.aAt_ok (Bt.solveS_ok ho) (List.mem_range.1 hv))
/-- What is live at the beginnings, and at the ends. -/
def liveI (p : Prog) : List (List Bs8) := (Bt.outsS (lsysOf p) (Bt.solveS (lsysOf p))).map (namesB (varsOf p))
def liveO (p : Prog) : List (List Bs8) := (Bt.solveS (lsysOf p)).map (namesB (varsOf p))
theorem lsets_spec {p : Prog} (hp : p.length ≤ 12) (hl : ∀ b ∈ p, b.2.1.length ≤ 100000) (hc : stmtsN p ≤ 1000000) (hv : cnt p < 400000) {a : Option Addr} {n c : Nat} {H : Hp} {K : Value → Hp → Prop} (ha : RL H a n c p) (hT : TabH H)
    (hbad : checkE p ≠ 0 → ∀ H', Le H H' → K (.tuple #[.slice none 0 0, .slice none 0 0, .int .i64 (checkE p)]) H')
    (hK : checkE p = 0 → ∀ a1 n1 c1 a2 n2 c2 H', Le H H' → RL (α := List Str) H' a1 n1 c1 ((liveI p).map ens) → RL (α := List Str) H' a2 n2 c2 ((liveO p).map ens) → K (.tuple #[.slice a1 n1 c1, .slice a2 n2 c2, .int .i64 0]) H') :
    Does Tryz.prog 43 [.agg #[.slice a n c]] H K := by
  have hn := ha.n_eq
  refine spec_of cx_ok cx_mix rfl Tryz.func43 Tryz.call43 Tryz.ntmps43 Tryz.results43 rfl rfl ?_
  refine lsys_spec hp hl hc hv ha (fun he H1 hle1 => ?_) (fun he z H1 hle1 hs => ?_)
  · refine ⟨fun _ => ?_, (fun h => absurd (nf h) he)⟩
    exact hbad he _ hle1
  · have ho := lsysOf_ok he
    have hA := Bt.solveS_ok ho
    refine ⟨fun h => absurd rfl (nt h), fun _ => ?_⟩
    refine Bt.lsolve_spec ho hs fun a1 n1 c1 k H2 hle2 hr2 => ?_
    refine Bt.louts_spec ho hA (hs.up hle2) hr2 fun a2 n2 c2 H3 hle3 hr3 => ?_
    have hle := (hle1.trans hle2).trans hle3
    refine pvars_spec (ha.up hle) hv fun av nv cv H4 hle4 hrv => ?_
    have hv64 := vars64 he
    have hle' := hle.trans hle4
    have hm : (Bt.solveS (lsysOf p)).length = p.length := hA.len
    refine lnames_spec (V := varsOf p) hv64 (louts_ok he) (by rw [Bt.outsS, List.length_map, List.length_range]; show p.length ≤ 1000; omega) hrv (hr3.up hle4) (hT.up hle') fun a5 n5 c5 H5 hle5 hr5 => ?_
    refine lnames_spec (V := varsOf p) hv64 (fun x hx => hA.ok x hx) (by omega) (hrv.up hle5) (hr2.up ((hle3.trans hle4).trans hle5)) (hT.up (hle'.trans hle5)) fun a6 n6 c6 H6 hle6 hr6 => ?_
    refine hK he _ _ _ _ _ _ H6 ((hle'.trans hle5).trans hle6) ?_ ?_
    · rw [liveI, List.map_map]; exact hr5.up hle6
    · rw [liveO, List.map_map]; exact hr6
theorem strs_k {P : Prop} {H : Hp} {a : Option Addr} {n c : Nat} {xs : List (List Str)} (h : RL H a n c xs) {i : Nat} {x : List Str} (hi : xs[i]? = some x) (k : ∀ ad a1 n1 c1, a = some ad → ElemH H ad (i : Int) 1 [.slice a1 n1 c1] → RL H a1 n1 c1 x → P) : P :=
  elem_k h hi fun ad cs h1 h2 h3 => by
    obtain ⟨a1, n1, c1, rfl, h4⟩ := h3
    exact k ad a1 n1 c1 h1 h2 h4
def isLive (p : Prog) (i : Int) (v : Bs8) : Bool := decide (checkE p = 0) && decide (0 ≤ i) && decide (v ∈ (liveO p)[i.toNat]?.getD [])
theorem lis_spec {p : Prog} (hp : p.length ≤ 12) (hl : ∀ b ∈ p, b.2.1.length ≤ 100000) (hc : stmtsN p ≤ 1000000) (hv : cnt p < 400000) {i : Int} {v : Bs8} {a : Option Addr} {n c : Nat} {H : Hp} {K : Value → Hp → Prop} (ha : RL H a n c p) (hT : TabH H)
    (hK : ∀ H', Le H H' → K (.bool (isLive p i v)) H') :
    Does Tryz.prog 44 [.agg #[.slice a n c], .int .i64 i, .string (bs v)] H K := by
  refine spec_of cx_ok cx_mix rfl Tryz.func44 Tryz.call44 Tryz.ntmps44 Tryz.results44 rfl rfl ?_
  refine lsets_spec hp hl hc hv ha hT (fun he H1 hle1 => ?_) (fun he a1 n1 c1 a2 n2 c2 H1 hle1 hr1 hr2 => ?_)
  · have e : isLive p i v = false := by rw [isLive, decide_eq_false he]; rfl
    rw [e] at hK
    refine ⟨(fun h => absurd (dt h) he), fun _ => ?_⟩
    exact hK _ hle1
  · have hn2 := hr2.n_eq
    rw [List.length_map] at hn2
    refine ⟨fun _ => ?_, (fun h => absurd rfl (df h))⟩
    refine ⟨fun h => ?_, fun h => ?_⟩
    · have h0 : 0 ≤ i := dt h
      refine ⟨fun h => ?_, fun h => ?_⟩
      · have h1 : i < (n2 : Int) := dt h
        have hlt : i.toNat < (liveO p).length := by omega
        have hg : ((liveO p).map ens)[i.toNat]? = some (ens (liveO p)[i.toNat]) := by rw [List.getElem?_map, List.getElem?_eq_getElem hlt]; rfl
        have e : isLive p i v = decide (v ∈ (liveO p)[i.toNat]) := by
          rw [isLive, decide_eq_true he, decide_eq_true h0, List.getElem?_eq_getElem hlt]; rfl
        rw [e] at hK
        refine strs_k hr2 hg fun ad a5 n5 c5 q1 hh hr5 => ?_
        rw [Int.toNat_of_nonneg h0] at hh
        refine ⟨ad, ⟨h0, h1, q1⟩, ?_⟩
        refine ⟨_, hh, ?_⟩
        refine contains_spec hr5 ?_
        exact hK _ hle1
      · have h1 : ¬ i < (n2 : Int) := df h
        have e : isLive p i v = false := by
          rw [isLive, List.getElem?_eq_none (by omega)]
          simp
        rw [e] at hK
        exact hK _ hle1
    · have h0 : ¬ 0 ≤ i := df h
      have e : isLive p i v = false := by rw [isLive, decide_eq_false h0]; simp
      rw [e] at hK
      exact hK _ hle1
end Go.Proofs
end
section
namespace Go.Proofs
open Go.Sy
set_option maxRecDepth 20000
set_option maxHeartbeats 4000000
/-! What is first done with a name in a block. -/
def firstS (v : Bs8) (t : Term) : List Stmt → Int
  | [] => if t.1 = 2 ∧ t.2.1.1.l = v then 1 else 0
  | s :: r => if v ∈ usesS s then 1 else if s.1 ≠ 3 ∧ s.2.1.l = v then 2 else firstS v t r
def genL (V : List Bs8) (b : Block) (i : Nat) : List Int := ((List.range i).filter fun k => decide (firstS (V[k]?.getD []) b.2.2 b.2.1 = 1)).map fun k : Nat => (k : Int)
def killK (V : List Bs8) (l : List Stmt) (k : Nat) : List Int := (l.filter fun x => decide (x.1 ≠ 3 ∧ x.2.1.l = V[k]?.getD [])).map fun _ => (k : Int)
def killL (V : List Bs8) (b : Block) (i : Nat) : List Int := (List.range i).flatMap (killK V b.2.1)
def rtrF (V : List Bs8) (b : Block) : Wd × Wd := (ofB V.length (genL V b V.length), ofB V.length (killL V b V.length))
theorem idxS_is {V : List Bs8} (hV : SortedS V) {m : Nat} {v : Bs8} (hm : V[m]? = some v) (t : Bs8) : idxS t V 0 = (m : Int) ↔ t = v := by
  have hnd : ∀ (i j : Nat) (x : Bs8), V[i]? = some x → V[j]? = some x → i = j := fun i j x hi hj => by
    obtain ⟨h1, rfl⟩ := List.getElem?_eq_some_iff.1 hi
    obtain ⟨h2, h3⟩ := List.getElem?_eq_some_iff.1 hj
    rcases Nat.lt_trichotomy i j with h | h | h
    · have := List.pairwise_iff_getElem.1 hV i j h1 h2 h
      rw [h3] at this
      exact absurd this (slt_irrefl _)
    · exact h
    · have := List.pairwise_iff_getElem.1 hV j i h2 h1 h
      rw [h3] at this
      exact absurd this (slt_irrefl _)
  constructor
  · intro h
    have hin : t ∈ V := idxS_some (Int.le_refl 0) (by omega)
    have h2 := (idxS_at t V 0 (Int.le_refl 0) hin).2.2
    rw [h, show ((m : Int) - 0).toNat = m by omega, hm] at h2
    exact (Option.some.inj h2).symm
  · rintro rfl
    have hin : t ∈ V := List.mem_of_getElem? hm
    have h1 := idxS_at t V 0 (Int.le_refl 0) hin
    have := hnd _ _ _ h1.2.2 hm
    omega
theorem bit_one1 {V : List Bs8} (hV : SortedS V) {m : Nat} {v : Bs8} (hm : V[m]? = some v) (t : Bs8) : bitAt (oneV V t) m = decide (t = v) := by
  have hlt := (List.getElem?_eq_some_iff.1 hm).1
  rw [oneV, bit_of]
  by_cases h : t = v
  · rw [decide_eq_true h]
    refine decide_eq_true ⟨hlt, ?_⟩
    rw [List.mem_singleton]
    exact ((idxS_is hV hm t).2 h).symm
  · rw [decide_eq_false h]
    refine decide_eq_false fun h2 => h ((idxS_is hV hm t).1 ?_)
    exact (List.mem_singleton.1 h2.2).symm
theorem bit_use {V : List Bs8} (hV : SortedS V) {m : Nat} {v : Bs8} (hm : V[m]? = some v) {k : Wd} (hk : okB V.length k) : ∀ (l : List Bs8) {g : Wd}, okB V.length g → bitAt (useF V k g l) m = (bitAt g m || (decide (v ∈ l) && !bitAt k m))
  | [], g, _ => by simp [useF]
  | t :: r, g, hg => by
    have hd := bDiff_ok (oneV_ok V t) hk
    have ih := bit_use hV hm hk r (g := bOr g (bDiff (oneV V t) k)) (bOr_ok hg hd)
    rw [show useF V k g (t :: r) = useF V k (bOr g (bDiff (oneV V t) k)) r from rfl, ih, bit_bOr (hg.1.trans hd.1.symm), bit_bDiff ((oneV_ok V t).1.trans hk.1.symm), bit_one1 hV hm]
    by_cases h1 : t = v
    · by_cases h2 : v ∈ r <;> cases bitAt g m <;> cases bitAt k m <;> simp [h1, h2]
    · have h3 : ¬ v = t := fun e => h1 e.symm
      by_cases h2 : v ∈ r <;> cases bitAt g m <;> cases bitAt k m <;> simp [h1, h2, h3]
theorem bit_trF {V : List Bs8} (hV : SortedS V) {m : Nat} {v : Bs8} (hm : V[m]? = some v) (hv : v ≠ []) {t : Term} (ht : t.1 ≠ 2 → t.2.1.1.l = []) : ∀ (l : List Stmt) {z : Wd × Wd}, okB V.length z.1 ∧ okB V.length z.2 →
    bitAt (useF V (l.foldl (stmF V) z).2 (l.foldl (stmF V) z).1 (nmsOf [t.2.1.1.l])) m = (bitAt z.1 m || (!bitAt z.2 m && decide (firstS v t l = 1))) ∧ bitAt (l.foldl (stmF V) z).2 m = (bitAt z.2 m || decide (∃ s ∈ l, s.1 ≠ 3 ∧ s.2.1.l = v))
  | [], z, hz => by
    refine ⟨?_, by simp⟩
    rw [List.foldl_nil, bit_use hV hm hz.2 _ hz.1]
    have e : decide (v ∈ nmsOf [t.2.1.1.l]) = decide (firstS v t [] = 1) := by
      rw [decide_eq_decide, nmsOf_mem, List.mem_singleton, firstS]
      constructor
      · rintro ⟨h1, h2⟩
        rw [if_pos]
        refine ⟨?_, h1.symm⟩
        by_cases h : t.1 = 2
        · exact h
        · rw [ht h] at h1; exact absurd h1 h2
      · intro h
        split at h
        · rename_i h2; exact ⟨h2.2.symm, hv⟩
        · cases h
    rw [e]
    cases bitAt z.1 m <;> cases bitAt z.2 m <;> simp
  | s :: r, z, hz => by
    have hz1 := stmF_ok hz s
    obtain ⟨h1, h2⟩ := bit_trF hV hm hv ht r (z := stmF V z s) hz1
    rw [List.foldl_cons]
    have e1 : bitAt (stmF V z s).1 m = (bitAt z.1 m || (decide (v ∈ usesS s) && !bitAt z.2 m)) := bit_use hV hm hz.2 _ hz.1
    have e2 : bitAt (stmF V z s).2 m = (bitAt z.2 m || decide (s.1 ≠ 3 ∧ s.2.1.l = v)) := by
      show bitAt (if s.1 = 3 then z.2 else bOr z.2 (oneV V s.2.1.l)) m = _
      split
      · rename_i h; simp [h]
      · rename_i h
        rw [bit_bOr (hz.2.1.trans (oneV_ok V _).1.symm), bit_one1 hV hm]
        simp [h]
    refine ⟨?_, ?_⟩
    · rw [h1, e1, e2, firstS]
      by_cases a1 : v ∈ usesS s <;> by_cases a2 : s.1 ≠ 3 ∧ s.2.1.l = v <;> cases bitAt z.1 m <;> cases bitAt z.2 m <;> simp [a1, a2]
    · rw [h2, e2, Bool.or_assoc]
      congr 1
      by_cases a2 : s.1 ≠ 3 ∧ s.2.1.l = v
      · simp [a2]
      · by_cases a3 : ∃ x ∈ r, x.1 ≠ 3 ∧ x.2.1.l = v <;> simp [a2, a3]
theorem trF_eq {V : List Bs8} (hV : SortedS V) (hne : ¬ [] ∈ V) {b : Block} (ht : b.2.2.1 ≠ 2 → b.2.2.2.1.1.l = []) : trF V b = rtrF V b := by
  have hok := trF_ok V b
  have key : ∀ m v, V[m]? = some v → _ := fun m v hm => bit_trF hV hm (fun e => hne (e ▸ List.mem_of_getElem? hm)) ht b.2.1 (z := (nilB V.length, nilB V.length)) ⟨nilB_ok _, nilB_ok _⟩
  have hg : ∀ k : Nat, (k : Int) ∈ genL V b V.length ↔ k < V.length ∧ firstS (V[k]?.getD []) b.2.2 b.2.1 = 1 := fun k => by
    rw [genL, List.mem_map]
    constructor
    · rintro ⟨j, hj, e⟩
      have : j = k := by omega
      subst this
      obtain ⟨h1, h2⟩ := List.mem_filter.1 hj
      exact ⟨List.mem_range.1 h1, dt h2⟩
    · rintro ⟨h1, h2⟩
      exact ⟨k, List.mem_filter.2 ⟨List.mem_range.2 h1, decide_eq_true h2⟩, rfl⟩
  have hk : ∀ k : Nat, (k : Int) ∈ killL V b V.length ↔ k < V.length ∧ ∃ s ∈ b.2.1, s.1 ≠ 3 ∧ s.2.1.l = V[k]?.getD [] := fun k => by
    rw [killL, List.mem_flatMap]
    constructor
    · rintro ⟨j, hj, h⟩
      obtain ⟨s, hs, e⟩ := List.mem_map.1 h
      have : j = k := by omega
      subst this
      obtain ⟨h1, h2⟩ := List.mem_filter.1 hs
      exact ⟨List.mem_range.1 hj, s, h1, dt h2⟩
    · rintro ⟨h1, s, hs, h2⟩
      exact ⟨k, List.mem_range.2 h1, List.mem_map.2 ⟨s, List.mem_filter.2 ⟨hs, decide_eq_true h2⟩, rfl⟩⟩
  refine Prod.ext ?_ ?_
  · refine bits_ext (by rw [hok.1.1]; exact (ofB_len _ _).symm) fun m => ?_
    show bitAt (trF V b).1 m = bitAt (ofB V.length (genL V b V.length)) m
    rw [bit_of]
    by_cases hm : m < V.length
    · have h := (key m V[m] (List.getElem?_eq_getElem hm)).1
      show bitAt (useF V _ _ _) m = _
      rw [h, nilB, bit_nil, Bool.false_or, Bool.not_false, Bool.true_and, decide_eq_decide, hg, List.getElem?_eq_getElem hm]
      simp [hm]
    · rw [hok.1.2 m (by omega)]
      exact (decide_eq_false fun h => hm h.1).symm
  · refine bits_ext (by rw [hok.2.1]; exact (ofB_len _ _).symm) fun m => ?_
    show bitAt (trF V b).2 m = bitAt (ofB V.length (killL V b V.length)) m
    rw [bit_of]
    by_cases hm : m < V.length
    · have h := (key m V[m] (List.getElem?_eq_getElem hm)).2
      show bitAt (b.2.1.foldl (stmF V) (nilB V.length, nilB V.length)).2 m = _
      rw [h, nilB, bit_nil, Bool.false_or, decide_eq_decide, hk, List.getElem?_eq_getElem hm]
      simp [hm]
    · rw [hok.2.2 m (by omega)]
      exact (decide_eq_false fun h => hm h.1).symm
end Go.Proofs
end
section
namespace Go.Proofs
open Go.Sy
set_option maxRecDepth 20000
set_option maxHeartbeats 4000000
/-! The document's equations of live. -/
theorem rhas38_spec {l : List Bs8} {s : Bs8} {a : Option Addr} {n c : Nat} {H : Hp} {K : Value → Hp → Prop} (ha : RL H a n c (ens l)) (hK : K (.bool (decide (s ∈ l))) H) : Does Tryz.prog 46 [.slice a n c, .string (bs s)] H K := by
  have hn1 := ha.n_eq
  rw [List.length_map] at hn1
  have hmx := ha.le
  refine spec_of cx_ok cx_mix rfl Tryz.func46 Tryz.call46 Tryz.ntmps46 Tryz.results46 rfl rfl ?_
  refine ⟨Nat, fun i => ⟨[(1, .v (.string (bs s))), (7, .v (.slice a n c)), (8, .v (.int .i64 n)), (9, .v (.int .i64 i))], [], 0⟩,
    fun i H' => H' = H ∧ i ≤ l.length ∧ ¬ s ∈ l.take i, fun i => l.length - i, ⟨0, [], ?_, rfl, Nat.zero_le _, by simp⟩, ?_⟩
  · (repeat' (first | exact trivial | refine ⟨?_, ?_⟩ | exact rfl | assumption))
  rintro i H1 _ ⟨rfl, hi, hx⟩
  refine ⟨fun h => ?_, fun h => ?_⟩
  · have hlt : i < l.length := by have := dt h; omega
    refine str_k ha (List.getElem?_eq_getElem hlt) fun ad e1 hh _ => ?_
    refine ⟨ad, ⟨by omega, by omega, e1⟩, ?_⟩
    refine ⟨_, hh, ?_⟩
    refine ⟨fun h => ?_, fun h => ?_⟩
    · have he : l[i] = s := dt h
      refine kbool hK (decide_eq_true ?_)
      rw [← he]; exact List.getElem_mem hlt
    · have he : ¬ l[i] = s := df h
      refine ⟨⟨by omega, by omega⟩, i + 1, [], ?_, ⟨rfl, hlt, fun hm => ?_⟩, by dsimp only; omega⟩
      · (repeat' (first | exact trivial | refine ⟨?_, ?_⟩ | exact rfl | assumption))
      · rw [List.take_add_one, List.getElem?_eq_getElem hlt, Option.toList_some, List.mem_append, List.mem_singleton] at hm
        rcases hm with hm | hm
        · exact hx hm
        · exact he hm.symm
  · have hil : i = l.length := by have := df h; omega
    rw [hil, List.take_length] at hx
    exact kbool hK (decide_eq_false hx)
theorem rfirst_spec {b : Block} (hb : b.2.1.length ≤ 100000) {v : Bs8} {la : Option Addr} {ln lc : Nat} {H : Hp} {K : Value → Hp → Prop} (hl : RL H la ln lc b.2.1) (hK : ∀ H', Le H H' → K (.int .i64 (firstS v b.2.2 b.2.1)) H') :
    Does Tryz.prog 100 [blkA (.slice la ln lc) b, .int .i64 0, .string (bs v)] H K := by
  have hln := hl.n_eq
  have hmx := hl.le
  have hcut := hl.cut (l := 0) (k := ln) (Nat.zero_le _) (Nat.le_refl _)
  rw [List.drop_zero, hln, List.take_length] at hcut
  rw [← hln] at hcut
  refine spec_of cx_ok cx_mix rfl Tryz.func100 Tryz.call100 Tryz.ntmps100 Tryz.results100 rfl rfl ?_
  refine ⟨⟨by omega, by omega, by have := hl.2.1; omega⟩, ?_⟩
  have hcut : RL H (cutA la 0 lc 9) (ln - 0) (lc - 0) b.2.1 := hcut
  have hcn := hcut.n_eq
  refine ⟨Nat, fun i => ⟨[(2, .v (.string (bs v))), (3, .ptr 0 0), (12, .v (.slice (cutA la 0 lc 9) (ln - 0) (lc - 0))), (13, .v (.int .i64 ((ln - 0 : Nat)))), (14, .v (.int .i64 i))], [(0, .cells 57 (vL (blkL (.slice la ln lc) b)))], 1⟩,
    fun i H' => Le H H' ∧ i ≤ b.2.1.length ∧ firstS v b.2.2 b.2.1 = firstS v b.2.2 (b.2.1.drop i), fun i => b.2.1.length - i, ⟨0, [(0, 0)], ?_, Le.refl H, Nat.zero_le _, rfl⟩, ?_⟩
  · (repeat' (first | exact trivial | refine ⟨?_, ?_⟩ | exact rfl | assumption))
  rintro i H1 _ ⟨hle, hi, hx⟩
  refine ⟨fun h => ?_, fun h => ?_⟩
  · have hlt : i < b.2.1.length := by have := dt h; omega
    refine name_k b.2.1[i] fun s hs => ?_
    have hss : b.2.1[i]? = some s := by rw [hs]; exact List.getElem?_eq_getElem hlt
    rw [List.drop_eq_getElem_cons hlt, ← hs, firstS] at hx
    refine stmt_k (hcut.up hle) hss fun ad e1 hh hsR => ?_
    refine ⟨ad, ⟨by omega, by omega, e1⟩, ?_⟩
    refine ⟨_, hh, ?_⟩
    refine ruses_spec hsR fun u1 u2 u3 H3 hle3 hu3 => ?_
    refine rhas38_spec hu3 ?_
    refine ⟨fun h => ?_, fun h => ?_⟩
    · have hm : v ∈ usesS s := dt h
      rw [if_pos hm] at hx
      rw [hx] at hK
      exact hK _ (hle.trans hle3)
    · have hm : ¬ v ∈ usesS s := df h
      rw [if_neg hm] at hx
      refine ⟨fun h => ?_, fun h => ?_⟩
      · have hk3 : ¬ s.1 = 3 := nt h
        refine ⟨fun h => ?_, fun h => ?_⟩
        · have he : s.2.1.l = v := dt h
          rw [if_pos ⟨hk3, he⟩] at hx
          rw [hx] at hK
          exact hK _ (hle.trans hle3)
        · have he : ¬ s.2.1.l = v := df h
          rw [if_neg (fun h => he h.2)] at hx
          refine ⟨⟨by omega, by omega⟩, i + 1, [(0, 0)], ?_, ⟨hle.trans hle3, hlt, hx⟩, by dsimp only; omega⟩
          (repeat' (first | exact trivial | refine ⟨?_, ?_⟩ | exact rfl | assumption))
      · have hk3 : s.1 = 3 := nf h
        rw [if_neg (fun h => h.1 hk3)] at hx
        refine ⟨⟨by omega, by omega⟩, i + 1, [(0, 0)], ?_, ⟨hle.trans hle3, hlt, hx⟩, by dsimp only; omega⟩
        (repeat' (first | exact trivial | refine ⟨?_, ?_⟩ | exact rfl | assumption))
  · have hil : i = b.2.1.length := by have := df h; omega
    rw [hil, List.drop_length, firstS] at hx
    refine ⟨fun h => ?_, fun h => ?_⟩
    · have hk2 : b.2.2.1 = 2 := dt h
      refine ⟨fun h => ?_, fun h => ?_⟩
      · have he : b.2.2.2.1.1.l = v := dt h
        rw [if_pos ⟨hk2, he⟩] at hx
        rw [hx] at hK
        exact hK _ hle
      · have he : ¬ b.2.2.2.1.1.l = v := df h
        rw [if_neg (fun h => he h.2)] at hx
        rw [hx] at hK
        exact hK _ hle
    · have hk2 : ¬ b.2.2.1 = 2 := df h
      rw [if_neg (fun h => hk2 h.1)] at hx
      rw [hx] at hK
      exact hK _ hle
end Go.Proofs
end
section
namespace Go.Proofs
open Go.Sy
set_option maxRecDepth 20000
set_option maxHeartbeats 4000000
theorem killL_succ (V : List Bs8) (b : Block) (i : Nat) : killL V b (i + 1) = killL V b i ++ killK V b.2.1 i := by
  rw [killL, List.range_succ, List.flatMap_append]; simp [killL]
theorem killK_len (V : List Bs8) (l : List Stmt) (k : Nat) : (killK V l k).length ≤ l.length := by
  rw [killK, List.length_map]; exact List.length_filter_le _ _
theorem killL_len (V : List Bs8) (b : Block) : ∀ i, (killL V b i).length ≤ i * b.2.1.length
  | 0 => by simp [killL]
  | i + 1 => by
    have h1 := killL_len V b i
    have h2 := killK_len V b.2.1 i
    rw [killL_succ, List.length_append, Nat.succ_mul]
    omega
theorem genL_len (V : List Bs8) (b : Block) (i : Nat) : (genL V b i).length ≤ i := by
  rw [genL, List.length_map]
  exact Nat.le_trans (List.length_filter_le _ _) (by rw [List.length_range]; exact Nat.le_refl _)
theorem genL_in (V : List Bs8) (b : Block) {i : Nat} (hi : i ≤ 1000) : ∀ x ∈ genL V b i, inI x := fun x hx => by
  obtain ⟨k, hk, rfl⟩ := List.mem_map.1 hx
  have := List.mem_range.1 (List.mem_filter.1 hk).1
  exact ⟨by omega, by omega⟩
theorem killL_in (V : List Bs8) (b : Block) {i : Nat} (hi : i ≤ 1000) : ∀ x ∈ killL V b i, inI x := fun x hx => by
  obtain ⟨k, hk, h⟩ := List.mem_flatMap.1 hx
  obtain ⟨_, _, rfl⟩ := List.mem_map.1 h
  have := List.mem_range.1 hk
  exact ⟨by omega, by omega⟩
theorem genL_succ (V : List Bs8) (b : Block) (i : Nat) : genL V b (i + 1) = genL V b i ++ (if firstS (V[i]?.getD []) b.2.2 b.2.1 = 1 then [(i : Int)] else []) := by
  rw [genL, List.range_succ, List.filter_append, List.map_append]
  by_cases h : firstS (V[i]?.getD []) b.2.2 b.2.1 = 1
  · simp [genL, h]
  · simp [genL, h]
theorem killK_take {V : List Bs8} {l : List Stmt} {j : Nat} {s : Stmt} (h : l[j]? = some s) (k : Nat) : killK V (l.take (j + 1)) k = killK V (l.take j) k ++ (if s.1 ≠ 3 ∧ s.2.1.l = V[k]?.getD [] then [(k : Int)] else []) := by
  rw [killK, List.take_add_one, h, Option.toList_some, List.filter_append, List.map_append]
  by_cases h2 : s.1 ≠ 3 ∧ s.2.1.l = V[k]?.getD []
  · simp only [List.filter_cons, decide_eq_true h2, if_pos h2]; rfl
  · simp only [List.filter_cons, decide_eq_false h2, if_neg h2]; rfl
theorem vars_some (p : Prog) : ¬ [] ∈ varsOf p := by
  have hB : ∀ (l : List Stmt) {o : List Bs8}, ¬ [] ∈ o → ¬ [] ∈ bVars o l := fun l => by
    induction l with
    | nil => exact fun h => h
    | cons s r ih => exact fun h => ih (putAll_some (sVars s) h)
  have : ∀ (q : Prog) {o : List Bs8}, ¬ [] ∈ o → ¬ [] ∈ q.foldl blkVars o := fun q => by
    induction q with
    | nil => exact fun h => h
    | cons b r ih => exact fun h => ih (putAll_some _ (hB b.2.1 h))
  exact this p (by simp)
theorem if_nil {p : Prog} (he : checkE p = 0) {b : Block} (hb : b ∈ p) : b.2.2.1 ≠ 2 → b.2.2.2.1.1.l = [] := fun h2 => by
  have hB := (check_facts he).2.2.2 b hb
  rw [blockB, Bool.and_eq_true, Bool.and_eq_true] at hB
  have ht := hB.1.2
  unfold termB at ht
  split at ht
  · simp only [Bool.and_eq_true, decide_eq_true_eq] at ht
    rw [ht.2.2]; rfl
  · split at ht
    · simp only [Bool.and_eq_true, decide_eq_true_eq] at ht
      rw [ht.2]; rfl
    · cases ht
theorem fam_k {α β : Type} {P : Prop} (f : α → β) (k : ∀ g : α → β, (∀ x, g x = f x) → P) : P := k f fun _ => rfl
theorem rlsys_spec {p : Prog} (he : checkE p = 0) (hp : p.length ≤ 12) (hl : ∀ b ∈ p, b.2.1.length ≤ 100000) (hv : cnt p < 400000) {a : Option Addr} {n c : Nat} {H : Hp} {K : Value → Hp → Prop} (ha : RL H a n c p)
    (hK : ∀ z H', Le H H' → Bt.SysR H' (lsysOf p) z → K (Bt.sysA (lsysOf p) z) H') : Does Tryz.prog 42 [.agg #[.slice a n c]] H K := by
  have hn := ha.n_eq
  have hmx := ha.le
  have hv64 := vars64 he
  refine spec_of cx_ok cx_mix rfl Tryz.func42 Tryz.call42 Tryz.ntmps42 Tryz.results42 rfl rfl ?_
  refine rvars_spec ha hv fun av nv cv H1 hle1 hrv => ?_
  have hnv := hrv.n_eq
  rw [List.length_map] at hnv
  subst hnv
  refine ⟨none, ?_⟩
  refine region_plan (α := (Option Addr × Nat × Nat) × (Option Addr × Nat × Nat)) ?_ ?_
    (.two 5 10 (.two 6 10 (.two 8 10 (.two 9 10 (.one [2] [0, 1, 2, 3, 4, 7, 5, 6, 8, 9, 10, 11]) (.one [2] [0, 1, 2, 3, 4, 7, 5, 6, 8, 10, 9, 11])) (.one [2] [0, 1, 2, 3, 4, 7, 5, 6, 10, 8, 9, 11])) (.one [2] [0, 1, 2, 3, 4, 7, 5, 10, 6, 8, 9, 11])) (.one [2] [0, 1, 2, 3, 4, 7, 10, 5, 6, 8, 9, 11]))
    (fun z => ⟨[(1, .ptr 0 0), (2, .ptr 1 0), (3, .v (.slice av (varsOf p).length cv)), (4, .v (.int .i64 ((varsOf p).length : Nat))), (5, .ptr 2 0)],
      [(0, .cells 24 [.v (.slice a n c)]), (1, .cells 32 (vL zSys)), (2, .cells 32 [.v (.int .i64 (1 : Nat)), .v (.int .i64 ((varsOf p).length : Nat)), .v (.int .i64 n), .v (.slice z.1.1 z.1.2.1 z.1.2.2), .v (.slice none 0 0), .v (.slice z.2.1 z.2.2.1 z.2.2.2), .v (.slice none 0 0)])], 3⟩)
    (fun z H' => Le H1 H' ∧ RL H' z.1.1 z.1.2.1 z.1.2.2 (gSort (revL (gSort (edgesOf p)))) ∧ RL H' z.2.1 z.2.2.1 z.2.2.2 (nilB (varsOf p).length)) (by kernel_rfl) ?_ ?_
  · exact ⟨cx_ok.tt, cx_ok.eqs⟩
  · exact cx_mix
  · refine ⟨?_, ?_⟩
    · refine ⟨?_, ?_⟩
      · refine ⟨?_, ?_⟩
        · refine ⟨?_, ?_⟩
          · refine redges_spec hp (ha.up hle1) fun e1 e2 e3 H2 hle2 hr2 => ?_
            refine rreverse_spec (edges_few hp) hr2 fun f1 f2 f3 H3 hle3 hr3 => ?_
            refine r10of_spec (w := (varsOf p).length) (l := []) (by omega) rl_nil fun w1 w2 w3 H5 hle5 hr5 => ?_
            exact ⟨((f1, f2, f3), (w1, w2, w3)), [(0, 0), (1, 1), (2, 2)], by (repeat' (first | exact trivial | refine ⟨?_, ?_⟩ | exact rfl | assumption)), (hle2.trans hle3).trans hle5, hr3.up hle5, hr5⟩
          · refine redges_spec hp (ha.up hle1) fun e1 e2 e3 H2 hle2 hr2 => ?_
            refine rreverse_spec (edges_few hp) hr2 fun f1 f2 f3 H3 hle3 hr3 => ?_
            refine r10of_spec (w := (varsOf p).length) (l := []) (by omega) rl_nil fun w1 w2 w3 H5 hle5 hr5 => ?_
            exact ⟨((f1, f2, f3), (w1, w2, w3)), [(0, 0), (1, 1), (2, 2)], by (repeat' (first | exact trivial | refine ⟨?_, ?_⟩ | exact rfl | assumption)), (hle2.trans hle3).trans hle5, hr3.up hle5, hr5⟩
        · refine redges_spec hp (ha.up hle1) fun e1 e2 e3 H2 hle2 hr2 => ?_
          refine rreverse_spec (edges_few hp) hr2 fun f1 f2 f3 H3 hle3 hr3 => ?_
          refine r10of_spec (w := (varsOf p).length) (l := []) (by omega) rl_nil fun w1 w2 w3 H5 hle5 hr5 => ?_
          exact ⟨((f1, f2, f3), (w1, w2, w3)), [(0, 0), (1, 1), (2, 2)], by (repeat' (first | exact trivial | refine ⟨?_, ?_⟩ | exact rfl | assumption)), (hle2.trans hle3).trans hle5, hr3.up hle5, hr5⟩
      · refine redges_spec hp (ha.up hle1) fun e1 e2 e3 H2 hle2 hr2 => ?_
        refine rreverse_spec (edges_few hp) hr2 fun f1 f2 f3 H3 hle3 hr3 => ?_
        refine r10of_spec (w := (varsOf p).length) (l := []) (by omega) rl_nil fun w1 w2 w3 H5 hle5 hr5 => ?_
        exact ⟨((f1, f2, f3), (w1, w2, w3)), [(0, 0), (1, 1), (2, 2)], by (repeat' (first | exact trivial | refine ⟨?_, ?_⟩ | exact rfl | assumption)), (hle2.trans hle3).trans hle5, hr3.up hle5, hr5⟩
    · refine redges_spec hp (ha.up hle1) fun e1 e2 e3 H2 hle2 hr2 => ?_
      refine rreverse_spec (edges_few hp) hr2 fun f1 f2 f3 H3 hle3 hr3 => ?_
      refine r10of_spec (w := (varsOf p).length) (l := []) (by omega) rl_nil fun w1 w2 w3 H5 hle5 hr5 => ?_
      exact ⟨((f1, f2, f3), (w1, w2, w3)), [(0, 0), (1, 1), (2, 2)], by (repeat' (first | exact trivial | refine ⟨?_, ?_⟩ | exact rfl | assumption)), (hle2.trans hle3).trans hle5, hr3.up hle5, hr5⟩
  rintro ⟨⟨ea, en, ec⟩, ⟨ia, ni, ic⟩⟩ H2 _ ⟨hle2, hze, hzi⟩
  dsimp only at hze hzi
  refine ⟨Nat × List (List Value), fun q => ⟨[(1, .ptr 0 0), (2, .ptr 1 0), (3, .v (.slice av (varsOf p).length cv)), (4, .v (.int .i64 ((varsOf p).length : Nat))), (5, .ptr 2 0), (29, .v (.slice a n c)), (30, .v (.int .i64 n)), (31, .v (.int .i64 q.1))],
      [(0, .cells 24 [.v (.slice a n c)]), (1, .cells 32 (vL zSys)), (2, .cells 32 [.v (.int .i64 (1 : Nat)), .v (.int .i64 ((varsOf p).length : Nat)), .v (.int .i64 n), .v (.slice ea en ec), .own 3, .v (.slice ia ni ic), .own 4]), (3, .row 3 1 (iRows (idxP isExit (p.take q.1) 0))), (4, .row 110 3 q.2)], 5⟩,
    fun q H' => Le H2 H' ∧ q.1 ≤ p.length ∧ RC (α := Bt.TrB) H' q.2 (((lsysOf p).T.map Bt.TrB.mk).take q.1), fun q => p.length - q.1, ⟨(0, []), [(0, 0), (1, 1), (2, 2)], ?_, Le.refl _, Nat.zero_le _, RC.nil⟩, ?_⟩
  · (repeat' (first | exact trivial | refine ⟨?_, ?_⟩ | exact rfl | assumption))
  rintro ⟨j, css⟩ H4 _ ⟨hle4, hj, hrc⟩
  dsimp only at hj hrc
  have hle : Le H H4 := (hle1.trans hle2).trans hle4
  have hTl : ((lsysOf p).T.map Bt.TrB.mk).length = p.length := by simp [lsysOf]
  have hcl : css.length = j := by have h1 := hrc.1; rw [List.length_take] at h1; omega
  refine ⟨fun h => ?_, fun h => ?_⟩
  · have hlt : j < p.length := by have := dt h; dsimp only at this; omega
    refine name_k p[j] fun b hbe => ?_
    have hbb : p[j]? = some b := by rw [hbe]; exact List.getElem?_eq_getElem hlt
    have hbl := hl b (by rw [hbe]; exact List.getElem_mem hlt)
    have htF : trF (varsOf p) b = rtrF (varsOf p) b := trF_eq (vars_sorted p nil_sortedS) (vars_some p) (if_nil he (List.mem_of_getElem? hbb))
    have hex := idxP_take isExit hlt
    have hexl := idxP_len isExit (p.take j) 0
    rw [List.length_take, Nat.min_eq_left (by omega)] at hexl
    have hel : (iRows (idxP isExit (p.take j) 0)).length = (idxP isExit (p.take j) 0).length := List.length_map _
    refine fam_k (fun k => iRows (genL (varsOf p) b k)) fun G hG => ?_
    refine fam_k (fun k => iRows (killL (varsOf p) b k)) fun KL hKL => ?_
    refine fam_k (fun k i => iRows (killL (varsOf p) b k ++ killK (varsOf p) (b.2.1.take i) k)) fun KK hKK => ?_
    have hKK : ∀ k i, KK k i = iRows (killL (varsOf p) b k ++ killK (varsOf p) (b.2.1.take i) k) := fun k i => congrFun (hKK k) i
    have g0 : G 0 = [] := by rw [hG]; rfl
    have l0 : KL 0 = [] := by rw [hKL]; rfl
    have hGl : ∀ k, (G k).length ≤ k := fun k => by rw [hG, List.length_map]; exact genL_len _ _ k
    have hG1 : ∀ k v, (varsOf p)[k]?.getD [] = v → firstS v b.2.2 b.2.1 = 1 → G k ++ [[.int .i64 (k : Nat)]] = G (k + 1) := fun k v hvv hf1 => by
      have hgs := genL_succ (varsOf p) b k
      rw [hvv, if_pos hf1] at hgs
      rw [hG, hG, hgs, iRows, iRows, List.map_append]; rfl
    have hG2 : ∀ k v, (varsOf p)[k]?.getD [] = v → ¬ firstS v b.2.2 b.2.1 = 1 → G k = G (k + 1) := fun k v hvv hf1 => by
      have hgs := genL_succ (varsOf p) b k
      rw [hvv, if_neg hf1, List.append_nil] at hgs
      rw [hG, hG, hgs]
    have hKK0 : ∀ k, KL k = KK k 0 := fun k => by rw [hKL, hKK]; simp [killK]
    have hKKl : ∀ k i, k ≤ 64 → i ≤ b.2.1.length → (KK k i).length ≤ 6500000 := fun k i hk hi => by
      have h1 := killL_len (varsOf p) b k
      have h2 := killK_len (varsOf p) (b.2.1.take i) k
      rw [List.length_take] at h2
      rw [hKK, List.length_map, List.length_append]
      have h3 : k * b.2.1.length ≤ 64 * 100000 := Nat.mul_le_mul hk hbl
      omega
    have hKK1 : ∀ (k i : Nat) (s : Stmt) (v : Bs8), b.2.1[i]? = some s → (varsOf p)[k]?.getD [] = v → ¬ s.1 = 3 → s.2.1.l = v → KK k i ++ [[.int .i64 (k : Nat)]] = KK k (i + 1) := fun k i s v hss hvv h3 h4 => by
      have hkt := killK_take (V := varsOf p) hss k
      rw [hvv, if_pos ⟨h3, h4⟩] at hkt
      rw [hKK, hKK, hkt, ← List.append_assoc, iRows, iRows, List.map_append (l₂ := [(k : Int)])]; rfl
    have hKK2 : ∀ (k i : Nat) (s : Stmt) (v : Bs8), b.2.1[i]? = some s → (varsOf p)[k]?.getD [] = v → ¬ (s.1 ≠ 3 ∧ s.2.1.l = v) → KK k i = KK k (i + 1) := fun k i s v hss hvv h3 => by
      have hkt := killK_take (V := varsOf p) hss k
      rw [hvv, if_neg h3, List.append_nil] at hkt
      rw [hKK, hKK, hkt]
    have hKKn : ∀ k, KK k b.2.1.length = KL (k + 1) := fun k => by rw [hKK, hKL, List.take_length, killL_succ]
    refine block_k (ha.up hle) hbb fun ad a5 n5 c5 q1 hh hr5 hs5 ht5 => ?_
    have hn5 : n5 = b.2.1.length := hr5.n_eq
    refine ⟨ad, ⟨by dsimp only; omega, by dsimp only; omega, q1⟩, ?_⟩
    refine ⟨_, hh, ?_⟩
    refine ⟨fun h => ?_, fun h => ?_⟩
    · have hx3 : isExit b = true := h
      rw [← hbe, hx3, if_pos rfl] at hex
      refine ⟨⟨by show ((iRows (idxP isExit (p.take j) 0)).length + 1) * 8 ≤ 140737488355328; omega, by show (iRows (idxP isExit (p.take j) 0)).length + 1 ≤ 9223372036854775807; omega⟩, ?_⟩
      have erow : iRows (idxP isExit (p.take j) 0) ++ [[.int .i64 (j : Int)]] = iRows (idxP isExit (p.take (j + 1)) 0) := by rw [hex]; simp
      refine ⟨Nat, fun k => ⟨[(1, .ptr 0 0), (2, .ptr 1 0), (3, .v (.slice av (varsOf p).length cv)), (4, .v (.int .i64 ((varsOf p).length : Nat))), (5, .ptr 2 0), (6, .v (.int .i64 j)), (7, .ptr 5 0), (8, .own 6), (9, .own 7), (29, .v (.slice a n c)), (30, .v (.int .i64 n)), (31, .v (.int .i64 j)), (46, .v (.slice av (varsOf p).length cv)), (47, .v (.int .i64 ((varsOf p).length : Nat))), (48, .v (.int .i64 k))],
          [(0, .cells 24 [.v (.slice a n c)]), (1, .cells 32 (vL zSys)), (2, .cells 32 [.v (.int .i64 (1 : Nat)), .v (.int .i64 ((varsOf p).length : Nat)), .v (.int .i64 n), .v (.slice ea en ec), .own 3, .v (.slice ia ni ic), .own 4]), (3, .row 3 1 (iRows (idxP isExit (p.take (j + 1)) 0))), (4, .row 110 3 css), (5, .cells 57 (vL (blkL (.slice a5 n5 c5) b))), (6, .row 3 1 (G k)), (7, .row 3 1 (KL k))], 8⟩,
        fun k H' => Le H4 H' ∧ k ≤ (varsOf p).length, fun k => (varsOf p).length - k, ⟨0, [(0, 0), (1, 1), (2, 2), (3, 7), (4, 4), (5, 5)], ?_, Le.refl H4, Nat.zero_le _⟩, ?_⟩
      · (repeat' (first | exact trivial | refine ⟨?_, ?_⟩ | exact rfl | assumption))
      rintro k H5 _ ⟨hle5, hkl⟩
      have hgl := hGl k
      refine ⟨fun h => ?_, fun h => ?_⟩
      · have hkl : k < (varsOf p).length := by have := dt h; omega
        refine name_k (varsOf p)[k] fun v hve => ?_
        have hvk : (varsOf p)[k]? = some v := by rw [hve]; exact List.getElem?_eq_getElem hkl
        have hvv : (varsOf p)[k]?.getD [] = v := by rw [hvk]; rfl
        have hle5' := (hle2.trans hle4).trans hle5
        refine str_k (hrv.up hle5') hvk fun ad2 q2 hh2 _ => ?_
        refine ⟨ad2, ⟨by omega, by omega, q2⟩, ?_⟩
        refine ⟨_, hh2, ?_⟩
        refine rfirst_spec (b := b) hbl (hr5.up hle5) fun H6 hle6 => ?_
        refine ⟨fun h => ?_, fun h => ?_⟩
        · have hf1 : firstS v b.2.2 b.2.1 = 1 := dt h
          have eg := hG1 k v hvv hf1
          refine ⟨⟨by show (_ + 1) * 8 ≤ 140737488355328; omega, by show _ + 1 ≤ 9223372036854775807; omega⟩, ?_⟩
          refine ⟨Nat, fun i => ⟨[(1, .ptr 0 0), (2, .ptr 1 0), (3, .v (.slice av (varsOf p).length cv)), (4, .v (.int .i64 ((varsOf p).length : Nat))), (5, .ptr 2 0), (6, .v (.int .i64 j)), (7, .ptr 5 0), (8, .own 6), (9, .own 7), (10, .v (.int .i64 k)), (11, .v (.string (bs v))), (29, .v (.slice a n c)), (30, .v (.int .i64 n)), (31, .v (.int .i64 j)), (46, .v (.slice av (varsOf p).length cv)), (47, .v (.int .i64 ((varsOf p).length : Nat))), (48, .v (.int .i64 k)), (62, .v (.slice a5 n5 c5)), (63, .v (.int .i64 n5)), (64, .v (.int .i64 i))],
              [(0, .cells 24 [.v (.slice a n c)]), (1, .cells 32 (vL zSys)), (2, .cells 32 [.v (.int .i64 (1 : Nat)), .v (.int .i64 ((varsOf p).length : Nat)), .v (.int .i64 n), .v (.slice ea en ec), .own 3, .v (.slice ia ni ic), .own 4]), (3, .row 3 1 (iRows (idxP isExit (p.take (j + 1)) 0))), (4, .row 110 3 css), (5, .cells 57 (vL (blkL (.slice a5 n5 c5) b))), (6, .row 3 1 (G (k + 1))), (7, .row 3 1 (KK k i))], 8⟩,
            fun i H' => H' = H5 ∧ i ≤ b.2.1.length, fun i => b.2.1.length - i, ⟨0, [(0, 0), (1, 1), (2, 2), (3, 3), (4, 4), (5, 5), (6, 9), (7, 7)], ?_, rfl, Nat.zero_le _⟩, ?_⟩
          · have e0 := hKK0 k
            (repeat' (first | exact trivial | refine ⟨?_, ?_⟩ | exact rfl | assumption))
          rintro i H7 _ ⟨rfl, hi⟩
          have hrl3 := hKKl k i (by omega) hi
          refine ⟨fun h => ?_, fun h => ?_⟩
          · have hil : i < b.2.1.length := by have := dt h; omega
            refine name_k b.2.1[i] fun s hs => ?_
            have hss : b.2.1[i]? = some s := by rw [hs]; exact List.getElem?_eq_getElem hil
            refine stmt_k (hr5.up hle5) hss fun ad3 q3 hh3 _ => ?_
            refine ⟨ad3, ⟨by omega, by omega, q3⟩, ?_⟩
            refine ⟨_, hh3, ?_⟩
            refine ⟨fun h => ?_, fun h => ?_⟩
            · have hk3 : ¬ s.1 = 3 := nt h
              refine ⟨fun h => ?_, fun h => ?_⟩
              · have hsv : s.2.1.l = v := dt h
                have e := hKK1 k i s v hss hvv hk3 hsv
                refine ⟨⟨by show (_ + 1) * 8 ≤ 140737488355328; omega, by show _ + 1 ≤ 9223372036854775807; omega⟩, ?_⟩
                refine ⟨⟨by omega, by omega⟩, i + 1, [(0, 0), (1, 1), (2, 2), (3, 3), (4, 4), (5, 5), (6, 6), (7, 10)], ?_, ⟨rfl, hil⟩, by dsimp only; omega⟩
                (repeat' (first | exact trivial | refine ⟨?_, ?_⟩ | exact rfl | assumption))
              · have hsv : ¬ s.2.1.l = v := df h
                have e := hKK2 k i s v hss hvv (fun h => hsv h.2)
                refine ⟨⟨by omega, by omega⟩, i + 1, [(0, 0), (1, 1), (2, 2), (3, 3), (4, 4), (5, 5), (6, 6), (7, 7)], ?_, ⟨rfl, hil⟩, by dsimp only; omega⟩
                (repeat' (first | exact trivial | refine ⟨?_, ?_⟩ | exact rfl | assumption))
            · have hk3 : s.1 = 3 := nf h
              have e := hKK2 k i s v hss hvv (fun h => h.1 hk3)
              refine ⟨⟨by omega, by omega⟩, i + 1, [(0, 0), (1, 1), (2, 2), (3, 3), (4, 4), (5, 5), (6, 6), (7, 7)], ?_, ⟨rfl, hil⟩, by dsimp only; omega⟩
              (repeat' (first | exact trivial | refine ⟨?_, ?_⟩ | exact rfl | assumption))
          · have hil : i = b.2.1.length := by have := df h; omega
            subst hil
            have e2 := hKKn k
            refine ⟨⟨by omega, by omega⟩, k + 1, [(0, 0), (1, 1), (2, 2), (3, 3), (4, 4), (5, 5), (6, 6), (7, 7)], ?_, ⟨hle5, hkl⟩, by dsimp only; omega⟩
            (repeat' (first | exact trivial | refine ⟨?_, ?_⟩ | exact rfl | assumption))
        · have hf1 : ¬ firstS v b.2.2 b.2.1 = 1 := df h
          have eg := hG2 k v hvv hf1
          refine ⟨Nat, fun i => ⟨[(1, .ptr 0 0), (2, .ptr 1 0), (3, .v (.slice av (varsOf p).length cv)), (4, .v (.int .i64 ((varsOf p).length : Nat))), (5, .ptr 2 0), (6, .v (.int .i64 j)), (7, .ptr 5 0), (8, .own 6), (9, .own 7), (10, .v (.int .i64 k)), (11, .v (.string (bs v))), (29, .v (.slice a n c)), (30, .v (.int .i64 n)), (31, .v (.int .i64 j)), (46, .v (.slice av (varsOf p).length cv)), (47, .v (.int .i64 ((varsOf p).length : Nat))), (48, .v (.int .i64 k)), (62, .v (.slice a5 n5 c5)), (63, .v (.int .i64 n5)), (64, .v (.int .i64 i))],
              [(0, .cells 24 [.v (.slice a n c)]), (1, .cells 32 (vL zSys)), (2, .cells 32 [.v (.int .i64 (1 : Nat)), .v (.int .i64 ((varsOf p).length : Nat)), .v (.int .i64 n), .v (.slice ea en ec), .own 3, .v (.slice ia ni ic), .own 4]), (3, .row 3 1 (iRows (idxP isExit (p.take (j + 1)) 0))), (4, .row 110 3 css), (5, .cells 57 (vL (blkL (.slice a5 n5 c5) b))), (6, .row 3 1 (G (k + 1))), (7, .row 3 1 (KK k i))], 8⟩,
            fun i H' => H' = H5 ∧ i ≤ b.2.1.length, fun i => b.2.1.length - i, ⟨0, [(0, 0), (1, 1), (2, 2), (3, 3), (4, 4), (5, 5), (6, 6), (7, 7)], ?_, rfl, Nat.zero_le _⟩, ?_⟩
          · have e0 := hKK0 k
            (repeat' (first | exact trivial | refine ⟨?_, ?_⟩ | exact rfl | assumption))
          rintro i H7 _ ⟨rfl, hi⟩
          have hrl3 := hKKl k i (by omega) hi
          refine ⟨fun h => ?_, fun h => ?_⟩
          · have hil : i < b.2.1.length := by have := dt h; omega
            refine name_k b.2.1[i] fun s hs => ?_
            have hss : b.2.1[i]? = some s := by rw [hs]; exact List.getElem?_eq_getElem hil
            refine stmt_k (hr5.up hle5) hss fun ad3 q3 hh3 _ => ?_
            refine ⟨ad3, ⟨by omega, by omega, q3⟩, ?_⟩
            refine ⟨_, hh3, ?_⟩
            refine ⟨fun h => ?_, fun h => ?_⟩
            · have hk3 : ¬ s.1 = 3 := nt h
              refine ⟨fun h => ?_, fun h => ?_⟩
              · have hsv : s.2.1.l = v := dt h
                have e := hKK1 k i s v hss hvv hk3 hsv
                refine ⟨⟨by show (_ + 1) * 8 ≤ 140737488355328; omega, by show _ + 1 ≤ 9223372036854775807; omega⟩, ?_⟩
                refine ⟨⟨by omega, by omega⟩, i + 1, [(0, 0), (1, 1), (2, 2), (3, 3), (4, 4), (5, 5), (6, 6), (7, 10)], ?_, ⟨rfl, hil⟩, by dsimp only; omega⟩
                (repeat' (first | exact trivial | refine ⟨?_, ?_⟩ | exact rfl | assumption))
              · have hsv : ¬ s.2.1.l = v := df h
                have e := hKK2 k i s v hss hvv (fun h => hsv h.2)
                refine ⟨⟨by omega, by omega⟩, i + 1, [(0, 0), (1, 1), (2, 2), (3, 3), (4, 4), (5, 5), (6, 6), (7, 7)], ?_, ⟨rfl, hil⟩, by dsimp only; omega⟩
                (repeat' (first | exact trivial | refine ⟨?_, ?_⟩ | exact rfl | assumption))
            · have hk3 : s.1 = 3 := nf h
              have e := hKK2 k i s v hss hvv (fun h => h.1 hk3)
              refine ⟨⟨by omega, by omega⟩, i + 1, [(0, 0), (1, 1), (2, 2), (3, 3), (4, 4), (5, 5), (6, 6), (7, 7)], ?_, ⟨rfl, hil⟩, by dsimp only; omega⟩
              (repeat' (first | exact trivial | refine ⟨?_, ?_⟩ | exact rfl | assumption))
          · have hil : i = b.2.1.length := by have := df h; omega
            subst hil
            have e2 := hKKn k
            refine ⟨⟨by omega, by omega⟩, k + 1, [(0, 0), (1, 1), (2, 2), (3, 3), (4, 4), (5, 5), (6, 6), (7, 7)], ?_, ⟨hle5, hkl⟩, by dsimp only; omega⟩
            (repeat' (first | exact trivial | refine ⟨?_, ?_⟩ | exact rfl | assumption))
      · have hkl2 : k = (varsOf p).length := by have := df h; omega
        subst hkl2
        refine ⟨none, ?_⟩
        refine region_plan (α := List (List Value)) ?_ ?_
          (.two 1 4 (.one [2, 4, 6, 7, 8, 9] [0, 2, 3, 5, 6, 1, 4, 7, 8, 9, 10, 11, 12]) (.two 1 7 (.one [2, 4, 6, 7, 8, 9] [0, 2, 3, 5, 6, 4, 1, 7, 8, 9, 10, 11, 12]) (.two 1 9 (.one [2, 4, 6, 7, 8, 9] [0, 2, 3, 5, 6, 4, 7, 8, 1, 9, 10, 11, 12]) (.one [2, 4, 6, 7, 8, 9] [0, 2, 3, 5, 6, 4, 7, 8, 9, 1, 10, 11, 12]))))
          (fun c' => ⟨[(1, .ptr 0 0), (2, .ptr 1 0), (3, .v (.slice av (varsOf p).length cv)), (4, .v (.int .i64 ((varsOf p).length : Nat))), (5, .ptr 2 0), (29, .v (.slice a n c)), (30, .v (.int .i64 n)), (31, .v (.int .i64 j))],
            [(0, .cells 24 [.v (.slice a n c)]), (1, .cells 32 (vL zSys)), (2, .cells 32 [.v (.int .i64 (1 : Nat)), .v (.int .i64 ((varsOf p).length : Nat)), .v (.int .i64 n), .v (.slice ea en ec), .own 3, .v (.slice ia ni ic), .own 4]), (3, .row 3 1 (iRows (idxP isExit (p.take (j + 1)) 0))), (4, .row 110 3 c')], 5⟩)
          (fun c' H' => Le H5 H' ∧ RC (α := Bt.TrB) H' c' (((lsysOf p).T.map Bt.TrB.mk).take (j + 1))) (by kernel_rfl) ?_ ?_
        · exact ⟨cx_ok.tt, cx_ok.eqs⟩
        · exact cx_mix
        · refine ⟨?_, ?_⟩
          · intro v6 H6 hle6 hv6
            have hv6 : RowAt H6 v6 1 (iRows (genL (varsOf p) b (varsOf p).length)) := by rw [← hG]; exact hv6
            obtain ⟨a7, n7, c7, rfl, hr7⟩ := RL.of_row (α := Int) hv6 (rc_iRows (genL_in (varsOf p) b (by omega)))
            refine r10of_spec (w := (varsOf p).length) (by omega) hr7 fun g1 g2 g3 H7 hle7 hg7 => ?_
            intro v8 H8 hle8 hv8
            have hv8 : RowAt H8 v8 1 (iRows (killL (varsOf p) b (varsOf p).length)) := by rw [← hKL]; exact hv8
            obtain ⟨a8, n8, c8, rfl, hr8⟩ := RL.of_row (α := Int) hv8 (rc_iRows (killL_in (varsOf p) b (by omega)))
            refine r10of_spec (w := (varsOf p).length) (by omega) hr8 fun k1 k2 k3 H9 hle9 hk9 => ?_
            refine ⟨⟨by show (css.length + 1) * 72 ≤ 140737488355328; omega, by show css.length + 1 ≤ 9223372036854775807; omega⟩, ?_⟩
            have hl9 := ((hle6.le.trans hle7).trans hle8.le).trans hle9
            have htr : Bt.TrR H9 (trF (varsOf p) b) ⟨g1, g2, g3, k1, k2, k3⟩ := by rw [htF]; exact ⟨hg7.up (hle8.le.trans hle9), hk9⟩
            exact ⟨css ++ [Bt.trV ⟨g1, g2, g3, k1, k2, k3⟩], [(0, 0), (1, 1), (2, 2), (3, 3), (4, 9)], by (repeat' (first | exact trivial | refine ⟨?_, ?_⟩ | exact rfl | assumption)), hl9, by rw [lsysT_take hbb]; exact trb_snoc (RC.up hrc (hle5.trans hl9)) htr⟩
          · refine ⟨?_, ?_⟩
            · intro v6 H6 hle6 hv6
              have hv6 : RowAt H6 v6 1 (iRows (genL (varsOf p) b (varsOf p).length)) := by rw [← hG]; exact hv6
              obtain ⟨a7, n7, c7, rfl, hr7⟩ := RL.of_row (α := Int) hv6 (rc_iRows (genL_in (varsOf p) b (by omega)))
              refine r10of_spec (w := (varsOf p).length) (by omega) hr7 fun g1 g2 g3 H7 hle7 hg7 => ?_
              intro v8 H8 hle8 hv8
              have hv8 : RowAt H8 v8 1 (iRows (killL (varsOf p) b (varsOf p).length)) := by rw [← hKL]; exact hv8
              obtain ⟨a8, n8, c8, rfl, hr8⟩ := RL.of_row (α := Int) hv8 (rc_iRows (killL_in (varsOf p) b (by omega)))
              refine r10of_spec (w := (varsOf p).length) (by omega) hr8 fun k1 k2 k3 H9 hle9 hk9 => ?_
              refine ⟨⟨by show (css.length + 1) * 72 ≤ 140737488355328; omega, by show css.length + 1 ≤ 9223372036854775807; omega⟩, ?_⟩
              have hl9 := ((hle6.le.trans hle7).trans hle8.le).trans hle9
              have htr : Bt.TrR H9 (trF (varsOf p) b) ⟨g1, g2, g3, k1, k2, k3⟩ := by rw [htF]; exact ⟨hg7.up (hle8.le.trans hle9), hk9⟩
              exact ⟨css ++ [Bt.trV ⟨g1, g2, g3, k1, k2, k3⟩], [(0, 0), (1, 1), (2, 2), (3, 3), (4, 9)], by (repeat' (first | exact trivial | refine ⟨?_, ?_⟩ | exact rfl | assumption)), hl9, by rw [lsysT_take hbb]; exact trb_snoc (RC.up hrc (hle5.trans hl9)) htr⟩
            · refine ⟨?_, ?_⟩
              · intro v6 H6 hle6 hv6
                have hv6 : RowAt H6 v6 1 (iRows (genL (varsOf p) b (varsOf p).length)) := by rw [← hG]; exact hv6
                obtain ⟨a7, n7, c7, rfl, hr7⟩ := RL.of_row (α := Int) hv6 (rc_iRows (genL_in (varsOf p) b (by omega)))
                refine r10of_spec (w := (varsOf p).length) (by omega) hr7 fun g1 g2 g3 H7 hle7 hg7 => ?_
                intro v8 H8 hle8 hv8
                have hv8 : RowAt H8 v8 1 (iRows (killL (varsOf p) b (varsOf p).length)) := by rw [← hKL]; exact hv8
                obtain ⟨a8, n8, c8, rfl, hr8⟩ := RL.of_row (α := Int) hv8 (rc_iRows (killL_in (varsOf p) b (by omega)))
                refine r10of_spec (w := (varsOf p).length) (by omega) hr8 fun k1 k2 k3 H9 hle9 hk9 => ?_
                refine ⟨⟨by show (css.length + 1) * 72 ≤ 140737488355328; omega, by show css.length + 1 ≤ 9223372036854775807; omega⟩, ?_⟩
                have hl9 := ((hle6.le.trans hle7).trans hle8.le).trans hle9
                have htr : Bt.TrR H9 (trF (varsOf p) b) ⟨g1, g2, g3, k1, k2, k3⟩ := by rw [htF]; exact ⟨hg7.up (hle8.le.trans hle9), hk9⟩
                exact ⟨css ++ [Bt.trV ⟨g1, g2, g3, k1, k2, k3⟩], [(0, 0), (1, 1), (2, 2), (3, 3), (4, 9)], by (repeat' (first | exact trivial | refine ⟨?_, ?_⟩ | exact rfl | assumption)), hl9, by rw [lsysT_take hbb]; exact trb_snoc (RC.up hrc (hle5.trans hl9)) htr⟩
              · intro v6 H6 hle6 hv6
                have hv6 : RowAt H6 v6 1 (iRows (genL (varsOf p) b (varsOf p).length)) := by rw [← hG]; exact hv6
                obtain ⟨a7, n7, c7, rfl, hr7⟩ := RL.of_row (α := Int) hv6 (rc_iRows (genL_in (varsOf p) b (by omega)))
                refine r10of_spec (w := (varsOf p).length) (by omega) hr7 fun g1 g2 g3 H7 hle7 hg7 => ?_
                intro v8 H8 hle8 hv8
                have hv8 : RowAt H8 v8 1 (iRows (killL (varsOf p) b (varsOf p).length)) := by rw [← hKL]; exact hv8
                obtain ⟨a8, n8, c8, rfl, hr8⟩ := RL.of_row (α := Int) hv8 (rc_iRows (killL_in (varsOf p) b (by omega)))
                refine r10of_spec (w := (varsOf p).length) (by omega) hr8 fun k1 k2 k3 H9 hle9 hk9 => ?_
                refine ⟨⟨by show (css.length + 1) * 72 ≤ 140737488355328; omega, by show css.length + 1 ≤ 9223372036854775807; omega⟩, ?_⟩
                have hl9 := ((hle6.le.trans hle7).trans hle8.le).trans hle9
                have htr : Bt.TrR H9 (trF (varsOf p) b) ⟨g1, g2, g3, k1, k2, k3⟩ := by rw [htF]; exact ⟨hg7.up (hle8.le.trans hle9), hk9⟩
                exact ⟨css ++ [Bt.trV ⟨g1, g2, g3, k1, k2, k3⟩], [(0, 0), (1, 1), (2, 2), (3, 3), (4, 9)], by (repeat' (first | exact trivial | refine ⟨?_, ?_⟩ | exact rfl | assumption)), hl9, by rw [lsysT_take hbb]; exact trb_snoc (RC.up hrc (hle5.trans hl9)) htr⟩
        rintro c' H9 _ ⟨hle9, hrc9⟩
        refine ⟨⟨by omega, by omega⟩, (j + 1, c'), [(0, 0), (1, 1), (2, 2), (3, 3), (4, 4)], ?_, ⟨(hle4.trans hle5).trans hle9, hlt, hrc9⟩, by dsimp only; omega⟩
        (repeat' (first | exact trivial | refine ⟨?_, ?_⟩ | exact rfl | assumption))
    · have hx3 : isExit b = false := h
      rw [← hbe, hx3] at hex
      have erow : iRows (idxP isExit (p.take j) 0) = iRows (idxP isExit (p.take (j + 1)) 0) := by rw [hex]; simp
      refine ⟨Nat, fun k => ⟨[(1, .ptr 0 0), (2, .ptr 1 0), (3, .v (.slice av (varsOf p).length cv)), (4, .v (.int .i64 ((varsOf p).length : Nat))), (5, .ptr 2 0), (6, .v (.int .i64 j)), (7, .ptr 5 0), (8, .own 6), (9, .own 7), (29, .v (.slice a n c)), (30, .v (.int .i64 n)), (31, .v (.int .i64 j)), (46, .v (.slice av (varsOf p).length cv)), (47, .v (.int .i64 ((varsOf p).length : Nat))), (48, .v (.int .i64 k))],
          [(0, .cells 24 [.v (.slice a n c)]), (1, .cells 32 (vL zSys)), (2, .cells 32 [.v (.int .i64 (1 : Nat)), .v (.int .i64 ((varsOf p).length : Nat)), .v (.int .i64 n), .v (.slice ea en ec), .own 3, .v (.slice ia ni ic), .own 4]), (3, .row 3 1 (iRows (idxP isExit (p.take (j + 1)) 0))), (4, .row 110 3 css), (5, .cells 57 (vL (blkL (.slice a5 n5 c5) b))), (6, .row 3 1 (G k)), (7, .row 3 1 (KL k))], 8⟩,
        fun k H' => Le H4 H' ∧ k ≤ (varsOf p).length, fun k => (varsOf p).length - k, ⟨0, [(0, 0), (1, 1), (2, 2), (3, 3), (4, 4), (5, 5)], ?_, Le.refl H4, Nat.zero_le _⟩, ?_⟩
      · (repeat' (first | exact trivial | refine ⟨?_, ?_⟩ | exact rfl | assumption))
      rintro k H5 _ ⟨hle5, hkl⟩
      have hgl := hGl k
      refine ⟨fun h => ?_, fun h => ?_⟩
      · have hkl : k < (varsOf p).length := by have := dt h; omega
        refine name_k (varsOf p)[k] fun v hve => ?_
        have hvk : (varsOf p)[k]? = some v := by rw [hve]; exact List.getElem?_eq_getElem hkl
        have hvv : (varsOf p)[k]?.getD [] = v := by rw [hvk]; rfl
        have hle5' := (hle2.trans hle4).trans hle5
        refine str_k (hrv.up hle5') hvk fun ad2 q2 hh2 _ => ?_
        refine ⟨ad2, ⟨by omega, by omega, q2⟩, ?_⟩
        refine ⟨_, hh2, ?_⟩
        refine rfirst_spec (b := b) hbl (hr5.up hle5) fun H6 hle6 => ?_
        refine ⟨fun h => ?_, fun h => ?_⟩
        · have hf1 : firstS v b.2.2 b.2.1 = 1 := dt h
          have eg := hG1 k v hvv hf1
          refine ⟨⟨by show (_ + 1) * 8 ≤ 140737488355328; omega, by show _ + 1 ≤ 9223372036854775807; omega⟩, ?_⟩
          refine ⟨Nat, fun i => ⟨[(1, .ptr 0 0), (2, .ptr 1 0), (3, .v (.slice av (varsOf p).length cv)), (4, .v (.int .i64 ((varsOf p).length : Nat))), (5, .ptr 2 0), (6, .v (.int .i64 j)), (7, .ptr 5 0), (8, .own 6), (9, .own 7), (10, .v (.int .i64 k)), (11, .v (.string (bs v))), (29, .v (.slice a n c)), (30, .v (.int .i64 n)), (31, .v (.int .i64 j)), (46, .v (.slice av (varsOf p).length cv)), (47, .v (.int .i64 ((varsOf p).length : Nat))), (48, .v (.int .i64 k)), (62, .v (.slice a5 n5 c5)), (63, .v (.int .i64 n5)), (64, .v (.int .i64 i))],
              [(0, .cells 24 [.v (.slice a n c)]), (1, .cells 32 (vL zSys)), (2, .cells 32 [.v (.int .i64 (1 : Nat)), .v (.int .i64 ((varsOf p).length : Nat)), .v (.int .i64 n), .v (.slice ea en ec), .own 3, .v (.slice ia ni ic), .own 4]), (3, .row 3 1 (iRows (idxP isExit (p.take (j + 1)) 0))), (4, .row 110 3 css), (5, .cells 57 (vL (blkL (.slice a5 n5 c5) b))), (6, .row 3 1 (G (k + 1))), (7, .row 3 1 (KK k i))], 8⟩,
            fun i H' => H' = H5 ∧ i ≤ b.2.1.length, fun i => b.2.1.length - i, ⟨0, [(0, 0), (1, 1), (2, 2), (3, 3), (4, 4), (5, 5), (6, 9), (7, 7)], ?_, rfl, Nat.zero_le _⟩, ?_⟩
          · have e0 := hKK0 k
            (repeat' (first | exact trivial | refine ⟨?_, ?_⟩ | exact rfl | assumption))
          rintro i H7 _ ⟨rfl, hi⟩
          have hrl3 := hKKl k i (by omega) hi
          refine ⟨fun h => ?_, fun h => ?_⟩
          · have hil : i < b.2.1.length := by have := dt h; omega
            refine name_k b.2.1[i] fun s hs => ?_
            have hss : b.2.1[i]? = some s := by rw [hs]; exact List.getElem?_eq_getElem hil
            refine stmt_k (hr5.up hle5) hss fun ad3 q3 hh3 _ => ?_
            refine ⟨ad3, ⟨by omega, by omega, q3⟩, ?_⟩
            refine ⟨_, hh3, ?_⟩
            refine ⟨fun h => ?_, fun h => ?_⟩
            · have hk3 : ¬ s.1 = 3 := nt h
              refine ⟨fun h => ?_, fun h => ?_⟩
              · have hsv : s.2.1.l = v := dt h
                have e := hKK1 k i s v hss hvv hk3 hsv
                refine ⟨⟨by show (_ + 1) * 8 ≤ 140737488355328; omega, by show _ + 1 ≤ 9223372036854775807; omega⟩, ?_⟩
                refine ⟨⟨by omega, by omega⟩, i + 1, [(0, 0), (1, 1), (2, 2), (3, 3), (4, 4), (5, 5), (6, 6), (7, 10)], ?_, ⟨rfl, hil⟩, by dsimp only; omega⟩
                (repeat' (first | exact trivial | refine ⟨?_, ?_⟩ | exact rfl | assumption))
              · have hsv : ¬ s.2.1.l = v := df h
                have e := hKK2 k i s v hss hvv (fun h => hsv h.2)
                refine ⟨⟨by omega, by omega⟩, i + 1, [(0, 0), (1, 1), (2, 2), (3, 3), (4, 4), (5, 5), (6, 6), (7, 7)], ?_, ⟨rfl, hil⟩, by dsimp only; omega⟩
                (repeat' (first | exact trivial | refine ⟨?_, ?_⟩ | exact rfl | assumption))
            · have hk3 : s.1 = 3 := nf h
              have e := hKK2 k i s v hss hvv (fun h => h.1 hk3)
              refine ⟨⟨by omega, by omega⟩, i + 1, [(0, 0), (1, 1), (2, 2), (3, 3), (4, 4), (5, 5), (6, 6), (7, 7)], ?_, ⟨rfl, hil⟩, by dsimp only; omega⟩
              (repeat' (first | exact trivial | refine ⟨?_, ?_⟩ | exact rfl | assumption))
          · have hil : i = b.2.1.length := by have := df h; omega
            subst hil
            have e2 := hKKn k
            refine ⟨⟨by omega, by omega⟩, k + 1, [(0, 0), (1, 1), (2, 2), (3, 3), (4, 4), (5, 5), (6, 6), (7, 7)], ?_, ⟨hle5, hkl⟩, by dsimp only; omega⟩
            (repeat' (first | exact trivial | refine ⟨?_, ?_⟩ | exact rfl | assumption))
        · have hf1 : ¬ firstS v b.2.2 b.2.1 = 1 := df h
          have eg := hG2 k v hvv hf1
          refine ⟨Nat, fun i => ⟨[(1, .ptr 0 0), (2, .ptr 1 0), (3, .v (.slice av (varsOf p).length cv)), (4, .v (.int .i64 ((varsOf p).length : Nat))), (5, .ptr 2 0), (6, .v (.int .i64 j)), (7, .ptr 5 0), (8, .own 6), (9, .own 7), (10, .v (.int .i64 k)), (11, .v (.string (bs v))), (29, .v (.slice a n c)), (30, .v (.int .i64 n)), (31, .v (.int .i64 j)), (46, .v (.slice av (varsOf p).length cv)), (47, .v (.int .i64 ((varsOf p).length : Nat))), (48, .v (.int .i64 k)), (62, .v (.slice a5 n5 c5)), (63, .v (.int .i64 n5)), (64, .v (.int .i64 i))],
              [(0, .cells 24 [.v (.slice a n c)]), (1, .cells 32 (vL zSys)), (2, .cells 32 [.v (.int .i64 (1 : Nat)), .v (.int .i64 ((varsOf p).length : Nat)), .v (.int .i64 n), .v (.slice ea en ec), .own 3, .v (.slice ia ni ic), .own 4]), (3, .row 3 1 (iRows (idxP isExit (p.take (j + 1)) 0))), (4, .row 110 3 css), (5, .cells 57 (vL (blkL (.slice a5 n5 c5) b))), (6, .row 3 1 (G (k + 1))), (7, .row 3 1 (KK k i))], 8⟩,
            fun i H' => H' = H5 ∧ i ≤ b.2.1.length, fun i => b.2.1.length - i, ⟨0, [(0, 0), (1, 1), (2, 2), (3, 3), (4, 4), (5, 5), (6, 6), (7, 7)], ?_, rfl, Nat.zero_le _⟩, ?_⟩
          · have e0 := hKK0 k
            (repeat' (first | exact trivial | refine ⟨?_, ?_⟩ | exact rfl | assumption))
          rintro i H7 _ ⟨rfl, hi⟩
          have hrl3 := hKKl k i (by omega) hi
          refine ⟨fun h => ?_, fun h => ?_⟩
          · have hil : i < b.2.1.length := by have := dt h; omega
            refine name_k b.2.1[i] fun s hs => ?_
            have hss : b.2.1[i]? = some s := by rw [hs]; exact List.getElem?_eq_getElem hil
            refine stmt_k (hr5.up hle5) hss fun ad3 q3 hh3 _ => ?_
            refine ⟨ad3, ⟨by omega, by omega, q3⟩, ?_⟩
            refine ⟨_, hh3, ?_⟩
            refine ⟨fun h => ?_, fun h => ?_⟩
            · have hk3 : ¬ s.1 = 3 := nt h
              refine ⟨fun h => ?_, fun h => ?_⟩
              · have hsv : s.2.1.l = v := dt h
                have e := hKK1 k i s v hss hvv hk3 hsv
                refine ⟨⟨by show (_ + 1) * 8 ≤ 140737488355328; omega, by show _ + 1 ≤ 9223372036854775807; omega⟩, ?_⟩
                refine ⟨⟨by omega, by omega⟩, i + 1, [(0, 0), (1, 1), (2, 2), (3, 3), (4, 4), (5, 5), (6, 6), (7, 10)], ?_, ⟨rfl, hil⟩, by dsimp only; omega⟩
                (repeat' (first | exact trivial | refine ⟨?_, ?_⟩ | exact rfl | assumption))
              · have hsv : ¬ s.2.1.l = v := df h
                have e := hKK2 k i s v hss hvv (fun h => hsv h.2)
                refine ⟨⟨by omega, by omega⟩, i + 1, [(0, 0), (1, 1), (2, 2), (3, 3), (4, 4), (5, 5), (6, 6), (7, 7)], ?_, ⟨rfl, hil⟩, by dsimp only; omega⟩
                (repeat' (first | exact trivial | refine ⟨?_, ?_⟩ | exact rfl | assumption))
            · have hk3 : s.1 = 3 := nf h
              have e := hKK2 k i s v hss hvv (fun h => h.1 hk3)
              refine ⟨⟨by omega, by omega⟩, i + 1, [(0, 0), (1, 1), (2, 2), (3, 3), (4, 4), (5, 5), (6, 6), (7, 7)], ?_, ⟨rfl, hil⟩, by dsimp only; omega⟩
              (repeat' (first | exact trivial | refine ⟨?_, ?_⟩ | exact rfl | assumption))
          · have hil : i = b.2.1.length := by have := df h; omega
            subst hil
            have e2 := hKKn k
            refine ⟨⟨by omega, by omega⟩, k + 1, [(0, 0), (1, 1), (2, 2), (3, 3), (4, 4), (5, 5), (6, 6), (7, 7)], ?_, ⟨hle5, hkl⟩, by dsimp only; omega⟩
            (repeat' (first | exact trivial | refine ⟨?_, ?_⟩ | exact rfl | assumption))
      · have hkl2 : k = (varsOf p).length := by have := df h; omega
        subst hkl2
        refine ⟨none, ?_⟩
        refine region_plan (α := List (List Value)) ?_ ?_
          (.two 1 4 (.one [2, 4, 6, 7, 8, 9] [0, 2, 3, 5, 6, 1, 4, 7, 8, 9, 10, 11, 12]) (.two 1 7 (.one [2, 4, 6, 7, 8, 9] [0, 2, 3, 5, 6, 4, 1, 7, 8, 9, 10, 11, 12]) (.two 1 9 (.one [2, 4, 6, 7, 8, 9] [0, 2, 3, 5, 6, 4, 7, 8, 1, 9, 10, 11, 12]) (.one [2, 4, 6, 7, 8, 9] [0, 2, 3, 5, 6, 4, 7, 8, 9, 1, 10, 11, 12]))))
          (fun c' => ⟨[(1, .ptr 0 0), (2, .ptr 1 0), (3, .v (.slice av (varsOf p).length cv)), (4, .v (.int .i64 ((varsOf p).length : Nat))), (5, .ptr 2 0), (29, .v (.slice a n c)), (30, .v (.int .i64 n)), (31, .v (.int .i64 j))],
            [(0, .cells 24 [.v (.slice a n c)]), (1, .cells 32 (vL zSys)), (2, .cells 32 [.v (.int .i64 (1 : Nat)), .v (.int .i64 ((varsOf p).length : Nat)), .v (.int .i64 n), .v (.slice ea en ec), .own 3, .v (.slice ia ni ic), .own 4]), (3, .row 3 1 (iRows (idxP isExit (p.take (j + 1)) 0))), (4, .row 110 3 c')], 5⟩)
          (fun c' H' => Le H5 H' ∧ RC (α := Bt.TrB) H' c' (((lsysOf p).T.map Bt.TrB.mk).take (j + 1))) (by kernel_rfl) ?_ ?_
        · exact ⟨cx_ok.tt, cx_ok.eqs⟩
        · exact cx_mix
        · refine ⟨?_, ?_⟩
          · intro v6 H6 hle6 hv6
            have hv6 : RowAt H6 v6 1 (iRows (genL (varsOf p) b (varsOf p).length)) := by rw [← hG]; exact hv6
            obtain ⟨a7, n7, c7, rfl, hr7⟩ := RL.of_row (α := Int) hv6 (rc_iRows (genL_in (varsOf p) b (by omega)))
            refine r10of_spec (w := (varsOf p).length) (by omega) hr7 fun g1 g2 g3 H7 hle7 hg7 => ?_
            intro v8 H8 hle8 hv8
            have hv8 : RowAt H8 v8 1 (iRows (killL (varsOf p) b (varsOf p).length)) := by rw [← hKL]; exact hv8
            obtain ⟨a8, n8, c8, rfl, hr8⟩ := RL.of_row (α := Int) hv8 (rc_iRows (killL_in (varsOf p) b (by omega)))
            refine r10of_spec (w := (varsOf p).length) (by omega) hr8 fun k1 k2 k3 H9 hle9 hk9 => ?_
            refine ⟨⟨by show (css.length + 1) * 72 ≤ 140737488355328; omega, by show css.length + 1 ≤ 9223372036854775807; omega⟩, ?_⟩
            have hl9 := ((hle6.le.trans hle7).trans hle8.le).trans hle9
            have htr : Bt.TrR H9 (trF (varsOf p) b) ⟨g1, g2, g3, k1, k2, k3⟩ := by rw [htF]; exact ⟨hg7.up (hle8.le.trans hle9), hk9⟩
            exact ⟨css ++ [Bt.trV ⟨g1, g2, g3, k1, k2, k3⟩], [(0, 0), (1, 1), (2, 2), (3, 3), (4, 9)], by (repeat' (first | exact trivial | refine ⟨?_, ?_⟩ | exact rfl | assumption)), hl9, by rw [lsysT_take hbb]; exact trb_snoc (RC.up hrc (hle5.trans hl9)) htr⟩
          · refine ⟨?_, ?_⟩
            · intro v6 H6 hle6 hv6
              have hv6 : RowAt H6 v6 1 (iRows (genL (varsOf p) b (varsOf p).length)) := by rw [← hG]; exact hv6
              obtain ⟨a7, n7, c7, rfl, hr7⟩ := RL.of_row (α := Int) hv6 (rc_iRows (genL_in (varsOf p) b (by omega)))
              refine r10of_spec (w := (varsOf p).length) (by omega) hr7 fun g1 g2 g3 H7 hle7 hg7 => ?_
              intro v8 H8 hle8 hv8
              have hv8 : RowAt H8 v8 1 (iRows (killL (varsOf p) b (varsOf p).length)) := by rw [← hKL]; exact hv8
              obtain ⟨a8, n8, c8, rfl, hr8⟩ := RL.of_row (α := Int) hv8 (rc_iRows (killL_in (varsOf p) b (by omega)))
              refine r10of_spec (w := (varsOf p).length) (by omega) hr8 fun k1 k2 k3 H9 hle9 hk9 => ?_
              refine ⟨⟨by show (css.length + 1) * 72 ≤ 140737488355328; omega, by show css.length + 1 ≤ 9223372036854775807; omega⟩, ?_⟩
              have hl9 := ((hle6.le.trans hle7).trans hle8.le).trans hle9
              have htr : Bt.TrR H9 (trF (varsOf p) b) ⟨g1, g2, g3, k1, k2, k3⟩ := by rw [htF]; exact ⟨hg7.up (hle8.le.trans hle9), hk9⟩
              exact ⟨css ++ [Bt.trV ⟨g1, g2, g3, k1, k2, k3⟩], [(0, 0), (1, 1), (2, 2), (3, 3), (4, 9)], by (repeat' (first | exact trivial | refine ⟨?_, ?_⟩ | exact rfl | assumption)), hl9, by rw [lsysT_take hbb]; exact trb_snoc (RC.up hrc (hle5.trans hl9)) htr⟩
            · refine ⟨?_, ?_⟩
              · intro v6 H6 hle6 hv6
                have hv6 : RowAt H6 v6 1 (iRows (genL (varsOf p) b (varsOf p).length)) := by rw [← hG]; exact hv6
                obtain ⟨a7, n7, c7, rfl, hr7⟩ := RL.of_row (α := Int) hv6 (rc_iRows (genL_in (varsOf p) b (by omega)))
                refine r10of_spec (w := (varsOf p).length) (by omega) hr7 fun g1 g2 g3 H7 hle7 hg7 => ?_
                intro v8 H8 hle8 hv8
                have hv8 : RowAt H8 v8 1 (iRows (killL (varsOf p) b (varsOf p).length)) := by rw [← hKL]; exact hv8
                obtain ⟨a8, n8, c8, rfl, hr8⟩ := RL.of_row (α := Int) hv8 (rc_iRows (killL_in (varsOf p) b (by omega)))
                refine r10of_spec (w := (varsOf p).length) (by omega) hr8 fun k1 k2 k3 H9 hle9 hk9 => ?_
                refine ⟨⟨by show (css.length + 1) * 72 ≤ 140737488355328; omega, by show css.length + 1 ≤ 9223372036854775807; omega⟩, ?_⟩
                have hl9 := ((hle6.le.trans hle7).trans hle8.le).trans hle9
                have htr : Bt.TrR H9 (trF (varsOf p) b) ⟨g1, g2, g3, k1, k2, k3⟩ := by rw [htF]; exact ⟨hg7.up (hle8.le.trans hle9), hk9⟩
                exact ⟨css ++ [Bt.trV ⟨g1, g2, g3, k1, k2, k3⟩], [(0, 0), (1, 1), (2, 2), (3, 3), (4, 9)], by (repeat' (first | exact trivial | refine ⟨?_, ?_⟩ | exact rfl | assumption)), hl9, by rw [lsysT_take hbb]; exact trb_snoc (RC.up hrc (hle5.trans hl9)) htr⟩
              · intro v6 H6 hle6 hv6
                have hv6 : RowAt H6 v6 1 (iRows (genL (varsOf p) b (varsOf p).length)) := by rw [← hG]; exact hv6
                obtain ⟨a7, n7, c7, rfl, hr7⟩ := RL.of_row (α := Int) hv6 (rc_iRows (genL_in (varsOf p) b (by omega)))
                refine r10of_spec (w := (varsOf p).length) (by omega) hr7 fun g1 g2 g3 H7 hle7 hg7 => ?_
                intro v8 H8 hle8 hv8
                have hv8 : RowAt H8 v8 1 (iRows (killL (varsOf p) b (varsOf p).length)) := by rw [← hKL]; exact hv8
                obtain ⟨a8, n8, c8, rfl, hr8⟩ := RL.of_row (α := Int) hv8 (rc_iRows (killL_in (varsOf p) b (by omega)))
                refine r10of_spec (w := (varsOf p).length) (by omega) hr8 fun k1 k2 k3 H9 hle9 hk9 => ?_
                refine ⟨⟨by show (css.length + 1) * 72 ≤ 140737488355328; omega, by show css.length + 1 ≤ 9223372036854775807; omega⟩, ?_⟩
                have hl9 := ((hle6.le.trans hle7).trans hle8.le).trans hle9
                have htr : Bt.TrR H9 (trF (varsOf p) b) ⟨g1, g2, g3, k1, k2, k3⟩ := by rw [htF]; exact ⟨hg7.up (hle8.le.trans hle9), hk9⟩
                exact ⟨css ++ [Bt.trV ⟨g1, g2, g3, k1, k2, k3⟩], [(0, 0), (1, 1), (2, 2), (3, 3), (4, 9)], by (repeat' (first | exact trivial | refine ⟨?_, ?_⟩ | exact rfl | assumption)), hl9, by rw [lsysT_take hbb]; exact trb_snoc (RC.up hrc (hle5.trans hl9)) htr⟩
        rintro c' H9 _ ⟨hle9, hrc9⟩
        refine ⟨⟨by omega, by omega⟩, (j + 1, c'), [(0, 0), (1, 1), (2, 2), (3, 3), (4, 4)], ?_, ⟨(hle4.trans hle5).trans hle9, hlt, hrc9⟩, by dsimp only; omega⟩
        (repeat' (first | exact trivial | refine ⟨?_, ?_⟩ | exact rfl | assumption))
  · have hjl : j = p.length := by have := df h; dsimp only at this; omega
    rw [hjl, List.take_of_length_le (by omega)] at hrc
    rw [hjl, List.take_length]
    intro v1 H5 hle5 hv1
    obtain ⟨na, nn, nc, rfl, hr1⟩ := rI_all hv1 (idxP_in _ _ _ (by omega))
    intro v3 H7 hle7 hv3
    refine of_row_k (α := Bt.TrB) hv3 (RC.up hrc (hle5.le.trans hle7.le)) fun ta tn tc ev3 hr3 => ?_
    subst ev3
    have h57 := hle5.le.trans hle7.le
    have hsys : Bt.SysR H7 (lsysOf p) ⟨ea, en, ec, na, nn, nc, ia, ni, ic, ta, tn, tc⟩ :=
      ⟨hze.up (hle4.trans h57), hr1.up hle7.le, hzi.up (hle4.trans h57), hr3⟩
    have hK := hK ⟨ea, en, ec, na, nn, nc, ia, ni, ic, ta, tn, tc⟩ H7 (hle.trans h57) hsys
    have e2 : (lsysOf p).m = n := hn.symm
    rw [Bt.sysA, Bt.sysV, e2] at hK
    exact hK
end Go.Proofs
end
section
namespace Go.Proofs
open Go.Sy
set_option maxRecDepth 20000
set_option maxHeartbeats 4000000
/-! soughref38: names, Sets, Lists. -/
theorem wordL_in {i w : Nat} : ∀ n ∈ wordL i w, (64 * i : Nat) ≤ n ∧ n < ((64 * (i + 1) : Nat) : Int) := fun n hn => by
  obtain ⟨k, hk, rfl⟩ := List.mem_map.1 hn
  have := List.mem_range.1 (List.mem_filter.1 hk).1
  omega
theorem wordL_strict (i w : Nat) : StrictL (wordL i w) := by
  refine List.pairwise_map.2 (List.Pairwise.imp (fun {a b} (h : a < b) => ?_) (List.Pairwise.filter _ List.pairwise_lt_range))
  show ((i * 64 + a : Nat) : Int) < ((i * 64 + b : Nat) : Int)
  omega
theorem allL_ge (l : Wd) (i : Nat) : ∀ n ∈ allL l i, (64 * i : Nat) ≤ n := fun n hn => by
  have h0 := allL_nat l i n hn
  have h1 := (allL_has l i n.toNat).1 (by rw [Int.toNat_of_nonneg h0]; exact hn)
  omega
theorem allL_strict : ∀ (l : Wd) (i : Nat), StrictL (allL l i)
  | [], _ => List.Pairwise.nil
  | w :: r, i => by
    rw [allL]
    refine List.pairwise_append.2 ⟨wordL_strict _ _, allL_strict r (i + 1), fun a ha b hb => ?_⟩
    have h1 := wordL_in a ha
    have h2 := allL_ge r (i + 1) b hb
    show a < b
    omega
def bitsTo (x : Wd) (n : Nat) : List Int := ((List.range n).filter (bitAt x)).map fun k : Nat => (k : Int)
theorem bitsTo_succ (x : Wd) (n : Nat) : bitsTo x (n + 1) = bitsTo x n ++ (if bitAt x n = true then [(n : Int)] else []) := by
  rw [bitsTo, List.range_succ, List.filter_append, List.map_append]
  by_cases h : bitAt x n = true
  · simp [bitsTo, h]
  · simp [bitsTo, h]
theorem bitsTo_len (x : Wd) (n : Nat) : (bitsTo x n).length ≤ n := by
  rw [bitsTo, List.length_map]
  exact Nat.le_trans (List.length_filter_le _ _) (by rw [List.length_range]; exact Nat.le_refl _)
theorem numB_eq {w : Nat} {x : Wd} (hx : okB w x) : numB x = bitsTo x w := by
  refine strict_ext (allL_strict x 0) ?_ fun n => ?_
  · refine List.pairwise_map.2 (List.Pairwise.imp (fun {a b} (h : a < b) => ?_) (List.Pairwise.filter _ List.pairwise_lt_range))
    show (a : Int) < (b : Int)
    omega
  · constructor
    · intro h
      have h0 := num_in hx n h
      have h1 := (allL_has x 0 n.toNat).1 (by rw [Int.toNat_of_nonneg h0.1]; exact h)
      refine List.mem_map.2 ⟨n.toNat, List.mem_filter.2 ⟨List.mem_range.2 (by omega), by simpa using h1.2⟩, by omega⟩
    · intro h
      obtain ⟨k, hk, rfl⟩ := List.mem_map.1 h
      exact (allL_has x 0 k).2 ⟨by omega, by simpa using (List.mem_filter.1 hk).2⟩
theorem rnames_spec {V : List Bs8} (hV : V.length ≤ 1000) {x : Wd} (hx : okB V.length x) {a a2 : Option Addr} {n c n2 k2 : Nat} {H : Hp} {K : Value → Hp → Prop} (ha : RL H a n c (ens V)) (hb : RL H a2 n2 k2 x) (hK : ∀ a1 n1 c1 H', Le H H' → RL H' a1 n1 c1 (ens (namesB V x)) → K (.slice a1 n1 c1) H') :
    Does Tryz.prog 103 [.slice a n c, .slice a2 n2 k2] H K := by
  have hn1 := ha.n_eq
  rw [List.length_map] at hn1
  have hsm := ens_small ha
  refine spec_of cx_ok cx_mix rfl Tryz.func103 Tryz.call103 Tryz.ntmps103 Tryz.results103 rfl rfl ?_
  refine ⟨Nat, fun i => ⟨[(1, .v (.slice a2 n2 k2)), (5, .own 0), (8, .v (.slice a n c)), (9, .v (.int .i64 n)), (10, .v (.int .i64 i))], [(0, .row 9 1 (sRows (nmsAt V (bitsTo x i))))], 1⟩,
    fun i H' => H' = H ∧ i ≤ V.length, fun i => V.length - i, ⟨0, [], ?_, rfl, Nat.zero_le _⟩, ?_⟩
  · (repeat' (first | exact trivial | refine ⟨?_, ?_⟩ | exact rfl | assumption))
  rintro i H1 _ ⟨rfl, hi⟩
  have hbl := bitsTo_len x i
  have hrl : (sRows (nmsAt V (bitsTo x i))).length ≤ 1000 := by rw [List.length_map, nmsAt, List.length_map]; omega
  refine ⟨fun h => ?_, fun h => ?_⟩
  · have hlt : i < V.length := by have := dt h; omega
    refine name_k V[i] fun v hve => ?_
    have hvk : V[i]? = some v := by rw [hve]; exact List.getElem?_eq_getElem hlt
    have hst := bitsTo_succ x i
    refine str_k ha hvk fun ad q1 hh _ => ?_
    refine ⟨ad, ⟨by omega, by omega, q1⟩, ?_⟩
    refine ⟨_, hh, ?_⟩
    refine r10has_spec (by omega) hb ?_
    refine ⟨fun h => ?_, fun h => ?_⟩
    · have hbit : bitAt x i = true := h
      rw [if_pos hbit] at hst
      have e : sRows (nmsAt V (bitsTo x i)) ++ [[.string (bs v)]] = sRows (nmsAt V (bitsTo x (i + 1))) := by
        rw [hst, nmsAt, nmsAt, List.map_append, List.map_cons, List.map_nil, Int.toNat_natCast, hvk, sRows_snoc]; rfl
      refine ⟨⟨by show (_ + 1) * 16 ≤ 140737488355328; omega, by show _ + 1 ≤ 9223372036854775807; omega⟩, ?_⟩
      refine ⟨⟨by omega, by omega⟩, i + 1, [(0, 2)], ?_, ⟨rfl, hlt⟩, by dsimp only; omega⟩
      (repeat' (first | exact trivial | refine ⟨?_, ?_⟩ | exact rfl | assumption))
    · have hbit : ¬ bitAt x i = true := by rw [show bitAt x i = false from h]; decide
      rw [if_neg hbit, List.append_nil] at hst
      have e : sRows (nmsAt V (bitsTo x i)) = sRows (nmsAt V (bitsTo x (i + 1))) := by rw [hst]
      refine ⟨⟨by omega, by omega⟩, i + 1, [(0, 0)], ?_, ⟨rfl, hlt⟩, by dsimp only; omega⟩
      (repeat' (first | exact trivial | refine ⟨?_, ?_⟩ | exact rfl | assumption))
  · have hil : i = V.length := by have := df h; omega
    rw [hil, ← numB_eq hx]
    intro v H6 hle6 hv6
    have hsb : ∀ s ∈ nmsAt V (numB x), s.length ≤ 9223372036854775807 := fun s hs => by
      obtain ⟨k, hk, rfl⟩ := List.mem_map.1 hs
      obtain ⟨i2, hi2⟩ := List.getElem?_of_mem hk
      exact hsm _ (List.mem_of_getElem? (nms_in hx hi2))
    obtain ⟨a7, n7, c7, rfl, hr7⟩ := RL.of_row (α := Str) hv6 (rc_sRows hsb)
    exact hK _ _ _ _ hle6.le hr7
theorem rc_snocS {H : Hp} {css : List (List Value)} {X : List (List Str)} (h : RC (α := List Str) H css X) {a : Option Addr} {n c : Nat} {x : List Str} (hx : RL H a n c x) : RC (α := List Str) H (css ++ [[.slice a n c]]) (X ++ [x]) :=
  RC.snoc h (show Enc.R (α := List Str) H [.slice a n c] x from ⟨a, n, c, rfl, hx⟩)
theorem rsets_spec {p : Prog} (he : checkE p = 0) (hp : p.length ≤ 12) (hl : ∀ b ∈ p, b.2.1.length ≤ 100000) (hv : cnt p < 400000) {a : Option Addr} {n c : Nat} {H : Hp} {K : Value → Hp → Prop} (ha : RL H a n c p)
    (hK : ∀ a1 n1 c1 a2 n2 c2 H', Le H H' → RL (α := List Str) H' a1 n1 c1 ((liveI p).map ens) → RL (α := List Str) H' a2 n2 c2 ((liveO p).map ens) → K (.tuple #[.slice a1 n1 c1, .slice a2 n2 c2]) H') :
    Does Tryz.prog 45 [.agg #[.slice a n c]] H K := by
  have hn := ha.n_eq
  have hv64 := vars64 he
  have ho := lsysOf_ok he
  have hA := Bt.solveS_ok ho
  have hm : (Bt.solveS (lsysOf p)).length = p.length := hA.len
  refine spec_of cx_ok cx_mix rfl Tryz.func45 Tryz.call45 Tryz.ntmps45 Tryz.results45 rfl rfl ?_
  refine ⟨none, ?_⟩
  refine region_plan (α := SA × Option Addr × Nat × Nat) ?_ ?_ (.two 1 4 (.two 3 4 (.one [1] [0, 2, 1, 3, 4, 5, 6]) (.one [1] [0, 2, 1, 4, 3, 5, 6])) (.one [1] [0, 2, 4, 1, 3, 5, 6]))
    (fun q => ⟨[(4, .ptr 1 0), (5, .v (.slice q.2.1 q.2.2.1 q.2.2.2))], [(0, .cells 24 [.v (.slice a n c)]), (1, .cells 32 (vL (Bt.sysV (lsysOf p) q.1)))], 2⟩)
    (fun q H' => Le H H' ∧ Bt.SysR H' (lsysOf p) q.1 ∧ RL H' q.2.1 q.2.2.1 q.2.2.2 (ens (varsOf p))) (by kernel_rfl) ?_ ?_
  · exact ⟨cx_ok.tt, cx_ok.eqs⟩
  · exact cx_mix
  · refine ⟨?_, ?_⟩
    · refine ⟨?_, ?_⟩
      · refine rlsys_spec he hp hl hv ha fun z H1 hle1 hs => ?_
        refine rvars_spec (ha.up hle1) hv fun av nv cv H2 hle2 hrv => ?_
        exact ⟨(z, av, nv, cv), [(0, 0), (1, 1)], by (repeat' (first | exact trivial | refine ⟨?_, ?_⟩ | exact rfl | assumption)), hle1.trans hle2, hs.up hle2, hrv⟩
      · refine rlsys_spec he hp hl hv ha fun z H1 hle1 hs => ?_
        refine rvars_spec (ha.up hle1) hv fun av nv cv H2 hle2 hrv => ?_
        exact ⟨(z, av, nv, cv), [(0, 0), (1, 1)], by (repeat' (first | exact trivial | refine ⟨?_, ?_⟩ | exact rfl | assumption)), hle1.trans hle2, hs.up hle2, hrv⟩
    · refine rlsys_spec he hp hl hv ha fun z H1 hle1 hs => ?_
      refine rvars_spec (ha.up hle1) hv fun av nv cv H2 hle2 hrv => ?_
      exact ⟨(z, av, nv, cv), [(0, 0), (1, 1)], by (repeat' (first | exact trivial | refine ⟨?_, ?_⟩ | exact rfl | assumption)), hle1.trans hle2, hs.up hle2, hrv⟩
  rintro ⟨z, av, nv, cv⟩ H2 _ ⟨hle2, hs, hrv⟩
  dsimp only at hs hrv
  refine Bt.rleast_spec ho hs fun a1 n1 c1 H3 hle3 hr3 => ?_
  have hn1 := hr3.n_eq
  rw [hm] at hn1
  have hs3 := hs.up hle3
  have hrv3 := hrv.up hle3
  refine ⟨Nat × List (List Value) × List (List Value), fun q => ⟨[(4, .ptr 1 0), (5, .v (.slice av nv cv)), (6, .own 2), (7, .own 3), (15, .v (.slice a1 n1 c1)), (16, .v (.int .i64 n1)), (17, .v (.int .i64 q.1))],
      [(0, .cells 24 [.v (.slice a n c)]), (1, .cells 32 (vL (Bt.sysV (lsysOf p) z))), (2, .row 79 1 q.2.1), (3, .row 79 1 q.2.2)], 4⟩,
    fun q H' => Le H3 H' ∧ q.1 ≤ p.length ∧ RC (α := List Str) H' q.2.1 (((liveI p).map ens).take q.1) ∧ RC (α := List Str) H' q.2.2 (((liveO p).map ens).take q.1), fun q => p.length - q.1, ⟨(0, [], []), [(0, 0), (1, 1)], ?_, Le.refl H3, Nat.zero_le _, RC.nil, RC.nil⟩, ?_⟩
  · (repeat' (first | exact trivial | refine ⟨?_, ?_⟩ | exact rfl | assumption))
  rintro ⟨i, cs1, cs2⟩ H4 _ ⟨hle4, hi, hrc1, hrc2⟩
  dsimp only at hi hrc1 hrc2
  have hlI : ((liveI p).map ens).length = p.length := by rw [List.length_map, liveI, List.length_map, Bt.outsS, List.length_map, List.length_range]; rfl
  have hlO : ((liveO p).map ens).length = p.length := by rw [List.length_map, liveO, List.length_map, hm]
  have hc1 : cs1.length = i := by have h1 := hrc1.1; rw [List.length_take] at h1; omega
  have hc2 : cs2.length = i := by have h1 := hrc2.1; rw [List.length_take] at h1; omega
  refine ⟨fun h => ?_, fun h => ?_⟩
  · have hlt : i < p.length := by have := dt h; dsimp only at this; omega
    refine name_k (Bt.aAt (Bt.solveS (lsysOf p)) i) fun x hxe => ?_
    have hxx : (Bt.solveS (lsysOf p))[i]? = some x := by rw [hxe]; exact Bt.aAt_get hA hlt
    have hok := hA.ok x (List.mem_of_getElem? hxx)
    have hokT := Bt.tAt_ok ho i
    have hokA := Bt.bApp_ok hokT.1 hokT.2 hok
    have gI : ((liveI p).map ens)[i]? = some (ens (namesB (varsOf p) (Bt.bApp (Bt.tAt (lsysOf p) i) x))) := by
      rw [List.getElem?_map, liveI, List.getElem?_map, Bt.outsS, List.getElem?_map, List.getElem?_range (show i < (lsysOf p).m from hlt), hxe]; rfl
    have gO : ((liveO p).map ens)[i]? = some (ens (namesB (varsOf p) x)) := by
      rw [List.getElem?_map, liveO, List.getElem?_map, hxx]; rfl
    refine list_k (hr3.up hle4) hxx fun ad a5 n5 c5 q1 hh hr5 => ?_
    refine ⟨ad, ⟨by dsimp only; omega, by dsimp only; omega, q1⟩, ?_⟩
    refine ⟨_, hh, ?_⟩
    refine Bt.rout_spec ho (v := (i : Int)) ⟨by omega, by show (i : Int) < (p.length : Nat); omega⟩ hok (hs3.up hle4) hr5 fun b1 b2 b3 H5 hle5 hr6 => ?_
    rw [Int.toNat_natCast] at hr6
    refine rnames_spec (V := varsOf p) (by omega) hokA ((hrv3.up hle4).up hle5) hr6 fun d1 d2 d3 H6 hle6 hr7 => ?_
    refine ⟨⟨by show (cs1.length + 1) * 24 ≤ 140737488355328; omega, by show cs1.length + 1 ≤ 9223372036854775807; omega⟩, ?_⟩
    refine rnames_spec (V := varsOf p) (by omega) hok (((hrv3.up hle4).up hle5).up hle6) ((hr5.up hle5).up hle6) fun f1 f2 f3 H7 hle7 hr8 => ?_
    refine ⟨⟨by show (cs2.length + 1) * 24 ≤ 140737488355328; omega, by show cs2.length + 1 ≤ 9223372036854775807; omega⟩, ?_⟩
    have h47 := (hle5.trans hle6).trans hle7
    have k1 : RC (α := List Str) H7 (cs1 ++ [[.slice d1 d2 d3]]) (((liveI p).map ens).take (i + 1)) := by
      rw [List.take_add_one, gI]
      exact rc_snocS (RC.up hrc1 h47) (hr7.up hle7)
    have k2 : RC (α := List Str) H7 (cs2 ++ [[.slice f1 f2 f3]]) (((liveO p).map ens).take (i + 1)) := by
      rw [List.take_add_one, gO]
      exact rc_snocS (RC.up hrc2 h47) hr8
    refine ⟨⟨by dsimp only; omega, by dsimp only; omega⟩, (i + 1, cs1 ++ [[.slice d1 d2 d3]], cs2 ++ [[.slice f1 f2 f3]]), [(0, 0), (1, 1), (2, 5), (3, 7)], ?_, ⟨hle4.trans h47, hlt, k1, k2⟩, by dsimp only; omega⟩
    (repeat' (first | exact trivial | refine ⟨?_, ?_⟩ | exact rfl | assumption))
  · have hil : i = p.length := by have := df h; dsimp only at this; omega
    rw [hil, List.take_of_length_le (by omega)] at hrc1
    rw [hil, List.take_of_length_le (by omega)] at hrc2
    intro v1 H5 hle5 hv1
    refine of_row_k (α := List Str) hv1 (RC.up hrc1 hle5.le) fun d1 d2 d3 e1 hr1 => ?_
    subst e1
    intro v3 H7 hle7 hv3
    refine of_row_k (α := List Str) hv3 (RC.up hrc2 (hle5.le.trans hle7.le)) fun f1 f2 f3 e3 hr2 => ?_
    subst e3
    exact hK _ _ _ _ _ _ H7 (((hle2.trans hle3).trans hle4).trans (hle5.le.trans hle7.le)) (hr1.up hle7.le) hr2
end Go.Proofs
end
section
namespace Go.Proofs
open Go.Sy
set_option maxRecDepth 20000
set_option maxHeartbeats 4000000
/-! Lists of names that are one; two systems that are alike; the example of live. -/
theorem texts4_spec {l : List Bs8} {a a2 : Option Addr} {n c n2 k2 : Nat} {H : Hp} {K : Value → Hp → Prop} (ha : RL H a n c (ens l)) (hb : RL H a2 n2 k2 (ens l)) (hK : K (.bool true) H) : Does Tryz.prog 39 [.slice a n c, .slice a2 n2 k2] H K := by
  have hn := ha.n_eq
  have hn2 := hb.n_eq
  have hmx := ha.le
  rw [List.length_map] at hn hn2
  refine spec_of cx_ok cx_mix rfl Tryz.func39 Tryz.call39 Tryz.ntmps39 Tryz.results39 rfl rfl ?_
  refine ⟨(fun h => absurd (nt h) (by omega)), fun _ => ?_⟩
  refine ⟨Nat, fun i => ⟨[(0, .v (.slice a n c)), (1, .v (.slice a2 n2 k2)), (12, .v (.int .i64 n)), (13, .v (.int .i64 i))], [], 0⟩,
    fun i H' => H' = H ∧ i ≤ l.length, fun i => l.length - i, ⟨0, [], ?_, rfl, Nat.zero_le _⟩, ?_⟩
  · (repeat' (first | exact trivial | refine ⟨?_, ?_⟩ | exact rfl | assumption))
  rintro i H1 _ ⟨rfl, hi⟩
  refine ⟨fun h => ?_, fun h => ?_⟩
  · have hlt : i < l.length := by have := dt h; omega
    have ex := List.getElem?_eq_getElem hlt
    refine str_k ha ex fun ad q1 hh _ => ?_
    refine str_k hb ex fun ad2 q2 hh2 _ => ?_
    refine ⟨some ([], [0, 1, 2, 3, 4, 5, 6, 7, 8]), by kernel_rfl, ?_⟩
    refine ⟨ad, ⟨by omega, by omega, q1⟩, ?_⟩
    refine ⟨_, hh, ?_⟩
    refine ⟨ad2, ⟨by omega, by omega, q2⟩, ?_⟩
    refine ⟨_, hh2, ?_⟩
    refine ⟨(fun h => absurd h (by simp)), fun _ => ?_⟩
    refine ⟨⟨by omega, by omega⟩, i + 1, [], ?_, ⟨rfl, hlt⟩, by dsimp only; omega⟩
    (repeat' (first | exact trivial | refine ⟨?_, ?_⟩ | exact rfl | assumption))
  · exact hK
theorem lists38_spec {L : List (List Bs8)} {a a2 : Option Addr} {n c n2 k2 : Nat} {H : Hp} {K : Value → Hp → Prop} (ha : RL (α := List Str) H a n c (L.map ens)) (hb : RL (α := List Str) H a2 n2 k2 (L.map ens)) (hK : K (.bool true) H) : Does Tryz.prog 47 [.slice a n c, .slice a2 n2 k2] H K := by
  have hn := ha.n_eq
  have hn2 := hb.n_eq
  have hmx := ha.le
  rw [List.length_map] at hn hn2
  refine spec_of cx_ok cx_mix rfl Tryz.func47 Tryz.call47 Tryz.ntmps47 Tryz.results47 rfl rfl ?_
  refine ⟨(fun h => absurd (nt h) (by omega)), fun _ => ?_⟩
  refine ⟨Nat, fun i => ⟨[(0, .v (.slice a n c)), (1, .v (.slice a2 n2 k2)), (12, .v (.int .i64 n)), (13, .v (.int .i64 i))], [], 0⟩,
    fun i H' => H' = H ∧ i ≤ L.length, fun i => L.length - i, ⟨0, [], ?_, rfl, Nat.zero_le _⟩, ?_⟩
  · (repeat' (first | exact trivial | refine ⟨?_, ?_⟩ | exact rfl | assumption))
  rintro i H1 _ ⟨rfl, hi⟩
  refine ⟨fun h => ?_, fun h => ?_⟩
  · have hlt : i < L.length := by have := dt h; omega
    have ex : (L.map ens)[i]? = some (ens L[i]) := by rw [List.getElem?_map, List.getElem?_eq_getElem hlt]; rfl
    refine strs_k ha ex fun ad a5 n5 c5 q1 hh hr5 => ?_
    refine strs_k hb ex fun ad2 a6 n6 c6 q2 hh2 hr6 => ?_
    refine ⟨some ([], [0, 1, 2, 3, 4, 5, 6, 7, 8, 9]), by kernel_rfl, ?_⟩
    refine ⟨ad, ⟨by omega, by omega, q1⟩, ?_⟩
    refine ⟨_, hh, ?_⟩
    refine ⟨ad2, ⟨by omega, by omega, q2⟩, ?_⟩
    refine ⟨_, hh2, ?_⟩
    refine texts4_spec hr5 hr6 ?_
    refine ⟨(fun h => by cases h), fun _ => ?_⟩
    refine ⟨⟨by omega, by omega⟩, i + 1, [], ?_, ⟨rfl, hlt⟩, by dsimp only; omega⟩
    (repeat' (first | exact trivial | refine ⟨?_, ?_⟩ | exact rfl | assumption))
  · exact hK
namespace Bt
end Bt
def stLi : Stmt := (2, ⟨[120]⟩, 0, (⟨[]⟩, 0, 0), (⟨[]⟩, 0, 0))
def stLo : Stmt := (3, ⟨[]⟩, 0, (⟨[120]⟩, 0, 0), (⟨[]⟩, 0, 0))
def blLa : Block := (⟨[97]⟩, [stLi], (1, za, ⟨[98]⟩, ⟨[]⟩))
def blLb : Block := (⟨[98]⟩, [stLo], (3, za, ⟨[]⟩, ⟨[]⟩))
def progL : Prog := [blLa, blLb]
theorem live_L0 : isLive progL 0 [120] = true := by decide +kernel
theorem live_L1 : isLive progL 1 [120] = false := by decide +kernel
theorem zero_R : i64R 0 := ⟨by decide, by decide⟩
theorem stLi_R : stmtR stLi := ⟨⟨by decide, by decide⟩, Nat.le_of_lt_succ (by decide), zero_R, ⟨Nat.zero_le _, zero_R, zero_R⟩, ⟨Nat.zero_le _, zero_R, zero_R⟩⟩
theorem stLo_R : stmtR stLo := ⟨⟨by decide, by decide⟩, Nat.zero_le _, zero_R, ⟨Nat.le_of_lt_succ (by decide), zero_R, zero_R⟩, ⟨Nat.zero_le _, zero_R, zero_R⟩⟩
theorem stmt_mk2 {H : Hp} {s : Stmt} (h : stmtR s) : Enc.R H (.int .i64 s.1 :: .string (bs s.2.1.l) :: .int .i64 s.2.2.1 :: (atmV s.2.2.2.1 ++ atmV s.2.2.2.2)) s :=
  ⟨[.int .i64 s.1], _, rfl, ⟨rfl, h.1⟩, [.string (bs s.2.1.l)], _, rfl, ⟨rfl, h.2.1⟩, [.int .i64 s.2.2.1], atmV s.2.2.2.1 ++ atmV s.2.2.2.2, rfl, ⟨rfl, h.2.2.1⟩, atmV s.2.2.2.1, atmV s.2.2.2.2, rfl, atm_mk h.2.2.2.1, atm_mk h.2.2.2.2⟩
theorem awake38_spec {H : Hp} {K : Value → Hp → Prop} (hT : TabH H) (hK : ∀ H', Le H H' → K (.bool true) H') : Does Tryz.prog 37 [] H K := by
  refine spec_of cx_ok cx_mix rfl Tryz.func37 Tryz.call37 Tryz.ntmps37 Tryz.results37 rfl rfl ?_
  intro x H1 hle1 hx
  refine of_row_k (α := Stmt) hx (show RC (α := Stmt) H1 _ [stLi] from RC.nil.snoc (stmt_mk2 stLi_R)) fun sa sn sc ex hr1 => ?_
  subst ex
  intro x2 H2 hle2 hx2
  refine of_row_k (α := Stmt) hx2 (show RC (α := Stmt) H2 _ [stLo] from RC.nil.snoc (stmt_mk2 stLo_R)) fun sb sm sd ex2 hr2 => ?_
  subst ex2
  intro y H3 hle3 hy
  have h23 := hle2.le.trans hle3.le
  refine of_row_k (α := Block) hy (show RC (α := Block) H3 _ progL from (RC.nil.snoc (block_mk (b := blLa) (hr1.up h23) (Nat.le_of_lt_succ (by decide)) ⟨⟨by decide, by decide⟩, za_R, Nat.le_of_lt_succ (by decide), Nat.zero_le _⟩)).snoc (block_mk (b := blLb) (hr2.up hle3.le) (Nat.le_of_lt_succ (by decide)) ⟨⟨by decide, by decide⟩, za_R, Nat.zero_le _, Nat.zero_le _⟩)) fun a n c ey hr => ?_
  subst ey
  have hle := hle1.le.trans h23
  refine lis_spec (p := progL) (i := 0) (v := [120]) (by decide) (by decide) (by decide) (by decide) hr (hT.up hle) fun H4 hle4 => ?_
  rw [live_L0]
  refine ⟨fun _ => ?_, (fun h => by cases h)⟩
  intro y H3 hle3 hy
  have h23 := hle2.le.trans hle3.le
  refine of_row_k (α := Block) hy (show RC (α := Block) H3 _ progL from (RC.nil.snoc (block_mk (b := blLa) (hr1.up h23) (Nat.le_of_lt_succ (by decide)) ⟨⟨by decide, by decide⟩, za_R, Nat.le_of_lt_succ (by decide), Nat.zero_le _⟩)).snoc (block_mk (b := blLb) (hr2.up hle3.le) (Nat.le_of_lt_succ (by decide)) ⟨⟨by decide, by decide⟩, za_R, Nat.zero_le _, Nat.zero_le _⟩)) fun a n c ey hr => ?_
  subst ey
  have hle := hle1.le.trans h23
  refine lis_spec (p := progL) (i := 1) (v := [120]) (by decide) (by decide) (by decide) (by decide) hr (hT.up hle) fun H5 hle5 => ?_
  rw [live_L1]
  exact hK _ (hle1.le.trans hle2.le)
end Go.Proofs
end
section
namespace Go.Proofs
open Go.Sy
set_option maxRecDepth 20000
set_option maxHeartbeats 4000000
/-! LiveSystems, LiveSets. -/
theorem LiveSets_spec {p : Prog} {i : Int} {v : Bs8} {a : Option Addr} {n c : Nat} {H : Hp} {K : Value → Hp → Prop} (ha : RL H a n c p) (hT : TabH H) (hK : ∀ H', Le H H' → K (.bool true) H') : Does Tryz.prog 10 [.agg #[.slice a n c], .int .i64 i, .string (bs v)] H K := by
  refine spec_of cx_ok cx_mix rfl Tryz.func10 Tryz.call10 Tryz.ntmps10 Tryz.results10 rfl rfl ?_
  refine awake38_spec hT fun _ _ => ?_
  refine ⟨(fun h => by cases h), fun _ => ?_⟩
  refine small4_spec ha fun t ht => ?_
  refine ⟨fun ht0 => ?_, fun ht1 => ?_⟩
  case refine_2 => exact hK _ (Le.refl H)
  have hb4 := ht (by simpa using ht0)
  have hp := hb4.1
  have hl : ∀ b ∈ p, b.2.1.length ≤ 100000 := fun b h => by have := (hb4.2 b h).1.1; omega
  have hc : stmtsN p ≤ 1000000 := small_stmts hb4
  have hv : cnt p < 400000 := small_cnt hb4
  refine ⟨fun _ => ?_, fun _ => hK _ (Le.refl H)⟩
  refine ⟨fun _ => hK _ (Le.refl H), fun _ => ?_⟩
  refine lsets_spec hp hl hc hv ha hT (fun he H2 hle2 => ?_) (fun he a1 n1 c1 a2 n2 c2 H2 hle2 hr1 hr2 => ?_)
  · refine rcheck_spec (ha.up hle2) hc hv fun _ _ => ?_
    refine ⟨fun _ => ?_, fun h => absurd (nf h) he⟩
    refine ⟨fun _ => ?_, fun h => absurd rfl (df h)⟩
    refine ⟨⟨by decide, by decide⟩, ?_⟩
    refine ⟨fun _ => ?_, fun h => absurd rfl (df h)⟩
    refine lis_spec hp hl hc hv (ha.up hle2) (hT.up hle2) fun _ _ => ?_
    have e : isLive p i v = false := by rw [isLive, decide_eq_false he]; rfl
    rw [e]
    exact hK _ hle2
  · refine rcheck_spec (ha.up hle2) hc hv fun _ _ => ?_
    refine ⟨fun h => absurd he (nt h), fun _ => ?_⟩
    refine rsets_spec he hp hl hv (ha.up hle2) fun b1 m1 k1 b2 m2 k2 H4 hle4 hr3 hr4 => ?_
    have hm2 := hr4.n_eq
    rw [List.length_map] at hm2
    have hle := hle2.trans hle4
    have hr1 := hr1.up hle4
    have hr2 := hr2.up hle4
    refine ⟨fun h => ?_, fun h => ?_⟩
    · have h0 : 0 ≤ i := dt h
      refine ⟨fun h => ?_, fun h => ?_⟩
      · have h1 : i < (m2 : Int) := dt h
        have hlt : i.toNat < (liveO p).length := by omega
        have hg : ((liveO p).map ens)[i.toNat]? = some (ens (liveO p)[i.toNat]) := by rw [List.getElem?_map, List.getElem?_eq_getElem hlt]; rfl
        have e : isLive p i v = decide (v ∈ (liveO p)[i.toNat]) := by
          rw [isLive, decide_eq_true he, decide_eq_true h0, List.getElem?_eq_getElem hlt]; rfl
        refine strs_k hr4 hg fun ad a5 n5 c5 q1 hh hr5 => ?_
        rw [Int.toNat_of_nonneg h0] at hh
        refine ⟨ad, ⟨h0, h1, q1⟩, ?_⟩
        refine ⟨_, hh, ?_⟩
        refine rhas38_spec hr5 ?_
        refine ⟨fun _ => ?_, fun h => absurd rfl (df h)⟩
        refine lists38_spec hr1 hr3 ?_
        refine ⟨fun _ => ?_, fun h => by cases h⟩
        refine lists38_spec hr2 hr4 ?_
        refine ⟨fun _ => ?_, fun h => by cases h⟩
        refine lis_spec hp hl hc hv (ha.up hle) (hT.up hle) fun _ _ => ?_
        rw [e]
        exact kbool (hK _ hle) (by simp)
      · have h1 : ¬ i < (m2 : Int) := df h
        have e : isLive p i v = false := by
          rw [isLive, List.getElem?_eq_none (by omega)]
          simp
        refine ⟨fun _ => ?_, fun h => absurd rfl (df h)⟩
        refine lists38_spec hr1 hr3 ?_
        refine ⟨fun _ => ?_, fun h => by cases h⟩
        refine lists38_spec hr2 hr4 ?_
        refine ⟨fun _ => ?_, fun h => by cases h⟩
        refine lis_spec hp hl hc hv (ha.up hle) (hT.up hle) fun _ _ => ?_
        rw [e]
        exact kbool (hK _ hle) (by simp)
    · have h0 : ¬ 0 ≤ i := df h
      have e : isLive p i v = false := by rw [isLive, decide_eq_false h0]; simp
      refine ⟨fun _ => ?_, fun h => absurd rfl (df h)⟩
      refine lists38_spec hr1 hr3 ?_
      refine ⟨fun _ => ?_, fun h => by cases h⟩
      refine lists38_spec hr2 hr4 ?_
      refine ⟨fun _ => ?_, fun h => by cases h⟩
      refine lis_spec hp hl hc hv (ha.up hle) (hT.up hle) fun _ _ => ?_
      rw [e]
      exact kbool (hK _ hle) (by simp)
end Go.Proofs
end
