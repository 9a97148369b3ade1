/- Part 'M36' of the proof (It4, Lv6, Lv7, Lv8, Lv9, Lv10, Lv11, Lv12, Lr1, It5): lemmas, each with its own conditions in its own statement. -/
import Derived.Test.YtmpnlhcnkobpfaaGreatRDoorM30
import Derived.Test.YtmpnlhcnkobpfaaGreatRDoorM32
import Derived.Test.YtmpnlhcnkobpfaaGreatRDoorM33
import Derived.Test.YtmpnlhcnkobpfaaGreatRDoorM35
section
namespace Go.Proofs
open Go.RowKit Go.Shelf Go.Sy
set_option maxRecDepth 20000
def TabH (H : Hp) : Prop := ∃ cells T fr, H 0 = some (.cells cells T fr) ∧ ∀ j, j < 64 → cells[j]? = some (.int .u8 (Lib.deBruijn64tab.getD j 0))
theorem TabH.up {H H' : Hp} (h : TabH H) (hle : Le H H') : TabH H' := by
  obtain ⟨c, T, fr, h1, h2⟩ := h
  exact ⟨c, T, fr, hle _ _ h1, h2⟩
theorem allL_small : ∀ (l : List UInt64) (i : Nat), ∀ x ∈ allL l i, 0 ≤ x ∧ x < ((64 * (i + l.length) : Nat) : Int)
  | [], _, x, h => by cases h
  | w :: r, i, x, h => by
    rw [allL] at h
    rcases List.mem_append.1 h with h | h
    · obtain ⟨k, hk, rfl⟩ := List.mem_map.1 h
      have := List.mem_range.1 (List.mem_filter.1 hk).1
      rw [List.length_cons]
      omega
    · have := allL_small r (i + 1) x h
      rw [List.length_cons]
      omega
theorem list_spec {ws : List UInt64} (hw : ws.length ≤ 100000) {a : Option Addr} {n c : Nat} {H : Hp} {K : Value → Hp → Prop} (ha : RL H a n c ws) (hT : TabH H) (hK : ∀ a1 n1 c1 H', Le H H' → RL H' a1 n1 c1 (allL ws 0) → K (.slice a1 n1 c1) H') : Does Tryz.prog 64 [.slice a n c] H K := by
  refine ⟨Tryz.call64, fun w hp => ?_⟩
  obtain ⟨tc, tT, tf, ht1, ht2⟩ := hT
  have hb0 := hp _ _ ht1
  have hs : 0 < w.heap.size := (Array.getElem?_eq_some_iff.1 hb0).1
  have hTw : TabAt 0 Lib.deBruijn64tab w := fun j hj => by
    have hj : j < 64 := hj
    have := ht2 j hj
    simp only [World.cell?, hb0]
    exact this
  have hA : WordsAt w a n ws w.heap.size := by
    refine ⟨ha.n_eq, ?_⟩
    obtain ⟨h1, h2, _, h4⟩ := ha
    rcases h4 with h4 | ⟨ad, e, hsp, cells, T, fr, hH, hcs, hx⟩
    · exact .inl (by omega)
    · obtain ⟨b, off, sp⟩ := ad
      dsimp only at hsp hH hx hcs
      subst hsp
      have hb := hp _ _ hH
      refine .inr ⟨b, off, e, (Array.getElem?_eq_some_iff.1 hb).1, fun j hj => ?_⟩
      have hjl : j < ws.length := by omega
      obtain ⟨cs, h5, h6⟩ := hx j ws[j] (List.getElem?_eq_getElem hjl)
      have h5 : cs = [.int .u64 ws[j].toNat] := h5
      have h7 := h6 0 (by decide)
      rw [h5] at h7
      simp only [World.cell?, hb]
      rw [List.getElem?_eq_getElem hjl]
      have e1 : off + j * Enc.sz UInt64 + 0 = off + j := by show off + j * 1 + 0 = _; omega
      rw [e1] at h7
      exact h7
  have hlen := allL_len ws 0
  refine (callsIn_wide.1 (list_in a n c ws hw w hs ha.2.1 hTw hA)).mono ?_
  rintro e W' ⟨v, rfl, hown, hB⟩
  have hrowR : RC (α := Int) H (iRows (allL ws 0)) (allL ws 0) := rc_iRows fun x hx => by
    have := allL_small ws 0 x hx
    exact ⟨by omega, by omega⟩
  rcases hown.2 with ⟨rfl, hz⟩ | ⟨g, cap, cur, rfl, hg, hgb, h5, h6, h7, h8⟩
  · refine ⟨_, H, rfl, hK none 0 0 H (Le.refl H) ?_, Le.refl H, fun b o hb => ?_, fun b hb _ => hb, hB⟩
    · rw [List.eq_nil_of_length_eq_zero hz]; exact rl_nil
    · rw [hB.block b (Array.getElem?_eq_some_iff.1 (hp b o hb)).1]; exact hp b o hb
  · have hgn : H g = none := by
      cases hh : H g with
      | none => rfl
      | some o => have := (Array.getElem?_eq_some_iff.1 (hp g o hh)).1; omega
    obtain ⟨H', hH'⟩ : ∃ H' : Hp, H' = fun b => if b = g then some (.cells cur 3 (0, 0)) else H b := ⟨_, rfl⟩
    have hle : Le H H' := fun b o hb => by
      rw [hH']
      dsimp only
      rw [if_neg (fun e => by rw [e, hgn] at hb; cases hb)]
      exact hb
    refine ⟨_, H', rfl, ?_, hle, fun b o hb => ?_, fun b hb hlt => ?_, hB⟩
    · have hrow : RowAt H' (.slice (some ⟨g, 0, none⟩) (allL ws 0).length cap) 1 (iRows (allL ws 0)) := by
        refine ⟨some ⟨g, 0, none⟩, cap, by rw [List.length_map], ⟨by rw [List.length_map]; exact h5, by simp only [maxLen] at h6; omega⟩, iRows_one _, .inr ⟨⟨g, 0, none⟩, rfl, rfl, cur, 3, (0, 0), by rw [hH']; simp, by dsimp only; omega, fun i x hi j hj => ?_⟩⟩
        have hj0 : j = 0 := by omega
        subst hj0
        rw [List.getElem?_map] at hi
        obtain ⟨y, hy, rfl⟩ := Option.map_eq_some_iff.1 hi
        have hil := (List.getElem?_eq_some_iff.1 hy).1
        have h9 : (cur.toList.take ((allL ws 0).length * 1))[i]? = some (.int .i64 y) := by rw [h8, List.getElem?_map, hy]; rfl
        rw [List.getElem?_take, if_pos (by omega)] at h9
        have e : 0 + i * 1 + 0 = i := by omega
        rw [e, ← Array.getElem?_toList, h9]; rfl
      refine of_row_k (α := Int) hrow (hrowR.up hle) fun a1 n1 c1 ev hr => ?_
      rw [ev]
      exact hK _ _ _ _ hle hr
    · rw [hH'] at hb
      dsimp only at hb
      split at hb
      · rename_i e
        rw [e, hgb]; exact hb
      · rw [hB.block b (Array.getElem?_eq_some_iff.1 (hp b o hb)).1]; exact hp b o hb
    · rw [hH']
      dsimp only
      rw [if_neg (by omega)]
      exact hb
end Go.Proofs
end
section
namespace Go.Proofs
open Go.Sy
set_option maxRecDepth 20000
set_option maxHeartbeats 4000000
def numB (x : Wd) : List Int := allL x 0
theorem allL_has : ∀ (l : Wd) (i : Nat) (m : Nat), ((m : Int) ∈ allL l i) ↔ (64 * i ≤ m ∧ bitAt l (m - 64 * i) = true)
  | [], i, m => by simp [allL, bitAt]
  | w :: r, i, m => by
    rw [allL, List.mem_append, allL_has r (i + 1) m]
    constructor
    · rintro (h | ⟨h1, h2⟩)
      · obtain ⟨k, hk, e⟩ := List.mem_map.1 h
        obtain ⟨h3, h4⟩ := List.mem_filter.1 hk
        have h3 := List.mem_range.1 h3
        have e : m = i * 64 + k := by omega
        refine ⟨by omega, ?_⟩
        rw [bitAt, show (m - 64 * i) / 64 = 0 by omega, show (m - 64 * i) % 64 = k by omega]
        simpa using h4
      · refine ⟨by omega, ?_⟩
        rw [bitAt] at h2 ⊢
        rw [show (m - 64 * i) / 64 = (m - 64 * (i + 1)) / 64 + 1 by omega, show (m - 64 * i) % 64 = (m - 64 * (i + 1)) % 64 by omega, List.getElem?_cons_succ]
        exact h2
    · rintro ⟨h1, h2⟩
      by_cases h3 : m - 64 * i < 64
      · left
        refine List.mem_map.2 ⟨m - 64 * i, List.mem_filter.2 ⟨List.mem_range.2 h3, ?_⟩, by omega⟩
        rw [bitAt, show (m - 64 * i) / 64 = 0 by omega, show (m - 64 * i) % 64 = m - 64 * i by omega] at h2
        simpa using h2
      · right
        refine ⟨by omega, ?_⟩
        rw [bitAt] at h2 ⊢
        rw [show (m - 64 * i) / 64 = (m - 64 * (i + 1)) / 64 + 1 by omega, show (m - 64 * i) % 64 = (m - 64 * (i + 1)) % 64 by omega, List.getElem?_cons_succ] at h2
        exact h2
theorem allL_nat : ∀ (l : Wd) (i : Nat), ∀ x ∈ allL l i, 0 ≤ x
  | [], _, x, h => by cases h
  | w :: r, i, x, h => by
    rw [allL] at h
    rcases List.mem_append.1 h with h | h
    · obtain ⟨k, _, rfl⟩ := List.mem_map.1 h; omega
    · exact allL_nat r (i + 1) x h
theorem num_in {w : Nat} {x : Wd} (hx : okB w x) : ∀ n ∈ numB x, 0 ≤ n ∧ n < (w : Int) := fun n hn => by
  have h0 := allL_nat x 0 n hn
  have h1 := (allL_has x 0 n.toNat).1 (by rw [Int.toNat_of_nonneg h0]; exact hn)
  refine ⟨h0, ?_⟩
  by_cases h : n < (w : Int)
  · exact h
  · have := hx.2 n.toNat (by omega)
    have h2 := h1.2
    rw [show n.toNat - 64 * 0 = n.toNat by omega, this] at h2
    cases h2
end Go.Proofs
end
section
namespace Go.Proofs
open Go.Sy
set_option maxRecDepth 20000
set_option maxHeartbeats 4000000
end Go.Proofs
end
section
namespace Go.Proofs
open Go.Sy
set_option maxRecDepth 20000
set_option maxHeartbeats 4000000
end Go.Proofs
end
section
namespace Go.Proofs
open Go.Sy
set_option maxRecDepth 20000
set_option maxHeartbeats 4000000
end Go.Proofs
end
section
namespace Go.Proofs
open Go.Sy
set_option maxRecDepth 20000
set_option maxHeartbeats 4000000
end Go.Proofs
end
section
namespace Go.Proofs
open Go.Sy
set_option maxRecDepth 20000
set_option maxHeartbeats 4000000
theorem wordL_in {i w : Nat} : ∀ n ∈ wordL i w, (64 * i : Nat) ≤ n ∧ n < ((64 * (i + 1) : Nat) : Int) := fun n hn => by
  obtain ⟨k, hk, rfl⟩ := List.mem_map.1 hn
  have := List.mem_range.1 (List.mem_filter.1 hk).1
  omega
theorem wordL_strict (i w : Nat) : StrictL (wordL i w) := by
  refine List.pairwise_map.2 (List.Pairwise.imp (fun {a b} (h : a < b) => ?_) (List.Pairwise.filter _ List.pairwise_lt_range))
  show ((i * 64 + a : Nat) : Int) < ((i * 64 + b : Nat) : Int)
  omega
theorem allL_ge (l : Wd) (i : Nat) : ∀ n ∈ allL l i, (64 * i : Nat) ≤ n := fun n hn => by
  have h0 := allL_nat l i n hn
  have h1 := (allL_has l i n.toNat).1 (by rw [Int.toNat_of_nonneg h0]; exact hn)
  omega
theorem allL_strict : ∀ (l : Wd) (i : Nat), StrictL (allL l i)
  | [], _ => List.Pairwise.nil
  | w :: r, i => by
    rw [allL]
    refine List.pairwise_append.2 ⟨wordL_strict _ _, allL_strict r (i + 1), fun a ha b hb => ?_⟩
    have h1 := wordL_in a ha
    have h2 := allL_ge r (i + 1) b hb
    show a < b
    omega
def bitsTo (x : Wd) (n : Nat) : List Int := ((List.range n).filter (bitAt x)).map fun k : Nat => (k : Int)
theorem bitsTo_succ (x : Wd) (n : Nat) : bitsTo x (n + 1) = bitsTo x n ++ (if bitAt x n = true then [(n : Int)] else []) := by
  rw [bitsTo, List.range_succ, List.filter_append, List.map_append]
  by_cases h : bitAt x n = true
  · simp [bitsTo, h]
  · simp [bitsTo, h]
theorem bitsTo_len (x : Wd) (n : Nat) : (bitsTo x n).length ≤ n := by
  rw [bitsTo, List.length_map]
  exact Nat.le_trans (List.length_filter_le _ _) (by rw [List.length_range]; exact Nat.le_refl _)
theorem numB_eq {w : Nat} {x : Wd} (hx : okB w x) : numB x = bitsTo x w := by
  refine strict_ext (allL_strict x 0) ?_ fun n => ?_
  · refine List.pairwise_map.2 (List.Pairwise.imp (fun {a b} (h : a < b) => ?_) (List.Pairwise.filter _ List.pairwise_lt_range))
    show (a : Int) < (b : Int)
    omega
  · constructor
    · intro h
      have h0 := num_in hx n h
      have h1 := (allL_has x 0 n.toNat).1 (by rw [Int.toNat_of_nonneg h0.1]; exact h)
      refine List.mem_map.2 ⟨n.toNat, List.mem_filter.2 ⟨List.mem_range.2 (by omega), by simpa using h1.2⟩, by omega⟩
    · intro h
      obtain ⟨k, hk, rfl⟩ := List.mem_map.1 h
      exact (allL_has x 0 k).2 ⟨by omega, by simpa using (List.mem_filter.1 hk).2⟩
end Go.Proofs
end
section
namespace Go.Proofs
open Go.Sy
set_option maxRecDepth 20000
set_option maxHeartbeats 4000000
namespace Bt
end Bt
theorem stmt_mk2 {H : Hp} {s : Stmt} (h : stmtR s) : Enc.R H (.int .i64 s.1 :: .string (bs s.2.1.l) :: .int .i64 s.2.2.1 :: (atmV s.2.2.2.1 ++ atmV s.2.2.2.2)) s :=
  ⟨[.int .i64 s.1], _, rfl, ⟨rfl, h.1⟩, [.string (bs s.2.1.l)], _, rfl, ⟨rfl, h.2.1⟩, [.int .i64 s.2.2.1], atmV s.2.2.2.1 ++ atmV s.2.2.2.2, rfl, ⟨rfl, h.2.2.1⟩, atmV s.2.2.2.1, atmV s.2.2.2.2, rfl, atm_mk h.2.2.2.1, atm_mk h.2.2.2.2⟩
end Go.Proofs
end
section
namespace Go.Proofs
open Go.Sy
set_option maxRecDepth 20000
set_option maxHeartbeats 4000000
def agree (V : List Bs8) (P : Nat → Bs8 → Prop) (e1 e2 : List Nm) : Prop :=
  e1.length = V.length ∧ e2.length = V.length ∧ ∀ (m : Nat) (v : Bs8), V[m]? = some v → P m v → e1[m]? = e2[m]?
end Go.Proofs
end
section
namespace Go.Proofs
open Go.RowKit Go.Shelf Go.Sy
set_option maxRecDepth 20000
theorem list2_spec {ws : List UInt64} (hw : ws.length ≤ 100000) {a : Option Addr} {n c : Nat} {H : Hp} {K : Value → Hp → Prop} (ha : RL H a n c ws) (hT : TabH H) (hK : ∀ a1 n1 c1 H', LeN 3 1 (iRows (allL ws 0)) H (.slice a1 n1 c1) H' → K (.slice a1 n1 c1) H') : Does Tryz.prog 64 [.slice a n c] H K := by
  refine ⟨Tryz.call64, fun w hp => ?_⟩
  obtain ⟨tc, tT, tf, ht1, ht2⟩ := hT
  have hb0 := hp _ _ ht1
  have hs : 0 < w.heap.size := (Array.getElem?_eq_some_iff.1 hb0).1
  have hTw : TabAt 0 Lib.deBruijn64tab w := fun j hj => by
    have hj : j < 64 := hj
    have := ht2 j hj
    simp only [World.cell?, hb0]
    exact this
  have hA : WordsAt w a n ws w.heap.size := by
    refine ⟨ha.n_eq, ?_⟩
    obtain ⟨h1, h2, _, h4⟩ := ha
    rcases h4 with h4 | ⟨ad, e, hsp, cells, T, fr, hH, hcs, hx⟩
    · exact .inl (by omega)
    · obtain ⟨b, off, sp⟩ := ad
      dsimp only at hsp hH hx hcs
      subst hsp
      have hb := hp _ _ hH
      refine .inr ⟨b, off, e, (Array.getElem?_eq_some_iff.1 hb).1, fun j hj => ?_⟩
      have hjl : j < ws.length := by omega
      obtain ⟨cs, h5, h6⟩ := hx j ws[j] (List.getElem?_eq_getElem hjl)
      have h5 : cs = [.int .u64 ws[j].toNat] := h5
      have h7 := h6 0 (by decide)
      rw [h5] at h7
      simp only [World.cell?, hb]
      rw [List.getElem?_eq_getElem hjl]
      have e1 : off + j * Enc.sz UInt64 + 0 = off + j := by show off + j * 1 + 0 = _; omega
      rw [e1] at h7
      exact h7
  have hlen := allL_len ws 0
  refine (callsIn_wide.1 (list_in a n c ws hw w hs ha.2.1 hTw hA)).mono ?_
  rintro e W' ⟨v, rfl, hown, hB⟩
  have hrowR : RC (α := Int) H (iRows (allL ws 0)) (allL ws 0) := rc_iRows fun x hx => by
    have := allL_small ws 0 x hx
    exact ⟨by omega, by omega⟩
  rcases hown.2 with ⟨rfl, hz⟩ | ⟨g, cap, cur, rfl, hg, hgb, h5, h6, h7, h8⟩
  · refine ⟨_, H, rfl, hK none 0 0 H ⟨Le.refl H, .inl ⟨rfl, ?_⟩⟩, Le.refl H, fun b o hb => ?_, fun b hb _ => hb, hB⟩
    · rw [List.eq_nil_of_length_eq_zero hz]; rfl
    · rw [hB.block b (Array.getElem?_eq_some_iff.1 (hp b o hb)).1]; exact hp b o hb
  · have hgn : H g = none := by
      cases hh : H g with
      | none => rfl
      | some o => have := (Array.getElem?_eq_some_iff.1 (hp g o hh)).1; omega
    obtain ⟨H', hH'⟩ : ∃ H' : Hp, H' = fun b => if b = g then some (.cells cur 3 (0, 0)) else H b := ⟨_, rfl⟩
    have hle : Le H H' := fun b o hb => by
      rw [hH']
      dsimp only
      rw [if_neg (fun e => by rw [e, hgn] at hb; cases hb)]
      exact hb
    refine ⟨_, H', rfl, ?_, hle, fun b o hb => ?_, fun b hb hlt => ?_, hB⟩
    · refine hK (some ⟨g, 0, none⟩) (allL ws 0).length cap H' ⟨hle, .inr ⟨g, cap, cur, by rw [iRows, List.length_map], hgn, by rw [hH']; simp, by rw [iRows, List.length_map]; exact h5, h6, h7, ?_⟩⟩
      rw [iRows, List.length_map, iRows_flat2]
      exact h8
    · rw [hH'] at hb
      dsimp only at hb
      split at hb
      · rename_i e
        rw [e, hgb]; exact hb
      · rw [hB.block b (Array.getElem?_eq_some_iff.1 (hp b o hb)).1]; exact hp b o hb
    · rw [hH']
      dsimp only
      rw [if_neg (by omega)]
      exact hb
end Go.Proofs
end
