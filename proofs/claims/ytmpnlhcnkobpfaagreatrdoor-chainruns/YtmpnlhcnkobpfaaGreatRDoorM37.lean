/- Part 'M37' of the proof (Av1, Av2, Rc0, Rc1, Av3, Av4, Av5, Av6, Av7, Av8, Av9, Rc2, Rc3, Rc4, Av10, Av11, Ar1): lemmas, each with its own conditions in its own statement. -/
import Derived.Test.YtmpnlhcnkobpfaaGreatRDoorM32
import Derived.Test.YtmpnlhcnkobpfaaGreatRDoorM33
import Derived.Test.YtmpnlhcnkobpfaaGreatRDoorM34
import Derived.Test.YtmpnlhcnkobpfaaGreatRDoorM35
import Derived.Test.YtmpnlhcnkobpfaaGreatRDoorM36
section
namespace Go.Proofs
open Go.Sy
set_option maxRecDepth 20000
set_option maxHeartbeats 4000000
abbrev bN (v : Bs8) : List (Nat × Bx) := [(0, .cells 9 [.v (.string (bs v))])]
end Go.Proofs
end
section
namespace Go.Proofs
open Go.Sy
set_option maxRecDepth 20000
set_option maxHeartbeats 4000000
theorem stmts_R {H : Hp} {a : Option Addr} {n c : Nat} {l : List Stmt} (h : RL H a n c l) : ∀ s ∈ l, stmtR s := fun s hs => by
  obtain ⟨i, hi⟩ := List.getElem?_of_mem hs
  exact stmt_k h hi fun _ _ _ hr => hr
theorem prog_R {H : Hp} {a : Option Addr} {n c : Nat} {p : Prog} (h : RL H a n c p) : ∀ b ∈ p, ∀ s ∈ b.2.1, stmtR s := fun b hb => by
  obtain ⟨i, hi⟩ := List.getElem?_of_mem hb
  exact block_k h hi fun _ _ _ _ _ _ hr _ _ => stmts_R hr
end Go.Proofs
end
section
namespace Go.Proofs
open Go.Sy
set_option maxRecDepth 20000
set_option maxHeartbeats 4000000
abbrev Site := Int × Int × Str
def defS (s : Stmt) : Bool := decide (s.1 = 1) || decide (s.1 = 2)
def siteK (i k : Nat) (s : Stmt) : List Site := if defS s = true then [((i : Int), (k : Int), s.2.1)] else []
def siteL (i : Nat) : List Stmt → Nat → List Site
  | [], _ => []
  | s :: r, k => siteK i k s ++ siteL i r (k + 1)
def siteP : Prog → Nat → List Site
  | [], _ => []
  | b :: r, i => siteL i b.2.1 0 ++ siteP r (i + 1)
def site0 (V : List Bs8) : List Site := V.map fun v => ((-1 : Int), (0 : Int), (⟨v⟩ : Str))
def sitesOf (p : Prog) : List Site := site0 (varsOf p) ++ siteP p 0
theorem siteL_take (i : Nat) : ∀ (l : List Stmt) (k j : Nat) (s : Stmt), l[k]? = some s → siteL i (l.take (k + 1)) j = siteL i (l.take k) j ++ siteK i (j + k) s
  | [], k, j, s, h => by simp at h
  | x :: r, 0, j, s, h => by
    rw [List.getElem?_cons_zero] at h
    cases h
    simp [siteL]
  | x :: r, k + 1, j, s, h => by
    rw [List.getElem?_cons_succ] at h
    rw [List.take_succ_cons, List.take_succ_cons, siteL, siteL, siteL_take i r k (j + 1) s h, List.append_assoc, show j + 1 + k = j + (k + 1) by omega]
theorem siteP_take : ∀ (p : Prog) (i j : Nat) (b : Block), p[i]? = some b → siteP (p.take (i + 1)) j = siteP (p.take i) j ++ siteL (j + i) b.2.1 0
  | [], i, j, b, h => by simp at h
  | x :: r, 0, j, b, h => by
    rw [List.getElem?_cons_zero] at h
    cases h
    simp [siteP]
  | x :: r, i + 1, j, b, h => by
    rw [List.getElem?_cons_succ] at h
    rw [List.take_succ_cons, List.take_succ_cons, siteP, siteP, siteP_take r i (j + 1) b h, List.append_assoc, show j + 1 + i = j + (i + 1) by omega]
theorem siteL_len (i : Nat) : ∀ (l : List Stmt) (k : Nat), (siteL i l k).length ≤ l.length
  | [], _ => Nat.le_refl _
  | s :: r, k => by
    have h := siteL_len i r (k + 1)
    rw [siteL, List.length_append, List.length_cons]
    have h2 : (siteK i k s).length ≤ 1 := by
      unfold siteK
      split <;> simp
    omega
theorem siteP_len : ∀ (p : Prog) (i : Nat), (siteP p i).length ≤ stmtsN p
  | [], _ => Nat.zero_le _
  | b :: r, i => by
    have h := siteP_len r (i + 1)
    have h2 := siteL_len i b.2.1 0
    have e : stmtsN (b :: r) = b.2.1.length + stmtsN r := by simp [stmtsN]
    rw [siteP, List.length_append, e]
    omega
def siteR (x : Site) : Prop := inI x.1 ∧ inI x.2.1 ∧ x.2.2.l.length ≤ 9223372036854775807
structure FamT (p : Prog) (Z : Nat → List Site) (G : Nat → List Site) (F : Nat → Nat → List Site) : Prop where
  z0 : Z 0 = []
  zs : ∀ i v, (varsOf p)[i]? = some v → Z (i + 1) = Z i ++ [((-1 : Int), (0 : Int), (⟨v⟩ : Str))]
  zl : ∀ i, (Z i).length ≤ i
  g0 : Z (varsOf p).length = G 0
  f0 : ∀ i, G i = F i 0
  fs : ∀ i k b s, p[i]? = some b → b.2.1[k]? = some s → F i (k + 1) = F i k ++ siteK i k s
  gs : ∀ i b, p[i]? = some b → F i b.2.1.length = G (i + 1)
  ge : G p.length = sitesOf p
  fl : ∀ i k, (F i k).length ≤ (varsOf p).length + stmtsN p + k
theorem stmtsN_tk : ∀ (p : Prog) (i : Nat), stmtsN (p.take i) ≤ stmtsN p
  | [], i => by simp
  | b :: r, 0 => by simp [stmtsN]
  | b :: r, i + 1 => by
    have h := stmtsN_tk r i
    simp only [stmtsN, List.take_succ_cons, List.map_cons, List.sum_cons] at h ⊢
    omega
theorem famT_k {P : Prop} (p : Prog) (k : ∀ Z G F, FamT p Z G F → P) : P := by
  refine k (fun i => site0 ((varsOf p).take i)) (fun i => site0 (varsOf p) ++ siteP (p.take i) 0) (fun i k => site0 (varsOf p) ++ siteP (p.take i) 0 ++ siteL i (((p[i]?.map fun b => b.2.1).getD []).take k) 0) ⟨rfl, fun i v hv => ?_, fun i => ?_, ?_, fun i => ?_, fun i k b s hb hs => ?_, fun i b hb => ?_, ?_, fun i k => ?_⟩
  · rw [site0, site0, List.take_add_one, hv, Option.toList_some, List.map_append]; rfl
  · rw [site0, List.length_map, List.length_take]; omega
  · rw [List.take_length, List.take_zero, siteP, List.append_nil]
  · rw [List.take_zero, siteL, List.append_nil]
  · rw [hb, List.append_assoc]
    show _ = _ ++ (siteL i (b.2.1.take k) 0) ++ siteK i k s
    rw [List.append_assoc]
    show site0 (varsOf p) ++ (siteP (p.take i) 0 ++ siteL i (b.2.1.take (k + 1)) 0) = _
    rw [siteL_take i b.2.1 k 0 s hs, Nat.zero_add]
    simp only [List.append_assoc]
  · rw [hb]
    show site0 (varsOf p) ++ siteP (p.take i) 0 ++ siteL i (b.2.1.take b.2.1.length) 0 = _
    rw [List.take_length, siteP_take p i 0 b hb, Nat.zero_add, List.append_assoc]
  · rw [List.take_length]; rfl
  · have h1 := siteP_len (p.take i) 0
    have h2 := siteL_len i (((p[i]?.map fun b => b.2.1).getD []).take k) 0
    have h3 := stmtsN_tk p i
    rw [List.length_take] at h2
    rw [List.length_append, List.length_append, site0, List.length_map]
    omega
abbrev siteV (x : Site) : List Value := [.int .i64 x.1, .int .i64 x.2.1, .string (bs x.2.2.l)]
abbrev zRows (l : List Site) : List (List Value) := l.map siteV
theorem rc_zRows {H : Hp} : ∀ {l : List Site}, (∀ x ∈ l, siteR x) → RC (α := Site) H (zRows l) l := fun {l} h => by
  refine ⟨List.length_map _, fun i cs x h1 h2 => ?_⟩
  rw [List.getElem?_map, h2] at h1
  cases h1
  have hx := h x (List.mem_of_getElem? h2)
  exact ⟨[.int .i64 x.1], [.int .i64 x.2.1, .string (bs x.2.2.l)], rfl, ⟨rfl, hx.1⟩, [.int .i64 x.2.1], [.string (bs x.2.2.l)], rfl, ⟨rfl, hx.2.1⟩, rfl, hx.2.2⟩
theorem siteL_R (i : Nat) (hi : i ≤ 1000000) : ∀ (l : List Stmt) (k : Nat), k + l.length ≤ 1000000 → (∀ s ∈ l, stmtR s) → ∀ x ∈ siteL i l k, siteR x
  | [], _, _, _, x, h => by cases h
  | s :: r, k, hk, hl, x, h => by
    rw [List.length_cons] at hk
    rw [siteL] at h
    rcases List.mem_append.1 h with h | h
    · unfold siteK at h
      split at h
      · rw [List.mem_singleton] at h
        rw [h]
        have hs := hl s List.mem_cons_self
        exact ⟨⟨by show _ ≤ ((i : Nat) : Int); omega, by show ((i : Nat) : Int) ≤ _; omega⟩, ⟨by show _ ≤ ((k : Nat) : Int); omega, by show ((k : Nat) : Int) ≤ _; omega⟩, hs.2.1⟩
      · cases h
    · exact siteL_R i hi r (k + 1) (by omega) (fun t ht => hl t (List.mem_cons_of_mem _ ht)) x h
theorem siteP_R : ∀ (p : Prog) (i : Nat), i + p.length ≤ 1000000 → (∀ b ∈ p, b.2.1.length ≤ 100000) → (∀ b ∈ p, ∀ s ∈ b.2.1, stmtR s) → ∀ x ∈ siteP p i, siteR x
  | [], _, _, _, _, x, h => by cases h
  | b :: r, i, hi, hl, hR, x, h => by
    rw [List.length_cons] at hi
    rw [siteP] at h
    rcases List.mem_append.1 h with h | h
    · exact siteL_R i (by omega) b.2.1 0 (by have := hl b List.mem_cons_self; omega) (hR b List.mem_cons_self) x h
    · exact siteP_R r (i + 1) (by omega) (fun c hc => hl c (List.mem_cons_of_mem _ hc)) (fun c hc => hR c (List.mem_cons_of_mem _ hc)) x h
theorem sites_R {p : Prog} (hp : p.length ≤ 12) (hl : ∀ b ∈ p, b.2.1.length ≤ 100000) (hR : ∀ b ∈ p, ∀ s ∈ b.2.1, stmtR s) (hV : ∀ v ∈ varsOf p, v.length ≤ 9223372036854775807) : ∀ x ∈ sitesOf p, siteR x := fun x h => by
  rw [sitesOf] at h
  rcases List.mem_append.1 h with h | h
  · obtain ⟨v, hv, rfl⟩ := List.mem_map.1 h
    exact ⟨(show inI (-1) from ⟨by decide, by decide⟩), (show inI 0 from ⟨by decide, by decide⟩), hV v hv⟩
  · exact siteP_R p 0 (by omega) hl hR x h
theorem tsites_spec {p : Prog} (hp : p.length ≤ 12) (hl : ∀ b ∈ p, b.2.1.length ≤ 100000) (hc : stmtsN p ≤ 1000000) (hv : cnt p < 400000) (hv64 : (varsOf p).length ≤ 64) {a : Option Addr} {n c : Nat} {H : Hp} {K : Value → Hp → Prop} (ha : RL H a n c p) (hK : ∀ a1 n1 c1 H', Le H H' → RL (α := Site) H' a1 n1 c1 (sitesOf p) → K (.slice a1 n1 c1) H') : Does Tryz.prog 28 [.agg #[.slice a n c]] H K := by
  have hn := ha.n_eq
  have hPR := prog_R ha
  refine famT_k p fun Z G F hF => ?_
  refine spec_of cx_ok cx_mix rfl Tryz.func28 Tryz.call28 Tryz.ntmps28 Tryz.results28 rfl rfl ?_
  refine pvars_spec ha hv fun av nv cv H1 hle1 hrv => ?_
  have hnv := hrv.n_eq
  rw [List.length_map] at hnv
  have hsm := ens_small hrv
  refine ⟨Nat, fun i => ⟨[(1, .ptr 0 0), (3, .own 1), (11, .v (.slice av nv cv)), (12, .v (.int .i64 nv)), (13, .v (.int .i64 i))], [(0, .cells 24 [.v (.slice a n c)]), (1, .row 75 3 (zRows (Z i)))], 2⟩,
    fun i H' => H' = H1 ∧ i ≤ (varsOf p).length, fun i => (varsOf p).length - i, ⟨0, [(0, 0)], ?_, rfl, Nat.zero_le _⟩, ?_⟩
  · have e1 : zRows (Z 0) = [] := by rw [hF.z0]; rfl
    (repeat' (first|exact trivial|refine ⟨?_,?_⟩|exact rfl|assumption))
  rintro i H2 _ ⟨rfl, hi⟩
  have hzl := hF.zl i
  have hzz : (zRows (Z i)).length = (Z i).length := List.length_map _
  refine ⟨fun h => ?_, fun h => ?_⟩
  · have hlt : i < (varsOf p).length := by have := dt h; omega
    refine name_k (varsOf p)[i] fun v hve => ?_
    have hvv : (varsOf p)[i]? = some v := by rw [hve]; exact List.getElem?_eq_getElem hlt
    have hzs := hF.zs i v hvv
    refine str_k hrv hvv fun ad q1 hh _ => ?_
    refine ⟨ad, ⟨by omega, by omega, q1⟩, ?_⟩
    refine ⟨_, hh, ?_⟩
    have e1 : zRows (Z i) ++ [[.int .i64 (-1), .int .i64 0, .string (bs v)]] = zRows (Z (i + 1)) := by rw [hzs, zRows, zRows, List.map_append]; rfl
    refine ⟨⟨by show ((zRows (Z i)).length + 1) * 32 ≤ 140737488355328; omega, by show (zRows (Z i)).length + 1 ≤ 9223372036854775807; omega⟩, ?_⟩
    refine ⟨⟨by omega, by omega⟩, i + 1, [(0, 0), (1, 3)], ?_, ⟨rfl, hlt⟩, by dsimp only; omega⟩
    (repeat' (first|exact trivial|refine ⟨?_,?_⟩|exact rfl|assumption))
  have hil : i = (varsOf p).length := by have := df h; omega
  rw [hil, hF.g0]
  refine ⟨Nat, fun i => ⟨[(1, .ptr 0 0), (3, .own 1), (24, .v (.slice a n c)), (25, .v (.int .i64 n)), (26, .v (.int .i64 i))], [(0, .cells 24 [.v (.slice a n c)]), (1, .row 75 3 (zRows (G i)))], 2⟩,
    fun i H' => H' = H2 ∧ i ≤ p.length, fun i => p.length - i, ⟨0, [(0, 0), (1, 1)], ?_, rfl, Nat.zero_le _⟩, ?_⟩
  · (repeat' (first|exact trivial|refine ⟨?_,?_⟩|exact rfl|assumption))
  rintro i H3 _ ⟨rfl, hi⟩
  refine ⟨fun h => ?_, fun h => ?_⟩
  · have hlt : i < p.length := by have := dt h; omega
    refine name_k p[i] fun b hbe => ?_
    have hbb : p[i]? = some b := by rw [hbe]; exact List.getElem?_eq_getElem hlt
    have hbl := hl b (List.mem_of_getElem? hbb)
    refine block_k (ha.up hle1) hbb fun ad a5 n5 c5 q1 hh hr5 hs5 ht5 => ?_
    have hn5 : n5 = b.2.1.length := hr5.n_eq
    refine ⟨ad, ⟨by omega, by omega, q1⟩, ?_⟩
    refine ⟨_, hh, ?_⟩
    refine ⟨Nat, fun k => ⟨[(1, .ptr 0 0), (3, .own 1), (6, .v (.int .i64 i)), (24, .v (.slice a n c)), (25, .v (.int .i64 n)), (26, .v (.int .i64 i)), (32, .v (.slice a5 n5 c5)), (33, .v (.int .i64 n5)), (34, .v (.int .i64 k))], [(0, .cells 24 [.v (.slice a n c)]), (1, .row 75 3 (zRows (F i k)))], 2⟩,
      fun k H' => H' = H3 ∧ k ≤ b.2.1.length, fun k => b.2.1.length - k, ⟨0, [(0, 0), (1, 1)], ?_, rfl, Nat.zero_le _⟩, ?_⟩
    · have e1 : zRows (G i) = zRows (F i 0) := by rw [hF.f0]
      (repeat' (first|exact trivial|refine ⟨?_,?_⟩|exact rfl|assumption))
    rintro k H4 _ ⟨rfl, hk⟩
    have hfl := hF.fl i k
    have hxl : (zRows (F i k)).length = (F i k).length := List.length_map _
    refine ⟨fun h => ?_, fun h => ?_⟩
    · have hkl : k < b.2.1.length := by have := dt h; omega
      refine name_k b.2.1[k] fun s hse => ?_
      have hss : b.2.1[k]? = some s := by rw [hse]; exact List.getElem?_eq_getElem hkl
      have hst := hF.fs i k b s hbb hss
      refine stmt_k hr5 hss fun ad2 q2 hh2 hR => ?_
      refine ⟨ad2, ⟨by omega, by omega, q2⟩, ?_⟩
      refine ⟨_, hh2, ?_⟩
      refine ⟨fun h1 => ?_, fun h1 => ?_⟩
      · have h1 : ¬ s.1 = 1 := df h1
        refine ⟨fun h2 => ?_, fun h2 => ?_⟩
        · have h2 : s.1 = 2 := dt h2
          have hyes : defS s = true := by rw [defS, decide_eq_true h2, Bool.or_true]
          have e1 : zRows (F i k) ++ [[.int .i64 (i : Nat), .int .i64 (k : Nat), .string (bs s.2.1.l)]] = zRows (F i (k + 1)) := by rw [hst, siteK, if_pos hyes, zRows, zRows, List.map_append]; rfl
          refine ⟨⟨by show ((zRows (F i k)).length + 1) * 32 ≤ 140737488355328; omega, by show (zRows (F i k)).length + 1 ≤ 9223372036854775807; omega⟩, ?_⟩
          refine ⟨⟨by omega, by omega⟩, k + 1, [(0, 0), (1, 4)], ?_, ⟨rfl, hkl⟩, by dsimp only; omega⟩
          (repeat' (first|exact trivial|refine ⟨?_,?_⟩|exact rfl|assumption))
        · have h2 : ¬ s.1 = 2 := df h2
          have hno : ¬ defS s = true := by rw [defS, decide_eq_false h1, decide_eq_false h2]; decide
          have e1 : zRows (F i k) = zRows (F i (k + 1)) := by rw [hst, siteK, if_neg hno, List.append_nil]
          refine ⟨⟨by omega, by omega⟩, k + 1, [(0, 0), (1, 1)], ?_, ⟨rfl, hkl⟩, by dsimp only; omega⟩
          (repeat' (first|exact trivial|refine ⟨?_,?_⟩|exact rfl|assumption))
      · have h1 : s.1 = 1 := dt h1
        have hyes : defS s = true := by rw [defS, decide_eq_true h1, Bool.true_or]
        have e1 : zRows (F i k) ++ [[.int .i64 (i : Nat), .int .i64 (k : Nat), .string (bs s.2.1.l)]] = zRows (F i (k + 1)) := by rw [hst, siteK, if_pos hyes, zRows, zRows, List.map_append]; rfl
        refine ⟨⟨by show ((zRows (F i k)).length + 1) * 32 ≤ 140737488355328; omega, by show (zRows (F i k)).length + 1 ≤ 9223372036854775807; omega⟩, ?_⟩
        refine ⟨⟨by omega, by omega⟩, k + 1, [(0, 0), (1, 4)], ?_, ⟨rfl, hkl⟩, by dsimp only; omega⟩
        (repeat' (first|exact trivial|refine ⟨?_,?_⟩|exact rfl|assumption))
    · have hkl : k = b.2.1.length := by have := df h; omega
      subst hkl
      have e1 : zRows (F i b.2.1.length) = zRows (G (i + 1)) := by rw [hF.gs i b hbb]
      refine ⟨⟨by omega, by omega⟩, i + 1, [(0, 0), (1, 1)], ?_, ⟨rfl, hlt⟩, by dsimp only; omega⟩
      (repeat' (first|exact trivial|refine ⟨?_,?_⟩|exact rfl|assumption))
  · have hil : i = p.length := by have := df h; omega
    subst hil
    rw [hF.ge]
    intro v H5 hle5 hv5
    have hVR : ∀ v ∈ varsOf p, v.length ≤ 9223372036854775807 := fun v hv => by
      obtain ⟨j, hj⟩ := List.getElem?_of_mem hv
      exact hsm v hv
    refine of_row_k (α := Site) hv5 (rc_zRows (sites_R hp hl hPR hVR)) fun d1 d2 d3 ev hr => ?_
    subst ev
    exact hK _ _ _ _ (hle1.trans hle5.le) hr
theorem rsites_spec {p : Prog} (hp : p.length ≤ 12) (hl : ∀ b ∈ p, b.2.1.length ≤ 100000) (hc : stmtsN p ≤ 1000000) (hv : cnt p < 400000) (hv64 : (varsOf p).length ≤ 64) {a : Option Addr} {n c : Nat} {H : Hp} {K : Value → Hp → Prop} (ha : RL H a n c p) (hK : ∀ a1 n1 c1 H', Le H H' → RL (α := Site) H' a1 n1 c1 (sitesOf p) → K (.slice a1 n1 c1) H') : Does Tryz.prog 41 [.agg #[.slice a n c]] H K := by
  have hn := ha.n_eq
  have hPR := prog_R ha
  refine famT_k p fun Z G F hF => ?_
  refine spec_of cx_ok cx_mix rfl Tryz.func41 Tryz.call41 Tryz.ntmps41 Tryz.results41 rfl rfl ?_
  refine rvars_spec ha hv fun av nv cv H1 hle1 hrv => ?_
  have hnv := hrv.n_eq
  rw [List.length_map] at hnv
  have hsm := ens_small hrv
  refine ⟨Nat, fun i => ⟨[(1, .ptr 0 0), (3, .own 1), (11, .v (.slice av nv cv)), (12, .v (.int .i64 nv)), (13, .v (.int .i64 i))], [(0, .cells 24 [.v (.slice a n c)]), (1, .row 93 3 (zRows (Z i)))], 2⟩,
    fun i H' => H' = H1 ∧ i ≤ (varsOf p).length, fun i => (varsOf p).length - i, ⟨0, [(0, 0)], ?_, rfl, Nat.zero_le _⟩, ?_⟩
  · have e1 : zRows (Z 0) = [] := by rw [hF.z0]; rfl
    (repeat' (first|exact trivial|refine ⟨?_,?_⟩|exact rfl|assumption))
  rintro i H2 _ ⟨rfl, hi⟩
  have hzl := hF.zl i
  have hzz : (zRows (Z i)).length = (Z i).length := List.length_map _
  refine ⟨fun h => ?_, fun h => ?_⟩
  · have hlt : i < (varsOf p).length := by have := dt h; omega
    refine name_k (varsOf p)[i] fun v hve => ?_
    have hvv : (varsOf p)[i]? = some v := by rw [hve]; exact List.getElem?_eq_getElem hlt
    have hzs := hF.zs i v hvv
    refine str_k hrv hvv fun ad q1 hh _ => ?_
    refine ⟨ad, ⟨by omega, by omega, q1⟩, ?_⟩
    refine ⟨_, hh, ?_⟩
    have e1 : zRows (Z i) ++ [[.int .i64 (-1), .int .i64 0, .string (bs v)]] = zRows (Z (i + 1)) := by rw [hzs, zRows, zRows, List.map_append]; rfl
    refine ⟨⟨by show ((zRows (Z i)).length + 1) * 32 ≤ 140737488355328; omega, by show (zRows (Z i)).length + 1 ≤ 9223372036854775807; omega⟩, ?_⟩
    refine ⟨⟨by omega, by omega⟩, i + 1, [(0, 0), (1, 3)], ?_, ⟨rfl, hlt⟩, by dsimp only; omega⟩
    (repeat' (first|exact trivial|refine ⟨?_,?_⟩|exact rfl|assumption))
  have hil : i = (varsOf p).length := by have := df h; omega
  rw [hil, hF.g0]
  refine ⟨Nat, fun i => ⟨[(1, .ptr 0 0), (3, .own 1), (24, .v (.slice a n c)), (25, .v (.int .i64 n)), (26, .v (.int .i64 i))], [(0, .cells 24 [.v (.slice a n c)]), (1, .row 93 3 (zRows (G i)))], 2⟩,
    fun i H' => H' = H2 ∧ i ≤ p.length, fun i => p.length - i, ⟨0, [(0, 0), (1, 1)], ?_, rfl, Nat.zero_le _⟩, ?_⟩
  · (repeat' (first|exact trivial|refine ⟨?_,?_⟩|exact rfl|assumption))
  rintro i H3 _ ⟨rfl, hi⟩
  refine ⟨fun h => ?_, fun h => ?_⟩
  · have hlt : i < p.length := by have := dt h; omega
    refine name_k p[i] fun b hbe => ?_
    have hbb : p[i]? = some b := by rw [hbe]; exact List.getElem?_eq_getElem hlt
    have hbl := hl b (List.mem_of_getElem? hbb)
    refine block_k (ha.up hle1) hbb fun ad a5 n5 c5 q1 hh hr5 hs5 ht5 => ?_
    have hn5 : n5 = b.2.1.length := hr5.n_eq
    refine ⟨ad, ⟨by omega, by omega, q1⟩, ?_⟩
    refine ⟨_, hh, ?_⟩
    refine ⟨Nat, fun k => ⟨[(1, .ptr 0 0), (3, .own 1), (6, .v (.int .i64 i)), (24, .v (.slice a n c)), (25, .v (.int .i64 n)), (26, .v (.int .i64 i)), (32, .v (.slice a5 n5 c5)), (33, .v (.int .i64 n5)), (34, .v (.int .i64 k))], [(0, .cells 24 [.v (.slice a n c)]), (1, .row 93 3 (zRows (F i k)))], 2⟩,
      fun k H' => H' = H3 ∧ k ≤ b.2.1.length, fun k => b.2.1.length - k, ⟨0, [(0, 0), (1, 1)], ?_, rfl, Nat.zero_le _⟩, ?_⟩
    · have e1 : zRows (G i) = zRows (F i 0) := by rw [hF.f0]
      (repeat' (first|exact trivial|refine ⟨?_,?_⟩|exact rfl|assumption))
    rintro k H4 _ ⟨rfl, hk⟩
    have hfl := hF.fl i k
    have hxl : (zRows (F i k)).length = (F i k).length := List.length_map _
    refine ⟨fun h => ?_, fun h => ?_⟩
    · have hkl : k < b.2.1.length := by have := dt h; omega
      refine name_k b.2.1[k] fun s hse => ?_
      have hss : b.2.1[k]? = some s := by rw [hse]; exact List.getElem?_eq_getElem hkl
      have hst := hF.fs i k b s hbb hss
      refine stmt_k hr5 hss fun ad2 q2 hh2 hR => ?_
      refine ⟨ad2, ⟨by omega, by omega, q2⟩, ?_⟩
      refine ⟨_, hh2, ?_⟩
      refine ⟨fun h1 => ?_, fun h1 => ?_⟩
      · have h1 : ¬ s.1 = 1 := df h1
        refine ⟨fun h2 => ?_, fun h2 => ?_⟩
        · have h2 : s.1 = 2 := dt h2
          have hyes : defS s = true := by rw [defS, decide_eq_true h2, Bool.or_true]
          have e1 : zRows (F i k) ++ [[.int .i64 (i : Nat), .int .i64 (k : Nat), .string (bs s.2.1.l)]] = zRows (F i (k + 1)) := by rw [hst, siteK, if_pos hyes, zRows, zRows, List.map_append]; rfl
          refine ⟨⟨by show ((zRows (F i k)).length + 1) * 32 ≤ 140737488355328; omega, by show (zRows (F i k)).length + 1 ≤ 9223372036854775807; omega⟩, ?_⟩
          refine ⟨⟨by omega, by omega⟩, k + 1, [(0, 0), (1, 4)], ?_, ⟨rfl, hkl⟩, by dsimp only; omega⟩
          (repeat' (first|exact trivial|refine ⟨?_,?_⟩|exact rfl|assumption))
        · have h2 : ¬ s.1 = 2 := df h2
          have hno : ¬ defS s = true := by rw [defS, decide_eq_false h1, decide_eq_false h2]; decide
          have e1 : zRows (F i k) = zRows (F i (k + 1)) := by rw [hst, siteK, if_neg hno, List.append_nil]
          refine ⟨⟨by omega, by omega⟩, k + 1, [(0, 0), (1, 1)], ?_, ⟨rfl, hkl⟩, by dsimp only; omega⟩
          (repeat' (first|exact trivial|refine ⟨?_,?_⟩|exact rfl|assumption))
      · have h1 : s.1 = 1 := dt h1
        have hyes : defS s = true := by rw [defS, decide_eq_true h1, Bool.true_or]
        have e1 : zRows (F i k) ++ [[.int .i64 (i : Nat), .int .i64 (k : Nat), .string (bs s.2.1.l)]] = zRows (F i (k + 1)) := by rw [hst, siteK, if_pos hyes, zRows, zRows, List.map_append]; rfl
        refine ⟨⟨by show ((zRows (F i k)).length + 1) * 32 ≤ 140737488355328; omega, by show (zRows (F i k)).length + 1 ≤ 9223372036854775807; omega⟩, ?_⟩
        refine ⟨⟨by omega, by omega⟩, k + 1, [(0, 0), (1, 4)], ?_, ⟨rfl, hkl⟩, by dsimp only; omega⟩
        (repeat' (first|exact trivial|refine ⟨?_,?_⟩|exact rfl|assumption))
    · have hkl : k = b.2.1.length := by have := df h; omega
      subst hkl
      have e1 : zRows (F i b.2.1.length) = zRows (G (i + 1)) := by rw [hF.gs i b hbb]
      refine ⟨⟨by omega, by omega⟩, i + 1, [(0, 0), (1, 1)], ?_, ⟨rfl, hlt⟩, by dsimp only; omega⟩
      (repeat' (first|exact trivial|refine ⟨?_,?_⟩|exact rfl|assumption))
  · have hil : i = p.length := by have := df h; omega
    subst hil
    rw [hF.ge]
    intro v H5 hle5 hv5
    have hVR : ∀ v ∈ varsOf p, v.length ≤ 9223372036854775807 := fun v hv => by
      obtain ⟨j, hj⟩ := List.getElem?_of_mem hv
      exact hsm v hv
    refine of_row_k (α := Site) hv5 (rc_zRows (sites_R hp hl hPR hVR)) fun d1 d2 d3 ev hr => ?_
    subst ev
    exact hK _ _ _ _ (hle1.trans hle5.le) hr
end Go.Proofs
end
section
namespace Go.Proofs
open Go.Sy
set_option maxRecDepth 20000
set_option maxHeartbeats 4000000
theorem site_open {H : Hp} {cs : List Value} {x : Site} (h : Enc.R H cs x) : cs = siteV x ∧ siteR x := by
  obtain ⟨c1, c2, rfl, ⟨rfl, h1⟩, c3, c4, rfl, ⟨rfl, h2⟩, rfl, h3⟩ := h
  exact ⟨rfl, h1, h2, h3⟩
theorem site_k {P : Prop} {H : Hp} {a : Option Addr} {n c : Nat} {xs : List Site} (h : RL H a n c xs) {i : Nat} {x : Site} (hi : xs[i]? = some x) (k : ∀ ad, a = some ad → ElemH H ad (i : Int) 3 (siteV x) → siteR x → P) : P :=
  elem_k h hi fun ad cs h1 h2 h3 => by
    obtain ⟨rfl, h4⟩ := site_open h3
    exact k ad h1 h2 h4
def hitS (b k : Int) (v : Bs8) (x : Site) : Bool := decide (x.1 = b) && decide (x.2.1 < k) && decide (x.2.2.l = v)
def lastG (b k : Int) (v : Bs8) : List Site → Nat → Int → Int
  | [], _, o => o
  | x :: r, i, o => lastG b k v r (i + 1) (if hitS b k v x = true then (i : Int) else o)
def lastS (Z : List Site) (b k : Int) (v : Bs8) : Int := lastG b k v Z 0 (-1)
theorem lastG_take (b k : Int) (v : Bs8) : ∀ (l : List Site) (i j : Nat) (o : Int) (x : Site), l[i]? = some x → lastG b k v (l.take (i + 1)) j o = if hitS b k v x = true then ((j + i : Nat) : Int) else lastG b k v (l.take i) j o
  | [], i, j, o, x, h => by simp at h
  | y :: r, 0, j, o, x, h => by
    rw [List.getElem?_cons_zero] at h
    cases h
    simp [lastG]
  | y :: r, i + 1, j, o, x, h => by
    rw [List.getElem?_cons_succ] at h
    rw [List.take_succ_cons, List.take_succ_cons, lastG, lastG, lastG_take b k v r i (j + 1) _ x h, show j + 1 + i = j + (i + 1) by omega]
end Go.Proofs
end
section
namespace Go.Proofs
open Go.Sy
set_option maxRecDepth 20000
set_option maxHeartbeats 4000000
end Go.Proofs
end
section
namespace Go.Proofs
open Go.Sy
set_option maxRecDepth 20000
set_option maxHeartbeats 4000000
end Go.Proofs
end
section
namespace Go.Proofs
open Go.Sy
set_option maxRecDepth 20000
set_option maxHeartbeats 4000000
end Go.Proofs
end
section
namespace Go.Proofs
open Go.Sy
set_option maxRecDepth 20000
set_option maxHeartbeats 4000000
theorem stmts512 {p : Prog} (h : checkE p = 0) : stmtsN p ≤ 512 := by
  unfold checkE at h
  split at h
  · cases h
  · omega
end Go.Proofs
end
section
namespace Go.Proofs
open Go.Sy
set_option maxRecDepth 20000
set_option maxHeartbeats 4000000
theorem rc_snocI {H : Hp} {css : List (List Value)} {X : List (List Int)} (h : RC (α := List Int) H css X) {a : Option Addr} {n c : Nat} {x : List Int} (hx : RL H a n c x) : RC (α := List Int) H (css ++ [[.slice a n c]]) (X ++ [x]) :=
  RC.snoc h (show Enc.R (α := List Int) H [.slice a n c] x from ⟨a, n, c, rfl, hx⟩)
end Go.Proofs
end
section
namespace Go.Proofs
open Go.Sy
set_option maxRecDepth 20000
set_option maxHeartbeats 4000000
end Go.Proofs
end
section
namespace Go.Proofs
open Go.Sy
set_option maxRecDepth 20000
set_option maxHeartbeats 4000000
end Go.Proofs
end
section
namespace Go.Proofs
open Go.Sy
set_option maxRecDepth 20000
set_option maxHeartbeats 4000000
def siteN : Site := (0, 0, ⟨[]⟩)
def killO (Z : List Site) (v : Bs8) (at' : Int) (q : Nat) : List Int := ((List.range q).filter fun i : Nat => decide ((Z[i]?.getD siteN).2.2.l = v) && !decide ((i : Int) = at')).map fun i : Nat => (i : Int)
def genV (Z : List Site) (b nB : Int) (V : List Bs8) : List Int := V.flatMap fun v => if lastS Z b nB v < 0 then [] else [lastS Z b nB v]
def killV (Z : List Site) (b nB : Int) (V : List Bs8) : List Int := V.flatMap fun v => if lastS Z b nB v < 0 then [] else killO Z v (lastS Z b nB v) Z.length
def rchF (Z : List Site) (V : List Bs8) (i : Nat) (b : Block) : Wd × Wd := (ofB Z.length (genV Z i b.2.1.length V), ofB Z.length (killV Z i b.2.1.length V))
def rchT (Z : List Site) (V : List Bs8) : Prog → Nat → List (Wd × Wd)
  | [], _ => []
  | b :: r, i => rchF Z V i b :: rchT Z V r (i + 1)
def cntL (n : Nat) : List Int := (List.range n).map fun i : Nat => (i : Int)
def csysOf (p : Prog) : Bt.SyB := ⟨1, (sitesOf p).length, p.length, gSort (edgesOf p), [0], ofB (sitesOf p).length (cntL (varsOf p).length), rchT (sitesOf p) (varsOf p) p 0⟩
theorem rchT_len (Z : List Site) (V : List Bs8) : ∀ (p : Prog) (i : Nat), (rchT Z V p i).length = p.length
  | [], _ => rfl
  | b :: r, i => by rw [rchT, List.length_cons, List.length_cons, rchT_len Z V r (i + 1)]
theorem rchT_at (Z : List Site) (V : List Bs8) : ∀ (p : Prog) (j i : Nat) (b : Block), p[i]? = some b → (rchT Z V p j)[i]? = some (rchF Z V (j + i) b)
  | [], j, i, b, h => by simp at h
  | c :: r, j, 0, b, h => by
    rw [List.getElem?_cons_zero] at h
    cases h
    rfl
  | c :: r, j, i + 1, b, h => by
    rw [List.getElem?_cons_succ] at h
    rw [rchT, List.getElem?_cons_succ, rchT_at Z V r (j + 1) i b h, show j + 1 + i = j + (i + 1) by omega]
theorem rchT_ok (Z : List Site) (V : List Bs8) : ∀ (p : Prog) (j : Nat), ∀ t ∈ rchT Z V p j, Bt.okT Z.length t
  | [], _, t, h => by cases h
  | b :: r, j, t, h => by
    rw [rchT] at h
    rcases List.mem_cons.1 h with rfl | h
    · exact ⟨ofB_ok _ _, ofB_ok _ _⟩
    · exact rchT_ok Z V r (j + 1) t h
theorem sites_len {p : Prog} (h : checkE p = 0) : (sitesOf p).length ≤ 576 := by
  have h1 := siteP_len p 0
  have h2 := stmts512 h
  have h3 := (check_facts h).2.2.1
  rw [sitesOf, List.length_append, site0, List.length_map]
  omega
theorem csysOf_ok {p : Prog} (h : checkE p = 0) : Bt.OkS (csysOf p) := by
  have hf := check_facts h
  have hx := sites_len h
  refine ⟨.inl rfl, ?_, ?_, ?_, ?_, ?_, ?_, ?_, ?_⟩
  · show (sitesOf p).length ≤ 1024
    omega
  · show 1 ≤ p.length ∧ p.length ≤ 256
    omega
  · show (gSort (edgesOf p)).length ≤ 1024
    have h1 := gSort_len (edgesOf p)
    have h2 := eAll_len p p 0
    rw [edgesOf] at h1 ⊢
    omega
  · intro e he
    have he' : e ∈ edgesOf p := (gSort_mem _ _).1 he
    have h1 := eAll_lt p 0 e he'
    show (0 ≤ e.1 ∧ e.1 < (p.length : Nat)) ∧ 0 ≤ e.2 ∧ e.2 < (p.length : Nat)
    omega
  · intro v hv
    have hv : v ∈ [(0 : Int)] := hv
    rw [List.mem_singleton] at hv
    show 0 ≤ v ∧ v < (p.length : Nat)
    omega
  · exact ofB_ok _ _
  · exact rchT_len _ _ p 0
  · intro t ht
    exact rchT_ok _ _ p 0 t ht
theorem csysT_take {p : Prog} {i : Nat} {b : Block} (h : p[i]? = some b) : ((csysOf p).T.map Bt.TrB.mk).take (i + 1) = ((csysOf p).T.map Bt.TrB.mk).take i ++ [Bt.TrB.mk (rchF (sitesOf p) (varsOf p) i b)] := by
  have e : ((csysOf p).T.map Bt.TrB.mk)[i]? = some (Bt.TrB.mk (rchF (sitesOf p) (varsOf p) i b)) := by
    show ((rchT (sitesOf p) (varsOf p) p 0).map Bt.TrB.mk)[i]? = _
    rw [List.getElem?_map, rchT_at _ _ p 0 i b h, Nat.zero_add]; rfl
  rw [List.take_add_one, e, Option.toList_some]
theorem lastG_in (b k : Int) (v : Bs8) : ∀ (l : List Site) (i : Nat) (o : Int), -1 ≤ o → o < (i : Nat) → -1 ≤ lastG b k v l i o ∧ lastG b k v l i o < ((i + l.length : Nat) : Int)
  | [], i, o, h1, h2 => ⟨h1, by rw [lastG]; simpa using h2⟩
  | x :: r, i, o, h1, h2 => by
    have h := lastG_in b k v r (i + 1) (if hitS b k v x = true then (i : Int) else o) (by split <;> omega) (by split <;> omega)
    rw [lastG, List.length_cons]
    omega
theorem lastS_in (Z : List Site) (b k : Int) (v : Bs8) : -1 ≤ lastS Z b k v ∧ lastS Z b k v < (Z.length : Nat) := by
  have h := lastG_in b k v Z 0 (-1) (by omega) (by omega)
  rw [Nat.zero_add] at h
  exact h
end Go.Proofs
end
section
namespace Go.Proofs
open Go.Sy
set_option maxRecDepth 20000
set_option maxHeartbeats 4000000
theorem cnt_snoc (i : Nat) : iRows (cntL i) ++ [[.int .i64 (i : Nat)]] = iRows (cntL (i + 1)) := by
  rw [cntL, cntL, List.range_succ, List.map_append, iRows, iRows, List.map_append]; rfl
theorem cnt_in {n : Nat} (h : n ≤ 1000000) : ∀ x ∈ cntL n, inI x := fun x hx => by
  obtain ⟨k, hk, rfl⟩ := List.mem_map.1 hx
  have := List.mem_range.1 hk
  exact ⟨by omega, by omega⟩
end Go.Proofs
end
section
namespace Go.Proofs
open Go.Sy
set_option maxRecDepth 20000
set_option maxHeartbeats 4000000
def pickV (Z : List Site) (v : Bs8) (I : List Int) : List Int := I.filter fun n => decide ((Z[n.toNat]?.getD siteN).2.2.l = v)
def ofS (Z : List Site) (I : List Int) (b k : Int) (v : Bs8) : List Int := if 0 ≤ lastS Z b k v then [lastS Z b k v] else pickV Z v I
theorem pickV_take {Z : List Site} {v : Bs8} {I : List Int} {i : Nat} {n : Int} (h : I[i]? = some n) : pickV Z v (I.take (i + 1)) = pickV Z v (I.take i) ++ (if decide ((Z[n.toNat]?.getD siteN).2.2.l = v) = true then [n] else []) := by
  rw [pickV, pickV, List.take_add_one, h, Option.toList_some, List.filter_append]
  by_cases h2 : decide ((Z[n.toNat]?.getD siteN).2.2.l = v) = true
  · rw [if_pos h2]; simp only [List.filter_cons, h2]; rfl
  · rw [if_neg h2]
    have h2 : decide ((Z[n.toNat]?.getD siteN).2.2.l = v) = false := by simpa using h2
    simp only [List.filter_cons, h2]; rfl
end Go.Proofs
end
section
namespace Go.Proofs
open Go.Sy
set_option maxRecDepth 20000
set_option maxHeartbeats 4000000
end Go.Proofs
end
section
namespace Go.Proofs
open Go.Sy
set_option maxRecDepth 20000
set_option maxHeartbeats 4000000
theorem zero_RA : i64R 0 := ⟨by decide, by decide⟩
end Go.Proofs
end
section
namespace Go.Proofs
open Go.Sy
set_option maxRecDepth 20000
set_option maxHeartbeats 4000000
theorem fol_goes2 {p : Prog} (he : checkE p = 0) {inn : List Nm} {s : StE} (hs : goodS p s) (hg : (folS p (runB p inn s)).2 = true) : (s.1, (folS p (runB p inn s)).1.1) ∈ edgesOf p := by
  have hlt : s.1.toNat < p.length := by have := hs.1; omega
  have hb : p[s.1.toNat]? = some p[s.1.toNat] := List.getElem?_eq_getElem hlt
  have h1 : (runB p inn s).1 = s.1 := (doAll_blk p inn _ s).1
  generalize p[s.1.toNat] = b at hb
  have hN : blkN p (runB p inn s).1 = b := by rw [h1]; exact blkN_get hb
  unfold folS at hg ⊢
  rw [hN] at hg ⊢
  by_cases h3 : b.2.2.1 = 3
  · rw [if_pos h3] at hg; cases hg
  · rw [if_neg h3]
    exact fol_edge he hs.1.1 hb h3
end Go.Proofs
end
