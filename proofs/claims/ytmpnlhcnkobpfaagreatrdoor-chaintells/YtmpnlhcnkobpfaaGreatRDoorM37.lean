/- Part 'M37' of the proof (Av1, Av2, Rc0, Rc1, Av3, Av4, Av5, Av6, Av7, Av8, Av9, Rc2, Rc3, Rc4, Av10, Av11, Ar1): lemmas, each with its own conditions in its own statement. -/
import Derived.Test.YtmpnlhcnkobpfaaGreatRDoorM32
import Derived.Test.YtmpnlhcnkobpfaaGreatRDoorM33
import Derived.Test.YtmpnlhcnkobpfaaGreatRDoorM34
import Derived.Test.YtmpnlhcnkobpfaaGreatRDoorM35
import Derived.Test.YtmpnlhcnkobpfaaGreatRDoorM36
section
namespace Go.Proofs
open Go.Sy
set_option maxRecDepth 20000
set_option maxHeartbeats 4000000
abbrev bN (v : Bs8) : List (Nat × Bx) := [(0, .cells 9 [.v (.string (bs v))])]
end Go.Proofs
end
section
namespace Go.Proofs
open Go.Sy
set_option maxRecDepth 20000
set_option maxHeartbeats 4000000
theorem stmts_R {H : Hp} {a : Option Addr} {n c : Nat} {l : List Stmt} (h : RL H a n c l) : ∀ s ∈ l, stmtR s := fun s hs => by
  obtain ⟨i, hi⟩ := List.getElem?_of_mem hs
  exact stmt_k h hi fun _ _ _ hr => hr
theorem prog_R {H : Hp} {a : Option Addr} {n c : Nat} {p : Prog} (h : RL H a n c p) : ∀ b ∈ p, ∀ s ∈ b.2.1, stmtR s := fun b hb => by
  obtain ⟨i, hi⟩ := List.getElem?_of_mem hb
  exact block_k h hi fun _ _ _ _ _ _ hr _ _ => stmts_R hr
end Go.Proofs
end
section
namespace Go.Proofs
open Go.Sy
set_option maxRecDepth 20000
set_option maxHeartbeats 4000000
abbrev Site := Int × Int × Str
def defS (s : Stmt) : Bool := decide (s.1 = 1) || decide (s.1 = 2)
def siteK (i k : Nat) (s : Stmt) : List Site := if defS s = true then [((i : Int), (k : Int), s.2.1)] else []
def siteL (i : Nat) : List Stmt → Nat → List Site
  | [], _ => []
  | s :: r, k => siteK i k s ++ siteL i r (k + 1)
def siteP : Prog → Nat → List Site
  | [], _ => []
  | b :: r, i => siteL i b.2.1 0 ++ siteP r (i + 1)
def site0 (V : List Bs8) : List Site := V.map fun v => ((-1 : Int), (0 : Int), (⟨v⟩ : Str))
def sitesOf (p : Prog) : List Site := site0 (varsOf p) ++ siteP p 0
theorem siteL_take (i : Nat) : ∀ (l : List Stmt) (k j : Nat) (s : Stmt), l[k]? = some s → siteL i (l.take (k + 1)) j = siteL i (l.take k) j ++ siteK i (j + k) s
  | [], k, j, s, h => by simp at h
  | x :: r, 0, j, s, h => by
    rw [List.getElem?_cons_zero] at h
    cases h
    simp [siteL]
  | x :: r, k + 1, j, s, h => by
    rw [List.getElem?_cons_succ] at h
    rw [List.take_succ_cons, List.take_succ_cons, siteL, siteL, siteL_take i r k (j + 1) s h, List.append_assoc, show j + 1 + k = j + (k + 1) by omega]
theorem siteP_take : ∀ (p : Prog) (i j : Nat) (b : Block), p[i]? = some b → siteP (p.take (i + 1)) j = siteP (p.take i) j ++ siteL (j + i) b.2.1 0
  | [], i, j, b, h => by simp at h
  | x :: r, 0, j, b, h => by
    rw [List.getElem?_cons_zero] at h
    cases h
    simp [siteP]
  | x :: r, i + 1, j, b, h => by
    rw [List.getElem?_cons_succ] at h
    rw [List.take_succ_cons, List.take_succ_cons, siteP, siteP, siteP_take r i (j + 1) b h, List.append_assoc, show j + 1 + i = j + (i + 1) by omega]
theorem siteL_len (i : Nat) : ∀ (l : List Stmt) (k : Nat), (siteL i l k).length ≤ l.length
  | [], _ => Nat.le_refl _
  | s :: r, k => by
    have h := siteL_len i r (k + 1)
    rw [siteL, List.length_append, List.length_cons]
    have h2 : (siteK i k s).length ≤ 1 := by
      unfold siteK
      split <;> simp
    omega
theorem siteP_len : ∀ (p : Prog) (i : Nat), (siteP p i).length ≤ stmtsN p
  | [], _ => Nat.zero_le _
  | b :: r, i => by
    have h := siteP_len r (i + 1)
    have h2 := siteL_len i b.2.1 0
    have e : stmtsN (b :: r) = b.2.1.length + stmtsN r := by simp [stmtsN]
    rw [siteP, List.length_append, e]
    omega
def siteR (x : Site) : Prop := inI x.1 ∧ inI x.2.1 ∧ x.2.2.l.length ≤ 9223372036854775807
structure FamT (p : Prog) (Z : Nat → List Site) (G : Nat → List Site) (F : Nat → Nat → List Site) : Prop where
  z0 : Z 0 = []
  zs : ∀ i v, (varsOf p)[i]? = some v → Z (i + 1) = Z i ++ [((-1 : Int), (0 : Int), (⟨v⟩ : Str))]
  zl : ∀ i, (Z i).length ≤ i
  g0 : Z (varsOf p).length = G 0
  f0 : ∀ i, G i = F i 0
  fs : ∀ i k b s, p[i]? = some b → b.2.1[k]? = some s → F i (k + 1) = F i k ++ siteK i k s
  gs : ∀ i b, p[i]? = some b → F i b.2.1.length = G (i + 1)
  ge : G p.length = sitesOf p
  fl : ∀ i k, (F i k).length ≤ (varsOf p).length + stmtsN p + k
theorem stmtsN_tk : ∀ (p : Prog) (i : Nat), stmtsN (p.take i) ≤ stmtsN p
  | [], i => by simp
  | b :: r, 0 => by simp [stmtsN]
  | b :: r, i + 1 => by
    have h := stmtsN_tk r i
    simp only [stmtsN, List.take_succ_cons, List.map_cons, List.sum_cons] at h ⊢
    omega
theorem famT_k {P : Prop} (p : Prog) (k : ∀ Z G F, FamT p Z G F → P) : P := by
  refine k (fun i => site0 ((varsOf p).take i)) (fun i => site0 (varsOf p) ++ siteP (p.take i) 0) (fun i k => site0 (varsOf p) ++ siteP (p.take i) 0 ++ siteL i (((p[i]?.map fun b => b.2.1).getD []).take k) 0) ⟨rfl, fun i v hv => ?_, fun i => ?_, ?_, fun i => ?_, fun i k b s hb hs => ?_, fun i b hb => ?_, ?_, fun i k => ?_⟩
  · rw [site0, site0, List.take_add_one, hv, Option.toList_some, List.map_append]; rfl
  · rw [site0, List.length_map, List.length_take]; omega
  · rw [List.take_length, List.take_zero, siteP, List.append_nil]
  · rw [List.take_zero, siteL, List.append_nil]
  · rw [hb, List.append_assoc]
    show _ = _ ++ (siteL i (b.2.1.take k) 0) ++ siteK i k s
    rw [List.append_assoc]
    show site0 (varsOf p) ++ (siteP (p.take i) 0 ++ siteL i (b.2.1.take (k + 1)) 0) = _
    rw [siteL_take i b.2.1 k 0 s hs, Nat.zero_add]
    simp only [List.append_assoc]
  · rw [hb]
    show site0 (varsOf p) ++ siteP (p.take i) 0 ++ siteL i (b.2.1.take b.2.1.length) 0 = _
    rw [List.take_length, siteP_take p i 0 b hb, Nat.zero_add, List.append_assoc]
  · rw [List.take_length]; rfl
  · have h1 := siteP_len (p.take i) 0
    have h2 := siteL_len i (((p[i]?.map fun b => b.2.1).getD []).take k) 0
    have h3 := stmtsN_tk p i
    rw [List.length_take] at h2
    rw [List.length_append, List.length_append, site0, List.length_map]
    omega
abbrev siteV (x : Site) : List Value := [.int .i64 x.1, .int .i64 x.2.1, .string (bs x.2.2.l)]
abbrev zRows (l : List Site) : List (List Value) := l.map siteV
theorem rc_zRows {H : Hp} : ∀ {l : List Site}, (∀ x ∈ l, siteR x) → RC (α := Site) H (zRows l) l := fun {l} h => by
  refine ⟨List.length_map _, fun i cs x h1 h2 => ?_⟩
  rw [List.getElem?_map, h2] at h1
  cases h1
  have hx := h x (List.mem_of_getElem? h2)
  exact ⟨[.int .i64 x.1], [.int .i64 x.2.1, .string (bs x.2.2.l)], rfl, ⟨rfl, hx.1⟩, [.int .i64 x.2.1], [.string (bs x.2.2.l)], rfl, ⟨rfl, hx.2.1⟩, rfl, hx.2.2⟩
theorem siteL_R (i : Nat) (hi : i ≤ 1000000) : ∀ (l : List Stmt) (k : Nat), k + l.length ≤ 1000000 → (∀ s ∈ l, stmtR s) → ∀ x ∈ siteL i l k, siteR x
  | [], _, _, _, x, h => by cases h
  | s :: r, k, hk, hl, x, h => by
    rw [List.length_cons] at hk
    rw [siteL] at h
    rcases List.mem_append.1 h with h | h
    · unfold siteK at h
      split at h
      · rw [List.mem_singleton] at h
        rw [h]
        have hs := hl s List.mem_cons_self
        exact ⟨⟨by show _ ≤ ((i : Nat) : Int); omega, by show ((i : Nat) : Int) ≤ _; omega⟩, ⟨by show _ ≤ ((k : Nat) : Int); omega, by show ((k : Nat) : Int) ≤ _; omega⟩, hs.2.1⟩
      · cases h
    · exact siteL_R i hi r (k + 1) (by omega) (fun t ht => hl t (List.mem_cons_of_mem _ ht)) x h
theorem siteP_R : ∀ (p : Prog) (i : Nat), i + p.length ≤ 1000000 → (∀ b ∈ p, b.2.1.length ≤ 100000) → (∀ b ∈ p, ∀ s ∈ b.2.1, stmtR s) → ∀ x ∈ siteP p i, siteR x
  | [], _, _, _, _, x, h => by cases h
  | b :: r, i, hi, hl, hR, x, h => by
    rw [List.length_cons] at hi
    rw [siteP] at h
    rcases List.mem_append.1 h with h | h
    · exact siteL_R i (by omega) b.2.1 0 (by have := hl b List.mem_cons_self; omega) (hR b List.mem_cons_self) x h
    · exact siteP_R r (i + 1) (by omega) (fun c hc => hl c (List.mem_cons_of_mem _ hc)) (fun c hc => hR c (List.mem_cons_of_mem _ hc)) x h
theorem sites_R {p : Prog} (hp : p.length ≤ 12) (hl : ∀ b ∈ p, b.2.1.length ≤ 100000) (hR : ∀ b ∈ p, ∀ s ∈ b.2.1, stmtR s) (hV : ∀ v ∈ varsOf p, v.length ≤ 9223372036854775807) : ∀ x ∈ sitesOf p, siteR x := fun x h => by
  rw [sitesOf] at h
  rcases List.mem_append.1 h with h | h
  · obtain ⟨v, hv, rfl⟩ := List.mem_map.1 h
    exact ⟨(show inI (-1) from ⟨by decide, by decide⟩), (show inI 0 from ⟨by decide, by decide⟩), hV v hv⟩
  · exact siteP_R p 0 (by omega) hl hR x h
theorem tsites_spec {p : Prog} (hp : p.length ≤ 12) (hl : ∀ b ∈ p, b.2.1.length ≤ 100000) (hc : stmtsN p ≤ 1000000) (hv : cnt p < 400000) (hv64 : (varsOf p).length ≤ 64) {a : Option Addr} {n c : Nat} {H : Hp} {K : Value → Hp → Prop} (ha : RL H a n c p) (hK : ∀ a1 n1 c1 H', Le H H' → RL (α := Site) H' a1 n1 c1 (sitesOf p) → K (.slice a1 n1 c1) H') : Does Tryz.prog 28 [.agg #[.slice a n c]] H K := by
  have hn := ha.n_eq
  have hPR := prog_R ha
  refine famT_k p fun Z G F hF => ?_
  refine spec_of cx_ok cx_mix rfl Tryz.func28 Tryz.call28 Tryz.ntmps28 Tryz.results28 rfl rfl ?_
  refine pvars_spec ha hv fun av nv cv H1 hle1 hrv => ?_
  have hnv := hrv.n_eq
  rw [List.length_map] at hnv
  have hsm := ens_small hrv
  refine ⟨Nat, fun i => ⟨[(1, .ptr 0 0), (3, .own 1), (11, .v (.slice av nv cv)), (12, .v (.int .i64 nv)), (13, .v (.int .i64 i))], [(0, .cells 24 [.v (.slice a n c)]), (1, .row 75 3 (zRows (Z i)))], 2⟩,
    fun i H' => H' = H1 ∧ i ≤ (varsOf p).length, fun i => (varsOf p).length - i, ⟨0, [(0, 0)], ?_, rfl, Nat.zero_le _⟩, ?_⟩
  · have e1 : zRows (Z 0) = [] := by rw [hF.z0]; rfl
    (repeat' (first|exact trivial|refine ⟨?_,?_⟩|exact rfl|assumption))
  rintro i H2 _ ⟨rfl, hi⟩
  have hzl := hF.zl i
  have hzz : (zRows (Z i)).length = (Z i).length := List.length_map _
  refine ⟨fun h => ?_, fun h => ?_⟩
  · have hlt : i < (varsOf p).length := by have := dt h; omega
    refine name_k (varsOf p)[i] fun v hve => ?_
    have hvv : (varsOf p)[i]? = some v := by rw [hve]; exact List.getElem?_eq_getElem hlt
    have hzs := hF.zs i v hvv
    refine str_k hrv hvv fun ad q1 hh _ => ?_
    refine ⟨ad, ⟨by omega, by omega, q1⟩, ?_⟩
    refine ⟨_, hh, ?_⟩
    have e1 : zRows (Z i) ++ [[.int .i64 (-1), .int .i64 0, .string (bs v)]] = zRows (Z (i + 1)) := by rw [hzs, zRows, zRows, List.map_append]; rfl
    refine ⟨⟨by show ((zRows (Z i)).length + 1) * 32 ≤ 140737488355328; omega, by show (zRows (Z i)).length + 1 ≤ 9223372036854775807; omega⟩, ?_⟩
    refine ⟨⟨by omega, by omega⟩, i + 1, [(0, 0), (1, 3)], ?_, ⟨rfl, hlt⟩, by dsimp only; omega⟩
    (repeat' (first|exact trivial|refine ⟨?_,?_⟩|exact rfl|assumption))
  have hil : i = (varsOf p).length := by have := df h; omega
  rw [hil, hF.g0]
  refine ⟨Nat, fun i => ⟨[(1, .ptr 0 0), (3, .own 1), (24, .v (.slice a n c)), (25, .v (.int .i64 n)), (26, .v (.int .i64 i))], [(0, .cells 24 [.v (.slice a n c)]), (1, .row 75 3 (zRows (G i)))], 2⟩,
    fun i H' => H' = H2 ∧ i ≤ p.length, fun i => p.length - i, ⟨0, [(0, 0), (1, 1)], ?_, rfl, Nat.zero_le _⟩, ?_⟩
  · (repeat' (first|exact trivial|refine ⟨?_,?_⟩|exact rfl|assumption))
  rintro i H3 _ ⟨rfl, hi⟩
  refine ⟨fun h => ?_, fun h => ?_⟩
  · have hlt : i < p.length := by have := dt h; omega
    refine name_k p[i] fun b hbe => ?_
    have hbb : p[i]? = some b := by rw [hbe]; exact List.getElem?_eq_getElem hlt
    have hbl := hl b (List.mem_of_getElem? hbb)
    refine block_k (ha.up hle1) hbb fun ad a5 n5 c5 q1 hh hr5 hs5 ht5 => ?_
    have hn5 : n5 = b.2.1.length := hr5.n_eq
    refine ⟨ad, ⟨by omega, by omega, q1⟩, ?_⟩
    refine ⟨_, hh, ?_⟩
    refine ⟨Nat, fun k => ⟨[(1, .ptr 0 0), (3, .own 1), (6, .v (.int .i64 i)), (24, .v (.slice a n c)), (25, .v (.int .i64 n)), (26, .v (.int .i64 i)), (32, .v (.slice a5 n5 c5)), (33, .v (.int .i64 n5)), (34, .v (.int .i64 k))], [(0, .cells 24 [.v (.slice a n c)]), (1, .row 75 3 (zRows (F i k)))], 2⟩,
      fun k H' => H' = H3 ∧ k ≤ b.2.1.length, fun k => b.2.1.length - k, ⟨0, [(0, 0), (1, 1)], ?_, rfl, Nat.zero_le _⟩, ?_⟩
    · have e1 : zRows (G i) = zRows (F i 0) := by rw [hF.f0]
      (repeat' (first|exact trivial|refine ⟨?_,?_⟩|exact rfl|assumption))
    rintro k H4 _ ⟨rfl, hk⟩
    have hfl := hF.fl i k
    have hxl : (zRows (F i k)).length = (F i k).length := List.length_map _
    refine ⟨fun h => ?_, fun h => ?_⟩
    · have hkl : k < b.2.1.length := by have := dt h; omega
      refine name_k b.2.1[k] fun s hse => ?_
      have hss : b.2.1[k]? = some s := by rw [hse]; exact List.getElem?_eq_getElem hkl
      have hst := hF.fs i k b s hbb hss
      refine stmt_k hr5 hss fun ad2 q2 hh2 hR => ?_
      refine ⟨ad2, ⟨by omega, by omega, q2⟩, ?_⟩
      refine ⟨_, hh2, ?_⟩
      refine ⟨fun h1 => ?_, fun h1 => ?_⟩
      · have h1 : ¬ s.1 = 1 := df h1
        refine ⟨fun h2 => ?_, fun h2 => ?_⟩
        · have h2 : s.1 = 2 := dt h2
          have hyes : defS s = true := by rw [defS, decide_eq_true h2, Bool.or_true]
          have e1 : zRows (F i k) ++ [[.int .i64 (i : Nat), .int .i64 (k : Nat), .string (bs s.2.1.l)]] = zRows (F i (k + 1)) := by rw [hst, siteK, if_pos hyes, zRows, zRows, List.map_append]; rfl
          refine ⟨⟨by show ((zRows (F i k)).length + 1) * 32 ≤ 140737488355328; omega, by show (zRows (F i k)).length + 1 ≤ 9223372036854775807; omega⟩, ?_⟩
          refine ⟨⟨by omega, by omega⟩, k + 1, [(0, 0), (1, 4)], ?_, ⟨rfl, hkl⟩, by dsimp only; omega⟩
          (repeat' (first|exact trivial|refine ⟨?_,?_⟩|exact rfl|assumption))
        · have h2 : ¬ s.1 = 2 := df h2
          have hno : ¬ defS s = true := by rw [defS, decide_eq_false h1, decide_eq_false h2]; decide
          have e1 : zRows (F i k) = zRows (F i (k + 1)) := by rw [hst, siteK, if_neg hno, List.append_nil]
          refine ⟨⟨by omega, by omega⟩, k + 1, [(0, 0), (1, 1)], ?_, ⟨rfl, hkl⟩, by dsimp only; omega⟩
          (repeat' (first|exact trivial|refine ⟨?_,?_⟩|exact rfl|assumption))
      · have h1 : s.1 = 1 := dt h1
        have hyes : defS s = true := by rw [defS, decide_eq_true h1, Bool.true_or]
        have e1 : zRows (F i k) ++ [[.int .i64 (i : Nat), .int .i64 (k : Nat), .string (bs s.2.1.l)]] = zRows (F i (k + 1)) := by rw [hst, siteK, if_pos hyes, zRows, zRows, List.map_append]; rfl
        refine ⟨⟨by show ((zRows (F i k)).length + 1) * 32 ≤ 140737488355328; omega, by show (zRows (F i k)).length + 1 ≤ 9223372036854775807; omega⟩, ?_⟩
        refine ⟨⟨by omega, by omega⟩, k + 1, [(0, 0), (1, 4)], ?_, ⟨rfl, hkl⟩, by dsimp only; omega⟩
        (repeat' (first|exact trivial|refine ⟨?_,?_⟩|exact rfl|assumption))
    · have hkl : k = b.2.1.length := by have := df h; omega
      subst hkl
      have e1 : zRows (F i b.2.1.length) = zRows (G (i + 1)) := by rw [hF.gs i b hbb]
      refine ⟨⟨by omega, by omega⟩, i + 1, [(0, 0), (1, 1)], ?_, ⟨rfl, hlt⟩, by dsimp only; omega⟩
      (repeat' (first|exact trivial|refine ⟨?_,?_⟩|exact rfl|assumption))
  · have hil : i = p.length := by have := df h; omega
    subst hil
    rw [hF.ge]
    intro v H5 hle5 hv5
    have hVR : ∀ v ∈ varsOf p, v.length ≤ 9223372036854775807 := fun v hv => by
      obtain ⟨j, hj⟩ := List.getElem?_of_mem hv
      exact hsm v hv
    refine of_row_k (α := Site) hv5 (rc_zRows (sites_R hp hl hPR hVR)) fun d1 d2 d3 ev hr => ?_
    subst ev
    exact hK _ _ _ _ (hle1.trans hle5.le) hr
theorem rsites_spec {p : Prog} (hp : p.length ≤ 12) (hl : ∀ b ∈ p, b.2.1.length ≤ 100000) (hc : stmtsN p ≤ 1000000) (hv : cnt p < 400000) (hv64 : (varsOf p).length ≤ 64) {a : Option Addr} {n c : Nat} {H : Hp} {K : Value → Hp → Prop} (ha : RL H a n c p) (hK : ∀ a1 n1 c1 H', Le H H' → RL (α := Site) H' a1 n1 c1 (sitesOf p) → K (.slice a1 n1 c1) H') : Does Tryz.prog 41 [.agg #[.slice a n c]] H K := by
  have hn := ha.n_eq
  have hPR := prog_R ha
  refine famT_k p fun Z G F hF => ?_
  refine spec_of cx_ok cx_mix rfl Tryz.func41 Tryz.call41 Tryz.ntmps41 Tryz.results41 rfl rfl ?_
  refine rvars_spec ha hv fun av nv cv H1 hle1 hrv => ?_
  have hnv := hrv.n_eq
  rw [List.length_map] at hnv
  have hsm := ens_small hrv
  refine ⟨Nat, fun i => ⟨[(1, .ptr 0 0), (3, .own 1), (11, .v (.slice av nv cv)), (12, .v (.int .i64 nv)), (13, .v (.int .i64 i))], [(0, .cells 24 [.v (.slice a n c)]), (1, .row 93 3 (zRows (Z i)))], 2⟩,
    fun i H' => H' = H1 ∧ i ≤ (varsOf p).length, fun i => (varsOf p).length - i, ⟨0, [(0, 0)], ?_, rfl, Nat.zero_le _⟩, ?_⟩
  · have e1 : zRows (Z 0) = [] := by rw [hF.z0]; rfl
    (repeat' (first|exact trivial|refine ⟨?_,?_⟩|exact rfl|assumption))
  rintro i H2 _ ⟨rfl, hi⟩
  have hzl := hF.zl i
  have hzz : (zRows (Z i)).length = (Z i).length := List.length_map _
  refine ⟨fun h => ?_, fun h => ?_⟩
  · have hlt : i < (varsOf p).length := by have := dt h; omega
    refine name_k (varsOf p)[i] fun v hve => ?_
    have hvv : (varsOf p)[i]? = some v := by rw [hve]; exact List.getElem?_eq_getElem hlt
    have hzs := hF.zs i v hvv
    refine str_k hrv hvv fun ad q1 hh _ => ?_
    refine ⟨ad, ⟨by omega, by omega, q1⟩, ?_⟩
    refine ⟨_, hh, ?_⟩
    have e1 : zRows (Z i) ++ [[.int .i64 (-1), .int .i64 0, .string (bs v)]] = zRows (Z (i + 1)) := by rw [hzs, zRows, zRows, List.map_append]; rfl
    refine ⟨⟨by show ((zRows (Z i)).length + 1) * 32 ≤ 140737488355328; omega, by show (zRows (Z i)).length + 1 ≤ 9223372036854775807; omega⟩, ?_⟩
    refine ⟨⟨by omega, by omega⟩, i + 1, [(0, 0), (1, 3)], ?_, ⟨rfl, hlt⟩, by dsimp only; omega⟩
    (repeat' (first|exact trivial|refine ⟨?_,?_⟩|exact rfl|assumption))
  have hil : i = (varsOf p).length := by have := df h; omega
  rw [hil, hF.g0]
  refine ⟨Nat, fun i => ⟨[(1, .ptr 0 0), (3, .own 1), (24, .v (.slice a n c)), (25, .v (.int .i64 n)), (26, .v (.int .i64 i))], [(0, .cells 24 [.v (.slice a n c)]), (1, .row 93 3 (zRows (G i)))], 2⟩,
    fun i H' => H' = H2 ∧ i ≤ p.length, fun i => p.length - i, ⟨0, [(0, 0), (1, 1)], ?_, rfl, Nat.zero_le _⟩, ?_⟩
  · (repeat' (first|exact trivial|refine ⟨?_,?_⟩|exact rfl|assumption))
  rintro i H3 _ ⟨rfl, hi⟩
  refine ⟨fun h => ?_, fun h => ?_⟩
  · have hlt : i < p.length := by have := dt h; omega
    refine name_k p[i] fun b hbe => ?_
    have hbb : p[i]? = some b := by rw [hbe]; exact List.getElem?_eq_getElem hlt
    have hbl := hl b (List.mem_of_getElem? hbb)
    refine block_k (ha.up hle1) hbb fun ad a5 n5 c5 q1 hh hr5 hs5 ht5 => ?_
    have hn5 : n5 = b.2.1.length := hr5.n_eq
    refine ⟨ad, ⟨by omega, by omega, q1⟩, ?_⟩
    refine ⟨_, hh, ?_⟩
    refine ⟨Nat, fun k => ⟨[(1, .ptr 0 0), (3, .own 1), (6, .v (.int .i64 i)), (24, .v (.slice a n c)), (25, .v (.int .i64 n)), (26, .v (.int .i64 i)), (32, .v (.slice a5 n5 c5)), (33, .v (.int .i64 n5)), (34, .v (.int .i64 k))], [(0, .cells 24 [.v (.slice a n c)]), (1, .row 93 3 (zRows (F i k)))], 2⟩,
      fun k H' => H' = H3 ∧ k ≤ b.2.1.length, fun k => b.2.1.length - k, ⟨0, [(0, 0), (1, 1)], ?_, rfl, Nat.zero_le _⟩, ?_⟩
    · have e1 : zRows (G i) = zRows (F i 0) := by rw [hF.f0]
      (repeat' (first|exact trivial|refine ⟨?_,?_⟩|exact rfl|assumption))
    rintro k H4 _ ⟨rfl, hk⟩
    have hfl := hF.fl i k
    have hxl : (zRows (F i k)).length = (F i k).length := List.length_map _
    refine ⟨fun h => ?_, fun h => ?_⟩
    · have hkl : k < b.2.1.length := by have := dt h; omega
      refine name_k b.2.1[k] fun s hse => ?_
      have hss : b.2.1[k]? = some s := by rw [hse]; exact List.getElem?_eq_getElem hkl
      have hst := hF.fs i k b s hbb hss
      refine stmt_k hr5 hss fun ad2 q2 hh2 hR => ?_
      refine ⟨ad2, ⟨by omega, by omega, q2⟩, ?_⟩
      refine ⟨_, hh2, ?_⟩
      refine ⟨fun h1 => ?_, fun h1 => ?_⟩
      · have h1 : ¬ s.1 = 1 := df h1
        refine ⟨fun h2 => ?_, fun h2 => ?_⟩
        · have h2 : s.1 = 2 := dt h2
          have hyes : defS s = true := by rw [defS, decide_eq_true h2, Bool.or_true]
          have e1 : zRows (F i k) ++ [[.int .i64 (i : Nat), .int .i64 (k : Nat), .string (bs s.2.1.l)]] = zRows (F i (k + 1)) := by rw [hst, siteK, if_pos hyes, zRows, zRows, List.map_append]; rfl
          refine ⟨⟨by show ((zRows (F i k)).length + 1) * 32 ≤ 140737488355328; omega, by show (zRows (F i k)).length + 1 ≤ 9223372036854775807; omega⟩, ?_⟩
          refine ⟨⟨by omega, by omega⟩, k + 1, [(0, 0), (1, 4)], ?_, ⟨rfl, hkl⟩, by dsimp only; omega⟩
          (repeat' (first|exact trivial|refine ⟨?_,?_⟩|exact rfl|assumption))
        · have h2 : ¬ s.1 = 2 := df h2
          have hno : ¬ defS s = true := by rw [defS, decide_eq_false h1, decide_eq_false h2]; decide
          have e1 : zRows (F i k) = zRows (F i (k + 1)) := by rw [hst, siteK, if_neg hno, List.append_nil]
          refine ⟨⟨by omega, by omega⟩, k + 1, [(0, 0), (1, 1)], ?_, ⟨rfl, hkl⟩, by dsimp only; omega⟩
          (repeat' (first|exact trivial|refine ⟨?_,?_⟩|exact rfl|assumption))
      · have h1 : s.1 = 1 := dt h1
        have hyes : defS s = true := by rw [defS, decide_eq_true h1, Bool.true_or]
        have e1 : zRows (F i k) ++ [[.int .i64 (i : Nat), .int .i64 (k : Nat), .string (bs s.2.1.l)]] = zRows (F i (k + 1)) := by rw [hst, siteK, if_pos hyes, zRows, zRows, List.map_append]; rfl
        refine ⟨⟨by show ((zRows (F i k)).length + 1) * 32 ≤ 140737488355328; omega, by show (zRows (F i k)).length + 1 ≤ 9223372036854775807; omega⟩, ?_⟩
        refine ⟨⟨by omega, by omega⟩, k + 1, [(0, 0), (1, 4)], ?_, ⟨rfl, hkl⟩, by dsimp only; omega⟩
        (repeat' (first|exact trivial|refine ⟨?_,?_⟩|exact rfl|assumption))
    · have hkl : k = b.2.1.length := by have := df h; omega
      subst hkl
      have e1 : zRows (F i b.2.1.length) = zRows (G (i + 1)) := by rw [hF.gs i b hbb]
      refine ⟨⟨by omega, by omega⟩, i + 1, [(0, 0), (1, 1)], ?_, ⟨rfl, hlt⟩, by dsimp only; omega⟩
      (repeat' (first|exact trivial|refine ⟨?_,?_⟩|exact rfl|assumption))
  · have hil : i = p.length := by have := df h; omega
    subst hil
    rw [hF.ge]
    intro v H5 hle5 hv5
    have hVR : ∀ v ∈ varsOf p, v.length ≤ 9223372036854775807 := fun v hv => by
      obtain ⟨j, hj⟩ := List.getElem?_of_mem hv
      exact hsm v hv
    refine of_row_k (α := Site) hv5 (rc_zRows (sites_R hp hl hPR hVR)) fun d1 d2 d3 ev hr => ?_
    subst ev
    exact hK _ _ _ _ (hle1.trans hle5.le) hr
end Go.Proofs
end
section
namespace Go.Proofs
open Go.Sy
set_option maxRecDepth 20000
set_option maxHeartbeats 4000000
theorem site_open {H : Hp} {cs : List Value} {x : Site} (h : Enc.R H cs x) : cs = siteV x ∧ siteR x := by
  obtain ⟨c1, c2, rfl, ⟨rfl, h1⟩, c3, c4, rfl, ⟨rfl, h2⟩, rfl, h3⟩ := h
  exact ⟨rfl, h1, h2, h3⟩
theorem site_k {P : Prop} {H : Hp} {a : Option Addr} {n c : Nat} {xs : List Site} (h : RL H a n c xs) {i : Nat} {x : Site} (hi : xs[i]? = some x) (k : ∀ ad, a = some ad → ElemH H ad (i : Int) 3 (siteV x) → siteR x → P) : P :=
  elem_k h hi fun ad cs h1 h2 h3 => by
    obtain ⟨rfl, h4⟩ := site_open h3
    exact k ad h1 h2 h4
def hitS (b k : Int) (v : Bs8) (x : Site) : Bool := decide (x.1 = b) && decide (x.2.1 < k) && decide (x.2.2.l = v)
def lastG (b k : Int) (v : Bs8) : List Site → Nat → Int → Int
  | [], _, o => o
  | x :: r, i, o => lastG b k v r (i + 1) (if hitS b k v x = true then (i : Int) else o)
def lastS (Z : List Site) (b k : Int) (v : Bs8) : Int := lastG b k v Z 0 (-1)
structure FamK (Z : List Site) (b k : Int) (v : Bs8) (L : Nat → Int) : Prop where
  z : L 0 = -1
  y : ∀ i x, Z[i]? = some x → hitS b k v x = true → L (i + 1) = i
  n : ∀ i x, Z[i]? = some x → hitS b k v x = false → L (i + 1) = L i
  e : L Z.length = lastS Z b k v
theorem lastG_take (b k : Int) (v : Bs8) : ∀ (l : List Site) (i j : Nat) (o : Int) (x : Site), l[i]? = some x → lastG b k v (l.take (i + 1)) j o = if hitS b k v x = true then ((j + i : Nat) : Int) else lastG b k v (l.take i) j o
  | [], i, j, o, x, h => by simp at h
  | y :: r, 0, j, o, x, h => by
    rw [List.getElem?_cons_zero] at h
    cases h
    simp [lastG]
  | y :: r, i + 1, j, o, x, h => by
    rw [List.getElem?_cons_succ] at h
    rw [List.take_succ_cons, List.take_succ_cons, lastG, lastG, lastG_take b k v r i (j + 1) _ x h, show j + 1 + i = j + (i + 1) by omega]
theorem famK_k {P : Prop} (Z : List Site) (b k : Int) (v : Bs8) (kk : ∀ L, FamK Z b k v L → P) : P := by
  refine kk (fun i => lastG b k v (Z.take i) 0 (-1)) ⟨rfl, fun i x hx hh => ?_, fun i x hx hh => ?_, ?_⟩
  · rw [lastG_take b k v Z i 0 (-1) x hx, if_pos hh, Nat.zero_add]
  · rw [lastG_take b k v Z i 0 (-1) x hx, if_neg (by rw [hh]; decide)]
  · rw [List.take_length]; rfl
theorem rlast_spec {Z : List Site} {b k : Int} {v : Bs8} {a : Option Addr} {n c : Nat} {H : Hp} {K : Value → Hp → Prop} (ha : RL (α := Site) H a n c Z) (hK : K (.int .i64 (lastS Z b k v)) H) : Does Tryz.prog 61 [.slice a n c, .int .i64 b, .int .i64 k, .string (bs v)] H K := by
  have hn := ha.n_eq
  have hmx := ha.le
  refine famK_k Z b k v fun L hL => ?_
  rw [← hL.e] at hK
  refine spec_of cx_ok cx_mix rfl Tryz.func61 Tryz.call61 Tryz.ntmps61 Tryz.results61 rfl rfl ?_
  refine ⟨Nat, fun i => ⟨[(1, .v (.int .i64 b)), (2, .v (.int .i64 k)), (3, .v (.string (bs v))), (9, .v (.int .i64 (L i))), (12, .v (.slice a n c)), (13, .v (.int .i64 n)), (14, .v (.int .i64 i))], [], 0⟩,
    fun i H' => H' = H ∧ i ≤ Z.length, fun i => Z.length - i, ⟨0, [], ?_, rfl, Nat.zero_le _⟩, ?_⟩
  · have e1 : SV.v (.int .i64 (-1)) = SV.v (.int .i64 (L 0)) := by rw [hL.z]
    (repeat' (first|exact trivial|refine ⟨?_,?_⟩|exact rfl|assumption))
  rintro i H1 _ ⟨rfl, hi⟩
  refine ⟨fun h => ?_, fun h => ?_⟩
  · have hlt : i < Z.length := by have := dt h; omega
    refine name_k Z[i] fun x hxe => ?_
    have hxx : Z[i]? = some x := by rw [hxe]; exact List.getElem?_eq_getElem hlt
    refine site_k ha hxx fun ad q1 hh _ => ?_
    refine ⟨ad, ⟨by omega, by omega, q1⟩, ?_⟩
    refine ⟨_, hh, ?_⟩
    refine ⟨fun h1 => ?_, fun h1 => ?_⟩
    case refine_2 =>
      have h1 : ¬ x.1 = b := df h1
      have hno : hitS b k v x = false := by rw [hitS, decide_eq_false h1]; rfl
      have e1 : SV.v (.int .i64 (L i)) = SV.v (.int .i64 (L (i + 1))) := by rw [hL.n i x hxx hno]
      refine ⟨⟨by omega, by omega⟩, i + 1, [], ?_, ⟨rfl, hlt⟩, by dsimp only; omega⟩
      (repeat' (first|exact trivial|refine ⟨?_,?_⟩|exact rfl|assumption))
    have h1 : x.1 = b := dt h1
    refine ⟨fun h2 => ?_, fun h2 => ?_⟩
    case refine_2 =>
      have h2 : ¬ x.2.1 < k := df h2
      have hno : hitS b k v x = false := by rw [hitS, decide_eq_false h2, Bool.and_false]; rfl
      have e1 : SV.v (.int .i64 (L i)) = SV.v (.int .i64 (L (i + 1))) := by rw [hL.n i x hxx hno]
      refine ⟨⟨by omega, by omega⟩, i + 1, [], ?_, ⟨rfl, hlt⟩, by dsimp only; omega⟩
      (repeat' (first|exact trivial|refine ⟨?_,?_⟩|exact rfl|assumption))
    have h2 : x.2.1 < k := dt h2
    refine ⟨fun h3 => ?_, fun h3 => ?_⟩
    · have h3 : x.2.2.l = v := dt h3
      have hyes : hitS b k v x = true := by rw [hitS, decide_eq_true h1, decide_eq_true h2, decide_eq_true h3]; rfl
      have e1 : SV.v (.int .i64 (i : Int)) = SV.v (.int .i64 (L (i + 1))) := by rw [hL.y i x hxx hyes]
      refine ⟨⟨by omega, by omega⟩, i + 1, [], ?_, ⟨rfl, hlt⟩, by dsimp only; omega⟩
      (repeat' (first|exact trivial|refine ⟨?_,?_⟩|exact rfl|assumption))
    · have h3 : ¬ x.2.2.l = v := df h3
      have hno : hitS b k v x = false := by rw [hitS, decide_eq_false h3, Bool.and_false]
      have e1 : SV.v (.int .i64 (L i)) = SV.v (.int .i64 (L (i + 1))) := by rw [hL.n i x hxx hno]
      refine ⟨⟨by omega, by omega⟩, i + 1, [], ?_, ⟨rfl, hlt⟩, by dsimp only; omega⟩
      (repeat' (first|exact trivial|refine ⟨?_,?_⟩|exact rfl|assumption))
  · have hil : i = Z.length := by have := df h; omega
    subst hil
    exact hK
end Go.Proofs
end
section
namespace Go.Proofs
open Go.Sy
set_option maxRecDepth 20000
set_option maxHeartbeats 4000000
end Go.Proofs
end
section
namespace Go.Proofs
open Go.Sy
set_option maxRecDepth 20000
set_option maxHeartbeats 4000000
theorem sel_succ (f : Nat → Bool) (i : Nat) : ((List.range (i + 1)).filter f).map (fun k : Nat => (k : Int)) = ((List.range i).filter f).map (fun k : Nat => (k : Int)) ++ (if f i = true then [(i : Int)] else []) := by
  rw [List.range_succ, List.filter_append, List.map_append]
  by_cases h : f i = true
  · simp [h]
  · simp [h]
theorem sel_len (f : Nat → Bool) (i : Nat) : (((List.range i).filter f).map (fun k : Nat => (k : Int))).length ≤ i := by
  rw [List.length_map]
  exact Nat.le_trans (List.length_filter_le _ _) (by rw [List.length_range]; exact Nat.le_refl _)
end Go.Proofs
end
section
namespace Go.Proofs
open Go.Sy
set_option maxRecDepth 20000
set_option maxHeartbeats 4000000
end Go.Proofs
end
section
namespace Go.Proofs
open Go.Sy
set_option maxRecDepth 20000
set_option maxHeartbeats 4000000
theorem stmts512 {p : Prog} (h : checkE p = 0) : stmtsN p ≤ 512 := by
  unfold checkE at h
  split at h
  · cases h
  · omega
end Go.Proofs
end
section
namespace Go.Proofs
open Go.Sy
set_option maxRecDepth 20000
set_option maxHeartbeats 4000000
theorem rc_snocI {H : Hp} {css : List (List Value)} {X : List (List Int)} (h : RC (α := List Int) H css X) {a : Option Addr} {n c : Nat} {x : List Int} (hx : RL H a n c x) : RC (α := List Int) H (css ++ [[.slice a n c]]) (X ++ [x]) :=
  RC.snoc h (show Enc.R (α := List Int) H [.slice a n c] x from ⟨a, n, c, rfl, hx⟩)
end Go.Proofs
end
section
namespace Go.Proofs
open Go.Sy
set_option maxRecDepth 20000
set_option maxHeartbeats 4000000
end Go.Proofs
end
section
namespace Go.Proofs
open Go.Sy
set_option maxRecDepth 20000
set_option maxHeartbeats 4000000
end Go.Proofs
end
section
namespace Go.Proofs
open Go.Sy
set_option maxRecDepth 20000
set_option maxHeartbeats 4000000
def siteN : Site := (0, 0, ⟨[]⟩)
def killO (Z : List Site) (v : Bs8) (at' : Int) (q : Nat) : List Int := ((List.range q).filter fun i : Nat => decide ((Z[i]?.getD siteN).2.2.l = v) && !decide ((i : Int) = at')).map fun i : Nat => (i : Int)
def genV (Z : List Site) (b nB : Int) (V : List Bs8) : List Int := V.flatMap fun v => if lastS Z b nB v < 0 then [] else [lastS Z b nB v]
def killV (Z : List Site) (b nB : Int) (V : List Bs8) : List Int := V.flatMap fun v => if lastS Z b nB v < 0 then [] else killO Z v (lastS Z b nB v) Z.length
def rchF (Z : List Site) (V : List Bs8) (i : Nat) (b : Block) : Wd × Wd := (ofB Z.length (genV Z i b.2.1.length V), ofB Z.length (killV Z i b.2.1.length V))
def rchT (Z : List Site) (V : List Bs8) : Prog → Nat → List (Wd × Wd)
  | [], _ => []
  | b :: r, i => rchF Z V i b :: rchT Z V r (i + 1)
def cntL (n : Nat) : List Int := (List.range n).map fun i : Nat => (i : Int)
def csysOf (p : Prog) : Bt.SyB := ⟨1, (sitesOf p).length, p.length, gSort (edgesOf p), [0], ofB (sitesOf p).length (cntL (varsOf p).length), rchT (sitesOf p) (varsOf p) p 0⟩
theorem rchT_len (Z : List Site) (V : List Bs8) : ∀ (p : Prog) (i : Nat), (rchT Z V p i).length = p.length
  | [], _ => rfl
  | b :: r, i => by rw [rchT, List.length_cons, List.length_cons, rchT_len Z V r (i + 1)]
theorem rchT_at (Z : List Site) (V : List Bs8) : ∀ (p : Prog) (j i : Nat) (b : Block), p[i]? = some b → (rchT Z V p j)[i]? = some (rchF Z V (j + i) b)
  | [], j, i, b, h => by simp at h
  | c :: r, j, 0, b, h => by
    rw [List.getElem?_cons_zero] at h
    cases h
    rfl
  | c :: r, j, i + 1, b, h => by
    rw [List.getElem?_cons_succ] at h
    rw [rchT, List.getElem?_cons_succ, rchT_at Z V r (j + 1) i b h, show j + 1 + i = j + (i + 1) by omega]
theorem rchT_ok (Z : List Site) (V : List Bs8) : ∀ (p : Prog) (j : Nat), ∀ t ∈ rchT Z V p j, Bt.okT Z.length t
  | [], _, t, h => by cases h
  | b :: r, j, t, h => by
    rw [rchT] at h
    rcases List.mem_cons.1 h with rfl | h
    · exact ⟨ofB_ok _ _, ofB_ok _ _⟩
    · exact rchT_ok Z V r (j + 1) t h
theorem sites_len {p : Prog} (h : checkE p = 0) : (sitesOf p).length ≤ 576 := by
  have h1 := siteP_len p 0
  have h2 := stmts512 h
  have h3 := (check_facts h).2.2.1
  rw [sitesOf, List.length_append, site0, List.length_map]
  omega
theorem csysOf_ok {p : Prog} (h : checkE p = 0) : Bt.OkS (csysOf p) := by
  have hf := check_facts h
  have hx := sites_len h
  refine ⟨.inl rfl, ?_, ?_, ?_, ?_, ?_, ?_, ?_, ?_⟩
  · show (sitesOf p).length ≤ 1024
    omega
  · show 1 ≤ p.length ∧ p.length ≤ 256
    omega
  · show (gSort (edgesOf p)).length ≤ 1024
    have h1 := gSort_len (edgesOf p)
    have h2 := eAll_len p p 0
    rw [edgesOf] at h1 ⊢
    omega
  · intro e he
    have he' : e ∈ edgesOf p := (gSort_mem _ _).1 he
    have h1 := eAll_lt p 0 e he'
    show (0 ≤ e.1 ∧ e.1 < (p.length : Nat)) ∧ 0 ≤ e.2 ∧ e.2 < (p.length : Nat)
    omega
  · intro v hv
    have hv : v ∈ [(0 : Int)] := hv
    rw [List.mem_singleton] at hv
    show 0 ≤ v ∧ v < (p.length : Nat)
    omega
  · exact ofB_ok _ _
  · exact rchT_len _ _ p 0
  · intro t ht
    exact rchT_ok _ _ p 0 t ht
theorem csysT_take {p : Prog} {i : Nat} {b : Block} (h : p[i]? = some b) : ((csysOf p).T.map Bt.TrB.mk).take (i + 1) = ((csysOf p).T.map Bt.TrB.mk).take i ++ [Bt.TrB.mk (rchF (sitesOf p) (varsOf p) i b)] := by
  have e : ((csysOf p).T.map Bt.TrB.mk)[i]? = some (Bt.TrB.mk (rchF (sitesOf p) (varsOf p) i b)) := by
    show ((rchT (sitesOf p) (varsOf p) p 0).map Bt.TrB.mk)[i]? = _
    rw [List.getElem?_map, rchT_at _ _ p 0 i b h, Nat.zero_add]; rfl
  rw [List.take_add_one, e, Option.toList_some]
theorem killO_succ {Z : List Site} {q : Nat} {x : Site} (h : Z[q]? = some x) (v : Bs8) (at' : Int) : killO Z v at' (q + 1) = killO Z v at' q ++ (if (decide (x.2.2.l = v) && !decide ((q : Int) = at')) = true then [(q : Int)] else []) := by
  have := sel_succ (fun i : Nat => decide ((Z[i]?.getD siteN).2.2.l = v) && !decide ((i : Int) = at')) q
  rw [h] at this
  exact this
structure FamV (Z : List Site) (b nB : Int) (V : List Bs8) (A B : Nat → List Int) (C : Nat → Nat → List Int) : Prop where
  a0 : A 0 = []
  b0 : B 0 = []
  asx : ∀ j v, V[j]? = some v → A (j + 1) = A j ++ (if lastS Z b nB v < 0 then [] else [lastS Z b nB v])
  bs' : ∀ j v, V[j]? = some v → lastS Z b nB v < 0 → B (j + 1) = B j
  c0 : ∀ j, C j 0 = B j
  cs : ∀ j v q x, V[j]? = some v → Z[q]? = some x → C j (q + 1) = C j q ++ (if (decide (x.2.2.l = v) && !decide ((q : Int) = lastS Z b nB v)) = true then [(q : Int)] else [])
  ce : ∀ j v, V[j]? = some v → ¬ lastS Z b nB v < 0 → C j Z.length = B (j + 1)
  ae : A V.length = genV Z b nB V
  be : B V.length = killV Z b nB V
  al : ∀ j, (A j).length ≤ j
  cl : ∀ j q, j ≤ 64 → q ≤ Z.length → Z.length ≤ 576 → (C j q).length ≤ 40000
theorem flatB_take {f : Bs8 → List Int} {V : List Bs8} {j : Nat} {v : Bs8} (h : V[j]? = some v) : (V.take (j + 1)).flatMap f = (V.take j).flatMap f ++ f v := by
  rw [List.take_add_one, h, Option.toList_some, List.flatMap_append, List.flatMap_singleton]
theorem genV_len (Z : List Site) (b nB : Int) : ∀ (V : List Bs8), (genV Z b nB V).length ≤ V.length
  | [] => Nat.le_refl _
  | v :: r => by
    have h := genV_len Z b nB r
    rw [genV] at h ⊢
    rw [List.flatMap_cons, List.length_append, List.length_cons]
    have h2 : (if lastS Z b nB v < 0 then [] else [lastS Z b nB v] : List Int).length ≤ 1 := by split <;> simp
    omega
theorem killO_len (Z : List Site) (v : Bs8) (at' : Int) (q : Nat) : (killO Z v at' q).length ≤ q := sel_len _ q
theorem killV_len (Z : List Site) (b nB : Int) : ∀ (V : List Bs8), (killV Z b nB V).length ≤ V.length * Z.length
  | [] => by simp [killV]
  | v :: r => by
    have h := killV_len Z b nB r
    rw [killV] at h ⊢
    rw [List.flatMap_cons, List.length_append, List.length_cons, Nat.succ_mul]
    have h2 : (if lastS Z b nB v < 0 then [] else killO Z v (lastS Z b nB v) Z.length : List Int).length ≤ Z.length := by
      split
      · simp
      · exact killO_len _ _ _ _
    omega
theorem lastG_in (b k : Int) (v : Bs8) : ∀ (l : List Site) (i : Nat) (o : Int), -1 ≤ o → o < (i : Nat) → -1 ≤ lastG b k v l i o ∧ lastG b k v l i o < ((i + l.length : Nat) : Int)
  | [], i, o, h1, h2 => ⟨h1, by rw [lastG]; simpa using h2⟩
  | x :: r, i, o, h1, h2 => by
    have h := lastG_in b k v r (i + 1) (if hitS b k v x = true then (i : Int) else o) (by split <;> omega) (by split <;> omega)
    rw [lastG, List.length_cons]
    omega
theorem lastS_in (Z : List Site) (b k : Int) (v : Bs8) : -1 ≤ lastS Z b k v ∧ lastS Z b k v < (Z.length : Nat) := by
  have h := lastG_in b k v Z 0 (-1) (by omega) (by omega)
  rw [Nat.zero_add] at h
  exact h
theorem genV_in {Z : List Site} (hZ : Z.length ≤ 576) (b nB : Int) (V : List Bs8) : ∀ x ∈ genV Z b nB V, inI x := fun x hx => by
  obtain ⟨v, _, h⟩ := List.mem_flatMap.1 hx
  have hi := lastS_in Z b nB v
  split at h
  · cases h
  · rw [List.mem_singleton] at h
    rw [h]
    exact ⟨by omega, by omega⟩
theorem killV_in {Z : List Site} (hZ : Z.length ≤ 576) (b nB : Int) (V : List Bs8) : ∀ x ∈ killV Z b nB V, inI x := fun x hx => by
  obtain ⟨v, _, h⟩ := List.mem_flatMap.1 hx
  split at h
  · cases h
  · obtain ⟨k, hk, rfl⟩ := List.mem_map.1 h
    have := List.mem_range.1 (List.mem_filter.1 hk).1
    exact ⟨by omega, by omega⟩
theorem famV_k {P : Prop} (Z : List Site) (b nB : Int) (V : List Bs8) (k : ∀ A B C, FamV Z b nB V A B C → P) : P := by
  refine k (fun j => genV Z b nB (V.take j)) (fun j => killV Z b nB (V.take j)) (fun j q => killV Z b nB (V.take j) ++ (match V[j]? with | some v => killO Z v (lastS Z b nB v) q | none => [])) ⟨rfl, rfl, fun j v hv => ?_, fun j v hv h => ?_, fun j => ?_, fun j v q x hv hx => ?_, fun j v hv h => ?_, ?_, ?_, fun j => ?_, fun j q hj hq hZ => ?_⟩
  · rw [genV, genV, flatB_take hv]
  · rw [killV, killV, flatB_take hv, if_pos h, List.append_nil]
  · cases V[j]? with
    | none => simp
    | some v => simp [killO]
  · rw [hv]
    dsimp only
    rw [killO_succ hx, List.append_assoc]
  · rw [hv]
    show killV Z b nB (V.take j) ++ killO Z v (lastS Z b nB v) Z.length = killV Z b nB (V.take (j + 1))
    rw [killV, killV, flatB_take hv, if_neg h]
  · rw [List.take_length]
  · rw [List.take_length]
  · have h := genV_len Z b nB (V.take j)
    rw [List.length_take] at h
    omega
  · have h := killV_len Z b nB (V.take j)
    have h3 : (V.take j).length * Z.length ≤ 64 * 576 := Nat.mul_le_mul (by rw [List.length_take]; omega) hZ
    have h2 : (match V[j]? with | some v => killO Z v (lastS Z b nB v) q | none => []).length ≤ q := by
      cases V[j]? with
      | none => simp
      | some v => exact killO_len _ _ _ _
    rw [List.length_append]
    omega
end Go.Proofs
end
section
namespace Go.Proofs
open Go.Sy
set_option maxRecDepth 20000
set_option maxHeartbeats 4000000
theorem cnt_snoc (i : Nat) : iRows (cntL i) ++ [[.int .i64 (i : Nat)]] = iRows (cntL (i + 1)) := by
  rw [cntL, cntL, List.range_succ, List.map_append, iRows, iRows, List.map_append]; rfl
theorem cnt_in {n : Nat} (h : n ≤ 1000000) : ∀ x ∈ cntL n, inI x := fun x hx => by
  obtain ⟨k, hk, rfl⟩ := List.mem_map.1 hx
  have := List.mem_range.1 hk
  exact ⟨by omega, by omega⟩
theorem rchs_spec {p : Prog} (he : checkE p = 0) (hp : p.length ≤ 12) (hl : ∀ b ∈ p, b.2.1.length ≤ 100000) (hc : stmtsN p ≤ 1000000) (hv : cnt p < 400000) {a : Option Addr} {n c : Nat} {H : Hp} {K : Value → Hp → Prop} (ha : RL H a n c p)
    (hK : ∀ z H', Le H H' → Bt.SysR H' (csysOf p) z → K (Bt.sysA (csysOf p) z) H') : Does Tryz.prog 15 [.agg #[.slice a n c]] H K := by
  have hn := ha.n_eq
  have hmx := ha.le
  have hv64 := vars64 he
  have hz5 := sites_len he
  refine spec_of cx_ok cx_mix rfl Tryz.func15 Tryz.call15 Tryz.ntmps15 Tryz.results15 rfl rfl ?_
  refine rsites_spec hp hl hc hv hv64 ha fun az nz cz H0 hle0 hrz => ?_
  have hnz := hrz.n_eq
  subst hnz
  refine rvars_spec (ha.up hle0) hv fun av nv cv H1 hle1 hrv => ?_
  have hnv := hrv.n_eq
  rw [List.length_map] at hnv
  subst hnv
  have hle01 := hle0.trans hle1
  refine ⟨Nat, fun i => ⟨[(1, .ptr 0 0), (2, .ptr 1 0), (3, .v (.slice az (sitesOf p).length cz)), (4, .v (.int .i64 ((sitesOf p).length : Nat))), (5, .v (.slice av (varsOf p).length cv)), (6, .own 2), (25, .v (.int .i64 ((varsOf p).length : Nat))), (26, .v (.int .i64 i))],
      [(0, .cells 24 [.v (.slice a n c)]), (1, .cells 32 (vL zSys)), (2, .row 3 1 (iRows (cntL i)))], 3⟩,
    fun i H' => H' = H1 ∧ i ≤ (varsOf p).length, fun i => (varsOf p).length - i, ⟨0, [(0, 0), (1, 1)], ?_, rfl, Nat.zero_le _⟩, ?_⟩
  · (repeat' (first|exact trivial|refine ⟨?_,?_⟩|exact rfl|assumption))
  rintro i H2 _ ⟨rfl, hi⟩
  have hcl : (iRows (cntL i)).length = i := by rw [List.length_map, cntL, List.length_map, List.length_range]
  refine ⟨fun h => ?_, fun h => ?_⟩
  · have hlt : i < (varsOf p).length := by have := dt h; omega
    have e1 := cnt_snoc i
    refine ⟨⟨by show (_ + 1) * 8 ≤ 140737488355328; omega, by show _ + 1 ≤ 9223372036854775807; omega⟩, ?_⟩
    refine ⟨⟨by omega, by omega⟩, i + 1, [(0, 0), (1, 1), (2, 4)], ?_, ⟨rfl, hlt⟩, by dsimp only; omega⟩
    (repeat' (first|exact trivial|refine ⟨?_,?_⟩|exact rfl|assumption))
  have hil : i = (varsOf p).length := by have := df h; omega
  rw [hil]
  refine ⟨none, ?_⟩
  refine region_plan (α := SA) ?_ ?_
    (.two 5 6 (.two 5 11 (.two 6 9 (.two 6 11 (.two 9 11 (.one [2, 3, 4] [0, 1, 2, 3, 4, 7, 8, 5, 6, 9, 10, 11, 12]) (.one [2, 3, 4] [0, 1, 2, 3, 4, 7, 8, 5, 6, 11, 9, 10, 12])) (.one [2, 3, 4] [0, 1, 2, 3, 4, 7, 8, 5, 11, 6, 9, 10, 12])) (.two 6 11 (.one [2, 3, 4] [0, 1, 2, 3, 4, 7, 8, 5, 9, 6, 10, 11, 12]) (.two 9 11 (.one [2, 3, 4] [0, 1, 2, 3, 4, 7, 8, 5, 9, 11, 6, 10, 12]) (.one [2, 3, 4] [0, 1, 2, 3, 4, 7, 8, 5, 11, 9, 6, 10, 12])))) (.two 6 9 (.one [2, 3, 4] [0, 1, 2, 3, 4, 7, 8, 11, 5, 6, 9, 10, 12]) (.one [2, 3, 4] [0, 1, 2, 3, 4, 7, 8, 11, 5, 9, 6, 10, 12]))) (.two 5 11 (.two 9 11 (.one [2, 3, 4] [0, 1, 2, 3, 4, 7, 8, 6, 5, 9, 10, 11, 12]) (.one [2, 3, 4] [0, 1, 2, 3, 4, 7, 8, 6, 5, 11, 9, 10, 12])) (.two 6 11 (.one [2, 3, 4] [0, 1, 2, 3, 4, 7, 8, 6, 11, 5, 9, 10, 12]) (.one [2, 3, 4] [0, 1, 2, 3, 4, 7, 8, 11, 6, 5, 9, 10, 12]))))
    (fun z => ⟨[(1, .ptr 0 0), (2, .ptr 1 0), (3, .v (.slice az (sitesOf p).length cz)), (4, .v (.int .i64 ((sitesOf p).length : Nat))), (5, .v (.slice av (varsOf p).length cv)), (8, .ptr 2 0)],
      [(0, .cells 24 [.v (.slice a n c)]), (1, .cells 32 (vL zSys)), (2, .cells 32 [.v (.int .i64 (1 : Nat)), .v (.int .i64 ((sitesOf p).length : Nat)), .v (.int .i64 n), .v (.slice z.ea z.en z.ec), .own 3, .v (.slice z.ia z.ni z.ic), .v (.slice none 0 0)]), (3, .row 3 1 iRow0)], 4⟩)
    (fun z H' => Le H2 H' ∧ RL H' z.ea z.en z.ec (gSort (edgesOf p)) ∧ RL H' z.ia z.ni z.ic (csysOf p).ini) (by kernel_rfl) ⟨⟨⟨⟨⟨?_, ?_⟩, ?_⟩, ⟨?_, ⟨?_, ?_⟩⟩⟩, ⟨?_, ?_⟩⟩, ⟨⟨?_, ?_⟩, ⟨?_, ?_⟩⟩⟩ ?_
  · exact ⟨cx_ok.tt, cx_ok.eqs⟩
  · exact cx_mix
  · refine redges_spec hp (ha.up hle01) fun e1 e2 e3 H3 hle3 hr3 => ?_
    intro v1 H4 hle4 hv4
    refine of_row_k (α := Int) hv4 (rc_iRows (cnt_in (by omega))) fun d1 d2 d3 ev1 hr4 => ?_
    subst ev1
    refine r10of_spec (w := (sitesOf p).length) (by omega) hr4 fun w1 w2 w3 H5 hle5 hr5 => ?_
    exact ⟨⟨e1, e2, e3, none, 0, 0, w1, w2, w3, none, 0, 0⟩, [(0, 0), (1, 1), (2, 4), (3, 3)], by (repeat' (first|exact trivial|refine ⟨?_,?_⟩|exact rfl|assumption)), (hle3.trans hle4.le).trans hle5, hr3.up (hle4.le.trans hle5), hr5⟩
  · refine redges_spec hp (ha.up hle01) fun e1 e2 e3 H3 hle3 hr3 => ?_
    intro v1 H4 hle4 hv4
    refine of_row_k (α := Int) hv4 (rc_iRows (cnt_in (by omega))) fun d1 d2 d3 ev1 hr4 => ?_
    subst ev1
    refine r10of_spec (w := (sitesOf p).length) (by omega) hr4 fun w1 w2 w3 H5 hle5 hr5 => ?_
    exact ⟨⟨e1, e2, e3, none, 0, 0, w1, w2, w3, none, 0, 0⟩, [(0, 0), (1, 1), (2, 4), (3, 3)], by (repeat' (first|exact trivial|refine ⟨?_,?_⟩|exact rfl|assumption)), (hle3.trans hle4.le).trans hle5, hr3.up (hle4.le.trans hle5), hr5⟩
  · refine redges_spec hp (ha.up hle01) fun e1 e2 e3 H3 hle3 hr3 => ?_
    intro v1 H4 hle4 hv4
    refine of_row_k (α := Int) hv4 (rc_iRows (cnt_in (by omega))) fun d1 d2 d3 ev1 hr4 => ?_
    subst ev1
    refine r10of_spec (w := (sitesOf p).length) (by omega) hr4 fun w1 w2 w3 H5 hle5 hr5 => ?_
    exact ⟨⟨e1, e2, e3, none, 0, 0, w1, w2, w3, none, 0, 0⟩, [(0, 0), (1, 1), (2, 3), (3, 4)], by (repeat' (first|exact trivial|refine ⟨?_,?_⟩|exact rfl|assumption)), (hle3.trans hle4.le).trans hle5, hr3.up (hle4.le.trans hle5), hr5⟩
  · refine redges_spec hp (ha.up hle01) fun e1 e2 e3 H3 hle3 hr3 => ?_
    intro v1 H4 hle4 hv4
    refine of_row_k (α := Int) hv4 (rc_iRows (cnt_in (by omega))) fun d1 d2 d3 ev1 hr4 => ?_
    subst ev1
    refine r10of_spec (w := (sitesOf p).length) (by omega) hr4 fun w1 w2 w3 H5 hle5 hr5 => ?_
    exact ⟨⟨e1, e2, e3, none, 0, 0, w1, w2, w3, none, 0, 0⟩, [(0, 0), (1, 1), (2, 4), (3, 3)], by (repeat' (first|exact trivial|refine ⟨?_,?_⟩|exact rfl|assumption)), (hle3.trans hle4.le).trans hle5, hr3.up (hle4.le.trans hle5), hr5⟩
  · refine redges_spec hp (ha.up hle01) fun e1 e2 e3 H3 hle3 hr3 => ?_
    intro v1 H4 hle4 hv4
    refine of_row_k (α := Int) hv4 (rc_iRows (cnt_in (by omega))) fun d1 d2 d3 ev1 hr4 => ?_
    subst ev1
    refine r10of_spec (w := (sitesOf p).length) (by omega) hr4 fun w1 w2 w3 H5 hle5 hr5 => ?_
    exact ⟨⟨e1, e2, e3, none, 0, 0, w1, w2, w3, none, 0, 0⟩, [(0, 0), (1, 1), (2, 3), (3, 4)], by (repeat' (first|exact trivial|refine ⟨?_,?_⟩|exact rfl|assumption)), (hle3.trans hle4.le).trans hle5, hr3.up (hle4.le.trans hle5), hr5⟩
  · refine redges_spec hp (ha.up hle01) fun e1 e2 e3 H3 hle3 hr3 => ?_
    intro v1 H4 hle4 hv4
    refine of_row_k (α := Int) hv4 (rc_iRows (cnt_in (by omega))) fun d1 d2 d3 ev1 hr4 => ?_
    subst ev1
    refine r10of_spec (w := (sitesOf p).length) (by omega) hr4 fun w1 w2 w3 H5 hle5 hr5 => ?_
    exact ⟨⟨e1, e2, e3, none, 0, 0, w1, w2, w3, none, 0, 0⟩, [(0, 0), (1, 1), (2, 3), (3, 4)], by (repeat' (first|exact trivial|refine ⟨?_,?_⟩|exact rfl|assumption)), (hle3.trans hle4.le).trans hle5, hr3.up (hle4.le.trans hle5), hr5⟩
  · refine redges_spec hp (ha.up hle01) fun e1 e2 e3 H3 hle3 hr3 => ?_
    intro v1 H4 hle4 hv4
    refine of_row_k (α := Int) hv4 (rc_iRows (cnt_in (by omega))) fun d1 d2 d3 ev1 hr4 => ?_
    subst ev1
    refine r10of_spec (w := (sitesOf p).length) (by omega) hr4 fun w1 w2 w3 H5 hle5 hr5 => ?_
    exact ⟨⟨e1, e2, e3, none, 0, 0, w1, w2, w3, none, 0, 0⟩, [(0, 0), (1, 1), (2, 3), (3, 4)], by (repeat' (first|exact trivial|refine ⟨?_,?_⟩|exact rfl|assumption)), (hle3.trans hle4.le).trans hle5, hr3.up (hle4.le.trans hle5), hr5⟩
  · refine redges_spec hp (ha.up hle01) fun e1 e2 e3 H3 hle3 hr3 => ?_
    intro v1 H4 hle4 hv4
    refine of_row_k (α := Int) hv4 (rc_iRows (cnt_in (by omega))) fun d1 d2 d3 ev1 hr4 => ?_
    subst ev1
    refine r10of_spec (w := (sitesOf p).length) (by omega) hr4 fun w1 w2 w3 H5 hle5 hr5 => ?_
    exact ⟨⟨e1, e2, e3, none, 0, 0, w1, w2, w3, none, 0, 0⟩, [(0, 0), (1, 1), (2, 3), (3, 4)], by (repeat' (first|exact trivial|refine ⟨?_,?_⟩|exact rfl|assumption)), (hle3.trans hle4.le).trans hle5, hr3.up (hle4.le.trans hle5), hr5⟩
  · refine redges_spec hp (ha.up hle01) fun e1 e2 e3 H3 hle3 hr3 => ?_
    intro v1 H4 hle4 hv4
    refine of_row_k (α := Int) hv4 (rc_iRows (cnt_in (by omega))) fun d1 d2 d3 ev1 hr4 => ?_
    subst ev1
    refine r10of_spec (w := (sitesOf p).length) (by omega) hr4 fun w1 w2 w3 H5 hle5 hr5 => ?_
    exact ⟨⟨e1, e2, e3, none, 0, 0, w1, w2, w3, none, 0, 0⟩, [(0, 0), (1, 1), (2, 4), (3, 3)], by (repeat' (first|exact trivial|refine ⟨?_,?_⟩|exact rfl|assumption)), (hle3.trans hle4.le).trans hle5, hr3.up (hle4.le.trans hle5), hr5⟩
  · refine redges_spec hp (ha.up hle01) fun e1 e2 e3 H3 hle3 hr3 => ?_
    intro v1 H4 hle4 hv4
    refine of_row_k (α := Int) hv4 (rc_iRows (cnt_in (by omega))) fun d1 d2 d3 ev1 hr4 => ?_
    subst ev1
    refine r10of_spec (w := (sitesOf p).length) (by omega) hr4 fun w1 w2 w3 H5 hle5 hr5 => ?_
    exact ⟨⟨e1, e2, e3, none, 0, 0, w1, w2, w3, none, 0, 0⟩, [(0, 0), (1, 1), (2, 4), (3, 3)], by (repeat' (first|exact trivial|refine ⟨?_,?_⟩|exact rfl|assumption)), (hle3.trans hle4.le).trans hle5, hr3.up (hle4.le.trans hle5), hr5⟩
  · refine redges_spec hp (ha.up hle01) fun e1 e2 e3 H3 hle3 hr3 => ?_
    intro v1 H4 hle4 hv4
    refine of_row_k (α := Int) hv4 (rc_iRows (cnt_in (by omega))) fun d1 d2 d3 ev1 hr4 => ?_
    subst ev1
    refine r10of_spec (w := (sitesOf p).length) (by omega) hr4 fun w1 w2 w3 H5 hle5 hr5 => ?_
    exact ⟨⟨e1, e2, e3, none, 0, 0, w1, w2, w3, none, 0, 0⟩, [(0, 0), (1, 1), (2, 4), (3, 3)], by (repeat' (first|exact trivial|refine ⟨?_,?_⟩|exact rfl|assumption)), (hle3.trans hle4.le).trans hle5, hr3.up (hle4.le.trans hle5), hr5⟩
  · refine redges_spec hp (ha.up hle01) fun e1 e2 e3 H3 hle3 hr3 => ?_
    intro v1 H4 hle4 hv4
    refine of_row_k (α := Int) hv4 (rc_iRows (cnt_in (by omega))) fun d1 d2 d3 ev1 hr4 => ?_
    subst ev1
    refine r10of_spec (w := (sitesOf p).length) (by omega) hr4 fun w1 w2 w3 H5 hle5 hr5 => ?_
    exact ⟨⟨e1, e2, e3, none, 0, 0, w1, w2, w3, none, 0, 0⟩, [(0, 0), (1, 1), (2, 3), (3, 4)], by (repeat' (first|exact trivial|refine ⟨?_,?_⟩|exact rfl|assumption)), (hle3.trans hle4.le).trans hle5, hr3.up (hle4.le.trans hle5), hr5⟩
  rintro ⟨ea, en, ec, na, nn, nc, ia, ni, ic, ta, tn, tc⟩ H3 _ ⟨hle3, hze, hzi⟩
  dsimp only at hze hzi
  have hle03 := hle01.trans hle3
  refine ⟨Nat × List (List Value), fun q => ⟨[(1, .ptr 0 0), (2, .ptr 1 0), (3, .v (.slice az (sitesOf p).length cz)), (4, .v (.int .i64 ((sitesOf p).length : Nat))), (5, .v (.slice av (varsOf p).length cv)), (8, .ptr 2 0), (46, .v (.slice a n c)), (47, .v (.int .i64 n)), (48, .v (.int .i64 q.1))],
      [(0, .cells 24 [.v (.slice a n c)]), (1, .cells 32 (vL zSys)), (2, .cells 32 [.v (.int .i64 (1 : Nat)), .v (.int .i64 ((sitesOf p).length : Nat)), .v (.int .i64 n), .v (.slice ea en ec), .own 3, .v (.slice ia ni ic), .own 4]), (3, .row 3 1 iRow0), (4, .row 109 3 q.2)], 5⟩,
    fun q H' => Le H3 H' ∧ q.1 ≤ p.length ∧ RC (α := Bt.TrB) H' q.2 (((csysOf p).T.map Bt.TrB.mk).take q.1), fun q => p.length - q.1, ⟨(0, []), [(0, 0), (1, 1), (2, 2), (3, 3)], ?_, Le.refl _, Nat.zero_le _, RC.nil⟩, ?_⟩
  · (repeat' (first|exact trivial|refine ⟨?_,?_⟩|exact rfl|assumption))
  rintro ⟨j, css⟩ H4 _ ⟨hle4, hj, hrc⟩
  dsimp only at hj hrc
  have hle : Le H H4 := hle03.trans hle4
  have hTl : ((csysOf p).T.map Bt.TrB.mk).length = p.length := by rw [List.length_map]; exact rchT_len _ _ p 0
  have hcl : css.length = j := by have h1 := hrc.1; rw [List.length_take] at h1; omega
  refine ⟨fun h => ?_, fun h => ?_⟩
  · have hlt : j < p.length := by have := dt h; dsimp only at this; omega
    refine name_k p[j] fun b hbe => ?_
    have hbb : p[j]? = some b := by rw [hbe]; exact List.getElem?_eq_getElem hlt
    have hbl := hl b (by rw [hbe]; exact List.getElem_mem hlt)
    refine famV_k (sitesOf p) j b.2.1.length (varsOf p) fun A B C hF => ?_
    refine block_k (ha.up hle) hbb fun ad a5 n5 c5 q1 hh hr5 hs5 ht5 => ?_
    have hn5 : n5 = b.2.1.length := hr5.n_eq
    subst hn5
    refine ⟨ad, ⟨by dsimp only; omega, by dsimp only; omega, q1⟩, ?_⟩
    refine ⟨_, hh, ?_⟩
    refine ⟨Nat, fun i => ⟨[(1, .ptr 0 0), (2, .ptr 1 0), (3, .v (.slice az (sitesOf p).length cz)), (4, .v (.int .i64 ((sitesOf p).length : Nat))), (5, .v (.slice av (varsOf p).length cv)), (8, .ptr 2 0), (9, .v (.int .i64 j)), (10, .ptr 5 0), (11, .own 6), (12, .own 7), (46, .v (.slice a n c)), (47, .v (.int .i64 n)), (48, .v (.int .i64 j)), (53, .v (.slice av (varsOf p).length cv)), (54, .v (.int .i64 ((varsOf p).length : Nat))), (55, .v (.int .i64 i))],
      [(0, .cells 24 [.v (.slice a n c)]), (1, .cells 32 (vL zSys)), (2, .cells 32 [.v (.int .i64 (1 : Nat)), .v (.int .i64 ((sitesOf p).length : Nat)), .v (.int .i64 n), .v (.slice ea en ec), .own 3, .v (.slice ia ni ic), .own 4]), (3, .row 3 1 iRow0), (4, .row 109 3 css), (5, .cells 57 (vL (blkL (.slice a5 b.2.1.length c5) b))), (6, .row 3 1 (iRows (A i))), (7, .row 3 1 (iRows (B i)))], 8⟩,
      fun i H' => H' = H4 ∧ i ≤ (varsOf p).length, fun i => (varsOf p).length - i, ⟨0, [(0, 0), (1, 1), (2, 2), (3, 3), (4, 4), (5, 5)], ?_, rfl, Nat.zero_le _⟩, ?_⟩
    · have e1 : iRows (A 0) = [] := by rw [hF.a0]; rfl
      have e2 : iRows (B 0) = [] := by rw [hF.b0]; rfl
      (repeat' (first|exact trivial|refine ⟨?_,?_⟩|exact rfl|assumption))
    rintro i H5 _ ⟨rfl, hi2⟩
    refine ⟨fun h => ?_, fun h => ?_⟩
    · have hil2 : i < (varsOf p).length := by have := dt h; omega
      refine name_k (varsOf p)[i] fun v hve => ?_
      have hvv : (varsOf p)[i]? = some v := by rw [hve]; exact List.getElem?_eq_getElem hil2
      refine str_k (hrv.up (hle3.trans hle4)) hvv fun ad2 q2 hh2 _ => ?_
      refine ⟨ad2, ⟨by omega, by omega, q2⟩, ?_⟩
      refine ⟨_, hh2, ?_⟩
      refine rlast_spec (hrz.up ((hle1.trans hle3).trans hle4)) ?_
      have hZ := hz5
      have hbi := hF.cl i 0 (by omega) (Nat.zero_le _) hZ
      have hai := hF.al i
      have hailn : (iRows (A i)).length = (A i).length := List.length_map _
      have hlin := lastS_in (sitesOf p) j b.2.1.length v
      refine ⟨fun h1 => ?_, fun h1 => ?_⟩
      · have h1 : lastS (sitesOf p) j b.2.1.length v < 0 := dt h1
        have e1 : iRows (A i) = iRows (A (i + 1)) := by rw [hF.asx i v hvv, if_pos h1, List.append_nil]
        have e2 : iRows (B i) = iRows (B (i + 1)) := by rw [hF.bs' i v hvv h1]
        refine ⟨⟨by omega, by omega⟩, i + 1, [(0, 0), (1, 1), (2, 2), (3, 3), (4, 4), (5, 5), (6, 6), (7, 7)], ?_, ⟨rfl, hil2⟩, by dsimp only; omega⟩
        (repeat' (first|exact trivial|refine ⟨?_,?_⟩|exact rfl|assumption))
      · have h1 : ¬ lastS (sitesOf p) j b.2.1.length v < 0 := df h1
        have e1 : iRows (A i) ++ [[.int .i64 (lastS (sitesOf p) j b.2.1.length v)]] = iRows (A (i + 1)) := by rw [hF.asx i v hvv, if_neg h1, iRows, iRows, List.map_append]; rfl
        refine ⟨⟨by show (_ + 1) * 8 ≤ 140737488355328; omega, by show _ + 1 ≤ 9223372036854775807; omega⟩, ?_⟩
        refine ⟨Nat, fun q => ⟨[(1, .ptr 0 0), (2, .ptr 1 0), (3, .v (.slice az (sitesOf p).length cz)), (4, .v (.int .i64 ((sitesOf p).length : Nat))), (5, .v (.slice av (varsOf p).length cv)), (8, .ptr 2 0), (9, .v (.int .i64 j)), (10, .ptr 5 0), (11, .own 6), (12, .own 7), (14, .v (.string (bs v))), (15, .v (.int .i64 (lastS (sitesOf p) j b.2.1.length v))), (46, .v (.slice a n c)), (47, .v (.int .i64 n)), (48, .v (.int .i64 j)), (53, .v (.slice av (varsOf p).length cv)), (54, .v (.int .i64 ((varsOf p).length : Nat))), (55, .v (.int .i64 i)), (72, .v (.slice az (sitesOf p).length cz)), (73, .v (.int .i64 ((sitesOf p).length : Nat))), (74, .v (.int .i64 q))],
      [(0, .cells 24 [.v (.slice a n c)]), (1, .cells 32 (vL zSys)), (2, .cells 32 [.v (.int .i64 (1 : Nat)), .v (.int .i64 ((sitesOf p).length : Nat)), .v (.int .i64 n), .v (.slice ea en ec), .own 3, .v (.slice ia ni ic), .own 4]), (3, .row 3 1 iRow0), (4, .row 109 3 css), (5, .cells 57 (vL (blkL (.slice a5 b.2.1.length c5) b))), (6, .row 3 1 (iRows (A (i + 1)))), (7, .row 3 1 (iRows (C i q)))], 8⟩,
          fun q H' => H' = H5 ∧ q ≤ (sitesOf p).length, fun q => (sitesOf p).length - q, ⟨0, [(0, 0), (1, 1), (2, 2), (3, 3), (4, 4), (5, 5), (6, 9), (7, 7)], ?_, rfl, Nat.zero_le _⟩, ?_⟩
        · have e2 : iRows (B i) = iRows (C i 0) := by rw [hF.c0]
          (repeat' (first|exact trivial|refine ⟨?_,?_⟩|exact rfl|assumption))
        rintro q H6 _ ⟨rfl, hq⟩
        have hcq := hF.cl i q (by omega) hq hZ
        have hcqn : (iRows (C i q)).length = (C i q).length := List.length_map _
        refine ⟨fun h => ?_, fun h => ?_⟩
        · have hlq : q < (sitesOf p).length := by have := dt h; omega
          refine name_k (sitesOf p)[q] fun x hxe => ?_
          have hxx : (sitesOf p)[q]? = some x := by rw [hxe]; exact List.getElem?_eq_getElem hlq
          have hcs := hF.cs i v q x hvv hxx
          refine site_k (hrz.up ((hle1.trans hle3).trans hle4)) hxx fun ad3 q3 hh3 _ => ?_
          refine ⟨ad3, ⟨by omega, by omega, q3⟩, ?_⟩
          refine ⟨_, hh3, ?_⟩
          refine ⟨fun h2 => ?_, fun h2 => ?_⟩
          · have h2 : x.2.2.l = v := dt h2
            refine ⟨fun h3 => ?_, fun h3 => ?_⟩
            · have h3 : ¬ (q : Int) = lastS (sitesOf p) j b.2.1.length v := nt h3
              have e2 : iRows (C i q) ++ [[.int .i64 (q : Nat)]] = iRows (C i (q + 1)) := by
                rw [hcs, decide_eq_true h2, decide_eq_false h3, if_pos (by decide), iRows, iRows, List.map_append]; rfl
              refine ⟨⟨by show (_ + 1) * 8 ≤ 140737488355328; omega, by show _ + 1 ≤ 9223372036854775807; omega⟩, ?_⟩
              refine ⟨⟨by omega, by omega⟩, q + 1, [(0, 0), (1, 1), (2, 2), (3, 3), (4, 4), (5, 5), (6, 6), (7, 10)], ?_, ⟨rfl, hlq⟩, by dsimp only; omega⟩
              (repeat' (first|exact trivial|refine ⟨?_,?_⟩|exact rfl|assumption))
            · have h3 : (q : Int) = lastS (sitesOf p) j b.2.1.length v := nf h3
              have e2 : iRows (C i q) = iRows (C i (q + 1)) := by
                rw [hcs, decide_eq_true h2, decide_eq_true h3, if_neg (by decide), List.append_nil]
              refine ⟨⟨by omega, by omega⟩, q + 1, [(0, 0), (1, 1), (2, 2), (3, 3), (4, 4), (5, 5), (6, 6), (7, 7)], ?_, ⟨rfl, hlq⟩, by dsimp only; omega⟩
              (repeat' (first|exact trivial|refine ⟨?_,?_⟩|exact rfl|assumption))
          · have h2 : ¬ x.2.2.l = v := df h2
            have e2 : iRows (C i q) = iRows (C i (q + 1)) := by
              rw [hcs, decide_eq_false h2, Bool.false_and, if_neg (by decide), List.append_nil]
            refine ⟨⟨by omega, by omega⟩, q + 1, [(0, 0), (1, 1), (2, 2), (3, 3), (4, 4), (5, 5), (6, 6), (7, 7)], ?_, ⟨rfl, hlq⟩, by dsimp only; omega⟩
            (repeat' (first|exact trivial|refine ⟨?_,?_⟩|exact rfl|assumption))
        · have hlq : q = (sitesOf p).length := by have := df h; omega
          subst hlq
          have e2 : iRows (C i (sitesOf p).length) = iRows (B (i + 1)) := by rw [hF.ce i v hvv h1]
          refine ⟨⟨by omega, by omega⟩, i + 1, [(0, 0), (1, 1), (2, 2), (3, 3), (4, 4), (5, 5), (6, 6), (7, 7)], ?_, ⟨rfl, hil2⟩, by dsimp only; omega⟩
          (repeat' (first|exact trivial|refine ⟨?_,?_⟩|exact rfl|assumption))
    · have hil2 : i = (varsOf p).length := by have := df h; omega
      subst hil2
      have hAi := genV_in hz5 j b.2.1.length (varsOf p)
      have hBi := killV_in hz5 j b.2.1.length (varsOf p)
      rw [← hF.ae] at hAi
      rw [← hF.be] at hBi
      refine ⟨none, ?_⟩
      refine region_plan (α := List (List Value)) ?_ ?_
        (.two 1 4 (.one [2, 4, 6, 7, 8, 9] [0, 2, 3, 5, 6, 1, 4, 7, 8, 9, 10, 11, 12]) (.two 1 7 (.one [2, 4, 6, 7, 8, 9] [0, 2, 3, 5, 6, 4, 1, 7, 8, 9, 10, 11, 12]) (.two 1 9 (.one [2, 4, 6, 7, 8, 9] [0, 2, 3, 5, 6, 4, 7, 8, 1, 9, 10, 11, 12]) (.one [2, 4, 6, 7, 8, 9] [0, 2, 3, 5, 6, 4, 7, 8, 9, 1, 10, 11, 12]))))
        (fun c' => ⟨[(1, .ptr 0 0), (2, .ptr 1 0), (3, .v (.slice az (sitesOf p).length cz)), (4, .v (.int .i64 ((sitesOf p).length : Nat))), (5, .v (.slice av (varsOf p).length cv)), (8, .ptr 2 0), (46, .v (.slice a n c)), (47, .v (.int .i64 n)), (48, .v (.int .i64 j))],
          [(0, .cells 24 [.v (.slice a n c)]), (1, .cells 32 (vL zSys)), (2, .cells 32 [.v (.int .i64 (1 : Nat)), .v (.int .i64 ((sitesOf p).length : Nat)), .v (.int .i64 n), .v (.slice ea en ec), .own 3, .v (.slice ia ni ic), .own 4]), (3, .row 3 1 iRow0), (4, .row 109 3 c')], 5⟩)
        (fun c' H' => Le H5 H' ∧ RC (α := Bt.TrB) H' c' (((csysOf p).T.map Bt.TrB.mk).take (j + 1))) (by kernel_rfl) ⟨?_, ⟨?_, ⟨?_, ?_⟩⟩⟩ ?_
      · exact ⟨cx_ok.tt, cx_ok.eqs⟩
      · exact cx_mix
      · intro y1 H8 hle8 hy1
        refine of_row_k (α := Int) hy1 (rc_iRows hAi) fun d1 d2 d3 ev1 hr1 => ?_
        subst ev1
        refine r10of_spec (w := (sitesOf p).length) (by omega) hr1 fun g1 g2 g3 H9 hle9 hg => ?_
        intro y2 H10 hle10 hy2
        refine of_row_k (α := Int) hy2 (rc_iRows hBi) fun f1 f2 f3 ev2 hr2 => ?_
        subst ev2
        refine r10of_spec (w := (sitesOf p).length) (by omega) hr2 fun k1 k2 k3 H11 hle11 hk11 => ?_
        refine ⟨⟨by show (css.length + 1) * 72 ≤ 140737488355328; omega, by show css.length + 1 ≤ 9223372036854775807; omega⟩, ?_⟩
        have hle7' := ((hle8.le.trans hle9).trans hle10.le).trans hle11
        have htr : Bt.TrR H11 (rchF (sitesOf p) (varsOf p) j b) ⟨g1, g2, g3, k1, k2, k3⟩ := by
          rw [rchF, ← hF.ae, ← hF.be]
          exact ⟨hg.up (hle10.le.trans hle11), hk11⟩
        have hrc2 : RC (α := Bt.TrB) H11 (css ++ [Bt.trV ⟨g1, g2, g3, k1, k2, k3⟩]) (((csysOf p).T.map Bt.TrB.mk).take (j + 1)) := by
          rw [csysT_take hbb]; exact trb_snoc (RC.up hrc hle7') htr
        exact ⟨css ++ [Bt.trV ⟨g1, g2, g3, k1, k2, k3⟩], [(0, 0), (1, 1), (2, 2), (3, 3), (4, 9)], by (repeat' (first|exact trivial|refine ⟨?_,?_⟩|exact rfl|assumption)), hle7', hrc2⟩
      · intro y1 H8 hle8 hy1
        refine of_row_k (α := Int) hy1 (rc_iRows hAi) fun d1 d2 d3 ev1 hr1 => ?_
        subst ev1
        refine r10of_spec (w := (sitesOf p).length) (by omega) hr1 fun g1 g2 g3 H9 hle9 hg => ?_
        intro y2 H10 hle10 hy2
        refine of_row_k (α := Int) hy2 (rc_iRows hBi) fun f1 f2 f3 ev2 hr2 => ?_
        subst ev2
        refine r10of_spec (w := (sitesOf p).length) (by omega) hr2 fun k1 k2 k3 H11 hle11 hk11 => ?_
        refine ⟨⟨by show (css.length + 1) * 72 ≤ 140737488355328; omega, by show css.length + 1 ≤ 9223372036854775807; omega⟩, ?_⟩
        have hle7' := ((hle8.le.trans hle9).trans hle10.le).trans hle11
        have htr : Bt.TrR H11 (rchF (sitesOf p) (varsOf p) j b) ⟨g1, g2, g3, k1, k2, k3⟩ := by
          rw [rchF, ← hF.ae, ← hF.be]
          exact ⟨hg.up (hle10.le.trans hle11), hk11⟩
        have hrc2 : RC (α := Bt.TrB) H11 (css ++ [Bt.trV ⟨g1, g2, g3, k1, k2, k3⟩]) (((csysOf p).T.map Bt.TrB.mk).take (j + 1)) := by
          rw [csysT_take hbb]; exact trb_snoc (RC.up hrc hle7') htr
        exact ⟨css ++ [Bt.trV ⟨g1, g2, g3, k1, k2, k3⟩], [(0, 0), (1, 1), (2, 2), (3, 3), (4, 9)], by (repeat' (first|exact trivial|refine ⟨?_,?_⟩|exact rfl|assumption)), hle7', hrc2⟩
      · intro y1 H8 hle8 hy1
        refine of_row_k (α := Int) hy1 (rc_iRows hAi) fun d1 d2 d3 ev1 hr1 => ?_
        subst ev1
        refine r10of_spec (w := (sitesOf p).length) (by omega) hr1 fun g1 g2 g3 H9 hle9 hg => ?_
        intro y2 H10 hle10 hy2
        refine of_row_k (α := Int) hy2 (rc_iRows hBi) fun f1 f2 f3 ev2 hr2 => ?_
        subst ev2
        refine r10of_spec (w := (sitesOf p).length) (by omega) hr2 fun k1 k2 k3 H11 hle11 hk11 => ?_
        refine ⟨⟨by show (css.length + 1) * 72 ≤ 140737488355328; omega, by show css.length + 1 ≤ 9223372036854775807; omega⟩, ?_⟩
        have hle7' := ((hle8.le.trans hle9).trans hle10.le).trans hle11
        have htr : Bt.TrR H11 (rchF (sitesOf p) (varsOf p) j b) ⟨g1, g2, g3, k1, k2, k3⟩ := by
          rw [rchF, ← hF.ae, ← hF.be]
          exact ⟨hg.up (hle10.le.trans hle11), hk11⟩
        have hrc2 : RC (α := Bt.TrB) H11 (css ++ [Bt.trV ⟨g1, g2, g3, k1, k2, k3⟩]) (((csysOf p).T.map Bt.TrB.mk).take (j + 1)) := by
          rw [csysT_take hbb]; exact trb_snoc (RC.up hrc hle7') htr
        exact ⟨css ++ [Bt.trV ⟨g1, g2, g3, k1, k2, k3⟩], [(0, 0), (1, 1), (2, 2), (3, 3), (4, 9)], by (repeat' (first|exact trivial|refine ⟨?_,?_⟩|exact rfl|assumption)), hle7', hrc2⟩
      · intro y1 H8 hle8 hy1
        refine of_row_k (α := Int) hy1 (rc_iRows hAi) fun d1 d2 d3 ev1 hr1 => ?_
        subst ev1
        refine r10of_spec (w := (sitesOf p).length) (by omega) hr1 fun g1 g2 g3 H9 hle9 hg => ?_
        intro y2 H10 hle10 hy2
        refine of_row_k (α := Int) hy2 (rc_iRows hBi) fun f1 f2 f3 ev2 hr2 => ?_
        subst ev2
        refine r10of_spec (w := (sitesOf p).length) (by omega) hr2 fun k1 k2 k3 H11 hle11 hk11 => ?_
        refine ⟨⟨by show (css.length + 1) * 72 ≤ 140737488355328; omega, by show css.length + 1 ≤ 9223372036854775807; omega⟩, ?_⟩
        have hle7' := ((hle8.le.trans hle9).trans hle10.le).trans hle11
        have htr : Bt.TrR H11 (rchF (sitesOf p) (varsOf p) j b) ⟨g1, g2, g3, k1, k2, k3⟩ := by
          rw [rchF, ← hF.ae, ← hF.be]
          exact ⟨hg.up (hle10.le.trans hle11), hk11⟩
        have hrc2 : RC (α := Bt.TrB) H11 (css ++ [Bt.trV ⟨g1, g2, g3, k1, k2, k3⟩]) (((csysOf p).T.map Bt.TrB.mk).take (j + 1)) := by
          rw [csysT_take hbb]; exact trb_snoc (RC.up hrc hle7') htr
        exact ⟨css ++ [Bt.trV ⟨g1, g2, g3, k1, k2, k3⟩], [(0, 0), (1, 1), (2, 2), (3, 3), (4, 9)], by (repeat' (first|exact trivial|refine ⟨?_,?_⟩|exact rfl|assumption)), hle7', hrc2⟩
      rintro c' H9 _ ⟨hle9, hrc9⟩
      refine ⟨⟨by omega, by omega⟩, (j + 1, c'), [(0, 0), (1, 1), (2, 2), (3, 3), (4, 4)], ?_, ⟨hle4.trans hle9, hlt, hrc9⟩, by dsimp only; omega⟩
      (repeat' (first|exact trivial|refine ⟨?_,?_⟩|exact rfl|assumption))
  · have hjl : j = p.length := by have := df h; dsimp only at this; omega
    rw [hjl, List.take_of_length_le (by omega)] at hrc
    intro v1 H5 hle5 hv1
    refine ints_k hv1 fun na nn nc ev1 hr1 => ?_
    subst ev1
    intro v3 H7 hle7 hv3
    refine of_row_k (α := Bt.TrB) hv3 (RC.up hrc (hle5.le.trans hle7.le)) fun ta tn tc ev3 hr3 => ?_
    subst ev3
    have h57 := hle5.le.trans hle7.le
    have hsys : Bt.SysR H7 (csysOf p) ⟨ea, en, ec, na, nn, nc, ia, ni, ic, ta, tn, tc⟩ :=
      ⟨hze.up (hle4.trans h57), hr1.up hle7.le, hzi.up (hle4.trans h57), hr3⟩
    have hK := hK ⟨ea, en, ec, na, nn, nc, ia, ni, ic, ta, tn, tc⟩ H7 (hle.trans h57) hsys
    have e2 : (csysOf p).m = n := hn.symm
    rw [Bt.sysA, Bt.sysV, e2] at hK
    exact hK
end Go.Proofs
end
section
namespace Go.Proofs
open Go.Sy
set_option maxRecDepth 20000
set_option maxHeartbeats 4000000
def pickV (Z : List Site) (v : Bs8) (I : List Int) : List Int := I.filter fun n => decide ((Z[n.toNat]?.getD siteN).2.2.l = v)
def ofS (Z : List Site) (I : List Int) (b k : Int) (v : Bs8) : List Int := if 0 ≤ lastS Z b k v then [lastS Z b k v] else pickV Z v I
theorem pickV_take {Z : List Site} {v : Bs8} {I : List Int} {i : Nat} {n : Int} (h : I[i]? = some n) : pickV Z v (I.take (i + 1)) = pickV Z v (I.take i) ++ (if decide ((Z[n.toNat]?.getD siteN).2.2.l = v) = true then [n] else []) := by
  rw [pickV, pickV, List.take_add_one, h, Option.toList_some, List.filter_append]
  by_cases h2 : decide ((Z[n.toNat]?.getD siteN).2.2.l = v) = true
  · rw [if_pos h2]; simp only [List.filter_cons, h2]; rfl
  · rw [if_neg h2]
    have h2 : decide ((Z[n.toNat]?.getD siteN).2.2.l = v) = false := by simpa using h2
    simp only [List.filter_cons, h2]; rfl
theorem rof39_spec {p : Prog} (he : checkE p = 0) (hp : p.length ≤ 12) (hl : ∀ b ∈ p, b.2.1.length ≤ 100000) (hc : stmtsN p ≤ 1000000) (hv : cnt p < 400000) {I : List Int} (hIn : ∀ x ∈ I, 0 ≤ x ∧ x < ((sitesOf p).length : Nat)) (hIl : I.length ≤ 100000) {b k : Int} {v : Bs8} {a ai : Option Addr} {n c ni ci : Nat} {H : Hp} {K : Value → Hp → Prop} (ha : RL H a n c p) (hI : RL H ai ni ci I)
    (hK : ∀ a1 n1 c1 H', Le H H' → RL H' a1 n1 c1 (ofS (sitesOf p) I b k v) → K (.slice a1 n1 c1) H') : Does Tryz.prog 24 [.agg #[.slice a n c], .slice ai ni ci, .int .i64 b, .int .i64 k, .string (bs v)] H K := by
  have hni := hI.n_eq
  have hv64 := vars64 he
  have hz5 := sites_len he
  refine spec_of cx_ok cx_mix rfl Tryz.func24 Tryz.call24 Tryz.ntmps24 Tryz.results24 rfl rfl ?_
  refine rsites_spec hp hl hc hv hv64 ha fun az nz cz H1 hle1 hrz => ?_
  have hnz := hrz.n_eq
  have hlin := lastS_in (sitesOf p) b k v
  refine rlast_spec hrz ?_
  refine ⟨fun h => ?_, fun h => ?_⟩
  · have h0 : 0 ≤ lastS (sitesOf p) b k v := dt h
    intro y H2 hle2 hy
    refine of_row_k (α := Int) hy (rc_iRows (l := [lastS (sitesOf p) b k v]) fun x hx => by rw [List.mem_singleton] at hx; rw [hx]; exact ⟨by omega, by omega⟩) fun d1 d2 d3 ev hr => ?_
    subst ev
    refine hK _ _ _ _ (hle1.trans hle2.le) ?_
    rw [ofS, if_pos h0]; exact hr
  · have h0 : ¬ 0 ≤ lastS (sitesOf p) b k v := df h
    have hofs : ofS (sitesOf p) I b k v = pickV (sitesOf p) v I := if_neg h0
    refine ⟨Nat, fun i => ⟨[(4, .v (.string (bs v))), (11, .v (.slice az nz cz)), (13, .own 0), (27, .v (.slice ai ni ci)), (28, .v (.int .i64 ni)), (29, .v (.int .i64 i))], [(0, .row 3 1 (iRows (pickV (sitesOf p) v (I.take i))))], 1⟩,
      fun i H' => H' = H1 ∧ i ≤ I.length, fun i => I.length - i, ⟨0, [], ?_, rfl, Nat.zero_le _⟩, ?_⟩
    · (repeat' (first|exact trivial|refine ⟨?_,?_⟩|exact rfl|assumption))
    rintro i H2 _ ⟨rfl, hi⟩
    have hpl : (iRows (pickV (sitesOf p) v (I.take i))).length ≤ 100000 := by
      rw [List.length_map, pickV]
      refine Nat.le_trans (List.length_filter_le _ _) ?_
      rw [List.length_take]; omega
    refine ⟨fun h => ?_, fun h => ?_⟩
    · have hlt : i < I.length := by have := dt h; omega
      refine name_k I[i] fun m hme => ?_
      have hmm : I[i]? = some m := by rw [hme]; exact List.getElem?_eq_getElem hlt
      have hmi := hIn m (List.mem_of_getElem? hmm)
      have hst := pickV_take (Z := sitesOf p) (v := v) hmm
      refine int_k (hI.up hle1) hmm fun ad q1 hh => ?_
      refine ⟨ad, ⟨by omega, by omega, q1⟩, ?_⟩
      refine ⟨_, hh, ?_⟩
      have hml : m.toNat < (sitesOf p).length := by omega
      refine name_k (sitesOf p)[m.toNat] fun x hxe => ?_
      have hxx : (sitesOf p)[m.toNat]? = some x := by rw [hxe]; exact List.getElem?_eq_getElem hml
      rw [hxx] at hst
      have hst : pickV (sitesOf p) v (I.take (i + 1)) = pickV (sitesOf p) v (I.take i) ++ (if decide (x.2.2.l = v) = true then [m] else []) := hst
      refine site_k hrz hxx fun ad2 q2 hh2 _ => ?_
      rw [Int.toNat_of_nonneg hmi.1] at hh2
      refine ⟨ad2, ⟨by omega, by omega, q2⟩, ?_⟩
      refine ⟨_, hh2, ?_⟩
      refine ⟨fun h => ?_, fun h => ?_⟩
      · have hx : x.2.2.l = v := dt h
        have e1 : iRows (pickV (sitesOf p) v (I.take i)) ++ [[.int .i64 m]] = iRows (pickV (sitesOf p) v (I.take (i + 1))) := by rw [hst, decide_eq_true hx, if_pos rfl, iRows, iRows, List.map_append]; rfl
        refine ⟨⟨by show (_ + 1) * 8 ≤ 140737488355328; omega, by show _ + 1 ≤ 9223372036854775807; omega⟩, ?_⟩
        refine ⟨⟨by omega, by omega⟩, i + 1, [(0, 2)], ?_, ⟨rfl, hlt⟩, by dsimp only; omega⟩
        (repeat' (first|exact trivial|refine ⟨?_,?_⟩|exact rfl|assumption))
      · have hx : ¬ x.2.2.l = v := df h
        have e1 : iRows (pickV (sitesOf p) v (I.take i)) = iRows (pickV (sitesOf p) v (I.take (i + 1))) := by rw [hst, decide_eq_false hx, if_neg (by decide), List.append_nil]
        refine ⟨⟨by omega, by omega⟩, i + 1, [(0, 0)], ?_, ⟨rfl, hlt⟩, by dsimp only; omega⟩
        (repeat' (first|exact trivial|refine ⟨?_,?_⟩|exact rfl|assumption))
    · have hil : i = I.length := by have := df h; omega
      rw [hil, List.take_length, ← hofs]
      intro y H3 hle3 hy
      refine of_row_k (α := Int) hy (rc_iRows fun x hx => ?_) fun d1 d2 d3 ev hr => ?_
      · rw [hofs, pickV] at hx
        have := hIn x (List.mem_filter.1 hx).1
        exact ⟨by omega, by omega⟩
      · subst ev
        exact hK _ _ _ _ (hle1.trans hle3.le) hr
end Go.Proofs
end
section
namespace Go.Proofs
open Go.Sy
set_option maxRecDepth 20000
set_option maxHeartbeats 4000000
theorem numB_all (x : Wd) : numB x = bitsTo x (64 * x.length) :=
  numB_eq ⟨by rw [sizeB]; omega, fun m hm => bitAt_out hm⟩
theorem bits_in (x : Wd) {i : Nat} (hi : i ≤ 10000000) : ∀ n ∈ bitsTo x i, inI n := fun n hn => by
  obtain ⟨k, hk, rfl⟩ := List.mem_map.1 hn
  have := List.mem_range.1 (List.mem_filter.1 hk).1
  exact ⟨by omega, by omega⟩
theorem r10list_spec {x : Wd} (hx : x.length ≤ 10000) {a : Option Addr} {n c : Nat} {H : Hp} {K : Value → Hp → Prop} (ha : RL H a n c x) (hK : ∀ a1 n1 c1 H', Le H H' → RL H' a1 n1 c1 (numB x) → K (.slice a1 n1 c1) H') : Does Tryz.prog 19 [.slice a n c] H K := by
  have hn := ha.n_eq
  refine spec_of cx_ok cx_mix rfl Tryz.func19 Tryz.call19 Tryz.ntmps19 Tryz.results19 rfl rfl ?_
  refine ⟨Nat, fun i => ⟨[(0, .v (.slice a n c)), (3, .own 0), (4, .v (.int .i64 i))], [(0, .row 3 1 (iRows (bitsTo x i)))], 1⟩,
    fun i H' => H' = H ∧ i ≤ 64 * x.length, fun i => 64 * x.length - i, ⟨0, [], ?_, rfl, Nat.zero_le _⟩, ?_⟩
  · (repeat' (first|exact trivial|refine ⟨?_,?_⟩|exact rfl|assumption))
  rintro i H1 _ ⟨rfl, hi⟩
  have hbl := bitsTo_len x i
  have hil : (iRows (bitsTo x i)).length = (bitsTo x i).length := List.length_map _
  refine ⟨⟨by omega, by omega⟩, ?_⟩
  refine ⟨fun h => ?_, fun h => ?_⟩
  · have hlt : i < 64 * x.length := by have := dt h; omega
    have hst := bitsTo_succ x i
    refine r10has_spec (by omega) ha ?_
    refine ⟨fun h => ?_, fun h => ?_⟩
    · have hbit : bitAt x i = true := h
      rw [if_pos hbit] at hst
      have e : iRows (bitsTo x i) ++ [[.int .i64 (i : Nat)]] = iRows (bitsTo x (i + 1)) := by rw [hst, iRows, iRows, List.map_append]; rfl
      refine ⟨⟨by show (_ + 1) * 8 ≤ 140737488355328; omega, by show _ + 1 ≤ 9223372036854775807; omega⟩, ?_⟩
      refine ⟨⟨by omega, by omega⟩, i + 1, [(0, 2)], ?_, ⟨rfl, hlt⟩, by dsimp only; omega⟩
      (repeat' (first|exact trivial|refine ⟨?_,?_⟩|exact rfl|assumption))
    · have hbit : ¬ bitAt x i = true := by rw [show bitAt x i = false from h]; decide
      rw [if_neg hbit, List.append_nil] at hst
      have e : iRows (bitsTo x i) = iRows (bitsTo x (i + 1)) := by rw [hst]
      refine ⟨⟨by omega, by omega⟩, i + 1, [(0, 0)], ?_, ⟨rfl, hlt⟩, by dsimp only; omega⟩
      (repeat' (first|exact trivial|refine ⟨?_,?_⟩|exact rfl|assumption))
  · have hil : i = 64 * x.length := by have := df h; omega
    rw [hil, ← numB_all x]
    intro v H6 hle6 hv6
    refine of_row_k (α := Int) hv6 (rc_iRows (by rw [numB_all]; exact bits_in x (by omega))) fun d1 d2 d3 e1 hr1 => ?_
    subst e1
    exact hK _ _ _ _ hle6.le hr1
theorem same9_spec {L : List (List Int)} {a a2 : Option Addr} {n c n2 k2 : Nat} {H : Hp} {K : Value → Hp → Prop} (ha : RL (α := List Int) H a n c L) (hb : RL (α := List Int) H a2 n2 k2 L) (hK : K (.bool true) H) : Does Tryz.prog 21 [.slice a n c, .slice a2 n2 k2] H K := by
  have hn := ha.n_eq
  have hn2 := hb.n_eq
  have hmx := ha.le
  refine spec_of cx_ok cx_mix rfl Tryz.func21 Tryz.call21 Tryz.ntmps21 Tryz.results21 rfl rfl ?_
  refine ⟨(fun h => absurd (nt h) (by omega)), fun _ => ?_⟩
  refine ⟨Nat, fun i => ⟨[(0, .v (.slice a n c)), (1, .v (.slice a2 n2 k2)), (13, .v (.slice a n c)), (14, .v (.int .i64 n)), (15, .v (.int .i64 i))], [], 0⟩,
    fun i H' => H' = H ∧ i ≤ L.length, fun i => L.length - i, ⟨0, [], ?_, rfl, Nat.zero_le _⟩, ?_⟩
  · (repeat' (first|exact trivial|refine ⟨?_,?_⟩|exact rfl|assumption))
  rintro i H1 _ ⟨rfl, hi⟩
  refine ⟨fun h => ?_, fun h => ?_⟩
  · have hlt : i < L.length := by have := dt h; omega
    refine name_k L[i] fun l hle => ?_
    have ex : L[i]? = some l := by rw [hle]; exact List.getElem?_eq_getElem hlt
    refine list_k ha ex fun ad a5 n5 c5 q1 hh hr5 => ?_
    refine list_k hb ex fun ad2 a6 n6 c6 q2 hh2 hr6 => ?_
    have hn5 := hr5.n_eq
    have hn6 := hr6.n_eq
    have hm5 := hr5.le
    refine ⟨ad, ⟨by omega, by omega, q1⟩, ?_⟩
    refine ⟨_, hh, ?_⟩
    refine ⟨ad2, ⟨by omega, by omega, q2⟩, ?_⟩
    refine ⟨_, hh2, ?_⟩
    refine ⟨(fun h => absurd (nt h) (by omega)), fun _ => ?_⟩
    refine ⟨Nat, fun j => ⟨[(0, .v (.slice a n c)), (1, .v (.slice a2 n2 k2)), (5, .v (.int .i64 i)), (6, .v (.slice a5 n5 c5)), (13, .v (.slice a n c)), (14, .v (.int .i64 n)), (15, .v (.int .i64 i)), (29, .v (.int .i64 n5)), (30, .v (.int .i64 j))], [], 0⟩,
      fun j H' => H' = H1 ∧ j ≤ l.length, fun j => l.length - j, ⟨0, [], ?_, rfl, Nat.zero_le _⟩, ?_⟩
    · (repeat' (first|exact trivial|refine ⟨?_,?_⟩|exact rfl|assumption))
    rintro j H2 _ ⟨rfl, hj⟩
    refine ⟨fun h => ?_, fun h => ?_⟩
    · have hlj : j < l.length := by have := dt h; omega
      refine name_k l[j] fun k hke => ?_
      have ek : l[j]? = some k := by rw [hke]; exact List.getElem?_eq_getElem hlj
      refine int_k hr5 ek fun ad3 q3 hh3 => ?_
      refine int_k hr6 ek fun ad4 q4 hh4 => ?_
      refine ⟨some ([], [0, 1, 2, 3, 4, 5, 6, 7, 8, 9, 10, 11]), by kernel_rfl, ?_⟩
      refine ⟨ad3, ⟨by omega, by omega, q3⟩, ?_⟩
      refine ⟨_, hh3, ?_⟩
      refine ⟨ad2, ⟨by omega, by omega, q2⟩, ?_⟩
      refine ⟨_, hh2, ?_⟩
      refine ⟨ad4, ⟨by omega, by omega, q4⟩, ?_⟩
      refine ⟨_, hh4, ?_⟩
      refine ⟨(fun h => absurd rfl (nt h)), fun _ => ?_⟩
      refine ⟨⟨by omega, by omega⟩, j + 1, [], ?_, ⟨rfl, hlj⟩, by dsimp only; omega⟩
      (repeat' (first|exact trivial|refine ⟨?_,?_⟩|exact rfl|assumption))
    · refine ⟨⟨by omega, by omega⟩, i + 1, [], ?_, ⟨rfl, hlt⟩, by dsimp only; omega⟩
      (repeat' (first|exact trivial|refine ⟨?_,?_⟩|exact rfl|assumption))
  · exact hK
end Go.Proofs
end
section
namespace Go.Proofs
open Go.Sy
set_option maxRecDepth 20000
set_option maxHeartbeats 4000000
theorem zero_RA : i64R 0 := ⟨by decide, by decide⟩
end Go.Proofs
end
section
namespace Go.Proofs
open Go.Sy
set_option maxRecDepth 20000
set_option maxHeartbeats 4000000
end Go.Proofs
end
