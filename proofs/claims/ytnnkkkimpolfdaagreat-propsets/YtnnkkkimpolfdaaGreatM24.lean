/- Part 'M24' of the proof (W10, W11, W12, W13, W14, W15, W16, W17): lemmas, each with its own conditions in its own statement. -/
import Derived.Test.YtnnkkkimpolfdaaGreatM17
import Derived.Test.YtnnkkkimpolfdaaGreatM21
import Derived.Test.YtnnkkkimpolfdaaGreatM22
import Derived.Test.YtnnkkkimpolfdaaGreatM23
section
namespace Go.Proofs
open Go.Sy
set_option maxRecDepth 20000
set_option maxHeartbeats 4000000
/-! The document's way to a solution. -/
theorem same10_spec {x y : Wd} {a a2 : Option Addr} {n c n2 k2 : Nat} {H : Hp} {K : Value → Hp → Prop} (ha : RL H a n c x) (hb : RL H a2 n2 k2 y) (hK : K (.bool (decide (x = y))) H) : Does Tryz.prog 29 [.slice a n c, .slice a2 n2 k2] H K := by
  have hn := ha.n_eq
  have hn2 := hb.n_eq
  have hmx := ha.le
  refine spec_of cx_ok cx_mix rfl Tryz.func29 Tryz.call29 Tryz.ntmps29 Tryz.results29 rfl rfl ?_
  refine ⟨fun h => ?_, fun h => ?_⟩
  · have h1 : ¬ n = n2 := by have := nt h; omega
    exact kbool hK (decide_eq_false (fun e => h1 (by rw [hn, hn2, e])))
  · have h1 : n = n2 := by have := nf h; omega
    refine ⟨Nat, fun i => ⟨[(0, .v (.slice a n c)), (1, .v (.slice a2 n2 k2)), (11, .v (.slice a n c)), (12, .v (.int .i64 n)), (13, .v (.int .i64 i))], [], 0⟩,
      fun i H' => H' = H ∧ i ≤ x.length ∧ ∀ j < i, x[j]? = y[j]?, fun i => x.length - i, ⟨0, [], ?_, rfl, Nat.zero_le _, fun j hj => (by cases hj)⟩, ?_⟩
    · (repeat' (first | exact trivial | refine ⟨?_, ?_⟩ | exact rfl | assumption))
    rintro i H1 _ ⟨rfl, hi, hx⟩
    refine ⟨fun h => ?_, fun h => ?_⟩
    · have hlt : i < x.length := by have := dt h; omega
      have hlt2 : i < y.length := by omega
      have ex := List.getElem?_eq_getElem hlt
      have ey := List.getElem?_eq_getElem hlt2
      refine word_k ha ex fun ad q1 hh _ => ?_
      refine word_k hb ey fun ad2 q2 hh2 _ => ?_
      refine ⟨some ([], [0, 1, 2, 3, 4, 5, 6, 7, 8]), by kernel_rfl, ?_⟩
      refine ⟨ad, ⟨by omega, by omega, q1⟩, ?_⟩
      refine ⟨_, hh, ?_⟩
      refine ⟨ad2, ⟨by omega, by omega, q2⟩, ?_⟩
      refine ⟨_, hh2, ?_⟩
      refine ⟨fun h => ?_, fun h => ?_⟩
      · have hne : ¬ x[i].toNat = y[i].toNat := by have := nt h; omega
        exact kbool hK (decide_eq_false (fun e => hne (by subst e; rfl)))
      · have heq : x[i] = y[i] := UInt64.toNat_inj.1 (by have := nf h; omega)
        refine ⟨⟨by omega, by omega⟩, i + 1, [], ?_, ⟨rfl, hlt, fun j hj => ?_⟩, by dsimp only; omega⟩
        · (repeat' (first | exact trivial | refine ⟨?_, ?_⟩ | exact rfl | assumption))
        · rcases Nat.lt_succ_iff_lt_or_eq.1 hj with h | h
          · exact hx j h
          · rw [h, ex, ey, heq]
    · have hil : i = x.length := by have := df h; omega
      exact kbool hK (decide_eq_true (list_eq_take (by omega) (fun j hj => hx j (by omega))))
theorem same17_spec {A B : List Wd} {a a2 : Option Addr} {n c n2 k2 : Nat} {H : Hp} {K : Value → Hp → Prop} (ha : RL H a n c A) (hb : RL H a2 n2 k2 B) (hK : K (.bool (decide (A = B))) H) : Does Tryz.prog 28 [.slice a n c, .slice a2 n2 k2] H K := by
  have hn := ha.n_eq
  have hn2 := hb.n_eq
  have hmx := ha.le
  refine spec_of cx_ok cx_mix rfl Tryz.func28 Tryz.call28 Tryz.ntmps28 Tryz.results28 rfl rfl ?_
  refine ⟨fun h => ?_, fun h => ?_⟩
  · have h1 : ¬ n = n2 := by have := nt h; omega
    exact kbool hK (decide_eq_false (fun e => h1 (by rw [hn, hn2, e])))
  · have h1 : n = n2 := by have := nf h; omega
    refine ⟨Nat, fun i => ⟨[(0, .v (.slice a n c)), (1, .v (.slice a2 n2 k2)), (11, .v (.slice a n c)), (12, .v (.int .i64 n)), (13, .v (.int .i64 i))], [], 0⟩,
      fun i H' => H' = H ∧ i ≤ A.length ∧ ∀ j < i, A[j]? = B[j]?, fun i => A.length - i, ⟨0, [], ?_, rfl, Nat.zero_le _, fun j hj => (by cases hj)⟩, ?_⟩
    · (repeat' (first | exact trivial | refine ⟨?_, ?_⟩ | exact rfl | assumption))
    rintro i H1 _ ⟨rfl, hi, hx⟩
    refine ⟨fun h => ?_, fun h => ?_⟩
    · have hlt : i < A.length := by have := dt h; omega
      have hlt2 : i < B.length := by omega
      have ex := List.getElem?_eq_getElem hlt
      have ey := List.getElem?_eq_getElem hlt2
      refine list_k ha ex fun ad a5 n5 c5 q1 hh hr1 => ?_
      refine list_k hb ey fun ad2 a6 n6 c6 q2 hh2 hr2 => ?_
      refine ⟨some ([], [0, 1, 2, 3, 4, 5, 6, 7, 8, 9]), by kernel_rfl, ?_⟩
      refine ⟨ad, ⟨by omega, by omega, q1⟩, ?_⟩
      refine ⟨_, hh, ?_⟩
      refine ⟨ad2, ⟨by omega, by omega, q2⟩, ?_⟩
      refine ⟨_, hh2, ?_⟩
      refine same10_spec hr1 hr2 ?_
      refine ⟨fun h => ?_, fun h => ?_⟩
      · have hne : ¬ A[i] = B[i] := nt h
        exact kbool hK (decide_eq_false (fun e => hne (by subst e; rfl)))
      · have heq : A[i] = B[i] := nf h
        refine ⟨⟨by omega, by omega⟩, i + 1, [], ?_, ⟨rfl, hlt, fun j hj => ?_⟩, by dsimp only; omega⟩
        · (repeat' (first | exact trivial | refine ⟨?_, ?_⟩ | exact rfl | assumption))
        · rcases Nat.lt_succ_iff_lt_or_eq.1 hj with h | h
          · exact hx j h
          · rw [h, ex, ey, heq]
    · have hil : i = A.length := by have := df h; omega
      exact kbool hK (decide_eq_true (list_eq_take (by omega) (fun j hj => hx j (by omega))))
theorem renough_spec {s : Sy3} {z : SA} (ho : OkS s) {H : Hp} {K : Value → Hp → Prop} (hK : K (.int .i64 (enoughS s : Nat)) H) : Does Tryz.prog 68 [sysA s z] H K := by
  have hE := enoughS_le ho
  have ee : ((s.m : Int)) * ((2 * s.w : Nat) : Int) = ((s.m * (2 * s.w) : Nat) : Int) := by push_cast; rfl
  refine spec_of cx_ok cx_mix rfl Tryz.func68 Tryz.call68 Tryz.ntmps68 Tryz.results68 rfl rfl ?_
  refine ⟨some ([], [0, 1, 2, 3, 4, 5, 6, 7, 8, 9]), by kernel_rfl, ?_⟩
  refine rheight_spec ho.w ?_
  unfold enoughS at hE
  refine ⟨⟨by rw [ee]; omega, by rw [ee]; omega⟩, ?_⟩
  refine ⟨⟨by rw [ee]; omega, by rw [ee]; omega⟩, ?_⟩
  exact kint hK (by rw [ee, enoughS]; push_cast; rfl)
theorem rout_spec {s : Sy3} {z : SA} (ho : OkS s) {v : Int} (hv : 0 ≤ v ∧ v < (s.m : Nat)) {x : Wd} (hx : okW s.w x) {a : Option Addr} {n c : Nat} {H : Hp} {K : Value → Hp → Prop} (hs : SysR H s z) (ha : RL H a n c x) (hK : ∀ a1 n1 c1 H', Le H H' → RL H' a1 n1 c1 (vApp (tAt s v.toNat) x) → K (.slice a1 n1 c1) H') :
    Does Tryz.prog 27 [sysA s z, .int .i64 v, .slice a n c] H K := by
  have htn := hs.t.n_eq
  rw [List.length_map, ho.Tl] at htn
  refine spec_of cx_ok cx_mix rfl Tryz.func27 Tryz.call27 Tryz.ntmps27 Tryz.results27 rfl rfl ?_
  refine trans_k hs.t (tAt_get ho (v := v.toNat) (by omega)) fun ad a1 n1 c1 e1 hh hr1 => ?_
  rw [Int.toNat_of_nonneg hv.1] at hh
  refine ⟨some ([], [0, 1, 2, 3, 4, 5, 6, 7, 8, 9]), by kernel_rfl, ?_⟩
  refine ⟨ad, ⟨by omega, by omega, e1⟩, ?_⟩
  refine ⟨_, hh, ?_⟩
  refine rapply_spec ho.w hx (tAt_ok ho v.toNat) ha hr1 fun a2 n2 c2 H2 hle2 hr2 => ?_
  exact hK _ _ _ _ hle2 hr2
theorem rstart_spec {s : Sy3} {z : SA} (ho : OkS s) {v : Nat} {H : Hp} {K : Value → Hp → Prop} (hs : SysR H s z) (hK : ∀ a1 n1 c1 H', Le H H' → RL H' a1 n1 c1 (vStart s v) → K (.slice a1 n1 c1) H') : Does Tryz.prog 179 [sysA s z, .int .i64 (v : Nat)] H K := by
  have hi := ho.ini.1
  have hw := ho.w
  refine spec_of cx_ok cx_mix rfl Tryz.func179 Tryz.call179 Tryz.ntmps179 Tryz.results179 rfl rfl ?_
  refine in_spec hs.n ?_
  refine ⟨fun h => ?_, fun h => ?_⟩
  · have hm : (v : Int) ∈ s.ent := dt h
    have e : vStart s v = s.ini := if_pos hm
    rw [e] at hK
    obtain ⟨css, hrow, hrc⟩ := hs.i.row
    have hcl : css.length = s.ini.length := hrc.1
    refine ⟨css, hrow, ?_⟩
    refine ⟨⟨by show (0 + css.length) * 8 ≤ 140737488355328; omega, by show 0 + css.length ≤ 9223372036854775807; omega⟩, ?_⟩
    intro y H1 hle1 hy
    obtain ⟨a1, n1, c1, rfl, hr⟩ := RL.of_row (α := UInt64) hy (RC.up hrc hle1.le)
    exact hK _ _ _ _ hle1.le hr
  · have hm : ¬ (v : Int) ∈ s.ent := df h
    have e : vStart s v = vBot s.w := if_neg hm
    rw [e] at hK
    exact rbot_spec hw hK
theorem wd_snoc {H : Hp} {css : List (List Value)} {A : List Wd} (h : RC (α := Wd) H css A) {a : Option Addr} {n c : Nat} {x : Wd} (hx : RL H a n c x) : RC (α := Wd) H (css ++ [[.slice a n c]]) (A ++ [x]) :=
  RC.snoc h (show Enc.R (α := Wd) H [.slice a n c] x from ⟨a, n, c, rfl, hx⟩)
theorem rbottom_spec {s : Sy3} {z : SA} (ho : OkS s) {H : Hp} {K : Value → Hp → Prop} (hK : ∀ a1 n1 c1 H', Le H H' → RL H' a1 n1 c1 (bots s) → K (.slice a1 n1 c1) H') : Does Tryz.prog 118 [sysA s z] H K := by
  have hm := ho.m
  have hw := ho.w
  refine spec_of cx_ok cx_mix rfl Tryz.func118 Tryz.call118 Tryz.ntmps118 Tryz.results118 rfl rfl ?_
  refine ⟨Nat × List (List Value), fun q => ⟨[(1, .ptr 0 0), (3, .own 1), (4, .v (.int .i64 q.1))], [(0, .cells 47 (vL (sysV s z))), (1, .row 44 1 q.2)], 2⟩,
    fun q H' => Le H H' ∧ q.1 ≤ s.m ∧ RC (α := Wd) H' q.2 (List.replicate q.1 (vBot s.w)), fun q => s.m - q.1, ⟨(0, []), [(0, 0)], ?_, Le.refl H, Nat.zero_le _, RC.nil⟩, ?_⟩
  · (repeat' (first | exact trivial | refine ⟨?_, ?_⟩ | exact rfl | assumption))
  rintro ⟨i, css⟩ H1 _ ⟨hle1, hi, hrc⟩
  dsimp only at hi hrc
  have hcl : css.length = i := by have h1 := hrc.1; simpa using h1
  refine ⟨fun h => ?_, fun h => ?_⟩
  · have hlt : i < s.m := by have := dt h; dsimp only at this; omega
    refine rbot_spec hw fun a1 n1 c1 H2 hle2 hr1 => ?_
    refine ⟨⟨by show (css.length + 1) * 24 ≤ 140737488355328; omega, by show css.length + 1 ≤ 9223372036854775807; omega⟩, ?_⟩
    have hrc2 : RC (α := Wd) H2 (css ++ [[.slice a1 n1 c1]]) (List.replicate (i + 1) (vBot s.w)) := by
      rw [List.replicate_succ']; exact wd_snoc (RC.up hrc hle2) hr1
    refine ⟨⟨by dsimp only; omega, by dsimp only; omega⟩, (i + 1, css ++ [[.slice a1 n1 c1]]), [(0, 0), (1, 3)], ?_, ⟨hle1.trans hle2, hlt, hrc2⟩, by dsimp only; omega⟩
    (repeat' (first | exact trivial | refine ⟨?_, ?_⟩ | exact rfl | assumption))
  · have hil : i = s.m := by have := df h; dsimp only at this; omega
    rw [hil] at hrc
    intro v H6 hle6 hv6
    obtain ⟨a7, n7, c7, rfl, hr7⟩ := RL.of_row (α := Wd) hv6 (RC.up hrc hle6.le)
    exact hK _ _ _ _ (hle1.trans hle6.le) hr7
def joinE (s : Sy3) (A : List Wd) (v : Nat) (x : Wd) (e : Edg) : Wd := if e.2 = (v : Int) then vJoin x (appE s A e) else x
def stepR (s : Sy3) (A : List Wd) : List Wd := (List.range s.m).map fun v => s.E.foldl (joinE s A v) (vStart s v)
theorem fold_at {s : Sy3} {A : List Wd} {v : Nat} : ∀ (l : List Edg) (L : List Wd), v < L.length → (∀ e ∈ l, 0 ≤ e.2 ∧ e.2 < (L.length : Nat)) → (l.foldl (stepE s A) L)[v]? = some (l.foldl (joinE s A v) (aAt L v))
  | [], L, h, _ => by rw [List.foldl_nil, List.foldl_nil, aAt, List.getElem?_eq_getElem h]; rfl
  | e :: r, L, h, he => by
    have h1 := he e List.mem_cons_self
    have hl : (stepE s A L e).length = L.length := by rw [stepE, List.length_set]
    rw [List.foldl_cons, List.foldl_cons, fold_at r (stepE s A L e) (by rw [hl]; exact h) (fun e' he' => by rw [hl]; exact he e' (List.mem_cons_of_mem _ he'))]
    congr 2
    rw [joinE]
    by_cases hv : e.2 = (v : Int)
    · have hv2 : e.2.toNat = v := by omega
      rw [if_pos hv, stepE, hv2, aAt, List.getElem?_set_self h]; rfl
    · have hv2 : e.2.toNat ≠ v := by omega
      rw [if_neg hv, stepE, aAt, List.getElem?_set_ne hv2]; rfl
theorem stepR_eq {s : Sy3} (ho : OkS s) (A : List Wd) : stepR s A = stepS s A := by
  have hsl : (starts s).length = s.m := by simp [starts]
  have hfl : ∀ (l : List Edg) (L : List Wd), (l.foldl (stepE s A) L).length = L.length := by
    intro l
    induction l with
    | nil => exact fun _ => rfl
    | cons e r ih => intro L; rw [List.foldl_cons, ih, stepE, List.length_set]
  apply List.ext_getElem?
  intro v
  by_cases hv : v < s.m
  · rw [stepS, fold_at s.E (starts s) (by omega) (fun e he => by rw [hsl]; exact (ho.En e he).2), stepR, List.getElem?_map, List.getElem?_range hv]
    have : aAt (starts s) v = vStart s v := by rw [aAt, starts, List.getElem?_map, List.getElem?_range hv]; rfl
    rw [this]; rfl
  · rw [List.getElem?_eq_none (by simp [stepR]; omega), List.getElem?_eq_none (by rw [stepS, hfl, hsl]; omega)]
theorem joinE_ok {s : Sy3} {A : List Wd} (hA : OkA s A) {v : Nat} : ∀ (l : List Edg) {x : Wd}, (∀ e ∈ l, 0 ≤ e.1 ∧ e.1 < (s.m : Nat)) → okW s.w x → okW s.w (l.foldl (joinE s A v) x)
  | [], _, _, h => h
  | e :: r, x, hl, h => by
    refine joinE_ok hA r (x := joinE s A v x e) (fun e he => hl e (List.mem_cons_of_mem _ he)) ?_
    unfold joinE
    split
    · exact vJoin_ok h (appE_ok hA (hl e List.mem_cons_self))
    · exact h
theorem rstep_spec {s : Sy3} {z : SA} (ho : OkS s) {A : List Wd} (hA : OkA s A) {a : Option Addr} {n c : Nat} {H : Hp} {K : Value → Hp → Prop} (hs : SysR H s z) (ha : RL H a n c A) (hK : ∀ a1 n1 c1 H', Le H H' → RL H' a1 n1 c1 (stepS s A) → K (.slice a1 n1 c1) H') :
    Does Tryz.prog 119 [sysA s z, .slice a n c] H K := by
  have hm := ho.m
  have hw := ho.w
  have hne := hs.e.n_eq
  have hnx := hs.e.le
  have hna := ha.n_eq
  have hal := hA.len
  rw [← stepR_eq ho] at hK
  refine spec_of cx_ok cx_mix rfl Tryz.func119 Tryz.call119 Tryz.ntmps119 Tryz.results119 rfl rfl ?_
  refine ⟨Nat × List (List Value), fun q => ⟨[(1, .v (.slice a n c)), (2, .ptr 0 0), (5, .own 1), (6, .v (.int .i64 q.1))], [(0, .cells 47 (vL (sysV s z))), (1, .row 44 1 q.2)], 2⟩,
    fun q H' => Le H H' ∧ q.1 ≤ s.m ∧ RC (α := Wd) H' q.2 ((stepR s A).take q.1), fun q => s.m - q.1, ⟨(0, []), [(0, 0)], ?_, Le.refl H, Nat.zero_le _, RC.nil⟩, ?_⟩
  · (repeat' (first | exact trivial | refine ⟨?_, ?_⟩ | exact rfl | assumption))
  rintro ⟨i, css⟩ H1 _ ⟨hle1, hi, hrc⟩
  dsimp only at hi hrc
  have hrl : (stepR s A).length = s.m := by simp [stepR]
  have hcl : css.length = i := by have h1 := hrc.1; rw [List.length_take] at h1; omega
  refine ⟨fun h => ?_, fun h => ?_⟩
  · have hlt : i < s.m := by have := dt h; dsimp only at this; omega
    have hst : (stepR s A).take (i + 1) = (stepR s A).take i ++ [s.E.foldl (joinE s A i) (vStart s i)] := by
      rw [List.take_add_one, stepR, List.getElem?_map, List.getElem?_range hlt]; rfl
    refine rstart_spec (s := s) (z := z) ho (hs.up hle1) fun a1 n1 c1 H2 hle2 hr1 => ?_
    refine ⟨Nat × Wd × (Option Addr × Nat × Nat), fun q => ⟨[(1, .v (.slice a n c)), (2, .ptr 0 0), (5, .own 1), (6, .v (.int .i64 (i : Nat))), (7, .v (.slice q.2.2.1 q.2.2.2.1 q.2.2.2.2)), (20, .v (.slice z.ea z.en z.ec)), (21, .v (.int .i64 z.en)), (22, .v (.int .i64 q.1))], [(0, .cells 47 (vL (sysV s z))), (1, .row 44 1 css)], 2⟩,
      fun q H' => Le H2 H' ∧ q.1 ≤ s.E.length ∧ RL H' q.2.2.1 q.2.2.2.1 q.2.2.2.2 q.2.1 ∧ q.2.1 = (s.E.take q.1).foldl (joinE s A i) (vStart s i), fun q => s.E.length - q.1, ⟨(0, vStart s i, (a1, n1, c1)), [(0, 0), (1, 1)], ?_, Le.refl H2, Nat.zero_le _, hr1, rfl⟩, ?_⟩
    · (repeat' (first | exact trivial | refine ⟨?_, ?_⟩ | exact rfl | assumption))
    rintro ⟨j, x, a2, n2, c2⟩ H3 _ ⟨hle3, hj, hr2, hx⟩
    dsimp only at hj hr2 hx
    have hxo : okW s.w x := by rw [hx]; exact joinE_ok hA _ (fun e he => (ho.En e (List.mem_of_mem_take he)).1) (vStart_ok ho i)
    have hle := (hle1.trans hle2).trans hle3
    refine ⟨fun h => ?_, fun h => ?_⟩
    · have hjl : j < s.E.length := by have := dt h; dsimp only at this; omega
      refine name_k s.E[j] fun e hee => ?_
      have hee2 : s.E[j]? = some e := by rw [hee]; exact List.getElem?_eq_getElem hjl
      have hen := ho.En e (by rw [hee]; exact List.getElem_mem hjl)
      have hst2 : (s.E.take (j + 1)).foldl (joinE s A i) (vStart s i) = joinE s A i x e := by
        rw [hx, List.take_add_one, hee2, Option.toList_some, List.foldl_append]; rfl
      refine edge_k (hs.up hle).e hee2 fun ad q1 hh => ?_
      refine ⟨ad, ⟨by dsimp only; omega, by dsimp only; omega, q1⟩, ?_⟩
      refine ⟨_, hh, ?_⟩
      refine ⟨fun h => ?_, fun h => ?_⟩
      · have he2 : e.2 = (i : Int) := dt h
        have e1n : e.1.toNat < s.m := by omega
        have ei1 : ((e.1.toNat : Nat) : Int) = e.1 := Int.toNat_of_nonneg hen.1.1
        refine list_k (ha.up hle) (aAt_get hA e1n) fun ad3 a3 n3 c3 q3 hh3 hr3 => ?_
        rw [ei1] at hh3
        refine ⟨some ([], [0, 1, 2, 3, 4, 5, 6, 7, 8, 9, 10, 11, 12, 13]), by kernel_rfl, ?_⟩
        refine ⟨ad3, ⟨by omega, by omega, q3⟩, ?_⟩
        refine ⟨_, hh3, ?_⟩
        refine rout_spec (s := s) (z := z) ho hen.1 (aAt_ok hA e1n) (hs.up hle) hr3 fun a4 n4 c4 H4 hle4 hr4 => ?_
        refine rjoinv_spec hw hxo (appE_ok hA hen.1) (hr2.up hle4) hr4 fun a5 n5 c5 H5 hle5 hr5 => ?_
        refine ⟨⟨by omega, by omega⟩, (j + 1, joinE s A i x e, (a5, n5, c5)), [(0, 0), (1, 1)], ?_, ⟨(hle3.trans hle4).trans hle5, hjl, by rw [joinE, if_pos he2]; exact hr5, hst2.symm⟩, by dsimp only; omega⟩
        (repeat' (first | exact trivial | refine ⟨?_, ?_⟩ | exact rfl | assumption))
      · have he2 : ¬ e.2 = (i : Int) := df h
        refine ⟨⟨by dsimp only; omega, by dsimp only; omega⟩, (j + 1, x, (a2, n2, c2)), [(0, 0), (1, 1)], ?_, ⟨hle3, hjl, hr2, by rw [hst2, joinE, if_neg he2]⟩, by dsimp only; omega⟩
        (repeat' (first | exact trivial | refine ⟨?_, ?_⟩ | exact rfl | assumption))
    · have hjl : j = s.E.length := by have := df h; dsimp only at this; omega
      rw [hjl, List.take_length] at hx
      refine ⟨⟨by show (css.length + 1) * 24 ≤ 140737488355328; omega, by show css.length + 1 ≤ 9223372036854775807; omega⟩, ?_⟩
      have hrc2 : RC (α := Wd) H3 (css ++ [[.slice a2 n2 c2]]) ((stepR s A).take (i + 1)) := by
        rw [hst, ← hx]; exact wd_snoc (RC.up hrc (hle2.trans hle3)) hr2
      refine ⟨⟨by omega, by omega⟩, (i + 1, css ++ [[.slice a2 n2 c2]]), [(0, 0), (1, 3)], ?_, ⟨hle, hlt, hrc2⟩, by dsimp only; omega⟩
      (repeat' (first | exact trivial | refine ⟨?_, ?_⟩ | exact rfl | assumption))
  · have hil : i = s.m := by have := df h; dsimp only at this; omega
    rw [hil, List.take_of_length_le (by omega)] at hrc
    intro v H6 hle6 hv6
    obtain ⟨a7, n7, c7, rfl, hr7⟩ := RL.of_row (α := Wd) hv6 (RC.up hrc hle6.le)
    exact hK _ _ _ _ (hle1.trans hle6.le) hr7
theorem rsolve_spec {s : Sy3} {z : SA} (ho : OkS s) {most : Nat} (hmo : most ≤ 1000000) {H : Hp} {K : Value → Hp → Prop} (hs : SysR H s z) (hK : ∀ a1 n1 c1 k H', Le H H' → RL H' a1 n1 c1 (iterN s most (bots s)) → K (.tuple #[.slice a1 n1 c1, .int .i64 k]) H') :
    Does Tryz.prog 67 [sysA s z, .int .i64 (most : Nat)] H K := by
  refine spec_of cx_ok cx_mix rfl Tryz.func67 Tryz.call67 Tryz.ntmps67 Tryz.results67 rfl rfl ?_
  refine rbottom_spec (s := s) (z := z) ho fun a n c H1 hle1 hr1 => ?_
  refine ⟨Nat × List Wd × (Option Addr × Nat × Nat), fun q => ⟨[(1, .v (.int .i64 (most : Nat))), (2, .ptr 0 0), (6, .v (.slice q.2.2.1 q.2.2.2.1 q.2.2.2.2)), (7, .v (.int .i64 q.1))], [(0, .cells 47 (vL (sysV s z)))], 1⟩,
    fun q H' => Le H H' ∧ RL H' q.2.2.1 q.2.2.2.1 q.2.2.2.2 q.2.1 ∧ OkA s q.2.1 ∧ q.1 ≤ most ∧ iterN s most (bots s) = iterN s (most - q.1) q.2.1, fun q => most - q.1, ⟨(0, bots s, (a, n, c)), [(0, 0)], ?_, hle1, hr1, bots_ok s, Nat.zero_le _, rfl⟩, ?_⟩
  · (repeat' (first | exact trivial | refine ⟨?_, ?_⟩ | exact rfl | assumption))
  rintro ⟨k, A, a, n, c⟩ H2 _ ⟨hle, hr, hA, hk, hI⟩
  dsimp only at hr hA hk hI
  refine ⟨fun h => ?_, fun h => ?_⟩
  · have hlt : k < most := by have := dt h; dsimp only at this; omega
    have hst : iterN s (most - k) A = if A = stepS s A then A else iterN s (most - (k + 1)) (stepS s A) := by
      rw [show most - k = (most - (k + 1)) + 1 by omega, iterN]
    refine rstep_spec (s := s) (z := z) ho hA (hs.up hle) hr fun a2 n2 c2 H3 hle3 hr3 => ?_
    have hA2 := stepS_ok ho hA
    refine same17_spec (hr.up hle3) hr3 ?_
    refine ⟨fun h => ?_, fun h => ?_⟩
    · have heq := dt h
      rw [hst, if_pos heq] at hI
      rw [hI] at hK
      exact hK _ _ _ _ _ (hle.trans hle3) (hr.up hle3)
    · have hne := df h
      rw [hst, if_neg hne] at hI
      refine ⟨⟨by dsimp only; omega, by dsimp only; omega⟩, (k + 1, stepS s A, (a2, n2, c2)), [(0, 0)], ?_, ⟨hle.trans hle3, hr3, hA2, hlt, hI⟩, by dsimp only; omega⟩
      (repeat' (first | exact trivial | refine ⟨?_, ?_⟩ | exact rfl | assumption))
  · have hge : k = most := by have := df h; dsimp only at this; omega
    rw [show most - k = 0 by omega, iterN] at hI
    rw [hI] at hK
    exact hK _ _ _ _ _ hle hr
theorem rleast_spec {s : Sy3} {z : SA} (ho : OkS s) {H : Hp} {K : Value → Hp → Prop} (hs : SysR H s z) (hK : ∀ a1 n1 c1 H', Le H H' → RL H' a1 n1 c1 (solveS s) → K (.slice a1 n1 c1) H') : Does Tryz.prog 26 [sysA s z] H K := by
  refine spec_of cx_ok cx_mix rfl Tryz.func26 Tryz.call26 Tryz.ntmps26 Tryz.results26 rfl rfl ?_
  refine ⟨some ([], [0, 1, 2, 3, 4, 5, 6, 7, 8]), by kernel_rfl, ?_⟩
  refine renough_spec (s := s) (z := z) ho ?_
  refine rsolve_spec (s := s) (z := z) ho (enoughS_le ho) hs fun a1 n1 c1 k H1 hle1 hr1 => ?_
  exact hK _ _ _ _ hle1 hr1
end Go.Proofs
end
section
namespace Go.Proofs
open Go.Sy
set_option maxRecDepth 20000
set_option maxHeartbeats 4000000
/-! A program's codes. -/
def vIdx (p : Prog) (t : Bs8) : Int := idxS t (varsOf p) 0
def refOf (p : Prog) (a : Atm) : Rf := if 0 ≤ vIdx p a.1.l then (vIdx p a.1.l, (0, 0)) else (-1, (wrp a.2.1, wrp a.2.2))
def codeOf (p : Prog) (s : Stmt) : List Cd :=
  if vIdx p s.2.1.l < 0 then [] else if s.1 = 1 then [(vIdx p s.2.1.l, s.2.2.1, refOf p s.2.2.2.1, refOf p s.2.2.2.2)] else if s.1 = 2 then [(vIdx p s.2.1.l, -1, (0, (0, 0)), (0, (0, 0)))] else []
def codesOf (p : Prog) (l : List Stmt) : List Cd := l.flatMap (codeOf p)
theorem codesOf_take {p : Prog} {l : List Stmt} {i : Nat} {s : Stmt} (h : l[i]? = some s) : codesOf p (l.take (i + 1)) = codesOf p (l.take i) ++ codeOf p s := by
  rw [codesOf, List.take_add_one, h, Option.toList_some, List.flatMap_append, ← codesOf]
  simp
theorem codeOf_len (p : Prog) (s : Stmt) : (codeOf p s).length ≤ 1 := by
  unfold codeOf
  repeat' split
  all_goals simp
theorem codesOf_len (p : Prog) : ∀ l : List Stmt, (codesOf p l).length ≤ l.length
  | [] => Nat.le_refl _
  | s :: r => by
    have h1 := codeOf_len p s
    have h2 := codesOf_len p r
    have e : codesOf p (s :: r) = codeOf p s ++ codesOf p r := List.flatMap_cons
    rw [e, List.length_append, List.length_cons]; omega
theorem vIdx_range (p : Prog) (t : Bs8) : vIdx p t = -1 ∨ (0 ≤ vIdx p t ∧ vIdx p t < ((varsOf p).length : Nat)) := by
  have := idxS_range t (varsOf p) 0 (Int.le_refl 0)
  rcases this with h | ⟨h1, h2⟩
  · exact .inl h
  · exact .inr ⟨h1, by rw [vIdx]; omega⟩
def rfR (r : Rf) : Prop := inI r.1 ∧ inI r.2.1 ∧ inI r.2.2
def cdR (c : Cd) : Prop := inI c.1 ∧ inI c.2.1 ∧ rfR c.2.2.1 ∧ rfR c.2.2.2
theorem refOf_R (p : Prog) (hv : (varsOf p).length ≤ 1000000) (a : Atm) : rfR (refOf p a) := by
  have h1 := vIdx_range p a.1.l
  have h2 := wrp_le a.2.1
  have h3 := wrp_le a.2.2
  unfold refOf
  split
  · exact ⟨⟨by dsimp only; omega, by dsimp only; omega⟩, ⟨by dsimp only; omega, by dsimp only; omega⟩, ⟨by dsimp only; omega, by dsimp only; omega⟩⟩
  · exact ⟨⟨by dsimp only; omega, by dsimp only; omega⟩, ⟨by dsimp only; omega, by dsimp only; omega⟩, ⟨by dsimp only; omega, by dsimp only; omega⟩⟩
theorem codeOf_R (p : Prog) (hv : (varsOf p).length ≤ 1000000) {s : Stmt} (hs : stmtR s) : ∀ c ∈ codeOf p s, cdR c := by
  have h1 := vIdx_range p s.2.1.l
  have hi : inI (vIdx p s.2.1.l) := ⟨by omega, by omega⟩
  have z : inI 0 := ⟨by decide, by decide⟩
  intro c hc
  unfold codeOf at hc
  split at hc
  · cases hc
  · split at hc
    · rw [List.mem_singleton] at hc
      rw [hc]
      exact ⟨hi, hs.2.2.1, refOf_R p hv _, refOf_R p hv _⟩
    · split at hc
      · rw [List.mem_singleton] at hc
        rw [hc]
        exact ⟨hi, ⟨by dsimp only; omega, by dsimp only; omega⟩, ⟨z, z, z⟩, ⟨z, z, z⟩⟩
      · cases hc
theorem code_R {H : Hp} {c : Cd} (h : cdR c) : Enc.R H (codeV c) c :=
  ⟨[_], [_, _, _, _, _, _, _], rfl, ⟨rfl, h.1⟩, [_], [_, _, _, _, _, _], rfl, ⟨rfl, h.2.1⟩, [_, _, _], [_, _, _], rfl, ⟨[_], [_, _], rfl, ⟨rfl, h.2.2.1.1⟩, [_], [_], rfl, ⟨rfl, h.2.2.1.2.1⟩, ⟨rfl, h.2.2.1.2.2⟩⟩, ⟨[_], [_, _], rfl, ⟨rfl, h.2.2.2.1⟩, [_], [_], rfl, ⟨rfl, h.2.2.2.2.1⟩, ⟨rfl, h.2.2.2.2.2⟩⟩⟩
abbrev cRows (l : List Cd) : List (List Value) := l.map codeV
theorem rc_c {H : Hp} {l : List Cd} (h : ∀ c ∈ l, cdR c) : RC (α := Cd) H (cRows l) l := by
  refine ⟨by simp, fun i cs x h1 h2 => ?_⟩
  rw [List.getElem?_map, h2] at h1
  cases h1
  exact code_R (h x (List.mem_of_getElem? h2))
abbrev bP (a : Option Addr) (n c : Nat) : List (Nat × Bx) := [(0, .cells 24 [.v (.slice a n c)])]
theorem ref1_spec {p : Prog} (hc : cnt p < 400000) {x : Atm} {a : Option Addr} {n c : Nat} {H : Hp} {K : SV → St → Hp → Prop} (ha : RL H a n c p) (hK : K (.agg (vL (refV (refOf p x)))) ⟨[], bP a n c, 1⟩ H) :
    DoesG Tryz.prog 103 [.agg (vL (atmV x)), .ptr 0 0] (bP a n c) 1 H K := by
  refine spec_ofG cx_ok cx_mix Tryz.func103 Tryz.call103 Tryz.ntmps103 Tryz.results103 rfl rfl ?_
  refine var_spec ha hc fun _ _ => ?_
  have hr := vIdx_range p x.1.l
  refine ⟨fun h => ?_, fun h => ?_⟩
  · have h0 : 0 ≤ vIdx p x.1.l := dt h
    have e : refOf p x = (vIdx p x.1.l, (0, 0)) := if_pos h0
    have e2 : max (idxS x.1.l (varsOf p) 0) 0 = vIdx p x.1.l := by rw [vIdx] at h0 ⊢; omega
    rw [e] at hK
    rw [e2]
    exact ⟨.agg (vL (refV (vIdx p x.1.l, (0, 0)))), bP a n c, 1, [(0, 0)], by (repeat' (first | exact trivial | refine ⟨?_, ?_⟩ | exact rfl | assumption)), hK⟩
  · have h0 : ¬ 0 ≤ vIdx p x.1.l := df h
    have e : refOf p x = (-1, (wrp x.2.1, wrp x.2.2)) := if_neg h0
    rw [e] at hK
    refine gof_spec ?_
    exact ⟨.agg (vL (refV (-1, (wrp x.2.1, wrp x.2.2)))), bP a n c, 1, [(0, 0)], by (repeat' (first | exact trivial | refine ⟨?_, ?_⟩ | exact rfl | assumption)), hK⟩
theorem rref_spec {p : Prog} (hc : cnt p < 400000) {x : Atm} {a : Option Addr} {n c : Nat} {H : Hp} {K : Value → Hp → Prop} (ha : RL H a n c p) (hK : K (.agg (refV (refOf p x)).toArray) H) :
    Does Tryz.prog 60 [.agg #[.slice a n c], .agg (atmV x).toArray] H K := by
  refine spec_of cx_ok cx_mix rfl Tryz.func60 Tryz.call60 Tryz.ntmps60 Tryz.results60 rfl rfl ?_
  refine rvar_spec ha hc fun _ _ => ?_
  have hr := vIdx_range p x.1.l
  refine ⟨fun h => ?_, fun h => ?_⟩
  · have h0 : 0 ≤ vIdx p x.1.l := dt h
    have e : refOf p x = (vIdx p x.1.l, (0, 0)) := if_pos h0
    rw [e] at hK
    exact hK
  · have h0 : ¬ 0 ≤ vIdx p x.1.l := df h
    have e : refOf p x = (-1, (wrp x.2.1, wrp x.2.2)) := if_neg h0
    rw [e] at hK
    refine rof_spec ?_
    exact hK
theorem codes_spec {p : Prog} (hc : cnt p < 400000) (hv : (varsOf p).length ≤ 1000000) {l : List Stmt} (hl : l.length ≤ 1000000) {a a2 : Option Addr} {n c n2 k2 : Nat} {H : Hp} {K : Value → Hp → Prop} (ha : RL H a n c p) (hb : RL H a2 n2 k2 l)
    (hK : ∀ a1 n1 c1 H', Le H H' → RL H' a1 n1 c1 (codesOf p l) → K (.slice a1 n1 c1) H') : Does Tryz.prog 58 [.agg #[.slice a n c], .slice a2 n2 k2] H K := by
  have hn2 := hb.n_eq
  refine spec_of cx_ok cx_mix rfl Tryz.func58 Tryz.call58 Tryz.ntmps58 Tryz.results58 rfl rfl ?_
  refine ⟨Nat, fun i => ⟨[(2, .ptr 0 0), (5, .fn 103 [.ptr 0 0]), (6, .own 1), (12, .v (.slice a2 n2 k2)), (13, .v (.int .i64 n2)), (14, .v (.int .i64 i))], [(0, .cells 24 [.v (.slice a n c)]), (1, .row 55 8 (cRows (codesOf p (l.take i))))], 2⟩,
    fun i H' => H' = H ∧ i ≤ l.length, fun i => l.length - i, ⟨0, [(0, 0)], ?_, rfl, Nat.zero_le _⟩, ?_⟩
  · (repeat' (first | exact trivial | refine ⟨?_, ?_⟩ | exact rfl | assumption))
  rintro i H1 _ ⟨rfl, hi⟩
  have hcl := codesOf_len p (l.take i)
  rw [List.length_take] at hcl
  have hcl2 : (cRows (codesOf p (l.take i))).length = (codesOf p (l.take i)).length := List.length_map _
  refine ⟨fun h => ?_, fun h => ?_⟩
  · have hlt : i < l.length := by have := dt h; omega
    refine name_k l[i] fun s hse => ?_
    have hss : l[i]? = some s := by rw [hse]; exact List.getElem?_eq_getElem hlt
    have hst := codesOf_take (p := p) hss
    have hr := vIdx_range p s.2.1.l
    refine stmt_k hb hss fun ad q1 hh hsr => ?_
    refine ⟨ad, ⟨by omega, by omega, q1⟩, ?_⟩
    refine ⟨_, hh, ?_⟩
    refine var_spec ha hc fun _ _ => ?_
    refine ⟨fun h => ?_, fun h => ?_⟩
    · have h0 : vIdx p s.2.1.l < 0 := by have : ¬ 0 ≤ vIdx p s.2.1.l := nt h; omega
      have e : codeOf p s = [] := if_pos h0
      rw [e, List.append_nil] at hst
      refine ⟨⟨by omega, by omega⟩, i + 1, [(0, 0), (1, 1)], ?_, ⟨rfl, hlt⟩, by dsimp only; omega⟩
      have er : cRows (codesOf p (l.take i)) = cRows (codesOf p (l.take (i + 1))) := by rw [hst]
      (repeat' (first | exact trivial | refine ⟨?_, ?_⟩ | exact rfl | assumption))
    · have h0 : 0 ≤ vIdx p s.2.1.l := nf h
      have e2 : max (idxS s.2.1.l (varsOf p) 0) 0 = vIdx p s.2.1.l := by rw [vIdx] at h0 ⊢; omega
      rw [e2]
      refine ⟨fun h => ?_, fun h => ?_⟩
      · have h1 : s.1 = 1 := dt h
        have e : codeOf p s = [(vIdx p s.2.1.l, s.2.2.1, refOf p s.2.2.2.1, refOf p s.2.2.2.2)] := by rw [codeOf, if_neg (by omega), if_pos h1]
        rw [e] at hst
        refine ⟨some ([0, 1, 3], [0, 1, 2, 3, 4, 5, 6, 7, 8, 10, 11, 12, 13, 9, 14, 15, 16, 17, 18]), by kernel_rfl, ?_⟩
        refine ⟨[0], rfl, ref1_spec hc ha ?_⟩
        refine ⟨[0], rfl, ref1_spec hc ha ?_⟩
        refine ⟨⟨by show (_ + 1) * 64 ≤ 140737488355328; rw [hcl2]; omega, by show _ + 1 ≤ 9223372036854775807; rw [hcl2]; omega⟩, ?_⟩
        refine ⟨⟨by omega, by omega⟩, i + 1, [(0, 0), (1, 4)], ?_, ⟨rfl, hlt⟩, by dsimp only; omega⟩
        have er : cRows (codesOf p (l.take (i + 1))) = cRows (codesOf p (l.take i)) ++ [codeV (vIdx p s.2.1.l, s.2.2.1, refOf p s.2.2.2.1, refOf p s.2.2.2.2)] := by rw [hst, cRows, List.map_append]; rfl
        have er2 := er.symm
        (repeat' (first | exact trivial | refine ⟨?_, ?_⟩ | exact rfl | assumption))
      · have h1 : ¬ s.1 = 1 := df h
        refine ⟨fun h => ?_, fun h => ?_⟩
        · have h2 : s.1 = 2 := dt h
          have e : codeOf p s = [(vIdx p s.2.1.l, -1, (0, (0, 0)), (0, (0, 0)))] := by rw [codeOf, if_neg (by omega), if_neg h1, if_pos h2]
          rw [e] at hst
          refine ⟨⟨by show (_ + 1) * 64 ≤ 140737488355328; rw [hcl2]; omega, by show _ + 1 ≤ 9223372036854775807; rw [hcl2]; omega⟩, ?_⟩
          refine ⟨⟨by omega, by omega⟩, i + 1, [(0, 0), (1, 4)], ?_, ⟨rfl, hlt⟩, by dsimp only; omega⟩
          have er : cRows (codesOf p (l.take (i + 1))) = cRows (codesOf p (l.take i)) ++ [codeV (vIdx p s.2.1.l, -1, (0, (0, 0)), (0, (0, 0)))] := by rw [hst, cRows, List.map_append]; rfl
          have er2 := er.symm
          (repeat' (first | exact trivial | refine ⟨?_, ?_⟩ | exact rfl | assumption))
        · have h2 : ¬ s.1 = 2 := df h
          have e : codeOf p s = [] := by rw [codeOf, if_neg (by omega), if_neg h1, if_neg h2]
          rw [e, List.append_nil] at hst
          refine ⟨⟨by omega, by omega⟩, i + 1, [(0, 0), (1, 1)], ?_, ⟨rfl, hlt⟩, by dsimp only; omega⟩
          have er : cRows (codesOf p (l.take i)) = cRows (codesOf p (l.take (i + 1))) := by rw [hst]
          (repeat' (first | exact trivial | refine ⟨?_, ?_⟩ | exact rfl | assumption))
  · have hil : i = l.length := by have := df h; omega
    rw [hil, List.take_length]
    intro v H6 hle6 hv6
    have hR : ∀ c ∈ codesOf p l, cdR c := fun c hc => by
      obtain ⟨s, hs, h1⟩ := List.mem_flatMap.1 hc
      obtain ⟨cs, hr⟩ := rl_mem hb hs
      exact codeOf_R p hv (stmt_open hr).2 c h1
    obtain ⟨a7, n7, c7, rfl, hr7⟩ := RL.of_row (α := Cd) hv6 (rc_c hR)
    exact hK _ _ _ _ hle6.le hr7
theorem rcodes_spec {p : Prog} (hc : cnt p < 400000) (hv : (varsOf p).length ≤ 1000000) {l : List Stmt} (hl : l.length ≤ 1000000) {a a2 : Option Addr} {n c n2 k2 : Nat} {H : Hp} {K : Value → Hp → Prop} (ha : RL H a n c p) (hb : RL H a2 n2 k2 l)
    (hK : ∀ a1 n1 c1 H', Le H H' → RL H' a1 n1 c1 (codesOf p l) → K (.slice a1 n1 c1) H') : Does Tryz.prog 21 [.agg #[.slice a n c], .slice a2 n2 k2] H K := by
  have hn2 := hb.n_eq
  refine spec_of cx_ok cx_mix rfl Tryz.func21 Tryz.call21 Tryz.ntmps21 Tryz.results21 rfl rfl ?_
  refine ⟨Nat, fun i => ⟨[(2, .ptr 0 0), (5, .own 1), (9, .v (.slice a2 n2 k2)), (10, .v (.int .i64 n2)), (11, .v (.int .i64 i))], [(0, .cells 24 [.v (.slice a n c)]), (1, .row 55 8 (cRows (codesOf p (l.take i))))], 2⟩,
    fun i H' => H' = H ∧ i ≤ l.length, fun i => l.length - i, ⟨0, [(0, 0)], ?_, rfl, Nat.zero_le _⟩, ?_⟩
  · (repeat' (first | exact trivial | refine ⟨?_, ?_⟩ | exact rfl | assumption))
  rintro i H1 _ ⟨rfl, hi⟩
  have hcl := codesOf_len p (l.take i)
  rw [List.length_take] at hcl
  have hcl2 : (cRows (codesOf p (l.take i))).length = (codesOf p (l.take i)).length := List.length_map _
  refine ⟨fun h => ?_, fun h => ?_⟩
  · have hlt : i < l.length := by have := dt h; omega
    refine name_k l[i] fun s hse => ?_
    have hss : l[i]? = some s := by rw [hse]; exact List.getElem?_eq_getElem hlt
    have hst := codesOf_take (p := p) hss
    have hr := vIdx_range p s.2.1.l
    refine stmt_k hb hss fun ad q1 hh hsr => ?_
    refine ⟨ad, ⟨by omega, by omega, q1⟩, ?_⟩
    refine ⟨_, hh, ?_⟩
    refine rvar_spec ha hc fun _ _ => ?_
    refine ⟨fun h => ?_, fun h => ?_⟩
    · have h0 : vIdx p s.2.1.l < 0 := dt h
      have e : codeOf p s = [] := if_pos h0
      rw [e, List.append_nil] at hst
      refine ⟨⟨by omega, by omega⟩, i + 1, [(0, 0), (1, 1)], ?_, ⟨rfl, hlt⟩, by dsimp only; omega⟩
      have er : cRows (codesOf p (l.take i)) = cRows (codesOf p (l.take (i + 1))) := by rw [hst]
      (repeat' (first | exact trivial | refine ⟨?_, ?_⟩ | exact rfl | assumption))
    · have h0 : 0 ≤ vIdx p s.2.1.l := by have : ¬ vIdx p s.2.1.l < 0 := df h; omega
      refine ⟨fun h => ?_, fun h => ?_⟩
      · have h1 : s.1 = 1 := dt h
        have e : codeOf p s = [(vIdx p s.2.1.l, s.2.2.1, refOf p s.2.2.2.1, refOf p s.2.2.2.2)] := by rw [codeOf, if_neg (by omega), if_pos h1]
        rw [e] at hst
        refine ⟨some ([1, 3], [0, 1, 2, 3, 4, 5, 6, 7, 8, 10, 11, 12, 13, 9, 14, 15, 16, 17, 18]), by kernel_rfl, ?_⟩
        refine rref_spec (x := s.2.2.2.1) hc ha ?_
        refine rref_spec (x := s.2.2.2.2) hc ha ?_
        refine ⟨⟨by show (_ + 1) * 64 ≤ 140737488355328; rw [hcl2]; omega, by show _ + 1 ≤ 9223372036854775807; rw [hcl2]; omega⟩, ?_⟩
        refine ⟨(fun h => absurd (dt h) (by omega)), fun _ => ?_⟩
        refine ⟨⟨by omega, by omega⟩, i + 1, [(0, 0), (1, 4)], ?_, ⟨rfl, hlt⟩, by dsimp only; omega⟩
        have er : cRows (codesOf p (l.take (i + 1))) = cRows (codesOf p (l.take i)) ++ [codeV (vIdx p s.2.1.l, s.2.2.1, refOf p s.2.2.2.1, refOf p s.2.2.2.2)] := by rw [hst, cRows, List.map_append]; rfl
        have er2 := er.symm
        (repeat' (first | exact trivial | refine ⟨?_, ?_⟩ | exact rfl | assumption))
      · have h1 : ¬ s.1 = 1 := df h
        refine ⟨fun h => ?_, fun h => ?_⟩
        · have h2 : s.1 = 2 := dt h
          have e : codeOf p s = [(vIdx p s.2.1.l, -1, (0, (0, 0)), (0, (0, 0)))] := by rw [codeOf, if_neg (by omega), if_neg h1, if_pos h2]
          rw [e] at hst
          refine ⟨⟨by show (_ + 1) * 64 ≤ 140737488355328; rw [hcl2]; omega, by show _ + 1 ≤ 9223372036854775807; rw [hcl2]; omega⟩, ?_⟩
          refine ⟨⟨by omega, by omega⟩, i + 1, [(0, 0), (1, 4)], ?_, ⟨rfl, hlt⟩, by dsimp only; omega⟩
          have er : cRows (codesOf p (l.take (i + 1))) = cRows (codesOf p (l.take i)) ++ [codeV (vIdx p s.2.1.l, -1, (0, (0, 0)), (0, (0, 0)))] := by rw [hst, cRows, List.map_append]; rfl
          have er2 := er.symm
          (repeat' (first | exact trivial | refine ⟨?_, ?_⟩ | exact rfl | assumption))
        · have h2 : ¬ s.1 = 2 := df h
          have e : codeOf p s = [] := by rw [codeOf, if_neg (by omega), if_neg h1, if_neg h2]
          rw [e, List.append_nil] at hst
          refine ⟨⟨by omega, by omega⟩, i + 1, [(0, 0), (1, 1)], ?_, ⟨rfl, hlt⟩, by dsimp only; omega⟩
          have er : cRows (codesOf p (l.take i)) = cRows (codesOf p (l.take (i + 1))) := by rw [hst]
          (repeat' (first | exact trivial | refine ⟨?_, ?_⟩ | exact rfl | assumption))
  · have hil : i = l.length := by have := df h; omega
    rw [hil, List.take_length]
    intro v H6 hle6 hv6
    have hR : ∀ c ∈ codesOf p l, cdR c := fun c hc => by
      obtain ⟨s, hs, h1⟩ := List.mem_flatMap.1 hc
      obtain ⟨cs, hr⟩ := rl_mem hb hs
      exact codeOf_R p hv (stmt_open hr).2 c h1
    obtain ⟨a7, n7, c7, rfl, hr7⟩ := RL.of_row (α := Cd) hv6 (rc_c hR)
    exact hK _ _ _ _ hle6.le hr7
end Go.Proofs
end
section
namespace Go.Proofs
open Go.Sy
set_option maxRecDepth 20000
set_option maxHeartbeats 4000000
/-! A program's equations. -/
def two64 : UInt64 := UInt64.ofNat 2
def sysOf (p : Prog) : Sy3 := ⟨(varsOf p).length, p.length, gSort (edgesOf p), [0], List.replicate (varsOf p).length two64, p.map fun b => codesOf p b.2.1⟩
theorem kOf_zero : kOf (0, 0) = 2 := by decide
abbrev zSys : List Value := [.int .i64 0, .int .i64 0, .int .i64 0, .slice none 0 0, .slice none 0 0, .slice none 0 0, .slice none 0 0]
abbrev iRow0 : List (List Value) := [[.int .i64 0]]
theorem two_snoc (i : Nat) : uRows (List.replicate (i + 1) two64) = uRows (List.replicate i two64) ++ [[.int .u64 (2 : Nat)]] := by
  rw [List.replicate_succ', uRows, List.map_append]; rfl
theorem tr_snoc {H : Hp} {css : List (List Value)} {T : List Tr3} (h : RC (α := Tr3) H css T) {a : Option Addr} {n c : Nat} {l : List Cd} (hx : RL H a n c l) : RC (α := Tr3) H (css ++ [[.slice none 0 0, .slice none 0 0, .slice a n c]]) (T ++ [Tr3.mk l]) :=
  RC.snoc h (show Enc.R (α := Tr3) H [.slice none 0 0, .slice none 0 0, .slice a n c] (Tr3.mk l) from ⟨a, n, c, rfl, hx⟩)
theorem sysT_take {p : Prog} {i : Nat} {b : Block} (h : p[i]? = some b) : ((sysOf p).T.map Tr3.mk).take (i + 1) = ((sysOf p).T.map Tr3.mk).take i ++ [Tr3.mk (codesOf p b.2.1)] := by
  have e : ((sysOf p).T.map Tr3.mk)[i]? = some (Tr3.mk (codesOf p b.2.1)) := by
    show ((p.map fun b => codesOf p b.2.1).map Tr3.mk)[i]? = _
    rw [List.getElem?_map, List.getElem?_map, h]; rfl
  rw [List.take_add_one, e, Option.toList_some]
theorem vars_small {p : Prog} (h : checkE p = 0) : (varsOf p).length ≤ 1000000 := by
  unfold checkE at h
  split at h
  · cases h
  · split at h
    · split at h
      · cases h
      · rename_i h1; omega
    · cases h
theorem ints_k {P : Prop} {H : Hp} {v : Value} (h : RowAt H v 1 iRow0) (k : ∀ a n c, v = .slice a n c → RL H a n c [(0 : Int)] → P) : P := by
  obtain ⟨a, n, c, e, hr⟩ := rI_all (l := [0]) h (fun z hz => by rw [List.mem_singleton] at hz; rw [hz]; exact ⟨by omega, by omega⟩)
  exact k a n c e hr
theorem psys_spec {p : Prog} (hp : p.length ≤ 12) (hl : ∀ b ∈ p, b.2.1.length ≤ 1000000) (hc : stmtsN p ≤ 1000000) (hv : cnt p < 400000) {a : Option Addr} {n c : Nat} {H : Hp} {K : Value → Hp → Prop} (ha : RL H a n c p)
    (hbad : checkE p ≠ 0 → ∀ H', Le H H' → K (.tuple #[.agg zSys.toArray, .int .i64 (checkE p)]) H')
    (hK : checkE p = 0 → ∀ z H', Le H H' → SysR H' (sysOf p) z → K (.tuple #[sysA (sysOf p) z, .int .i64 0]) H') : Does Tryz.prog 19 [.agg #[.slice a n c]] H K := by
  have hn := ha.n_eq
  have hmx := ha.le
  refine spec_of cx_ok cx_mix rfl Tryz.func19 Tryz.call19 Tryz.ntmps19 Tryz.results19 rfl rfl ?_
  refine pcheck_spec ha hc hv fun H0 hle0 => ?_
  refine ⟨fun h => ?_, fun h => ?_⟩
  · exact hbad (nt h) _ (Le.refl H)
  have he : checkE p = 0 := nf h
  have hK := hK he
  refine pvars_spec ha hv fun av nv cv H1 hle1 hrv => ?_
  have hnv := hrv.n_eq
  rw [List.length_map] at hnv
  have hvl : nv ≤ 1000000 := by rw [hnv]; exact vars_small he
  refine ⟨none, ?_⟩
  refine region_plan (α := Option Addr × Nat × Nat) ?_ ?_
    (.two 5 6 (.two 6 8 (.one [2, 3] [0, 1, 2, 3, 4, 5, 6, 7, 8, 9]) (.two 5 8 (.one [2, 3] [0, 1, 2, 3, 4, 5, 8, 6, 7, 9]) (.one [2, 3] [0, 1, 2, 3, 4, 8, 5, 6, 7, 9])))
      (.two 5 8 (.one [2, 3] [0, 1, 2, 3, 4, 6, 5, 7, 8, 9]) (.two 6 8 (.one [2, 3] [0, 1, 2, 3, 4, 6, 8, 5, 7, 9]) (.one [2, 3] [0, 1, 2, 3, 4, 8, 6, 5, 7, 9]))))
    (fun q => ⟨[(1, .ptr 0 0), (2, .ptr 1 0), (5, .v (.int .i64 nv)), (6, .ptr 2 0)],
      [(0, .cells 24 [.v (.slice a n c)]), (1, .cells 47 (vL zSys)), (2, .cells 47 [.v (.int .i64 3), .v (.int .i64 nv), .v (.int .i64 n), .v (.slice q.1 q.2.1 q.2.2), .own 3, .v (.slice none 0 0), .v (.slice none 0 0)]), (3, .row 3 1 iRow0)], 4⟩)
    (fun q H' => Le H1 H' ∧ RL H' q.1 q.2.1 q.2.2 (gSort (edgesOf p))) (by kernel_rfl) ⟨⟨?_, ?_, ?_⟩, ?_, ?_, ?_⟩ ?_
  · exact ⟨cx_ok.tt, cx_ok.eqs⟩
  · exact cx_mix
  · refine edges_spec hp (ha.up hle1) fun a2 n2 c2 H2 hle2 hr2 => ?_
    refine ⟨(a2, n2, c2), [(0, 0), (1, 1), (2, 3), (3, 2)], ?_, hle2, hr2⟩
    (repeat' (first | exact trivial | refine ⟨?_, ?_⟩ | exact rfl | assumption))
  · refine edges_spec hp (ha.up hle1) fun a2 n2 c2 H2 hle2 hr2 => ?_
    refine ⟨(a2, n2, c2), [(0, 0), (1, 1), (2, 2), (3, 3)], ?_, hle2, hr2⟩
    (repeat' (first | exact trivial | refine ⟨?_, ?_⟩ | exact rfl | assumption))
  · refine edges_spec hp (ha.up hle1) fun a2 n2 c2 H2 hle2 hr2 => ?_
    refine ⟨(a2, n2, c2), [(0, 0), (1, 1), (2, 2), (3, 3)], ?_, hle2, hr2⟩
    (repeat' (first | exact trivial | refine ⟨?_, ?_⟩ | exact rfl | assumption))
  · refine edges_spec hp (ha.up hle1) fun a2 n2 c2 H2 hle2 hr2 => ?_
    refine ⟨(a2, n2, c2), [(0, 0), (1, 1), (2, 3), (3, 2)], ?_, hle2, hr2⟩
    (repeat' (first | exact trivial | refine ⟨?_, ?_⟩ | exact rfl | assumption))
  · refine edges_spec hp (ha.up hle1) fun a2 n2 c2 H2 hle2 hr2 => ?_
    refine ⟨(a2, n2, c2), [(0, 0), (1, 1), (2, 3), (3, 2)], ?_, hle2, hr2⟩
    (repeat' (first | exact trivial | refine ⟨?_, ?_⟩ | exact rfl | assumption))
  · refine edges_spec hp (ha.up hle1) fun a2 n2 c2 H2 hle2 hr2 => ?_
    refine ⟨(a2, n2, c2), [(0, 0), (1, 1), (2, 2), (3, 3)], ?_, hle2, hr2⟩
    (repeat' (first | exact trivial | refine ⟨?_, ?_⟩ | exact rfl | assumption))
  rintro ⟨ae, ne, ce⟩ H2 _ ⟨hle2, hre⟩
  dsimp only at hre
  refine ⟨Nat, fun i => ⟨[(1, .ptr 0 0), (2, .ptr 1 0), (6, .ptr 2 0), (26, .v (.int .i64 nv)), (27, .v (.int .i64 i))],
      [(0, .cells 24 [.v (.slice a n c)]), (1, .cells 47 (vL zSys)), (2, .cells 47 [.v (.int .i64 3), .v (.int .i64 nv), .v (.int .i64 n), .v (.slice ae ne ce), .own 3, .own 4, .v (.slice none 0 0)]), (3, .row 3 1 iRow0), (4, .row 94 1 (uRows (List.replicate i two64)))], 5⟩,
    fun i H' => H' = H2 ∧ i ≤ nv, fun i => nv - i, ⟨0, [(0, 0), (1, 1), (2, 2), (3, 3)], ?_, rfl, Nat.zero_le _⟩, ?_⟩
  · (repeat' (first | exact trivial | refine ⟨?_, ?_⟩ | exact rfl | assumption))
  rintro i H3 _ ⟨rfl, hi⟩
  have hil : (uRows (List.replicate i two64)).length = i := by simp
  refine ⟨fun h => ?_, fun h => ?_⟩
  · have hlt : i < nv := by have := dt h; omega
    refine ⟨some ([1000000, 2, 4, 5], [0, 1, 2, 3, 4, 5, 6, 7]), by kernel_rfl, ?_⟩
    refine kof_spec (a := (0, 0)) ?_
    rw [kOf_zero]
    refine ⟨⟨by show (_ + 1) * 8 ≤ 140737488355328; rw [hil]; omega, by show _ + 1 ≤ 9223372036854775807; rw [hil]; omega⟩, ?_⟩
    refine ⟨⟨by omega, by omega⟩, i + 1, [(0, 0), (1, 1), (2, 2), (3, 3), (4, 6)], ?_, ⟨rfl, hlt⟩, by dsimp only; omega⟩
    have e := (two_snoc i).symm
    (repeat' (first | exact trivial | refine ⟨?_, ?_⟩ | exact rfl | assumption))
  have hil2 : i = nv := by have := df h; omega
  rw [hil2]
  refine ⟨Nat × List (List Value), fun q => ⟨[(1, .ptr 0 0), (2, .ptr 1 0), (6, .ptr 2 0), (38, .v (.slice a n c)), (39, .v (.int .i64 n)), (40, .v (.int .i64 q.1))],
      [(0, .cells 24 [.v (.slice a n c)]), (1, .cells 47 (vL zSys)), (2, .cells 47 [.v (.int .i64 3), .v (.int .i64 nv), .v (.int .i64 n), .v (.slice ae ne ce), .own 3, .own 4, .own 5]), (3, .row 3 1 iRow0), (4, .row 94 1 (uRows (List.replicate nv two64))), (5, .row 98 3 q.2)], 6⟩,
    fun q H' => Le H3 H' ∧ q.1 ≤ p.length ∧ RC (α := Tr3) H' q.2 (((sysOf p).T.map Tr3.mk).take q.1), fun q => p.length - q.1, ⟨(0, []), [(0, 0), (1, 1), (2, 2), (3, 3), (4, 4)], ?_, Le.refl _, Nat.zero_le _, RC.nil⟩, ?_⟩
  · (repeat' (first | exact trivial | refine ⟨?_, ?_⟩ | exact rfl | assumption))
  rintro ⟨j, css⟩ H4 _ ⟨hle4, hj, hrc⟩
  dsimp only at hj hrc
  have hle : Le H H4 := (hle1.trans hle2).trans hle4
  have hTl : ((sysOf p).T.map Tr3.mk).length = p.length := by simp [sysOf]
  have hcl : css.length = j := by have h1 := hrc.1; rw [List.length_take] at h1; omega
  refine ⟨fun h => ?_, fun h => ?_⟩
  · have hlt : j < p.length := by have := dt h; dsimp only at this; omega
    refine name_k p[j] fun b hbe => ?_
    have hbb : p[j]? = some b := by rw [hbe]; exact List.getElem?_eq_getElem hlt
    refine block_k (ha.up hle) hbb fun ad a5 n5 c5 q1 hh hr5 hs5 ht5 => ?_
    refine ⟨ad, ⟨by dsimp only; omega, by dsimp only; omega, q1⟩, ?_⟩
    refine ⟨_, hh, ?_⟩
    refine ⟨some ([1000000, 2, 5, 7], [0, 1, 2, 3, 4, 5, 6, 7, 8, 9, 10]), by kernel_rfl, ?_⟩
    refine codes_spec hv (vars_small he) (hl b (by rw [hbe]; exact List.getElem_mem hlt)) (ha.up hle) hr5 fun a6 n6 c6 H5 hle5 hr6 => ?_
    refine ⟨⟨by show (css.length + 1) * 72 ≤ 140737488355328; omega, by show css.length + 1 ≤ 9223372036854775807; omega⟩, ?_⟩
    have hrc2 : RC (α := Tr3) H5 (css ++ [[.slice none 0 0, .slice none 0 0, .slice a6 n6 c6]]) (((sysOf p).T.map Tr3.mk).take (j + 1)) := by
      rw [sysT_take hbb]; exact tr_snoc (RC.up hrc hle5) hr6
    refine ⟨⟨by omega, by omega⟩, (j + 1, css ++ [[.slice none 0 0, .slice none 0 0, .slice a6 n6 c6]]), [(0, 0), (1, 1), (2, 2), (3, 3), (4, 4), (5, 8)], ?_, ⟨hle4.trans hle5, hlt, hrc2⟩, by dsimp only; omega⟩
    (repeat' (first | exact trivial | refine ⟨?_, ?_⟩ | exact rfl | assumption))
  · have hjl : j = p.length := by have := df h; dsimp only at this; omega
    rw [hjl, List.take_of_length_le (by omega)] at hrc
    intro v1 H5 hle5 hv1
    refine ints_k hv1 fun na nn nc ev1 hr1 => ?_
    subst ev1
    intro v2 H6 hle6 hv2
    refine of_row_k (α := UInt64) hv2 rc_w fun ia ni ic ev2 hr2 => ?_
    subst ev2
    intro v3 H7 hle7 hv3
    have h57 := (hle5.le.trans hle6.le).trans hle7.le
    refine of_row_k (α := Tr3) hv3 (RC.up hrc h57) fun ta tn tc ev3 hr3 => ?_
    subst ev3
    have hsys : SysR H7 (sysOf p) ⟨ae, ne, ce, na, nn, nc, ia, ni, ic, ta, tn, tc⟩ := by
      refine ⟨hre.up (hle4.trans h57), hr1.up (hle6.le.trans hle7.le), ?_, hr3⟩
      have e : (sysOf p).ini = List.replicate nv two64 := by rw [hnv]; rfl
      rw [e]; exact hr2.up hle7.le
    have hK := hK ⟨ae, ne, ce, na, nn, nc, ia, ni, ic, ta, tn, tc⟩ H7 (hle.trans h57) hsys
    have e1 : (sysOf p).w = nv := hnv.symm
    have e2 : (sysOf p).m = n := hn.symm
    rw [sysA, sysV, e1, e2] at hK
    exact hK
theorem rsys_spec {p : Prog} (hp : p.length ≤ 12) (hl : ∀ b ∈ p, b.2.1.length ≤ 1000000) (hv : cnt p < 400000) {a : Option Addr} {n c : Nat} {H : Hp} {K : Value → Hp → Prop} (ha : RL H a n c p)
    (he : checkE p = 0) (hK : ∀ z H', Le H H' → SysR H' (sysOf p) z → K (sysA (sysOf p) z) H') : Does Tryz.prog 23 [.agg #[.slice a n c]] H K := by
  have hn := ha.n_eq
  have hmx := ha.le
  refine spec_of cx_ok cx_mix rfl Tryz.func23 Tryz.call23 Tryz.ntmps23 Tryz.results23 rfl rfl ?_
  refine rvars_spec ha hv fun av nv cv H1 hle1 hrv => ?_
  have hnv := hrv.n_eq
  rw [List.length_map] at hnv
  have hvl : nv ≤ 1000000 := by rw [hnv]; exact vars_small he
  refine ⟨none, ?_⟩
  refine region_plan (α := Option Addr × Nat × Nat) ?_ ?_
    (.two 5 6 (.two 6 8 (.one [2, 3] [0, 1, 2, 3, 4, 5, 6, 7, 8, 9]) (.two 5 8 (.one [2, 3] [0, 1, 2, 3, 4, 5, 8, 6, 7, 9]) (.one [2, 3] [0, 1, 2, 3, 4, 8, 5, 6, 7, 9])))
      (.two 5 8 (.one [2, 3] [0, 1, 2, 3, 4, 6, 5, 7, 8, 9]) (.two 6 8 (.one [2, 3] [0, 1, 2, 3, 4, 6, 8, 5, 7, 9]) (.one [2, 3] [0, 1, 2, 3, 4, 8, 6, 5, 7, 9]))))
    (fun q => ⟨[(1, .ptr 0 0), (2, .ptr 1 0), (3, .v (.int .i64 nv)), (4, .ptr 2 0)],
      [(0, .cells 24 [.v (.slice a n c)]), (1, .cells 47 (vL zSys)), (2, .cells 47 [.v (.int .i64 3), .v (.int .i64 nv), .v (.int .i64 n), .v (.slice q.1 q.2.1 q.2.2), .own 3, .v (.slice none 0 0), .v (.slice none 0 0)]), (3, .row 3 1 iRow0)], 4⟩)
    (fun q H' => Le H1 H' ∧ RL H' q.1 q.2.1 q.2.2 (gSort (edgesOf p))) (by kernel_rfl) ⟨⟨?_, ?_, ?_⟩, ?_, ?_, ?_⟩ ?_
  · exact ⟨cx_ok.tt, cx_ok.eqs⟩
  · exact cx_mix
  · refine redges_spec hp (ha.up hle1) fun a2 n2 c2 H2 hle2 hr2 => ?_
    refine ⟨(a2, n2, c2), [(0, 0), (1, 1), (2, 3), (3, 2)], ?_, hle2, hr2⟩
    (repeat' (first | exact trivial | refine ⟨?_, ?_⟩ | exact rfl | assumption))
  · refine redges_spec hp (ha.up hle1) fun a2 n2 c2 H2 hle2 hr2 => ?_
    refine ⟨(a2, n2, c2), [(0, 0), (1, 1), (2, 2), (3, 3)], ?_, hle2, hr2⟩
    (repeat' (first | exact trivial | refine ⟨?_, ?_⟩ | exact rfl | assumption))
  · refine redges_spec hp (ha.up hle1) fun a2 n2 c2 H2 hle2 hr2 => ?_
    refine ⟨(a2, n2, c2), [(0, 0), (1, 1), (2, 2), (3, 3)], ?_, hle2, hr2⟩
    (repeat' (first | exact trivial | refine ⟨?_, ?_⟩ | exact rfl | assumption))
  · refine redges_spec hp (ha.up hle1) fun a2 n2 c2 H2 hle2 hr2 => ?_
    refine ⟨(a2, n2, c2), [(0, 0), (1, 1), (2, 3), (3, 2)], ?_, hle2, hr2⟩
    (repeat' (first | exact trivial | refine ⟨?_, ?_⟩ | exact rfl | assumption))
  · refine redges_spec hp (ha.up hle1) fun a2 n2 c2 H2 hle2 hr2 => ?_
    refine ⟨(a2, n2, c2), [(0, 0), (1, 1), (2, 3), (3, 2)], ?_, hle2, hr2⟩
    (repeat' (first | exact trivial | refine ⟨?_, ?_⟩ | exact rfl | assumption))
  · refine redges_spec hp (ha.up hle1) fun a2 n2 c2 H2 hle2 hr2 => ?_
    refine ⟨(a2, n2, c2), [(0, 0), (1, 1), (2, 2), (3, 3)], ?_, hle2, hr2⟩
    (repeat' (first | exact trivial | refine ⟨?_, ?_⟩ | exact rfl | assumption))
  rintro ⟨ae, ne, ce⟩ H2 _ ⟨hle2, hre⟩
  dsimp only at hre
  refine ⟨Nat, fun i => ⟨[(1, .ptr 0 0), (2, .ptr 1 0), (3, .v (.int .i64 nv)), (4, .ptr 2 0), (5, .v (.int .i64 i))],
      [(0, .cells 24 [.v (.slice a n c)]), (1, .cells 47 (vL zSys)), (2, .cells 47 [.v (.int .i64 3), .v (.int .i64 nv), .v (.int .i64 n), .v (.slice ae ne ce), .own 3, .own 4, .v (.slice none 0 0)]), (3, .row 3 1 iRow0), (4, .row 94 1 (uRows (List.replicate i two64)))], 5⟩,
    fun i H' => H' = H2 ∧ i ≤ nv, fun i => nv - i, ⟨0, [(0, 0), (1, 1), (2, 2), (3, 3)], ?_, rfl, Nat.zero_le _⟩, ?_⟩
  · (repeat' (first | exact trivial | refine ⟨?_, ?_⟩ | exact rfl | assumption))
  rintro i H3 _ ⟨rfl, hi⟩
  have hil : (uRows (List.replicate i two64)).length = i := by simp
  refine ⟨fun h => ?_, fun h => ?_⟩
  · have hlt : i < nv := by have := dt h; omega
    refine ⟨some ([1000000, 2, 4, 5], [0, 1, 2, 3, 4, 5, 6, 7]), by kernel_rfl, ?_⟩
    refine rkof_spec (a := (0, 0)) ?_
    rw [kOf_zero]
    refine ⟨⟨by show (_ + 1) * 8 ≤ 140737488355328; rw [hil]; omega, by show _ + 1 ≤ 9223372036854775807; rw [hil]; omega⟩, ?_⟩
    refine ⟨⟨by omega, by omega⟩, i + 1, [(0, 0), (1, 1), (2, 2), (3, 3), (4, 6)], ?_, ⟨rfl, hlt⟩, by dsimp only; omega⟩
    have e := (two_snoc i).symm
    (repeat' (first | exact trivial | refine ⟨?_, ?_⟩ | exact rfl | assumption))
  have hil2 : i = nv := by have := df h; omega
  rw [hil2]
  refine ⟨Nat × List (List Value), fun q => ⟨[(1, .ptr 0 0), (2, .ptr 1 0), (4, .ptr 2 0), (32, .v (.slice a n c)), (33, .v (.int .i64 n)), (34, .v (.int .i64 q.1))],
      [(0, .cells 24 [.v (.slice a n c)]), (1, .cells 47 (vL zSys)), (2, .cells 47 [.v (.int .i64 3), .v (.int .i64 nv), .v (.int .i64 n), .v (.slice ae ne ce), .own 3, .own 4, .own 5]), (3, .row 3 1 iRow0), (4, .row 94 1 (uRows (List.replicate nv two64))), (5, .row 98 3 q.2)], 6⟩,
    fun q H' => Le H3 H' ∧ q.1 ≤ p.length ∧ RC (α := Tr3) H' q.2 (((sysOf p).T.map Tr3.mk).take q.1), fun q => p.length - q.1, ⟨(0, []), [(0, 0), (1, 1), (2, 2), (3, 3), (4, 4)], ?_, Le.refl _, Nat.zero_le _, RC.nil⟩, ?_⟩
  · (repeat' (first | exact trivial | refine ⟨?_, ?_⟩ | exact rfl | assumption))
  rintro ⟨j, css⟩ H4 _ ⟨hle4, hj, hrc⟩
  dsimp only at hj hrc
  have hle : Le H H4 := (hle1.trans hle2).trans hle4
  have hTl : ((sysOf p).T.map Tr3.mk).length = p.length := by simp [sysOf]
  have hcl : css.length = j := by have h1 := hrc.1; rw [List.length_take] at h1; omega
  refine ⟨fun h => ?_, fun h => ?_⟩
  · have hlt : j < p.length := by have := dt h; dsimp only at this; omega
    refine name_k p[j] fun b hbe => ?_
    have hbb : p[j]? = some b := by rw [hbe]; exact List.getElem?_eq_getElem hlt
    refine block_k (ha.up hle) hbb fun ad a5 n5 c5 q1 hh hr5 hs5 ht5 => ?_
    refine ⟨ad, ⟨by dsimp only; omega, by dsimp only; omega, q1⟩, ?_⟩
    refine ⟨_, hh, ?_⟩
    refine ⟨some ([1000000, 2, 5, 7], [0, 1, 2, 3, 4, 5, 6, 7, 8, 9, 10]), by kernel_rfl, ?_⟩
    refine rcodes_spec hv (vars_small he) (hl b (by rw [hbe]; exact List.getElem_mem hlt)) (ha.up hle) hr5 fun a6 n6 c6 H5 hle5 hr6 => ?_
    refine ⟨⟨by show (css.length + 1) * 72 ≤ 140737488355328; omega, by show css.length + 1 ≤ 9223372036854775807; omega⟩, ?_⟩
    have hrc2 : RC (α := Tr3) H5 (css ++ [[.slice none 0 0, .slice none 0 0, .slice a6 n6 c6]]) (((sysOf p).T.map Tr3.mk).take (j + 1)) := by
      rw [sysT_take hbb]; exact tr_snoc (RC.up hrc hle5) hr6
    refine ⟨⟨by omega, by omega⟩, (j + 1, css ++ [[.slice none 0 0, .slice none 0 0, .slice a6 n6 c6]]), [(0, 0), (1, 1), (2, 2), (3, 3), (4, 4), (5, 8)], ?_, ⟨hle4.trans hle5, hlt, hrc2⟩, by dsimp only; omega⟩
    (repeat' (first | exact trivial | refine ⟨?_, ?_⟩ | exact rfl | assumption))
  · have hjl : j = p.length := by have := df h; dsimp only at this; omega
    rw [hjl, List.take_of_length_le (by omega)] at hrc
    intro v1 H5 hle5 hv1
    refine ints_k hv1 fun na nn nc ev1 hr1 => ?_
    subst ev1
    intro v2 H6 hle6 hv2
    refine of_row_k (α := UInt64) hv2 rc_w fun ia ni ic ev2 hr2 => ?_
    subst ev2
    intro v3 H7 hle7 hv3
    have h57 := (hle5.le.trans hle6.le).trans hle7.le
    refine of_row_k (α := Tr3) hv3 (RC.up hrc h57) fun ta tn tc ev3 hr3 => ?_
    subst ev3
    have hsys : SysR H7 (sysOf p) ⟨ae, ne, ce, na, nn, nc, ia, ni, ic, ta, tn, tc⟩ := by
      refine ⟨hre.up (hle4.trans h57), hr1.up (hle6.le.trans hle7.le), ?_, hr3⟩
      have e : (sysOf p).ini = List.replicate nv two64 := by rw [hnv]; rfl
      rw [e]; exact hr2.up hle7.le
    have hK := hK ⟨ae, ne, ce, na, nn, nc, ia, ni, ic, ta, tn, tc⟩ H7 (hle.trans h57) hsys
    have e1 : (sysOf p).w = nv := hnv.symm
    have e2 : (sysOf p).m = n := hn.symm
    rw [sysA, sysV, e1, e2] at hK
    exact hK
end Go.Proofs
end
section
namespace Go.Proofs
open Go.Sy
set_option maxRecDepth 20000
set_option maxHeartbeats 4000000
/-! A program's equations are in order. -/
theorem refOf_ok (p : Prog) (a : Atm) : okR (varsOf p).length (refOf p a) := by
  have h1 := vIdx_range p a.1.l
  unfold refOf
  split
  · rename_i h0
    exact .inr ⟨h0, by dsimp only; omega, rfl⟩
  · exact .inl ⟨rfl, wrp_wrp _, wrp_wrp _⟩
theorem exprB_op {x : Expr} (h : exprB x = true) : 0 ≤ x.1 ∧ x.1 ≤ 4 := by
  unfold exprB at h
  split at h
  · rename_i h1
    simp only [op1, Bool.or_eq_true, decide_eq_true_eq] at h1
    omega
  · split at h
    · rename_i h1
      simp only [op2, Bool.or_eq_true, decide_eq_true_eq] at h1
      omega
    · cases h
theorem codeOf_ok {p : Prog} {s : Stmt} (h : stmtB s = true) : ∀ c ∈ codeOf p s, okC (varsOf p).length c := by
  have h1 := vIdx_range p s.2.1.l
  intro c hc
  unfold codeOf at hc
  split at hc
  · cases hc
  · rename_i h0
    have hr : 0 ≤ vIdx p s.2.1.l ∧ vIdx p s.2.1.l < ((varsOf p).length : Nat) := by omega
    split at hc
    · rename_i h2
      rw [stmtB, if_pos h2, Bool.and_eq_true] at h
      have h3 := exprB_op h.2
      rw [List.mem_singleton] at hc
      rw [hc]
      exact ⟨hr.1, hr.2, .inr ⟨h3.1, h3.2, refOf_ok p _, refOf_ok p _⟩⟩
    · split at hc
      · rw [List.mem_singleton] at hc
        rw [hc]
        exact ⟨hr.1, hr.2, .inl ⟨rfl, rfl, rfl⟩⟩
      · cases hc
theorem codesOf_ok {p : Prog} {l : List Stmt} (h : ∀ s ∈ l, stmtB s = true) : okL (varsOf p).length (codesOf p l) := by
  intro c hc
  obtain ⟨s, hs, h1⟩ := List.mem_flatMap.1 hc
  exact codeOf_ok (h s hs) c h1
theorem check_facts {p : Prog} (h : checkE p = 0) : 1 ≤ p.length ∧ p.length ≤ 128 ∧ (varsOf p).length ≤ 64 ∧ ∀ b ∈ p, blockB b = true := by
  unfold checkE at h
  split at h
  · cases h
  · rename_i h0
    split at h
    · rename_i h1
      split at h
      · cases h
      · refine ⟨by omega, by omega, by omega, fun b hb => List.all_eq_true.1 h1 b hb⟩
    · cases h
theorem block_stmts {b : Block} (h : blockB b = true) : ∀ s ∈ b.2.1, stmtB s = true := by
  rw [blockB, Bool.and_eq_true] at h
  exact fun s hs => List.all_eq_true.1 h.2 s hs
theorem eN_lt {p : Prog} {i : Nat} {t : Bs8} : ∀ e ∈ eN p i t, e.1 = (i : Int) ∧ 0 ≤ e.2 ∧ e.2 < (p.length : Nat) := by
  intro e he
  unfold eN at he
  have hr := idxS_range t (nms p) 0 (by omega)
  rw [List.length_map] at hr
  split at he
  · rename_i h0
    simp only [List.mem_cons, List.not_mem_nil, or_false] at he
    subst he
    exact ⟨rfl, h0, by dsimp only; omega⟩
  · simp at he
theorem eB_lt {p : Prog} {i : Nat} {b : Block} : ∀ e ∈ eB p i b, e.1 = (i : Int) ∧ 0 ≤ e.2 ∧ e.2 < (p.length : Nat) := by
  intro e he
  unfold eB at he
  rcases List.mem_append.1 he with he | he
  · split at he
    · exact eN_lt e he
    · cases he
  · split at he
    · exact eN_lt e he
    · cases he
theorem eAll_lt {p : Prog} : ∀ (l : List Block) (i : Nat), ∀ e ∈ eAll p l i, ((i : Int) ≤ e.1 ∧ e.1 < ((i + l.length : Nat) : Int)) ∧ 0 ≤ e.2 ∧ e.2 < (p.length : Nat)
  | [], _, e, he => by simp [eAll] at he
  | b :: r, i, e, he => by
    rw [eAll] at he
    rcases List.mem_append.1 he with he | he
    · have h := eB_lt e he
      rw [List.length_cons]
      exact ⟨⟨by omega, by omega⟩, h.2⟩
    · have h := eAll_lt r (i + 1) e he
      rw [List.length_cons]
      exact ⟨⟨by omega, by omega⟩, h.2⟩
theorem two_is : kIs (two64).toNat = true := by decide
theorem sysOf_ok {p : Prog} (h : checkE p = 0) : OkS (sysOf p) := by
  have hf := check_facts h
  refine ⟨?_, ?_, ?_, ?_, ?_, ?_, ?_, ?_⟩
  · show (varsOf p).length ≤ 1024
    omega
  · show 1 ≤ p.length ∧ p.length ≤ 256
    omega
  · show (gSort (edgesOf p)).length ≤ 1024
    have h1 := gSort_len (edgesOf p)
    have h2 := eAll_len p p 0
    rw [edgesOf] at h1 ⊢
    omega
  · intro e he
    have he : e ∈ edgesOf p := (gSort_mem _ _).1 he
    have h1 := eAll_lt p 0 e he
    show (0 ≤ e.1 ∧ e.1 < (p.length : Nat)) ∧ 0 ≤ e.2 ∧ e.2 < (p.length : Nat)
    omega
  · intro v hv
    have hv : v ∈ [(0 : Int)] := hv
    rw [List.mem_singleton] at hv
    rw [hv]
    show 0 ≤ (0 : Int) ∧ (0 : Int) < (p.length : Nat)
    omega
  · refine ⟨List.length_replicate, fun w hw => ?_⟩
    have hw : w ∈ List.replicate (varsOf p).length two64 := hw
    rw [(List.mem_replicate.1 hw).2]
    exact two_is
  · exact List.length_map _
  · intro t ht
    have ht : t ∈ p.map fun b => codesOf p b.2.1 := ht
    obtain ⟨b, hb, rfl⟩ := List.mem_map.1 ht
    exact codesOf_ok (block_stmts (hf.2.2.2 b hb))
theorem sys_t {p : Prog} {i : Nat} {b : Block} (h : p[i]? = some b) : tAt (sysOf p) i = codesOf p b.2.1 := by
  have e : (sysOf p).T[i]? = some (codesOf p b.2.1) := by
    show (p.map fun b => codesOf p b.2.1)[i]? = _
    rw [List.getElem?_map, h]; rfl
  rw [tAt, e]; rfl
end Go.Proofs
end
section
namespace Go.Proofs
open Go.Sy
set_option maxRecDepth 20000
set_option maxHeartbeats 4000000
/-! Two systems that are alike. -/
theorem same16_spec {l : List Cd} {a a2 : Option Addr} {n c n2 k2 : Nat} {H : Hp} {K : Value → Hp → Prop} (ha : RL H a n c l) (hb : RL H a2 n2 k2 l) (hK : K (.bool true) H) : Does Tryz.prog 63 [trA a n c, trA a2 n2 k2] H K := by
  have hn := ha.n_eq
  have hn2 := hb.n_eq
  have hmx := ha.le
  refine spec_of cx_ok cx_mix rfl Tryz.func63 Tryz.call63 Tryz.ntmps63 Tryz.results63 rfl rfl ?_
  refine ⟨(fun h => absurd (nt h) (by omega)), fun _ => ?_⟩
  refine ⟨Nat, fun i => ⟨[(2, .ptr 0 0), (3, .ptr 1 0), (15, .v (.int .i64 n)), (16, .v (.int .i64 i))], [(0, .cells 98 [.v (.slice none 0 0), .v (.slice none 0 0), .v (.slice a n c)]), (1, .cells 98 [.v (.slice none 0 0), .v (.slice none 0 0), .v (.slice a2 n2 k2)])], 2⟩,
    fun i H' => H' = H ∧ i ≤ l.length, fun i => l.length - i, ⟨0, [(0, 0), (1, 1)], ?_, rfl, Nat.zero_le _⟩, ?_⟩
  · (repeat' (first | exact trivial | refine ⟨?_, ?_⟩ | exact rfl | assumption))
  rintro i H1 _ ⟨rfl, hi⟩
  refine ⟨fun h => ?_, fun h => ?_⟩
  · have hlt : i < l.length := by have := dt h; omega
    have ex := List.getElem?_eq_getElem hlt
    refine code_k ha ex fun ad q1 hh => ?_
    refine code_k hb ex fun ad2 q2 hh2 => ?_
    refine ⟨some ([], [0, 1, 2, 3, 4, 5, 6, 7, 8, 9, 10]), by kernel_rfl, ?_⟩
    refine ⟨ad, ⟨by omega, by omega, q1⟩, ?_⟩
    refine ⟨_, hh, ?_⟩
    refine ⟨ad2, ⟨by omega, by omega, q2⟩, ?_⟩
    refine ⟨_, hh2, ?_⟩
    refine ⟨(fun h => absurd h (by simp)), fun _ => ?_⟩
    refine ⟨⟨by omega, by omega⟩, i + 1, [(0, 0), (1, 1)], ?_, ⟨rfl, hlt⟩, by dsimp only; omega⟩
    (repeat' (first | exact trivial | refine ⟨?_, ?_⟩ | exact rfl | assumption))
  · refine same10_spec (x := []) (y := []) ?_ ?_ ?_
    · exact rl_nil
    · exact rl_nil
    refine ⟨fun _ => ?_, (fun h => by simp at h)⟩
    refine same10_spec (x := []) (y := []) rl_nil rl_nil ?_
    exact hK
theorem alike_spec {s : Sy3} {z y : SA} {H : Hp} {K : Value → Hp → Prop} (hz : SysR H s z) (hy : SysR H s y) (hK : K (.bool true) H) : Does Tryz.prog 22 [sysA s z, sysA s y] H K := by
  have hn := hz.t.n_eq
  have hn2 := hy.t.n_eq
  have hmx := hz.t.le
  rw [List.length_map] at hn hn2
  refine spec_of cx_ok cx_mix rfl Tryz.func22 Tryz.call22 Tryz.ntmps22 Tryz.results22 rfl rfl ?_
  refine ⟨fun _ => ?_, (fun h => by simp at h)⟩
  refine ⟨fun _ => ?_, (fun h => by simp at h)⟩
  refine ⟨fun _ => ?_, (fun h => by simp at h)⟩
  refine same_spec hz.e hy.e ?_
  refine ⟨fun _ => ?_, (fun h => by simp at h)⟩
  refine ints_spec hz.n hy.n ?_
  refine ⟨fun _ => ?_, (fun h => by simp at h)⟩
  refine same10_spec hz.i hy.i ?_
  refine ⟨fun _ => ?_, (fun h => by simp at h)⟩
  refine ⟨(fun h => absurd (nt h) (by omega)), fun _ => ?_⟩
  refine ⟨Nat, fun i => ⟨[(2, .ptr 0 0), (3, .ptr 1 0), (60, .v (.int .i64 z.tn)), (61, .v (.int .i64 i))], [(0, .cells 47 (vL (sysV s z))), (1, .cells 47 (vL (sysV s y)))], 2⟩,
    fun i H' => H' = H ∧ i ≤ s.T.length, fun i => s.T.length - i, ⟨0, [(0, 0), (1, 1)], ?_, rfl, Nat.zero_le _⟩, ?_⟩
  · (repeat' (first | exact trivial | refine ⟨?_, ?_⟩ | exact rfl | assumption))
  rintro i H1 _ ⟨rfl, hi⟩
  refine ⟨fun h => ?_, fun h => ?_⟩
  · have hlt : i < s.T.length := by have := dt h; omega
    have ex := List.getElem?_eq_getElem hlt
    refine trans_k hz.t ex fun ad a1 n1 c1 q1 hh hr => ?_
    refine trans_k hy.t ex fun ad2 a2 n2 c2 q2 hh2 hr2 => ?_
    refine ⟨some ([], [0, 1, 2, 3, 4, 5, 6, 7, 8, 9, 10, 11]), by kernel_rfl, ?_⟩
    refine ⟨ad, ⟨by omega, by omega, q1⟩, ?_⟩
    refine ⟨_, hh, ?_⟩
    refine ⟨ad2, ⟨by omega, by omega, q2⟩, ?_⟩
    refine ⟨_, hh2, ?_⟩
    refine same16_spec hr hr2 ?_
    refine ⟨(fun h => by cases h), fun _ => ?_⟩
    refine ⟨⟨by omega, by omega⟩, i + 1, [(0, 0), (1, 1)], ?_, ⟨rfl, hlt⟩, by dsimp only; omega⟩
    (repeat' (first | exact trivial | refine ⟨?_, ?_⟩ | exact rfl | assumption))
  · exact hK
end Go.Proofs
end
section
namespace Go.Proofs
open Go.Sy
set_option maxRecDepth 20000
set_option maxHeartbeats 4000000
theorem alike0_spec {H : Hp} {K : Value → Hp → Prop} (hK : K (.bool true) H) : Does Tryz.prog 22 [.agg zSys.toArray, .agg zSys.toArray] H K := by
  refine spec_of cx_ok cx_mix rfl Tryz.func22 Tryz.call22 Tryz.ntmps22 Tryz.results22 rfl rfl ?_
  refine ⟨fun _ => ?_, (fun h => by simp at h)⟩
  refine ⟨fun _ => ?_, (fun h => by simp at h)⟩
  refine ⟨fun _ => ?_, (fun h => by simp at h)⟩
  refine same_spec (l := []) (m := []) rl_nil rl_nil ?_
  refine ⟨fun _ => ?_, (fun h => by simp at h)⟩
  refine ints_spec (l := []) (m := []) rl_nil rl_nil ?_
  refine ⟨fun _ => ?_, (fun h => by simp at h)⟩
  refine same10_spec (x := []) (y := []) rl_nil rl_nil ?_
  refine ⟨fun _ => ?_, (fun h => by simp at h)⟩
  refine ⟨(fun h => absurd rfl (nt h)), fun _ => ?_⟩
  refine ⟨Nat, fun i => ⟨[(60, .v (.int .i64 (0 : Nat))), (61, .v (.int .i64 i))], [], 0⟩,
    fun i H' => H' = H ∧ i ≤ 0, fun i => 0, ⟨0, [], ?_, rfl, Nat.zero_le _⟩, ?_⟩
  · (repeat' (first | exact trivial | refine ⟨?_, ?_⟩ | exact rfl | assumption))
  rintro i H1 _ ⟨rfl, hi⟩
  refine ⟨fun h => ?_, fun h => ?_⟩
  · have := dt h; omega
  · exact hK
theorem pcodes_spec {p : Prog} (hc : cnt p < 400000) (hv : (varsOf p).length ≤ 1000000) {l : List Stmt} (hl : l.length ≤ 1000000) {a a2 : Option Addr} {n c n2 k2 : Nat} {H : Hp} {K : Value → Hp → Prop} (ha : RL H a n c p) (hb : RL H a2 n2 k2 l)
    (hK : ∀ a1 n1 c1 H', Le H H' → RL H' a1 n1 c1 (codesOf p l) → K (.slice a1 n1 c1) H') : Does Tryz.prog 20 [.agg #[.slice a n c], .slice a2 n2 k2] H K := by
  refine spec_of cx_ok cx_mix rfl Tryz.func20 Tryz.call20 Tryz.ntmps20 Tryz.results20 rfl rfl ?_
  exact codes_spec hc hv hl ha hb hK
theorem sets_spec {p : Prog} (hp : p.length ≤ 12) (hl : ∀ b ∈ p, b.2.1.length ≤ 1000000) (hc : stmtsN p ≤ 1000000) (hv : cnt p < 400000) {a : Option Addr} {n c : Nat} {H : Hp} {K : Value → Hp → Prop} (ha : RL H a n c p)
    (hbad : checkE p ≠ 0 → ∀ H', Le H H' → K (.tuple #[.slice none 0 0, .slice none 0 0, .int .i64 (checkE p)]) H')
    (hK : checkE p = 0 → ∀ a1 n1 c1 a2 n2 c2 H', Le H H' → RL H' a1 n1 c1 (solveS (sysOf p)) → RL H' a2 n2 c2 (outsS (sysOf p) (solveS (sysOf p))) → K (.tuple #[.slice a1 n1 c1, .slice a2 n2 c2, .int .i64 0]) H') :
    Does Tryz.prog 24 [.agg #[.slice a n c]] H K := by
  refine spec_of cx_ok cx_mix rfl Tryz.func24 Tryz.call24 Tryz.ntmps24 Tryz.results24 rfl rfl ?_
  refine psys_spec hp hl hc hv ha (fun he H1 hle1 => ?_) (fun he z H1 hle1 hs => ?_)
  · refine ⟨fun _ => ?_, (fun h => absurd (nf h) he)⟩
    exact hbad he _ hle1
  · have ho := sysOf_ok he
    refine ⟨(fun h => absurd rfl (nt h)), fun _ => ?_⟩
    refine lsolve_spec ho hs fun a1 n1 c1 k H2 hle2 hr2 => ?_
    refine louts_spec ho (solveS_ok ho) (hs.up hle2) hr2 fun a2 n2 c2 H3 hle3 hr3 => ?_
    exact hK he _ _ _ _ _ _ _ ((hle1.trans hle2).trans hle3) (hr2.up hle3) hr3
theorem at_spec {p : Prog} (hp : p.length ≤ 12) (hl : ∀ b ∈ p, b.2.1.length ≤ 1000000) (hc : stmtsN p ≤ 1000000) (hv : cnt p < 400000) {a : Option Addr} {n c : Nat} {i j : Int} {H : Hp} {K : Value → Hp → Prop} (ha : RL H a n c p)
    (hbad : checkE p ≠ 0 → ∀ H', Le H H' → K (.tuple #[.slice none 0 0, .int .i64 (checkE p)]) H')
    (hout : checkE p = 0 → (¬ (0 ≤ i ∧ 0 ≤ j ∧ ∃ b, p[i.toNat]? = some b ∧ i < (p.length : Nat) ∧ j ≤ (b.2.1.length : Nat))) → ∀ H', Le H H' → K (.tuple #[.slice none 0 0, .int .i64 1]) H')
    (hK : checkE p = 0 → ∀ b, p[i.toNat]? = some b → 0 ≤ i → 0 ≤ j → j ≤ (b.2.1.length : Nat) → i < (p.length : Nat) → ∀ a1 n1 c1 H', Le H H' → RL H' a1 n1 c1 (vApp (codesOf p (b.2.1.take j.toNat)) (aAt (solveS (sysOf p)) i.toNat)) → K (.tuple #[.slice a1 n1 c1, .int .i64 0]) H') :
    Does Tryz.prog 25 [.agg #[.slice a n c], .int .i64 i, .int .i64 j] H K := by
  have hn := ha.n_eq
  have hmx := ha.le
  refine spec_of cx_ok cx_mix rfl Tryz.func25 Tryz.call25 Tryz.ntmps25 Tryz.results25 rfl rfl ?_
  refine sets_spec hp hl hc hv ha (fun he H1 hle1 => ?_) (fun he a1 n1 c1 a2 n2 c2 H1 hle1 hr1 hr2 => ?_)
  · refine ⟨fun _ => ?_, (fun h => absurd (nf h) he)⟩
    exact hbad he _ hle1
  have ho := sysOf_ok he
  have hA := solveS_ok ho
  have hn1 := hr1.n_eq
  rw [hA.len] at hn1
  have hm : (sysOf p).m = p.length := rfl
  refine ⟨(fun h => absurd rfl (nt h)), fun _ => ?_⟩
  refine ⟨fun h0 => ?f0, fun h0 => ?t0⟩
  case t0 => exact hout he (fun h => absurd (dt h0) (by omega)) _ hle1
  refine ⟨fun h1 => ?f1, fun h1 => ?t1⟩
  case t1 => exact hout he (fun h => h.2.2.elim fun b hb => absurd (dt h1) (by omega)) _ hle1
  refine ⟨fun h2 => ?f2, fun h2 => ?t2⟩
  case t2 => exact hout he (fun h => absurd (dt h2) (by omega)) _ hle1
  have h0 := df h0
  have h1 := df h1
  have h2 := df h2
  have hlt : i.toNat < p.length := by omega
  refine name_k p[i.toNat] fun b hbe => ?_
  have hbb : p[i.toNat]? = some b := by rw [hbe]; exact List.getElem?_eq_getElem hlt
  have hok := check_facts he
  refine block_kI (ha.up hle1) (by omega) hbb fun ad a5 n5 c5 q1 hh hr5 hs5 ht5 => ?_
  have hn5 := hr5.n_eq
  refine ⟨ad, ⟨by omega, by omega, q1⟩, ?_⟩
  refine ⟨_, hh, ?_⟩
  refine ⟨fun h3 => ?t3, fun h3 => ?f3⟩
  case t3 =>
    refine hout he (fun h => h.2.2.elim fun b' hb' => ?_) _ hle1
    have hb := hb'.1
    rw [hbb] at hb
    cases hb
    exact absurd (dt h3) (by omega)
  have h3 := df h3
  have hAi : (solveS (sysOf p))[i.toNat]? = some (aAt (solveS (sysOf p)) i.toNat) := aAt_get hA (by rw [hm]; exact hlt)
  have hAo := aAt_ok hA (v := i.toNat) (by rw [hm]; exact hlt)
  have ei : ((i.toNat : Nat) : Int) = i := Int.toNat_of_nonneg (by omega)
  refine list_k hr1 hAi fun ad2 a6 n6 c6 q2 hh2 hr6 => ?_
  rw [ei] at hh2
  have hn6 := hr6.n_eq
  rw [hAo.1] at hn6
  refine ⟨some ([], [0, 1, 2, 3, 4, 5, 6, 7, 8, 9, 10, 11, 12, 13, 16, 17, 18, 19, 14, 15, 20, 21, 22, 23, 24]), by kernel_rfl, ?_⟩
  refine ⟨ad2, ⟨by omega, by omega, q2⟩, ?_⟩
  refine ⟨_, hh2, ?_⟩
  refine ⟨ad, ⟨by omega, by omega, q1⟩, ?_⟩
  refine ⟨_, hh, ?_⟩
  have hj0 : j.toNat ≤ n5 := by omega
  have hcut := hr5.cut (l := 0) (k := j.toNat) (Nat.zero_le _) hj0
  have hbl := hl b (by rw [hbe]; exact List.getElem_mem hlt)
  have hlt2 : ((b.2.1.take j.toNat).drop 0).length ≤ 1000000 := by rw [List.drop_zero, List.length_take]; omega
  refine ⟨⟨by omega, by omega, by have := hr5.2.1; omega⟩, ?_⟩
  refine ⟨ad2, ⟨by omega, by omega, q2⟩, ?_⟩
  refine ⟨_, hh2, ?_⟩
  refine codes_spec hv (vars_small he) hlt2 (ha.up hle1) hcut fun a7 n7 c7 H2 hle2 hr7 => ?_
  rw [List.drop_zero] at hr7
  have hr6 := hr6.up hle2
  rw [hn6] at hr6 ⊢
  refine tapply_spec (sysOf_ok he).w hAo (codesOf_ok (fun s hs => block_stmts (hok.2.2.2 b (List.mem_of_getElem? hbb)) s (List.mem_of_mem_take hs))) hr6 hr7 fun a8 n8 c8 H3 hle3 hr8 => ?_
  exact hK he b hbb (by omega) (by omega) (by omega) (by omega) _ _ _ _ ((hle1.trans hle2).trans hle3) hr8
theorem rat_spec {p : Prog} (he : checkE p = 0) (hl : ∀ b ∈ p, b.2.1.length ≤ 1000000) (hv : cnt p < 400000) {a a1 : Option Addr} {n c n1 c1 : Nat} {i j : Int} {H : Hp} {K : Value → Hp → Prop} (ha : RL H a n c p)
    {x : Wd} (hx : okW (varsOf p).length x) (hr : RL H a1 n1 c1 x) {b : Block} (hbb : p[i.toNat]? = some b) (h0 : 0 ≤ i) (h1 : i < (p.length : Nat)) (h2 : 0 ≤ j) (h3 : j ≤ (b.2.1.length : Nat))
    (hK : ∀ a1 n1 c1 H', Le H H' → RL H' a1 n1 c1 (vApp (codesOf p (b.2.1.take j.toNat)) x) → K (.slice a1 n1 c1) H') :
    Does Tryz.prog 30 [.agg #[.slice a n c], .slice a1 n1 c1, .int .i64 i, .int .i64 j] H K := by
  have hn := ha.n_eq
  have hmx := ha.le
  have hok := check_facts he
  refine spec_of cx_ok cx_mix rfl Tryz.func30 Tryz.call30 Tryz.ntmps30 Tryz.results30 rfl rfl ?_
  refine block_kI ha h0 hbb fun ad a5 n5 c5 q1 hh hr5 hs5 ht5 => ?_
  have hn5 := hr5.n_eq
  have hj0 : j.toNat ≤ n5 := by omega
  have hcut := hr5.cut (l := 0) (k := j.toNat) (Nat.zero_le _) hj0
  have hbl := hl b (List.mem_of_getElem? hbb)
  have hlt2 : ((b.2.1.take j.toNat).drop 0).length ≤ 1000000 := by rw [List.drop_zero, List.length_take]; omega
  refine ⟨some ([], [0, 1, 2, 3, 4, 5, 6, 7, 8, 11, 9, 10, 12, 13]), by kernel_rfl, ?_⟩
  refine ⟨ad, ⟨by omega, by omega, q1⟩, ?_⟩
  refine ⟨_, hh, ?_⟩
  refine ⟨⟨by omega, by omega, by have := hr5.2.1; omega⟩, ?_⟩
  refine rcodes_spec hv (vars_small he) hlt2 ha hcut fun a7 n7 c7 H2 hle2 hr7 => ?_
  rw [List.drop_zero] at hr7
  refine rapply_spec (w := (varsOf p).length) (by omega) hx (codesOf_ok (fun s hs => block_stmts (hok.2.2.2 b (List.mem_of_getElem? hbb)) s (List.mem_of_mem_take hs))) (hr.up hle2) hr7 fun a8 n8 c8 H3 hle3 hr8 => ?_
  exact hK _ _ _ _ (hle2.trans hle3) hr8
end Go.Proofs
end
section
namespace Go.Proofs
open Go.Sy
set_option maxRecDepth 20000
set_option maxHeartbeats 4000000
/-! The example, and PropSystems. -/
def stX : Stmt := (1, ⟨[120]⟩, 3, (⟨[]⟩, 2, 0), (⟨[]⟩, 3, 0))
def blX : Block := (⟨[97]⟩, [stX], (3, za, ⟨[]⟩, ⟨[]⟩))
def progX : Prog := [blX]
theorem checkE_progX : checkE progX = 0 := by decide +kernel
theorem outs_progX : outsS (sysOf progX) (solveS (sysOf progX)) = [[UInt64.ofNat (kOf (6, 0))]] := by decide +kernel
theorem stX_R : stmtR stX := ⟨⟨by decide, by decide⟩, Nat.le_of_lt_succ (by decide), ⟨by decide, by decide⟩, ⟨Nat.zero_le _, ⟨by decide, by decide⟩, ⟨by decide, by decide⟩⟩, ⟨Nat.zero_le _, ⟨by decide, by decide⟩, ⟨by decide, by decide⟩⟩⟩
theorem stmt_mk {H : Hp} {s : Stmt} (h : stmtR s) : Enc.R H (.int .i64 s.1 :: .string (bs s.2.1.l) :: .int .i64 s.2.2.1 :: (atmV s.2.2.2.1 ++ atmV s.2.2.2.2)) s :=
  ⟨[.int .i64 s.1], _, rfl, ⟨rfl, h.1⟩, [.string (bs s.2.1.l)], _, rfl, ⟨rfl, h.2.1⟩, [.int .i64 s.2.2.1], atmV s.2.2.2.1 ++ atmV s.2.2.2.2, rfl, ⟨rfl, h.2.2.1⟩, atmV s.2.2.2.1, atmV s.2.2.2.2, rfl, atm_mk h.2.2.2.1, atm_mk h.2.2.2.2⟩
theorem awake41_spec {H : Hp} {K : Value → Hp → Prop} (hK : ∀ H', Le H H' → K (.bool true) H') : Does Tryz.prog 18 [] H K := by
  refine spec_of cx_ok cx_mix rfl Tryz.func18 Tryz.call18 Tryz.ntmps18 Tryz.results18 rfl rfl ?_
  intro x H1 hle1 hx
  have hrs : RC (α := Stmt) H1 _ [stX] := RC.nil.snoc (stmt_mk stX_R)
  refine of_row_k (α := Stmt) hx hrs fun sa sn sc ex hr1 => ?_
  subst ex
  intro y H2 hle2 hy
  have hrb : RC (α := Block) H2 _ progX := RC.nil.snoc (block_mk (b := blX) (hr1.up hle2.le) (Nat.le_of_lt_succ (by decide)) ⟨⟨by decide, by decide⟩, za_R, Nat.zero_le _, Nat.zero_le _⟩)
  refine of_row_k (α := Block) hy hrb fun a n c ey hr => ?_
  subst ey
  have hle := hle1.le.trans hle2.le
  refine sets_spec (p := progX) (by decide) (by decide) (by decide) (by decide) hr (fun he => absurd checkE_progX he) (fun _ a1 n1 c1 a2 n2 c2 H3 hle3 hr3 hr4 => ?_)
  rw [outs_progX] at hr4
  have hn4 : n2 = 1 := hr4.n_eq
  refine list_k hr4 (i := 0) (x := [UInt64.ofNat (kOf (6, 0))]) rfl fun ad a5 n5 c5 q1 hh hr5 => ?_
  have hn5 : n5 = 1 := hr5.n_eq
  refine word_k hr5 (i := 0) (x := UInt64.ofNat (kOf (6, 0))) rfl fun ad2 q2 hh2 _ => ?_
  refine ⟨some ([], [0, 1, 2, 3, 4, 5, 6, 7, 8, 9, 10, 11, 12, 13, 14, 15, 16, 17]), by kernel_rfl, ?_⟩
  refine ⟨fun _ => ?_, fun h => absurd rfl (df h)⟩
  refine ⟨fun _ => ?_, fun h => absurd (by rw [hn4]; rfl) (df h)⟩
  refine ⟨ad, ⟨by omega, by omega, q1⟩, ?_⟩
  refine ⟨_, hh, ?_⟩
  refine ⟨ad2, ⟨by omega, by omega, q2⟩, ?_⟩
  refine ⟨_, hh2, ?_⟩
  refine rkof_spec (a := (6, 0)) ?_
  exact kbool (hK _ (hle.trans hle3)) (by decide +kernel)
theorem zt_R : termR (0, za, ⟨[]⟩, ⟨[]⟩) := ⟨⟨by decide, by decide⟩, za_R, Nat.zero_le _, Nat.zero_le _⟩
/-- PropSystems. -/
theorem PropSystems_spec {p : Prog} {l : List Stmt} {a b : Option Addr} {n c m k : Nat} {H : Hp} {K : Value → Hp → Prop} (ha : RL H a n c p) (hb : RL H b m k l) (hK : ∀ H', Le H H' → K (.bool true) H') : Does Tryz.prog 5 [.agg #[.slice a n c], .slice b m k] H K := by
  have hm := hb.n_eq
  refine spec_of cx_ok cx_mix rfl Tryz.func5 Tryz.call5 Tryz.ntmps5 Tryz.results5 rfl rfl ?_
  refine awake41_spec fun _ _ => ?_
  refine ⟨(fun h => by cases h), fun _ => ?_⟩
  refine small4_spec ha fun t ht => ?_
  refine ⟨fun h => ?f0, fun h => ?t0⟩
  case t0 => exact hK _ (Le.refl H)
  have hb4 := ht (by simpa using h)
  have hp := hb4.1
  have hl : ∀ b ∈ p, b.2.1.length ≤ 1000000 := fun b h => by have := (hb4.2 b h).1.1; omega
  have hc : stmtsN p ≤ 1000000 := small_stmts hb4
  have hv : cnt p < 400000 := small_cnt hb4
  intro y H1 hle1 hy
  have hrb : RC (α := Block) H1 _ [((⟨[]⟩, l, (0, za, ⟨[]⟩, ⟨[]⟩)) : Block)] := RC.nil.snoc (block_mk (b := (⟨[]⟩, l, (0, za, ⟨[]⟩, ⟨[]⟩))) (hb.up hle1.le) (Nat.zero_le _) zt_R)
  refine of_row_k (α := Block) hy hrb fun ra rn rc ey hr => ?_
  subst ey
  refine small4_spec hr fun t2 ht2 => ?_
  refine ⟨fun _ => hK _ (Le.refl H), fun h2 => ?_⟩
  have hb5 := ht2 (by simpa using h2)
  have hll : l.length ≤ 12 := (hb5.2 _ (List.mem_singleton.2 rfl)).1.1
  have hvl : (varsOf p).length ≤ 1000000 := by
    have := vars_len p []
    rw [← varsOf, List.length_nil] at this
    omega
  refine psys_spec hp hl hc hv ha (fun he H2 hle2 => ?_) (fun he z H2 hle2 hs => ?_)
  · refine ⟨some ([], [0, 1, 3, 4, 2, 5, 6, 7]), by kernel_rfl, ?_⟩
    refine pcodes_spec hv hvl (by omega) (ha.up hle2) (hb.up hle2) fun a1 n1 c1 H3 hle3 hr1 => ?_
    refine rcodes_spec hv hvl (by omega) ((ha.up hle2).up hle3) ((hb.up hle2).up hle3) fun a2 n2 c2 H4 hle4 hr2 => ?_
    have hr1 := hr1.up hle4
    have hn1 := hr1.n_eq
    have hn2 := hr2.n_eq
    have hle := (hle2.trans hle3).trans hle4
    have hmx := hr1.le
    refine ⟨(fun h => absurd (nt h) (by omega)), fun _ => ?_⟩
    refine ⟨Nat, fun i => ⟨[(2, .ptr 0 0), (5, .ptr 1 0), (6, .v (.int .i64 (checkE p))), (7, .v (.slice a1 n1 c1)), (8, .v (.slice a2 n2 c2)), (41, .v (.int .i64 n1)), (42, .v (.int .i64 i))], [(0, .cells 24 [.v (.slice a n c)]), (1, .cells 47 (vL (zSys)))], 2⟩,
      fun i H' => H' = H4 ∧ i ≤ n1, fun i => n1 - i, ⟨0, [(0, 0), (1, 2)], ?_, rfl, Nat.zero_le _⟩, ?_⟩
    · (repeat' (first | exact trivial | refine ⟨?_, ?_⟩ | exact rfl | assumption))
    rintro i H5 _ ⟨rfl, hi⟩
    refine ⟨fun h => ?_, fun h => ?_⟩
    · have hlt : i < (codesOf p l).length := by have := dt h; omega
      have ex := List.getElem?_eq_getElem hlt
      refine code_k hr1 ex fun ad q1 hh => ?_
      refine code_k hr2 ex fun ad2 q2 hh2 => ?_
      refine ⟨some ([], [0, 1, 2, 3, 4, 5, 6, 7, 8]), by kernel_rfl, ?_⟩
      refine ⟨ad, ⟨by omega, by omega, q1⟩, ?_⟩
      refine ⟨_, hh, ?_⟩
      refine ⟨ad2, ⟨by omega, by omega, q2⟩, ?_⟩
      refine ⟨_, hh2, ?_⟩
      refine ⟨(fun h => absurd h (by simp)), fun _ => ?_⟩
      refine ⟨⟨by omega, by omega⟩, i + 1, [(0, 0), (1, 1)], ?_, ⟨rfl, by omega⟩, by dsimp only; omega⟩
      (repeat' (first | exact trivial | refine ⟨?_, ?_⟩ | exact rfl | assumption))
    · refine rcheck_spec (ha.up hle) hc hv fun _ _ => ?_
      refine ⟨fun _ => ?_, fun h => absurd (nf h) he⟩
      refine ⟨fun _ => ?_, fun h => absurd rfl (df h)⟩
      refine alike0_spec ?_
      exact hK _ hle
  · refine ⟨some ([], [0, 1, 3, 4, 2, 5, 6, 7]), by kernel_rfl, ?_⟩
    refine pcodes_spec hv hvl (by omega) (ha.up hle2) (hb.up hle2) fun a1 n1 c1 H3 hle3 hr1 => ?_
    refine rcodes_spec hv hvl (by omega) ((ha.up hle2).up hle3) ((hb.up hle2).up hle3) fun a2 n2 c2 H4 hle4 hr2 => ?_
    have hr1 := hr1.up hle4
    have hn1 := hr1.n_eq
    have hn2 := hr2.n_eq
    have hle := (hle2.trans hle3).trans hle4
    have hmx := hr1.le
    refine ⟨(fun h => absurd (nt h) (by omega)), fun _ => ?_⟩
    refine ⟨Nat, fun i => ⟨[(2, .ptr 0 0), (5, .ptr 1 0), (6, .v (.int .i64 0)), (7, .v (.slice a1 n1 c1)), (8, .v (.slice a2 n2 c2)), (41, .v (.int .i64 n1)), (42, .v (.int .i64 i))], [(0, .cells 24 [.v (.slice a n c)]), (1, .cells 47 (vL (sysV (sysOf p) z)))], 2⟩,
      fun i H' => H' = H4 ∧ i ≤ n1, fun i => n1 - i, ⟨0, [(0, 0), (1, 2)], ?_, rfl, Nat.zero_le _⟩, ?_⟩
    · (repeat' (first | exact trivial | refine ⟨?_, ?_⟩ | exact rfl | assumption))
    rintro i H5 _ ⟨rfl, hi⟩
    refine ⟨fun h => ?_, fun h => ?_⟩
    · have hlt : i < (codesOf p l).length := by have := dt h; omega
      have ex := List.getElem?_eq_getElem hlt
      refine code_k hr1 ex fun ad q1 hh => ?_
      refine code_k hr2 ex fun ad2 q2 hh2 => ?_
      refine ⟨some ([], [0, 1, 2, 3, 4, 5, 6, 7, 8]), by kernel_rfl, ?_⟩
      refine ⟨ad, ⟨by omega, by omega, q1⟩, ?_⟩
      refine ⟨_, hh, ?_⟩
      refine ⟨ad2, ⟨by omega, by omega, q2⟩, ?_⟩
      refine ⟨_, hh2, ?_⟩
      refine ⟨(fun h => absurd h (by simp)), fun _ => ?_⟩
      refine ⟨⟨by omega, by omega⟩, i + 1, [(0, 0), (1, 1)], ?_, ⟨rfl, by omega⟩, by dsimp only; omega⟩
      (repeat' (first | exact trivial | refine ⟨?_, ?_⟩ | exact rfl | assumption))
    · refine rcheck_spec (ha.up hle) hc hv fun _ _ => ?_
      refine ⟨fun h => absurd he (nt h), fun _ => ?_⟩
      refine ⟨some ([], [0, 1, 2, 3, 4, 5, 6, 7, 8]), by kernel_rfl, ?_⟩
      refine ⟨fun _ => ?_, fun h => absurd rfl (df h)⟩
      refine rsys_spec hp hl hv (ha.up hle) he fun y H6 hle6 hs6 => ?_
      refine alike_spec (hs.up ((hle3.trans hle4).trans hle6)) hs6 ?_
      exact hK _ (hle.trans hle6)
end Go.Proofs
end
section
namespace Go.Proofs
open Go.Sy
set_option maxRecDepth 20000
set_option maxHeartbeats 4000000
/-! PropSets. -/
theorem outs_take {s : Sy3} {A : List Wd} {i : Nat} (hi : i < s.m) : (outsS s A).take (i + 1) = (outsS s A).take i ++ [vApp (tAt s i) (aAt A i)] := by
  have e : (outsS s A)[i]? = some (vApp (tAt s i) (aAt A i)) := by
    rw [outsS, List.getElem?_map, List.getElem?_range hi]; rfl
  rw [List.take_add_one, e, Option.toList_some]
theorem outs_len (s : Sy3) (A : List Wd) : (outsS s A).length = s.m := by simp [outsS]
theorem PropSets_spec {p : Prog} {a : Option Addr} {n c : Nat} {H : Hp} {K : Value → Hp → Prop} (ha : RL H a n c p) (i j : Int) (hK : ∀ H', Le H H' → K (.bool true) H') : Does Tryz.prog 6 [.agg #[.slice a n c], .int .i64 i, .int .i64 j] H K := by
  have hn := ha.n_eq
  have hmx := ha.le
  refine spec_of cx_ok cx_mix rfl Tryz.func6 Tryz.call6 Tryz.ntmps6 Tryz.results6 rfl rfl ?_
  refine awake41_spec fun _ _ => ?_
  refine ⟨(fun h => by cases h), fun _ => ?_⟩
  refine small4_spec ha fun t ht => ?_
  refine ⟨fun h => ?f0, fun h => ?t0⟩
  case t0 => exact hK _ (Le.refl H)
  have hb4 := ht (by simpa using h)
  have hp := hb4.1
  have hl : ∀ b ∈ p, b.2.1.length ≤ 1000000 := fun b h => by have := (hb4.2 b h).1.1; omega
  have hc : stmtsN p ≤ 1000000 := small_stmts hb4
  have hv : cnt p < 400000 := small_cnt hb4
  refine ⟨fun _ => hK _ (Le.refl H), fun _ => ?_⟩
  refine sets_spec hp hl hc hv ha (fun he H1 hle1 => ?_) (fun he a1 n1 c1 a2 n2 c2 H1 hle1 hr1 hr2 => ?_)
  · refine at_spec hp hl hc hv (ha.up hle1) (fun _ H2 hle2 => ?_) (fun he2 => absurd he2 he) (fun he2 => absurd he2 he)
    have hle := hle1.trans hle2
    refine rcheck_spec (ha.up hle) hc hv fun _ _ => ?_
    refine ⟨fun _ => ?_, fun h => absurd (nf h) he⟩
    refine ⟨fun _ => ?_, fun h => absurd rfl (df h)⟩
    refine ⟨fun _ => ?_, fun h => absurd rfl (df h)⟩
    refine ⟨⟨by decide, by decide⟩, ?_⟩
    refine ⟨⟨by decide, by decide⟩, ?_⟩
    exact kbool (hK _ hle) rfl
  · have ho := sysOf_ok he
    have hA := solveS_ok ho
    have hm : (sysOf p).m = p.length := rfl
    refine at_spec hp hl hc hv (ha.up hle1) (fun he2 => absurd he he2) (fun _ hno H2 hle2 => ?_) (fun _ b hbb h0 h1 h2 h3 a3 n3 c3 H2 hle2 hr3 => ?_)
    · have hle := hle1.trans hle2
      refine rcheck_spec (ha.up hle) hc hv fun _ _ => ?_
      refine ⟨fun h => absurd he (nt h), fun _ => ?_⟩
      refine rsys_spec hp hl hv (ha.up hle) he fun z H3 hle3 hs => ?_
      refine rleast_spec ho hs fun a4 n4 c4 H4 hle4 hr4 => ?_
      have hs := hs.up hle4
      have hn4 := hr4.n_eq
      rw [hA.len] at hn4
      have h24 := hle3.trans hle4
      refine ⟨Nat × List (List Value), fun q => ⟨[(1, .v (.int .i64 i)), (2, .v (.int .i64 j)), (3, .ptr 0 0), (7, .v (.slice a1 n1 c1)), (8, .v (.slice a2 n2 c2)), (9, .v (.int .i64 0)), (10, .v (.slice none 0 0)), (11, .v (.int .i64 1)), (13, .ptr 1 0), (14, .v (.slice a4 n4 c4)), (15, .own 2), (69, .v (.slice a4 n4 c4)), (70, .v (.int .i64 n4)), (71, .v (.int .i64 q.1))],
          [(0, .cells 24 [.v (.slice a n c)]), (1, .cells 47 (vL (sysV (sysOf p) z))), (2, .row 44 1 q.2)], 3⟩,
        fun q H' => Le H4 H' ∧ q.1 ≤ n4 ∧ RC (α := Wd) H' q.2 ((outsS (sysOf p) (solveS (sysOf p))).take q.1), fun q => n4 - q.1, ⟨(0, []), [(0, 0), (1, 1)], ?_, Le.refl _, Nat.zero_le _, RC.nil⟩, ?_⟩
      · (repeat' (first | exact trivial | refine ⟨?_, ?_⟩ | exact rfl | assumption))
      rintro ⟨k, css⟩ H5 _ ⟨hle5, hk, hrc⟩
      dsimp only at hk hrc
      have hcl : css.length = k := by have h1 := hrc.1; rw [List.length_take, outs_len] at h1; omega
      refine ⟨fun h => ?_, fun h => ?_⟩
      · have hlt : k < (sysOf p).m := by have := dt h; dsimp only at this; omega
        refine list_k (hr4.up hle5) (aAt_get hA hlt) fun ad a5 n5 c5 q1 hh hr5 => ?_
        refine ⟨ad, ⟨by dsimp only; omega, by dsimp only; omega, q1⟩, ?_⟩
        refine ⟨_, hh, ?_⟩
        refine rout_spec ho (v := (k : Nat)) ⟨by omega, by omega⟩ (aAt_ok hA hlt) (hs.up hle5) hr5 fun a6 n6 c6 H6 hle6 hr6 => ?_
        refine ⟨⟨by show (css.length + 1) * 24 ≤ 140737488355328; omega, by show css.length + 1 ≤ 9223372036854775807; omega⟩, ?_⟩
        have hrc2 : RC (α := Wd) H6 (css ++ [[.slice a6 n6 c6]]) ((outsS (sysOf p) (solveS (sysOf p))).take (k + 1)) := by
          rw [outs_take hlt]; exact wd_snoc (RC.up hrc hle6) hr6
        refine ⟨⟨by dsimp only; omega, by dsimp only; omega⟩, (k + 1, css ++ [[.slice a6 n6 c6]]), [(0, 0), (1, 1), (2, 4)], ?_, ⟨hle5.trans hle6, by dsimp only; omega, hrc2⟩, by dsimp only; omega⟩
        (repeat' (first | exact trivial | refine ⟨?_, ?_⟩ | exact rfl | assumption))
      have hkl : k = n4 := by have := df h; dsimp only at this; omega
      rw [hkl, List.take_of_length_le (by rw [outs_len]; omega)] at hrc
      refine ⟨fun _ => ?_, (fun h => absurd rfl (nt h))⟩
      have h25 := h24.trans hle5
      refine same17_spec (hr1.up (hle2.trans h25)) (hr4.up hle5) ?_
      refine ⟨fun _ => ?_, (fun h => by simp at h)⟩
      intro v H6 hle6 hv6
      refine of_row_k (α := Wd) hv6 (RC.up hrc hle6.le) fun a7 n7 c7 ev hr7 => ?_
      subst ev
      have h26 := h25.trans hle6.le
      have hle := hle.trans h25
      refine same17_spec (hr2.up (hle2.trans h26)) hr7 ?_
      refine ⟨(fun h => by simp at h), fun _ => ?_⟩
      refine ⟨fun h0 => ?g0, fun h0 => ?u0⟩
      case u0 =>
        refine ⟨fun _ => ?_, fun h => absurd rfl (df h)⟩
        exact kbool (hK _ hle) rfl
      have h0 := df h0
      refine ⟨fun h1 => ?g1, fun h1 => ?u1⟩
      case u1 =>
        refine ⟨fun _ => ?_, fun h => absurd rfl (df h)⟩
        exact kbool (hK _ hle) rfl
      have h1 := df h1
      refine ⟨fun h2 => ?g2, fun h2 => ?u2⟩
      case u2 =>
        refine ⟨fun _ => ?_, fun h => absurd rfl (df h)⟩
        exact kbool (hK _ hle) rfl
      have h2 := df h2
      have hlt : i.toNat < p.length := by omega
      refine name_k p[i.toNat] fun b hbe => ?_
      have hbb : p[i.toNat]? = some b := by rw [hbe]; exact List.getElem?_eq_getElem hlt
      refine block_kI (ha.up hle) (by omega) hbb fun ad a8 n8 c8 q1 hh hr8 hs8 ht8 => ?_
      have hn8 := hr8.n_eq
      refine ⟨ad, ⟨by omega, by omega, q1⟩, ?_⟩
      refine ⟨_, hh, ?_⟩
      refine ⟨fun h3 => ?_, fun h3 => ?_⟩
      · refine ⟨fun _ => ?_, fun h => absurd rfl (df h)⟩
        exact kbool (hK _ hle) rfl
      · exact absurd ⟨by omega, by omega, b, hbb, by omega, by have := df h3; omega⟩ hno
    · have hle := hle1.trans hle2
      refine rcheck_spec (ha.up hle) hc hv fun _ _ => ?_
      refine ⟨fun h => absurd he (nt h), fun _ => ?_⟩
      refine rsys_spec hp hl hv (ha.up hle) he fun z H3 hle3 hs => ?_
      refine rleast_spec ho hs fun a4 n4 c4 H4 hle4 hr4 => ?_
      have hs := hs.up hle4
      have hn4 := hr4.n_eq
      rw [hA.len] at hn4
      have h24 := hle3.trans hle4
      refine ⟨Nat × List (List Value), fun q => ⟨[(1, .v (.int .i64 i)), (2, .v (.int .i64 j)), (3, .ptr 0 0), (7, .v (.slice a1 n1 c1)), (8, .v (.slice a2 n2 c2)), (9, .v (.int .i64 0)), (10, .v (.slice a3 n3 c3)), (11, .v (.int .i64 0)), (13, .ptr 1 0), (14, .v (.slice a4 n4 c4)), (15, .own 2), (69, .v (.slice a4 n4 c4)), (70, .v (.int .i64 n4)), (71, .v (.int .i64 q.1))],
          [(0, .cells 24 [.v (.slice a n c)]), (1, .cells 47 (vL (sysV (sysOf p) z))), (2, .row 44 1 q.2)], 3⟩,
        fun q H' => Le H4 H' ∧ q.1 ≤ n4 ∧ RC (α := Wd) H' q.2 ((outsS (sysOf p) (solveS (sysOf p))).take q.1), fun q => n4 - q.1, ⟨(0, []), [(0, 0), (1, 1)], ?_, Le.refl _, Nat.zero_le _, RC.nil⟩, ?_⟩
      · (repeat' (first | exact trivial | refine ⟨?_, ?_⟩ | exact rfl | assumption))
      rintro ⟨k, css⟩ H5 _ ⟨hle5, hk, hrc⟩
      dsimp only at hk hrc
      have hcl : css.length = k := by have h1 := hrc.1; rw [List.length_take, outs_len] at h1; omega
      refine ⟨fun h => ?_, fun h => ?_⟩
      · have hlt : k < (sysOf p).m := by have := dt h; dsimp only at this; omega
        refine list_k (hr4.up hle5) (aAt_get hA hlt) fun ad a5 n5 c5 q1 hh hr5 => ?_
        refine ⟨ad, ⟨by dsimp only; omega, by dsimp only; omega, q1⟩, ?_⟩
        refine ⟨_, hh, ?_⟩
        refine rout_spec ho (v := (k : Nat)) ⟨by omega, by omega⟩ (aAt_ok hA hlt) (hs.up hle5) hr5 fun a6 n6 c6 H6 hle6 hr6 => ?_
        refine ⟨⟨by show (css.length + 1) * 24 ≤ 140737488355328; omega, by show css.length + 1 ≤ 9223372036854775807; omega⟩, ?_⟩
        have hrc2 : RC (α := Wd) H6 (css ++ [[.slice a6 n6 c6]]) ((outsS (sysOf p) (solveS (sysOf p))).take (k + 1)) := by
          rw [outs_take hlt]; exact wd_snoc (RC.up hrc hle6) hr6
        refine ⟨⟨by dsimp only; omega, by dsimp only; omega⟩, (k + 1, css ++ [[.slice a6 n6 c6]]), [(0, 0), (1, 1), (2, 4)], ?_, ⟨hle5.trans hle6, by dsimp only; omega, hrc2⟩, by dsimp only; omega⟩
        (repeat' (first | exact trivial | refine ⟨?_, ?_⟩ | exact rfl | assumption))
      have hkl : k = n4 := by have := df h; dsimp only at this; omega
      rw [hkl, List.take_of_length_le (by rw [outs_len]; omega)] at hrc
      refine ⟨fun _ => ?_, (fun h => absurd rfl (nt h))⟩
      have h25 := h24.trans hle5
      refine same17_spec (hr1.up (hle2.trans h25)) (hr4.up hle5) ?_
      refine ⟨fun _ => ?_, (fun h => by simp at h)⟩
      intro v H6 hle6 hv6
      refine of_row_k (α := Wd) hv6 (RC.up hrc hle6.le) fun a7 n7 c7 ev hr7 => ?_
      subst ev
      have h26 := h25.trans hle6.le
      have hle := hle.trans h25
      refine same17_spec (hr2.up (hle2.trans h26)) hr7 ?_
      refine ⟨(fun h => by simp at h), fun _ => ?_⟩
      refine ⟨fun _ => ?_, fun h => absurd (dt h) (by omega)⟩
      refine ⟨fun _ => ?_, fun h => absurd (dt h) (by omega)⟩
      refine ⟨fun _ => ?_, fun h => absurd (dt h) (by omega)⟩
      refine block_kI (ha.up hle) (by omega) hbb fun ad a8 n8 c8 q1 hh hr8 hs8 ht8 => ?_
      have hn8 := hr8.n_eq
      refine ⟨ad, ⟨by omega, by omega, q1⟩, ?_⟩
      refine ⟨_, hh, ?_⟩
      refine ⟨fun h => absurd (dt h) (by omega), fun _ => ?_⟩
      refine ⟨some ([], [0, 1, 2, 3, 4, 5, 6, 7, 8, 9, 10, 11, 12, 13, 14]), by kernel_rfl, ?_⟩
      refine ⟨fun _ => ?_, fun h => absurd rfl (df h)⟩
      have hlt : i.toNat < (sysOf p).m := by omega
      have ei : ((i.toNat : Nat) : Int) = i := Int.toNat_of_nonneg (by omega)
      refine list_k (hr4.up hle5) (aAt_get hA hlt) fun ad2 a6 n6 c6 q2 hh2 hr6 => ?_
      rw [ei] at hh2
      refine ⟨ad2, ⟨by omega, by omega, q2⟩, ?_⟩
      refine ⟨_, hh2, ?_⟩
      refine rat_spec he hl hv (ha.up hle) (aAt_ok hA hlt) hr6 hbb (by omega) (by omega) (by omega) (by omega) fun a9 n9 c9 H7 hle7 hr9 => ?_
      refine same10_spec (hr3.up (h25.trans hle7)) hr9 ?_
      exact kbool (hK _ (hle.trans hle7)) (by simp)
end Go.Proofs
end
