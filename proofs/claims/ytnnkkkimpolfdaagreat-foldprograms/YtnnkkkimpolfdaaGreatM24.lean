/- Part 'M24' of the proof (W10, W11, W12, W13, W14, W15, Fo0, W16, Fo1, Fo2, Fo3, Fo4, Fo5, Fo5b, Fo6, Fo7): lemmas, each with its own conditions in its own statement. -/
import Derived.Test.YtnnkkkimpolfdaaGreatM10
import Derived.Test.YtnnkkkimpolfdaaGreatM17
import Derived.Test.YtnnkkkimpolfdaaGreatM21
import Derived.Test.YtnnkkkimpolfdaaGreatM22
import Derived.Test.YtnnkkkimpolfdaaGreatM23
section
namespace Go.Proofs
open Go.Sy
set_option maxRecDepth 20000
set_option maxHeartbeats 4000000
/-! The document's way to a solution. -/
theorem same10_spec {x y : Wd} {a a2 : Option Addr} {n c n2 k2 : Nat} {H : Hp} {K : Value → Hp → Prop} (ha : RL H a n c x) (hb : RL H a2 n2 k2 y) (hK : K (.bool (decide (x = y))) H) : Does Tryz.prog 29 [.slice a n c, .slice a2 n2 k2] H K := by
  have hn := ha.n_eq
  have hn2 := hb.n_eq
  have hmx := ha.le
  refine spec_of cx_ok cx_mix rfl Tryz.func29 Tryz.call29 Tryz.ntmps29 Tryz.results29 rfl rfl ?_
  refine ⟨fun h => ?_, fun h => ?_⟩
  · have h1 : ¬ n = n2 := by have := nt h; omega
    exact kbool hK (decide_eq_false (fun e => h1 (by rw [hn, hn2, e])))
  · have h1 : n = n2 := by have := nf h; omega
    refine ⟨Nat, fun i => ⟨[(0, .v (.slice a n c)), (1, .v (.slice a2 n2 k2)), (11, .v (.slice a n c)), (12, .v (.int .i64 n)), (13, .v (.int .i64 i))], [], 0⟩,
      fun i H' => H' = H ∧ i ≤ x.length ∧ ∀ j < i, x[j]? = y[j]?, fun i => x.length - i, ⟨0, [], ?_, rfl, Nat.zero_le _, fun j hj => (by cases hj)⟩, ?_⟩
    · (repeat' (first | exact trivial | refine ⟨?_, ?_⟩ | exact rfl | assumption))
    rintro i H1 _ ⟨rfl, hi, hx⟩
    refine ⟨fun h => ?_, fun h => ?_⟩
    · have hlt : i < x.length := by have := dt h; omega
      have hlt2 : i < y.length := by omega
      have ex := List.getElem?_eq_getElem hlt
      have ey := List.getElem?_eq_getElem hlt2
      refine word_k ha ex fun ad q1 hh _ => ?_
      refine word_k hb ey fun ad2 q2 hh2 _ => ?_
      refine ⟨some ([], [0, 1, 2, 3, 4, 5, 6, 7, 8]), by kernel_rfl, ?_⟩
      refine ⟨ad, ⟨by omega, by omega, q1⟩, ?_⟩
      refine ⟨_, hh, ?_⟩
      refine ⟨ad2, ⟨by omega, by omega, q2⟩, ?_⟩
      refine ⟨_, hh2, ?_⟩
      refine ⟨fun h => ?_, fun h => ?_⟩
      · have hne : ¬ x[i].toNat = y[i].toNat := by have := nt h; omega
        exact kbool hK (decide_eq_false (fun e => hne (by subst e; rfl)))
      · have heq : x[i] = y[i] := UInt64.toNat_inj.1 (by have := nf h; omega)
        refine ⟨⟨by omega, by omega⟩, i + 1, [], ?_, ⟨rfl, hlt, fun j hj => ?_⟩, by dsimp only; omega⟩
        · (repeat' (first | exact trivial | refine ⟨?_, ?_⟩ | exact rfl | assumption))
        · rcases Nat.lt_succ_iff_lt_or_eq.1 hj with h | h
          · exact hx j h
          · rw [h, ex, ey, heq]
    · have hil : i = x.length := by have := df h; omega
      exact kbool hK (decide_eq_true (list_eq_take (by omega) (fun j hj => hx j (by omega))))
theorem same17_spec {A B : List Wd} {a a2 : Option Addr} {n c n2 k2 : Nat} {H : Hp} {K : Value → Hp → Prop} (ha : RL H a n c A) (hb : RL H a2 n2 k2 B) (hK : K (.bool (decide (A = B))) H) : Does Tryz.prog 28 [.slice a n c, .slice a2 n2 k2] H K := by
  have hn := ha.n_eq
  have hn2 := hb.n_eq
  have hmx := ha.le
  refine spec_of cx_ok cx_mix rfl Tryz.func28 Tryz.call28 Tryz.ntmps28 Tryz.results28 rfl rfl ?_
  refine ⟨fun h => ?_, fun h => ?_⟩
  · have h1 : ¬ n = n2 := by have := nt h; omega
    exact kbool hK (decide_eq_false (fun e => h1 (by rw [hn, hn2, e])))
  · have h1 : n = n2 := by have := nf h; omega
    refine ⟨Nat, fun i => ⟨[(0, .v (.slice a n c)), (1, .v (.slice a2 n2 k2)), (11, .v (.slice a n c)), (12, .v (.int .i64 n)), (13, .v (.int .i64 i))], [], 0⟩,
      fun i H' => H' = H ∧ i ≤ A.length ∧ ∀ j < i, A[j]? = B[j]?, fun i => A.length - i, ⟨0, [], ?_, rfl, Nat.zero_le _, fun j hj => (by cases hj)⟩, ?_⟩
    · (repeat' (first | exact trivial | refine ⟨?_, ?_⟩ | exact rfl | assumption))
    rintro i H1 _ ⟨rfl, hi, hx⟩
    refine ⟨fun h => ?_, fun h => ?_⟩
    · have hlt : i < A.length := by have := dt h; omega
      have hlt2 : i < B.length := by omega
      have ex := List.getElem?_eq_getElem hlt
      have ey := List.getElem?_eq_getElem hlt2
      refine list_k ha ex fun ad a5 n5 c5 q1 hh hr1 => ?_
      refine list_k hb ey fun ad2 a6 n6 c6 q2 hh2 hr2 => ?_
      refine ⟨some ([], [0, 1, 2, 3, 4, 5, 6, 7, 8, 9]), by kernel_rfl, ?_⟩
      refine ⟨ad, ⟨by omega, by omega, q1⟩, ?_⟩
      refine ⟨_, hh, ?_⟩
      refine ⟨ad2, ⟨by omega, by omega, q2⟩, ?_⟩
      refine ⟨_, hh2, ?_⟩
      refine same10_spec hr1 hr2 ?_
      refine ⟨fun h => ?_, fun h => ?_⟩
      · have hne : ¬ A[i] = B[i] := nt h
        exact kbool hK (decide_eq_false (fun e => hne (by subst e; rfl)))
      · have heq : A[i] = B[i] := nf h
        refine ⟨⟨by omega, by omega⟩, i + 1, [], ?_, ⟨rfl, hlt, fun j hj => ?_⟩, by dsimp only; omega⟩
        · (repeat' (first | exact trivial | refine ⟨?_, ?_⟩ | exact rfl | assumption))
        · rcases Nat.lt_succ_iff_lt_or_eq.1 hj with h | h
          · exact hx j h
          · rw [h, ex, ey, heq]
    · have hil : i = A.length := by have := df h; omega
      exact kbool hK (decide_eq_true (list_eq_take (by omega) (fun j hj => hx j (by omega))))
theorem renough_spec {s : Sy3} {z : SA} (ho : OkS s) {H : Hp} {K : Value → Hp → Prop} (hK : K (.int .i64 (enoughS s : Nat)) H) : Does Tryz.prog 68 [sysA s z] H K := by
  have hE := enoughS_le ho
  have ee : ((s.m : Int)) * ((2 * s.w : Nat) : Int) = ((s.m * (2 * s.w) : Nat) : Int) := by push_cast; rfl
  refine spec_of cx_ok cx_mix rfl Tryz.func68 Tryz.call68 Tryz.ntmps68 Tryz.results68 rfl rfl ?_
  refine ⟨some ([], [0, 1, 2, 3, 4, 5, 6, 7, 8, 9]), by kernel_rfl, ?_⟩
  refine rheight_spec ho.w ?_
  unfold enoughS at hE
  refine ⟨⟨by rw [ee]; omega, by rw [ee]; omega⟩, ?_⟩
  refine ⟨⟨by rw [ee]; omega, by rw [ee]; omega⟩, ?_⟩
  exact kint hK (by rw [ee, enoughS]; push_cast; rfl)
theorem rout_spec {s : Sy3} {z : SA} (ho : OkS s) {v : Int} (hv : 0 ≤ v ∧ v < (s.m : Nat)) {x : Wd} (hx : okW s.w x) {a : Option Addr} {n c : Nat} {H : Hp} {K : Value → Hp → Prop} (hs : SysR H s z) (ha : RL H a n c x) (hK : ∀ a1 n1 c1 H', Le H H' → RL H' a1 n1 c1 (vApp (tAt s v.toNat) x) → K (.slice a1 n1 c1) H') :
    Does Tryz.prog 27 [sysA s z, .int .i64 v, .slice a n c] H K := by
  have htn := hs.t.n_eq
  rw [List.length_map, ho.Tl] at htn
  refine spec_of cx_ok cx_mix rfl Tryz.func27 Tryz.call27 Tryz.ntmps27 Tryz.results27 rfl rfl ?_
  refine trans_k hs.t (tAt_get ho (v := v.toNat) (by omega)) fun ad a1 n1 c1 e1 hh hr1 => ?_
  rw [Int.toNat_of_nonneg hv.1] at hh
  refine ⟨some ([], [0, 1, 2, 3, 4, 5, 6, 7, 8, 9]), by kernel_rfl, ?_⟩
  refine ⟨ad, ⟨by omega, by omega, e1⟩, ?_⟩
  refine ⟨_, hh, ?_⟩
  refine rapply_spec ho.w hx (tAt_ok ho v.toNat) ha hr1 fun a2 n2 c2 H2 hle2 hr2 => ?_
  exact hK _ _ _ _ hle2 hr2
theorem rstart_spec {s : Sy3} {z : SA} (ho : OkS s) {v : Nat} {H : Hp} {K : Value → Hp → Prop} (hs : SysR H s z) (hK : ∀ a1 n1 c1 H', Le H H' → RL H' a1 n1 c1 (vStart s v) → K (.slice a1 n1 c1) H') : Does Tryz.prog 179 [sysA s z, .int .i64 (v : Nat)] H K := by
  have hi := ho.ini.1
  have hw := ho.w
  refine spec_of cx_ok cx_mix rfl Tryz.func179 Tryz.call179 Tryz.ntmps179 Tryz.results179 rfl rfl ?_
  refine in_spec hs.n ?_
  refine ⟨fun h => ?_, fun h => ?_⟩
  · have hm : (v : Int) ∈ s.ent := dt h
    have e : vStart s v = s.ini := if_pos hm
    rw [e] at hK
    obtain ⟨css, hrow, hrc⟩ := hs.i.row
    have hcl : css.length = s.ini.length := hrc.1
    refine ⟨css, hrow, ?_⟩
    refine ⟨⟨by show (0 + css.length) * 8 ≤ 140737488355328; omega, by show 0 + css.length ≤ 9223372036854775807; omega⟩, ?_⟩
    intro y H1 hle1 hy
    obtain ⟨a1, n1, c1, rfl, hr⟩ := RL.of_row (α := UInt64) hy (RC.up hrc hle1.le)
    exact hK _ _ _ _ hle1.le hr
  · have hm : ¬ (v : Int) ∈ s.ent := df h
    have e : vStart s v = vBot s.w := if_neg hm
    rw [e] at hK
    exact rbot_spec hw hK
theorem wd_snoc {H : Hp} {css : List (List Value)} {A : List Wd} (h : RC (α := Wd) H css A) {a : Option Addr} {n c : Nat} {x : Wd} (hx : RL H a n c x) : RC (α := Wd) H (css ++ [[.slice a n c]]) (A ++ [x]) :=
  RC.snoc h (show Enc.R (α := Wd) H [.slice a n c] x from ⟨a, n, c, rfl, hx⟩)
theorem rbottom_spec {s : Sy3} {z : SA} (ho : OkS s) {H : Hp} {K : Value → Hp → Prop} (hK : ∀ a1 n1 c1 H', Le H H' → RL H' a1 n1 c1 (bots s) → K (.slice a1 n1 c1) H') : Does Tryz.prog 118 [sysA s z] H K := by
  have hm := ho.m
  have hw := ho.w
  refine spec_of cx_ok cx_mix rfl Tryz.func118 Tryz.call118 Tryz.ntmps118 Tryz.results118 rfl rfl ?_
  refine ⟨Nat × List (List Value), fun q => ⟨[(1, .ptr 0 0), (3, .own 1), (4, .v (.int .i64 q.1))], [(0, .cells 47 (vL (sysV s z))), (1, .row 44 1 q.2)], 2⟩,
    fun q H' => Le H H' ∧ q.1 ≤ s.m ∧ RC (α := Wd) H' q.2 (List.replicate q.1 (vBot s.w)), fun q => s.m - q.1, ⟨(0, []), [(0, 0)], ?_, Le.refl H, Nat.zero_le _, RC.nil⟩, ?_⟩
  · (repeat' (first | exact trivial | refine ⟨?_, ?_⟩ | exact rfl | assumption))
  rintro ⟨i, css⟩ H1 _ ⟨hle1, hi, hrc⟩
  dsimp only at hi hrc
  have hcl : css.length = i := by have h1 := hrc.1; simpa using h1
  refine ⟨fun h => ?_, fun h => ?_⟩
  · have hlt : i < s.m := by have := dt h; dsimp only at this; omega
    refine rbot_spec hw fun a1 n1 c1 H2 hle2 hr1 => ?_
    refine ⟨⟨by show (css.length + 1) * 24 ≤ 140737488355328; omega, by show css.length + 1 ≤ 9223372036854775807; omega⟩, ?_⟩
    have hrc2 : RC (α := Wd) H2 (css ++ [[.slice a1 n1 c1]]) (List.replicate (i + 1) (vBot s.w)) := by
      rw [List.replicate_succ']; exact wd_snoc (RC.up hrc hle2) hr1
    refine ⟨⟨by dsimp only; omega, by dsimp only; omega⟩, (i + 1, css ++ [[.slice a1 n1 c1]]), [(0, 0), (1, 3)], ?_, ⟨hle1.trans hle2, hlt, hrc2⟩, by dsimp only; omega⟩
    (repeat' (first | exact trivial | refine ⟨?_, ?_⟩ | exact rfl | assumption))
  · have hil : i = s.m := by have := df h; dsimp only at this; omega
    rw [hil] at hrc
    intro v H6 hle6 hv6
    obtain ⟨a7, n7, c7, rfl, hr7⟩ := RL.of_row (α := Wd) hv6 (RC.up hrc hle6.le)
    exact hK _ _ _ _ (hle1.trans hle6.le) hr7
def joinE (s : Sy3) (A : List Wd) (v : Nat) (x : Wd) (e : Edg) : Wd := if e.2 = (v : Int) then vJoin x (appE s A e) else x
def stepR (s : Sy3) (A : List Wd) : List Wd := (List.range s.m).map fun v => s.E.foldl (joinE s A v) (vStart s v)
theorem fold_at {s : Sy3} {A : List Wd} {v : Nat} : ∀ (l : List Edg) (L : List Wd), v < L.length → (∀ e ∈ l, 0 ≤ e.2 ∧ e.2 < (L.length : Nat)) → (l.foldl (stepE s A) L)[v]? = some (l.foldl (joinE s A v) (aAt L v))
  | [], L, h, _ => by rw [List.foldl_nil, List.foldl_nil, aAt, List.getElem?_eq_getElem h]; rfl
  | e :: r, L, h, he => by
    have h1 := he e List.mem_cons_self
    have hl : (stepE s A L e).length = L.length := by rw [stepE, List.length_set]
    rw [List.foldl_cons, List.foldl_cons, fold_at r (stepE s A L e) (by rw [hl]; exact h) (fun e' he' => by rw [hl]; exact he e' (List.mem_cons_of_mem _ he'))]
    congr 2
    rw [joinE]
    by_cases hv : e.2 = (v : Int)
    · have hv2 : e.2.toNat = v := by omega
      rw [if_pos hv, stepE, hv2, aAt, List.getElem?_set_self h]; rfl
    · have hv2 : e.2.toNat ≠ v := by omega
      rw [if_neg hv, stepE, aAt, List.getElem?_set_ne hv2]; rfl
theorem stepR_eq {s : Sy3} (ho : OkS s) (A : List Wd) : stepR s A = stepS s A := by
  have hsl : (starts s).length = s.m := by simp [starts]
  have hfl : ∀ (l : List Edg) (L : List Wd), (l.foldl (stepE s A) L).length = L.length := by
    intro l
    induction l with
    | nil => exact fun _ => rfl
    | cons e r ih => intro L; rw [List.foldl_cons, ih, stepE, List.length_set]
  apply List.ext_getElem?
  intro v
  by_cases hv : v < s.m
  · rw [stepS, fold_at s.E (starts s) (by omega) (fun e he => by rw [hsl]; exact (ho.En e he).2), stepR, List.getElem?_map, List.getElem?_range hv]
    have : aAt (starts s) v = vStart s v := by rw [aAt, starts, List.getElem?_map, List.getElem?_range hv]; rfl
    rw [this]; rfl
  · rw [List.getElem?_eq_none (by simp [stepR]; omega), List.getElem?_eq_none (by rw [stepS, hfl, hsl]; omega)]
theorem joinE_ok {s : Sy3} {A : List Wd} (hA : OkA s A) {v : Nat} : ∀ (l : List Edg) {x : Wd}, (∀ e ∈ l, 0 ≤ e.1 ∧ e.1 < (s.m : Nat)) → okW s.w x → okW s.w (l.foldl (joinE s A v) x)
  | [], _, _, h => h
  | e :: r, x, hl, h => by
    refine joinE_ok hA r (x := joinE s A v x e) (fun e he => hl e (List.mem_cons_of_mem _ he)) ?_
    unfold joinE
    split
    · exact vJoin_ok h (appE_ok hA (hl e List.mem_cons_self))
    · exact h
theorem rstep_spec {s : Sy3} {z : SA} (ho : OkS s) {A : List Wd} (hA : OkA s A) {a : Option Addr} {n c : Nat} {H : Hp} {K : Value → Hp → Prop} (hs : SysR H s z) (ha : RL H a n c A) (hK : ∀ a1 n1 c1 H', Le H H' → RL H' a1 n1 c1 (stepS s A) → K (.slice a1 n1 c1) H') :
    Does Tryz.prog 119 [sysA s z, .slice a n c] H K := by
  have hm := ho.m
  have hw := ho.w
  have hne := hs.e.n_eq
  have hnx := hs.e.le
  have hna := ha.n_eq
  have hal := hA.len
  rw [← stepR_eq ho] at hK
  refine spec_of cx_ok cx_mix rfl Tryz.func119 Tryz.call119 Tryz.ntmps119 Tryz.results119 rfl rfl ?_
  refine ⟨Nat × List (List Value), fun q => ⟨[(1, .v (.slice a n c)), (2, .ptr 0 0), (5, .own 1), (6, .v (.int .i64 q.1))], [(0, .cells 47 (vL (sysV s z))), (1, .row 44 1 q.2)], 2⟩,
    fun q H' => Le H H' ∧ q.1 ≤ s.m ∧ RC (α := Wd) H' q.2 ((stepR s A).take q.1), fun q => s.m - q.1, ⟨(0, []), [(0, 0)], ?_, Le.refl H, Nat.zero_le _, RC.nil⟩, ?_⟩
  · (repeat' (first | exact trivial | refine ⟨?_, ?_⟩ | exact rfl | assumption))
  rintro ⟨i, css⟩ H1 _ ⟨hle1, hi, hrc⟩
  dsimp only at hi hrc
  have hrl : (stepR s A).length = s.m := by simp [stepR]
  have hcl : css.length = i := by have h1 := hrc.1; rw [List.length_take] at h1; omega
  refine ⟨fun h => ?_, fun h => ?_⟩
  · have hlt : i < s.m := by have := dt h; dsimp only at this; omega
    have hst : (stepR s A).take (i + 1) = (stepR s A).take i ++ [s.E.foldl (joinE s A i) (vStart s i)] := by
      rw [List.take_add_one, stepR, List.getElem?_map, List.getElem?_range hlt]; rfl
    refine rstart_spec (s := s) (z := z) ho (hs.up hle1) fun a1 n1 c1 H2 hle2 hr1 => ?_
    refine ⟨Nat × Wd × (Option Addr × Nat × Nat), fun q => ⟨[(1, .v (.slice a n c)), (2, .ptr 0 0), (5, .own 1), (6, .v (.int .i64 (i : Nat))), (7, .v (.slice q.2.2.1 q.2.2.2.1 q.2.2.2.2)), (20, .v (.slice z.ea z.en z.ec)), (21, .v (.int .i64 z.en)), (22, .v (.int .i64 q.1))], [(0, .cells 47 (vL (sysV s z))), (1, .row 44 1 css)], 2⟩,
      fun q H' => Le H2 H' ∧ q.1 ≤ s.E.length ∧ RL H' q.2.2.1 q.2.2.2.1 q.2.2.2.2 q.2.1 ∧ q.2.1 = (s.E.take q.1).foldl (joinE s A i) (vStart s i), fun q => s.E.length - q.1, ⟨(0, vStart s i, (a1, n1, c1)), [(0, 0), (1, 1)], ?_, Le.refl H2, Nat.zero_le _, hr1, rfl⟩, ?_⟩
    · (repeat' (first | exact trivial | refine ⟨?_, ?_⟩ | exact rfl | assumption))
    rintro ⟨j, x, a2, n2, c2⟩ H3 _ ⟨hle3, hj, hr2, hx⟩
    dsimp only at hj hr2 hx
    have hxo : okW s.w x := by rw [hx]; exact joinE_ok hA _ (fun e he => (ho.En e (List.mem_of_mem_take he)).1) (vStart_ok ho i)
    have hle := (hle1.trans hle2).trans hle3
    refine ⟨fun h => ?_, fun h => ?_⟩
    · have hjl : j < s.E.length := by have := dt h; dsimp only at this; omega
      refine name_k s.E[j] fun e hee => ?_
      have hee2 : s.E[j]? = some e := by rw [hee]; exact List.getElem?_eq_getElem hjl
      have hen := ho.En e (by rw [hee]; exact List.getElem_mem hjl)
      have hst2 : (s.E.take (j + 1)).foldl (joinE s A i) (vStart s i) = joinE s A i x e := by
        rw [hx, List.take_add_one, hee2, Option.toList_some, List.foldl_append]; rfl
      refine edge_k (hs.up hle).e hee2 fun ad q1 hh => ?_
      refine ⟨ad, ⟨by dsimp only; omega, by dsimp only; omega, q1⟩, ?_⟩
      refine ⟨_, hh, ?_⟩
      refine ⟨fun h => ?_, fun h => ?_⟩
      · have he2 : e.2 = (i : Int) := dt h
        have e1n : e.1.toNat < s.m := by omega
        have ei1 : ((e.1.toNat : Nat) : Int) = e.1 := Int.toNat_of_nonneg hen.1.1
        refine list_k (ha.up hle) (aAt_get hA e1n) fun ad3 a3 n3 c3 q3 hh3 hr3 => ?_
        rw [ei1] at hh3
        refine ⟨some ([], [0, 1, 2, 3, 4, 5, 6, 7, 8, 9, 10, 11, 12, 13]), by kernel_rfl, ?_⟩
        refine ⟨ad3, ⟨by omega, by omega, q3⟩, ?_⟩
        refine ⟨_, hh3, ?_⟩
        refine rout_spec (s := s) (z := z) ho hen.1 (aAt_ok hA e1n) (hs.up hle) hr3 fun a4 n4 c4 H4 hle4 hr4 => ?_
        refine rjoinv_spec hw hxo (appE_ok hA hen.1) (hr2.up hle4) hr4 fun a5 n5 c5 H5 hle5 hr5 => ?_
        refine ⟨⟨by omega, by omega⟩, (j + 1, joinE s A i x e, (a5, n5, c5)), [(0, 0), (1, 1)], ?_, ⟨(hle3.trans hle4).trans hle5, hjl, by rw [joinE, if_pos he2]; exact hr5, hst2.symm⟩, by dsimp only; omega⟩
        (repeat' (first | exact trivial | refine ⟨?_, ?_⟩ | exact rfl | assumption))
      · have he2 : ¬ e.2 = (i : Int) := df h
        refine ⟨⟨by dsimp only; omega, by dsimp only; omega⟩, (j + 1, x, (a2, n2, c2)), [(0, 0), (1, 1)], ?_, ⟨hle3, hjl, hr2, by rw [hst2, joinE, if_neg he2]⟩, by dsimp only; omega⟩
        (repeat' (first | exact trivial | refine ⟨?_, ?_⟩ | exact rfl | assumption))
    · have hjl : j = s.E.length := by have := df h; dsimp only at this; omega
      rw [hjl, List.take_length] at hx
      refine ⟨⟨by show (css.length + 1) * 24 ≤ 140737488355328; omega, by show css.length + 1 ≤ 9223372036854775807; omega⟩, ?_⟩
      have hrc2 : RC (α := Wd) H3 (css ++ [[.slice a2 n2 c2]]) ((stepR s A).take (i + 1)) := by
        rw [hst, ← hx]; exact wd_snoc (RC.up hrc (hle2.trans hle3)) hr2
      refine ⟨⟨by omega, by omega⟩, (i + 1, css ++ [[.slice a2 n2 c2]]), [(0, 0), (1, 3)], ?_, ⟨hle, hlt, hrc2⟩, by dsimp only; omega⟩
      (repeat' (first | exact trivial | refine ⟨?_, ?_⟩ | exact rfl | assumption))
  · have hil : i = s.m := by have := df h; dsimp only at this; omega
    rw [hil, List.take_of_length_le (by omega)] at hrc
    intro v H6 hle6 hv6
    obtain ⟨a7, n7, c7, rfl, hr7⟩ := RL.of_row (α := Wd) hv6 (RC.up hrc hle6.le)
    exact hK _ _ _ _ (hle1.trans hle6.le) hr7
theorem rsolve_spec {s : Sy3} {z : SA} (ho : OkS s) {most : Nat} (hmo : most ≤ 1000000) {H : Hp} {K : Value → Hp → Prop} (hs : SysR H s z) (hK : ∀ a1 n1 c1 k H', Le H H' → RL H' a1 n1 c1 (iterN s most (bots s)) → K (.tuple #[.slice a1 n1 c1, .int .i64 k]) H') :
    Does Tryz.prog 67 [sysA s z, .int .i64 (most : Nat)] H K := by
  refine spec_of cx_ok cx_mix rfl Tryz.func67 Tryz.call67 Tryz.ntmps67 Tryz.results67 rfl rfl ?_
  refine rbottom_spec (s := s) (z := z) ho fun a n c H1 hle1 hr1 => ?_
  refine ⟨Nat × List Wd × (Option Addr × Nat × Nat), fun q => ⟨[(1, .v (.int .i64 (most : Nat))), (2, .ptr 0 0), (6, .v (.slice q.2.2.1 q.2.2.2.1 q.2.2.2.2)), (7, .v (.int .i64 q.1))], [(0, .cells 47 (vL (sysV s z)))], 1⟩,
    fun q H' => Le H H' ∧ RL H' q.2.2.1 q.2.2.2.1 q.2.2.2.2 q.2.1 ∧ OkA s q.2.1 ∧ q.1 ≤ most ∧ iterN s most (bots s) = iterN s (most - q.1) q.2.1, fun q => most - q.1, ⟨(0, bots s, (a, n, c)), [(0, 0)], ?_, hle1, hr1, bots_ok s, Nat.zero_le _, rfl⟩, ?_⟩
  · (repeat' (first | exact trivial | refine ⟨?_, ?_⟩ | exact rfl | assumption))
  rintro ⟨k, A, a, n, c⟩ H2 _ ⟨hle, hr, hA, hk, hI⟩
  dsimp only at hr hA hk hI
  refine ⟨fun h => ?_, fun h => ?_⟩
  · have hlt : k < most := by have := dt h; dsimp only at this; omega
    have hst : iterN s (most - k) A = if A = stepS s A then A else iterN s (most - (k + 1)) (stepS s A) := by
      rw [show most - k = (most - (k + 1)) + 1 by omega, iterN]
    refine rstep_spec (s := s) (z := z) ho hA (hs.up hle) hr fun a2 n2 c2 H3 hle3 hr3 => ?_
    have hA2 := stepS_ok ho hA
    refine same17_spec (hr.up hle3) hr3 ?_
    refine ⟨fun h => ?_, fun h => ?_⟩
    · have heq := dt h
      rw [hst, if_pos heq] at hI
      rw [hI] at hK
      exact hK _ _ _ _ _ (hle.trans hle3) (hr.up hle3)
    · have hne := df h
      rw [hst, if_neg hne] at hI
      refine ⟨⟨by dsimp only; omega, by dsimp only; omega⟩, (k + 1, stepS s A, (a2, n2, c2)), [(0, 0)], ?_, ⟨hle.trans hle3, hr3, hA2, hlt, hI⟩, by dsimp only; omega⟩
      (repeat' (first | exact trivial | refine ⟨?_, ?_⟩ | exact rfl | assumption))
  · have hge : k = most := by have := df h; dsimp only at this; omega
    rw [show most - k = 0 by omega, iterN] at hI
    rw [hI] at hK
    exact hK _ _ _ _ _ hle hr
theorem rleast_spec {s : Sy3} {z : SA} (ho : OkS s) {H : Hp} {K : Value → Hp → Prop} (hs : SysR H s z) (hK : ∀ a1 n1 c1 H', Le H H' → RL H' a1 n1 c1 (solveS s) → K (.slice a1 n1 c1) H') : Does Tryz.prog 26 [sysA s z] H K := by
  refine spec_of cx_ok cx_mix rfl Tryz.func26 Tryz.call26 Tryz.ntmps26 Tryz.results26 rfl rfl ?_
  refine ⟨some ([], [0, 1, 2, 3, 4, 5, 6, 7, 8]), by kernel_rfl, ?_⟩
  refine renough_spec (s := s) (z := z) ho ?_
  refine rsolve_spec (s := s) (z := z) ho (enoughS_le ho) hs fun a1 n1 c1 k H1 hle1 hr1 => ?_
  exact hK _ _ _ _ hle1 hr1
end Go.Proofs
end
section
namespace Go.Proofs
open Go.Sy
set_option maxRecDepth 20000
set_option maxHeartbeats 4000000
/-! A program's codes. -/
def vIdx (p : Prog) (t : Bs8) : Int := idxS t (varsOf p) 0
def refOf (p : Prog) (a : Atm) : Rf := if 0 ≤ vIdx p a.1.l then (vIdx p a.1.l, (0, 0)) else (-1, (wrp a.2.1, wrp a.2.2))
def codeOf (p : Prog) (s : Stmt) : List Cd :=
  if vIdx p s.2.1.l < 0 then [] else if s.1 = 1 then [(vIdx p s.2.1.l, s.2.2.1, refOf p s.2.2.2.1, refOf p s.2.2.2.2)] else if s.1 = 2 then [(vIdx p s.2.1.l, -1, (0, (0, 0)), (0, (0, 0)))] else []
def codesOf (p : Prog) (l : List Stmt) : List Cd := l.flatMap (codeOf p)
theorem codesOf_take {p : Prog} {l : List Stmt} {i : Nat} {s : Stmt} (h : l[i]? = some s) : codesOf p (l.take (i + 1)) = codesOf p (l.take i) ++ codeOf p s := by
  rw [codesOf, List.take_add_one, h, Option.toList_some, List.flatMap_append, ← codesOf]
  simp
theorem codeOf_len (p : Prog) (s : Stmt) : (codeOf p s).length ≤ 1 := by
  unfold codeOf
  repeat' split
  all_goals simp
theorem codesOf_len (p : Prog) : ∀ l : List Stmt, (codesOf p l).length ≤ l.length
  | [] => Nat.le_refl _
  | s :: r => by
    have h1 := codeOf_len p s
    have h2 := codesOf_len p r
    have e : codesOf p (s :: r) = codeOf p s ++ codesOf p r := List.flatMap_cons
    rw [e, List.length_append, List.length_cons]; omega
theorem vIdx_range (p : Prog) (t : Bs8) : vIdx p t = -1 ∨ (0 ≤ vIdx p t ∧ vIdx p t < ((varsOf p).length : Nat)) := by
  have := idxS_range t (varsOf p) 0 (Int.le_refl 0)
  rcases this with h | ⟨h1, h2⟩
  · exact .inl h
  · exact .inr ⟨h1, by rw [vIdx]; omega⟩
def rfR (r : Rf) : Prop := inI r.1 ∧ inI r.2.1 ∧ inI r.2.2
def cdR (c : Cd) : Prop := inI c.1 ∧ inI c.2.1 ∧ rfR c.2.2.1 ∧ rfR c.2.2.2
theorem refOf_R (p : Prog) (hv : (varsOf p).length ≤ 1000000) (a : Atm) : rfR (refOf p a) := by
  have h1 := vIdx_range p a.1.l
  have h2 := wrp_le a.2.1
  have h3 := wrp_le a.2.2
  unfold refOf
  split
  · exact ⟨⟨by dsimp only; omega, by dsimp only; omega⟩, ⟨by dsimp only; omega, by dsimp only; omega⟩, ⟨by dsimp only; omega, by dsimp only; omega⟩⟩
  · exact ⟨⟨by dsimp only; omega, by dsimp only; omega⟩, ⟨by dsimp only; omega, by dsimp only; omega⟩, ⟨by dsimp only; omega, by dsimp only; omega⟩⟩
theorem codeOf_R (p : Prog) (hv : (varsOf p).length ≤ 1000000) {s : Stmt} (hs : stmtR s) : ∀ c ∈ codeOf p s, cdR c := by
  have h1 := vIdx_range p s.2.1.l
  have hi : inI (vIdx p s.2.1.l) := ⟨by omega, by omega⟩
  have z : inI 0 := ⟨by decide, by decide⟩
  intro c hc
  unfold codeOf at hc
  split at hc
  · cases hc
  · split at hc
    · rw [List.mem_singleton] at hc
      rw [hc]
      exact ⟨hi, hs.2.2.1, refOf_R p hv _, refOf_R p hv _⟩
    · split at hc
      · rw [List.mem_singleton] at hc
        rw [hc]
        exact ⟨hi, ⟨by dsimp only; omega, by dsimp only; omega⟩, ⟨z, z, z⟩, ⟨z, z, z⟩⟩
      · cases hc
theorem code_R {H : Hp} {c : Cd} (h : cdR c) : Enc.R H (codeV c) c :=
  ⟨[_], [_, _, _, _, _, _, _], rfl, ⟨rfl, h.1⟩, [_], [_, _, _, _, _, _], rfl, ⟨rfl, h.2.1⟩, [_, _, _], [_, _, _], rfl, ⟨[_], [_, _], rfl, ⟨rfl, h.2.2.1.1⟩, [_], [_], rfl, ⟨rfl, h.2.2.1.2.1⟩, ⟨rfl, h.2.2.1.2.2⟩⟩, ⟨[_], [_, _], rfl, ⟨rfl, h.2.2.2.1⟩, [_], [_], rfl, ⟨rfl, h.2.2.2.2.1⟩, ⟨rfl, h.2.2.2.2.2⟩⟩⟩
abbrev cRows (l : List Cd) : List (List Value) := l.map codeV
theorem rc_c {H : Hp} {l : List Cd} (h : ∀ c ∈ l, cdR c) : RC (α := Cd) H (cRows l) l := by
  refine ⟨by simp, fun i cs x h1 h2 => ?_⟩
  rw [List.getElem?_map, h2] at h1
  cases h1
  exact code_R (h x (List.mem_of_getElem? h2))
abbrev bP (a : Option Addr) (n c : Nat) : List (Nat × Bx) := [(0, .cells 24 [.v (.slice a n c)])]
theorem ref1_spec {p : Prog} (hc : cnt p < 400000) {x : Atm} {a : Option Addr} {n c : Nat} {H : Hp} {K : SV → St → Hp → Prop} (ha : RL H a n c p) (hK : K (.agg (vL (refV (refOf p x)))) ⟨[], bP a n c, 1⟩ H) :
    DoesG Tryz.prog 103 [.agg (vL (atmV x)), .ptr 0 0] (bP a n c) 1 H K := by
  refine spec_ofG cx_ok cx_mix Tryz.func103 Tryz.call103 Tryz.ntmps103 Tryz.results103 rfl rfl ?_
  refine var_spec ha hc fun _ _ => ?_
  have hr := vIdx_range p x.1.l
  refine ⟨fun h => ?_, fun h => ?_⟩
  · have h0 : 0 ≤ vIdx p x.1.l := dt h
    have e : refOf p x = (vIdx p x.1.l, (0, 0)) := if_pos h0
    have e2 : max (idxS x.1.l (varsOf p) 0) 0 = vIdx p x.1.l := by rw [vIdx] at h0 ⊢; omega
    rw [e] at hK
    rw [e2]
    exact ⟨.agg (vL (refV (vIdx p x.1.l, (0, 0)))), bP a n c, 1, [(0, 0)], by (repeat' (first | exact trivial | refine ⟨?_, ?_⟩ | exact rfl | assumption)), hK⟩
  · have h0 : ¬ 0 ≤ vIdx p x.1.l := df h
    have e : refOf p x = (-1, (wrp x.2.1, wrp x.2.2)) := if_neg h0
    rw [e] at hK
    refine gof_spec ?_
    exact ⟨.agg (vL (refV (-1, (wrp x.2.1, wrp x.2.2)))), bP a n c, 1, [(0, 0)], by (repeat' (first | exact trivial | refine ⟨?_, ?_⟩ | exact rfl | assumption)), hK⟩
theorem rref_spec {p : Prog} (hc : cnt p < 400000) {x : Atm} {a : Option Addr} {n c : Nat} {H : Hp} {K : Value → Hp → Prop} (ha : RL H a n c p) (hK : K (.agg (refV (refOf p x)).toArray) H) :
    Does Tryz.prog 60 [.agg #[.slice a n c], .agg (atmV x).toArray] H K := by
  refine spec_of cx_ok cx_mix rfl Tryz.func60 Tryz.call60 Tryz.ntmps60 Tryz.results60 rfl rfl ?_
  refine rvar_spec ha hc fun _ _ => ?_
  have hr := vIdx_range p x.1.l
  refine ⟨fun h => ?_, fun h => ?_⟩
  · have h0 : 0 ≤ vIdx p x.1.l := dt h
    have e : refOf p x = (vIdx p x.1.l, (0, 0)) := if_pos h0
    rw [e] at hK
    exact hK
  · have h0 : ¬ 0 ≤ vIdx p x.1.l := df h
    have e : refOf p x = (-1, (wrp x.2.1, wrp x.2.2)) := if_neg h0
    rw [e] at hK
    refine rof_spec ?_
    exact hK
theorem codes_spec {p : Prog} (hc : cnt p < 400000) (hv : (varsOf p).length ≤ 1000000) {l : List Stmt} (hl : l.length ≤ 1000000) {a a2 : Option Addr} {n c n2 k2 : Nat} {H : Hp} {K : Value → Hp → Prop} (ha : RL H a n c p) (hb : RL H a2 n2 k2 l)
    (hK : ∀ a1 n1 c1 H', Le H H' → RL H' a1 n1 c1 (codesOf p l) → K (.slice a1 n1 c1) H') : Does Tryz.prog 58 [.agg #[.slice a n c], .slice a2 n2 k2] H K := by
  have hn2 := hb.n_eq
  refine spec_of cx_ok cx_mix rfl Tryz.func58 Tryz.call58 Tryz.ntmps58 Tryz.results58 rfl rfl ?_
  refine ⟨Nat, fun i => ⟨[(2, .ptr 0 0), (5, .fn 103 [.ptr 0 0]), (6, .own 1), (12, .v (.slice a2 n2 k2)), (13, .v (.int .i64 n2)), (14, .v (.int .i64 i))], [(0, .cells 24 [.v (.slice a n c)]), (1, .row 55 8 (cRows (codesOf p (l.take i))))], 2⟩,
    fun i H' => H' = H ∧ i ≤ l.length, fun i => l.length - i, ⟨0, [(0, 0)], ?_, rfl, Nat.zero_le _⟩, ?_⟩
  · (repeat' (first | exact trivial | refine ⟨?_, ?_⟩ | exact rfl | assumption))
  rintro i H1 _ ⟨rfl, hi⟩
  have hcl := codesOf_len p (l.take i)
  rw [List.length_take] at hcl
  have hcl2 : (cRows (codesOf p (l.take i))).length = (codesOf p (l.take i)).length := List.length_map _
  refine ⟨fun h => ?_, fun h => ?_⟩
  · have hlt : i < l.length := by have := dt h; omega
    refine name_k l[i] fun s hse => ?_
    have hss : l[i]? = some s := by rw [hse]; exact List.getElem?_eq_getElem hlt
    have hst := codesOf_take (p := p) hss
    have hr := vIdx_range p s.2.1.l
    refine stmt_k hb hss fun ad q1 hh hsr => ?_
    refine ⟨ad, ⟨by omega, by omega, q1⟩, ?_⟩
    refine ⟨_, hh, ?_⟩
    refine var_spec ha hc fun _ _ => ?_
    refine ⟨fun h => ?_, fun h => ?_⟩
    · have h0 : vIdx p s.2.1.l < 0 := by have : ¬ 0 ≤ vIdx p s.2.1.l := nt h; omega
      have e : codeOf p s = [] := if_pos h0
      rw [e, List.append_nil] at hst
      refine ⟨⟨by omega, by omega⟩, i + 1, [(0, 0), (1, 1)], ?_, ⟨rfl, hlt⟩, by dsimp only; omega⟩
      have er : cRows (codesOf p (l.take i)) = cRows (codesOf p (l.take (i + 1))) := by rw [hst]
      (repeat' (first | exact trivial | refine ⟨?_, ?_⟩ | exact rfl | assumption))
    · have h0 : 0 ≤ vIdx p s.2.1.l := nf h
      have e2 : max (idxS s.2.1.l (varsOf p) 0) 0 = vIdx p s.2.1.l := by rw [vIdx] at h0 ⊢; omega
      rw [e2]
      refine ⟨fun h => ?_, fun h => ?_⟩
      · have h1 : s.1 = 1 := dt h
        have e : codeOf p s = [(vIdx p s.2.1.l, s.2.2.1, refOf p s.2.2.2.1, refOf p s.2.2.2.2)] := by rw [codeOf, if_neg (by omega), if_pos h1]
        rw [e] at hst
        refine ⟨some ([0, 1, 3], [0, 1, 2, 3, 4, 5, 6, 7, 8, 10, 11, 12, 13, 9, 14, 15, 16, 17, 18]), by kernel_rfl, ?_⟩
        refine ⟨[0], rfl, ref1_spec hc ha ?_⟩
        refine ⟨[0], rfl, ref1_spec hc ha ?_⟩
        refine ⟨⟨by show (_ + 1) * 64 ≤ 140737488355328; rw [hcl2]; omega, by show _ + 1 ≤ 9223372036854775807; rw [hcl2]; omega⟩, ?_⟩
        refine ⟨⟨by omega, by omega⟩, i + 1, [(0, 0), (1, 4)], ?_, ⟨rfl, hlt⟩, by dsimp only; omega⟩
        have er : cRows (codesOf p (l.take (i + 1))) = cRows (codesOf p (l.take i)) ++ [codeV (vIdx p s.2.1.l, s.2.2.1, refOf p s.2.2.2.1, refOf p s.2.2.2.2)] := by rw [hst, cRows, List.map_append]; rfl
        have er2 := er.symm
        (repeat' (first | exact trivial | refine ⟨?_, ?_⟩ | exact rfl | assumption))
      · have h1 : ¬ s.1 = 1 := df h
        refine ⟨fun h => ?_, fun h => ?_⟩
        · have h2 : s.1 = 2 := dt h
          have e : codeOf p s = [(vIdx p s.2.1.l, -1, (0, (0, 0)), (0, (0, 0)))] := by rw [codeOf, if_neg (by omega), if_neg h1, if_pos h2]
          rw [e] at hst
          refine ⟨⟨by show (_ + 1) * 64 ≤ 140737488355328; rw [hcl2]; omega, by show _ + 1 ≤ 9223372036854775807; rw [hcl2]; omega⟩, ?_⟩
          refine ⟨⟨by omega, by omega⟩, i + 1, [(0, 0), (1, 4)], ?_, ⟨rfl, hlt⟩, by dsimp only; omega⟩
          have er : cRows (codesOf p (l.take (i + 1))) = cRows (codesOf p (l.take i)) ++ [codeV (vIdx p s.2.1.l, -1, (0, (0, 0)), (0, (0, 0)))] := by rw [hst, cRows, List.map_append]; rfl
          have er2 := er.symm
          (repeat' (first | exact trivial | refine ⟨?_, ?_⟩ | exact rfl | assumption))
        · have h2 : ¬ s.1 = 2 := df h
          have e : codeOf p s = [] := by rw [codeOf, if_neg (by omega), if_neg h1, if_neg h2]
          rw [e, List.append_nil] at hst
          refine ⟨⟨by omega, by omega⟩, i + 1, [(0, 0), (1, 1)], ?_, ⟨rfl, hlt⟩, by dsimp only; omega⟩
          have er : cRows (codesOf p (l.take i)) = cRows (codesOf p (l.take (i + 1))) := by rw [hst]
          (repeat' (first | exact trivial | refine ⟨?_, ?_⟩ | exact rfl | assumption))
  · have hil : i = l.length := by have := df h; omega
    rw [hil, List.take_length]
    intro v H6 hle6 hv6
    have hR : ∀ c ∈ codesOf p l, cdR c := fun c hc => by
      obtain ⟨s, hs, h1⟩ := List.mem_flatMap.1 hc
      obtain ⟨cs, hr⟩ := rl_mem hb hs
      exact codeOf_R p hv (stmt_open hr).2 c h1
    obtain ⟨a7, n7, c7, rfl, hr7⟩ := RL.of_row (α := Cd) hv6 (rc_c hR)
    exact hK _ _ _ _ hle6.le hr7
theorem rcodes_spec {p : Prog} (hc : cnt p < 400000) (hv : (varsOf p).length ≤ 1000000) {l : List Stmt} (hl : l.length ≤ 1000000) {a a2 : Option Addr} {n c n2 k2 : Nat} {H : Hp} {K : Value → Hp → Prop} (ha : RL H a n c p) (hb : RL H a2 n2 k2 l)
    (hK : ∀ a1 n1 c1 H', Le H H' → RL H' a1 n1 c1 (codesOf p l) → K (.slice a1 n1 c1) H') : Does Tryz.prog 21 [.agg #[.slice a n c], .slice a2 n2 k2] H K := by
  have hn2 := hb.n_eq
  refine spec_of cx_ok cx_mix rfl Tryz.func21 Tryz.call21 Tryz.ntmps21 Tryz.results21 rfl rfl ?_
  refine ⟨Nat, fun i => ⟨[(2, .ptr 0 0), (5, .own 1), (9, .v (.slice a2 n2 k2)), (10, .v (.int .i64 n2)), (11, .v (.int .i64 i))], [(0, .cells 24 [.v (.slice a n c)]), (1, .row 55 8 (cRows (codesOf p (l.take i))))], 2⟩,
    fun i H' => H' = H ∧ i ≤ l.length, fun i => l.length - i, ⟨0, [(0, 0)], ?_, rfl, Nat.zero_le _⟩, ?_⟩
  · (repeat' (first | exact trivial | refine ⟨?_, ?_⟩ | exact rfl | assumption))
  rintro i H1 _ ⟨rfl, hi⟩
  have hcl := codesOf_len p (l.take i)
  rw [List.length_take] at hcl
  have hcl2 : (cRows (codesOf p (l.take i))).length = (codesOf p (l.take i)).length := List.length_map _
  refine ⟨fun h => ?_, fun h => ?_⟩
  · have hlt : i < l.length := by have := dt h; omega
    refine name_k l[i] fun s hse => ?_
    have hss : l[i]? = some s := by rw [hse]; exact List.getElem?_eq_getElem hlt
    have hst := codesOf_take (p := p) hss
    have hr := vIdx_range p s.2.1.l
    refine stmt_k hb hss fun ad q1 hh hsr => ?_
    refine ⟨ad, ⟨by omega, by omega, q1⟩, ?_⟩
    refine ⟨_, hh, ?_⟩
    refine rvar_spec ha hc fun _ _ => ?_
    refine ⟨fun h => ?_, fun h => ?_⟩
    · have h0 : vIdx p s.2.1.l < 0 := dt h
      have e : codeOf p s = [] := if_pos h0
      rw [e, List.append_nil] at hst
      refine ⟨⟨by omega, by omega⟩, i + 1, [(0, 0), (1, 1)], ?_, ⟨rfl, hlt⟩, by dsimp only; omega⟩
      have er : cRows (codesOf p (l.take i)) = cRows (codesOf p (l.take (i + 1))) := by rw [hst]
      (repeat' (first | exact trivial | refine ⟨?_, ?_⟩ | exact rfl | assumption))
    · have h0 : 0 ≤ vIdx p s.2.1.l := by have : ¬ vIdx p s.2.1.l < 0 := df h; omega
      refine ⟨fun h => ?_, fun h => ?_⟩
      · have h1 : s.1 = 1 := dt h
        have e : codeOf p s = [(vIdx p s.2.1.l, s.2.2.1, refOf p s.2.2.2.1, refOf p s.2.2.2.2)] := by rw [codeOf, if_neg (by omega), if_pos h1]
        rw [e] at hst
        refine ⟨some ([1, 3], [0, 1, 2, 3, 4, 5, 6, 7, 8, 10, 11, 12, 13, 9, 14, 15, 16, 17, 18]), by kernel_rfl, ?_⟩
        refine rref_spec (x := s.2.2.2.1) hc ha ?_
        refine rref_spec (x := s.2.2.2.2) hc ha ?_
        refine ⟨⟨by show (_ + 1) * 64 ≤ 140737488355328; rw [hcl2]; omega, by show _ + 1 ≤ 9223372036854775807; rw [hcl2]; omega⟩, ?_⟩
        refine ⟨(fun h => absurd (dt h) (by omega)), fun _ => ?_⟩
        refine ⟨⟨by omega, by omega⟩, i + 1, [(0, 0), (1, 4)], ?_, ⟨rfl, hlt⟩, by dsimp only; omega⟩
        have er : cRows (codesOf p (l.take (i + 1))) = cRows (codesOf p (l.take i)) ++ [codeV (vIdx p s.2.1.l, s.2.2.1, refOf p s.2.2.2.1, refOf p s.2.2.2.2)] := by rw [hst, cRows, List.map_append]; rfl
        have er2 := er.symm
        (repeat' (first | exact trivial | refine ⟨?_, ?_⟩ | exact rfl | assumption))
      · have h1 : ¬ s.1 = 1 := df h
        refine ⟨fun h => ?_, fun h => ?_⟩
        · have h2 : s.1 = 2 := dt h
          have e : codeOf p s = [(vIdx p s.2.1.l, -1, (0, (0, 0)), (0, (0, 0)))] := by rw [codeOf, if_neg (by omega), if_neg h1, if_pos h2]
          rw [e] at hst
          refine ⟨⟨by show (_ + 1) * 64 ≤ 140737488355328; rw [hcl2]; omega, by show _ + 1 ≤ 9223372036854775807; rw [hcl2]; omega⟩, ?_⟩
          refine ⟨⟨by omega, by omega⟩, i + 1, [(0, 0), (1, 4)], ?_, ⟨rfl, hlt⟩, by dsimp only; omega⟩
          have er : cRows (codesOf p (l.take (i + 1))) = cRows (codesOf p (l.take i)) ++ [codeV (vIdx p s.2.1.l, -1, (0, (0, 0)), (0, (0, 0)))] := by rw [hst, cRows, List.map_append]; rfl
          have er2 := er.symm
          (repeat' (first | exact trivial | refine ⟨?_, ?_⟩ | exact rfl | assumption))
        · have h2 : ¬ s.1 = 2 := df h
          have e : codeOf p s = [] := by rw [codeOf, if_neg (by omega), if_neg h1, if_neg h2]
          rw [e, List.append_nil] at hst
          refine ⟨⟨by omega, by omega⟩, i + 1, [(0, 0), (1, 1)], ?_, ⟨rfl, hlt⟩, by dsimp only; omega⟩
          have er : cRows (codesOf p (l.take i)) = cRows (codesOf p (l.take (i + 1))) := by rw [hst]
          (repeat' (first | exact trivial | refine ⟨?_, ?_⟩ | exact rfl | assumption))
  · have hil : i = l.length := by have := df h; omega
    rw [hil, List.take_length]
    intro v H6 hle6 hv6
    have hR : ∀ c ∈ codesOf p l, cdR c := fun c hc => by
      obtain ⟨s, hs, h1⟩ := List.mem_flatMap.1 hc
      obtain ⟨cs, hr⟩ := rl_mem hb hs
      exact codeOf_R p hv (stmt_open hr).2 c h1
    obtain ⟨a7, n7, c7, rfl, hr7⟩ := RL.of_row (α := Cd) hv6 (rc_c hR)
    exact hK _ _ _ _ hle6.le hr7
end Go.Proofs
end
section
namespace Go.Proofs
open Go.Sy
set_option maxRecDepth 20000
set_option maxHeartbeats 4000000
/-! A program's equations. -/
def two64 : UInt64 := UInt64.ofNat 2
def sysOf (p : Prog) : Sy3 := ⟨(varsOf p).length, p.length, gSort (edgesOf p), [0], List.replicate (varsOf p).length two64, p.map fun b => codesOf p b.2.1⟩
theorem kOf_zero : kOf (0, 0) = 2 := by decide
abbrev zSys : List Value := [.int .i64 0, .int .i64 0, .int .i64 0, .slice none 0 0, .slice none 0 0, .slice none 0 0, .slice none 0 0]
abbrev iRow0 : List (List Value) := [[.int .i64 0]]
theorem two_snoc (i : Nat) : uRows (List.replicate (i + 1) two64) = uRows (List.replicate i two64) ++ [[.int .u64 (2 : Nat)]] := by
  rw [List.replicate_succ', uRows, List.map_append]; rfl
theorem tr_snoc {H : Hp} {css : List (List Value)} {T : List Tr3} (h : RC (α := Tr3) H css T) {a : Option Addr} {n c : Nat} {l : List Cd} (hx : RL H a n c l) : RC (α := Tr3) H (css ++ [[.slice none 0 0, .slice none 0 0, .slice a n c]]) (T ++ [Tr3.mk l]) :=
  RC.snoc h (show Enc.R (α := Tr3) H [.slice none 0 0, .slice none 0 0, .slice a n c] (Tr3.mk l) from ⟨a, n, c, rfl, hx⟩)
theorem sysT_take {p : Prog} {i : Nat} {b : Block} (h : p[i]? = some b) : ((sysOf p).T.map Tr3.mk).take (i + 1) = ((sysOf p).T.map Tr3.mk).take i ++ [Tr3.mk (codesOf p b.2.1)] := by
  have e : ((sysOf p).T.map Tr3.mk)[i]? = some (Tr3.mk (codesOf p b.2.1)) := by
    show ((p.map fun b => codesOf p b.2.1).map Tr3.mk)[i]? = _
    rw [List.getElem?_map, List.getElem?_map, h]; rfl
  rw [List.take_add_one, e, Option.toList_some]
theorem vars_small {p : Prog} (h : checkE p = 0) : (varsOf p).length ≤ 1000000 := by
  unfold checkE at h
  split at h
  · cases h
  · split at h
    · split at h
      · cases h
      · rename_i h1; omega
    · cases h
theorem ints_k {P : Prop} {H : Hp} {v : Value} (h : RowAt H v 1 iRow0) (k : ∀ a n c, v = .slice a n c → RL H a n c [(0 : Int)] → P) : P := by
  obtain ⟨a, n, c, e, hr⟩ := rI_all (l := [0]) h (fun z hz => by rw [List.mem_singleton] at hz; rw [hz]; exact ⟨by omega, by omega⟩)
  exact k a n c e hr
theorem psys_spec {p : Prog} (hp : p.length ≤ 12) (hl : ∀ b ∈ p, b.2.1.length ≤ 1000000) (hc : stmtsN p ≤ 1000000) (hv : cnt p < 400000) {a : Option Addr} {n c : Nat} {H : Hp} {K : Value → Hp → Prop} (ha : RL H a n c p)
    (hbad : checkE p ≠ 0 → ∀ H', Le H H' → K (.tuple #[.agg zSys.toArray, .int .i64 (checkE p)]) H')
    (hK : checkE p = 0 → ∀ z H', Le H H' → SysR H' (sysOf p) z → K (.tuple #[sysA (sysOf p) z, .int .i64 0]) H') : Does Tryz.prog 19 [.agg #[.slice a n c]] H K := by
  have hn := ha.n_eq
  have hmx := ha.le
  refine spec_of cx_ok cx_mix rfl Tryz.func19 Tryz.call19 Tryz.ntmps19 Tryz.results19 rfl rfl ?_
  refine pcheck_spec ha hc hv fun H0 hle0 => ?_
  refine ⟨fun h => ?_, fun h => ?_⟩
  · exact hbad (nt h) _ (Le.refl H)
  have he : checkE p = 0 := nf h
  have hK := hK he
  refine pvars_spec ha hv fun av nv cv H1 hle1 hrv => ?_
  have hnv := hrv.n_eq
  rw [List.length_map] at hnv
  have hvl : nv ≤ 1000000 := by rw [hnv]; exact vars_small he
  refine ⟨none, ?_⟩
  refine region_plan (α := Option Addr × Nat × Nat) ?_ ?_
    (.two 5 6 (.two 6 8 (.one [2, 3] [0, 1, 2, 3, 4, 5, 6, 7, 8, 9]) (.two 5 8 (.one [2, 3] [0, 1, 2, 3, 4, 5, 8, 6, 7, 9]) (.one [2, 3] [0, 1, 2, 3, 4, 8, 5, 6, 7, 9])))
      (.two 5 8 (.one [2, 3] [0, 1, 2, 3, 4, 6, 5, 7, 8, 9]) (.two 6 8 (.one [2, 3] [0, 1, 2, 3, 4, 6, 8, 5, 7, 9]) (.one [2, 3] [0, 1, 2, 3, 4, 8, 6, 5, 7, 9]))))
    (fun q => ⟨[(1, .ptr 0 0), (2, .ptr 1 0), (5, .v (.int .i64 nv)), (6, .ptr 2 0)],
      [(0, .cells 24 [.v (.slice a n c)]), (1, .cells 47 (vL zSys)), (2, .cells 47 [.v (.int .i64 3), .v (.int .i64 nv), .v (.int .i64 n), .v (.slice q.1 q.2.1 q.2.2), .own 3, .v (.slice none 0 0), .v (.slice none 0 0)]), (3, .row 3 1 iRow0)], 4⟩)
    (fun q H' => Le H1 H' ∧ RL H' q.1 q.2.1 q.2.2 (gSort (edgesOf p))) (by kernel_rfl) ⟨⟨?_, ?_, ?_⟩, ?_, ?_, ?_⟩ ?_
  · exact ⟨cx_ok.tt, cx_ok.eqs⟩
  · exact cx_mix
  · refine edges_spec hp (ha.up hle1) fun a2 n2 c2 H2 hle2 hr2 => ?_
    refine ⟨(a2, n2, c2), [(0, 0), (1, 1), (2, 3), (3, 2)], ?_, hle2, hr2⟩
    (repeat' (first | exact trivial | refine ⟨?_, ?_⟩ | exact rfl | assumption))
  · refine edges_spec hp (ha.up hle1) fun a2 n2 c2 H2 hle2 hr2 => ?_
    refine ⟨(a2, n2, c2), [(0, 0), (1, 1), (2, 2), (3, 3)], ?_, hle2, hr2⟩
    (repeat' (first | exact trivial | refine ⟨?_, ?_⟩ | exact rfl | assumption))
  · refine edges_spec hp (ha.up hle1) fun a2 n2 c2 H2 hle2 hr2 => ?_
    refine ⟨(a2, n2, c2), [(0, 0), (1, 1), (2, 2), (3, 3)], ?_, hle2, hr2⟩
    (repeat' (first | exact trivial | refine ⟨?_, ?_⟩ | exact rfl | assumption))
  · refine edges_spec hp (ha.up hle1) fun a2 n2 c2 H2 hle2 hr2 => ?_
    refine ⟨(a2, n2, c2), [(0, 0), (1, 1), (2, 3), (3, 2)], ?_, hle2, hr2⟩
    (repeat' (first | exact trivial | refine ⟨?_, ?_⟩ | exact rfl | assumption))
  · refine edges_spec hp (ha.up hle1) fun a2 n2 c2 H2 hle2 hr2 => ?_
    refine ⟨(a2, n2, c2), [(0, 0), (1, 1), (2, 3), (3, 2)], ?_, hle2, hr2⟩
    (repeat' (first | exact trivial | refine ⟨?_, ?_⟩ | exact rfl | assumption))
  · refine edges_spec hp (ha.up hle1) fun a2 n2 c2 H2 hle2 hr2 => ?_
    refine ⟨(a2, n2, c2), [(0, 0), (1, 1), (2, 2), (3, 3)], ?_, hle2, hr2⟩
    (repeat' (first | exact trivial | refine ⟨?_, ?_⟩ | exact rfl | assumption))
  rintro ⟨ae, ne, ce⟩ H2 _ ⟨hle2, hre⟩
  dsimp only at hre
  refine ⟨Nat, fun i => ⟨[(1, .ptr 0 0), (2, .ptr 1 0), (6, .ptr 2 0), (26, .v (.int .i64 nv)), (27, .v (.int .i64 i))],
      [(0, .cells 24 [.v (.slice a n c)]), (1, .cells 47 (vL zSys)), (2, .cells 47 [.v (.int .i64 3), .v (.int .i64 nv), .v (.int .i64 n), .v (.slice ae ne ce), .own 3, .own 4, .v (.slice none 0 0)]), (3, .row 3 1 iRow0), (4, .row 94 1 (uRows (List.replicate i two64)))], 5⟩,
    fun i H' => H' = H2 ∧ i ≤ nv, fun i => nv - i, ⟨0, [(0, 0), (1, 1), (2, 2), (3, 3)], ?_, rfl, Nat.zero_le _⟩, ?_⟩
  · (repeat' (first | exact trivial | refine ⟨?_, ?_⟩ | exact rfl | assumption))
  rintro i H3 _ ⟨rfl, hi⟩
  have hil : (uRows (List.replicate i two64)).length = i := by simp
  refine ⟨fun h => ?_, fun h => ?_⟩
  · have hlt : i < nv := by have := dt h; omega
    refine ⟨some ([1000000, 2, 4, 5], [0, 1, 2, 3, 4, 5, 6, 7]), by kernel_rfl, ?_⟩
    refine kof_spec (a := (0, 0)) ?_
    rw [kOf_zero]
    refine ⟨⟨by show (_ + 1) * 8 ≤ 140737488355328; rw [hil]; omega, by show _ + 1 ≤ 9223372036854775807; rw [hil]; omega⟩, ?_⟩
    refine ⟨⟨by omega, by omega⟩, i + 1, [(0, 0), (1, 1), (2, 2), (3, 3), (4, 6)], ?_, ⟨rfl, hlt⟩, by dsimp only; omega⟩
    have e := (two_snoc i).symm
    (repeat' (first | exact trivial | refine ⟨?_, ?_⟩ | exact rfl | assumption))
  have hil2 : i = nv := by have := df h; omega
  rw [hil2]
  refine ⟨Nat × List (List Value), fun q => ⟨[(1, .ptr 0 0), (2, .ptr 1 0), (6, .ptr 2 0), (38, .v (.slice a n c)), (39, .v (.int .i64 n)), (40, .v (.int .i64 q.1))],
      [(0, .cells 24 [.v (.slice a n c)]), (1, .cells 47 (vL zSys)), (2, .cells 47 [.v (.int .i64 3), .v (.int .i64 nv), .v (.int .i64 n), .v (.slice ae ne ce), .own 3, .own 4, .own 5]), (3, .row 3 1 iRow0), (4, .row 94 1 (uRows (List.replicate nv two64))), (5, .row 98 3 q.2)], 6⟩,
    fun q H' => Le H3 H' ∧ q.1 ≤ p.length ∧ RC (α := Tr3) H' q.2 (((sysOf p).T.map Tr3.mk).take q.1), fun q => p.length - q.1, ⟨(0, []), [(0, 0), (1, 1), (2, 2), (3, 3), (4, 4)], ?_, Le.refl _, Nat.zero_le _, RC.nil⟩, ?_⟩
  · (repeat' (first | exact trivial | refine ⟨?_, ?_⟩ | exact rfl | assumption))
  rintro ⟨j, css⟩ H4 _ ⟨hle4, hj, hrc⟩
  dsimp only at hj hrc
  have hle : Le H H4 := (hle1.trans hle2).trans hle4
  have hTl : ((sysOf p).T.map Tr3.mk).length = p.length := by simp [sysOf]
  have hcl : css.length = j := by have h1 := hrc.1; rw [List.length_take] at h1; omega
  refine ⟨fun h => ?_, fun h => ?_⟩
  · have hlt : j < p.length := by have := dt h; dsimp only at this; omega
    refine name_k p[j] fun b hbe => ?_
    have hbb : p[j]? = some b := by rw [hbe]; exact List.getElem?_eq_getElem hlt
    refine block_k (ha.up hle) hbb fun ad a5 n5 c5 q1 hh hr5 hs5 ht5 => ?_
    refine ⟨ad, ⟨by dsimp only; omega, by dsimp only; omega, q1⟩, ?_⟩
    refine ⟨_, hh, ?_⟩
    refine ⟨some ([1000000, 2, 5, 7], [0, 1, 2, 3, 4, 5, 6, 7, 8, 9, 10]), by kernel_rfl, ?_⟩
    refine codes_spec hv (vars_small he) (hl b (by rw [hbe]; exact List.getElem_mem hlt)) (ha.up hle) hr5 fun a6 n6 c6 H5 hle5 hr6 => ?_
    refine ⟨⟨by show (css.length + 1) * 72 ≤ 140737488355328; omega, by show css.length + 1 ≤ 9223372036854775807; omega⟩, ?_⟩
    have hrc2 : RC (α := Tr3) H5 (css ++ [[.slice none 0 0, .slice none 0 0, .slice a6 n6 c6]]) (((sysOf p).T.map Tr3.mk).take (j + 1)) := by
      rw [sysT_take hbb]; exact tr_snoc (RC.up hrc hle5) hr6
    refine ⟨⟨by omega, by omega⟩, (j + 1, css ++ [[.slice none 0 0, .slice none 0 0, .slice a6 n6 c6]]), [(0, 0), (1, 1), (2, 2), (3, 3), (4, 4), (5, 8)], ?_, ⟨hle4.trans hle5, hlt, hrc2⟩, by dsimp only; omega⟩
    (repeat' (first | exact trivial | refine ⟨?_, ?_⟩ | exact rfl | assumption))
  · have hjl : j = p.length := by have := df h; dsimp only at this; omega
    rw [hjl, List.take_of_length_le (by omega)] at hrc
    intro v1 H5 hle5 hv1
    refine ints_k hv1 fun na nn nc ev1 hr1 => ?_
    subst ev1
    intro v2 H6 hle6 hv2
    refine of_row_k (α := UInt64) hv2 rc_w fun ia ni ic ev2 hr2 => ?_
    subst ev2
    intro v3 H7 hle7 hv3
    have h57 := (hle5.le.trans hle6.le).trans hle7.le
    refine of_row_k (α := Tr3) hv3 (RC.up hrc h57) fun ta tn tc ev3 hr3 => ?_
    subst ev3
    have hsys : SysR H7 (sysOf p) ⟨ae, ne, ce, na, nn, nc, ia, ni, ic, ta, tn, tc⟩ := by
      refine ⟨hre.up (hle4.trans h57), hr1.up (hle6.le.trans hle7.le), ?_, hr3⟩
      have e : (sysOf p).ini = List.replicate nv two64 := by rw [hnv]; rfl
      rw [e]; exact hr2.up hle7.le
    have hK := hK ⟨ae, ne, ce, na, nn, nc, ia, ni, ic, ta, tn, tc⟩ H7 (hle.trans h57) hsys
    have e1 : (sysOf p).w = nv := hnv.symm
    have e2 : (sysOf p).m = n := hn.symm
    rw [sysA, sysV, e1, e2] at hK
    exact hK
theorem rsys_spec {p : Prog} (hp : p.length ≤ 12) (hl : ∀ b ∈ p, b.2.1.length ≤ 1000000) (hv : cnt p < 400000) {a : Option Addr} {n c : Nat} {H : Hp} {K : Value → Hp → Prop} (ha : RL H a n c p)
    (he : checkE p = 0) (hK : ∀ z H', Le H H' → SysR H' (sysOf p) z → K (sysA (sysOf p) z) H') : Does Tryz.prog 23 [.agg #[.slice a n c]] H K := by
  have hn := ha.n_eq
  have hmx := ha.le
  refine spec_of cx_ok cx_mix rfl Tryz.func23 Tryz.call23 Tryz.ntmps23 Tryz.results23 rfl rfl ?_
  refine rvars_spec ha hv fun av nv cv H1 hle1 hrv => ?_
  have hnv := hrv.n_eq
  rw [List.length_map] at hnv
  have hvl : nv ≤ 1000000 := by rw [hnv]; exact vars_small he
  refine ⟨none, ?_⟩
  refine region_plan (α := Option Addr × Nat × Nat) ?_ ?_
    (.two 5 6 (.two 6 8 (.one [2, 3] [0, 1, 2, 3, 4, 5, 6, 7, 8, 9]) (.two 5 8 (.one [2, 3] [0, 1, 2, 3, 4, 5, 8, 6, 7, 9]) (.one [2, 3] [0, 1, 2, 3, 4, 8, 5, 6, 7, 9])))
      (.two 5 8 (.one [2, 3] [0, 1, 2, 3, 4, 6, 5, 7, 8, 9]) (.two 6 8 (.one [2, 3] [0, 1, 2, 3, 4, 6, 8, 5, 7, 9]) (.one [2, 3] [0, 1, 2, 3, 4, 8, 6, 5, 7, 9]))))
    (fun q => ⟨[(1, .ptr 0 0), (2, .ptr 1 0), (3, .v (.int .i64 nv)), (4, .ptr 2 0)],
      [(0, .cells 24 [.v (.slice a n c)]), (1, .cells 47 (vL zSys)), (2, .cells 47 [.v (.int .i64 3), .v (.int .i64 nv), .v (.int .i64 n), .v (.slice q.1 q.2.1 q.2.2), .own 3, .v (.slice none 0 0), .v (.slice none 0 0)]), (3, .row 3 1 iRow0)], 4⟩)
    (fun q H' => Le H1 H' ∧ RL H' q.1 q.2.1 q.2.2 (gSort (edgesOf p))) (by kernel_rfl) ⟨⟨?_, ?_, ?_⟩, ?_, ?_, ?_⟩ ?_
  · exact ⟨cx_ok.tt, cx_ok.eqs⟩
  · exact cx_mix
  · refine redges_spec hp (ha.up hle1) fun a2 n2 c2 H2 hle2 hr2 => ?_
    refine ⟨(a2, n2, c2), [(0, 0), (1, 1), (2, 3), (3, 2)], ?_, hle2, hr2⟩
    (repeat' (first | exact trivial | refine ⟨?_, ?_⟩ | exact rfl | assumption))
  · refine redges_spec hp (ha.up hle1) fun a2 n2 c2 H2 hle2 hr2 => ?_
    refine ⟨(a2, n2, c2), [(0, 0), (1, 1), (2, 2), (3, 3)], ?_, hle2, hr2⟩
    (repeat' (first | exact trivial | refine ⟨?_, ?_⟩ | exact rfl | assumption))
  · refine redges_spec hp (ha.up hle1) fun a2 n2 c2 H2 hle2 hr2 => ?_
    refine ⟨(a2, n2, c2), [(0, 0), (1, 1), (2, 2), (3, 3)], ?_, hle2, hr2⟩
    (repeat' (first | exact trivial | refine ⟨?_, ?_⟩ | exact rfl | assumption))
  · refine redges_spec hp (ha.up hle1) fun a2 n2 c2 H2 hle2 hr2 => ?_
    refine ⟨(a2, n2, c2), [(0, 0), (1, 1), (2, 3), (3, 2)], ?_, hle2, hr2⟩
    (repeat' (first | exact trivial | refine ⟨?_, ?_⟩ | exact rfl | assumption))
  · refine redges_spec hp (ha.up hle1) fun a2 n2 c2 H2 hle2 hr2 => ?_
    refine ⟨(a2, n2, c2), [(0, 0), (1, 1), (2, 3), (3, 2)], ?_, hle2, hr2⟩
    (repeat' (first | exact trivial | refine ⟨?_, ?_⟩ | exact rfl | assumption))
  · refine redges_spec hp (ha.up hle1) fun a2 n2 c2 H2 hle2 hr2 => ?_
    refine ⟨(a2, n2, c2), [(0, 0), (1, 1), (2, 2), (3, 3)], ?_, hle2, hr2⟩
    (repeat' (first | exact trivial | refine ⟨?_, ?_⟩ | exact rfl | assumption))
  rintro ⟨ae, ne, ce⟩ H2 _ ⟨hle2, hre⟩
  dsimp only at hre
  refine ⟨Nat, fun i => ⟨[(1, .ptr 0 0), (2, .ptr 1 0), (3, .v (.int .i64 nv)), (4, .ptr 2 0), (5, .v (.int .i64 i))],
      [(0, .cells 24 [.v (.slice a n c)]), (1, .cells 47 (vL zSys)), (2, .cells 47 [.v (.int .i64 3), .v (.int .i64 nv), .v (.int .i64 n), .v (.slice ae ne ce), .own 3, .own 4, .v (.slice none 0 0)]), (3, .row 3 1 iRow0), (4, .row 94 1 (uRows (List.replicate i two64)))], 5⟩,
    fun i H' => H' = H2 ∧ i ≤ nv, fun i => nv - i, ⟨0, [(0, 0), (1, 1), (2, 2), (3, 3)], ?_, rfl, Nat.zero_le _⟩, ?_⟩
  · (repeat' (first | exact trivial | refine ⟨?_, ?_⟩ | exact rfl | assumption))
  rintro i H3 _ ⟨rfl, hi⟩
  have hil : (uRows (List.replicate i two64)).length = i := by simp
  refine ⟨fun h => ?_, fun h => ?_⟩
  · have hlt : i < nv := by have := dt h; omega
    refine ⟨some ([1000000, 2, 4, 5], [0, 1, 2, 3, 4, 5, 6, 7]), by kernel_rfl, ?_⟩
    refine rkof_spec (a := (0, 0)) ?_
    rw [kOf_zero]
    refine ⟨⟨by show (_ + 1) * 8 ≤ 140737488355328; rw [hil]; omega, by show _ + 1 ≤ 9223372036854775807; rw [hil]; omega⟩, ?_⟩
    refine ⟨⟨by omega, by omega⟩, i + 1, [(0, 0), (1, 1), (2, 2), (3, 3), (4, 6)], ?_, ⟨rfl, hlt⟩, by dsimp only; omega⟩
    have e := (two_snoc i).symm
    (repeat' (first | exact trivial | refine ⟨?_, ?_⟩ | exact rfl | assumption))
  have hil2 : i = nv := by have := df h; omega
  rw [hil2]
  refine ⟨Nat × List (List Value), fun q => ⟨[(1, .ptr 0 0), (2, .ptr 1 0), (4, .ptr 2 0), (32, .v (.slice a n c)), (33, .v (.int .i64 n)), (34, .v (.int .i64 q.1))],
      [(0, .cells 24 [.v (.slice a n c)]), (1, .cells 47 (vL zSys)), (2, .cells 47 [.v (.int .i64 3), .v (.int .i64 nv), .v (.int .i64 n), .v (.slice ae ne ce), .own 3, .own 4, .own 5]), (3, .row 3 1 iRow0), (4, .row 94 1 (uRows (List.replicate nv two64))), (5, .row 98 3 q.2)], 6⟩,
    fun q H' => Le H3 H' ∧ q.1 ≤ p.length ∧ RC (α := Tr3) H' q.2 (((sysOf p).T.map Tr3.mk).take q.1), fun q => p.length - q.1, ⟨(0, []), [(0, 0), (1, 1), (2, 2), (3, 3), (4, 4)], ?_, Le.refl _, Nat.zero_le _, RC.nil⟩, ?_⟩
  · (repeat' (first | exact trivial | refine ⟨?_, ?_⟩ | exact rfl | assumption))
  rintro ⟨j, css⟩ H4 _ ⟨hle4, hj, hrc⟩
  dsimp only at hj hrc
  have hle : Le H H4 := (hle1.trans hle2).trans hle4
  have hTl : ((sysOf p).T.map Tr3.mk).length = p.length := by simp [sysOf]
  have hcl : css.length = j := by have h1 := hrc.1; rw [List.length_take] at h1; omega
  refine ⟨fun h => ?_, fun h => ?_⟩
  · have hlt : j < p.length := by have := dt h; dsimp only at this; omega
    refine name_k p[j] fun b hbe => ?_
    have hbb : p[j]? = some b := by rw [hbe]; exact List.getElem?_eq_getElem hlt
    refine block_k (ha.up hle) hbb fun ad a5 n5 c5 q1 hh hr5 hs5 ht5 => ?_
    refine ⟨ad, ⟨by dsimp only; omega, by dsimp only; omega, q1⟩, ?_⟩
    refine ⟨_, hh, ?_⟩
    refine ⟨some ([1000000, 2, 5, 7], [0, 1, 2, 3, 4, 5, 6, 7, 8, 9, 10]), by kernel_rfl, ?_⟩
    refine rcodes_spec hv (vars_small he) (hl b (by rw [hbe]; exact List.getElem_mem hlt)) (ha.up hle) hr5 fun a6 n6 c6 H5 hle5 hr6 => ?_
    refine ⟨⟨by show (css.length + 1) * 72 ≤ 140737488355328; omega, by show css.length + 1 ≤ 9223372036854775807; omega⟩, ?_⟩
    have hrc2 : RC (α := Tr3) H5 (css ++ [[.slice none 0 0, .slice none 0 0, .slice a6 n6 c6]]) (((sysOf p).T.map Tr3.mk).take (j + 1)) := by
      rw [sysT_take hbb]; exact tr_snoc (RC.up hrc hle5) hr6
    refine ⟨⟨by omega, by omega⟩, (j + 1, css ++ [[.slice none 0 0, .slice none 0 0, .slice a6 n6 c6]]), [(0, 0), (1, 1), (2, 2), (3, 3), (4, 4), (5, 8)], ?_, ⟨hle4.trans hle5, hlt, hrc2⟩, by dsimp only; omega⟩
    (repeat' (first | exact trivial | refine ⟨?_, ?_⟩ | exact rfl | assumption))
  · have hjl : j = p.length := by have := df h; dsimp only at this; omega
    rw [hjl, List.take_of_length_le (by omega)] at hrc
    intro v1 H5 hle5 hv1
    refine ints_k hv1 fun na nn nc ev1 hr1 => ?_
    subst ev1
    intro v2 H6 hle6 hv2
    refine of_row_k (α := UInt64) hv2 rc_w fun ia ni ic ev2 hr2 => ?_
    subst ev2
    intro v3 H7 hle7 hv3
    have h57 := (hle5.le.trans hle6.le).trans hle7.le
    refine of_row_k (α := Tr3) hv3 (RC.up hrc h57) fun ta tn tc ev3 hr3 => ?_
    subst ev3
    have hsys : SysR H7 (sysOf p) ⟨ae, ne, ce, na, nn, nc, ia, ni, ic, ta, tn, tc⟩ := by
      refine ⟨hre.up (hle4.trans h57), hr1.up (hle6.le.trans hle7.le), ?_, hr3⟩
      have e : (sysOf p).ini = List.replicate nv two64 := by rw [hnv]; rfl
      rw [e]; exact hr2.up hle7.le
    have hK := hK ⟨ae, ne, ce, na, nn, nc, ia, ni, ic, ta, tn, tc⟩ H7 (hle.trans h57) hsys
    have e1 : (sysOf p).w = nv := hnv.symm
    have e2 : (sysOf p).m = n := hn.symm
    rw [sysA, sysV, e1, e2] at hK
    exact hK
end Go.Proofs
end
section
namespace Go.Proofs
open Go.Sy
set_option maxRecDepth 20000
set_option maxHeartbeats 4000000
/-! A program's equations are in order. -/
theorem refOf_ok (p : Prog) (a : Atm) : okR (varsOf p).length (refOf p a) := by
  have h1 := vIdx_range p a.1.l
  unfold refOf
  split
  · rename_i h0
    exact .inr ⟨h0, by dsimp only; omega, rfl⟩
  · exact .inl ⟨rfl, wrp_wrp _, wrp_wrp _⟩
theorem exprB_op {x : Expr} (h : exprB x = true) : 0 ≤ x.1 ∧ x.1 ≤ 4 := by
  unfold exprB at h
  split at h
  · rename_i h1
    simp only [op1, Bool.or_eq_true, decide_eq_true_eq] at h1
    omega
  · split at h
    · rename_i h1
      simp only [op2, Bool.or_eq_true, decide_eq_true_eq] at h1
      omega
    · cases h
theorem codeOf_ok {p : Prog} {s : Stmt} (h : stmtB s = true) : ∀ c ∈ codeOf p s, okC (varsOf p).length c := by
  have h1 := vIdx_range p s.2.1.l
  intro c hc
  unfold codeOf at hc
  split at hc
  · cases hc
  · rename_i h0
    have hr : 0 ≤ vIdx p s.2.1.l ∧ vIdx p s.2.1.l < ((varsOf p).length : Nat) := by omega
    split at hc
    · rename_i h2
      rw [stmtB, if_pos h2, Bool.and_eq_true] at h
      have h3 := exprB_op h.2
      rw [List.mem_singleton] at hc
      rw [hc]
      exact ⟨hr.1, hr.2, .inr ⟨h3.1, h3.2, refOf_ok p _, refOf_ok p _⟩⟩
    · split at hc
      · rw [List.mem_singleton] at hc
        rw [hc]
        exact ⟨hr.1, hr.2, .inl ⟨rfl, rfl, rfl⟩⟩
      · cases hc
theorem codesOf_ok {p : Prog} {l : List Stmt} (h : ∀ s ∈ l, stmtB s = true) : okL (varsOf p).length (codesOf p l) := by
  intro c hc
  obtain ⟨s, hs, h1⟩ := List.mem_flatMap.1 hc
  exact codeOf_ok (h s hs) c h1
theorem check_facts {p : Prog} (h : checkE p = 0) : 1 ≤ p.length ∧ p.length ≤ 128 ∧ (varsOf p).length ≤ 64 ∧ ∀ b ∈ p, blockB b = true := by
  unfold checkE at h
  split at h
  · cases h
  · rename_i h0
    split at h
    · rename_i h1
      split at h
      · cases h
      · refine ⟨by omega, by omega, by omega, fun b hb => List.all_eq_true.1 h1 b hb⟩
    · cases h
theorem block_stmts {b : Block} (h : blockB b = true) : ∀ s ∈ b.2.1, stmtB s = true := by
  rw [blockB, Bool.and_eq_true] at h
  exact fun s hs => List.all_eq_true.1 h.2 s hs
theorem eN_lt {p : Prog} {i : Nat} {t : Bs8} : ∀ e ∈ eN p i t, e.1 = (i : Int) ∧ 0 ≤ e.2 ∧ e.2 < (p.length : Nat) := by
  intro e he
  unfold eN at he
  have hr := idxS_range t (nms p) 0 (by omega)
  rw [List.length_map] at hr
  split at he
  · rename_i h0
    simp only [List.mem_cons, List.not_mem_nil, or_false] at he
    subst he
    exact ⟨rfl, h0, by dsimp only; omega⟩
  · simp at he
theorem eB_lt {p : Prog} {i : Nat} {b : Block} : ∀ e ∈ eB p i b, e.1 = (i : Int) ∧ 0 ≤ e.2 ∧ e.2 < (p.length : Nat) := by
  intro e he
  unfold eB at he
  rcases List.mem_append.1 he with he | he
  · split at he
    · exact eN_lt e he
    · cases he
  · split at he
    · exact eN_lt e he
    · cases he
theorem eAll_lt {p : Prog} : ∀ (l : List Block) (i : Nat), ∀ e ∈ eAll p l i, ((i : Int) ≤ e.1 ∧ e.1 < ((i + l.length : Nat) : Int)) ∧ 0 ≤ e.2 ∧ e.2 < (p.length : Nat)
  | [], _, e, he => by simp [eAll] at he
  | b :: r, i, e, he => by
    rw [eAll] at he
    rcases List.mem_append.1 he with he | he
    · have h := eB_lt e he
      rw [List.length_cons]
      exact ⟨⟨by omega, by omega⟩, h.2⟩
    · have h := eAll_lt r (i + 1) e he
      rw [List.length_cons]
      exact ⟨⟨by omega, by omega⟩, h.2⟩
theorem two_is : kIs (two64).toNat = true := by decide
theorem sysOf_ok {p : Prog} (h : checkE p = 0) : OkS (sysOf p) := by
  have hf := check_facts h
  refine ⟨?_, ?_, ?_, ?_, ?_, ?_, ?_, ?_⟩
  · show (varsOf p).length ≤ 1024
    omega
  · show 1 ≤ p.length ∧ p.length ≤ 256
    omega
  · show (gSort (edgesOf p)).length ≤ 1024
    have h1 := gSort_len (edgesOf p)
    have h2 := eAll_len p p 0
    rw [edgesOf] at h1 ⊢
    omega
  · intro e he
    have he : e ∈ edgesOf p := (gSort_mem _ _).1 he
    have h1 := eAll_lt p 0 e he
    show (0 ≤ e.1 ∧ e.1 < (p.length : Nat)) ∧ 0 ≤ e.2 ∧ e.2 < (p.length : Nat)
    omega
  · intro v hv
    have hv : v ∈ [(0 : Int)] := hv
    rw [List.mem_singleton] at hv
    rw [hv]
    show 0 ≤ (0 : Int) ∧ (0 : Int) < (p.length : Nat)
    omega
  · refine ⟨List.length_replicate, fun w hw => ?_⟩
    have hw : w ∈ List.replicate (varsOf p).length two64 := hw
    rw [(List.mem_replicate.1 hw).2]
    exact two_is
  · exact List.length_map _
  · intro t ht
    have ht : t ∈ p.map fun b => codesOf p b.2.1 := ht
    obtain ⟨b, hb, rfl⟩ := List.mem_map.1 ht
    exact codesOf_ok (block_stmts (hf.2.2.2 b hb))
theorem sys_t {p : Prog} {i : Nat} {b : Block} (h : p[i]? = some b) : tAt (sysOf p) i = codesOf p b.2.1 := by
  have e : (sysOf p).T[i]? = some (codesOf p b.2.1) := by
    show (p.map fun b => codesOf p b.2.1)[i]? = _
    rw [List.getElem?_map, h]; rfl
  rw [tAt, e]; rfl
end Go.Proofs
end
section
namespace Go.Proofs
open Go.Sy
set_option maxRecDepth 20000
set_option maxHeartbeats 4000000
/-! Two systems that are alike. -/
theorem same16_spec {l : List Cd} {a a2 : Option Addr} {n c n2 k2 : Nat} {H : Hp} {K : Value → Hp → Prop} (ha : RL H a n c l) (hb : RL H a2 n2 k2 l) (hK : K (.bool true) H) : Does Tryz.prog 63 [trA a n c, trA a2 n2 k2] H K := by
  have hn := ha.n_eq
  have hn2 := hb.n_eq
  have hmx := ha.le
  refine spec_of cx_ok cx_mix rfl Tryz.func63 Tryz.call63 Tryz.ntmps63 Tryz.results63 rfl rfl ?_
  refine ⟨(fun h => absurd (nt h) (by omega)), fun _ => ?_⟩
  refine ⟨Nat, fun i => ⟨[(2, .ptr 0 0), (3, .ptr 1 0), (15, .v (.int .i64 n)), (16, .v (.int .i64 i))], [(0, .cells 98 [.v (.slice none 0 0), .v (.slice none 0 0), .v (.slice a n c)]), (1, .cells 98 [.v (.slice none 0 0), .v (.slice none 0 0), .v (.slice a2 n2 k2)])], 2⟩,
    fun i H' => H' = H ∧ i ≤ l.length, fun i => l.length - i, ⟨0, [(0, 0), (1, 1)], ?_, rfl, Nat.zero_le _⟩, ?_⟩
  · (repeat' (first | exact trivial | refine ⟨?_, ?_⟩ | exact rfl | assumption))
  rintro i H1 _ ⟨rfl, hi⟩
  refine ⟨fun h => ?_, fun h => ?_⟩
  · have hlt : i < l.length := by have := dt h; omega
    have ex := List.getElem?_eq_getElem hlt
    refine code_k ha ex fun ad q1 hh => ?_
    refine code_k hb ex fun ad2 q2 hh2 => ?_
    refine ⟨some ([], [0, 1, 2, 3, 4, 5, 6, 7, 8, 9, 10]), by kernel_rfl, ?_⟩
    refine ⟨ad, ⟨by omega, by omega, q1⟩, ?_⟩
    refine ⟨_, hh, ?_⟩
    refine ⟨ad2, ⟨by omega, by omega, q2⟩, ?_⟩
    refine ⟨_, hh2, ?_⟩
    refine ⟨(fun h => absurd h (by simp)), fun _ => ?_⟩
    refine ⟨⟨by omega, by omega⟩, i + 1, [(0, 0), (1, 1)], ?_, ⟨rfl, hlt⟩, by dsimp only; omega⟩
    (repeat' (first | exact trivial | refine ⟨?_, ?_⟩ | exact rfl | assumption))
  · refine same10_spec (x := []) (y := []) ?_ ?_ ?_
    · exact rl_nil
    · exact rl_nil
    refine ⟨fun _ => ?_, (fun h => by simp at h)⟩
    refine same10_spec (x := []) (y := []) rl_nil rl_nil ?_
    exact hK
theorem alike_spec {s : Sy3} {z y : SA} {H : Hp} {K : Value → Hp → Prop} (hz : SysR H s z) (hy : SysR H s y) (hK : K (.bool true) H) : Does Tryz.prog 22 [sysA s z, sysA s y] H K := by
  have hn := hz.t.n_eq
  have hn2 := hy.t.n_eq
  have hmx := hz.t.le
  rw [List.length_map] at hn hn2
  refine spec_of cx_ok cx_mix rfl Tryz.func22 Tryz.call22 Tryz.ntmps22 Tryz.results22 rfl rfl ?_
  refine ⟨fun _ => ?_, (fun h => by simp at h)⟩
  refine ⟨fun _ => ?_, (fun h => by simp at h)⟩
  refine ⟨fun _ => ?_, (fun h => by simp at h)⟩
  refine same_spec hz.e hy.e ?_
  refine ⟨fun _ => ?_, (fun h => by simp at h)⟩
  refine ints_spec hz.n hy.n ?_
  refine ⟨fun _ => ?_, (fun h => by simp at h)⟩
  refine same10_spec hz.i hy.i ?_
  refine ⟨fun _ => ?_, (fun h => by simp at h)⟩
  refine ⟨(fun h => absurd (nt h) (by omega)), fun _ => ?_⟩
  refine ⟨Nat, fun i => ⟨[(2, .ptr 0 0), (3, .ptr 1 0), (60, .v (.int .i64 z.tn)), (61, .v (.int .i64 i))], [(0, .cells 47 (vL (sysV s z))), (1, .cells 47 (vL (sysV s y)))], 2⟩,
    fun i H' => H' = H ∧ i ≤ s.T.length, fun i => s.T.length - i, ⟨0, [(0, 0), (1, 1)], ?_, rfl, Nat.zero_le _⟩, ?_⟩
  · (repeat' (first | exact trivial | refine ⟨?_, ?_⟩ | exact rfl | assumption))
  rintro i H1 _ ⟨rfl, hi⟩
  refine ⟨fun h => ?_, fun h => ?_⟩
  · have hlt : i < s.T.length := by have := dt h; omega
    have ex := List.getElem?_eq_getElem hlt
    refine trans_k hz.t ex fun ad a1 n1 c1 q1 hh hr => ?_
    refine trans_k hy.t ex fun ad2 a2 n2 c2 q2 hh2 hr2 => ?_
    refine ⟨some ([], [0, 1, 2, 3, 4, 5, 6, 7, 8, 9, 10, 11]), by kernel_rfl, ?_⟩
    refine ⟨ad, ⟨by omega, by omega, q1⟩, ?_⟩
    refine ⟨_, hh, ?_⟩
    refine ⟨ad2, ⟨by omega, by omega, q2⟩, ?_⟩
    refine ⟨_, hh2, ?_⟩
    refine same16_spec hr hr2 ?_
    refine ⟨(fun h => by cases h), fun _ => ?_⟩
    refine ⟨⟨by omega, by omega⟩, i + 1, [(0, 0), (1, 1)], ?_, ⟨rfl, hlt⟩, by dsimp only; omega⟩
    (repeat' (first | exact trivial | refine ⟨?_, ?_⟩ | exact rfl | assumption))
  · exact hK
end Go.Proofs
end
section
namespace Go.Proofs
open Go.Sy
set_option maxRecDepth 20000
set_option maxHeartbeats 4000000
theorem alike0_spec {H : Hp} {K : Value → Hp → Prop} (hK : K (.bool true) H) : Does Tryz.prog 22 [.agg zSys.toArray, .agg zSys.toArray] H K := by
  refine spec_of cx_ok cx_mix rfl Tryz.func22 Tryz.call22 Tryz.ntmps22 Tryz.results22 rfl rfl ?_
  refine ⟨fun _ => ?_, (fun h => by simp at h)⟩
  refine ⟨fun _ => ?_, (fun h => by simp at h)⟩
  refine ⟨fun _ => ?_, (fun h => by simp at h)⟩
  refine same_spec (l := []) (m := []) rl_nil rl_nil ?_
  refine ⟨fun _ => ?_, (fun h => by simp at h)⟩
  refine ints_spec (l := []) (m := []) rl_nil rl_nil ?_
  refine ⟨fun _ => ?_, (fun h => by simp at h)⟩
  refine same10_spec (x := []) (y := []) rl_nil rl_nil ?_
  refine ⟨fun _ => ?_, (fun h => by simp at h)⟩
  refine ⟨(fun h => absurd rfl (nt h)), fun _ => ?_⟩
  refine ⟨Nat, fun i => ⟨[(60, .v (.int .i64 (0 : Nat))), (61, .v (.int .i64 i))], [], 0⟩,
    fun i H' => H' = H ∧ i ≤ 0, fun i => 0, ⟨0, [], ?_, rfl, Nat.zero_le _⟩, ?_⟩
  · (repeat' (first | exact trivial | refine ⟨?_, ?_⟩ | exact rfl | assumption))
  rintro i H1 _ ⟨rfl, hi⟩
  refine ⟨fun h => ?_, fun h => ?_⟩
  · have := dt h; omega
  · exact hK
theorem pcodes_spec {p : Prog} (hc : cnt p < 400000) (hv : (varsOf p).length ≤ 1000000) {l : List Stmt} (hl : l.length ≤ 1000000) {a a2 : Option Addr} {n c n2 k2 : Nat} {H : Hp} {K : Value → Hp → Prop} (ha : RL H a n c p) (hb : RL H a2 n2 k2 l)
    (hK : ∀ a1 n1 c1 H', Le H H' → RL H' a1 n1 c1 (codesOf p l) → K (.slice a1 n1 c1) H') : Does Tryz.prog 20 [.agg #[.slice a n c], .slice a2 n2 k2] H K := by
  refine spec_of cx_ok cx_mix rfl Tryz.func20 Tryz.call20 Tryz.ntmps20 Tryz.results20 rfl rfl ?_
  exact codes_spec hc hv hl ha hb hK
theorem sets_spec {p : Prog} (hp : p.length ≤ 12) (hl : ∀ b ∈ p, b.2.1.length ≤ 1000000) (hc : stmtsN p ≤ 1000000) (hv : cnt p < 400000) {a : Option Addr} {n c : Nat} {H : Hp} {K : Value → Hp → Prop} (ha : RL H a n c p)
    (hbad : checkE p ≠ 0 → ∀ H', Le H H' → K (.tuple #[.slice none 0 0, .slice none 0 0, .int .i64 (checkE p)]) H')
    (hK : checkE p = 0 → ∀ a1 n1 c1 a2 n2 c2 H', Le H H' → RL H' a1 n1 c1 (solveS (sysOf p)) → RL H' a2 n2 c2 (outsS (sysOf p) (solveS (sysOf p))) → K (.tuple #[.slice a1 n1 c1, .slice a2 n2 c2, .int .i64 0]) H') :
    Does Tryz.prog 24 [.agg #[.slice a n c]] H K := by
  refine spec_of cx_ok cx_mix rfl Tryz.func24 Tryz.call24 Tryz.ntmps24 Tryz.results24 rfl rfl ?_
  refine psys_spec hp hl hc hv ha (fun he H1 hle1 => ?_) (fun he z H1 hle1 hs => ?_)
  · refine ⟨fun _ => ?_, (fun h => absurd (nf h) he)⟩
    exact hbad he _ hle1
  · have ho := sysOf_ok he
    refine ⟨(fun h => absurd rfl (nt h)), fun _ => ?_⟩
    refine lsolve_spec ho hs fun a1 n1 c1 k H2 hle2 hr2 => ?_
    refine louts_spec ho (solveS_ok ho) (hs.up hle2) hr2 fun a2 n2 c2 H3 hle3 hr3 => ?_
    exact hK he _ _ _ _ _ _ _ ((hle1.trans hle2).trans hle3) (hr2.up hle3) hr3
theorem at_spec {p : Prog} (hp : p.length ≤ 12) (hl : ∀ b ∈ p, b.2.1.length ≤ 1000000) (hc : stmtsN p ≤ 1000000) (hv : cnt p < 400000) {a : Option Addr} {n c : Nat} {i j : Int} {H : Hp} {K : Value → Hp → Prop} (ha : RL H a n c p)
    (hbad : checkE p ≠ 0 → ∀ H', Le H H' → K (.tuple #[.slice none 0 0, .int .i64 (checkE p)]) H')
    (hout : checkE p = 0 → (¬ (0 ≤ i ∧ 0 ≤ j ∧ ∃ b, p[i.toNat]? = some b ∧ i < (p.length : Nat) ∧ j ≤ (b.2.1.length : Nat))) → ∀ H', Le H H' → K (.tuple #[.slice none 0 0, .int .i64 1]) H')
    (hK : checkE p = 0 → ∀ b, p[i.toNat]? = some b → 0 ≤ i → 0 ≤ j → j ≤ (b.2.1.length : Nat) → i < (p.length : Nat) → ∀ a1 n1 c1 H', Le H H' → RL H' a1 n1 c1 (vApp (codesOf p (b.2.1.take j.toNat)) (aAt (solveS (sysOf p)) i.toNat)) → K (.tuple #[.slice a1 n1 c1, .int .i64 0]) H') :
    Does Tryz.prog 25 [.agg #[.slice a n c], .int .i64 i, .int .i64 j] H K := by
  have hn := ha.n_eq
  have hmx := ha.le
  refine spec_of cx_ok cx_mix rfl Tryz.func25 Tryz.call25 Tryz.ntmps25 Tryz.results25 rfl rfl ?_
  refine sets_spec hp hl hc hv ha (fun he H1 hle1 => ?_) (fun he a1 n1 c1 a2 n2 c2 H1 hle1 hr1 hr2 => ?_)
  · refine ⟨fun _ => ?_, (fun h => absurd (nf h) he)⟩
    exact hbad he _ hle1
  have ho := sysOf_ok he
  have hA := solveS_ok ho
  have hn1 := hr1.n_eq
  rw [hA.len] at hn1
  have hm : (sysOf p).m = p.length := rfl
  refine ⟨(fun h => absurd rfl (nt h)), fun _ => ?_⟩
  refine ⟨fun h0 => ?f0, fun h0 => ?t0⟩
  case t0 => exact hout he (fun h => absurd (dt h0) (by omega)) _ hle1
  refine ⟨fun h1 => ?f1, fun h1 => ?t1⟩
  case t1 => exact hout he (fun h => h.2.2.elim fun b hb => absurd (dt h1) (by omega)) _ hle1
  refine ⟨fun h2 => ?f2, fun h2 => ?t2⟩
  case t2 => exact hout he (fun h => absurd (dt h2) (by omega)) _ hle1
  have h0 := df h0
  have h1 := df h1
  have h2 := df h2
  have hlt : i.toNat < p.length := by omega
  refine name_k p[i.toNat] fun b hbe => ?_
  have hbb : p[i.toNat]? = some b := by rw [hbe]; exact List.getElem?_eq_getElem hlt
  have hok := check_facts he
  refine block_kI (ha.up hle1) (by omega) hbb fun ad a5 n5 c5 q1 hh hr5 hs5 ht5 => ?_
  have hn5 := hr5.n_eq
  refine ⟨ad, ⟨by omega, by omega, q1⟩, ?_⟩
  refine ⟨_, hh, ?_⟩
  refine ⟨fun h3 => ?t3, fun h3 => ?f3⟩
  case t3 =>
    refine hout he (fun h => h.2.2.elim fun b' hb' => ?_) _ hle1
    have hb := hb'.1
    rw [hbb] at hb
    cases hb
    exact absurd (dt h3) (by omega)
  have h3 := df h3
  have hAi : (solveS (sysOf p))[i.toNat]? = some (aAt (solveS (sysOf p)) i.toNat) := aAt_get hA (by rw [hm]; exact hlt)
  have hAo := aAt_ok hA (v := i.toNat) (by rw [hm]; exact hlt)
  have ei : ((i.toNat : Nat) : Int) = i := Int.toNat_of_nonneg (by omega)
  refine list_k hr1 hAi fun ad2 a6 n6 c6 q2 hh2 hr6 => ?_
  rw [ei] at hh2
  have hn6 := hr6.n_eq
  rw [hAo.1] at hn6
  refine ⟨some ([], [0, 1, 2, 3, 4, 5, 6, 7, 8, 9, 10, 11, 12, 13, 16, 17, 18, 19, 14, 15, 20, 21, 22, 23, 24]), by kernel_rfl, ?_⟩
  refine ⟨ad2, ⟨by omega, by omega, q2⟩, ?_⟩
  refine ⟨_, hh2, ?_⟩
  refine ⟨ad, ⟨by omega, by omega, q1⟩, ?_⟩
  refine ⟨_, hh, ?_⟩
  have hj0 : j.toNat ≤ n5 := by omega
  have hcut := hr5.cut (l := 0) (k := j.toNat) (Nat.zero_le _) hj0
  have hbl := hl b (by rw [hbe]; exact List.getElem_mem hlt)
  have hlt2 : ((b.2.1.take j.toNat).drop 0).length ≤ 1000000 := by rw [List.drop_zero, List.length_take]; omega
  refine ⟨⟨by omega, by omega, by have := hr5.2.1; omega⟩, ?_⟩
  refine ⟨ad2, ⟨by omega, by omega, q2⟩, ?_⟩
  refine ⟨_, hh2, ?_⟩
  refine codes_spec hv (vars_small he) hlt2 (ha.up hle1) hcut fun a7 n7 c7 H2 hle2 hr7 => ?_
  rw [List.drop_zero] at hr7
  have hr6 := hr6.up hle2
  rw [hn6] at hr6 ⊢
  refine tapply_spec (sysOf_ok he).w hAo (codesOf_ok (fun s hs => block_stmts (hok.2.2.2 b (List.mem_of_getElem? hbb)) s (List.mem_of_mem_take hs))) hr6 hr7 fun a8 n8 c8 H3 hle3 hr8 => ?_
  exact hK he b hbb (by omega) (by omega) (by omega) (by omega) _ _ _ _ ((hle1.trans hle2).trans hle3) hr8
theorem rat_spec {p : Prog} (he : checkE p = 0) (hl : ∀ b ∈ p, b.2.1.length ≤ 1000000) (hv : cnt p < 400000) {a a1 : Option Addr} {n c n1 c1 : Nat} {i j : Int} {H : Hp} {K : Value → Hp → Prop} (ha : RL H a n c p)
    {x : Wd} (hx : okW (varsOf p).length x) (hr : RL H a1 n1 c1 x) {b : Block} (hbb : p[i.toNat]? = some b) (h0 : 0 ≤ i) (h1 : i < (p.length : Nat)) (h2 : 0 ≤ j) (h3 : j ≤ (b.2.1.length : Nat))
    (hK : ∀ a1 n1 c1 H', Le H H' → RL H' a1 n1 c1 (vApp (codesOf p (b.2.1.take j.toNat)) x) → K (.slice a1 n1 c1) H') :
    Does Tryz.prog 30 [.agg #[.slice a n c], .slice a1 n1 c1, .int .i64 i, .int .i64 j] H K := by
  have hn := ha.n_eq
  have hmx := ha.le
  have hok := check_facts he
  refine spec_of cx_ok cx_mix rfl Tryz.func30 Tryz.call30 Tryz.ntmps30 Tryz.results30 rfl rfl ?_
  refine block_kI ha h0 hbb fun ad a5 n5 c5 q1 hh hr5 hs5 ht5 => ?_
  have hn5 := hr5.n_eq
  have hj0 : j.toNat ≤ n5 := by omega
  have hcut := hr5.cut (l := 0) (k := j.toNat) (Nat.zero_le _) hj0
  have hbl := hl b (List.mem_of_getElem? hbb)
  have hlt2 : ((b.2.1.take j.toNat).drop 0).length ≤ 1000000 := by rw [List.drop_zero, List.length_take]; omega
  refine ⟨some ([], [0, 1, 2, 3, 4, 5, 6, 7, 8, 11, 9, 10, 12, 13]), by kernel_rfl, ?_⟩
  refine ⟨ad, ⟨by omega, by omega, q1⟩, ?_⟩
  refine ⟨_, hh, ?_⟩
  refine ⟨⟨by omega, by omega, by have := hr5.2.1; omega⟩, ?_⟩
  refine rcodes_spec hv (vars_small he) hlt2 ha hcut fun a7 n7 c7 H2 hle2 hr7 => ?_
  rw [List.drop_zero] at hr7
  refine rapply_spec (w := (varsOf p).length) (by omega) hx (codesOf_ok (fun s hs => block_stmts (hok.2.2.2 b (List.mem_of_getElem? hbb)) s (List.mem_of_mem_take hs))) (hr.up hle2) hr7 fun a8 n8 c8 H3 hle3 hr8 => ?_
  exact hK _ _ _ _ (hle2.trans hle3) hr8
end Go.Proofs
end
section
namespace Go.Proofs
open Go.Sy
set_option maxRecDepth 20000
set_option maxHeartbeats 4000000
/-! Folding of expressions (from V5, V6). -/
def nAt (op : Int) : Nat := if op = 0 ∨ op = 4 then 1 else if op = 1 ∨ op = 2 ∨ op = 3 then 2 else 0
theorem atomsOf_len (x : Expr) : (atomsOf x).length = nAt x.1 := by
  unfold atomsOf nAt op1 op2
  by_cases h0 : x.1 = 0 ∨ x.1 = 4
  · rw [if_pos h0, if_pos (by simpa using h0)]; rfl
  · rw [if_neg h0, if_neg (by simpa using h0)]
    by_cases h1 : x.1 = 1 ∨ x.1 = 2 ∨ x.1 = 3
    · rw [if_pos h1, if_pos (by simpa [or_assoc] using h1)]; rfl
    · rw [if_neg h1, if_neg (by simpa [or_assoc] using h1)]; rfl
theorem vatoms_spec {x : Expr} (hx : exprR x) {H : Hp} {K : Value → Hp → Prop} (hK : ∀ a c H', Le H H' → K (.slice a (nAt x.1) c) H') : Does Tryz.prog 125 [exprA x] H K := by
  refine patoms_spec hx fun a n c H' hle hr => ?_
  have hn := hr.n_eq
  rw [atomsOf_len] at hn
  rw [hn]
  exact hK _ _ _ hle
theorem vratoms_spec {x : Expr} (hx : exprR x) {H : Hp} {K : Value → Hp → Prop} (hK : ∀ a c H', Le H H' → K (.slice a (nAt x.1) c) H') : Does Tryz.prog 128 [exprA x] H K := by
  refine ratoms_spec hx fun a n c H' hle hr => ?_
  have hn := hr.n_eq
  rw [atomsOf_len] at hn
  rw [hn]
  exact hK _ _ _ hle
def foldA (p : Prog) (known : List UInt64) (a : Atm) : Atm :=
  let i := idxS a.1.l (varsOf p) 0
  if 0 ≤ i ∧ i < known.length then (match kNum (known[i.toNat]?.getD 0).toNat with
    | some n => (⟨[]⟩, n)
    | none => a) else a
theorem kNum_R {w : Nat} {n : Nm} (h : kNum w = some n) : i64R n.1 ∧ i64R n.2 := by
  unfold kNum at h
  split at h
  · simp only [Option.some.injEq] at h
    subst h
    exact ⟨⟨by have := wrp_le ((w / 4 % 65536 : Nat) : Int); dsimp only; omega, by have := wrp_le ((w / 4 % 65536 : Nat) : Int); dsimp only; omega⟩, ⟨by have := wrp_le ((w / 4 / 65536 : Nat) : Int); dsimp only; omega, by have := wrp_le ((w / 4 / 65536 : Nat) : Int); dsimp only; omega⟩⟩
  · cases h
theorem foldA_R {p : Prog} {known : List UInt64} {x : Atm} (h : atmR x) : atmR (foldA p known x) := by
  unfold foldA
  dsimp only
  split
  · split
    · rename_i n hn
      exact ⟨Nat.zero_le _, (kNum_R hn).1, (kNum_R hn).2⟩
    · exact h
  · exact h
theorem vatom_spec {p : Prog} {known : List UInt64} {x : Atm} {a ka : Option Addr} {n c kn kc : Nat} {H : Hp} {K : Value → Hp → Prop} (ha : RL H a n c p) (hk : RL H ka kn kc known) (hc : cnt p < 400000)
    (hK : ∀ H', Le H H' → K (atmA (foldA p known x)) H') : Does Tryz.prog 73 [.agg #[.slice a n c], .slice ka kn kc, atmA x] H K := by
  refine spec_of cx_ok cx_mix rfl Tryz.func73 Tryz.call73 Tryz.ntmps73 Tryz.results73 rfl rfl ?_
  refine var_spec ha hc fun H1 hle1 => ?_
  have hK := hK _ (Le.refl H)
  have hrg := idxS_range x.1.l (varsOf p) 0 (by omega)
  have hkn := hk.n_eq
  unfold foldA at hK
  obtain ⟨i, hi⟩ : ∃ i, i = idxS x.1.l (varsOf p) 0 := ⟨_, rfl⟩
  rw [← hi] at hK hrg ⊢
  refine ⟨fun h => ?_, fun h => ?_⟩
  · have h0 : 0 ≤ i := nf h
    have e0 : max i 0 = i := by omega
    refine ⟨fun h => ?_, fun h => ?_⟩
    · have h1 := dt h
      rw [e0] at h1
      simp only [show ¬ (0 ≤ i ∧ i < (known.length : Int)) by omega, if_false] at hK
      exact hK
    · have h1 := df h
      rw [e0] at h1
      have hlt : i.toNat < known.length := by omega
      have hx := List.getElem?_eq_getElem hlt
      simp only [show (0 ≤ i ∧ i < (known.length : Int)) by omega, and_self, if_true, hx, Option.getD_some] at hK
      have hel := hk.elem hx
      obtain ⟨ad, cs, e1, hh, r1⟩ := hel
      have hcs : cs = [.int .u64 known[i.toNat].toNat] := r1
      rw [hcs] at hh
      have e2 : ((i.toNat : Nat) : Int) = max i 0 := by omega
      rw [e2] at hh
      refine ⟨ad, ⟨by omega, by omega, e1⟩, ?_⟩
      refine ⟨_, hh, ?_⟩
      cases hm : kNum known[i.toNat].toNat with
      | none =>
        rw [hm] at hK
        refine knum_spec known[i.toNat].toNat_lt ?_
        rw [hm]
        exact ⟨fun _ => hK, fun h => by cases h⟩
      | some n =>
        rw [hm] at hK
        refine knum_spec known[i.toNat].toNat_lt ?_
        rw [hm]
        exact ⟨(fun h => by cases h), fun _ => hK⟩
  · have h0 : ¬ 0 ≤ i := fun hh => by rw [decide_eq_true hh] at h; cases h
    simp only [show ¬ (0 ≤ i ∧ i < (known.length : Int)) by omega, if_false] at hK
    exact hK
theorem vratom_spec {p : Prog} {known : List UInt64} {x : Atm} {a ka : Option Addr} {n c kn kc : Nat} {H : Hp} {K : Value → Hp → Prop} (ha : RL H a n c p) (hk : RL H ka kn kc known) (hc : cnt p < 400000)
    (hK : ∀ H', Le H H' → K (atmA (foldA p known x)) H') : Does Tryz.prog 75 [.agg #[.slice a n c], .slice ka kn kc, atmA x] H K := by
  refine spec_of cx_ok cx_mix rfl Tryz.func75 Tryz.call75 Tryz.ntmps75 Tryz.results75 rfl rfl ?_
  refine rvar_spec ha hc fun H1 hle1 => ?_
  have hK := hK _ (Le.refl H)
  have hrg := idxS_range x.1.l (varsOf p) 0 (by omega)
  have hkn := hk.n_eq
  unfold foldA at hK
  obtain ⟨i, hi⟩ : ∃ i, i = idxS x.1.l (varsOf p) 0 := ⟨_, rfl⟩
  rw [← hi] at hK hrg ⊢
  refine ⟨fun h => ?_, fun h => ?_⟩
  · have h0 : 0 ≤ i := dt h
    refine ⟨fun h => ?_, fun h => ?_⟩
    · have h1 := dt h
      have hlt : i.toNat < known.length := by omega
      have hx := List.getElem?_eq_getElem hlt
      simp only [show (0 ≤ i ∧ i < (known.length : Int)) by omega, and_self, if_true, hx, Option.getD_some] at hK
      have hel := hk.elem hx
      obtain ⟨ad, cs, e1, hh, r1⟩ := hel
      have hcs : cs = [.int .u64 known[i.toNat].toNat] := r1
      rw [hcs] at hh
      have e2 : ((i.toNat : Nat) : Int) = i := by omega
      rw [e2] at hh
      refine ⟨ad, ⟨by omega, by omega, e1⟩, ?_⟩
      refine ⟨_, hh, ?_⟩
      cases hm : kNum known[i.toNat].toNat with
      | none =>
        rw [hm] at hK
        refine rnum_spec known[i.toNat].toNat_lt ?_
        rw [hm]
        exact ⟨(fun h => by cases h), fun _ => hK⟩
      | some n =>
        rw [hm] at hK
        refine rnum_spec known[i.toNat].toNat_lt ?_
        rw [hm]
        exact ⟨fun _ => hK, fun h => by cases h⟩
    · have h1 := df h
      simp only [show ¬ (0 ≤ i ∧ i < (known.length : Int)) by omega, if_false] at hK
      exact hK
  · have h0 : ¬ 0 ≤ i := fun hh => by rw [decide_eq_true hh] at h; cases h
    simp only [show ¬ (0 ≤ i ∧ i < (known.length : Int)) by omega, if_false] at hK
    exact hK
theorem change_spec {p : Prog} {known : List UInt64} {x : Expr} {a ka : Option Addr} {n c kn kc : Nat} {b : Bool} {H : Hp} {K : SV → St → Hp → Prop} (ha : RL H a n c p) (hk : RL H ka kn kc known) (hc : cnt p < 400000)
    (hK : ∀ b', b' = (b && decide ((foldA p known x.2.1).1.l = [])) → K (.tup []) ⟨[], [(0, .cells 73 (vL (exprV (x.1, foldA p known x.2.1, x.2.2)))), (1, .cells 24 [.v (.slice a n c)]), (2, .cells 44 [.v (.slice ka kn kc)]), (3, .cells 4 [.kb b'])], 4⟩ H) :
    DoesG Tryz.prog 124 [.ptr 0 1, .ptr 1 0, .ptr 2 0, .ptr 3 0] [(0, .cells 73 (vL (exprV x))), (1, .cells 24 [.v (.slice a n c)]), (2, .cells 44 [.v (.slice ka kn kc)]), (3, .cells 4 [.kb b])] 4 H K := by
  refine spec_ofG cx_ok cx_mix Tryz.func124 Tryz.call124 Tryz.ntmps124 Tryz.results124 rfl rfl ?_
  refine ⟨some ([0], [0, 1, 2, 3, 4, 5, 6, 7, 8]), by kernel_rfl, ?_⟩
  refine vatom_spec ha hk hc fun H1 hle1 => ?_
  obtain ⟨y, hy⟩ : ∃ y, y = foldA p known x.2.1 := ⟨_, rfl⟩
  rw [← hy] at hK ⊢
  cases b with
  | true =>
    exact ⟨.tup [], [(0, .cells 73 (vL (exprV (x.1, y, x.2.2)))), (1, .cells 24 [.v (.slice a n c)]), (2, .cells 44 [.v (.slice ka kn kc)]), (3, .cells 4 [.kb (decide (y.1.l = []))])], 4, [(0, 0), (1, 1), (2, 2), (3, 3)],
      ⟨⟨⟨rfl, rfl⟩, trivial⟩, ⟨⟨rfl, rfl, rfl, rfl, rfl, rfl, rfl, trivial⟩, ⟨rfl, trivial⟩, ⟨rfl, trivial⟩, ⟨rfl, trivial⟩, trivial⟩⟩, hK _ rfl⟩
  | false =>
    exact ⟨.tup [], [(0, .cells 73 (vL (exprV (x.1, y, x.2.2)))), (1, .cells 24 [.v (.slice a n c)]), (2, .cells 44 [.v (.slice ka kn kc)]), (3, .cells 4 [.kb false])], 4, [(0, 0), (1, 1), (2, 2), (3, 3)],
      ⟨⟨⟨rfl, rfl⟩, trivial⟩, ⟨⟨rfl, rfl, rfl, rfl, rfl, rfl, rfl, trivial⟩, ⟨rfl, trivial⟩, ⟨rfl, trivial⟩, ⟨rfl, trivial⟩, trivial⟩⟩, hK _ rfl⟩
theorem change2_spec {p : Prog} {known : List UInt64} {x : Expr} {a ka : Option Addr} {n c kn kc : Nat} {b : Bool} {H : Hp} {K : SV → St → Hp → Prop} (ha : RL H a n c p) (hk : RL H ka kn kc known) (hc : cnt p < 400000)
    (hK : ∀ b', b' = (b && decide ((foldA p known x.2.2).1.l = [])) → K (.tup []) ⟨[], [(0, .cells 73 (vL (exprV (x.1, x.2.1, foldA p known x.2.2)))), (1, .cells 24 [.v (.slice a n c)]), (2, .cells 44 [.v (.slice ka kn kc)]), (3, .cells 4 [.kb b'])], 4⟩ H) :
    DoesG Tryz.prog 124 [.ptr 0 4, .ptr 1 0, .ptr 2 0, .ptr 3 0] [(0, .cells 73 (vL (exprV x))), (1, .cells 24 [.v (.slice a n c)]), (2, .cells 44 [.v (.slice ka kn kc)]), (3, .cells 4 [.kb b])] 4 H K := by
  refine spec_ofG cx_ok cx_mix Tryz.func124 Tryz.call124 Tryz.ntmps124 Tryz.results124 rfl rfl ?_
  refine ⟨some ([0], [0, 1, 2, 3, 4, 5, 6, 7, 8]), by kernel_rfl, ?_⟩
  refine vatom_spec ha hk hc fun H1 hle1 => ?_
  obtain ⟨y, hy⟩ : ∃ y, y = foldA p known x.2.2 := ⟨_, rfl⟩
  rw [← hy] at hK ⊢
  cases b with
  | true =>
    exact ⟨.tup [], [(0, .cells 73 (vL (exprV (x.1, x.2.1, y)))), (1, .cells 24 [.v (.slice a n c)]), (2, .cells 44 [.v (.slice ka kn kc)]), (3, .cells 4 [.kb (decide (y.1.l = []))])], 4, [(0, 0), (1, 1), (2, 2), (3, 3)],
      ⟨⟨⟨rfl, rfl⟩, trivial⟩, ⟨⟨rfl, rfl, rfl, rfl, rfl, rfl, rfl, trivial⟩, ⟨rfl, trivial⟩, ⟨rfl, trivial⟩, ⟨rfl, trivial⟩, trivial⟩⟩, hK _ rfl⟩
  | false =>
    exact ⟨.tup [], [(0, .cells 73 (vL (exprV (x.1, x.2.1, y)))), (1, .cells 24 [.v (.slice a n c)]), (2, .cells 44 [.v (.slice ka kn kc)]), (3, .cells 4 [.kb false])], 4, [(0, 0), (1, 1), (2, 2), (3, 3)],
      ⟨⟨⟨rfl, rfl⟩, trivial⟩, ⟨⟨rfl, rfl, rfl, rfl, rfl, rfl, rfl, trivial⟩, ⟨rfl, trivial⟩, ⟨rfl, trivial⟩, ⟨rfl, trivial⟩, trivial⟩⟩, hK _ rfl⟩
def foldE (p : Prog) (known : List UInt64) (x : Expr) : Expr :=
  let y1 := if 0 < nAt x.1 then foldA p known x.2.1 else x.2.1
  let y2 := if 1 < nAt x.1 then foldA p known x.2.2 else x.2.2
  if 0 < nAt x.1 ∧ y1.1.l = [] ∧ (nAt x.1 = 1 ∨ y2.1.l = []) then (0, (⟨[]⟩, nOp x.1 y1.2 y2.2), (⟨[]⟩, (0, 0))) else (x.1, y1, y2)
theorem nAt_is (op : Int) : opIs op = decide (0 < nAt op) := by
  unfold opIs nAt
  by_cases h : op = 0 ∨ op = 4
  · rw [if_pos h]; exact decide_eq_true (by omega)
  · rw [if_neg h]
    by_cases h' : op = 1 ∨ op = 2 ∨ op = 3
    · rw [if_pos h']; exact decide_eq_true (by omega)
    · rw [if_neg h']; exact decide_eq_false (by omega)
theorem vexpr_spec {p : Prog} {known : List UInt64} {x : Expr} (hx : exprR x) {a ka : Option Addr} {n c kn kc : Nat} {H : Hp} {K : Value → Hp → Prop} (ha : RL H a n c p) (hk : RL H ka kn kc known) (hc : cnt p < 400000)
    (hK : ∀ H', Le H H' → K (exprA (foldE p known x)) H') : Does Tryz.prog 70 [.agg #[.slice a n c], .slice ka kn kc, exprA x] H K := by
  refine spec_of cx_ok cx_mix rfl Tryz.func70 Tryz.call70 Tryz.ntmps70 Tryz.results70 rfl rfl ?_
  have hop := nAt_is x.1
  refine vatoms_spec hx fun a1 c1 H1 hle1 => ?_
  refine ⟨fun h => ?_, fun h => ?_⟩
  · have h0 : 0 < nAt x.1 := by have := dt h; omega
    refine ⟨[2, 0, 1, 4], rfl, ?_⟩
    refine change_spec (ha.up hle1) (hk.up hle1) hc fun b hb => ?_
    obtain ⟨y1, hy1⟩ : ∃ y, y = foldA p known x.2.1 := ⟨_, rfl⟩
    rw [← hy1] at hb ⊢
    refine vatoms_spec (x := (x.1, y1, x.2.2)) ⟨hx.1, by rw [hy1]; exact foldA_R hx.2.1, hx.2.2⟩ fun a2 c2 H2 hle2 => ?_
    have hK := hK _ (hle1.trans hle2)
    refine ⟨fun h => ?_, fun h => ?_⟩
    · have h1 : 1 < nAt x.1 := by have := dt h; simp only at this; omega
      refine ⟨[2, 0, 1, 4], rfl, ?_⟩
      refine change2_spec (x := (x.1, y1, x.2.2)) (ha.up (hle1.trans hle2)) (hk.up (hle1.trans hle2)) hc fun b' hb' => ?_
      refine gop_spec (a := y1.2) (b := (foldA p known x.2.2).2) ?_
      rw [hop, decide_eq_true h0]
      have hE : foldE p known x = if y1.1.l = [] ∧ (foldA p known x.2.2).1.l = [] then (0, (⟨[]⟩, nOp x.1 y1.2 (foldA p known x.2.2).2), (⟨[]⟩, (0, 0))) else (x.1, y1, foldA p known x.2.2) := by
        unfold foldE
        simp only [h0, h1, if_true, ← hy1, true_and, show ¬ nAt x.1 = 1 by omega, false_or]
      rw [hE] at hK
      cases b' with
      | true =>
        have hb2 : y1.1.l = [] ∧ (foldA p known x.2.2).1.l = [] := by rw [hb] at hb'; simpa using hb'.symm
        rw [if_pos hb2] at hK
        exact ⟨(fun h => by cases h), fun _ => hK⟩
      | false =>
        have hb2 : ¬ (y1.1.l = [] ∧ (foldA p known x.2.2).1.l = []) := by
          rw [hb] at hb'
          intro hh
          simp [hh.1, hh.2] at hb'
        rw [if_neg hb2] at hK
        exact hK
    · have h1 : ¬ 1 < nAt x.1 := by have := df h; simp only at this; omega
      refine gop_spec (a := y1.2) (b := x.2.2.2) ?_
      rw [hop, decide_eq_true h0]
      have hE : foldE p known x = if y1.1.l = [] then (0, (⟨[]⟩, nOp x.1 y1.2 x.2.2.2), (⟨[]⟩, (0, 0))) else (x.1, y1, x.2.2) := by
        have hn1 : nAt x.1 = 1 := by omega
        unfold foldE
        rw [hn1, ← hy1]
        simp only [show (0 : Nat) < 1 by decide, show ¬ (1 : Nat) < 1 by decide, if_true, if_false, true_and, true_or, and_true]
      rw [hE] at hK
      cases b with
      | true =>
        have hb2 : y1.1.l = [] := by simpa using hb.symm
        rw [if_pos hb2] at hK
        exact ⟨(fun h => by cases h), fun _ => hK⟩
      | false =>
        have hb2 : ¬ y1.1.l = [] := by
          intro hh
          simp [hh] at hb
        rw [if_neg hb2] at hK
        exact hK
  · have h0 : ¬ 0 < nAt x.1 := by have := df h; omega
    have hE : foldE p known x = x := by
      unfold foldE
      simp only [h0, show ¬ 1 < nAt x.1 by omega, if_false, false_and]
    refine vatoms_spec hx fun a2 c2 H2 hle2 => ?_
    have hK := hK _ (hle1.trans hle2)
    rw [hE] at hK
    refine ⟨fun h => ?_, fun h => ?_⟩
    · have := dt h; omega
    · refine gop_spec (a := x.2.1.2) (b := x.2.2.2) ?_
      rw [hop, decide_eq_false h0]
      exact ⟨fun _ => hK, fun h => by cases h⟩
theorem vrexpr_spec {p : Prog} {known : List UInt64} {x : Expr} (hx : exprR x) {a ka : Option Addr} {n c kn kc : Nat} {H : Hp} {K : Value → Hp → Prop} (ha : RL H a n c p) (hk : RL H ka kn kc known) (hc : cnt p < 400000)
    (hK : ∀ H', Le H H' → K (exprA (foldE p known x)) H') : Does Tryz.prog 74 [.agg #[.slice a n c], .slice ka kn kc, exprA x] H K := by
  refine spec_of cx_ok cx_mix rfl Tryz.func74 Tryz.call74 Tryz.ntmps74 Tryz.results74 rfl rfl ?_
  have hop := nAt_is x.1
  refine vratoms_spec hx fun a1 c1 H1 hle1 => ?_
  have hK := hK _ hle1
  refine ⟨fun h => ?_, fun h => ?_⟩
  · have h0 : 0 < nAt x.1 := by have := dt h; omega
    refine vratom_spec (ha.up hle1) (hk.up hle1) hc fun H2 hle2 => ?_
    obtain ⟨y1, hy1⟩ : ∃ y, y = foldA p known x.2.1 := ⟨_, rfl⟩
    rw [← hy1]
    refine ⟨fun h => ?_, fun h => ?_⟩
    · have h1 : 1 < nAt x.1 := by have := dt h; omega
      refine vratom_spec (ha.up hle1) (hk.up hle1) hc fun H3 hle3 => ?_
      have hE : foldE p known x = if y1.1.l = [] ∧ (foldA p known x.2.2).1.l = [] then (0, (⟨[]⟩, nOp x.1 y1.2 (foldA p known x.2.2).2), (⟨[]⟩, (0, 0))) else (x.1, y1, foldA p known x.2.2) := by
        unfold foldE
        simp only [h0, h1, if_true, ← hy1, true_and, show ¬ nAt x.1 = 1 by omega, false_or]
      rw [hE] at hK
      obtain ⟨y2, hy2⟩ : ∃ y, y = foldA p known x.2.2 := ⟨_, rfl⟩
      rw [← hy2] at hK ⊢
      have hA : ∀ q : Prop, ∀ [Decidable q], decide q = !true → ¬ q := fun q _ h hq => by rw [decide_eq_true hq] at h; cases h
      refine ⟨fun _ => ?_, fun h => absurd (show ((0 : Int) < (nAt x.1 : Int)) by omega) (hA _ h)⟩
      refine ⟨fun h => ?_, fun h => ?_⟩
      · have v1 : y1.1.l = [] := dt h
        refine ⟨fun h => ?_, fun h => ?_⟩
        · refine ⟨fun h => ?_, fun h => ?_⟩
          · have v2 : y2.1.l = [] := dt h
            rw [if_pos ⟨v1, v2⟩] at hK
            refine rop_spec (a := y1.2) (b := y2.2) ?_
            exact hK
          · have v2 : ¬ y2.1.l = [] := df h
            rw [if_neg (fun hh => v2 hh.2)] at hK
            exact hK
        · have h : decide (((nAt x.1 : Nat) : Int) = 1) = true := by cases hh : decide (((nAt x.1 : Nat) : Int) = 1) <;> simp_all
          have := dt h; omega
      · have v1 : ¬ y1.1.l = [] := hA _ h
        rw [if_neg (fun hh => v1 hh.1)] at hK
        exact hK
    · have h1 : ¬ 1 < nAt x.1 := by have := df h; omega
      have hE : foldE p known x = if y1.1.l = [] then (0, (⟨[]⟩, nOp x.1 y1.2 x.2.2.2), (⟨[]⟩, (0, 0))) else (x.1, y1, x.2.2) := by
        have hn1 : nAt x.1 = 1 := by omega
        unfold foldE
        rw [hn1, ← hy1]
        simp only [show (0 : Nat) < 1 by decide, show ¬ (1 : Nat) < 1 by decide, if_true, if_false, true_and, true_or, and_true]
      rw [hE] at hK
      have hA : ∀ q : Prop, ∀ [Decidable q], decide q = !true → ¬ q := fun q _ h hq => by rw [decide_eq_true hq] at h; cases h
      refine ⟨fun _ => ?_, fun h => absurd (show ((0 : Int) < (nAt x.1 : Int)) by omega) (hA _ h)⟩
      refine ⟨fun h => ?_, fun h => ?_⟩
      · have v1 : y1.1.l = [] := dt h
        rw [if_pos v1] at hK
        refine ⟨fun h => ?_, fun h => ?_⟩
        · have := df h; omega
        · refine rop_spec (a := y1.2) (b := x.2.2.2) ?_
          exact hK
      · have v1 : ¬ y1.1.l = [] := hA _ h
        rw [if_neg v1] at hK
        exact hK
  · have h0 : ¬ 0 < nAt x.1 := by have := df h; omega
    have hE : foldE p known x = x := by
      unfold foldE
      simp only [h0, show ¬ 1 < nAt x.1 by omega, if_false, false_and]
    rw [hE] at hK
    refine ⟨fun h => ?_, fun h => ?_⟩
    · have := dt h; omega
    · have hA : ∀ q : Prop, ∀ [Decidable q], decide q = !true → ¬ q := fun q _ h hq => by rw [decide_eq_true hq] at h; cases h
      refine ⟨fun h => ?_, fun h => ?_⟩
      · have := dt h; omega
      · exact hK
end Go.Proofs
end
section
namespace Go.Proofs
open Go.Sy
set_option maxRecDepth 20000
set_option maxHeartbeats 4000000
/-! The example, and PropSystems. -/
def stX : Stmt := (1, ⟨[120]⟩, 3, (⟨[]⟩, 2, 0), (⟨[]⟩, 3, 0))
def blX : Block := (⟨[97]⟩, [stX], (3, za, ⟨[]⟩, ⟨[]⟩))
def progX : Prog := [blX]
theorem checkE_progX : checkE progX = 0 := by decide +kernel
theorem outs_progX : outsS (sysOf progX) (solveS (sysOf progX)) = [[UInt64.ofNat (kOf (6, 0))]] := by decide +kernel
theorem stX_R : stmtR stX := ⟨⟨by decide, by decide⟩, Nat.le_of_lt_succ (by decide), ⟨by decide, by decide⟩, ⟨Nat.zero_le _, ⟨by decide, by decide⟩, ⟨by decide, by decide⟩⟩, ⟨Nat.zero_le _, ⟨by decide, by decide⟩, ⟨by decide, by decide⟩⟩⟩
theorem stmt_mk {H : Hp} {s : Stmt} (h : stmtR s) : Enc.R H (.int .i64 s.1 :: .string (bs s.2.1.l) :: .int .i64 s.2.2.1 :: (atmV s.2.2.2.1 ++ atmV s.2.2.2.2)) s :=
  ⟨[.int .i64 s.1], _, rfl, ⟨rfl, h.1⟩, [.string (bs s.2.1.l)], _, rfl, ⟨rfl, h.2.1⟩, [.int .i64 s.2.2.1], atmV s.2.2.2.1 ++ atmV s.2.2.2.2, rfl, ⟨rfl, h.2.2.1⟩, atmV s.2.2.2.1, atmV s.2.2.2.2, rfl, atm_mk h.2.2.2.1, atm_mk h.2.2.2.2⟩
theorem awake41_spec {H : Hp} {K : Value → Hp → Prop} (hK : ∀ H', Le H H' → K (.bool true) H') : Does Tryz.prog 18 [] H K := by
  refine spec_of cx_ok cx_mix rfl Tryz.func18 Tryz.call18 Tryz.ntmps18 Tryz.results18 rfl rfl ?_
  intro x H1 hle1 hx
  have hrs : RC (α := Stmt) H1 _ [stX] := RC.nil.snoc (stmt_mk stX_R)
  refine of_row_k (α := Stmt) hx hrs fun sa sn sc ex hr1 => ?_
  subst ex
  intro y H2 hle2 hy
  have hrb : RC (α := Block) H2 _ progX := RC.nil.snoc (block_mk (b := blX) (hr1.up hle2.le) (Nat.le_of_lt_succ (by decide)) ⟨⟨by decide, by decide⟩, za_R, Nat.zero_le _, Nat.zero_le _⟩)
  refine of_row_k (α := Block) hy hrb fun a n c ey hr => ?_
  subst ey
  have hle := hle1.le.trans hle2.le
  refine sets_spec (p := progX) (by decide) (by decide) (by decide) (by decide) hr (fun he => absurd checkE_progX he) (fun _ a1 n1 c1 a2 n2 c2 H3 hle3 hr3 hr4 => ?_)
  rw [outs_progX] at hr4
  have hn4 : n2 = 1 := hr4.n_eq
  refine list_k hr4 (i := 0) (x := [UInt64.ofNat (kOf (6, 0))]) rfl fun ad a5 n5 c5 q1 hh hr5 => ?_
  have hn5 : n5 = 1 := hr5.n_eq
  refine word_k hr5 (i := 0) (x := UInt64.ofNat (kOf (6, 0))) rfl fun ad2 q2 hh2 _ => ?_
  refine ⟨some ([], [0, 1, 2, 3, 4, 5, 6, 7, 8, 9, 10, 11, 12, 13, 14, 15, 16, 17]), by kernel_rfl, ?_⟩
  refine ⟨fun _ => ?_, fun h => absurd rfl (df h)⟩
  refine ⟨fun _ => ?_, fun h => absurd (by rw [hn4]; rfl) (df h)⟩
  refine ⟨ad, ⟨by omega, by omega, q1⟩, ?_⟩
  refine ⟨_, hh, ?_⟩
  refine ⟨ad2, ⟨by omega, by omega, q2⟩, ?_⟩
  refine ⟨_, hh2, ?_⟩
  refine rkof_spec (a := (6, 0)) ?_
  exact kbool (hK _ (hle.trans hle3)) (by decide +kernel)
theorem zt_R : termR (0, za, ⟨[]⟩, ⟨[]⟩) := ⟨⟨by decide, by decide⟩, za_R, Nat.zero_le _, Nat.zero_le _⟩
/-- PropSystems. -/
theorem PropSystems_spec {p : Prog} {l : List Stmt} {a b : Option Addr} {n c m k : Nat} {H : Hp} {K : Value → Hp → Prop} (ha : RL H a n c p) (hb : RL H b m k l) (hK : ∀ H', Le H H' → K (.bool true) H') : Does Tryz.prog 5 [.agg #[.slice a n c], .slice b m k] H K := by
  have hm := hb.n_eq
  refine spec_of cx_ok cx_mix rfl Tryz.func5 Tryz.call5 Tryz.ntmps5 Tryz.results5 rfl rfl ?_
  refine awake41_spec fun _ _ => ?_
  refine ⟨(fun h => by cases h), fun _ => ?_⟩
  refine small4_spec ha fun t ht => ?_
  refine ⟨fun h => ?f0, fun h => ?t0⟩
  case t0 => exact hK _ (Le.refl H)
  have hb4 := ht (by simpa using h)
  have hp := hb4.1
  have hl : ∀ b ∈ p, b.2.1.length ≤ 1000000 := fun b h => by have := (hb4.2 b h).1.1; omega
  have hc : stmtsN p ≤ 1000000 := small_stmts hb4
  have hv : cnt p < 400000 := small_cnt hb4
  intro y H1 hle1 hy
  have hrb : RC (α := Block) H1 _ [((⟨[]⟩, l, (0, za, ⟨[]⟩, ⟨[]⟩)) : Block)] := RC.nil.snoc (block_mk (b := (⟨[]⟩, l, (0, za, ⟨[]⟩, ⟨[]⟩))) (hb.up hle1.le) (Nat.zero_le _) zt_R)
  refine of_row_k (α := Block) hy hrb fun ra rn rc ey hr => ?_
  subst ey
  refine small4_spec hr fun t2 ht2 => ?_
  refine ⟨fun _ => hK _ (Le.refl H), fun h2 => ?_⟩
  have hb5 := ht2 (by simpa using h2)
  have hll : l.length ≤ 12 := (hb5.2 _ (List.mem_singleton.2 rfl)).1.1
  have hvl : (varsOf p).length ≤ 1000000 := by
    have := vars_len p []
    rw [← varsOf, List.length_nil] at this
    omega
  refine psys_spec hp hl hc hv ha (fun he H2 hle2 => ?_) (fun he z H2 hle2 hs => ?_)
  · refine ⟨some ([], [0, 1, 3, 4, 2, 5, 6, 7]), by kernel_rfl, ?_⟩
    refine pcodes_spec hv hvl (by omega) (ha.up hle2) (hb.up hle2) fun a1 n1 c1 H3 hle3 hr1 => ?_
    refine rcodes_spec hv hvl (by omega) ((ha.up hle2).up hle3) ((hb.up hle2).up hle3) fun a2 n2 c2 H4 hle4 hr2 => ?_
    have hr1 := hr1.up hle4
    have hn1 := hr1.n_eq
    have hn2 := hr2.n_eq
    have hle := (hle2.trans hle3).trans hle4
    have hmx := hr1.le
    refine ⟨(fun h => absurd (nt h) (by omega)), fun _ => ?_⟩
    refine ⟨Nat, fun i => ⟨[(2, .ptr 0 0), (5, .ptr 1 0), (6, .v (.int .i64 (checkE p))), (7, .v (.slice a1 n1 c1)), (8, .v (.slice a2 n2 c2)), (41, .v (.int .i64 n1)), (42, .v (.int .i64 i))], [(0, .cells 24 [.v (.slice a n c)]), (1, .cells 47 (vL (zSys)))], 2⟩,
      fun i H' => H' = H4 ∧ i ≤ n1, fun i => n1 - i, ⟨0, [(0, 0), (1, 2)], ?_, rfl, Nat.zero_le _⟩, ?_⟩
    · (repeat' (first | exact trivial | refine ⟨?_, ?_⟩ | exact rfl | assumption))
    rintro i H5 _ ⟨rfl, hi⟩
    refine ⟨fun h => ?_, fun h => ?_⟩
    · have hlt : i < (codesOf p l).length := by have := dt h; omega
      have ex := List.getElem?_eq_getElem hlt
      refine code_k hr1 ex fun ad q1 hh => ?_
      refine code_k hr2 ex fun ad2 q2 hh2 => ?_
      refine ⟨some ([], [0, 1, 2, 3, 4, 5, 6, 7, 8]), by kernel_rfl, ?_⟩
      refine ⟨ad, ⟨by omega, by omega, q1⟩, ?_⟩
      refine ⟨_, hh, ?_⟩
      refine ⟨ad2, ⟨by omega, by omega, q2⟩, ?_⟩
      refine ⟨_, hh2, ?_⟩
      refine ⟨(fun h => absurd h (by simp)), fun _ => ?_⟩
      refine ⟨⟨by omega, by omega⟩, i + 1, [(0, 0), (1, 1)], ?_, ⟨rfl, by omega⟩, by dsimp only; omega⟩
      (repeat' (first | exact trivial | refine ⟨?_, ?_⟩ | exact rfl | assumption))
    · refine rcheck_spec (ha.up hle) hc hv fun _ _ => ?_
      refine ⟨fun _ => ?_, fun h => absurd (nf h) he⟩
      refine ⟨fun _ => ?_, fun h => absurd rfl (df h)⟩
      refine alike0_spec ?_
      exact hK _ hle
  · refine ⟨some ([], [0, 1, 3, 4, 2, 5, 6, 7]), by kernel_rfl, ?_⟩
    refine pcodes_spec hv hvl (by omega) (ha.up hle2) (hb.up hle2) fun a1 n1 c1 H3 hle3 hr1 => ?_
    refine rcodes_spec hv hvl (by omega) ((ha.up hle2).up hle3) ((hb.up hle2).up hle3) fun a2 n2 c2 H4 hle4 hr2 => ?_
    have hr1 := hr1.up hle4
    have hn1 := hr1.n_eq
    have hn2 := hr2.n_eq
    have hle := (hle2.trans hle3).trans hle4
    have hmx := hr1.le
    refine ⟨(fun h => absurd (nt h) (by omega)), fun _ => ?_⟩
    refine ⟨Nat, fun i => ⟨[(2, .ptr 0 0), (5, .ptr 1 0), (6, .v (.int .i64 0)), (7, .v (.slice a1 n1 c1)), (8, .v (.slice a2 n2 c2)), (41, .v (.int .i64 n1)), (42, .v (.int .i64 i))], [(0, .cells 24 [.v (.slice a n c)]), (1, .cells 47 (vL (sysV (sysOf p) z)))], 2⟩,
      fun i H' => H' = H4 ∧ i ≤ n1, fun i => n1 - i, ⟨0, [(0, 0), (1, 2)], ?_, rfl, Nat.zero_le _⟩, ?_⟩
    · (repeat' (first | exact trivial | refine ⟨?_, ?_⟩ | exact rfl | assumption))
    rintro i H5 _ ⟨rfl, hi⟩
    refine ⟨fun h => ?_, fun h => ?_⟩
    · have hlt : i < (codesOf p l).length := by have := dt h; omega
      have ex := List.getElem?_eq_getElem hlt
      refine code_k hr1 ex fun ad q1 hh => ?_
      refine code_k hr2 ex fun ad2 q2 hh2 => ?_
      refine ⟨some ([], [0, 1, 2, 3, 4, 5, 6, 7, 8]), by kernel_rfl, ?_⟩
      refine ⟨ad, ⟨by omega, by omega, q1⟩, ?_⟩
      refine ⟨_, hh, ?_⟩
      refine ⟨ad2, ⟨by omega, by omega, q2⟩, ?_⟩
      refine ⟨_, hh2, ?_⟩
      refine ⟨(fun h => absurd h (by simp)), fun _ => ?_⟩
      refine ⟨⟨by omega, by omega⟩, i + 1, [(0, 0), (1, 1)], ?_, ⟨rfl, by omega⟩, by dsimp only; omega⟩
      (repeat' (first | exact trivial | refine ⟨?_, ?_⟩ | exact rfl | assumption))
    · refine rcheck_spec (ha.up hle) hc hv fun _ _ => ?_
      refine ⟨fun h => absurd he (nt h), fun _ => ?_⟩
      refine ⟨some ([], [0, 1, 2, 3, 4, 5, 6, 7, 8]), by kernel_rfl, ?_⟩
      refine ⟨fun _ => ?_, fun h => absurd rfl (df h)⟩
      refine rsys_spec hp hl hv (ha.up hle) he fun y H6 hle6 hs6 => ?_
      refine alike_spec (hs.up ((hle3.trans hle4).trans hle6)) hs6 ?_
      exact hK _ (hle.trans hle6)
end Go.Proofs
end
section
namespace Go.Proofs
open Go.Sy
set_option maxRecDepth 20000
set_option maxHeartbeats 4000000
/-! Folding: statements, the example. -/
theorem nOf_R (a : Nm) : i64R (nOf a).1 ∧ i64R (nOf a).2 := by
  have h1 := wrp_le a.1
  have h2 := wrp_le a.2
  exact ⟨⟨by show _ ≤ wrp a.1; omega, by show wrp a.1 ≤ _; omega⟩, ⟨by show _ ≤ wrp a.2; omega, by show wrp a.2 ≤ _; omega⟩⟩
theorem nOp_R (op : Int) (a b : Nm) : i64R (nOp op a b).1 ∧ i64R (nOp op a b).2 := by
  unfold nOp
  repeat' split
  all_goals first | exact nOf_R _ | exact ⟨⟨by decide, by decide⟩, ⟨by decide, by decide⟩⟩
theorem ze_R : atmR (⟨[]⟩, 0, 0) := ⟨Nat.zero_le _, ⟨by decide, by decide⟩, ⟨by decide, by decide⟩⟩
theorem zero_R : i64R 0 := ⟨by decide, by decide⟩
theorem foldE_R {p : Prog} {known : List UInt64} {x : Expr} (h : exprR x) : exprR (foldE p known x) := by
  have h1 : atmR (if 0 < nAt x.1 then foldA p known x.2.1 else x.2.1) := by
    split
    · exact foldA_R h.2.1
    · exact h.2.1
  have h2 : atmR (if 1 < nAt x.1 then foldA p known x.2.2 else x.2.2) := by
    split
    · exact foldA_R h.2.2
    · exact h.2.2
  have key : ∀ (y1 y2 : Atm), atmR y1 → atmR y2 → ∀ (c : Prop) [Decidable c], exprR (if c then (0, (⟨[]⟩, nOp x.1 y1.2 y2.2), (⟨[]⟩, (0, 0))) else (x.1, y1, y2)) := fun y1 y2 h1 h2 c _ => by
    split
    · exact ⟨zero_R, ⟨Nat.zero_le _, (nOp_R _ _ _).1, (nOp_R _ _ _).2⟩, ze_R⟩
    · exact ⟨h.1, h1, h2⟩
  exact key _ _ h1 h2 _
theorem has0_cons (x : UInt64) (r : Wd) : has0 (x :: r) = (decide (x.toNat = 0) || has0 r) := rfl
def foldS (p : Prog) (known : List UInt64) (s : Stmt) : Stmt := if s.1 = 1 ∨ s.1 = 3 then (s.1, s.2.1, foldE p known s.2.2) else s
theorem foldS_R {p : Prog} {known : List UInt64} {s : Stmt} (h : stmtR s) : stmtR (foldS p known s) := by
  unfold foldS
  split
  · exact ⟨h.1, h.2.1, foldE_R h.2.2⟩
  · exact h
theorem never_spec {l : Wd} {a : Option Addr} {n c : Nat} {H : Hp} {K : Value → Hp → Prop} (ha : RL H a n c l) (hK : K (.bool (has0 l)) H) : Does Tryz.prog 71 [.slice a n c] H K := by
  have hn := ha.n_eq
  have hmx := ha.le
  refine spec_of cx_ok cx_mix rfl Tryz.func71 Tryz.call71 Tryz.ntmps71 Tryz.results71 rfl rfl ?_
  refine ⟨Nat, fun i => ⟨[(5, .v (.slice a n c)), (6, .v (.int .i64 n)), (7, .v (.int .i64 i))], [], 0⟩,
    fun i H' => H' = H ∧ i ≤ l.length ∧ has0 l = has0 (l.drop i), fun i => l.length - i, ⟨0, [], ?_, rfl, Nat.zero_le _, rfl⟩, ?_⟩
  · (repeat' (first | exact trivial | refine ⟨?_, ?_⟩ | exact rfl | assumption))
  rintro i H1 _ ⟨rfl, hi, hx⟩
  refine ⟨fun h => ?_, fun h => ?_⟩
  · have hlt : i < l.length := by have := dt h; omega
    refine word_k ha (List.getElem?_eq_getElem hlt) fun ad q1 hh _ => ?_
    refine ⟨ad, ⟨by omega, by omega, q1⟩, ?_⟩
    refine ⟨_, hh, ?_⟩
    have hd : l.drop i = l[i] :: l.drop (i + 1) := List.drop_eq_getElem_cons hlt
    rw [hd, has0_cons] at hx
    refine ⟨fun h => ?_, fun h => ?_⟩
    · have h0 : l[i].toNat = 0 := by have := dt h; omega
      rw [decide_eq_true h0, Bool.true_or] at hx
      rw [hx] at hK
      exact hK
    · have h0 : ¬ l[i].toNat = 0 := by have := df h; omega
      rw [decide_eq_false h0, Bool.false_or] at hx
      refine ⟨⟨by omega, by omega⟩, i + 1, [], ?_, ⟨rfl, hlt, hx⟩, by dsimp only; omega⟩
      (repeat' (first | exact trivial | refine ⟨?_, ?_⟩ | exact rfl | assumption))
  · have hil : i = l.length := by have := df h; omega
    rw [hil, List.drop_length] at hx
    rw [hx] at hK
    exact hK
theorem fstmt_spec {p : Prog} {known : List UInt64} {s : Stmt} (hs : stmtR s) {a ka : Option Addr} {n c kn kc : Nat} {H : Hp} {K : Value → Hp → Prop} (ha : RL H a n c p) (hk : RL H ka kn kc known) (hc : cnt p < 400000)
    (hK : ∀ H', Le H H' → K (stmtA (foldS p known s)) H') : Does Tryz.prog 72 [.agg #[.slice a n c], .slice ka kn kc, stmtA s] H K := by
  refine spec_of cx_ok cx_mix rfl Tryz.func72 Tryz.call72 Tryz.ntmps72 Tryz.results72 rfl rfl ?_
  unfold foldS at hK
  refine ⟨fun h => ?_, fun h => ?_⟩
  · have h1 : ¬ s.1 = 1 := df h
    refine ⟨fun h => ?_, fun h => ?_⟩
    · have h3 : s.1 = 3 := dt h
      rw [if_pos (.inr h3)] at hK
      refine vexpr_spec hs.2.2 ha hk hc fun H1 hle1 => ?_
      exact hK _ (Le.refl H)
    · have h3 : ¬ s.1 = 3 := df h
      rw [if_neg (by omega)] at hK
      exact hK _ (Le.refl H)
  · have h1 : s.1 = 1 := dt h
    rw [if_pos (.inl h1)] at hK
    refine vexpr_spec hs.2.2 ha hk hc fun H1 hle1 => ?_
    exact hK _ (Le.refl H)
def exX : Expr := (1, (⟨[]⟩, 1, 0), (⟨[]⟩, 1, 0))
theorem exX_R : exprR exX := ⟨⟨by decide, by decide⟩, ⟨Nat.zero_le _, ⟨by decide, by decide⟩, ⟨by decide, by decide⟩⟩, ⟨Nat.zero_le _, ⟨by decide, by decide⟩, ⟨by decide, by decide⟩⟩⟩
theorem foldE_exX : foldE [] [] exX = (0, (⟨[]⟩, 2, 0), (⟨[]⟩, 0, 0)) := by decide +kernel
theorem awake45_spec {H : Hp} {K : Value → Hp → Prop} (hK : ∀ H', Le H H' → K (.bool true) H') : Does Tryz.prog 31 [] H K := by
  refine spec_of cx_ok cx_mix rfl Tryz.func31 Tryz.call31 Tryz.ntmps31 Tryz.results31 rfl rfl ?_
  refine vexpr_spec (p := []) (known := []) (x := exX) exX_R rl_nil rl_nil (by decide) fun H1 hle1 => ?_
  rw [foldE_exX]
  refine ⟨fun _ => ?_, fun h => absurd rfl (df h)⟩
  refine ⟨fun _ => ?_, fun h => absurd rfl (df h)⟩
  exact kbool (hK _ (Le.refl H)) (by decide)
end Go.Proofs
end
section
namespace Go.Proofs
open Go.Sy
set_option maxRecDepth 20000
set_option maxHeartbeats 4000000
/-! Folding of a program: the law, and the document's way. -/
def knownAt (p : Prog) (i : Nat) (b : Block) (k : Nat) : Wd := vApp (codesOf p (b.2.1.take k)) (aAt (solveS (sysOf p)) i)
def foldL (p : Prog) (i : Nat) (b : Block) : List Stmt := b.2.1.mapIdx fun k s => foldS p (knownAt p i b k) s
def foldT (p : Prog) (i : Nat) (b : Block) : Term := if b.2.2.1 = 2 then (b.2.2.1, foldA p (knownAt p i b b.2.1.length) b.2.2.2.1, b.2.2.2.2) else b.2.2
def nev (p : Prog) (i : Nat) : Bool := has0 (aAt (solveS (sysOf p)) i)
def foldB (p : Prog) (i : Nat) (b : Block) : Block := if nev p i then b else (b.1, foldL p i b, foldT p i b)
def foldP (p : Prog) : Prog := p.mapIdx (foldB p)
theorem mapIdx_take {α β : Type} {f : Nat → α → β} {l : List α} {k : Nat} {x : α} (h : l[k]? = some x) : (l.mapIdx f).take (k + 1) = (l.mapIdx f).take k ++ [f k x] := by
  rw [List.take_add_one, List.getElem?_mapIdx, h]; rfl
theorem foldP_len (p : Prog) : (foldP p).length = p.length := List.length_mapIdx
theorem foldL_len (p : Prog) (i : Nat) (b : Block) : (foldL p i b).length = b.2.1.length := List.length_mapIdx
theorem has0_take {l : Wd} {j : Nat} {x : UInt64} (h : l[j]? = some x) : has0 (l.take (j + 1)) = (has0 (l.take j) || decide (x.toNat = 0)) := by
  rw [List.take_add_one, h, Option.toList_some, has0, List.any_append]; simp [has0]
theorem foldT_R {p : Prog} {i : Nat} {b : Block} (h : termR b.2.2) : termR (foldT p i b) := by
  unfold foldT
  split
  · exact ⟨h.1, foldA_R h.2.1, h.2.2⟩
  · exact h
theorem stmts_snoc {H : Hp} {css : List (List Value)} {l : List Stmt} (h : RC (α := Stmt) H css l) {s : Stmt} (hs : stmtR s) : RC (α := Stmt) H (css ++ [.int .i64 s.1 :: .string (bs s.2.1.l) :: .int .i64 s.2.2.1 :: (atmV s.2.2.2.1 ++ atmV s.2.2.2.2)]) (l ++ [s]) := RC.snoc h (stmt_mk hs)
theorem foldB_take {p : Prog} {i : Nat} {b : Block} {k : Nat} {s : Stmt} (h : b.2.1[k]? = some s) : (foldB p i b).2.1.take (k + 1) = (foldB p i b).2.1.take k ++ [if nev p i then s else foldS p (knownAt p i b k) s] := by
  unfold foldB
  split
  · rw [List.take_add_one, h]; rfl
  · exact mapIdx_take h
theorem foldB_len (p : Prog) (i : Nat) (b : Block) : (foldB p i b).2.1.length = b.2.1.length := by
  unfold foldB
  split
  · rfl
  · exact foldL_len p i b
abbrev bC (b : Block) (v : SV) : List SV := .v (.string (bs b.1.l)) :: v :: vL (termV b.2.2)
theorem rfold_spec {p : Prog} (hp : p.length ≤ 12) (hl : ∀ b ∈ p, b.2.1.length ≤ 1000000) (hv : cnt p < 400000) (he : checkE p = 0) {a : Option Addr} {n c : Nat} {H : Hp} {K : Value → Hp → Prop} (ha : RL H a n c p)
    (hK : ∀ a1 n1 c1 H', Le H H' → RL H' a1 n1 c1 (foldP p) → K (.agg #[.slice a1 n1 c1]) H') : Does Tryz.prog 34 [.agg #[.slice a n c]] H K := by
  have hn := ha.n_eq
  have ho := sysOf_ok he
  have hA := solveS_ok ho
  have hm : (sysOf p).m = p.length := rfl
  have hok := check_facts he
  refine spec_of cx_ok cx_mix rfl Tryz.func34 Tryz.call34 Tryz.ntmps34 Tryz.results34 rfl rfl ?_
  refine rsys_spec hp hl hv ha he fun z H1 hle1 hs => ?_
  refine rleast_spec ho hs fun a4 n4 c4 H2 hle2 hr4 => ?_
  have hn4 := hr4.n_eq
  rw [hA.len] at hn4
  refine ⟨Nat × List (List Value), fun q => ⟨[(1, .ptr 0 0), (2, .ptr 1 0), (3, .ptr 2 0), (4, .v (.slice a4 n4 c4)), (17, .v (.slice a n c)), (18, .v (.int .i64 n)), (19, .v (.int .i64 q.1))],
      [(0, .cells 24 [.v (.slice a n c)]), (1, .cells 24 [.v (.slice none 0 0)]), (2, .cells 24 [.own 3]), (3, .row 41 8 q.2)], 4⟩,
    fun q H' => Le H2 H' ∧ q.1 ≤ n ∧ RC (α := Block) H' q.2 ((foldP p).take q.1), fun q => n - q.1, ⟨(0, []), [(0, 0), (1, 1), (2, 2)], ?_, Le.refl _, Nat.zero_le _, RC.nil⟩, ?_⟩
  · (repeat' (first | exact trivial | refine ⟨?_, ?_⟩ | exact rfl | assumption))
  rintro ⟨i, css⟩ H3 _ ⟨hle3, hi, hrc⟩
  dsimp only at hi hrc
  have hle := (hle1.trans hle2).trans hle3
  have hcl : css.length = i := by have h1 := hrc.1; rw [List.length_take, foldP_len] at h1; omega
  refine ⟨fun h => ?_, fun h => ?_⟩
  · have hlt : i < p.length := by have := dt h; dsimp only at this; omega
    refine name_k p[i] fun b hbe => ?_
    have hbb : p[i]? = some b := by rw [hbe]; exact List.getElem?_eq_getElem hlt
    have hbl := hl b (List.mem_of_getElem? hbb)
    refine block_k (ha.up hle) hbb fun ad a5 n5 c5 q1 hh hr5 hs5 ht5 => ?_
    have hn5 := hr5.n_eq
    refine ⟨ad, ⟨by dsimp only; omega, by dsimp only; omega, q1⟩, ?_⟩
    refine ⟨_, hh, ?_⟩
    have hAg := aAt_get hA (v := i) (by rw [hm]; exact hlt)
    have hAo := aAt_ok hA (v := i) (by rw [hm]; exact hlt)
    refine list_k (hr4.up hle3) hAg fun ad2 a6 n6 c6 q2 hh2 hr6 => ?_
    have hn6 := hr6.n_eq
    have hl6 : n6 ≤ 1024 := by rw [hn6, hAo.1]; exact ho.w
    refine ⟨ad2, ⟨by dsimp only; omega, by dsimp only; omega, q2⟩, ?_⟩
    refine ⟨_, hh2, ?_⟩
    refine ⟨Nat × Bool, fun q => ⟨[(1, .ptr 0 0), (2, .ptr 1 0), (3, .ptr 2 0), (4, .v (.slice a4 n4 c4)), (5, .v (.int .i64 i)), (6, .ptr 4 0), (7, .ptr 5 0), (8, .v (.bool q.2)), (17, .v (.slice a n c)), (18, .v (.int .i64 n)), (19, .v (.int .i64 i)), (32, .v (.slice a6 n6 c6)), (33, .v (.int .i64 n6)), (34, .v (.int .i64 q.1))],
        [(0, .cells 24 [.v (.slice a n c)]), (1, .cells 24 [.v (.slice none 0 0)]), (2, .cells 24 [.own 3]), (3, .row 41 8 css), (4, .cells 41 (bC b (.v (.slice a5 n5 c5)))), (5, .cells 41 (bC b (.v (.slice none 0 0))))], 6⟩,
      fun q H' => H' = H3 ∧ q.1 ≤ n6 ∧ q.2 = has0 ((aAt (solveS (sysOf p)) i).take q.1), fun q => n6 - q.1, ⟨(0, false), [(0, 0), (1, 1), (2, 2), (3, 3), (4, 4), (5, 5)], ?_, rfl, Nat.zero_le _, rfl⟩, ?_⟩
    · (repeat' (first | exact trivial | refine ⟨?_, ?_⟩ | exact rfl | assumption))
    rintro ⟨j, nv⟩ H4 _ ⟨rfl, hj, hnv⟩
    dsimp only at hj hnv
    refine ⟨fun h => ?_, fun h => ?_⟩
    · have hjl : j < (aAt (solveS (sysOf p)) i).length := by have := dt h; dsimp only at this; omega
      have ex := List.getElem?_eq_getElem hjl
      refine word_k hr6 ex fun ad3 q3 hh3 _ => ?_
      refine ⟨ad3, ⟨by dsimp only; omega, by dsimp only; omega, q3⟩, ?_⟩
      refine ⟨_, hh3, ?_⟩
      have e0 := has0_take ex
      refine ⟨fun h => ?_, fun h => ?_⟩
      · have h : nv = false := h
        have e1 : decide ((((aAt (solveS (sysOf p)) i)[j].toNat : Nat) : Int) = 0) = decide ((aAt (solveS (sysOf p)) i)[j].toNat = 0) := decide_eq_decide.2 ⟨by omega, by omega⟩
        refine ⟨⟨by dsimp only; omega, by dsimp only; omega⟩, (j + 1, decide ((((aAt (solveS (sysOf p)) i)[j].toNat : Nat) : Int) = 0)), [(0, 0), (1, 1), (2, 2), (3, 3), (4, 4), (5, 5)], ?_, ⟨rfl, by dsimp only; omega, ?_⟩, by dsimp only; omega⟩
        · (repeat' (first | exact trivial | refine ⟨?_, ?_⟩ | exact rfl | assumption))
        · dsimp only
          rw [e0, ← hnv, h, Bool.false_or, e1]
      · have h : nv = true := h
        refine ⟨⟨by dsimp only; omega, by dsimp only; omega⟩, (j + 1, true), [(0, 0), (1, 1), (2, 2), (3, 3), (4, 4), (5, 5)], ?_, ⟨rfl, by dsimp only; omega, ?_⟩, by dsimp only; omega⟩
        · (repeat' (first | exact trivial | refine ⟨?_, ?_⟩ | exact rfl | assumption))
        · dsimp only
          rw [e0, ← hnv, h, Bool.true_or]
    have hjn : j = n6 := by have := df h; dsimp only at this; omega
    rw [hjn, hn6, List.take_length] at hnv
    have hnv : nv = nev p i := hnv
    refine ⟨Nat × List (List Value), fun q => ⟨[(1, .ptr 0 0), (2, .ptr 1 0), (3, .ptr 2 0), (4, .v (.slice a4 n4 c4)), (5, .v (.int .i64 i)), (6, .ptr 4 0), (7, .ptr 5 0), (8, .v (.bool nv)), (17, .v (.slice a n c)), (18, .v (.int .i64 n)), (19, .v (.int .i64 i)), (45, .v (.slice a5 n5 c5)), (46, .v (.int .i64 n5)), (47, .v (.int .i64 q.1))],
        [(0, .cells 24 [.v (.slice a n c)]), (1, .cells 24 [.v (.slice none 0 0)]), (2, .cells 24 [.own 3]), (3, .row 41 8 css), (4, .cells 41 (bC b (.v (.slice a5 n5 c5)))), (5, .cells 41 (bC b (.own 6))), (6, .row 75 9 q.2)], 7⟩,
      fun q H' => Le H4 H' ∧ q.1 ≤ n5 ∧ RC (α := Stmt) H' q.2 ((foldB p i b).2.1.take q.1), fun q => n5 - q.1, ⟨(0, []), [(0, 0), (1, 1), (2, 2), (3, 3), (4, 4), (5, 5)], ?_, Le.refl _, Nat.zero_le _, RC.nil⟩, ?_⟩
    · (repeat' (first | exact trivial | refine ⟨?_, ?_⟩ | exact rfl | assumption))
    rintro ⟨k, dss⟩ H5 _ ⟨hle5, hk, hrd⟩
    dsimp only at hk hrd
    have hdl : dss.length = k := by have h1 := hrd.1; rw [List.length_take, foldB_len] at h1; omega
    have hle5' := hle.trans hle5
    refine ⟨fun h => ?_, fun h => ?_⟩
    · have hkl : k < b.2.1.length := by have := dt h; dsimp only at this; omega
      refine name_k b.2.1[k] fun s hse => ?_
      have hss : b.2.1[k]? = some s := by rw [hse]; exact List.getElem?_eq_getElem hkl
      have htk := foldB_take (p := p) (i := i) hss
      refine stmt_k (hr5.up hle5) hss fun ad3 q3 hh3 hsr => ?_
      refine ⟨ad3, ⟨by dsimp only; omega, by dsimp only; omega, q3⟩, ?_⟩
      refine ⟨_, hh3, ?_⟩
      refine ⟨fun h => ?_, fun h => ?_⟩
      · have hnf : nev p i = false := by rw [← hnv]; simpa using h
        have hf : foldB p i b = (b.1, foldL p i b, foldT p i b) := by rw [foldB, hnf]; rfl
        refine ⟨fun h2 => ?_, fun h2 => ?_⟩
        · have h2 : ¬ s.1 = 2 := nt h2
          have h13 : s.1 = 1 ∨ s.1 = 3 := by
            have := block_stmts (hok.2.2.2 b (List.mem_of_getElem? hbb)) s (List.mem_of_getElem? hss)
            by_cases h1 : s.1 = 1
            · exact .inl h1
            · by_cases h3 : s.1 = 3
              · exact .inr h3
              · rw [stmtB, if_neg h1, if_neg h2, if_neg h3] at this
                cases this
          have hfs : foldS p (knownAt p i b k) s = (s.1, s.2.1, foldE p (knownAt p i b k) s.2.2) := if_pos h13
          refine ⟨some ([1000000, 7], [0, 1, 2, 3, 4, 5, 6, 7, 9, 10, 8, 11, 12, 13]), by kernel_rfl, ?_⟩
          refine list_k (hr4.up (hle3.trans hle5)) hAg fun ad4 a7 n7 c7 q4 hh4 hr7 => ?_
          refine ⟨ad4, ⟨by omega, by omega, q4⟩, ?_⟩
          refine ⟨_, hh4, ?_⟩
          refine rat_spec (i := (i : Nat)) (j := (k : Nat)) he hl hv (ha.up hle5') (x := aAt (solveS (sysOf p)) i) hAo hr7 (b := b) (by rw [Int.toNat_natCast]; exact hbb) (by omega) (by omega) (by omega) (by omega) fun a8 n8 c8 H6 hle6 hr8 => ?_
          rw [Int.toNat_natCast] at hr8
          refine vrexpr_spec hsr.2.2 (ha.up (hle5'.trans hle6)) hr8 hv fun _ _ => ?_
          have hrd2 : RC (α := Stmt) H6 (dss ++ [.int .i64 ((s.1, s.2.1, foldE p (knownAt p i b k) s.2.2)).1 :: .string (bs ((s.1, s.2.1, foldE p (knownAt p i b k) s.2.2)).2.1.l) :: .int .i64 ((s.1, s.2.1, foldE p (knownAt p i b k) s.2.2)).2.2.1 :: (atmV ((s.1, s.2.1, foldE p (knownAt p i b k) s.2.2)).2.2.2.1 ++ atmV ((s.1, s.2.1, foldE p (knownAt p i b k) s.2.2)).2.2.2.2)]) ((foldB p i b).2.1.take (k + 1)) := by
            rw [htk, hnf, if_neg (by decide), hfs]
            exact stmts_snoc (RC.up hrd hle6) ⟨hsr.1, hsr.2.1, foldE_R hsr.2.2⟩
          refine ⟨⟨by show (dss.length + 1) * 96 ≤ 140737488355328; omega, by show dss.length + 1 ≤ 9223372036854775807; omega⟩, ?_⟩
          refine ⟨⟨by dsimp only; omega, by dsimp only; omega⟩, (k + 1, dss ++ [.int .i64 ((s.1, s.2.1, foldE p (knownAt p i b k) s.2.2)).1 :: .string (bs ((s.1, s.2.1, foldE p (knownAt p i b k) s.2.2)).2.1.l) :: .int .i64 ((s.1, s.2.1, foldE p (knownAt p i b k) s.2.2)).2.2.1 :: (atmV ((s.1, s.2.1, foldE p (knownAt p i b k) s.2.2)).2.2.2.1 ++ atmV ((s.1, s.2.1, foldE p (knownAt p i b k) s.2.2)).2.2.2.2)]), [(0, 0), (1, 1), (2, 2), (3, 3), (4, 4), (5, 5), (6, 9)], ?_, ⟨hle5.trans hle6, by dsimp only; omega, hrd2⟩, by dsimp only; omega⟩
          (repeat' (first | exact trivial | refine ⟨?_, ?_⟩ | exact rfl | assumption))
        · have h2 : s.1 = 2 := nf h2
          have hfs : foldS p (knownAt p i b k) s = s := if_neg (by omega)
          have hrd2 : RC (α := Stmt) H5 (dss ++ [.int .i64 (s).1 :: .string (bs (s).2.1.l) :: .int .i64 (s).2.2.1 :: (atmV (s).2.2.2.1 ++ atmV (s).2.2.2.2)]) ((foldB p i b).2.1.take (k + 1)) := by
            rw [htk, hnf, if_neg (by decide), hfs]
            exact stmts_snoc hrd hsr
          refine ⟨⟨by show (dss.length + 1) * 96 ≤ 140737488355328; omega, by show dss.length + 1 ≤ 9223372036854775807; omega⟩, ?_⟩
          refine ⟨⟨by dsimp only; omega, by dsimp only; omega⟩, (k + 1, dss ++ [.int .i64 (s).1 :: .string (bs (s).2.1.l) :: .int .i64 (s).2.2.1 :: (atmV (s).2.2.2.1 ++ atmV (s).2.2.2.2)]), [(0, 0), (1, 1), (2, 2), (3, 3), (4, 4), (5, 5), (6, 9)], ?_, ⟨hle5, by dsimp only; omega, hrd2⟩, by dsimp only; omega⟩
          (repeat' (first | exact trivial | refine ⟨?_, ?_⟩ | exact rfl | assumption))
      · have hnt : nev p i = true := by rw [← hnv]; simpa using h
        have hrd2 : RC (α := Stmt) H5 (dss ++ [.int .i64 (s).1 :: .string (bs (s).2.1.l) :: .int .i64 (s).2.2.1 :: (atmV (s).2.2.2.1 ++ atmV (s).2.2.2.2)]) ((foldB p i b).2.1.take (k + 1)) := by
          rw [htk, hnt, if_pos rfl]
          exact stmts_snoc hrd hsr
        refine ⟨⟨by show (dss.length + 1) * 96 ≤ 140737488355328; omega, by show dss.length + 1 ≤ 9223372036854775807; omega⟩, ?_⟩
        refine ⟨⟨by dsimp only; omega, by dsimp only; omega⟩, (k + 1, dss ++ [.int .i64 (s).1 :: .string (bs (s).2.1.l) :: .int .i64 (s).2.2.1 :: (atmV (s).2.2.2.1 ++ atmV (s).2.2.2.2)]), [(0, 0), (1, 1), (2, 2), (3, 3), (4, 4), (5, 5), (6, 9)], ?_, ⟨hle5, by dsimp only; omega, hrd2⟩, by dsimp only; omega⟩
        (repeat' (first | exact trivial | refine ⟨?_, ?_⟩ | exact rfl | assumption))
    have hkn : k = n5 := by have := df h; dsimp only at this; omega
    rw [hkn, List.take_of_length_le (by rw [foldB_len]; omega)] at hrd
    refine ⟨fun h => ?_, fun h => ?_⟩
    · have hnf : nev p i = false := by rw [← hnv]; simpa using h
      refine ⟨fun h2 => ?_, fun h2 => ?_⟩
      · have h2 : b.2.2.1 = 2 := dt h2
        have hft : foldT p i b = (b.2.2.1, foldA p (knownAt p i b b.2.1.length) b.2.2.2.1, b.2.2.2.2) := if_pos h2
        refine ⟨some ([1000000, 5], [0, 1, 2, 3, 4, 5, 6, 7, 8, 9, 11, 12, 13, 10, 14, 15, 16, 17]), by kernel_rfl, ?_⟩
        refine list_k (hr4.up (hle3.trans hle5)) hAg fun ad4 a7 n7 c7 q4 hh4 hr7 => ?_
        refine ⟨ad4, ⟨by omega, by omega, q4⟩, ?_⟩
        refine ⟨_, hh4, ?_⟩
        refine rat_spec (i := (i : Nat)) (j := (n5 : Nat)) he hl hv (ha.up hle5') (x := aAt (solveS (sysOf p)) i) hAo hr7 (b := b) (by rw [Int.toNat_natCast]; exact hbb) (by omega) (by omega) (by omega) (by omega) fun a8 n8 c8 H6 hle6 hr8 => ?_
        rw [Int.toNat_natCast, hn5] at hr8
        refine vratom_spec (ha.up (hle5'.trans hle6)) hr8 hv fun _ _ => ?_
        intro v H6' hlev hv6
        refine of_row_k (α := Stmt) hv6 (RC.up (RC.up hrd hle6) hlev.le) fun a9 n9 c9 ev hr9 => ?_
        subst ev
        have hfb : foldB p i b = (b.1, foldL p i b, foldT p i b) := by rw [foldB, hnf]; rfl
        have hrc2 : RC (α := Block) H6' (css ++ [.string (bs b.1.l) :: .slice a9 n9 c9 :: termV (b.2.2.1, foldA p (knownAt p i b b.2.1.length) b.2.2.2.1, b.2.2.2.2)]) ((foldP p).take (i + 1)) := by
          rw [foldP, mapIdx_take hbb, hfb]
          exact RC.snoc (RC.up hrc ((hle5.trans hle6).trans hlev.le)) (hft ▸ block_mk (b := (b.1, foldL p i b, foldT p i b)) (by rw [hfb] at hr9; exact hr9) hs5 (foldT_R ht5))
        refine ⟨⟨by show (css.length + 1) * 112 ≤ 140737488355328; omega, by show css.length + 1 ≤ 9223372036854775807; omega⟩, ?_⟩
        refine ⟨⟨by omega, by omega⟩, (i + 1, css ++ [.string (bs b.1.l) :: .slice a9 n9 c9 :: termV (b.2.2.1, foldA p (knownAt p i b b.2.1.length) b.2.2.2.1, b.2.2.2.2)]), [(0, 0), (1, 1), (2, 2), (3, 8)], ?_, ⟨hle3.trans ((hle5.trans hle6).trans hlev.le), by dsimp only; omega, hrc2⟩, by dsimp only; omega⟩
        (repeat' (first | exact trivial | refine ⟨?_, ?_⟩ | exact rfl | assumption))
      · have h2 : ¬ b.2.2.1 = 2 := df h2
        have hft : foldT p i b = b.2.2 := if_neg h2
        intro v H5' hlev hv6
        refine of_row_k (α := Stmt) hv6 (RC.up hrd hlev.le) fun a9 n9 c9 ev hr9 => ?_
        subst ev
        have hfb : foldB p i b = (b.1, foldL p i b, foldT p i b) := by rw [foldB, hnf]; rfl
        have hrc2 : RC (α := Block) H5' (css ++ [.string (bs b.1.l) :: .slice a9 n9 c9 :: termV b.2.2]) ((foldP p).take (i + 1)) := by
          rw [foldP, mapIdx_take hbb, hfb]
          exact RC.snoc (RC.up hrc ((hle5).trans hlev.le)) (hft ▸ block_mk (b := (b.1, foldL p i b, foldT p i b)) (by rw [hfb] at hr9; exact hr9) hs5 (foldT_R ht5))
        refine ⟨⟨by show (css.length + 1) * 112 ≤ 140737488355328; omega, by show css.length + 1 ≤ 9223372036854775807; omega⟩, ?_⟩
        refine ⟨⟨by omega, by omega⟩, (i + 1, css ++ [.string (bs b.1.l) :: .slice a9 n9 c9 :: termV b.2.2]), [(0, 0), (1, 1), (2, 2), (3, 8)], ?_, ⟨hle3.trans ((hle5).trans hlev.le), by dsimp only; omega, hrc2⟩, by dsimp only; omega⟩
        (repeat' (first | exact trivial | refine ⟨?_, ?_⟩ | exact rfl | assumption))
    · have hnt : nev p i = true := by rw [← hnv]; simpa using h
      intro v H5' hlev hv6
      refine of_row_k (α := Stmt) hv6 (RC.up hrd hlev.le) fun a9 n9 c9 ev hr9 => ?_
      subst ev
      have hfb : foldB p i b = b := by rw [foldB, hnt]; rfl
      have hrc2 : RC (α := Block) H5' (css ++ [.string (bs b.1.l) :: .slice a9 n9 c9 :: termV b.2.2]) ((foldP p).take (i + 1)) := by
        rw [foldP, mapIdx_take hbb, hfb]
        exact RC.snoc (RC.up hrc ((hle5).trans hlev.le)) (block_mk (b := b) (by rw [hfb] at hr9; exact hr9) hs5 ht5)
      refine ⟨⟨by show (css.length + 1) * 112 ≤ 140737488355328; omega, by show css.length + 1 ≤ 9223372036854775807; omega⟩, ?_⟩
      refine ⟨⟨by omega, by omega⟩, (i + 1, css ++ [.string (bs b.1.l) :: .slice a9 n9 c9 :: termV b.2.2]), [(0, 0), (1, 1), (2, 2), (3, 8)], ?_, ⟨hle3.trans ((hle5).trans hlev.le), by dsimp only; omega, hrc2⟩, by dsimp only; omega⟩
      (repeat' (first | exact trivial | refine ⟨?_, ?_⟩ | exact rfl | assumption))
  · intro v H9 hle9 hv9
    have hil : i = n := by have := df h; dsimp only at this; omega
    rw [List.take_of_length_le (by rw [foldP_len]; omega)] at hrc
    refine of_row_k (α := Block) hv9 (RC.up hrc hle9.le) fun ar nr cr ev hr => ?_
    subst ev
    exact hK _ _ _ _ (hle.trans hle9.le) hr
end Go.Proofs
end
section
namespace Go.Proofs
open Go.Sy
set_option maxRecDepth 20000
set_option maxHeartbeats 4000000
/-! proper.Clone with the rows of its blocks taken over. -/
abbrev stV (s : Stmt) : List Value := .int .i64 s.1 :: .string (bs s.2.1.l) :: .int .i64 s.2.2.1 :: (atmV s.2.2.2.1 ++ atmV s.2.2.2.2)
abbrev blkV (v : Value) (b : Block) : List Value := .string (bs b.1.l) :: v :: termV b.2.2
theorem stRows_of {H : Hp} {css : List (List Value)} {l : List Stmt} (h : RC (α := Stmt) H css l) : css = l.map stV := by
  apply List.ext_getElem?
  intro i
  rw [List.getElem?_map]
  have hl : css.length = l.length := h.1
  by_cases hi : i < l.length
  · have h1 : css[i]? = some (css[i]'(by omega)) := List.getElem?_eq_getElem _
    have h2 := List.getElem?_eq_getElem hi
    have h3 := (stmt_open (h.2 i _ _ h1 h2)).1
    rw [h1, h2, h3]; rfl
  · rw [List.getElem?_eq_none (by omega), List.getElem?_eq_none (by omega)]; rfl
theorem stRows_rc {H : Hp} {l : List Stmt} (h : ∀ s ∈ l, stmtR s) : RC (α := Stmt) H (l.map stV) l := by
  refine ⟨by simp, fun i cs x h1 h2 => ?_⟩
  rw [List.getElem?_map, h2] at h1
  cases h1
  exact stmt_mk (h x (List.mem_of_getElem? h2))
theorem newAt_k {P : Prop} {e : TypeId} {sz : Nat} {xs : List (List Value)} {H H2 : Hp} {x : Value} (h : NewAt e sz xs H x H2) (k : ∀ a n c, x = .slice a n c → P) : P := by
  rcases h with ⟨h1, _⟩ | ⟨g, cap, c, h1, _⟩
  · exact k _ _ _ h1
  · exact k _ _ _ h1
theorem cloneS2_spec {l : List Stmt} (hl : l.length ≤ 1000000) {a : Option Addr} {n c : Nat} {H : Hp} {K : Value → Hp → Prop} (ha : RL H a n c l) (hK : ∀ a1 n1 c1 H', LeN 75 9 (l.map stV) H (.slice a1 n1 c1) H' → (∀ s ∈ l, stmtR s) → K (.slice a1 n1 c1) H') : Does Tryz.prog 80 [.slice a n c] H K := by
  have hn := ha.n_eq
  have hR : ∀ s ∈ l, stmtR s := fun s hs => by
    obtain ⟨i, hi⟩ := List.getElem?_of_mem hs
    exact stmt_k ha hi fun _ _ _ h => h
  refine spec_of cx_ok cx_mix rfl Tryz.func80 Tryz.call80 Tryz.ntmps80 Tryz.results80 rfl rfl ?_
  refine ⟨fun h => ?_, fun h => ?_⟩
  · have hno : a = none := by
      cases a with
      | none => rfl
      | some x => cases h
    rw [hno] at ha
    have h0 := RL_nil ha
    refine hK none 0 0 H ⟨Le.refl H, .inl ⟨rfl, by rw [h0]; rfl⟩⟩ hR
  · obtain ⟨css, hrow, hrc⟩ := ha.row
    have hcl : css.length = l.length := hrc.1
    have hcs := stRows_of hrc
    refine ⟨css, hrow, ?_⟩
    refine ⟨⟨by show (0 + css.length) * 96 ≤ 140737488355328; omega, by show 0 + css.length ≤ 9223372036854775807; omega⟩, ?_⟩
    intro v H' hle hv
    rw [hcs] at hle
    refine newAt_k hle.new fun a1 n1 c1 e => ?_
    subst e
    exact hK _ _ _ H' hle hR
structure FamI (H H' : Hp) (vs : List Value) (p : Prog) : Prop where
  len : vs.length = p.length
  new : ∀ (i : Nat) (v : Value) (b : Block), vs[i]? = some v → p[i]? = some b → NewAt 75 9 (b.2.1.map stV) H v H'
  dis : vs.Pairwise fun v u => ∀ g, v.ownBlock = some g → u.ownBlock ≠ some g
theorem newAt_up {e : TypeId} {sz : Nat} {xs : List (List Value)} {H H2 H3 : Hp} {x : Value} (h : NewAt e sz xs H x H2) (hle : Le H2 H3) : NewAt e sz xs H x H3 := by
  rcases h with h1 | ⟨g, cap, c, h1, h2, h3, h4⟩
  · exact .inl h1
  · exact .inr ⟨g, cap, c, h1, h2, hle _ _ h3, h4⟩
theorem newAt_down {e : TypeId} {sz : Nat} {xs : List (List Value)} {H H1 H2 : Hp} {x : Value} (h : NewAt e sz xs H1 x H2) (hle : Le H H1) : NewAt e sz xs H x H2 := by
  rcases h with h1 | ⟨g, cap, c, h1, h2, h3⟩
  · exact .inl h1
  · refine .inr ⟨g, cap, c, h1, ?_, h3⟩
    cases hg : H g with
    | none => rfl
    | some o => rw [hle _ _ hg] at h2; cases h2
theorem FamI.up {H H' H2 : Hp} {vs : List Value} {p : Prog} (h : FamI H H' vs p) (hle : Le H' H2) : FamI H H2 vs p := ⟨h.len, fun i v b h1 h2 => newAt_up (h.new i v b h1 h2) hle, h.dis⟩
theorem FamI.snoc {H H1 H2 : Hp} {vs : List Value} {p : Prog} (h : FamI H H1 vs p) (hle0 : Le H H1) {v : Value} {b : Block} (hv : LeN 75 9 (b.2.1.map stV) H1 v H2) : FamI H H2 (vs ++ [v]) (p ++ [b]) := by
  refine ⟨by rw [List.length_append, List.length_append, h.len]; rfl, fun i u c h1 h2 => ?_, ?_⟩
  · rw [List.getElem?_append] at h1 h2
    have hl := h.len
    split at h1
    · rename_i hi
      rw [if_pos (by omega)] at h2
      exact newAt_up (h.new i u c h1 h2) hv.le
    · rename_i hi
      rw [if_neg (by omega)] at h2
      have e1 : i - vs.length = 0 := by
        have := (List.getElem?_eq_some_iff.1 h1).1
        simp at this; omega
      rw [e1] at h1
      rw [← hl, e1] at h2
      cases h1
      cases h2
      exact newAt_down hv.new hle0
  · rw [List.pairwise_append]
    refine ⟨h.dis, List.pairwise_singleton _ _, fun u hu w hw g hg hg' => ?_⟩
    rw [List.mem_singleton] at hw
    subst hw
    obtain ⟨i, hi⟩ := List.getElem?_of_mem hu
    have hlt := (List.getElem?_eq_some_iff.1 hi).1
    have hb : p[i]? = some (p[i]'(by have := h.len; omega)) := List.getElem?_eq_getElem _
    obtain ⟨_, o, ho⟩ := (h.new i u _ hi hb).fresh hg
    have := (hv.new.fresh hg').1
    rw [ho] at this
    cases this
theorem zipBlk_snoc {vs : List Value} {p : Prog} (hl : vs.length = p.length) (v : Value) (b : Block) : List.zipWith blkV (vs ++ [v]) (p ++ [b]) = List.zipWith blkV vs p ++ [blkV v b] := by
  rw [List.zipWith_append hl]; rfl
theorem blkR_mk {H : Hp} {v : Value} {b : Block} (hv : RowAt H v 9 (b.2.1.map stV)) (hst : ∀ s ∈ b.2.1, stmtR s) (hs : sR b.1) (ht : termR b.2.2) : Enc.R H (blkV v b) b :=
  of_row_k (α := Stmt) hv (stRows_rc hst) fun a n c e hr => by subst e; exact block_mk hr hs ht
theorem pclone2_spec {p : Prog} (hp : p.length ≤ 1000000) (hl : ∀ b ∈ p, b.2.1.length ≤ 1000000) {a : Option Addr} {n c : Nat} {H : Hp} {K : Value → Hp → Prop} (ha : RL H a n c p)
    (hK : ∀ v vs H3 H', Le H H3 → FamI H H3 vs p → LeN 41 8 (List.zipWith blkV vs p) H3 v H' → K (.agg #[v]) H') : Does Tryz.prog 36 [.agg #[.slice a n c]] H K := by
  have hn := ha.n_eq
  have hmx := ha.le
  refine spec_of cx_ok cx_mix rfl Tryz.func36 Tryz.call36 Tryz.ntmps36 Tryz.results36 rfl rfl ?_
  refine ⟨Nat × List Value, fun q => ⟨[(2, .ptr 0 0), (3, .ptr 1 0), (7, .v (.slice a n c)), (8, .v (.int .i64 n)), (9, .v (.int .i64 q.1))],
      [(0, .cells 24 [.v (.slice none 0 0)]), (1, .cells 24 [.own 2]), (2, .row 41 8 (List.zipWith blkV q.2 (p.take q.1)))], 3⟩,
    fun q H' => Le H H' ∧ q.1 ≤ p.length ∧ FamI H H' q.2 (p.take q.1), fun q => p.length - q.1, ⟨(0, []), [(0, 1), (1, 2)], ?_, Le.refl _, Nat.zero_le _, ⟨rfl, fun i v b h1 => (by cases h1), List.Pairwise.nil⟩⟩, ?_⟩
  · (repeat' (first | exact trivial | refine ⟨?_, ?_⟩ | exact rfl | assumption))
  rintro ⟨i, vs⟩ H1 hle1 ⟨_, hi, hf⟩
  dsimp only at hi hf
  have hvl : vs.length = i := by rw [hf.len, List.length_take]; omega
  have hcl : (List.zipWith blkV vs (p.take i)).length = i := by rw [List.length_zipWith, List.length_take]; omega
  refine ⟨fun h => ?_, fun h => ?_⟩
  · have hlt : i < p.length := by have := dt h; dsimp only at this; omega
    refine name_k p[i] fun b hbe => ?_
    have hbb : p[i]? = some b := by rw [hbe]; exact List.getElem?_eq_getElem hlt
    refine block_k (ha.up hle1) hbb fun ad a1 n1 c1 q1 hh hr1 hs1 ht1 => ?_
    refine ⟨ad, ⟨by dsimp only; omega, by dsimp only; omega, q1⟩, ?_⟩
    refine ⟨_, hh, ?_⟩
    refine cloneS2_spec (hl b (List.mem_of_getElem? hbb)) hr1 fun a5 n5 c5 H5 hle5 hst => ?_
    have htk : p.take (i + 1) = p.take i ++ [b] := by rw [List.take_add_one, hbb, Option.toList_some]
    have hz : List.zipWith blkV (vs ++ [.slice a5 n5 c5]) (p.take (i + 1)) = List.zipWith blkV vs (p.take i) ++ [blkV (.slice a5 n5 c5) b] := by rw [htk, zipBlk_snoc hf.len]
    refine ⟨⟨by show ((List.zipWith blkV vs (p.take i)).length + 1) * 112 ≤ 140737488355328; omega, by show (List.zipWith blkV vs (p.take i)).length + 1 ≤ 9223372036854775807; omega⟩, ?_⟩
    refine ⟨⟨by dsimp only; omega, by dsimp only; omega⟩, (i + 1, vs ++ [.slice a5 n5 c5]), [(0, 0), (1, 1), (2, 5)], ?_, ⟨hle1.trans hle5.le, hlt, by dsimp only; rw [htk]; exact hf.snoc hle1 hle5⟩, by dsimp only; omega⟩
    have hz := hz.symm
    (repeat' (first | exact trivial | refine ⟨?_, ?_⟩ | exact rfl | assumption))
  · have hil : i = p.length := by have := df h; dsimp only at this; omega
    rw [hil, List.take_length] at hf
    intro v H' hle hv
    have hle : LeN 41 8 (List.zipWith blkV vs (p.take i)) H1 v H' := hle
    rw [hil, List.take_length] at hle
    exact hK v vs H1 H' hle1 hf hle
abbrev famL (vs : List Value) (p : Prog) : List (Value × List (List Value)) := List.zip vs (p.map fun b => b.2.1.map stV)
theorem famL_mem {vs : List Value} {p : Prog} {q : Value × List (List Value)} (h : q ∈ famL vs p) : ∃ (i : Nat) (b : Block), vs[i]? = some q.1 ∧ p[i]? = some b ∧ q.2 = b.2.1.map stV := by
  obtain ⟨i, hi⟩ := List.getElem?_of_mem h
  rw [famL, List.getElem?_zip_eq_some, List.getElem?_map] at hi
  obtain ⟨h1, h2⟩ := hi
  cases hb : p[i]? with
  | none => rw [hb] at h2; cases h2
  | some b =>
    rw [hb] at h2
    simp only [Option.map_some, Option.some.injEq] at h2
    exact ⟨i, b, h1, hb, h2.symm⟩
theorem stV_ok (l : List Stmt) : ∀ y ∈ l.map stV, y.length = 9 ∧ ∀ u ∈ y, u.oneCell' = true := by
  intro y hy
  obtain ⟨s, _, rfl⟩ := List.mem_map.1 hy
  have h : (stV s).all (·.oneCell') = true := rfl
  exact ⟨rfl, fun u hu => List.all_eq_true.1 h u hu⟩
theorem cloneF_spec {p : Prog} (hp : p.length ≤ 1000000) (hl : ∀ b ∈ p, b.2.1.length ≤ 1000000) {a : Option Addr} {n c : Nat} {H : Hp} {K : SV → St → Hp → Prop} (ha : RL H a n c p)
    (hK : ∀ vs H', Le H H' → vs.length = p.length → (∀ (i : Nat) (v : Value) (b : Block), vs[i]? = some v → p[i]? = some b → ∃ a c, v = .slice a b.2.1.length c ∧ (a = none → b.2.1 = [])) → K (.agg [.own 0]) ⟨[], [(0, .row 41 8 (List.zipWith blkV vs p)), (1, .fam 75 9 (famL vs p))], 2⟩ H') : DoesG Tryz.prog 36 [.agg [.v (.slice a n c)]] [] 0 H K := by
  refine doesG_thawB (args := [.agg #[.slice a n c]]) (fun _ => rfl) (pclone2_spec hp hl ha (K := fun v H' => ∃ x vs H3, v = .agg #[x] ∧ Le H H3 ∧ FamI H H3 vs p ∧ LeN 41 8 (List.zipWith blkV vs p) H3 x H') (fun v vs H3 H' h1 h2 h3 => ⟨v, vs, H3, rfl, h1, h2, h3⟩)) ?_
  rintro v H2 hle ⟨x, vs, H3, rfl, h1, h2, h3⟩
  have hsl : ∀ (i : Nat) (v : Value) (b : Block), vs[i]? = some v → p[i]? = some b → ∃ a c, v = .slice a b.2.1.length c ∧ (a = none → b.2.1 = []) := fun i v b h4 h5 => by
    rcases h2.new i v b h4 h5 with ⟨h6, h7⟩ | ⟨g, cap, cc, h6, _⟩
    · have h8 : b.2.1 = [] := List.map_eq_nil_iff.1 h7
      exact ⟨none, 0, by rw [h6, h8]; rfl, fun _ => h8⟩
    · rw [List.length_map] at h6
      exact ⟨_, _, h6, fun h => by cases h⟩
  refine ⟨41, 8, List.zipWith blkV vs p, x, 75, 9, famL vs p, .agg [.own 0], fun ρ hρ => ?_, rfl, (LeN.base h1 h3).new, fun y hy => ?_, fun q hq => ?_, ?_, fun q hq g hg hg' => ?_, fun H' hle2 _ => hK vs H' hle2 h2.len hsl⟩
  · show Value.agg #[ρ.val 0] = _
    rw [hρ]
  · obtain ⟨i, hi⟩ := List.getElem?_of_mem hy
    rw [List.getElem?_zipWith_eq_some] at hi
    obtain ⟨v, b, h4, h5, rfl⟩ := hi
    obtain ⟨a1, c1, rfl, _⟩ := hsl i v b h4 h5
    have h : (blkV (.slice a1 b.2.1.length c1) b).all (·.oneCell') = true := rfl
    exact ⟨rfl, fun u hu => List.all_eq_true.1 h u hu⟩
  · obtain ⟨i, b, h4, h5, h6⟩ := famL_mem hq
    rw [h6]
    exact ⟨newAt_up (h2.new i _ b h4 h5) h3.le, stV_ok _⟩
  · have e : (famL vs p).map Prod.fst = vs := List.map_fst_zip (by rw [List.length_map]; exact Nat.le_of_eq h2.len)
    have hd := h2.dis
    rw [← e, List.pairwise_map] at hd
    exact hd
  · obtain ⟨i, b, h4, h5, _⟩ := famL_mem hq
    obtain ⟨_, o, ho⟩ := (h2.new i _ b h4 h5).fresh hg'
    have := (h3.new.fresh hg).1
    rw [ho] at this
    cases this
end Go.Proofs
end
section
namespace Go.Proofs
open Go.Sy
set_option maxRecDepth 20000
set_option maxHeartbeats 4000000
/-! fold.Program. -/
def mixP (p : Prog) (i : Nat) : Prog := (foldP p).take i ++ p.drop i
theorem mixP_len {p : Prog} {i : Nat} (h : i ≤ p.length) : (mixP p i).length = p.length := by rw [mixP, List.length_append, List.length_take, List.length_drop, foldP_len]; omega
theorem mixP_get {p : Prog} {i : Nat} {b : Block} (h : p[i]? = some b) : (mixP p i)[i]? = some b := by
  have hlt := (List.getElem?_eq_some_iff.1 h).1
  have hl : ((foldP p).take i).length = i := by rw [List.length_take, foldP_len]; omega
  rw [mixP, List.getElem?_append_right (by omega), hl, Nat.sub_self, List.getElem?_drop, Nat.add_zero]; exact h
theorem mixP_set {p : Prog} {i : Nat} {b : Block} (h : p[i]? = some b) : (mixP p i).set i (foldB p i b) = mixP p (i + 1) := by
  have hlt := (List.getElem?_eq_some_iff.1 h).1
  have hl : ((foldP p).take i).length = i := by rw [List.length_take, foldP_len]; omega
  have hd : p.drop i = b :: p.drop (i + 1) := by
    rw [List.drop_eq_getElem_cons hlt]
    rw [List.getElem?_eq_getElem hlt] at h
    simp only [Option.some.injEq] at h
    rw [h]
  rw [mixP, List.set_append_right _ _ (by omega), hl, Nat.sub_self, hd, List.set_cons_zero, mixP, foldP, mapIdx_take h, List.append_assoc]; rfl
def mixL (p : Prog) (i : Nat) (b : Block) (k : Nat) : List Stmt := (foldL p i b).take k ++ b.2.1.drop k
theorem mixL_zero (p : Prog) (i : Nat) (b : Block) : mixL p i b 0 = b.2.1 := rfl
theorem mixL_full (p : Prog) (i : Nat) (b : Block) : mixL p i b b.2.1.length = foldL p i b := by rw [mixL, List.drop_length, List.append_nil, List.take_of_length_le (by rw [foldL_len]; exact Nat.le_refl _)]
theorem mixL_len {p : Prog} {i : Nat} {b : Block} {k : Nat} (h : k ≤ b.2.1.length) : (mixL p i b k).length = b.2.1.length := by rw [mixL, List.length_append, List.length_take, List.length_drop, foldL_len]; omega
theorem mixL_set {p : Prog} {i : Nat} {b : Block} {k : Nat} {s : Stmt} (h : b.2.1[k]? = some s) : (mixL p i b k).set k (foldS p (knownAt p i b k) s) = mixL p i b (k + 1) := by
  have hlt := (List.getElem?_eq_some_iff.1 h).1
  have hl : ((foldL p i b).take k).length = k := by rw [List.length_take, foldL_len]; omega
  have hd : b.2.1.drop k = s :: b.2.1.drop (k + 1) := by
    rw [List.drop_eq_getElem_cons hlt]
    rw [List.getElem?_eq_getElem hlt] at h
    simp only [Option.some.injEq] at h
    rw [h]
  rw [mixL, List.set_append_right _ _ (by omega), hl, Nat.sub_self, hd, List.set_cons_zero, mixL, foldL, mapIdx_take h, List.append_assoc]; rfl
theorem split_set {α : Type} : ∀ (l : List α) (i : Nat) (x : α), l[i]? = some x → l = l.take i ++ x :: l.drop (i + 1) ∧ ∀ y, l.take i ++ y :: l.drop (i + 1) = l.set i y
  | [], i, x, h => by simp at h
  | a :: r, 0, x, h => by
    simp only [List.getElem?_cons_zero, Option.some.injEq] at h
    subst h
    exact ⟨rfl, fun y => rfl⟩
  | a :: r, i + 1, x, h => by
    have ih := split_set r i x (by simpa using h)
    refine ⟨?_, fun y => ?_⟩
    · rw [List.take_succ_cons, List.drop_succ_cons, List.cons_append, ← ih.1]
    · rw [List.take_succ_cons, List.drop_succ_cons, List.cons_append, ih.2 y]; rfl
theorem zipW_set {α β γ : Type} (f : α → β → γ) : ∀ (vs : List α) (q : List β) (i : Nat) (v : α), vs[i]? = some v → ∀ y, (List.zipWith f vs q).set i (f v y) = List.zipWith f vs (q.set i y)
  | [], q, i, v, h, y => by simp at h
  | a :: r, [], i, v, h, y => by simp
  | a :: r, b :: q, 0, v, h, y => by
    simp only [List.getElem?_cons_zero, Option.some.injEq] at h
    subst h
    rfl
  | a :: r, b :: q, i + 1, v, h, y => by
    have ih := zipW_set f r q i v (by simpa using h) y
    rw [List.set_cons_succ, List.zipWith_cons_cons, List.zipWith_cons_cons, List.set_cons_succ, ih]
theorem famL_split {vs : List Value} {q : Prog} {i : Nat} {v : Value} {b : Block} (hv : vs[i]? = some v) (hb : q[i]? = some b) :
    famL vs q = (famL vs q).take i ++ (v, b.2.1.map stV) :: (famL vs q).drop (i + 1) ∧ ∀ b' : Block, (famL vs q).take i ++ (v, b'.2.1.map stV) :: (famL vs q).drop (i + 1) = famL vs (q.set i b') := by
  have h1 : (famL vs q)[i]? = some (v, b.2.1.map stV) := by
    rw [famL, List.getElem?_zip_eq_some, List.getElem?_map, hb]; exact ⟨hv, rfl⟩
  have h2 := split_set _ _ _ h1
  refine ⟨h2.1, fun b' => ?_⟩
  rw [h2.2, famL, famL, List.map_set]
  exact zipW_set Prod.mk vs _ i v hv _
theorem zipBlk_set {vs : List Value} {q : Prog} {i : Nat} {v : Value} (hv : vs[i]? = some v) (b' : Block) : (List.zipWith blkV vs q).set i (blkV v b') = List.zipWith blkV vs (q.set i b') := zipW_set blkV vs q i v hv b'
theorem zipBlk_get {vs : List Value} {q : Prog} {i : Nat} {v : Value} {b : Block} (hv : vs[i]? = some v) (hb : q[i]? = some b) : (List.zipWith blkV vs q)[i]? = some (blkV v b) := by
  rw [List.getElem?_zipWith, hv, hb]
theorem pfoldG_spec {p : Prog} (hp : p.length ≤ 12) (hl : ∀ b ∈ p, b.2.1.length ≤ 1000000) (hc : stmtsN p ≤ 1000000) (hv : cnt p < 400000) {a : Option Addr} {n c : Nat} {H : Hp} {K : SV → St → Hp → Prop} (ha : RL H a n c p)
    (hbad : checkE p ≠ 0 → ∀ H', Le H H' → K (.tup [.agg [.v (.slice none 0 0)], .v (.int .i64 (checkE p))]) ⟨[], [], 0⟩ H')
    (hK : checkE p = 0 → ∀ vs H', Le H H' → vs.length = p.length → (∀ (i : Nat) (v : Value) (b : Block), vs[i]? = some v → p[i]? = some b → ∃ a c, v = .slice a b.2.1.length c ∧ (a = none → b.2.1 = [])) → K (.tup [.agg [.own 2], .v (.int .i64 0)]) ⟨[], [(2, .row 41 8 (List.zipWith blkV vs (foldP p))), (3, .fam 75 9 (famL vs (foldP p)))], 5⟩ H') :
    DoesG Tryz.prog 32 [.agg [.v (.slice a n c)]] [] 0 H K := by
  refine spec_ofG cxE_ok cx_mix Tryz.func32 Tryz.call32 Tryz.ntmps32 Tryz.results32 rfl rfl ?_
  refine sets_spec hp hl hc hv ha (fun he H1 hle1 => ?_) (fun he a4 n4 c4 a2 n2 c2 H1 hle1 hr4 hr2 => ?_)
  · refine ⟨fun _ => ?_, fun h => absurd (nf h) he⟩
    exact ⟨.tup [.agg [.v (.slice none 0 0)], .v (.int .i64 (checkE p))], [], 0, [], by (repeat' (first | exact trivial | refine ⟨?_, ?_⟩ | exact rfl | assumption)), hbad he _ hle1⟩
  have hK := hK he
  refine ⟨(fun h => absurd rfl (nt h)), fun _ => ?_⟩
  refine ⟨[], rfl, cloneF_spec (by omega) hl (ha.up hle1) fun vs H2 hle2 hvl hsl => ?_⟩
  have hK := fun H' h => hK vs H' h hvl hsl
  have hle := hle1.trans hle2
  have ho := sysOf_ok he
  have hA := solveS_ok ho
  have hm : (sysOf p).m = p.length := rfl
  have hn := ha.n_eq
  have hn4 := hr4.n_eq
  rw [hA.len] at hn4
  have hok := check_facts he
  have hzl : ∀ q : Prog, q.length = p.length → (List.zipWith blkV vs q).length = p.length := fun q hq => by rw [List.length_zipWith, hvl, hq, Nat.min_self]
  refine ⟨Nat, fun i => ⟨[(1, .ptr 0 0), (2, .ptr 1 0), (4, .v (.slice a4 n4 c4)), (7, .ptr 4 0), (28, .own 2), (29, .v (.int .i64 (p.length : Nat))), (30, .v (.int .i64 i))],
      [(0, .cells 24 [.v (.slice a n c)]), (1, .cells 24 [.v (.slice none 0 0)]), (4, .cells 24 [.own 2]), (2, .row 41 8 (List.zipWith blkV vs (mixP p i))), (3, .fam 75 9 (famL vs (mixP p i)))], 5⟩,
    fun i H' => Le H2 H' ∧ i ≤ p.length, fun i => p.length - i, ⟨0, [(0, 0), (1, 1), (2, 2), (3, 3), (4, 4)], ?_, Le.refl _, Nat.zero_le _⟩, ?_⟩
  · have e0 : SV.v (.int .i64 ((List.zipWith blkV vs p).length : Nat)) = SV.v (.int .i64 (p.length : Nat)) := by rw [hzl p rfl]
    (repeat' (first | exact trivial | refine ⟨?_, ?_⟩ | exact rfl | assumption))
  rintro i H3 hle3 ⟨_, hi⟩
  have hml := hzl _ (mixP_len hi)
  refine ⟨fun h => ?_, fun h => ?_⟩
  · have hlt : i < p.length := by have := dt h; omega
    refine name_k p[i] fun b hbe => ?_
    have hbb : p[i]? = some b := by rw [hbe]; exact List.getElem?_eq_getElem hlt
    have hvi : vs[i]? = some (vs[i]'(by omega)) := List.getElem?_eq_getElem _
    obtain ⟨av, cv, hve, hav⟩ := hsl i _ b hvi hbb
    rw [hve] at hvi
    have hg : (List.zipWith blkV vs (mixP p i))[(i : Int).toNat]? = some (blkV (.slice av b.2.1.length cv) b) := zipBlk_get hvi (mixP_get hbb)
    refine ⟨⟨by omega, by omega⟩, ?_⟩
    refine ⟨_, hg, ?_⟩
    have hAg := aAt_get hA (v := i) (by rw [hm]; exact hlt)
    have hAo := aAt_ok hA (v := i) (by rw [hm]; exact hlt)
    have hle4 := hle2.trans hle3
    have hleH := hle.trans hle3
    refine list_k (hr4.up hle4) hAg fun ad2 a6 n6 c6 q2 hh2 hr6 => ?_
    refine ⟨ad2, ⟨by omega, by omega, q2⟩, ?_⟩
    refine ⟨_, hh2, ?_⟩
    have hsp := split_set _ _ _ (mixP_get hbb)
    have hsame : (mixP p i).set i b = mixP p i := (hsp.2 b).symm.trans hsp.1.symm
    have hnext := mixP_set hbb
    refine never_spec hr6 ?_
    refine ⟨fun h => ?_, fun h => ?_⟩
    · have hnt : nev p i = true := h
      have hfb : foldB p i b = b := by rw [foldB, hnt]; rfl
      rw [hfb, hsame] at hnext
      refine ⟨⟨by omega, by omega⟩, i + 1, [(0, 0), (1, 1), (2, 2), (3, 3), (4, 4)], ?_, ⟨hle3, hlt⟩, by dsimp only; omega⟩
      have e1 : List.zipWith blkV vs (mixP p i) = List.zipWith blkV vs (mixP p (i + 1)) := by rw [hnext]
      have e2 : famL vs (mixP p (i + 1)) = famL vs (mixP p i) := by rw [hnext]
      have e3 := e1.symm
      have e4 := e2.symm
      (repeat' (first | exact trivial | refine ⟨?_, ?_⟩ | exact rfl | assumption))
    have hnf : nev p i = false := h
    have hbl := hl b (List.mem_of_getElem? hbb)
    have hf0 : famL vs (mixP p i) = famL vs ((mixP p i).set i (b.1, mixL p i b 0, b.2.2)) := by
      rw [mixL_zero]; exact congrArg (famL vs) hsame.symm
    refine ⟨Nat, fun k => ⟨[(1, .ptr 0 0), (2, .ptr 1 0), (4, .v (.slice a4 n4 c4)), (7, .ptr 4 0), (8, .v (.int .i64 i)), (9, .ptr 5 0), (28, .own 2), (29, .v (.int .i64 (p.length : Nat))), (30, .v (.int .i64 i)), (41, .v (.slice av b.2.1.length cv)), (42, .v (.int .i64 (b.2.1.length : Nat))), (43, .v (.int .i64 k))],
        [(0, .cells 24 [.v (.slice a n c)]), (1, .cells 24 [.v (.slice none 0 0)]), (4, .cells 24 [.own 2]), (2, .row 41 8 (List.zipWith blkV vs (mixP p i))), (3, .fam 75 9 (famL vs ((mixP p i).set i (b.1, mixL p i b k, b.2.2)))), (5, .cells 41 (vL (blkV (.slice av b.2.1.length cv) b)))], 6⟩,
      fun k H' => Le H3 H' ∧ k ≤ b.2.1.length, fun k => b.2.1.length - k, ⟨0, [(0, 0), (1, 1), (2, 2), (3, 3), (4, 4), (5, 5)], ?_, Le.refl _, Nat.zero_le _⟩, ?_⟩
    · have hf1 := hf0.symm
      (repeat' (first | exact trivial | refine ⟨?_, ?_⟩ | exact rfl | assumption))
    rintro k H4 hle5 ⟨_, hk⟩
    have hleK := hleH.trans hle5
    refine ⟨fun h => ?_, fun h => ?_⟩
    · have hkl : k < b.2.1.length := by have := dt h; omega
      refine name_k b.2.1[k] fun s hse => ?_
      have hss : b.2.1[k]? = some s := by rw [hse]; exact List.getElem?_eq_getElem hkl
      refine at_spec (i := (i : Nat)) (j := (k : Nat)) hp hl hc hv (ha.up hleK) (fun he2 => absurd he he2) (fun _ hno => absurd ⟨by omega, by omega, b, by rw [Int.toNat_natCast]; exact hbb, by omega, by omega⟩ hno) (fun _ b' hb' _ _ _ _ a8 n8 c8 H5 hle6 hr8 => ?_)
      rw [Int.toNat_natCast, hbb] at hb'
      cases hb'
      rw [Int.toNat_natCast, Int.toNat_natCast] at hr8
      have hr8 : RL H5 a8 n8 c8 (knownAt p i b k) := hr8
      have hleM := hleK.trans hle6
      refine block_k (ha.up hleM) hbb fun ad a5 n5 c5 q1 hh hr5 hs5 ht5 => ?_
      have hn5 := hr5.n_eq
      refine stmt_k hr5 hss fun ad3 q3 hh3 hsr => ?_
      refine ⟨some ([3], [0, 1, 2, 3, 4, 5, 6, 7, 8, 9, 10, 11, 12, 13, 14, 15, 16]), by kernel_rfl, ?_⟩
      refine ⟨ad, ⟨by omega, by omega, q1⟩, ?_⟩
      refine ⟨_, hh, ?_⟩
      refine ⟨ad3, ⟨by omega, by omega, q3⟩, ?_⟩
      refine ⟨_, hh3, ?_⟩
      refine fstmt_spec hsr (ha.up hleM) hr8 hv fun _ _ => ?_
      cases av with
      | none => exact absurd (hav rfl) (fun h => by rw [h] at hkl; cases hkl)
      | some adv =>
        refine ⟨adv, ⟨by omega, by omega, rfl⟩, ?_⟩
        have hqb : ((mixP p i).set i (b.1, mixL p i b k, b.2.2))[i]? = some (b.1, mixL p i b k, b.2.2) := List.getElem?_set_self (by rw [mixP_len hi]; exact hlt)
        have hspl := famL_split (b := (b.1, mixL p i b k, b.2.2)) hvi hqb
        have hml2 : (mixL p i b k)[k]? = some s := by
          have hl9 : ((foldL p i b).take k).length = k := by rw [List.length_take, foldL_len]; omega
          rw [mixL, List.getElem?_append_right (by omega), hl9, Nat.sub_self, List.getElem?_drop, Nat.add_zero]; exact hss
        refine ⟨3, 75, _, _, _, _, _, _, stV s, rfl, hspl.1, by dsimp only; rw [Int.toNat_natCast, List.getElem?_map, hml2]; rfl, by decide, ?_⟩
        have e5 : (famL vs ((mixP p i).set i (b.1, mixL p i b k, b.2.2))).take i ++ ((.slice (some adv) b.2.1.length cv, ((mixL p i b k).map stV).set k (stV (foldS p (knownAt p i b k) s))) : Value × List (List Value)) :: (famL vs ((mixP p i).set i (b.1, mixL p i b k, b.2.2))).drop (i + 1) = famL vs ((mixP p i).set i (b.1, mixL p i b (k + 1), b.2.2)) := by
          have e7 := hspl.2 (b.1, mixL p i b (k + 1), b.2.2)
          rw [List.set_set] at e7
          rw [← e7, ← List.map_set, mixL_set hss]
        have e6 := e5.symm
        refine ⟨⟨by omega, by omega⟩, k + 1, [(0, 0), (1, 1), (2, 2), (3, 3), (4, 4), (5, 5)], ?_, ⟨hle5.trans hle6, hkl⟩, by dsimp only; omega⟩
        (repeat' (first | exact trivial | refine ⟨?_, ?_⟩ | exact rfl | assumption))
    have hkn : k = b.2.1.length := by have := df h; omega
    have hfb : foldB p i b = (b.1, foldL p i b, foldT p i b) := by rw [foldB, hnf]; rfl
    rw [hfb] at hnext
    have hF : famL vs ((mixP p i).set i (b.1, mixL p i b k, b.2.2)) = famL vs (mixP p (i + 1)) := by
      rw [← hnext, hkn, mixL_full, famL, famL, List.map_set, List.map_set]
    have hF2 := hF.symm
    refine at_spec (i := (i : Nat)) (j := (b.2.1.length : Nat)) hp hl hc hv (ha.up hleK) (fun he2 => absurd he he2) (fun _ hno => absurd ⟨by omega, by omega, b, by rw [Int.toNat_natCast]; exact hbb, by omega, by omega⟩ hno) (fun _ b' hb' _ _ _ _ a8 n8 c8 H5 hle6 hr8 => ?_)
    rw [Int.toNat_natCast, hbb] at hb'
    cases hb'
    rw [Int.toNat_natCast, Int.toNat_natCast] at hr8
    have hr8 : RL H5 a8 n8 c8 (knownAt p i b b.2.1.length) := hr8
    have hleM := hleK.trans hle6
    have hZ : (List.zipWith blkV vs (mixP p i)).set i (blkV (.slice av b.2.1.length cv) (b.1, foldL p i b, foldT p i b)) = List.zipWith blkV vs (mixP p (i + 1)) := by
      rw [← hnext]; exact zipBlk_set hvi _
    refine ⟨fun h2 => ?_, fun h2 => ?_⟩
    · have h2 : b.2.2.1 = 2 := dt h2
      have hft : foldT p i b = (b.2.2.1, foldA p (knownAt p i b b.2.1.length) b.2.2.2.1, b.2.2.2.2) := if_pos h2
      rw [hft] at hZ
      have hZ2 := hZ.symm
      refine ⟨some ([2], [0, 1, 2, 3, 4, 5, 6, 7, 8, 9, 10, 11, 12]), by kernel_rfl, ?_⟩
      refine vatom_spec (ha.up hleM) hr8 hv fun _ _ => ?_
      refine ⟨⟨by omega, by omega⟩, ?_⟩
      refine ⟨_, hg, ?_⟩
      refine ⟨⟨by omega, by omega⟩, i + 1, [(0, 0), (1, 1), (2, 2), (3, 3), (4, 4)], ?_, ⟨(hle3.trans hle5).trans hle6, hlt⟩, by dsimp only; omega⟩
      (repeat' (first | exact trivial | refine ⟨?_, ?_⟩ | exact rfl | assumption))
    · have h2 : ¬ b.2.2.1 = 2 := df h2
      have hft : foldT p i b = b.2.2 := if_neg h2
      rw [hft] at hZ
      have hsz := split_set _ _ _ (zipBlk_get hvi (mixP_get hbb))
      have hZ3 : List.zipWith blkV vs (mixP p i) = List.zipWith blkV vs (mixP p (i + 1)) := hsz.1.trans ((hsz.2 _).trans hZ)
      have hZ4 := hZ3.symm
      refine ⟨⟨by omega, by omega⟩, i + 1, [(0, 0), (1, 1), (2, 2), (3, 3), (4, 4)], ?_, ⟨(hle3.trans hle5).trans hle6, hlt⟩, by dsimp only; omega⟩
      (repeat' (first | exact trivial | refine ⟨?_, ?_⟩ | exact rfl | assumption))
  · have hil : i = p.length := by have := df h; omega
    have e : mixP p p.length = foldP p := by rw [mixP, List.drop_length, List.append_nil, List.take_of_length_le (by rw [foldP_len]; exact Nat.le_refl _)]
    rw [hil, e]
    exact ⟨.tup [.agg [.own 2], .v (.int .i64 0)], [(2, .row 41 8 (List.zipWith blkV vs (foldP p))), (3, .fam 75 9 (famL vs (foldP p)))], 5, [(2, 2), (3, 3)], by (repeat' (first | exact trivial | refine ⟨?_, ?_⟩ | exact rfl | assumption)), hK _ (hle.trans hle3)⟩
end Go.Proofs
end
section
namespace Go.Proofs
open Go.Sy
set_option maxRecDepth 20000
set_option maxHeartbeats 4000000
theorem prog_R {p : Prog} {a : Option Addr} {n c : Nat} {H : Hp} (ha : RL H a n c p) {i : Nat} {b : Block} (hb : p[i]? = some b) : sR b.1 ∧ termR b.2.2 ∧ ∀ s ∈ b.2.1, stmtR s :=
  block_k ha hb fun _ _ _ _ _ _ hr hs ht => ⟨hs, ht, fun s hs2 => by
    obtain ⟨j, hj⟩ := List.getElem?_of_mem hs2
    exact stmt_k hr hj fun _ _ _ h => h⟩
theorem foldB_R {p : Prog} {i : Nat} {b : Block} (h : sR b.1 ∧ termR b.2.2 ∧ ∀ s ∈ b.2.1, stmtR s) : sR (foldB p i b).1 ∧ termR (foldB p i b).2.2 ∧ ∀ s ∈ (foldB p i b).2.1, stmtR s := by
  unfold foldB
  split
  · exact h
  · refine ⟨h.1, foldT_R h.2.1, fun s hs => ?_⟩
    obtain ⟨k, hk, rfl⟩ := List.mem_mapIdx.1 hs
    exact foldS_R (h.2.2 _ (List.getElem_mem _))
theorem pfold_spec {p : Prog} (hp : p.length ≤ 12) (hl : ∀ b ∈ p, b.2.1.length ≤ 1000000) (hc : stmtsN p ≤ 1000000) (hv : cnt p < 400000) {a : Option Addr} {n c : Nat} {H : Hp} {K : Value → Hp → Prop} (ha : RL H a n c p)
    (hbad : checkE p ≠ 0 → ∀ H', Le H H' → K (.tuple #[.agg #[.slice none 0 0], .int .i64 (checkE p)]) H')
    (hK : checkE p = 0 → ∀ a1 n1 c1 H', Le H H' → RL H' a1 n1 c1 (foldP p) → K (.tuple #[.agg #[.slice a1 n1 c1], .int .i64 0]) H') : Does Tryz.prog 32 [.agg #[.slice a n c]] H K := by
  refine does_frzB (svs := [.agg [.v (.slice a n c)]]) (fun _ => rfl) rfl (pfoldG_spec hp hl hc hv ha (K := fun x t H1 => (checkE p ≠ 0 ∧ Le H H1 ∧ x = .tup [.agg [.v (.slice none 0 0)], .v (.int .i64 (checkE p))]) ∨ (checkE p = 0 ∧ Le H H1 ∧ ∃ vs, vs.length = p.length ∧ x = .tup [.agg [.own 2], .v (.int .i64 0)] ∧ t = ⟨[], [(2, .row 41 8 (List.zipWith blkV vs (foldP p))), (3, .fam 75 9 (famL vs (foldP p)))], 5⟩))
    (fun he H1 h1 => .inl ⟨he, h1, rfl⟩) (fun he vs H1 h1 h2 _ => .inr ⟨he, h1, vs, h2, rfl, rfl⟩)) ?_
  rintro x t H1 (⟨he, h1, rfl⟩ | ⟨he, h1, vs, h2, rfl, rfl⟩) hle
  · exact .inl ⟨_, fun _ => rfl, hbad he _ h1⟩
  · refine .inr ⟨2, 3, 41, 8, _, 75, 9, _, fun v => .tuple #[.agg #[v], .int .i64 0], fun _ => rfl, rfl, rfl, by decide, fun v H' hle2 hr hf => ?_⟩
    have hrc : RC (α := Block) H' (List.zipWith blkV vs (foldP p)) (foldP p) := by
      refine ⟨by rw [List.length_zipWith, h2, foldP_len, Nat.min_self], fun i cs b h3 h4 => ?_⟩
      rw [List.getElem?_zipWith_eq_some] at h3
      obtain ⟨u, b', h5, h6, rfl⟩ := h3
      rw [h4] at h6
      cases h6
      have hpi : ∃ b0, p[i]? = some b0 ∧ b = foldB p i b0 := by
        rw [foldP, List.getElem?_mapIdx] at h4
        cases hb : p[i]? with
        | none => rw [hb] at h4; cases h4
        | some b0 =>
          rw [hb] at h4
          simp only [Option.map_some, Option.some.injEq] at h4
          exact ⟨b0, rfl, h4.symm⟩
      obtain ⟨b0, hb0, hbe⟩ := hpi
      have hR := foldB_R (p := p) (i := i) (prog_R ha hb0)
      rw [← hbe] at hR
      have hm : (u, b.2.1.map stV) ∈ famL vs (foldP p) := by
        apply List.mem_of_getElem? (i := i)
        rw [famL, List.getElem?_zip_eq_some, List.getElem?_map, h4]; exact ⟨h5, rfl⟩
      exact blkR_mk (hf _ hm) hR.2.2 hR.1 hR.2.1
    refine of_row_k (α := Block) hr hrc fun a1 n1 c1 e hr1 => ?_
    subst e
    exact hK he _ _ _ _ (h1.trans hle2) hr1
end Go.Proofs
end
section
namespace Go.Proofs
open Go.Sy
set_option maxRecDepth 20000
theorem str_vc (b c : Str) : decide (sl (bs b.l) = sl (bs c.l)) = decide (b = c) := by
  obtain ⟨b⟩ := b
  obtain ⟨c⟩ := c
  rw [decide_eq_decide, sl_bs, sl_bs]
  exact ⟨fun h => by cases h; rfl, fun h => by cases h; rfl⟩
theorem neS_vc (s t : Stmt) : (!(decide (s.1 = t.1) && (decide (sl (bs s.2.1.l) = sl (bs t.2.1.l)) && (decide (s.2.2.1 = t.2.2.1) && (decide (sl (bs s.2.2.2.1.1.l) = sl (bs t.2.2.2.1.1.l)) && (decide (s.2.2.2.1.2.1 = t.2.2.2.1.2.1) && (decide (s.2.2.2.1.2.2 = t.2.2.2.1.2.2) && true) && true) && (decide (sl (bs s.2.2.2.2.1.l) = sl (bs t.2.2.2.2.1.l)) && (decide (s.2.2.2.2.2.1 = t.2.2.2.2.2.1) && (decide (s.2.2.2.2.2.2 = t.2.2.2.2.2.2) && true) && true) && true)) && true)))) = decide (s ≠ t) := by
  rw [str_vc, str_vc, str_vc]
  obtain ⟨a, b, c, ⟨d, e, f⟩, g, h, i⟩ := s
  obtain ⟨a', b', c', ⟨d', e', f'⟩, g', h', i'⟩ := t
  rw [Bool.eq_iff_iff]
  simp [and_assoc, or_assoc]
theorem neT_vc (s t : Term) : (!(decide (s.1 = t.1) && (decide (sl (bs s.2.1.1.l) = sl (bs t.2.1.1.l)) && (decide (s.2.1.2.1 = t.2.1.2.1) && (decide (s.2.1.2.2 = t.2.1.2.2) && true) && true) && (decide (sl (bs s.2.2.1.l) = sl (bs t.2.2.1.l)) && (decide (sl (bs s.2.2.2.l) = sl (bs t.2.2.2.l)) && true))))) = decide (s ≠ t) := by
  rw [str_vc, str_vc, str_vc]
  obtain ⟨a, ⟨d, e, f⟩, g, h⟩ := s
  obtain ⟨a', ⟨d', e', f'⟩, g', h'⟩ := t
  rw [Bool.eq_iff_iff]
  simp [and_assoc, or_assoc]
end Go.Proofs
end
section
namespace Go.Proofs
open Go.Sy
set_option maxRecDepth 20000
set_option maxHeartbeats 4000000
/-! fold.Count. -/
def eqA (x y : Atm) : Bool := decide (x.1.l = y.1.l) && (decide (x.2.1 = y.2.1) && decide (x.2.2 = y.2.2))
def neS (x y : Stmt) : Bool := decide (x ≠ y)
def neT (x y : Term) : Bool := decide (x ≠ y)
theorem neS_comm (x y : Stmt) : neS x y = neS y x := decide_eq_decide.2 ⟨fun h e => h e.symm, fun h e => h e.symm⟩
theorem neT_comm (x y : Term) : neT x y = neT y x := decide_eq_decide.2 ⟨fun h e => h e.symm, fun h e => h e.symm⟩
def neO (x y : Option Stmt) : Bool := match x with
  | some s => match y with
    | some t => neS s t
    | none => false
  | none => false
/-- How many statements differ, of the first k. -/
def cS (l m : List Stmt) (k : Nat) : Nat := (List.range k).countP fun j => neO l[j]? m[j]?
theorem cS_succ {l m : List Stmt} {k : Nat} {x y : Stmt} (h1 : l[k]? = some x) (h2 : m[k]? = some y) : cS l m (k + 1) = cS l m k + (if neS x y then 1 else 0) := by
  rw [cS, List.range_succ, List.countP_append, List.countP_singleton, h1, h2]; rfl
theorem cS_le (l m : List Stmt) (k : Nat) : cS l m k ≤ k := by
  have := List.countP_le_length (p := fun j => neO l[j]? m[j]?) (l := List.range k)
  rw [List.length_range] at this
  exact this
def cB (b c : Block) : Nat := cS b.2.1 c.2.1 c.2.1.length + (if neT b.2.2 c.2.2 then 1 else 0)
def cP (p : Prog) (i : Nat) : Nat := ((List.range i).map fun j => match p[j]? with
  | some b => cB (foldB p j b) b
  | none => 0).sum
theorem cP_succ {p : Prog} {i : Nat} {b : Block} (h : p[i]? = some b) : cP p (i + 1) = cP p i + cB (foldB p i b) b := by
  rw [cP, List.range_succ, List.map_append, List.sum_append, List.map_singleton, h, cP]; simp
theorem cP_le {p : Prog} (hl : ∀ b ∈ p, b.2.1.length ≤ 1000000) : ∀ i, cP p i ≤ i * 1000001
  | 0 => by
    have e : cP p 0 = 0 := rfl
    omega
  | i + 1 => by
    have ih := cP_le hl i
    cases hb : p[i]? with
    | none =>
      have e : cP p (i + 1) = cP p i := by
        rw [cP, List.range_succ, List.map_append, List.sum_append, List.map_singleton, hb, cP]; rfl
      omega
    | some b =>
      have h1 := hl b (List.mem_of_getElem? hb)
      have h2 := cS_le (foldB p i b).2.1 b.2.1 b.2.1.length
      rw [cP_succ hb, cB]
      split <;> omega
theorem foldP_get {p : Prog} {i : Nat} {b : Block} (h : p[i]? = some b) : (foldP p)[i]? = some (foldB p i b) := by rw [foldP, List.getElem?_mapIdx, h]; rfl
theorem count_spec {p : Prog} (hp : p.length ≤ 12) (hl : ∀ b ∈ p, b.2.1.length ≤ 1000000) (hc : stmtsN p ≤ 1000000) (hv : cnt p < 400000) {a : Option Addr} {n c : Nat} {H : Hp} {K : Value → Hp → Prop} (ha : RL H a n c p)
    (hbad : checkE p ≠ 0 → ∀ H', Le H H' → K (.tuple #[.int .i64 0, .int .i64 (checkE p)]) H')
    (hK : checkE p = 0 → ∀ H', Le H H' → K (.tuple #[.int .i64 (cP p p.length : Nat), .int .i64 0]) H') : Does Tryz.prog 33 [.agg #[.slice a n c]] H K := by
  have hn := ha.n_eq
  refine spec_of cx_ok cx_mix rfl Tryz.func33 Tryz.call33 Tryz.ntmps33 Tryz.results33 rfl rfl ?_
  refine pfold_spec hp hl hc hv ha (fun he H1 hle1 => ?_) (fun he a1 n1 c1 H1 hle1 hr1 => ?_)
  · refine ⟨fun _ => ?_, fun h => absurd (nf h) he⟩
    exact hbad he _ hle1
  have hK := hK he _ hle1
  have hn1 := hr1.n_eq
  rw [foldP_len] at hn1
  have ha1 := ha.up hle1
  have hcl := cP_le hl
  refine ⟨(fun h => absurd rfl (nt h)), fun _ => ?_⟩
  refine ⟨Nat, fun i => ⟨[(1, .ptr 0 0), (4, .ptr 1 0), (6, .v (.int .i64 (cP p i : Nat))), (20, .v (.slice a1 n1 c1)), (21, .v (.int .i64 n1)), (22, .v (.int .i64 i))],
      [(0, .cells 24 [.v (.slice a n c)]), (1, .cells 24 [.v (.slice a1 n1 c1)])], 2⟩,
    fun i H' => H' = H1 ∧ i ≤ p.length, fun i => p.length - i, ⟨0, [(0, 0), (1, 1)], ?_, rfl, Nat.zero_le _⟩, ?_⟩
  · (repeat' (first | exact trivial | refine ⟨?_, ?_⟩ | exact rfl | assumption))
  rintro i H2 _ ⟨rfl, hi⟩
  have hci := hcl i
  refine ⟨fun h => ?_, fun h => ?_⟩
  · have hlt : i < p.length := by have := dt h; omega
    refine name_k p[i] fun b hbe => ?_
    have hbb : p[i]? = some b := by rw [hbe]; exact List.getElem?_eq_getElem hlt
    have hbl := hl b (List.mem_of_getElem? hbb)
    have hcs := cP_succ hbb
    refine block_k hr1 (foldP_get hbb) fun ad a5 n5 c5 q1 hh hr5 hs5 ht5 => ?_
    refine ⟨ad, ⟨by omega, by omega, q1⟩, ?_⟩
    refine ⟨_, hh, ?_⟩
    have hn5 := hr5.n_eq
    rw [foldB_len] at hn5
    refine ⟨Nat, fun k => ⟨[(1, .ptr 0 0), (4, .ptr 1 0), (6, .v (.int .i64 (cP p i + cS (foldB p i b).2.1 b.2.1 k : Nat))), (7, .v (.int .i64 i)), (8, .ptr 2 0), (20, .v (.slice a1 n1 c1)), (21, .v (.int .i64 n1)), (22, .v (.int .i64 i)), (28, .v (.slice a5 n5 c5)), (29, .v (.int .i64 n5)), (30, .v (.int .i64 k))],
        [(0, .cells 24 [.v (.slice a n c)]), (1, .cells 24 [.v (.slice a1 n1 c1)]), (2, .cells 41 (vL (blkV (.slice a5 n5 c5) (foldB p i b))))], 3⟩,
      fun k H' => H' = H2 ∧ k ≤ n5, fun k => n5 - k, ⟨0, [(0, 0), (1, 1), (2, 2)], ?_, rfl, Nat.zero_le _⟩, ?_⟩
    · (repeat' (first | exact trivial | refine ⟨?_, ?_⟩ | exact rfl | assumption))
    rintro k H3 _ ⟨rfl, hk⟩
    have hck := cS_le (foldB p i b).2.1 b.2.1 k
    refine block_k ha1 hbb fun ad2 a6 n6 c6 q2 hh2 hr6 hs6 ht6 => ?_
    have hn6 := hr6.n_eq
    refine ⟨fun h => ?_, fun h => ?_⟩
    · have hkl : k < n5 := by have := dt h; omega
      have hkq : k < (foldB p i b).2.1.length := by rw [foldB_len]; omega
      refine name_k (foldB p i b).2.1[k] fun s hse => ?_
      have hss : (foldB p i b).2.1[k]? = some s := by rw [hse]; exact List.getElem?_eq_getElem hkq
      refine name_k (b.2.1[k]'(by omega)) fun s0 hse0 => ?_
      have hss0 : b.2.1[k]? = some s0 := by rw [hse0]; exact List.getElem?_eq_getElem _
      have hcs := cS_succ hss hss0
      refine stmt_k hr5 hss fun ad3 q3 hh3 hsr => ?_
      refine stmt_k hr6 hss0 fun ad4 q4 hh4 hsr4 => ?_
      refine ⟨ad3, ⟨by omega, by omega, q3⟩, ?_⟩
      refine ⟨_, hh3, ?_⟩
      refine ⟨some ([], [0, 1, 2, 3, 4, 5, 6, 7, 8, 9, 10]), by kernel_rfl, ?_⟩
      refine ⟨ad2, ⟨by omega, by omega, q2⟩, ?_⟩
      refine ⟨_, hh2, ?_⟩
      refine ⟨ad4, ⟨by omega, by omega, q4⟩, ?_⟩
      refine ⟨_, hh4, ?_⟩
      refine ⟨fun h => ?_, fun h => ?_⟩
      · have h1 : neS s s0 = true := (neS_vc s s0).symm.trans h
        rw [h1, if_pos rfl] at hcs
        have e0 : SV.v (.int .i64 (((cP p i + cS (foldB p i b).2.1 b.2.1 k : Nat) : Int) + 1)) = SV.v (.int .i64 ((cP p i + cS (foldB p i b).2.1 b.2.1 (k + 1) : Nat) : Int)) := by rw [hcs]; congr 2
        refine ⟨⟨by omega, by omega⟩, ?_⟩
        refine ⟨⟨by omega, by omega⟩, k + 1, [(0, 0), (1, 1), (2, 2)], ?_, ⟨rfl, by omega⟩, by dsimp only; omega⟩
        (repeat' (first | exact trivial | refine ⟨?_, ?_⟩ | exact rfl | assumption))
      · have h1 : neS s s0 = false := (neS_vc s s0).symm.trans h
        rw [h1] at hcs
        have e0 : SV.v (.int .i64 ((cP p i + cS (foldB p i b).2.1 b.2.1 k : Nat) : Int)) = SV.v (.int .i64 ((cP p i + cS (foldB p i b).2.1 b.2.1 (k + 1) : Nat) : Int)) := by rw [hcs]; rfl
        refine ⟨⟨by omega, by omega⟩, k + 1, [(0, 0), (1, 1), (2, 2)], ?_, ⟨rfl, by omega⟩, by dsimp only; omega⟩
        (repeat' (first | exact trivial | refine ⟨?_, ?_⟩ | exact rfl | assumption))
    have hkn : k = n5 := by have := df h; omega
    refine ⟨some ([], [0, 1, 2, 3, 4, 5, 6, 7, 8]), by kernel_rfl, ?_⟩
    refine ⟨ad2, ⟨by omega, by omega, q2⟩, ?_⟩
    refine ⟨_, hh2, ?_⟩
    rw [cB] at hcs
    refine ⟨fun h => ?_, fun h => ?_⟩
    · have h1 : neT (foldB p i b).2.2 b.2.2 = true := (neT_vc (foldB p i b).2.2 b.2.2).symm.trans h
      rw [h1, if_pos rfl, ← hn5, ← hkn] at hcs
      have e0 : SV.v (.int .i64 (((cP p i + cS (foldB p i b).2.1 b.2.1 k : Nat) : Int) + 1)) = SV.v (.int .i64 ((cP p (i + 1) : Nat) : Int)) := by rw [hcs]; congr 2
      refine ⟨⟨by omega, by omega⟩, ?_⟩
      refine ⟨⟨by omega, by omega⟩, i + 1, [(0, 0), (1, 1)], ?_, ⟨rfl, hlt⟩, by dsimp only; omega⟩
      (repeat' (first | exact trivial | refine ⟨?_, ?_⟩ | exact rfl | assumption))
    · have h1 : neT (foldB p i b).2.2 b.2.2 = false := (neT_vc (foldB p i b).2.2 b.2.2).symm.trans h
      rw [h1, ← hn5, ← hkn] at hcs
      have e0 : SV.v (.int .i64 ((cP p i + cS (foldB p i b).2.1 b.2.1 k : Nat) : Int)) = SV.v (.int .i64 ((cP p (i + 1) : Nat) : Int)) := by rw [hcs]; rfl
      refine ⟨⟨by omega, by omega⟩, i + 1, [(0, 0), (1, 1)], ?_, ⟨rfl, hlt⟩, by dsimp only; omega⟩
      (repeat' (first | exact trivial | refine ⟨?_, ?_⟩ | exact rfl | assumption))
  · have hil : i = p.length := by have := df h; omega
    rw [hil]
    exact hK
end Go.Proofs
end
section
namespace Go.Proofs
open Go.Sy
set_option maxRecDepth 20000
set_option maxHeartbeats 4000000
/-! FoldPrograms. -/
theorem FoldPrograms_spec {p : Prog} {a : Option Addr} {n c : Nat} {H : Hp} {K : Value → Hp → Prop} (ha : RL H a n c p) (hK : ∀ H', Le H H' → K (.bool true) H') : Does Tryz.prog 7 [.agg #[.slice a n c]] H K := by
  have hn := ha.n_eq
  have hmx := ha.le
  refine spec_of cx_ok cx_mix rfl Tryz.func7 Tryz.call7 Tryz.ntmps7 Tryz.results7 rfl rfl ?_
  refine awake45_spec fun _ _ => ?_
  refine ⟨(fun h => by cases h), fun _ => ?_⟩
  refine small4_spec ha fun t ht => ?_
  refine ⟨fun h => ?f0, fun h => ?t0⟩
  case t0 => exact hK _ (Le.refl H)
  have hb4 := ht (by simpa using h)
  have hp := hb4.1
  have hl : ∀ b ∈ p, b.2.1.length ≤ 1000000 := fun b h => by have := (hb4.2 b h).1.1; omega
  have hc : stmtsN p ≤ 1000000 := small_stmts hb4
  have hv : cnt p < 400000 := small_cnt hb4
  refine ⟨fun _ => hK _ (Le.refl H), fun _ => ?_⟩
  refine pfold_spec hp hl hc hv ha (fun he H1 hle1 => ?_) (fun he a1 n1 c1 H1 hle1 hr1 => ?_)
  · refine count_spec hp hl hc hv (ha.up hle1) (fun _ H2 hle2 => ?_) (fun he2 => absurd he2 he)
    refine rcheck_spec (ha.up hle1) hc hv fun _ _ => ?_
    refine ⟨fun _ => ?_, fun h => absurd (nf h) he⟩
    refine ⟨fun _ => ?_, fun h => absurd rfl (df h)⟩
    refine ⟨fun _ => ?_, fun h => absurd rfl (df h)⟩
    refine ⟨fun _ => ?_, fun h => absurd rfl (df h)⟩
    exact kbool (hK _ hle1) rfl
  · refine count_spec hp hl hc hv (ha.up hle1) (fun he2 => absurd he he2) (fun _ H2 hle2 => ?_)
    refine rcheck_spec (ha.up hle1) hc hv fun _ _ => ?_
    refine ⟨fun h => absurd he (nt h), fun _ => ?_⟩
    refine rfold_spec hp hl hv he (ha.up hle1) fun a2 n2 c2 H3 hle3 hr2 => ?_
    have hn2 := hr2.n_eq
    rw [foldP_len] at hn2
    have ha3 := ha.up (hle1.trans hle3)
    have hcl := cP_le hl
    have hT := hcl p.length
    refine ⟨Nat, fun i => ⟨[(1, .ptr 0 0), (3, .ptr 1 0), (4, .v (.int .i64 0)), (5, .v (.int .i64 (((cP p p.length : Nat) : Int) - ((cP p i : Nat) : Int)))), (6, .v (.int .i64 0)), (8, .ptr 2 0), (59, .v (.slice a n c)), (60, .v (.int .i64 n)), (61, .v (.int .i64 i))],
        [(0, .cells 24 [.v (.slice a n c)]), (1, .cells 24 [.v (.slice a1 n1 c1)]), (2, .cells 24 [.v (.slice a2 n2 c2)])], 3⟩,
      fun i H' => H' = H3 ∧ i ≤ p.length, fun i => p.length - i, ⟨0, [(0, 0), (1, 1), (2, 2)], ?_, rfl, Nat.zero_le _⟩, ?_⟩
    · have e0 : SV.v (.int .i64 ((cP p p.length : Nat) : Int)) = SV.v (.int .i64 (((cP p p.length : Nat) : Int) - ((cP p 0 : Nat) : Int))) := by
        have e : cP p 0 = 0 := rfl
        rw [e]; congr 2
      (repeat' (first | exact trivial | refine ⟨?_, ?_⟩ | exact rfl | assumption))
    rintro i H4 _ ⟨rfl, hi⟩
    have hci := hcl i
    refine ⟨fun h => ?_, fun h => ?_⟩
    · have hlt : i < p.length := by have := dt h; omega
      refine name_k p[i] fun b hbe => ?_
      have hbb : p[i]? = some b := by rw [hbe]; exact List.getElem?_eq_getElem hlt
      have hbl := hl b (List.mem_of_getElem? hbb)
      have hcs := cP_succ hbb
      refine block_k ha3 hbb fun ad a5 n5 c5 q1 hh hr5 hs5 ht5 => ?_
      refine ⟨ad, ⟨by omega, by omega, q1⟩, ?_⟩
      refine ⟨_, hh, ?_⟩
      have hn5 := hr5.n_eq
      refine ⟨Nat, fun k => ⟨[(1, .ptr 0 0), (3, .ptr 1 0), (4, .v (.int .i64 0)), (5, .v (.int .i64 (((cP p p.length : Nat) : Int) - ((cP p i + cS (foldB p i b).2.1 b.2.1 k : Nat) : Int)))), (6, .v (.int .i64 0)), (8, .ptr 2 0), (9, .v (.int .i64 i)), (10, .ptr 3 0), (59, .v (.slice a n c)), (60, .v (.int .i64 n)), (61, .v (.int .i64 i)), (67, .v (.slice a5 n5 c5)), (68, .v (.int .i64 n5)), (69, .v (.int .i64 k))],
          [(0, .cells 24 [.v (.slice a n c)]), (1, .cells 24 [.v (.slice a1 n1 c1)]), (2, .cells 24 [.v (.slice a2 n2 c2)]), (3, .cells 41 (vL (blkV (.slice a5 n5 c5) b)))], 4⟩,
        fun k H' => H' = H4 ∧ k ≤ n5, fun k => n5 - k, ⟨0, [(0, 0), (1, 1), (2, 2), (3, 3)], ?_, rfl, Nat.zero_le _⟩, ?_⟩
      · (repeat' (first | exact trivial | refine ⟨?_, ?_⟩ | exact rfl | assumption))
      rintro k H5 _ ⟨rfl, hk⟩
      have hck := cS_le (foldB p i b).2.1 b.2.1 k
      refine block_k hr2 (foldP_get hbb) fun ad2 a6 n6 c6 q2 hh2 hr6 hs6 ht6 => ?_
      have hn6 := hr6.n_eq
      rw [foldB_len] at hn6
      refine ⟨fun h => ?_, fun h => ?_⟩
      · have hkl : k < n5 := by have := dt h; omega
        have hkq : k < (foldB p i b).2.1.length := by rw [foldB_len]; omega
        refine name_k (foldB p i b).2.1[k] fun s hse => ?_
        have hss : (foldB p i b).2.1[k]? = some s := by rw [hse]; exact List.getElem?_eq_getElem hkq
        refine name_k (b.2.1[k]'(by omega)) fun s0 hse0 => ?_
        have hss0 : b.2.1[k]? = some s0 := by rw [hse0]; exact List.getElem?_eq_getElem _
        have hcs := cS_succ hss hss0
        rw [neS_comm] at hcs
        refine stmt_k hr6 hss fun ad3 q3 hh3 hsr => ?_
        refine stmt_k hr5 hss0 fun ad4 q4 hh4 hsr4 => ?_
        refine ⟨ad4, ⟨by omega, by omega, q4⟩, ?_⟩
        refine ⟨_, hh4, ?_⟩
        refine ⟨some ([], [0, 1, 2, 3, 4, 5, 6, 7, 8, 9, 10]), by kernel_rfl, ?_⟩
        refine ⟨ad2, ⟨by omega, by omega, q2⟩, ?_⟩
        refine ⟨_, hh2, ?_⟩
        refine ⟨ad3, ⟨by omega, by omega, q3⟩, ?_⟩
        refine ⟨_, hh3, ?_⟩
        refine ⟨fun h => ?_, fun h => ?_⟩
        · have h1 : neS s0 s = true := (neS_vc s0 s).symm.trans h
          rw [h1, if_pos rfl] at hcs
          have e0 : SV.v (.int .i64 (((cP p p.length : Nat) : Int) - ((cP p i + cS (foldB p i b).2.1 b.2.1 k : Nat) : Int) - 1)) = SV.v (.int .i64 (((cP p p.length : Nat) : Int) - ((cP p i + cS (foldB p i b).2.1 b.2.1 (k + 1) : Nat) : Int))) := by rw [hcs]; congr 2; omega
          refine ⟨⟨by omega, by omega⟩, ?_⟩
          refine ⟨⟨by omega, by omega⟩, k + 1, [(0, 0), (1, 1), (2, 2), (3, 3)], ?_, ⟨rfl, by omega⟩, by dsimp only; omega⟩
          (repeat' (first | exact trivial | refine ⟨?_, ?_⟩ | exact rfl | assumption))
        · have h1 : neS s0 s = false := (neS_vc s0 s).symm.trans h
          rw [h1] at hcs
          have e0 : SV.v (.int .i64 (((cP p p.length : Nat) : Int) - ((cP p i + cS (foldB p i b).2.1 b.2.1 k : Nat) : Int))) = SV.v (.int .i64 (((cP p p.length : Nat) : Int) - ((cP p i + cS (foldB p i b).2.1 b.2.1 (k + 1) : Nat) : Int))) := by rw [hcs]; rfl
          refine ⟨⟨by omega, by omega⟩, k + 1, [(0, 0), (1, 1), (2, 2), (3, 3)], ?_, ⟨rfl, by omega⟩, by dsimp only; omega⟩
          (repeat' (first | exact trivial | refine ⟨?_, ?_⟩ | exact rfl | assumption))
      have hkn : k = n5 := by have := df h; omega
      refine ⟨some ([], [0, 1, 2, 3, 4, 5, 6, 7, 8]), by kernel_rfl, ?_⟩
      refine ⟨ad2, ⟨by omega, by omega, q2⟩, ?_⟩
      refine ⟨_, hh2, ?_⟩
      rw [cB, neT_comm] at hcs
      refine ⟨fun h => ?_, fun h => ?_⟩
      · have h1 : neT b.2.2 (foldB p i b).2.2 = true := (neT_vc b.2.2 (foldB p i b).2.2).symm.trans h
        rw [h1, if_pos rfl, ← hn5, ← hkn] at hcs
        have e0 : SV.v (.int .i64 (((cP p p.length : Nat) : Int) - ((cP p i + cS (foldB p i b).2.1 b.2.1 k : Nat) : Int) - 1)) = SV.v (.int .i64 (((cP p p.length : Nat) : Int) - ((cP p (i + 1) : Nat) : Int))) := by rw [hcs]; congr 2; omega
        refine ⟨⟨by omega, by omega⟩, ?_⟩
        refine ⟨⟨by omega, by omega⟩, i + 1, [(0, 0), (1, 1), (2, 2)], ?_, ⟨rfl, hlt⟩, by dsimp only; omega⟩
        (repeat' (first | exact trivial | refine ⟨?_, ?_⟩ | exact rfl | assumption))
      · have h1 : neT b.2.2 (foldB p i b).2.2 = false := (neT_vc b.2.2 (foldB p i b).2.2).symm.trans h
        rw [h1, ← hn5, ← hkn] at hcs
        have e0 : SV.v (.int .i64 (((cP p p.length : Nat) : Int) - ((cP p i + cS (foldB p i b).2.1 b.2.1 k : Nat) : Int))) = SV.v (.int .i64 (((cP p p.length : Nat) : Int) - ((cP p (i + 1) : Nat) : Int))) := by rw [hcs]; rfl
        refine ⟨⟨by omega, by omega⟩, i + 1, [(0, 0), (1, 1), (2, 2)], ?_, ⟨rfl, hlt⟩, by dsimp only; omega⟩
        (repeat' (first | exact trivial | refine ⟨?_, ?_⟩ | exact rfl | assumption))
    have hil : i = p.length := by have := df h; omega
    rw [hil]
    refine ⟨fun _ => ?_, fun h => absurd rfl (df h)⟩
    refine ⟨fun _ => ?_, fun h => absurd rfl (df h)⟩
    refine ⟨fun _ => ?_, fun h => absurd (by omega) (df h)⟩
    refine psame_spec (hr1.up hle3) hr2 ?_
    exact hK _ (hle1.trans hle3)
end Go.Proofs
end
