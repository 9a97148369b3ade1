/- Part 'Q5' of the proof: lemmas, each with its own conditions in its own statement. -/
import Derived.Test.YtjflpceoeofomaaQ4
namespace Go.Proofs
open Go.Sy
set_option maxRecDepth 20000
theorem seenP_nil : seenP [] = MapI Try.prog 3 3 0 fun _ => 0 := by rw [seenP, seenG_nil]; rfl
theorem push00_spec {m : Int} {l : List Int} {a : Option Addr} {n c : Nat} {H : Hp} {K : SV → St → Hp → Prop} (ha : RL H a n c l) (hb : l.length ≤ 1000000)
    (hK : K (.tup []) ⟨[], [(0, .cells 3 [.v (.int .i64 m)]), (1, .cells 88 [.mp 3]), (2, .cells 27 [.own 4]), (3, seenB (pst m l ([], [])).1), (4, .row 3 1 (iRows (pst m l ([], [])).2))], 5⟩ H) :
    DoesG Try.prog 72 [.v (.slice a n c), .ptr 0 0, .ptr 1 0, .ptr 2 0] [(0, .cells 3 [.v (.int .i64 m)]), (1, .cells 88 [.mp 3]), (2, .cells 27 [.v (.slice none 0 0)]), (3, .obj (MapI Try.prog 3 3 0 fun _ => 0))] 4 H K := by
  rw [← seenP_nil]
  exact push0_spec ha (by simp only [List.length_nil]; omega) rfl hK
theorem push11_spec {m : Int} {l seen todo : List Int} {rt : List (List Value)} {a : Option Addr} {n c : Nat} {H : Hp} {K : SV → St → Hp → Prop} (ha : RL H a n c l) (hrt : rt = iRows todo) (hb : todo.length + l.length ≤ 1000000000 ∧ seen.length + l.length ≤ 1000000000)
    (hK : K (.tup []) ⟨[], [(0, .cells 3 [.v (.int .i64 m)]), (1, .cells 88 [.mp 3]), (2, .cells 27 [.own 5]), (3, seenB (pst m l (seen, todo)).1), (4, .dead), (5, .row 3 1 (iRows (pst m l (seen, todo)).2))], 6⟩ H) :
    DoesG Try.prog 72 [.v (.slice a n c), .ptr 0 0, .ptr 1 0, .ptr 2 0] [(0, .cells 3 [.v (.int .i64 m)]), (1, .cells 88 [.mp 3]), (2, .cells 27 [.own 4]), (3, seenB seen), (4, .row 3 1 rt)] 5 H K := by
  rw [hrt]
  exact push1_spec ha hb hK
theorem sortN_spec {H : Hp} {K : SV → St → Hp → Prop} (hK : K (.tup []) ⟨[], [], 0⟩ H) : DoesG Try.prog 67 [.v (.slice none 0 0)] [] 0 H K :=
  ⟨Try.call67, fun w ρ hm _ => (Any.slices_Sort_int_none Try.lays189 none 0 w).mono fun _ _ ⟨e1, e2⟩ => ⟨.tup [], ⟨[], [], 0⟩, H, ρ, e1, hK, rfl, by rw [e2]; exact hm⟩⟩
theorem reached_spec {m : Int} (hm : m ≤ 1000) {l : List Edg} (hl : l.length ≤ 100000) {f : List Int} (hf : f.length ≤ 100000) {a a3 : Option Addr} {n c n3 c3 : Nat} {H : Hp} {K : Value → Hp → Prop} (ha : RL H a n c l) (hb : RL H a3 n3 c3 f)
    (hK : ∀ a1 n1 c1 R H', Le H H' → RL H' a1 n1 c1 R → StrictL R → IsReach m l f R → K (.slice a1 n1 c1) H') : Does Try.prog 36 [.int .i64 m, .slice a n c, .slice a3 n3 c3] H K := by
  refine spec_of cx_ok cx_mix rfl Try.func36 Try.call36 Try.ntmps36 Try.results36 rfl rfl ?_
  refine .inr ⟨List Int × List Int × List Int, fun _ => 0, fun q => ⟨[(1, .v (.slice a n c)), (3, .ptr 0 0), (7, .own 5), (8, .ptr 1 0), (10, .fn 72 [.ptr 0 0, .ptr 3 0, .ptr 1 0])],
      [(0, .cells 3 [.v (.int .i64 m)]), (1, .cells 27 [.own 4]), (2, seenB q.1), (3, .cells 88 [.mp 2]), (4, .row 3 1 (iRows q.2.1)), (5, .row 3 1 (iRows q.2.2))], 6⟩,
    fun q H' => Le H H' ∧ RInv m l f q.1 q.2.1 q.2.2, fun q => m.toNat - q.2.2.length, ?_, ?_⟩
  · refine ⟨mapOK3, ?_⟩
    refine ⟨[0, 3, 1, 2], rfl, push00_spec hb (by omega) ?_⟩
    obtain ⟨s, hs⟩ : ∃ s, s = (pst m f ([], [])).1 := ⟨_, rfl⟩
    obtain ⟨t, ht0⟩ : ∃ t, t = (pst m f ([], [])).2 := ⟨_, rfl⟩
    have hI := rinv_zero m l f
    rw [← hs, ← ht0] at hI ⊢
    have hel : (iRows t).length = t.length := List.length_map _
    have hM : s.length ≤ 1000 := by have := nodes_len hI.nd hI.node; omega
    have hpl := hI.perm.length_eq
    rw [List.nil_append] at hpl
    refine ⟨fun h => ?_, fun h => ?_⟩
    · have hpos : 0 < t.length := by have := dt h; omega
      obtain ⟨t', x, htx⟩ : ∃ t' x, t = t' ++ [x] := ⟨t.dropLast, t.getLast (by intro e; rw [e] at hpos; cases hpos), (List.dropLast_concat_getLast _).symm⟩
      have eln : (((iRows t).length : Int) - 1).toNat = t'.length := by rw [hel, htx, List.length_append, List.length_singleton]; omega
      have hgx : (iRows t)[(((iRows t).length : Int) - 1).toNat]? = some [.int .i64 x] := by rw [eln, htx]; simp
      refine ⟨⟨by omega, by omega⟩, ?_⟩
      refine ⟨⟨by omega, by omega⟩, ?_⟩
      refine ⟨_, hgx, ?_⟩
      refine ⟨⟨by omega, by omega⟩, ?_⟩
      refine .inl ⟨⟨by omega, by omega⟩, ?_⟩
      refine ⟨⟨by show 1 * 8 ≤ _; omega, by show 1 ≤ _; omega⟩, ?_⟩
      refine next_spec (by omega) ha fun a5 n5 c5 H2 hle2 hr5 => ?_
      have hg5 := gSort_len (nxt m x l)
      have hg6 := nxt_len m x l
      have hrt : (iRows t).take (((iRows t).length : Int) - 1).toNat = iRows t' := by rw [eln, htx]; simp
      refine ⟨[0, 3, 1, 2, 5], rfl, push11_spec (m := m) (seen := s) (todo := t') hr5 hrt ⟨by rw [htx] at hpl; rw [List.length_append] at hpl; omega, by omega⟩ ?_⟩
      rw [htx] at hI
      have hstep := rinv_step hI (g := gSort (nxt m x l)) (fun y => gSort_mem _ y)
      refine ⟨((pst m (gSort (nxt m x l)) (s, t')).1, (pst m (gSort (nxt m x l)) (s, t')).2, [x]), [(0, 0), (1, 1), (2, 2), (3, 3), (4, 8), (5, 7)], rfl, ?_, ⟨hle2, hstep⟩⟩
      exact ⟨⟨rfl, ⟨rfl, rfl⟩, rfl, ⟨rfl, rfl⟩, ⟨rfl, rfl⟩, trivial⟩, ⟨⟨rfl, trivial⟩, ⟨rfl, trivial⟩, rfl, ⟨rfl, trivial⟩, rfl, rfl, trivial⟩⟩
    · have ht : t = [] := List.eq_nil_of_length_eq_zero (by have := df h; omega)
      rw [ht] at hI
      obtain ⟨hR, hnd⟩ := rinv_end hI
      refine ⟨[], rfl, sortN_spec ?_⟩
      exact hK _ _ _ [] _ (Le.refl H) ⟨rfl, Nat.le_refl _, by omega, .inl rfl⟩ List.Pairwise.nil hR
  · rintro ⟨s, t, o⟩ H1 _ ⟨hle, hI⟩
    have hI : RInv m l f s t o := hI
    have hle : Le H H1 := hle
    have hel : (iRows t).length = t.length := List.length_map _
    have hM : s.length ≤ 1000 := by have := nodes_len hI.nd hI.node; omega
    have hpl := hI.perm.length_eq
    rw [List.length_append] at hpl
    refine ⟨fun h => ?_, fun h => ?_⟩
    · have hpos : 0 < t.length := by have := dt h; simp only at this; omega
      obtain ⟨t', x, rfl⟩ : ∃ t' x, t = t' ++ [x] := ⟨t.dropLast, t.getLast (by intro e; rw [e] at hpos; cases hpos), (List.dropLast_concat_getLast _).symm⟩
      have eln : (((iRows (t' ++ [x])).length : Int) - 1).toNat = t'.length := by rw [hel, List.length_append, List.length_singleton]; omega
      have hgx : (iRows (t' ++ [x]))[(((iRows (t' ++ [x])).length : Int) - 1).toNat]? = some [.int .i64 x] := by rw [eln]; simp
      have hel2 : (iRows (t' ++ [x])).length = t'.length + 1 := by rw [hel, List.length_append]; rfl
      have hpl2 : o.length + (t'.length + 1) = s.length := by rw [List.length_append] at hpl; exact hpl
      refine ⟨⟨by show _ ≤ ((iRows (t' ++ [x])).length : Int) - 1; omega, by show ((iRows (t' ++ [x])).length : Int) - 1 ≤ _; omega⟩, ?_⟩
      refine ⟨⟨by show 0 ≤ ((iRows (t' ++ [x])).length : Int) - 1; omega, by show ((iRows (t' ++ [x])).length : Int) - 1 < ((iRows (t' ++ [x])).length : Int); omega⟩, ?_⟩
      refine ⟨_, hgx, ?_⟩
      refine ⟨⟨by show _ ≤ ((iRows (t' ++ [x])).length : Int) - 1; omega, by show ((iRows (t' ++ [x])).length : Int) - 1 ≤ _; omega⟩, ?_⟩
      refine .inl ⟨⟨by show 0 ≤ ((iRows (t' ++ [x])).length : Int) - 1; omega, by show ((iRows (t' ++ [x])).length : Int) - 1 ≤ ((iRows (t' ++ [x])).length : Int); omega⟩, ?_⟩
      have heo : (iRows o).length = o.length := List.length_map _
      refine ⟨⟨by show ((iRows o).length + 1) * 8 ≤ _; omega, by show (iRows o).length + 1 ≤ _; omega⟩, ?_⟩
      refine next_spec (by omega) (ha.up hle) fun a5 n5 c5 H2 hle2 hr5 => ?_
      have hg5 := gSort_len (nxt m x l)
      have hg6 := nxt_len m x l
      have hrt : (iRows (t' ++ [x])).take (((iRows (t' ++ [x])).length : Int) - 1).toNat = iRows t' := by rw [eln]; simp
      refine ⟨[0, 3, 1, 2, 6], rfl, push11_spec (m := m) (seen := s) (todo := t') hr5 hrt ⟨by omega, by omega⟩ ?_⟩
      have erow : iRows o ++ [[.int .i64 x]] = iRows (o ++ [x]) := by simp
      have hstep := rinv_step hI (g := gSort (nxt m x l)) (fun y => gSort_mem _ y)
      refine ⟨((pst m (gSort (nxt m x l)) (s, t')).1, (pst m (gSort (nxt m x l)) (s, t')).2, o ++ [x]), [(0, 0), (1, 1), (2, 2), (3, 3), (4, 9), (5, 8)], rfl, ?_, ⟨hle.trans hle2, hstep⟩, ?_⟩
      · exact ⟨⟨rfl, ⟨rfl, rfl⟩, rfl, ⟨rfl, rfl⟩, ⟨rfl, rfl⟩, trivial⟩, ⟨⟨rfl, trivial⟩, ⟨rfl, trivial⟩, rfl, ⟨rfl, trivial⟩, rfl, erow, trivial⟩⟩
      · have := nodes_len hI.nd hI.node
        show m.toNat - (o ++ [x]).length < m.toNat - o.length
        rw [List.length_append, List.length_singleton]
        omega
    · have ht : t = [] := List.eq_nil_of_length_eq_zero (by have := df h; simp only at this; omega)
      subst ht
      obtain ⟨hR, hnd⟩ := rinv_end hI
      have hol : o.length ≤ 1000 := by rw [List.length_nil] at hpl; omega
      refine ⟨[5], rfl, sortI_spec (l := o) (by omega) fun l' hl' hp hg => ?_⟩
      intro y H2 hle2 hy
      rw [gComp_nodup (hp.nodup_iff.2 hnd)] at hg
      subst hg
      have hin : ∀ z ∈ gSort o, inI z := fun z hz => by
        have h1 := dt (hI.node z (hI.perm.mem_iff.1 (by simpa using (gSort_mem o z).1 hz)))
        exact ⟨by omega, by omega⟩
      obtain ⟨a1, n1, c1, rfl, hr⟩ := rI_all hy hin
      refine hK _ _ _ _ _ (hle.trans hle2) hr (gSort_strict o) ⟨fun z hz hn => (gSort_mem o z).2 (hR.from' z hz hn), fun z hz w hw => (gSort_mem o w).2 (hR.closed z ((gSort_mem o z).1 hz) w hw), fun S h1 h2 z hz => hR.least S h1 h2 z ((gSort_mem o z).1 hz)⟩
end Go.Proofs
