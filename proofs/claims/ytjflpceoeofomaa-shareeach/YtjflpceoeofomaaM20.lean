/- Part 'M20' of the proof (Y4, Y5): lemmas, each with its own conditions in its own statement. -/
import Derived.Test.YtjflpceoeofomaaM19
section
namespace Go.Proofs
open Go.Sy
set_option maxRecDepth 20000
set_option maxHeartbeats 4000000
theorem iRows_ln (l : List Int) : (iRows l).length = l.length := List.length_map _
theorem postL_good {m : Int} (h0 : 0 ≤ m) {l : List Edg} {f : List Int} (hf : ∀ x ∈ f, nodeI m x = true) : GoodS m (postL (gnx m l) m.toNat f) := by
  obtain ⟨h1, h2⟩ := postL_ok (N := m.toNat) (nx := gnx m l) (by rw [toNat_nat m h0]; exact gnx_node) (f := f) (by rw [toNat_nat m h0]; exact hf)
  rw [toNat_nat m h0] at h2
  exact ⟨h1, h2⟩
theorem rpost_spec {m : Int} (h0 : 0 ≤ m) (hm : m ≤ 1000) {l : List Edg} {f : List Int} (hf : ∀ x ∈ f, nodeI m x = true) {a a3 : Option Addr} {n c n3 c3 : Nat} {H : Hp} {K : Value → Hp → Prop} (ha : RL H a n c l) (hb : RL H a3 n3 c3 f)
    (hK : ∀ a1 n1 c1 H', Le H H' → RL H' a1 n1 c1 (postL (gnx m l) m.toNat (f ++ nodesL m.toNat)) → K (.slice a1 n1 c1) H') : Does Try.prog 52 [.int .i64 m, .slice a n c, .slice a3 n3 c3] H K := by
  have hn3 := hb.n_eq
  have hmx3 := hb.le
  refine spec_of cxV_ok cx_mix rfl Try.func52 Try.call52 Try.ntmps52 Try.results52 rfl rfl ?_
  refine ⟨Nat, fun i => ⟨[(0, .v (.int .i64 m)), (1, .v (.slice a n c)), (7, .own 0), (11, .v (.slice a3 n3 c3)), (12, .v (.int .i64 n3)), (13, .v (.int .i64 i))], [(0, .row 3 1 (iRows (postL (gnx m l) m.toNat (f.take i))))], 1⟩,
    fun i H' => Le H H' ∧ i ≤ f.length, fun i => f.length - i, ⟨0, [], ?_, Le.refl _, Nat.zero_le _⟩, ?_⟩
  · have e0 : iRows (postL (gnx m l) m.toNat (f.take 0)) = [] := rfl
    exact ⟨⟨rfl, rfl, ⟨rfl, rfl, e0⟩, rfl, rfl, rfl, trivial⟩, ⟨e0, trivial⟩⟩
  rintro i H1 hle1 ⟨_, hi⟩
  have hft : ∀ x ∈ f.take i, nodeI m x = true := fun x hx => hf x (List.mem_of_mem_take hx)
  have hG := postL_good h0 (l := l) hft
  have hGl := hG.len
  have hSl : (iRows (postL (gnx m l) m.toNat (f.take i))).length = (postL (gnx m l) m.toNat (f.take i)).length := List.length_map _
  refine ⟨fun h => ?_, fun h => ?_⟩
  · have hlt : i < f.length := by have := dt h; omega
    refine list_get_k hb hle1 (List.getElem?_eq_getElem hlt) fun ad q1 hh => ?_
    refine ⟨ad, ⟨by omega, by omega, q1⟩, ?_⟩
    refine ⟨_, hh, ?_⟩
    have hv := hf _ (List.getElem_mem hlt)
    refine ⟨[0], rfl, rvisit_spec h0 hm (m.toNat + 1) (ha.up hle1) hv hG (by omega) (by omega) fun H2 hle2 => ?_⟩
    have hs : postL (gnx m l) m.toNat (f.take (i + 1)) = postL (gnx m l) m.toNat (f.take i) ++ vis (gnx m l) (m.toNat + 1) f[i] (postL (gnx m l) m.toNat (f.take i)) := by
      rw [List.take_succ_eq_append_getElem hlt, postL_snoc]
    have hG2 := hG.app h0 (l := l) hv (m.toNat + 1)
    rw [← hs] at hG2
    have hl2 := hG2.len
    have hl3 := congrArg List.length hs
    rw [List.length_append] at hl3
    have hs2 := (congrArg iRows hs).trans (List.map_append ..)
    refine ⟨⟨by show ((iRows _).length + (iRows _).length) * 8 ≤ 140737488355328; rw [iRows_ln, iRows_ln]; omega, by show (iRows _).length + (iRows _).length ≤ 9223372036854775807; rw [iRows_ln, iRows_ln]; omega⟩, ?_⟩
    have hs3 := hs2.symm
    refine ⟨⟨by omega, by omega⟩, i + 1, [(0, 2)], ?_, ⟨hle1.trans hle2, hlt⟩, by dsimp only; omega⟩
    (repeat' (first | exact trivial | refine ⟨?_, ?_⟩ | exact rfl | assumption))
  · have hil : i = f.length := by have := df h; omega
    rw [hil, List.take_length] at hG hGl hSl ⊢
    have hnode : ∀ {j : Nat}, j ≤ m.toNat → ∀ x ∈ f ++ nodesL j, nodeI m x = true := fun {j} hj x hx => by
      rcases List.mem_append.1 hx with hx | hx
      · exact hf x hx
      · obtain ⟨y, hy, rfl⟩ := List.mem_map.1 hx
        have := List.mem_range.1 hy
        exact decide_eq_true (by omega)
    refine ⟨Nat, fun i => ⟨[(0, .v (.int .i64 m)), (1, .v (.slice a n c)), (7, .own 0), (10, .v (.int .i64 i))], [(0, .row 3 1 (iRows (postL (gnx m l) m.toNat (f ++ nodesL i))))], 1⟩,
      fun i H' => Le H1 H' ∧ i ≤ m.toNat, fun i => m.toNat - i, ⟨0, [(0, 0)], ?_, Le.refl _, Nat.zero_le _⟩, ?_⟩
    · have e0 : iRows (postL (gnx m l) m.toNat f) = iRows (postL (gnx m l) m.toNat (f ++ nodesL 0)) := by rw [show nodesL 0 = [] from rfl, List.append_nil]
      (repeat' (first | exact trivial | refine ⟨?_, ?_⟩ | exact rfl | assumption))
    rintro j H2 hle2 ⟨_, hj⟩
    have hG := postL_good h0 (l := l) (hnode hj)
    have hGl := hG.len
    have hSl : (iRows (postL (gnx m l) m.toNat (f ++ nodesL j))).length = (postL (gnx m l) m.toNat (f ++ nodesL j)).length := List.length_map _
    refine ⟨fun h => ?_, fun h => ?_⟩
    · have hlt : j < m.toNat := by have := dt h; omega
      have hv : nodeI m (j : Int) = true := decide_eq_true (by omega)
      refine ⟨[0], rfl, rvisit_spec h0 hm (m.toNat + 1) (ha.up (hle1.trans hle2)) hv hG (by omega) (by omega) fun H3 hle3 => ?_⟩
      have hs : postL (gnx m l) m.toNat (f ++ nodesL (j + 1)) = postL (gnx m l) m.toNat (f ++ nodesL j) ++ vis (gnx m l) (m.toNat + 1) j (postL (gnx m l) m.toNat (f ++ nodesL j)) := by
        rw [nodesL_snoc, ← List.append_assoc, postL_snoc]
      have hG2 := hG.app h0 (l := l) hv (m.toNat + 1)
      rw [← hs] at hG2
      have hl2 := hG2.len
      have hl3 := congrArg List.length hs
      rw [List.length_append] at hl3
      have hs2 := (congrArg iRows hs).trans (List.map_append ..)
      refine ⟨⟨by show ((iRows _).length + (iRows _).length) * 8 ≤ 140737488355328; rw [iRows_ln, iRows_ln]; omega, by show (iRows _).length + (iRows _).length ≤ 9223372036854775807; rw [iRows_ln, iRows_ln]; omega⟩, ?_⟩
      have hs3 := hs2.symm
      refine ⟨⟨by omega, by omega⟩, j + 1, [(0, 2)], ?_, ⟨hle2.trans hle3, hlt⟩, by dsimp only; omega⟩
      (repeat' (first | exact trivial | refine ⟨?_, ?_⟩ | exact rfl | assumption))
    · have hjl : j = m.toNat := by have := df h; omega
      rw [hjl] at hSl hGl ⊢
      intro x H3 hle3 hx
      obtain ⟨a1, n1, c1, rfl, hr⟩ := rI_all hx ((postL_good h0 (l := l) (hnode (Nat.le_refl _))).in hm)
      exact hK _ _ _ _ ((hle1.trans hle2).trans hle3.le) hr
theorem rranks_spec {m : Int} (h0 : 0 ≤ m) (hm : m ≤ 1000) {l : List Edg} {f : List Int} (hf : ∀ x ∈ f, nodeI m x = true) {a a3 : Option Addr} {n c n3 c3 : Nat} {H : Hp} {K : Value → Hp → Prop} (ha : RL H a n c l) (hb : RL H a3 n3 c3 f)
    (hK : ∀ a1 n1 c1 H', Le H H' → RL H' a1 n1 c1 (ranks m l f) → K (.slice a1 n1 c1) H') : Does Try.prog 53 [.int .i64 m, .slice a n c, .slice a3 n3 c3] H K := by
  refine spec_of cxV_ok cx_mix rfl Try.func53 Try.call53 Try.ntmps53 Try.results53 rfl rfl ?_
  refine ⟨⟨rfl, by omega, by show m * 8 ≤ _; omega, by omega⟩, ?_⟩
  refine rpost_spec h0 hm hf ha hb fun a1 n1 c1 H1 hle1 hrp => ?_
  obtain ⟨hp1, hp2, hp3⟩ := postN (m := m) (by omega) (l := l) hf
  obtain ⟨p, hpp⟩ : ∃ p, p = postL (gnx m l) m.toNat (f ++ nodesL m.toNat) := ⟨_, rfl⟩
  rw [← hpp] at hrp hp1 hp2 hp3
  have hpn := hrp.n_eq
  refine ⟨Nat × List Int, fun q => ⟨[(0, .v (.int .i64 m)), (7, .own 0), (15, .v (.slice a1 n1 c1)), (16, .v (.int .i64 n1)), (17, .v (.int .i64 q.1))], [(0, .row 3 1 (iRows q.2))], 1⟩,
    fun q H' => H' = H1 ∧ q.1 ≤ p.length ∧ q.2 = rankL m p q.1, fun q => p.length - q.1, ⟨(0, List.replicate m.toNat 0), [(0, 0)], ?_, rfl, Nat.zero_le _, rfl⟩, ?_⟩
  · have e1 := iRows_rep m.toNat
    (repeat' (first | exact trivial | refine ⟨?_, ?_⟩ | exact rfl | assumption))
  rintro ⟨i, R⟩ H2 _ ⟨rfl, hi, hR⟩
  dsimp only at hi hR
  have hlR : R.length = m.toNat := by rw [hR, rankL_len]
  have heR : (iRows R).length = R.length := List.length_map _
  refine ⟨fun h => ?_, fun h => ?_⟩
  · have hlt : i < p.length := by have := dt h; dsimp only at this; omega
    obtain ⟨ad, cs, q1, hh, r1⟩ := hrp.elem (List.getElem?_eq_getElem hlt)
    obtain ⟨rfl, -⟩ := r1
    have hv := dt (hp3 _ (List.getElem_mem hlt))
    refine ⟨ad, ⟨by dsimp only; omega, by dsimp only; omega, q1⟩, ?_⟩
    refine ⟨_, hh, ?_⟩
    refine ⟨⟨by omega, by omega⟩, ?_⟩; refine ⟨⟨by (try dsimp only); omega, by (try dsimp only); omega⟩, ?_⟩
    have hg : (iRows R)[p[i].toNat]? = some [.int .i64 R[p[i].toNat]!] := by rw [List.getElem?_map, List.getElem?_eq_getElem (by omega), List.getElem!_eq_getElem?_getD, List.getElem?_eq_getElem (by omega)]; rfl
    refine ⟨⟨by (try dsimp only); omega, by (try dsimp only); rw [heR]; omega⟩, ?_⟩
    refine ⟨_, hg, ?_⟩
    have hst : R.set p[i].toNat (m - 1 - i) = rankL m p (i + 1) := by rw [rankL, ← hR, List.getElem?_eq_getElem hlt]; rfl
    have e1 : (iRows R).set p[i].toNat [.int .i64 (m - 1 - (i : Int))] = iRows (R.set p[i].toNat (m - 1 - i)) := iRows_set _ _ _
    refine ⟨⟨by (try dsimp only); omega, by (try dsimp only); omega⟩, (i + 1, R.set p[i].toNat (m - 1 - i)), [(0, 0)], ?_, ⟨rfl, by dsimp only; omega, hst⟩, by dsimp only; omega⟩
    (repeat' (first | exact trivial | refine ⟨?_, ?_⟩ | exact rfl | assumption))
  · have hip : i = p.length := by have := df h; dsimp only at this; omega
    intro y H4 hle4 hy
    have hin : ∀ z ∈ R, inI z := by rw [hR]; exact rankL_in (by omega) (by omega) (by omega)
    obtain ⟨a1, n1, c1, rfl, hr⟩ := rI_all hy hin
    rw [hip] at hR
    rw [hR, hpp] at hr
    exact hK _ _ _ _ (hle1.trans hle4) hr
end Go.Proofs
end
section
namespace Go.Proofs
open Go.Sy
set_option maxRecDepth 20000
set_option maxHeartbeats 4000000
/-! Ranks -/
theorem vis_self {nx : Int → List Int} (k : Nat) (a : Int) (S : List Int) : a ∈ S ++ vis nx (k + 1) a S := by
  rw [vis]
  by_cases h : a ∈ S
  · rw [if_pos h]; exact List.mem_append_left _ h
  · rw [if_neg h]; exact List.mem_append_right _ (List.mem_append_right _ (List.mem_singleton.2 rfl))
theorem post_all {nx : Int → List Int} {N : Nat} {f : List Int} : ∀ x ∈ f, x ∈ postL nx N f := by
  have key : ∀ (f o : List Int) (x : Int), x ∈ o ∨ x ∈ f → x ∈ f.foldl (fun o a => o ++ vis nx (N + 1) a o) o := by
    intro f
    induction f with
    | nil => intro o x h; rcases h with h | h; exact h; cases h
    | cons a r ih =>
      intro o x h
      rw [List.foldl_cons]
      refine ih _ x ?_
      rcases h with h | h
      · exact .inl (List.mem_append_left _ h)
      · rcases List.mem_cons.1 h with rfl | h
        · exact .inl (vis_self N x o)
        · exact .inr h
  exact fun x hx => key f [] x (.inr hx)
abbrev pstL (m : Int) (l : List Edg) (f : List Int) : List Int := postL (gnx m l) m.toNat (f ++ nodesL m.toNat)
theorem post_mem {m : Int} (h0 : 0 ≤ m) {l : List Edg} {f : List Int} (hf : ∀ x ∈ f, nodeI m x = true) (x : Int) : x ∈ pstL m l f ↔ nodeI m x = true := by
  obtain ⟨h1, h2, h3⟩ := postN h0 (l := l) hf
  exact ⟨h3 x, fun h => post_all x (List.mem_append_right _ (nodesL_mem.2 h))⟩
theorem post_len {m : Int} (h0 : 0 ≤ m) {l : List Edg} {f : List Int} (hf : ∀ x ∈ f, nodeI m x = true) : (pstL m l f).length = m.toNat := by
  obtain ⟨h1, h2, h3⟩ := postN h0 (l := l) hf
  have h4 := nodup_sub (l := nodesL m.toNat) (l' := pstL m l f) ((nodesL_strict _).imp fun h e => by rw [e] at h; exact absurd h (Int.lt_irrefl _)) (fun x hx => (post_mem h0 hf x).2 (nodesL_mem.1 hx))
  rw [nodesL_len] at h4
  exact Nat.le_antisymm h1 h4
theorem rankL_get {m : Int} {p : List Int} (hnd : p.Nodup) (hn : ∀ x ∈ p, nodeI m x = true) : ∀ (k : Nat), k ≤ p.length → ∀ (i : Nat) (_ : i < k) (hp : i < p.length), ig (rankL m p k) p[i] = m - 1 - i
  | 0, _, i, hi, _ => absurd hi (Nat.not_lt_zero i)
  | k + 1, hk, i, hi, hp => by
    have hkp : k < p.length := hk
    have hni := dt (hn _ (List.getElem_mem hp))
    have hnk := dt (hn _ (List.getElem_mem hkp))
    rw [rankL, List.getElem?_eq_getElem hkp]
    simp only [Option.getD_some]
    by_cases e : i = k
    · subst e
      rw [ig, List.getElem?_set_self (by rw [rankL_len]; omega)]
      rfl
    · have hne : p[k].toNat ≠ p[i].toNat := fun h => by
        have h2 : p[k] = p[i] := by omega
        exact e ((List.getElem_inj hnd).1 h2.symm)
      have ih := rankL_get hnd hn k (by omega) i (by omega) hp
      rw [ig, List.getElem?_set_ne hne]
      exact ih
/-- Of each node its rank: at which place, counted from behind, it is told. -/
theorem rank_at {m : Int} (h0 : 0 ≤ m) {l : List Edg} {f : List Int} (hf : ∀ x ∈ f, nodeI m x = true) {i : Nat} (hi : i < (pstL m l f).length) : ig (ranks m l f) (pstL m l f)[i] = m - 1 - i := by
  obtain ⟨h1, h2, h3⟩ := postN h0 (l := l) hf
  exact rankL_get h2 h3 _ (Nat.le_refl _) i hi hi
theorem rank_ok {m : Int} (h0 : 0 ≤ m) {l : List Edg} {f : List Int} (hf : ∀ x ∈ f, nodeI m x = true) {x : Int} (hx : nodeI m x = true) : 0 ≤ ig (ranks m l f) x ∧ ig (ranks m l f) x < m := by
  obtain ⟨i, hi, rfl⟩ := List.getElem_of_mem ((post_mem h0 (l := l) hf x).2 hx)
  rw [rank_at h0 hf hi]
  rw [post_len h0 hf] at hi
  omega
theorem rank_inj {m : Int} (h0 : 0 ≤ m) {l : List Edg} {f : List Int} (hf : ∀ x ∈ f, nodeI m x = true) {x y : Int} (hx : nodeI m x = true) (hy : nodeI m y = true) (h : ig (ranks m l f) x = ig (ranks m l f) y) : x = y := by
  obtain ⟨i, hi, rfl⟩ := List.getElem_of_mem ((post_mem h0 (l := l) hf x).2 hx)
  obtain ⟨j, hj, rfl⟩ := List.getElem_of_mem ((post_mem h0 (l := l) hf y).2 hy)
  rw [rank_at h0 hf hi, rank_at h0 hf hj] at h
  have : i = j := by omega
  subst this
  rfl
theorem ranks_len (m : Int) (l : List Edg) (f : List Int) : (ranks m l f).length = m.toNat := rankL_len m _ _
/-- A part in the order of ranks. -/
def sortR (r p : List Int) : List Int := p.mergeSort fun x y => decide (ig r x ≤ ig r y)
theorem sortR_perm (r p : List Int) : (sortR r p).Perm p := List.mergeSort_perm _ _
theorem sortR_pw (r p : List Int) : (sortR r p).Pairwise fun x y => ig r x ≤ ig r y := by
  have := List.pairwise_mergeSort (le := fun (x y : Int) => decide (ig r x ≤ ig r y)) (fun a b c h1 h2 => by
    have := dt h1; have := dt h2; exact decide_eq_true (by omega)) (fun a b => by
    rcases Int.le_total (ig r a) (ig r b) with h | h
    · rw [decide_eq_true h]; rfl
    · rw [decide_eq_true h]; simp) p
  exact this.imp fun h => dt h
theorem sortR_uniq {r p q : List Int} (hd : ∀ x ∈ p, ∀ y ∈ p, ig r x = ig r y → x = y) (hp : q.Perm p) (hs : q.Pairwise fun x y => ig r x ≤ ig r y) : q = sortR r p :=
  List.Perm.eq_of_pairwise (le := fun x y => ig r x ≤ ig r y) (fun a b ha hb h1 h2 => hd a (hp.mem_iff.1 ha) b ((sortR_perm r p).mem_iff.1 hb) (Int.le_antisymm h1 h2)) hs (sortR_pw r p) (hp.trans (sortR_perm r p).symm)
theorem sortR_len (r p : List Int) : (sortR r p).length = p.length := (sortR_perm r p).length_eq
/-- The document's way: rank by rank. -/
def kthR (r p : List Int) (k : Nat) : List Int := p.filter fun a => decide (ig r a = (k : Int))
def byR (r p : List Int) (n : Nat) : List Int := (List.range n).flatMap (kthR r p)
theorem byR_succ (r p : List Int) (n : Nat) : byR r p (n + 1) = byR r p n ++ kthR r p n := by rw [byR, List.range_succ, List.flatMap_append]; simp [byR]
theorem byR_pw (r p : List Int) (n : Nat) : (byR r p n).Pairwise fun x y => ig r x ≤ ig r y := by
  rw [byR, List.pairwise_flatMap]
  refine ⟨fun k _ => ?_, List.pairwise_lt_range.imp fun {a b} h x hx y hy => ?_⟩
  · rw [List.pairwise_iff_forall_sublist]
    intro x y hs
    have hx : x ∈ kthR r p k := hs.subset (by simp)
    have hy : y ∈ kthR r p k := hs.subset (by simp)
    have := dt (List.mem_filter.1 hx).2
    have := dt (List.mem_filter.1 hy).2
    omega
  · have := dt (List.mem_filter.1 hx).2
    have := dt (List.mem_filter.1 hy).2
    omega
theorem byR_mem (r p : List Int) (n : Nat) (x : Int) : x ∈ byR r p n ↔ x ∈ p ∧ 0 ≤ ig r x ∧ ig r x < n := by
  rw [byR, List.mem_flatMap]
  constructor
  · rintro ⟨k, hk, hx⟩
    rw [List.mem_range] at hk
    obtain ⟨h1, h2⟩ := List.mem_filter.1 hx
    have := dt h2
    exact ⟨h1, by omega, by omega⟩
  · rintro ⟨h1, h2, h3⟩
    exact ⟨(ig r x).toNat, List.mem_range.2 (by omega), List.mem_filter.2 ⟨h1, decide_eq_true (by omega)⟩⟩
theorem byR_nodup {r p : List Int} (h : p.Nodup) : ∀ n, (byR r p n).Nodup
  | 0 => by simp [byR]
  | n + 1 => by
    rw [byR_succ, List.nodup_append]
    refine ⟨byR_nodup h n, h.filter _, fun x hx y hy e => ?_⟩
    have h1 := ((byR_mem r p n x).1 hx).2.2
    have h2 := dt (List.mem_filter.1 hy).2
    rw [e] at h1
    omega
theorem byR_eq {r p : List Int} {n : Nat} (hnd : p.Nodup) (hd : ∀ x ∈ p, ∀ y ∈ p, ig r x = ig r y → x = y) (hin : ∀ x ∈ p, 0 ≤ ig r x ∧ ig r x < n) : byR r p n = sortR r p :=
  sortR_uniq hd ((List.perm_ext_iff_of_nodup (byR_nodup hnd n) hnd).2 fun x => by rw [byR_mem]; exact ⟨fun h => h.1, fun h => ⟨h, hin x h⟩⟩) (byR_pw r p n)
/-- The order by parts. -/
def allL (r : List Int) (out : List (List Int)) : List Int := out.flatMap (sortR r)
theorem allL_perm (r : List Int) : ∀ (out : List (List Int)), (allL r out).Perm out.flatten
  | [] => .refl _
  | p :: o => by
    rw [allL, List.flatMap_cons, List.flatten_cons]
    exact (sortR_perm r p).append (allL_perm r o)
theorem allL_snoc (r : List Int) (out : List (List Int)) (p : List Int) : allL r (out ++ [p]) = allL r out ++ sortR r p := by simp [allL]
end Go.Proofs
end
