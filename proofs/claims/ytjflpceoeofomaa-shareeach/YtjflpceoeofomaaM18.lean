/- Part 'M18' of the proof (T2, T3, T4, U1, U2, U3, U4, U5, U6): lemmas, each with its own conditions in its own statement. -/
import Derived.Test.YtjflpceoeofomaaM11
import Derived.Test.YtjflpceoeofomaaM17
section
namespace Go.Proofs
open Go.Sy
section
variable {N : Nat} {nx : Int → List Int} (hnx : ∀ v, ∀ b ∈ nx v, nodeI N b = true)
include hnx
/-- A node that was not met. -/
theorem TJ.enter {t : TW} (h : TJ N nx t) {b : Int} (hb : (nx t.v)[t.k]? = some b) (h0 : ig t.s.ix b = 0) : TJ N nx ⟨enterT t.s b, t.W ++ [(t.v, t.k + 1)], b, 0⟩ := by
  have hlt := (List.getElem?_eq_some_iff.1 hb).1
  have hbm : b ∈ nx t.v := List.mem_of_getElem? hb
  have hbn := hnx _ b hbm
  have hv := h.vin hnx
  have hvn := h.nn _ hv
  have hns : b ∉ t.s.st := fun hm => (h.seen b hbn).2 (.inl hm) h0
  have hnp : b ∉ t.s.pa.flatten := fun hm => (h.seen b hbn).2 (.inr hm) h0
  have hix : ∀ y, nodeI N y = true → ig (enterT t.s b).ix y = if y = b then ((t.s.ct + 1 : Nat) : Int) else ig t.s.ix y := fun y hy => ig_set h.lx hbn _ hy
  have hlo : ∀ y, nodeI N y = true → ig (enterT t.s b).lo y = if y = b then ((t.s.ct + 1 : Nat) : Int) else ig t.s.lo y := fun y hy => ig_set h.ll hbn _ hy
  have hon : ∀ y, nodeI N y = true → bget (enterT t.s b).on y = if y = b then true else bget t.s.on y := fun y hy => bget_set h.lon hbn _ hy
  have hne : ∀ x ∈ t.s.st, x ≠ b := fun x hx e => hns (e ▸ hx)
  have hixs : ∀ x ∈ t.s.st, ig (enterT t.s b).ix x = ig t.s.ix x := fun x hx => by rw [hix x (h.nn x hx), if_neg (hne x hx)]
  have hlos : ∀ x ∈ t.s.st, ig (enterT t.s b).lo x = ig t.s.lo x := fun x hx => by rw [hlo x (h.nn x hx), if_neg (hne x hx)]
  have hixb : ig (enterT t.s b).ix b = t.s.ct + 1 := by rw [hix b hbn, if_pos rfl]; simp
  have hlob : ig (enterT t.s b).lo b = t.s.ct + 1 := by rw [hlo b hbn, if_pos rfl]; simp
  have hgg : TW.g ⟨enterT t.s b, t.W ++ [(t.v, t.k + 1)], b, 0⟩ = t.g ++ [b] := by simp [TW.g]
  have hst : ∀ x, x ∈ (enterT t.s b).st ↔ x ∈ t.s.st ∨ x = b := fun x => by
    show x ∈ t.s.st ++ [b] ↔ _
    rw [List.mem_append, List.mem_singleton]
  have hgm : ∀ x, x ∈ t.g ++ [b] ↔ x ∈ t.g ∨ x = b := fun x => by rw [List.mem_append, List.mem_singleton]
  have hexp : ∀ z y, Expl nx ⟨enterT t.s b, t.W ++ [(t.v, t.k + 1)], b, 0⟩ z y → z ≠ b ∧ (Expl nx t z y ∨ (z = t.v ∧ y = b)) := by
    rintro z y ⟨h1, h2, h3⟩
    have hzb : z ≠ b := fun e => by simpa using h1 e
    refine ⟨hzb, expl_next (s' := t.s) hnx hb ⟨fun e => ?_, fun p hp => h2 p (List.mem_append_left _ hp), h3⟩⟩
    have := h2 (t.v, t.k + 1) (by simp) e.symm
    rw [e] at this
    exact this
  have hgs : ∀ x ∈ t.g, x ∈ t.s.st := h.gr
  exact
  { lx := by show (t.s.ix.set _ _).length = N; rw [List.length_set]; exact h.lx
    ll := by show (t.s.lo.set _ _).length = N; rw [List.length_set]; exact h.ll
    lon := by show (t.s.on.set _ _).length = N; rw [List.length_set]; exact h.lon
    nd := by
      show (t.s.st ++ [b]).Nodup
      rw [List.nodup_append]
      refine ⟨h.nd, by simp, fun x hx y hy e => ?_⟩
      rw [List.mem_singleton] at hy
      exact hne x hx (e.trans hy)
    nn := fun x hx => by
      rcases (hst x).1 hx with hx | rfl
      · exact h.nn x hx
      · exact hbn
    seen := fun x hx => by
      rw [hix x hx]
      show _ ↔ x ∈ (enterT t.s b).st ∨ x ∈ t.s.pa.flatten
      rw [hst]
      by_cases e : x = b
      · rw [if_pos e]
        exact ⟨fun _ => .inl (.inr e), fun _ => by omega⟩
      · rw [if_neg e, h.seen x hx]
        constructor
        · rintro (h | h)
          · exact .inl (.inl h)
          · exact .inr h
        · rintro ((h | h) | h)
          · exact .inl h
          · exact absurd h e
          · exact .inr h
    dsj := fun x hx => by
      rcases (hst x).1 hx with hx | rfl
      · exact h.dsj x hx
      · exact hnp
    on := fun x hx => by
      rw [hon x hx, hst]
      by_cases e : x = b
      · rw [if_pos e]; exact ⟨fun _ => .inr e, fun _ => rfl⟩
      · rw [if_neg e, h.on x hx]
        exact ⟨.inl, fun h => h.resolve_right e⟩
    asc := by
      show (t.s.st ++ [b]).Pairwise _
      rw [List.pairwise_append]
      refine ⟨(List.Pairwise.and_mem.1 h.asc).imp fun {x y} ⟨hx, hy, hxy⟩ => by rw [hixs x hx, hixs y hy]; exact hxy, List.pairwise_singleton _ _, fun x hx y hy => ?_⟩
      rw [List.mem_singleton] at hy
      subst hy
      rw [hixs x hx, hixb]
      have := (h.pos x hx).2
      omega
    pos := fun x hx => by
      show 1 ≤ ig (enterT t.s b).ix x ∧ ig (enterT t.s b).ix x ≤ ((t.s.ct + 1 : Nat) : Int)
      rcases (hst x).1 hx with hx | rfl
      · rw [hixs x hx]
        have := h.pos x hx
        omega
      · rw [hixb]; omega
    gr := fun w hw => by
      rw [hgg, hgm] at hw
      rcases hw with hw | rfl
      · exact (hst w).2 (.inl (hgs w hw))
      · exact (hst w).2 (.inr rfl)
    ginc := by
      rw [hgg, List.pairwise_append]
      refine ⟨(List.Pairwise.and_mem.1 h.ginc).imp fun {x y} ⟨hx, hy, hxy⟩ => by rw [hixs x (hgs x hx), hixs y (hgs y hy)]; exact hxy, List.pairwise_singleton _ _, fun x hx y hy => ?_⟩
      rw [List.mem_singleton] at hy
      subst hy
      rw [hixs x (hgs x hx), hixb]
      have := (h.pos x (hgs x hx)).2
      omega
    ks := fun p hp => by
      rcases List.mem_append.1 hp with hp | hp
      · exact h.ks p hp
      · rw [List.mem_singleton] at hp
        subst hp
        exact hlt
    k := Nat.zero_le _
    ex := fun z hz y he => by
      obtain ⟨hzb, he⟩ := hexp z y he
      have hyn : nodeI N y = true := by
        rcases he with he | ⟨_, rfl⟩
        · exact hnx _ y he.2.2
        · exact hbn
      rw [hix y hyn]
      by_cases e : y = b
      · rw [if_pos e]; omega
      · rw [if_neg e]
        rcases he with he | he
        · exact h.ex z (((hst z).1 hz).resolve_right hzb) y he
        · exact absurd he.2 e
    dn := fun z hz w hw hle => by
      rw [hgg, hgm] at hw
      rcases hw with hw | rfl
      · rcases (hst z).1 hz with hz | rfl
        · rw [hixs w (hgs w hw), hixs z hz] at hle
          exact h.dn z hz w hw hle
        · have hvw : ig t.s.ix w ≤ ig t.s.ix t.v := by
            have hg := h.ginc
            rw [TW.g, List.pairwise_append] at hg
            rcases List.mem_append.1 hw with hw | hw
            · exact Int.le_of_lt (hg.2.2 w hw t.v (by simp))
            · rw [List.mem_singleton] at hw; rw [hw]; exact Int.le_refl _
          exact .step (h.dn t.v hv w hw hvw) hbm
      · rcases (hst z).1 hz with hz | rfl
        · rw [hixs z hz, hixb] at hle
          have := (h.pos z hz).2
          omega
        · exact .refl _
    up := fun z hz => by
      rw [hgg]
      rcases (hst z).1 hz with hz | rfl
      · obtain ⟨w, h1, h2, h3⟩ := h.up z hz
        exact ⟨w, (hgm w).2 (.inl h1), by rw [hixs w (hgs w h1), hixs z hz]; exact h2, h3⟩
      · exact ⟨z, (hgm z).2 (.inr rfl), Int.le_refl _, .refl _⟩
    los := fun u hu => by
      rw [hgg, hgm] at hu
      rcases hu with hu | rfl
      · obtain ⟨g1, y, g2, g3, g4⟩ := h.los u hu
        refine ⟨by rw [hlos u (hgs u hu), hixs u (hgs u hu)]; exact g1, y, (hst y).2 (.inl g2), by rw [hixs y g2, hlos u (hgs u hu)]; exact g3, g4⟩
      · exact ⟨by rw [hlob, hixb]; exact Int.le_refl _, u, (hst u).2 (.inr rfl), by rw [hlob, hixb], .refl _⟩
    loc := fun z hz u hu h1 h2 y he hy => by
      obtain ⟨hzb, he⟩ := hexp z y he
      have hzs := ((hst z).1 hz).resolve_right hzb
      rw [hgg] at hu h2
      rw [hgm] at hu
      rcases hu with hu | rfl
      · have hus := hgs u hu
        rw [hlos u hus]
        rw [hixs u hus, hixs z hzs] at h1
        have h2' : ∀ w ∈ t.g, ig t.s.ix w ≤ ig t.s.ix z → ig t.s.ix w ≤ ig t.s.ix u := fun w hw hle => by
          have := h2 w ((hgm w).2 (.inl hw)) (by rw [hixs w (hgs w hw), hixs z hzs]; exact hle)
          rwa [hixs w (hgs w hw), hixs u hus] at this
        rcases (hst y).1 hy with hys | rfl
        · rw [hixs y hys]
          rcases he with he | ⟨_, rfl⟩
          · exact h.loc z hzs u hu h1 h2' y he hys
          · exact absurd hys hns
        · rw [hixb]
          have g1 := (h.los u hu).1
          have g2 := (h.pos u hus).2
          omega
      · rw [hixb, hixs z hzs] at h1
        have := (h.pos z hzs).2
        omega
    pa := h.pa }
end
end Go.Proofs
end
section
namespace Go.Proofs
open Go.Sy
theorem idxOf_split {st : List Int} {v : Int} (hv : v ∈ st) : ∃ A B, st = A ++ v :: B ∧ v ∉ A ∧ st.take (st.idxOf v) = A ∧ st.drop (st.idxOf v) = v :: B := by
  have hlt := List.idxOf_lt_length_of_mem hv
  have hget : st[st.idxOf v] = v := List.getElem_idxOf hlt
  have hd : st.drop (st.idxOf v) = v :: st.drop (st.idxOf v + 1) := by rw [List.drop_eq_getElem_cons hlt, hget]
  refine ⟨st.take (st.idxOf v), st.drop (st.idxOf v + 1), ?_, fun hm => ?_, rfl, hd⟩
  · rw [← hd, List.take_append_drop]
  · obtain ⟨i, hi, he⟩ := List.getElem_of_mem hm
    rw [List.length_take] at hi
    have h1 : i < st.idxOf v := by omega
    rw [List.getElem_take] at he
    have := List.not_of_lt_findIdx (p := (· == v)) (xs := st) (i := i) h1
    simp [he] at this
theorem gray_max {N : Nat} {nx : Int → List Int} (_hnx : ∀ v, ∀ b ∈ nx v, nodeI N b = true) {t : TW} (h : TJ N nx t) : ∀ w ∈ t.g, ig t.s.ix w ≤ ig t.s.ix t.v := fun w hw => by
  have hg := h.ginc
  rw [TW.g, List.pairwise_append] at hg
  rcases List.mem_append.1 hw with hw | hw
  · exact Int.le_of_lt (hg.2.2 w hw t.v (by simp))
  · rw [List.mem_singleton] at hw; rw [hw]; exact Int.le_refl _
theorem take_all {N : Nat} {nx : Int → List Int} (_hnx : ∀ v, ∀ b ∈ nx v, nodeI N b = true) {t : TW} (h : TJ N nx t) (hb : (nx t.v)[t.k]? = none) : (nx t.v).take t.k = nx t.v := List.take_of_length_le (List.getElem?_eq_none_iff.1 hb)
section
variable {N : Nat} {nx : Int → List Int} (hnx : ∀ v, ∀ b ∈ nx v, nodeI N b = true)
include hnx
/-- What is looked at when a node is done. -/
theorem expl_done {t : TW} (h : TJ N nx t) (hb : (nx t.v)[t.k]? = none) {W1 : List (Int × Nat)} {u : Int} {j : Nat} (hW : t.W = W1 ++ [(u, j)]) {s' : TS} {z y : Int} (he : Expl nx ⟨s', W1, u, j⟩ z y) : Expl nx t z y := by
  obtain ⟨h1, h2, h3⟩ := he
  refine ⟨fun e => ?_, fun p hp e => ?_, h3⟩
  · rw [take_all hnx h hb, ← e]; exact h3
  · rw [hW] at hp
    rcases List.mem_append.1 hp with hp | hp
    · exact h2 p hp e
    · rw [List.mem_singleton] at hp
      subst hp
      have := h1 e.symm
      rw [← e]
      exact this
/-- A node that isn't the first of its part is done. -/
theorem TJ.done {t : TW} (h : TJ N nx t) (hb : (nx t.v)[t.k]? = none) {W1 : List (Int × Nat)} {u : Int} {j : Nat} (hW : t.W = W1 ++ [(u, j)]) (hne : ig t.s.lo t.v ≠ ig t.s.ix t.v) : TJ N nx ⟨lowT t.s u (ig t.s.lo t.v), W1, u, j⟩ := by
  have hg : t.g = TW.g ⟨lowT t.s u (ig t.s.lo t.v), W1, u, j⟩ ++ [t.v] := by simp [TW.g, hW]
  obtain ⟨g', hg'⟩ : ∃ g', g' = TW.g ⟨lowT t.s u (ig t.s.lo t.v), W1, u, j⟩ := ⟨_, rfl⟩
  rw [← hg'] at hg
  have hgs : ∀ x ∈ g', x ∈ t.g := fun x hx => by rw [hg]; exact List.mem_append_left _ hx
  have hug : u ∈ g' := by rw [hg']; simp [TW.g]
  have hus := h.gr u (hgs u hug)
  have hun := h.nn u hus
  have hv := h.vin hnx
  have hvg : t.v ∈ t.g := by simp [TW.g]
  have hinc := h.ginc
  rw [hg, List.pairwise_append] at hinc
  have hlt : ∀ w ∈ g', ig t.s.ix w < ig t.s.ix t.v := fun w hw => hinc.2.2 w hw t.v (by simp)
  have hlo : ∀ x, nodeI N x = true → ig (lowT t.s u (ig t.s.lo t.v)).lo x = if x = u then min (ig t.s.lo u) (ig t.s.lo t.v) else ig t.s.lo x := fun x hx => ig_set h.ll hun _ hx
  obtain ⟨lv1, yv, lv2, lv3, lv4⟩ := h.los t.v hvg
  exact
  { lx := h.lx, ll := by show (t.s.lo.set _ _).length = N; rw [List.length_set]; exact h.ll
    lon := h.lon, nd := h.nd, nn := h.nn, seen := h.seen, dsj := h.dsj, on := h.on, asc := h.asc, pos := h.pos
    gr := fun w hw => h.gr w (hgs w (hg' ▸ hw))
    ginc := by rw [← hg']; exact hinc.1
    ks := fun p hp => h.ks p (by rw [hW]; exact List.mem_append_left _ hp)
    k := h.ks (u, j) (by rw [hW]; simp)
    ex := fun z hz y he => h.ex z hz y (expl_done hnx h hb hW he)
    dn := fun z hz w hw hle => h.dn z hz w (hgs w (hg' ▸ hw)) hle
    up := fun z hz => by
      rw [← hg']
      obtain ⟨w, h1, h2, h3⟩ := h.up z hz
      rw [hg] at h1
      rcases List.mem_append.1 h1 with h1 | h1
      · exact ⟨w, h1, h2, h3⟩
      · rw [List.mem_singleton] at h1
        subst h1
        obtain ⟨w', k1, k2, k3⟩ := h.up yv lv2
        rw [hg] at k1
        rcases List.mem_append.1 k1 with k1 | k1
        · exact ⟨w', k1, by show ig t.s.ix w' ≤ ig t.s.ix z; omega, h3.trans (lv4.trans k3)⟩
        · rw [List.mem_singleton] at k1
          subst k1
          omega
    los := fun x hx => by
      rw [← hg'] at hx
      have hxs := h.gr x (hgs x hx)
      obtain ⟨g1, y, g2, g3, g4⟩ := h.los x (hgs x hx)
      rw [hlo x (h.nn x hxs)]
      show _ ≤ ig t.s.ix x ∧ ∃ y ∈ t.s.st, ig t.s.ix y = _ ∧ _
      by_cases e : x = u
      · subst e
        rw [if_pos rfl]
        refine ⟨by omega, ?_⟩
        by_cases hc : ig t.s.lo x ≤ ig t.s.lo t.v
        · exact ⟨y, g2, by omega, g4⟩
        · exact ⟨yv, lv2, by omega, (h.dn t.v hv x (hgs x hx) (Int.le_of_lt (hlt x hx))).trans lv4⟩
      · rw [if_neg e]
        exact ⟨g1, y, g2, g3, g4⟩
    loc := fun z hz x hx h1 h2 y he hy => by
      rw [← hg'] at hx h2
      have hxs := h.gr x (hgs x hx)
      have he' := expl_done hnx h hb hW he
      rw [hlo x (h.nn x hxs)]
      show _ ≤ ig t.s.ix y
      have h1 : ig t.s.ix x ≤ ig t.s.ix z := h1
      have h2 : ∀ w ∈ g', ig t.s.ix w ≤ ig t.s.ix z → ig t.s.ix w ≤ ig t.s.ix x := h2
      by_cases hvz : ig t.s.ix t.v ≤ ig t.s.ix z
      · have hxu : x = u := by
          have h3 := h2 u hug (by have := hlt u hug; omega)
          have hp := hinc.1
          rw [hg', TW.g, List.pairwise_append] at hp
          rw [hg', TW.g] at hx
          rcases List.mem_append.1 hx with hx | hx
          · have h4 : ig t.s.ix x < ig t.s.ix u := hp.2.2 x hx u (by simp)
            omega
          · exact List.mem_singleton.1 hx
        rw [if_pos hxu]
        have := h.loc z hz t.v hvg hvz (fun w hw _ => gray_max hnx h w hw) y he' hy
        omega
      · have h3 := h.loc z hz x (hgs x hx) h1 (fun w hw hle => by
          rw [hg] at hw
          rcases List.mem_append.1 hw with hw | hw
          · exact h2 w hw hle
          · rw [List.mem_singleton] at hw
            subst hw
            exact absurd hle hvz) y he' hy
        by_cases e : x = u
        · rw [if_pos e]
          subst e
          omega
        · rw [if_neg e]; exact h3
    pa := h.pa }
/-- A part is told. -/
theorem TJ.part {t : TW} (h : TJ N nx t) (hb : (nx t.v)[t.k]? = none) (he : ig t.s.lo t.v = ig t.s.ix t.v) {A B : List Int} (hs : t.s.st = A ++ t.v :: B) :
    (∀ z ∈ A, ig t.s.ix z < ig t.s.ix t.v) ∧ (∀ z ∈ t.v :: B, ig t.s.ix t.v ≤ ig t.s.ix z) ∧ TP N nx (t.s.pa ++ [gSort (t.v :: B)]) ∧ (∀ x, x ∈ (t.s.pa ++ [gSort (t.v :: B)]).flatten ↔ x ∈ t.s.pa.flatten ∨ x ∈ t.v :: B) := by
  have hasc := h.asc
  rw [hs, List.pairwise_append] at hasc
  have hA : ∀ z ∈ A, ig t.s.ix z < ig t.s.ix t.v := fun z hz => hasc.2.2 z hz t.v (by simp)
  have hB : ∀ z ∈ t.v :: B, ig t.s.ix t.v ≤ ig t.s.ix z := fun z hz => by
    rcases List.mem_cons.1 hz with rfl | hz
    · exact Int.le_refl _
    · exact Int.le_of_lt ((List.pairwise_cons.1 hasc.2.1).1 z hz)
  have hin : ∀ z ∈ t.v :: B, z ∈ t.s.st := fun z hz => by rw [hs]; exact List.mem_append_right _ hz
  have hvg : t.v ∈ t.g := by simp [TW.g]
  have hv := h.vin hnx
  have hst : ∀ z ∈ t.s.st, ig t.s.ix t.v ≤ ig t.s.ix z → z ∈ t.v :: B := fun z hz hle => by
    rw [hs] at hz
    rcases List.mem_append.1 hz with hz | hz
    · have := hA z hz; omega
    · exact hz
  have hfl : ∀ x, x ∈ (t.s.pa ++ [gSort (t.v :: B)]).flatten ↔ x ∈ t.s.pa.flatten ∨ x ∈ t.v :: B := fun x => by
    rw [List.flatten_append, List.mem_append, List.flatten_singleton, gSort_mem]
  have hd : ∀ z ∈ t.v :: B, Rch nx t.v z := fun z hz => h.dn z (hin z hz) t.v hvg (hB z hz)
  have hu : ∀ z ∈ t.v :: B, Rch nx z t.v := fun z hz => by
    obtain ⟨w, h1, h2, h3⟩ := h.up z (hin z hz)
    exact h3.trans (h.dn t.v hv w h1 (gray_max hnx h w h1))
  have hclP : ∀ z ∈ t.v :: B, ∀ y ∈ nx z, y ∈ t.s.pa.flatten ∨ y ∈ t.v :: B := fun z hz y hy => by
    have hex : Expl nx t z y := by
      refine ⟨fun e => by rw [take_all hnx h hb, ← e]; exact hy, fun p hp e => ?_, hy⟩
      have h1 : ig t.s.ix p.1 < ig t.s.ix t.v := by
        have hg := h.ginc
        rw [TW.g, List.pairwise_append] at hg
        exact hg.2.2 p.1 (List.mem_map.2 ⟨p, hp, rfl⟩) t.v (by simp)
      have h2 := hB z hz
      rw [e] at h1
      omega
    have hyn := hnx _ y hy
    rcases (h.seen y hyn).1 (h.ex z (hin z hz) y hex) with hys | hyd
    · right
      refine hst y hys ?_
      have := h.loc z (hin z hz) t.v hvg (hB z hz) (fun w hw _ => gray_max hnx h w hw) y hex hys
      omega
    · exact .inl hyd
  have hclD : ∀ x ∈ t.s.pa.flatten, ∀ y ∈ nx x, y ∈ t.s.pa.flatten := h.pa.cl t.s.pa [] (by simp)
  have hclA : ∀ x ∈ (t.s.pa ++ [gSort (t.v :: B)]).flatten, ∀ y ∈ nx x, y ∈ (t.s.pa ++ [gSort (t.v :: B)]).flatten := fun x hx y hy => by
    rw [hfl] at hx ⊢
    rcases hx with hx | hx
    · exact .inl (hclD x hx y hy)
    · exact hclP x hx y hy
  have hnd2 : (t.v :: B).Nodup := by
    have := h.nd
    rw [hs, List.nodup_append] at this
    exact this.2.1
  refine ⟨hA, hB, ⟨fun x hx => ?_, ?_, fun p hp => ?_, fun C D hCD x hx y hy => ?_⟩, hfl⟩
  · rcases (hfl x).1 hx with hx | hx
    · exact h.pa.node x hx
    · exact h.nn x (hin x hx)
  · rw [List.flatten_append, List.flatten_singleton, List.nodup_append]
    refine ⟨h.pa.nd, strict_nodup (gSort_strict _), fun x hx y hy e => ?_⟩
    subst e
    exact h.dsj x (hin x ((gSort_mem _ x).1 hy)) hx
  · rcases List.mem_append.1 hp with hp | hp
    · exact h.pa.ok p hp
    · rw [List.mem_singleton] at hp
      subst hp
      refine ⟨fun e => ?_, gSort_strict _, fun x hx y => ?_⟩
      · have : t.v ∈ gSort (t.v :: B) := (gSort_mem _ _).2 (by simp)
        rw [e] at this
        cases this
      · rw [gSort_mem] at hx ⊢
        constructor
        · intro hy
          exact ⟨(hu x hx).trans (hd y hy), (hu y hy).trans (hd x hx)⟩
        · rintro ⟨h1, h2⟩
          rcases (hfl y).1 (h1.closed hclA ((hfl x).2 (.inr hx))) with hy | hy
          · exact absurd (h2.closed hclD hy) (h.dsj x (hin x hx))
          · exact hy
  · rcases List.eq_nil_or_concat D with rfl | ⟨D', q, rfl⟩
    · rw [List.append_nil] at hCD
      rw [← hCD] at hx ⊢
      exact hclA x hx y hy
    · rw [List.concat_eq_append, ← List.append_assoc] at hCD
      obtain ⟨h1, _⟩ := List.append_inj' hCD rfl
      exact h.pa.cl C D' h1 x hx y hy
/-- The first node of a part is done. -/
theorem TJ.root {t : TW} (h : TJ N nx t) (hb : (nx t.v)[t.k]? = none) {W1 : List (Int × Nat)} {u : Int} {j : Nat} (hW : t.W = W1 ++ [(u, j)]) (he : ig t.s.lo t.v = ig t.s.ix t.v) : TJ N nx ⟨lowT (leaveT t.s t.v) u (ig t.s.lo t.v), W1, u, j⟩ := by
  have hv := h.vin hnx
  obtain ⟨A, B, hs, hvA, hta, hdr⟩ := idxOf_split hv
  obtain ⟨hA, hB, hTP, hfl⟩ := h.part hnx hb he hs
  have hlv : leaveT t.s t.v = ⟨t.s.ix, t.s.lo, clearM t.s.on (t.v :: B), A, t.s.ct, t.s.pa ++ [gSort (t.v :: B)]⟩ := by rw [leaveT, if_pos he, hta, hdr]
  rw [hlv]
  have hg : t.g = TW.g ⟨lowT ⟨t.s.ix, t.s.lo, clearM t.s.on (t.v :: B), A, t.s.ct, t.s.pa ++ [gSort (t.v :: B)]⟩ u (ig t.s.lo t.v), W1, u, j⟩ ++ [t.v] := by simp [TW.g, hW]
  obtain ⟨g', hg'⟩ : ∃ g', g' = TW.g ⟨lowT ⟨t.s.ix, t.s.lo, clearM t.s.on (t.v :: B), A, t.s.ct, t.s.pa ++ [gSort (t.v :: B)]⟩ u (ig t.s.lo t.v), W1, u, j⟩ := ⟨_, rfl⟩
  rw [← hg'] at hg
  have hgs : ∀ x ∈ g', x ∈ t.g := fun x hx => by rw [hg]; exact List.mem_append_left _ hx
  have hug : u ∈ g' := by rw [hg']; simp [TW.g]
  have hun := h.nn u (h.gr u (hgs u hug))
  have hinc := h.ginc
  rw [hg, List.pairwise_append] at hinc
  have hlt : ∀ w ∈ g', ig t.s.ix w < ig t.s.ix t.v := fun w hw => hinc.2.2 w hw t.v (by simp)
  have hin : ∀ z ∈ A, z ∈ t.s.st := fun z hz => by rw [hs]; exact List.mem_append_left _ hz
  have hgA : ∀ w ∈ g', w ∈ A := fun w hw => by
    have h1 := h.gr w (hgs w hw)
    rw [hs] at h1
    rcases List.mem_append.1 h1 with h1 | h1
    · exact h1
    · have := hB w h1
      have := hlt w hw
      omega
  have hlou : ig t.s.lo u ≤ ig t.s.ix u := (h.los u (hgs u hug)).1
  have hluv : ig t.s.lo u ≤ ig t.s.lo t.v := by
    have := hlt u hug
    omega
  have hlo : ∀ x, nodeI N x = true → ig (t.s.lo.set u.toNat (min (ig t.s.lo u) (ig t.s.lo t.v))) x = ig t.s.lo x := fun x hx => by
    rw [ig_set h.ll hun _ hx]
    split
    · rename_i e; subst e; omega
    · rfl
  have hBn : ∀ x ∈ t.v :: B, nodeI N x = true := fun x hx => h.nn x (by rw [hs]; exact List.mem_append_right _ hx)
  have hnd := h.nd
  rw [hs, List.nodup_append] at hnd
  have hAB : ∀ x ∈ A, x ∉ t.v :: B := fun x hx hm => hnd.2.2 x hx x hm rfl
  have hasc := h.asc
  rw [hs, List.pairwise_append] at hasc
  exact
  { lx := h.lx, ll := by show (t.s.lo.set _ _).length = N; rw [List.length_set]; exact h.ll
    lon := by show (clearM _ _).length = N; rw [clearM_len]; exact h.lon
    nd := hnd.1
    nn := fun x hx => h.nn x (hin x hx)
    seen := fun x hx => by
      show ig t.s.ix x ≠ 0 ↔ x ∈ A ∨ x ∈ (t.s.pa ++ [gSort (t.v :: B)]).flatten
      rw [hfl, h.seen x hx, hs, List.mem_append]
      constructor
      · rintro ((h | h) | h)
        · exact .inl h
        · exact .inr (.inr h)
        · exact .inr (.inl h)
      · rintro (h | h | h)
        · exact .inl (.inl h)
        · exact .inr h
        · exact .inl (.inr h)
    dsj := fun x hx hm => by
      rcases (hfl x).1 hm with hm | hm
      · exact h.dsj x (hin x hx) hm
      · exact hAB x hx hm
    on := fun x hx => by
      show bget (clearM t.s.on (t.v :: B)) x = true ↔ x ∈ A
      rw [clearM_get (t.v :: B) h.lon hBn hx]
      by_cases hm : x ∈ t.v :: B
      · rw [if_pos hm]
        exact ⟨fun e => (by cases e), fun ha => absurd hm (hAB x ha)⟩
      · rw [if_neg hm, h.on x hx, hs, List.mem_append]
        exact ⟨fun h => h.resolve_right hm, .inl⟩
    asc := hasc.1
    pos := fun x hx => h.pos x (hin x hx)
    gr := fun w hw => hgA w (hg' ▸ hw)
    ginc := by rw [← hg']; exact hinc.1
    ks := fun p hp => h.ks p (by rw [hW]; exact List.mem_append_left _ hp)
    k := h.ks (u, j) (by rw [hW]; simp)
    ex := fun z hz y he => h.ex z (hin z hz) y (expl_done hnx h hb hW he)
    dn := fun z hz w hw hle => h.dn z (hin z hz) w (hgs w (hg' ▸ hw)) hle
    up := fun z hz => by
      rw [← hg']
      obtain ⟨w, h1, h2, h3⟩ := h.up z (hin z hz)
      rw [hg] at h1
      rcases List.mem_append.1 h1 with h1 | h1
      · exact ⟨w, h1, h2, h3⟩
      · rw [List.mem_singleton] at h1
        subst h1
        have := hA z hz
        omega
    los := fun x hx => by
      rw [← hg'] at hx
      have hxs := h.gr x (hgs x hx)
      obtain ⟨g1, y, g2, g3, g4⟩ := h.los x (hgs x hx)
      show ig (t.s.lo.set u.toNat (min (ig t.s.lo u) (ig t.s.lo t.v))) x ≤ ig t.s.ix x ∧ ∃ y ∈ A, ig t.s.ix y = ig (t.s.lo.set u.toNat (min (ig t.s.lo u) (ig t.s.lo t.v))) x ∧ _
      rw [hlo x (h.nn x hxs)]
      refine ⟨g1, y, ?_, g3, g4⟩
      rw [hs] at g2
      rcases List.mem_append.1 g2 with g2 | g2
      · exact g2
      · have := hB y g2
        have := hlt x hx
        omega
    loc := fun z hz x hx h1 h2 y he hy => by
      rw [← hg'] at hx h2
      have hxs := h.gr x (hgs x hx)
      show ig (t.s.lo.set u.toNat (min (ig t.s.lo u) (ig t.s.lo t.v))) x ≤ ig t.s.ix y
      rw [hlo x (h.nn x hxs)]
      exact h.loc z (hin z hz) x (hgs x hx) h1 (fun w hw hle => by
        rw [hg] at hw
        rcases List.mem_append.1 hw with hw | hw
        · exact h2 w hw hle
        · rw [List.mem_singleton] at hw
          subst hw
          have := hA z hz
          omega) y (expl_done hnx h hb hW he) (hin y hy)
    pa := hTP }
/-- The last node of the way is done. -/
theorem TJ.last {t : TW} (h : TJ N nx t) (hb : (nx t.v)[t.k]? = none) (hW : t.W = []) :
    (leaveT t.s t.v).st = [] ∧ TP N nx (leaveT t.s t.v).pa ∧ (leaveT t.s t.v).ix = t.s.ix ∧ (leaveT t.s t.v).lo = t.s.lo ∧ (leaveT t.s t.v).on.length = N ∧ (∀ x, nodeI N x = true → bget (leaveT t.s t.v).on x = false) ∧
      (∀ x, nodeI N x = true → (ig t.s.ix x ≠ 0 ↔ x ∈ (leaveT t.s t.v).pa.flatten)) ∧ (leaveT t.s t.v).ct = t.s.ct := by
  have hv := h.vin hnx
  have hvg : t.v ∈ t.g := by simp [TW.g]
  have hg : t.g = [t.v] := by simp [TW.g, hW]
  have hmin : ∀ z ∈ t.s.st, ig t.s.ix t.v ≤ ig t.s.ix z := fun z hz => by
    obtain ⟨w, h1, h2, _⟩ := h.up z hz
    rw [hg, List.mem_singleton] at h1
    subst h1
    exact h2
  have he : ig t.s.lo t.v = ig t.s.ix t.v := by
    obtain ⟨g1, y, g2, g3, _⟩ := h.los t.v hvg
    have := hmin y g2
    omega
  obtain ⟨A, B, hs, hvA, hta, hdr⟩ := idxOf_split hv
  obtain ⟨hA, hB, hTP, hfl⟩ := h.part hnx hb he hs
  have hA0 : A = [] := by
    match A, hA, hs with
    | [], _, _ => rfl
    | x :: r, hA, hs =>
      have h1 := hA x List.mem_cons_self
      have h2 := hmin x (by rw [hs]; simp)
      omega
  have hlv : leaveT t.s t.v = ⟨t.s.ix, t.s.lo, clearM t.s.on (t.v :: B), A, t.s.ct, t.s.pa ++ [gSort (t.v :: B)]⟩ := by rw [leaveT, if_pos he, hta, hdr]
  have hBn : ∀ x ∈ t.v :: B, nodeI N x = true := fun x hx => h.nn x (by rw [hs]; exact List.mem_append_right _ hx)
  rw [hlv]
  refine ⟨hA0, hTP, rfl, rfl, by show (clearM _ _).length = N; rw [clearM_len]; exact h.lon, fun x hx => ?_, fun x hx => ?_, rfl⟩
  · show bget (clearM t.s.on (t.v :: B)) x = false
    rw [clearM_get (t.v :: B) h.lon hBn hx]
    by_cases hm : x ∈ t.v :: B
    · rw [if_pos hm]
    · rw [if_neg hm]
      cases ho : bget t.s.on x with
      | false => rfl
      | true =>
        have := (h.on x hx).1 ho
        rw [hs, hA0] at this
        exact absurd this hm
  · show _ ↔ x ∈ (t.s.pa ++ [gSort (t.v :: B)]).flatten
    rw [hfl, h.seen x hx, hs, hA0]
    exact ⟨fun h => h.symm, fun h => h.symm⟩
end
end Go.Proofs
end
section
namespace Go.Proofs
open Go.Sy
/-- Between two walks. -/
structure TI (N : Nat) (nx : Int → List Int) (s : TS) : Prop where
  lx : s.ix.length = N
  ll : s.lo.length = N
  lon : s.on.length = N
  st : s.st = []
  seen : ∀ x, nodeI N x = true → (ig s.ix x ≠ 0 ↔ x ∈ s.pa.flatten)
  on : ∀ x, nodeI N x = true → bget s.on x = false
  cc : s.ct + s.ix.count 0 = N
  pa : TP N nx s.pa
theorem count_zero {L : List Int} {x : Int} (h0 : 0 ≤ x) (h : x < L.length) (hz : ig L x = 0) {a : Int} (ha : a ≠ 0) : (L.set x.toNat a).count 0 + 1 = L.count 0 := by
  have hlt : x.toNat < L.length := by omega
  have hg : L[x.toNat] = 0 := by
    rw [ig, List.getElem?_eq_getElem hlt] at hz
    exact hz
  have hm : 0 < L.count 0 := List.count_pos_iff.2 (hg ▸ List.getElem_mem hlt)
  rw [List.count_set hlt, hg, if_pos (by simp), if_neg (by simpa using ha)]
  omega
theorem cc_enter {N : Nat} {s : TS} (hl : s.ix.length = N) {b : Int} (hb : nodeI N b = true) (h0 : ig s.ix b = 0) (hc : s.ct + s.ix.count 0 = N) : (enterT s b).ct + (enterT s b).ix.count 0 = N := by
  have h1 := dt hb
  have := count_zero (L := s.ix) h1.1 (by omega) h0 (a := ((s.ct + 1 : Nat) : Int)) (by omega)
  show s.ct + 1 + (s.ix.set b.toNat ((s.ct + 1 : Nat) : Int)).count 0 = N
  omega
def wsum (nx : Int → List Int) (W : List (Int × Nat)) : Nat := (W.map fun p => (nx p.1).length - p.2 + 1).sum
theorem leave_ix (s : TS) (v : Int) : (leaveT s v).ix = s.ix ∧ (leaveT s v).lo = s.lo ∧ (leaveT s v).ct = s.ct := by
  rw [leaveT]; split <;> exact ⟨rfl, rfl, rfl⟩
/-- A walk begins. -/
theorem TI.enter {N : Nat} {nx : Int → List Int} (_hnx : ∀ v, ∀ b ∈ nx v, nodeI N b = true) {s : TS} (h : TI N nx s) {a : Int} (ha : nodeI N a = true) (h0 : ig s.ix a = 0) : TJ N nx ⟨enterT s a, [], a, 0⟩ := by
  have hix : ∀ y, nodeI N y = true → ig (enterT s a).ix y = if y = a then ((s.ct + 1 : Nat) : Int) else ig s.ix y := fun y hy => ig_set h.lx ha _ hy
  have hlo : ∀ y, nodeI N y = true → ig (enterT s a).lo y = if y = a then ((s.ct + 1 : Nat) : Int) else ig s.lo y := fun y hy => ig_set h.ll ha _ hy
  have hon : ∀ y, nodeI N y = true → bget (enterT s a).on y = if y = a then true else bget s.on y := fun y hy => bget_set h.lon ha _ hy
  have hst : (enterT s a).st = [a] := by show s.st ++ [a] = [a]; rw [h.st]; rfl
  have hm : ∀ x, x ∈ (enterT s a).st ↔ x = a := fun x => by rw [hst, List.mem_singleton]
  have hg : TW.g ⟨enterT s a, [], a, 0⟩ = [a] := rfl
  have hixa := hix a ha
  have hloa := hlo a ha
  rw [if_pos rfl] at hixa hloa
  have hnp : a ∉ s.pa.flatten := fun hm => (h.seen a ha).2 hm h0
  have hexp : ∀ z y, z ∈ (enterT s a).st → Expl nx ⟨enterT s a, [], a, 0⟩ z y → False := fun z y hz he => by simpa using he.1 ((hm z).1 hz)
  exact
  { lx := by show (s.ix.set _ _).length = N; rw [List.length_set]; exact h.lx
    ll := by show (s.lo.set _ _).length = N; rw [List.length_set]; exact h.ll
    lon := by show (s.on.set _ _).length = N; rw [List.length_set]; exact h.lon
    nd := by dsimp only; rw [hst]; simp
    nn := fun x hx => (hm x).1 hx ▸ ha
    seen := fun x hx => by
      dsimp only
      rw [hix x hx, hm]
      show _ ↔ x = a ∨ x ∈ s.pa.flatten
      by_cases e : x = a
      · rw [if_pos e]; exact ⟨fun _ => .inl e, fun _ => by omega⟩
      · rw [if_neg e, h.seen x hx]; exact ⟨.inr, fun h => h.resolve_left e⟩
    dsj := fun x hx => (hm x).1 hx ▸ hnp
    on := fun x hx => by
      dsimp only
      rw [hon x hx, hm]
      by_cases e : x = a
      · rw [if_pos e]; exact ⟨fun _ => e, fun _ => rfl⟩
      · rw [if_neg e, h.on x hx]; exact ⟨fun h => (by cases h), fun h => absurd h e⟩
    asc := by dsimp only; rw [hst]; exact List.pairwise_singleton _ _
    pos := fun x hx => by
      rw [(hm x).1 hx]
      dsimp only
      rw [hixa]
      show _ ∧ _ ≤ ((s.ct + 1 : Nat) : Int)
      omega
    gr := fun w hw => by rw [hg, List.mem_singleton] at hw; exact (hm w).2 hw
    ginc := by rw [hg]; exact List.pairwise_singleton _ _
    ks := fun p hp => by cases hp
    k := Nat.zero_le _
    ex := fun z hz y he => (hexp z y hz he).elim
    dn := fun z hz w hw _ => by
      rw [hg, List.mem_singleton] at hw
      rw [hw, (hm z).1 hz]
      exact .refl _
    up := fun z hz => ⟨a, by rw [hg]; simp, by rw [(hm z).1 hz]; exact Int.le_refl _, by rw [(hm z).1 hz]; exact .refl _⟩
    los := fun u hu => by
      rw [hg, List.mem_singleton] at hu
      subst hu
      dsimp only
      exact ⟨by rw [hixa, hloa]; exact Int.le_refl _, u, (hm u).2 rfl, by rw [hixa, hloa], .refl _⟩
    loc := fun z hz u _ _ _ y he _ => (hexp z y hz he).elim
    pa := h.pa }
section
variable {N : Nat} {nx : Int → List Int} (hnx : ∀ v, ∀ b ∈ nx v, nodeI N b = true) {C : Nat} (hC : ∀ v, (nx v).length ≤ C)
include hnx
include hC
/-- The walk comes to an end, at which whatever it came to is told. -/
theorem walk_ends : ∀ (m : Nat) (t : TW), TJ N nx t → t.s.ct + t.s.ix.count 0 = N → t.s.ix.count 0 * (C + 3) + wsum nx t.W + ((nx t.v).length - t.k + 1) ≤ m →
    ∃ n s', runT nx n (.inl t) = some s' ∧ TI N nx s' ∧ (∀ x, nodeI N x = true → ig t.s.ix x ≠ 0 → ig s'.ix x ≠ 0)
  | 0, t, _, _, hm => by omega
  | m + 1, t, h, hc, hm => by
    have hstep : ∀ t', stpT nx t = .inl t' → TJ N nx t' → t'.s.ct + t'.s.ix.count 0 = N → t'.s.ix.count 0 * (C + 3) + wsum nx t'.W + ((nx t'.v).length - t'.k + 1) ≤ m → (∀ x, nodeI N x = true → ig t.s.ix x ≠ 0 → ig t'.s.ix x ≠ 0) →
        ∃ n s', runT nx n (.inl t) = some s' ∧ TI N nx s' ∧ (∀ x, nodeI N x = true → ig t.s.ix x ≠ 0 → ig s'.ix x ≠ 0) := fun t' e h1 h2 h3 h4 => by
      obtain ⟨n, s', g1, g2, g3⟩ := walk_ends m t' h1 h2 h3
      exact ⟨n + 1, s', by rw [runT, e]; exact g1, g2, fun x hx h0 => g3 x hx (h4 x hx h0)⟩
    cases hb : (nx t.v)[t.k]? with
    | some b =>
      have hlt := (List.getElem?_eq_some_iff.1 hb).1
      have hbn := hnx _ b (List.mem_of_getElem? hb)
      by_cases h0 : ig t.s.ix b = 0
      · refine hstep ⟨enterT t.s b, t.W ++ [(t.v, t.k + 1)], b, 0⟩ (by rw [stpT, hb]; simp only [if_pos h0]) (h.enter hnx hb h0) (cc_enter h.lx hbn h0 hc) ?_ fun x hx h1 => ?_
        · have h2 := cc_enter h.lx hbn h0 hc
          have hct : (enterT t.s b).ct = t.s.ct + 1 := rfl
          have h3 : (enterT t.s b).ix.count 0 + 1 = t.s.ix.count 0 := by omega
          rw [← h3, Nat.add_mul] at hm
          have hb2 := hC b
          have hw : wsum nx (t.W ++ [(t.v, t.k + 1)]) = wsum nx t.W + ((nx t.v).length - (t.k + 1) + 1) := by simp [wsum]
          dsimp only
          rw [hw]
          omega
        · show ig (t.s.ix.set _ _) x ≠ 0
          rw [ig_set h.lx hbn _ hx]
          split
          · omega
          · exact h1
      · refine hstep ⟨bif bget t.s.on b then lowT t.s t.v (ig t.s.ix b) else t.s, t.W, t.v, t.k + 1⟩ (by rw [stpT, hb]; simp only [if_neg h0]; cases bget t.s.on b <;> rfl) (h.edge hnx hb h0) (by cases bget t.s.on b <;> exact hc) ?_ (by cases bget t.s.on b <;> exact fun x _ h => h)
        have e : (bif bget t.s.on b then lowT t.s t.v (ig t.s.ix b) else t.s).ix = t.s.ix := by cases bget t.s.on b <;> rfl
        dsimp only
        rw [e]
        omega
    | none =>
      rcases List.eq_nil_or_concat t.W with hW | ⟨W1, ⟨u, j⟩, hW⟩
      · obtain ⟨g1, g2, g3, g4, g5, g6, g7, g8⟩ := h.last hnx hb hW
        refine ⟨1, leaveT t.s t.v, by rw [runT, stpT, hb, hW]; rfl, ⟨by rw [g3]; exact h.lx, by rw [g4]; exact h.ll, g5, g1, by rw [g3]; exact g7, g6, by rw [g3, g8]; exact hc, g2⟩, fun x _ h => by rw [g3]; exact h⟩
      · rw [List.concat_eq_append] at hW
        obtain ⟨q1, q2, q3⟩ := leave_ix t.s t.v
        refine hstep ⟨lowT (leaveT t.s t.v) u (ig (leaveT t.s t.v).lo t.v), W1, u, j⟩ (by rw [stpT, hb, hW]; simp) ?_ (by show (leaveT t.s t.v).ct + (leaveT t.s t.v).ix.count 0 = N; rw [q1, q3]; exact hc) ?_ fun x _ h => by
          show ig (leaveT t.s t.v).ix x ≠ 0
          rw [q1]; exact h
        · rw [q2]
          by_cases he : ig t.s.lo t.v = ig t.s.ix t.v
          · exact h.root hnx hb hW he
          · have := h.done hnx hb hW he
            rw [leaveT, if_neg he]
            exact this
        · have hw : wsum nx t.W = wsum nx W1 + ((nx u).length - j + 1) := by rw [hW]; simp [wsum]
          show (leaveT t.s t.v).ix.count 0 * (C + 3) + wsum nx W1 + ((nx u).length - j + 1) ≤ m
          rw [q1]
          omega
end
end Go.Proofs
end
section
namespace Go.Proofs
open Go.Sy
set_option maxRecDepth 20000
set_option maxHeartbeats 4000000
theorem iRows_at {L : List Int} {x : Int} (h0 : 0 ≤ x) (h : x < L.length) : (iRows L)[x.toNat]? = some [.int .i64 (ig L x)] := by
  have : x.toNat < L.length := by omega
  rw [List.getElem?_map, ig, List.getElem?_eq_getElem this]; rfl
theorem iRows_len (L : List Int) : (iRows L).length = L.length := List.length_map _
theorem enter_own {css pcss : List (List Value)} {s : TS} {b : Int} (hl : s.lo.length = s.ix.length) (ho : s.on.length = s.ix.length) (hs : s.st.length ≤ 1000000) (hc : s.ct ≤ 1000000) (hb : nodeI s.ix.length b = true) {H : Hp} {K : SV → St → Hp → Prop}
    (hK : K (.agg [.v (.int .i64 b), .v (.int .i64 0)]) ⟨[], [(0, .cells 84 [.own 1, .own 2, .own 3, .own 4, .own 7, .v (.int .i64 ((s.ct + 1 : Nat) : Int)), .own 5]), (1, .row 27 1 css), (2, .row 3 1 (iRows (enterT s b).ix)), (3, .row 3 1 (iRows (enterT s b).lo)), (4, .row 4 1 (bRows (enterT s b).on)), (5, .row 27 1 pcss), (7, .row 3 1 (iRows (enterT s b).st))], 8⟩ H) :
    DoesG Try.prog 98 [.ptr 0 0, .v (.int .i64 b)] [(0, .cells 84 [.own 1, .own 2, .own 3, .own 4, .own 6, .v (.int .i64 s.ct), .own 5]), (1, .row 27 1 css), (2, .row 3 1 (iRows s.ix)), (3, .row 3 1 (iRows s.lo)), (4, .row 4 1 (bRows s.on)), (5, .row 27 1 pcss), (6, .row 3 1 (iRows s.st))] 7 H K := by
  have hb2 := dt hb
  have hlx := iRows_len s.ix
  have hll := iRows_len s.lo
  have hlo := bRows_len s.on
  refine spec_ofG cx_ok cx_mix Try.func98 Try.call98 Try.ntmps98 Try.results98 rfl rfl ?_
  refine ⟨⟨by omega, by omega⟩, ?_⟩
  refine ⟨some ([2, 3, 4], [0, 1, 2, 3, 4, 5, 6, 7, 8, 9, 10, 11, 12, 13, 14, 15, 16, 17, 18, 19, 20, 21, 22, 23, 24, 25, 26, 27, 28]), by kernel_rfl, ?_⟩
  refine ⟨⟨by omega, by omega⟩, ?_⟩
  refine ⟨_, iRows_at (L := s.ix) hb2.1 hb2.2, ?_⟩
  refine ⟨⟨by omega, by omega⟩, ?_⟩
  refine ⟨_, iRows_at (L := s.lo) hb2.1 (by omega), ?_⟩
  refine ⟨⟨by omega, by omega⟩, ?_⟩
  refine ⟨_, bRows_get (M := s.on) hb2.1 (by omega), ?_⟩
  refine ⟨room (n := (iRows s.st).length) (by rw [iRows_len]; omega), ?_⟩
  have e1 : (iRows s.ix).set b.toNat [.int .i64 ((s.ct : Int) + 1)] = iRows (enterT s b).ix := iRows_set _ _ _
  have e2 : (iRows s.lo).set b.toNat [.int .i64 ((s.ct : Int) + 1)] = iRows (enterT s b).lo := iRows_set _ _ _
  have e3 : (bRows s.on).set b.toNat [.bool true] = bRows (enterT s b).on := bRows_set _ _ _
  have e4 : iRows s.st ++ [[.int .i64 b]] = iRows (enterT s b).st := by show _ = iRows (s.st ++ [b]); simp
  exact ⟨.agg [.v (.int .i64 b), .v (.int .i64 0)], [(0, .cells 84 [.own 1, .own 2, .own 3, .own 4, .own 7, .v (.int .i64 ((s.ct + 1 : Nat) : Int)), .own 5]), (1, .row 27 1 css), (2, .row 3 1 (iRows (enterT s b).ix)), (3, .row 3 1 (iRows (enterT s b).lo)), (4, .row 4 1 (bRows (enterT s b).on)), (5, .row 27 1 pcss), (7, .row 3 1 (iRows (enterT s b).st))], 8, [(0, 0), (1, 1), (2, 2), (3, 3), (4, 4), (5, 5), (7, 9)], by (repeat' (first | exact trivial | refine ⟨?_, ?_⟩ | exact rfl | assumption)), hK⟩
theorem enter_frz {css pcss : List (List Value)} {s : TS} {b : Int} {ad : Addr} {n : Nat} (hl : s.lo.length = s.ix.length) (ho : s.on.length = s.ix.length) (hs : s.st.length ≤ 1000000) (hc : s.ct ≤ 1000000) (hb : nodeI s.ix.length b = true) {H : Hp} {K : SV → St → Hp → Prop}
    (hr : RowAt H (.slice (some ad) n n) 1 (iRows s.st))
    (hK : K (.agg [.v (.int .i64 b), .v (.int .i64 0)]) ⟨[], [(0, .cells 84 [.own 1, .own 2, .own 3, .own 4, .own 6, .v (.int .i64 ((s.ct + 1 : Nat) : Int)), .own 5]), (1, .row 27 1 css), (2, .row 3 1 (iRows (enterT s b).ix)), (3, .row 3 1 (iRows (enterT s b).lo)), (4, .row 4 1 (bRows (enterT s b).on)), (5, .row 27 1 pcss), (6, .row 3 1 (iRows (enterT s b).st))], 7⟩ H) :
    DoesG Try.prog 98 [.ptr 0 0, .v (.int .i64 b)] [(0, .cells 84 [.own 1, .own 2, .own 3, .own 4, .v (.slice (some ad) n n), .v (.int .i64 s.ct), .own 5]), (1, .row 27 1 css), (2, .row 3 1 (iRows s.ix)), (3, .row 3 1 (iRows s.lo)), (4, .row 4 1 (bRows s.on)), (5, .row 27 1 pcss)] 6 H K := by
  have hb2 := dt hb
  have hlx := iRows_len s.ix
  have hll := iRows_len s.lo
  have hlo := bRows_len s.on
  refine spec_ofG cx_ok cx_mix Try.func98 Try.call98 Try.ntmps98 Try.results98 rfl rfl ?_
  refine ⟨⟨by omega, by omega⟩, ?_⟩
  refine ⟨some ([2, 3, 4], [0, 1, 2, 3, 4, 5, 6, 7, 8, 9, 10, 11, 12, 13, 14, 15, 16, 17, 18, 19, 20, 21, 22, 23, 24, 25, 26, 27, 28]), by kernel_rfl, ?_⟩
  refine ⟨⟨by omega, by omega⟩, ?_⟩
  refine ⟨_, iRows_at (L := s.ix) hb2.1 hb2.2, ?_⟩
  refine ⟨⟨by omega, by omega⟩, ?_⟩
  refine ⟨_, iRows_at (L := s.lo) hb2.1 (by omega), ?_⟩
  refine ⟨⟨by omega, by omega⟩, ?_⟩
  refine ⟨_, bRows_get (M := s.on) hb2.1 (by omega), ?_⟩
  refine ⟨iRows s.st, ⟨hr, rfl, by show 0 < 1; omega, by show ((iRows s.st).length + 1) * 8 ≤ _; rw [iRows_len]; omega, by show (iRows s.st).length + 1 ≤ _; rw [iRows_len]; omega⟩, ?_⟩
  have e1 : (iRows s.ix).set b.toNat [.int .i64 ((s.ct : Int) + 1)] = iRows (enterT s b).ix := iRows_set _ _ _
  have e2 : (iRows s.lo).set b.toNat [.int .i64 ((s.ct : Int) + 1)] = iRows (enterT s b).lo := iRows_set _ _ _
  have e3 : (bRows s.on).set b.toNat [.bool true] = bRows (enterT s b).on := bRows_set _ _ _
  have e4 : iRows s.st ++ [[.int .i64 b]] = iRows (enterT s b).st := by show _ = iRows (s.st ++ [b]); simp
  exact ⟨.agg [.v (.int .i64 b), .v (.int .i64 0)], [(0, .cells 84 [.own 1, .own 2, .own 3, .own 4, .own 6, .v (.int .i64 ((s.ct + 1 : Nat) : Int)), .own 5]), (1, .row 27 1 css), (2, .row 3 1 (iRows (enterT s b).ix)), (3, .row 3 1 (iRows (enterT s b).lo)), (4, .row 4 1 (bRows (enterT s b).on)), (5, .row 27 1 pcss), (6, .row 3 1 (iRows (enterT s b).st))], 7, [(0, 0), (1, 1), (2, 2), (3, 3), (4, 4), (5, 5), (6, 8)], by (repeat' (first | exact trivial | refine ⟨?_, ?_⟩ | exact rfl | assumption)), hK⟩
theorem enter_nil {css pcss : List (List Value)} {s : TS} {b : Int} (hl : s.lo.length = s.ix.length) (ho : s.on.length = s.ix.length) (hs : s.st = []) (hc : s.ct ≤ 1000000) (hb : nodeI s.ix.length b = true) {H : Hp} {K : SV → St → Hp → Prop}
    (hK : K (.agg [.v (.int .i64 b), .v (.int .i64 0)]) ⟨[], [(0, .cells 84 [.own 1, .own 2, .own 3, .own 4, .own 6, .v (.int .i64 ((s.ct + 1 : Nat) : Int)), .own 5]), (1, .row 27 1 css), (2, .row 3 1 (iRows (enterT s b).ix)), (3, .row 3 1 (iRows (enterT s b).lo)), (4, .row 4 1 (bRows (enterT s b).on)), (5, .row 27 1 pcss), (6, .row 3 1 (iRows (enterT s b).st))], 7⟩ H) :
    DoesG Try.prog 98 [.ptr 0 0, .v (.int .i64 b)] [(0, .cells 84 [.own 1, .own 2, .own 3, .own 4, .v (.slice none 0 0), .v (.int .i64 s.ct), .own 5]), (1, .row 27 1 css), (2, .row 3 1 (iRows s.ix)), (3, .row 3 1 (iRows s.lo)), (4, .row 4 1 (bRows s.on)), (5, .row 27 1 pcss)] 6 H K := by
  have e5 : [[Value.int .i64 b]] = iRows (enterT s b).st := by show _ = iRows (s.st ++ [b]); rw [hs]; simp
  have hb2 := dt hb
  have hlx := iRows_len s.ix
  have hll := iRows_len s.lo
  have hlo := bRows_len s.on
  refine spec_ofG cx_ok cx_mix Try.func98 Try.call98 Try.ntmps98 Try.results98 rfl rfl ?_
  refine ⟨⟨by omega, by omega⟩, ?_⟩
  refine ⟨some ([2, 3, 4], [0, 1, 2, 3, 4, 5, 6, 7, 8, 9, 10, 11, 12, 13, 14, 15, 16, 17, 18, 19, 20, 21, 22, 23, 24, 25, 26, 27, 28]), by kernel_rfl, ?_⟩
  refine ⟨⟨by omega, by omega⟩, ?_⟩
  refine ⟨_, iRows_at (L := s.ix) hb2.1 hb2.2, ?_⟩
  refine ⟨⟨by omega, by omega⟩, ?_⟩
  refine ⟨_, iRows_at (L := s.lo) hb2.1 (by omega), ?_⟩
  refine ⟨⟨by omega, by omega⟩, ?_⟩
  refine ⟨_, bRows_get (M := s.on) hb2.1 (by omega), ?_⟩
  refine ⟨⟨by show 1 * 8 ≤ _; omega, by show 1 ≤ _; omega⟩, ?_⟩
  have e1 : (iRows s.ix).set b.toNat [.int .i64 ((s.ct : Int) + 1)] = iRows (enterT s b).ix := iRows_set _ _ _
  have e2 : (iRows s.lo).set b.toNat [.int .i64 ((s.ct : Int) + 1)] = iRows (enterT s b).lo := iRows_set _ _ _
  have e3 : (bRows s.on).set b.toNat [.bool true] = bRows (enterT s b).on := bRows_set _ _ _
  have e4 : iRows s.st ++ [[.int .i64 b]] = iRows (enterT s b).st := by show _ = iRows (s.st ++ [b]); simp
  exact ⟨.agg [.v (.int .i64 b), .v (.int .i64 0)], [(0, .cells 84 [.own 1, .own 2, .own 3, .own 4, .own 6, .v (.int .i64 ((s.ct + 1 : Nat) : Int)), .own 5]), (1, .row 27 1 css), (2, .row 3 1 (iRows (enterT s b).ix)), (3, .row 3 1 (iRows (enterT s b).lo)), (4, .row 4 1 (bRows (enterT s b).on)), (5, .row 27 1 pcss), (6, .row 3 1 (iRows (enterT s b).st))], 7, [(0, 0), (1, 1), (2, 2), (3, 3), (4, 4), (5, 5), (6, 8)], by (repeat' (first | exact trivial | refine ⟨?_, ?_⟩ | exact rfl | assumption)), hK⟩
theorem enter_idle {css pcss : List (List Value)} {s : TS} {b : Int} {a : Option Addr} (hl : s.lo.length = s.ix.length) (ho : s.on.length = s.ix.length) (hs : s.st = []) (hc : s.ct ≤ 1000000) (hb : nodeI s.ix.length b = true) {H : Hp} {K : SV → St → Hp → Prop}
    (hr : RowAt H (.slice a 0 0) 1 [])
    (hK : K (.agg [.v (.int .i64 b), .v (.int .i64 0)]) ⟨[], [(0, .cells 84 [.own 1, .own 2, .own 3, .own 4, .own 6, .v (.int .i64 ((s.ct + 1 : Nat) : Int)), .own 5]), (1, .row 27 1 css), (2, .row 3 1 (iRows (enterT s b).ix)), (3, .row 3 1 (iRows (enterT s b).lo)), (4, .row 4 1 (bRows (enterT s b).on)), (5, .row 27 1 pcss), (6, .row 3 1 (iRows (enterT s b).st))], 7⟩ H) :
    DoesG Try.prog 98 [.ptr 0 0, .v (.int .i64 b)] [(0, .cells 84 [.own 1, .own 2, .own 3, .own 4, .v (.slice a 0 0), .v (.int .i64 s.ct), .own 5]), (1, .row 27 1 css), (2, .row 3 1 (iRows s.ix)), (3, .row 3 1 (iRows s.lo)), (4, .row 4 1 (bRows s.on)), (5, .row 27 1 pcss)] 6 H K := by
  cases a with
  | none => exact enter_nil hl ho hs hc hb hK
  | some ad => exact enter_frz hl ho (by rw [hs]; simp) hc hb (by rw [hs]; exact hr) hK
/-! slices.Index, slices.Clone of a piece. -/
theorem index_own {st : List Int} {v : Int} (hs : st.length ≤ 1000000) (hv : v ∈ st) {H : Hp} {K : SV → St → Hp → Prop} (hK : K (.v (.int .i64 ((st.idxOf v : Nat) : Int))) ⟨[], [(0, .row 3 1 (iRows st))], 1⟩ H) : DoesG Try.prog 120 [.own 0, .v (.int .i64 v)] [(0, .row 3 1 (iRows st))] 1 H K := by
  obtain ⟨A, B, hst, hvA, hta, hdr⟩ := idxOf_split hv
  have hlt := List.idxOf_lt_length_of_mem hv
  have hel := iRows_len st
  have hno : ∀ i, (h : i < st.length) → i < st.idxOf v → st[i] ≠ v := fun i hi h e => by
    have : st[i] ∈ A := by rw [← hta]; exact List.mem_iff_getElem.2 ⟨i, by rw [List.length_take]; omega, by rw [List.getElem_take]⟩
    exact hvA (e ▸ this)
  refine spec_ofG cx_ok cx_mix Try.func120 Try.call120 Try.ntmps120 Try.results120 rfl rfl ?_
  refine ⟨Nat, fun i => ⟨[(0, .own 0), (1, .v (.int .i64 v)), (7, .v (.int .i64 st.length)), (8, .v (.int .i64 i))], [(0, .row 3 1 (iRows st))], 1⟩,
    fun i H' => H' = H ∧ i ≤ st.idxOf v, fun i => st.length - i, ⟨0, [(0, 0)], ?_, rfl, Nat.zero_le _⟩, ?_⟩
  · have e7 : SV.v (.int .i64 ((iRows st).length : Nat)) = SV.v (.int .i64 (st.length : Nat)) := by rw [hel]
    (repeat' (first | exact trivial | refine ⟨?_, ?_⟩ | exact rfl | assumption))
  rintro i H1 _ ⟨rfl, hi⟩
  refine ⟨fun h => ?_, fun h => ?_⟩
  · have hli : i < st.length := by omega
    refine ⟨⟨by omega, by omega⟩, ?_⟩
    have hgi : (iRows st)[((i : Int)).toNat]? = some [.int .i64 st[i]] := by rw [Int.toNat_natCast]; exact iRows_get hli
    refine ⟨_, hgi, ?_⟩
    refine ⟨fun h => ?_, fun h => ?_⟩
    · have h1 : v = st[i] := dt h
      have h2 : i = st.idxOf v := by
        by_cases e : i < st.idxOf v
        · exact absurd h1.symm (hno i hli e)
        · omega
      rw [← h2] at hK
      exact ⟨.v (.int .i64 (i : Int)), [(0, .row 3 1 (iRows st))], 1, [(0, 0)], by (repeat' (first | exact trivial | refine ⟨?_, ?_⟩ | exact rfl | assumption)), hK⟩
    · have h1 : ¬ v = st[i] := df h
      have h2 : i ≠ st.idxOf v := fun e => h1 (by simp only [e]; exact (List.getElem_idxOf hlt).symm)
      refine ⟨⟨by omega, by omega⟩, i + 1, [(0, 0)], ?_, ⟨rfl, by omega⟩, by dsimp only; omega⟩
      (repeat' (first | exact trivial | refine ⟨?_, ?_⟩ | exact rfl | assumption))
  · have : ¬ i < st.length := by have := df h; omega
    omega
theorem index_frz {st : List Int} {v : Int} {a : Option Addr} {n c : Nat} (hs : st.length ≤ 1000000) (hv : v ∈ st) {H : Hp} {K : SV → St → Hp → Prop} (ha : RL H a n c st) (hK : K (.v (.int .i64 ((st.idxOf v : Nat) : Int))) ⟨[], [], 0⟩ H) : DoesG Try.prog 120 [.v (.slice a n c), .v (.int .i64 v)] [] 0 H K := by
  obtain ⟨A, B, hst, hvA, hta, hdr⟩ := idxOf_split hv
  have hlt := List.idxOf_lt_length_of_mem hv
  have hn := ha.n_eq
  have hno : ∀ i, (h : i < st.length) → i < st.idxOf v → st[i] ≠ v := fun i hi h e => by
    have : st[i] ∈ A := by rw [← hta]; exact List.mem_iff_getElem.2 ⟨i, by rw [List.length_take]; omega, by rw [List.getElem_take]⟩
    exact hvA (e ▸ this)
  refine spec_ofG cx_ok cx_mix Try.func120 Try.call120 Try.ntmps120 Try.results120 rfl rfl ?_
  refine ⟨Nat, fun i => ⟨[(0, .v (.slice a n c)), (1, .v (.int .i64 v)), (7, .v (.int .i64 n)), (8, .v (.int .i64 i))], [], 0⟩,
    fun i H' => H' = H ∧ i ≤ st.idxOf v, fun i => st.length - i, ⟨0, [], ?_, rfl, Nat.zero_le _⟩, ?_⟩
  · (repeat' (first | exact trivial | refine ⟨?_, ?_⟩ | exact rfl | assumption))
  rintro i H1 _ ⟨rfl, hi⟩
  refine ⟨fun h => ?_, fun h => ?_⟩
  · have hli : i < st.length := by omega
    obtain ⟨ad, cs, q1, hh, r1⟩ := ha.elem (List.getElem?_eq_getElem hli)
    obtain ⟨rfl, -⟩ := r1
    refine ⟨ad, ⟨by omega, by omega, q1⟩, ?_⟩
    refine ⟨_, hh, ?_⟩
    refine ⟨fun h => ?_, fun h => ?_⟩
    · have h1 : v = st[i] := dt h
      have h2 : i = st.idxOf v := by
        by_cases e : i < st.idxOf v
        · exact absurd h1.symm (hno i hli e)
        · omega
      rw [← h2] at hK
      exact ⟨.v (.int .i64 (i : Int)), [], 0, [], by (repeat' (first | exact trivial | refine ⟨?_, ?_⟩ | exact rfl | assumption)), hK⟩
    · have h1 : ¬ v = st[i] := df h
      have h2 : i ≠ st.idxOf v := fun e => h1 (by simp only [e]; exact (List.getElem_idxOf hlt).symm)
      refine ⟨⟨by omega, by omega⟩, i + 1, [], ?_, ⟨rfl, by omega⟩, by dsimp only; omega⟩
      (repeat' (first | exact trivial | refine ⟨?_, ?_⟩ | exact rfl | assumption))
  · have : ¬ i < st.length := by have := df h; omega
    omega
/-- A copy of a piece. -/
theorem cloneS_spec {l : List Int} {lo n : Nat} (hn : lo + n ≤ l.length) (hl : l.length ≤ 1000000) {H : Hp} {K : SV → St → Hp → Prop} (hK : K (.own 1) ⟨[], [(0, .row 3 1 (iRows l)), (1, .row 3 1 (iRows ((l.drop lo).take n)))], 2⟩ H) :
    DoesG Try.prog 66 [.sub 0 1 lo n] [(0, .row 3 1 (iRows l))] 1 H K := by
  have hel := iRows_len l
  refine spec_ofG cx_ok cx_mix Try.func66 Try.call66 Try.ntmps66 Try.results66 rfl rfl ?_
  refine .inl ?_
  refine ⟨by rw [hel]; exact hn, fun b hb => ?_⟩
  refine ⟨fun h => ?_, fun h => ?_⟩
  · have h0 := hb h
    subst h0
    exact ⟨.own 1, [(0, .row 3 1 (iRows l)), (1, .row 3 1 (iRows ((l.drop lo).take 0)))], 2, [(0, 0)], ⟨⟨⟨rfl, rfl, rfl⟩, trivial⟩, ⟨rfl, rfl, trivial⟩⟩, hK⟩
  · refine .inl ?_
    refine ⟨by rw [hel]; exact hn, ?_⟩
    have e1 : ((iRows l).drop lo).take n = iRows ((l.drop lo).take n) := by simp [List.map_take, List.map_drop]
    refine ⟨⟨by show (0 + (((iRows l).drop lo).take n).length) * 8 ≤ _; rw [e1, iRows_len, List.length_take, List.length_drop]; omega, by show 0 + (((iRows l).drop lo).take n).length ≤ _; rw [e1, iRows_len, List.length_take, List.length_drop]; omega⟩, ?_⟩
    have e2 : [] ++ ((iRows l).drop lo).take n = iRows ((l.drop lo).take n) := e1
    exact ⟨.own 1, [(0, .row 3 1 (iRows l)), (1, .row 3 1 (iRows ((l.drop lo).take n)))], 2, [(0, 0), (1, 2)], by (repeat' (first | exact trivial | refine ⟨?_, ?_⟩ | exact rfl | assumption)), hK⟩
end Go.Proofs
end
section
namespace Go.Proofs
open Go.Sy
set_option maxRecDepth 20000
set_option maxHeartbeats 4000000
theorem _root_.Go.Sy.RowAt.up {H H' : Hp} {v : Value} {sz : Nat} {xs : List (List Value)} (h : RowAt H v sz xs) (hle : Le H H') : RowAt H' v sz xs := by
  obtain ⟨a, cap, h1, h2, h3, h4⟩ := h
  refine ⟨a, cap, h1, h2, h3, ?_⟩
  rcases h4 with h4 | ⟨ad, g1, g2, c, T, fr, g3, g4⟩
  · exact .inl h4
  · exact .inr ⟨ad, g1, g2, c, T, fr, hle _ _ g3, g4⟩
theorem leave_own {css pcss : List (List Value)} {s : TS} {v : Int} (hl : s.lo.length = s.ix.length) (ho : s.on.length = s.ix.length) (hs : s.st.length ≤ 1000000) (hp : pcss.length ≤ 1000000) (hsn : ∀ x ∈ s.st, nodeI s.ix.length x = true) (hnd : s.st.Nodup) (hvs : v ∈ s.st) (hN : s.ix.length ≤ 1000) {H : Hp} {K : SV → St → Hp → Prop}
    (hK1 : ig s.lo v ≠ ig s.ix v → K (.tup []) ⟨[], [(0, .cells 84 [.own 1, .own 2, .own 3, .own 4, .own 6, .v (.int .i64 s.ct), .own 5]), (1, .row 27 1 css), (2, .row 3 1 (iRows s.ix)), (3, .row 3 1 (iRows s.lo)), (4, .row 4 1 (bRows s.on)), (5, .row 27 1 pcss), (6, .row 3 1 (iRows s.st))], 7⟩ H)
    (hK2 : ig s.lo v = ig s.ix v → ∀ a x H', Le H H' → RowAt H' (.slice a (s.st.idxOf v) (s.st.idxOf v)) 1 (iRows (s.st.take (s.st.idxOf v))) → Enc.R H' [x] (gSort (s.st.drop (s.st.idxOf v))) → LeN 3 1 (iRows (gSort (s.st.drop (s.st.idxOf v)))) H x H' →
      K (.tup []) ⟨[], [(0, .cells 84 [.own 1, .own 2, .own 3, .own 4, .v (.slice a (s.st.idxOf v) (s.st.idxOf v)), .v (.int .i64 s.ct), .own 7]), (1, .row 27 1 css), (2, .row 3 1 (iRows s.ix)), (3, .row 3 1 (iRows s.lo)), (4, .row 4 1 (bRows (clearM s.on (s.st.drop (s.st.idxOf v))))), (7, .row 27 1 (pcss ++ [[x]]))], 8⟩ H') :
    DoesG Try.prog 99 [.ptr 0 0, .v (.int .i64 v)] [(0, .cells 84 [.own 1, .own 2, .own 3, .own 4, .own 6, .v (.int .i64 s.ct), .own 5]), (1, .row 27 1 css), (2, .row 3 1 (iRows s.ix)), (3, .row 3 1 (iRows s.lo)), (4, .row 4 1 (bRows s.on)), (5, .row 27 1 pcss), (6, .row 3 1 (iRows s.st))] 7 H K := by
  have hv2 := dt (hsn v hvs)
  have hlx := iRows_len s.ix
  have hll := iRows_len s.lo
  have hlo := bRows_len s.on
  have hls := iRows_len s.st
  have hlt := List.idxOf_lt_length_of_mem hvs
  refine spec_ofG cx_ok cx_mix Try.func99 Try.call99 Try.ntmps99 Try.results99 rfl rfl ?_
  refine ⟨some ([], [0, 1, 2, 3, 4, 5, 6, 7, 8, 9, 10, 11, 12, 13, 14]), by kernel_rfl, ?_⟩
  refine ⟨⟨by omega, by omega⟩, ?_⟩
  refine ⟨_, iRows_at (L := s.lo) hv2.1 (by omega), ?_⟩
  refine ⟨⟨by omega, by omega⟩, ?_⟩
  refine ⟨_, iRows_at (L := s.ix) hv2.1 (by omega), ?_⟩
  refine ⟨fun h => ?_, fun h => ?_⟩
  · have h1 := nt h
    exact ⟨.tup [], [(0, .cells 84 [.own 1, .own 2, .own 3, .own 4, .own 6, .v (.int .i64 s.ct), .own 5]), (1, .row 27 1 css), (2, .row 3 1 (iRows s.ix)), (3, .row 3 1 (iRows s.lo)), (4, .row 4 1 (bRows s.on)), (5, .row 27 1 pcss), (6, .row 3 1 (iRows s.st))], 7, [(0, 0), (1, 1), (2, 2), (3, 3), (4, 4), (5, 5), (6, 6)], by (repeat' (first | exact trivial | refine ⟨?_, ?_⟩ | exact rfl | assumption)), hK1 h1⟩
  · have h1 := nf h
    have hK2 := hK2 h1
    refine ⟨[6], rfl, index_own hs hvs ?_⟩
    have hcl : ((s.st.drop (s.st.idxOf v)).take ((iRows s.st).length - s.st.idxOf v)) = s.st.drop (s.st.idxOf v) := List.take_of_length_le (by rw [List.length_drop, hls]; exact Nat.le_refl _)
    obtain ⟨P, hP⟩ : ∃ P, P = s.st.drop (s.st.idxOf v) := ⟨_, rfl⟩
    have hPn : P.Nodup := by rw [hP]; exact hnd.sublist (List.drop_sublist _ _)
    have hPs : ∀ x ∈ P, nodeI s.ix.length x = true := fun x hx => hsn x (List.mem_of_mem_drop (hP ▸ hx))
    have hPl : P.length ≤ 1000000 := by rw [hP, List.length_drop]; omega
    have hPe : (iRows P).length = P.length := iRows_len P
    refine .inr ⟨⟨by omega, by rw [hls]; omega, by rw [hls]; omega⟩, ?_⟩
    refine ⟨[6], rfl, cloneS_spec (l := s.st) (lo := s.st.idxOf v) (n := (iRows s.st).length - s.st.idxOf v) (by rw [hls]; omega) hs ?_⟩
    rw [hcl, ← hP]
    rw [← hP] at hK2
    refine .inl ⟨⟨by omega, by omega, by omega, by rw [hls]; omega⟩, ?_⟩
    intro a y H1 hle1 hry hra
    refine ⟨Nat × List Bool, fun q => ⟨[(0, .ptr 0 0), (5, .own 7), (46, .own 7), (47, .v (.int .i64 P.length)), (48, .v (.int .i64 q.1))],
      [(0, .cells 84 [.own 1, .own 2, .own 3, .own 4, .v (.slice a (s.st.idxOf v) (s.st.idxOf v)), .v (.int .i64 s.ct), .own 5]), (1, .row 27 1 css), (2, .row 3 1 (iRows s.ix)), (3, .row 3 1 (iRows s.lo)), (4, .row 4 1 (bRows q.2)), (5, .row 27 1 pcss), (7, .row 3 1 (iRows P))], 8⟩,
      fun q H' => H' = H1 ∧ q.1 ≤ P.length ∧ q.2 = clearM s.on (P.take q.1), fun q => P.length - q.1, ⟨(0, s.on), [(0, 0), (1, 1), (2, 2), (3, 3), (4, 4), (5, 5), (7, 7)], ?_, rfl, Nat.zero_le _, rfl⟩, ?_⟩
    · have e47 : SV.v (.int .i64 ((iRows P).length : Nat)) = SV.v (.int .i64 (P.length : Nat)) := by rw [hPe]
      (repeat' (first | exact trivial | refine ⟨?_, ?_⟩ | exact rfl | assumption))
    rintro ⟨j, M⟩ H2 _ ⟨rfl, hj, hM⟩
    dsimp only at hj hM
    have hlM : M.length = s.ix.length := by rw [hM, clearM_len, ho]
    refine ⟨fun h => ?_, fun h => ?_⟩
    · have hlt2 : j < P.length := by have := dt h; dsimp only at this; omega
      have hbn := dt (hPs _ (List.getElem_mem hlt2))
      have hgj : (iRows P)[((j : Int)).toNat]? = some [.int .i64 P[j]] := by rw [Int.toNat_natCast]; exact iRows_get hlt2
      refine ⟨⟨by dsimp only; omega, by dsimp only; omega⟩, ?_⟩
      refine ⟨_, hgj, ?_⟩
      refine ⟨⟨by omega, by rw [bRows_len]; dsimp only; omega⟩, ?_⟩
      refine ⟨_, bRows_get (M := M) hbn.1 (by omega), ?_⟩
      have e1 : (bRows M).set P[j].toNat [.bool false] = bRows (M.set P[j].toNat false) := bRows_set _ _ _
      refine ⟨⟨by (try dsimp only); omega, by (try dsimp only); omega⟩, (j + 1, M.set P[j].toNat false), [(0, 0), (1, 1), (2, 2), (3, 3), (4, 4), (5, 5), (7, 7)], ?_, ⟨rfl, by dsimp only; omega, ?_⟩, by dsimp only; omega⟩
      · (repeat' (first | exact trivial | refine ⟨?_, ?_⟩ | exact rfl | assumption))
      · dsimp only
        rw [hM, clearM, clearM, take_step _ _ (List.getElem?_eq_getElem hlt2)]
    · have hjl : j = P.length := by have := df h; dsimp only at this; omega
      rw [hjl, List.take_length] at hM
      refine ⟨[7], rfl, sortI_spec (by omega) fun l' hl' hp' hg => ?_⟩
      rw [gComp_nodup (hp'.nodup_iff.2 hPn)] at hg
      subst hg
      intro x H3 hle3 hx
      have hin : ∀ z ∈ gSort P, inI z := fun z hz => by
        have := dt (hPs z ((gSort_mem _ z).1 hz))
        exact ⟨by omega, by omega⟩
      obtain ⟨a3, n3, c3, rfl, hr3⟩ := rI_all hx hin
      refine ⟨room (n := pcss.length), ?_⟩
      have e2 : bRows M = bRows (clearM s.on P) := by rw [hM]
      have e3 : pcss ++ [[.slice a3 n3 c3]] = pcss ++ [[.slice a3 n3 c3]] := rfl
      have hra' : RowAt H3 (.slice a (s.st.idxOf v) (s.st.idxOf v)) 1 (iRows (s.st.take (s.st.idxOf v))) := by
        have h4 : RowAt H2 (.slice a (s.st.idxOf v) (s.st.idxOf v)) 1 ((iRows s.st).take (s.st.idxOf v)) := hra
        have h5 : (iRows s.st).take (s.st.idxOf v) = iRows (s.st.take (s.st.idxOf v)) := by simp [List.map_take]
        rw [h5] at h4
        exact h4.up hle3
      exact ⟨.tup [], [(0, .cells 84 [.own 1, .own 2, .own 3, .own 4, .v (.slice a (s.st.idxOf v) (s.st.idxOf v)), .v (.int .i64 s.ct), .own 7]), (1, .row 27 1 css), (2, .row 3 1 (iRows s.ix)), (3, .row 3 1 (iRows s.lo)), (4, .row 4 1 (bRows (clearM s.on P))), (7, .row 27 1 (pcss ++ [[.slice a3 n3 c3]]))], 8, [(0, 0), (1, 1), (2, 2), (3, 3), (4, 4), (7, 9)], by (repeat' (first | exact trivial | refine ⟨?_, ?_⟩ | exact rfl | assumption)), hK2 a (.slice a3 n3 c3) H3 (hle1.trans hle3.le) hra' ⟨a3, n3, c3, rfl, hr3⟩ (LeN.base hle1 hle3)⟩
theorem leave_frz {ad : Addr} {n : Nat} {css pcss : List (List Value)} {s : TS} {v : Int} (hl : s.lo.length = s.ix.length) (ho : s.on.length = s.ix.length) (hs : s.st.length ≤ 1000000) (hp : pcss.length ≤ 1000000) (hsn : ∀ x ∈ s.st, nodeI s.ix.length x = true) (hnd : s.st.Nodup) (hvs : v ∈ s.st) (hN : s.ix.length ≤ 1000) {H : Hp} {K : SV → St → Hp → Prop} (hfz : RowAt H (.slice (some ad) n n) 1 (iRows s.st)) (hrl : RL H (some ad) n n s.st)
    (hK1 : ig s.lo v ≠ ig s.ix v → K (.tup []) ⟨[], [(0, .cells 84 [.own 1, .own 2, .own 3, .own 4, .v (.slice (some ad) n n), .v (.int .i64 s.ct), .own 5]), (1, .row 27 1 css), (2, .row 3 1 (iRows s.ix)), (3, .row 3 1 (iRows s.lo)), (4, .row 4 1 (bRows s.on)), (5, .row 27 1 pcss)], 6⟩ H)
    (hK2 : ig s.lo v = ig s.ix v → ∀ a x H', Le H H' → RowAt H' (.slice a (s.st.idxOf v) (s.st.idxOf v)) 1 (iRows (s.st.take (s.st.idxOf v))) → Enc.R H' [x] (gSort (s.st.drop (s.st.idxOf v))) → LeN 3 1 (iRows (gSort (s.st.drop (s.st.idxOf v)))) H x H' →
      K (.tup []) ⟨[], [(0, .cells 84 [.own 1, .own 2, .own 3, .own 4, .v (.slice a (s.st.idxOf v) (s.st.idxOf v)), .v (.int .i64 s.ct), .own 6]), (1, .row 27 1 css), (2, .row 3 1 (iRows s.ix)), (3, .row 3 1 (iRows s.lo)), (4, .row 4 1 (bRows (clearM s.on (s.st.drop (s.st.idxOf v))))), (6, .row 27 1 (pcss ++ [[x]]))], 7⟩ H') :
    DoesG Try.prog 99 [.ptr 0 0, .v (.int .i64 v)] [(0, .cells 84 [.own 1, .own 2, .own 3, .own 4, .v (.slice (some ad) n n), .v (.int .i64 s.ct), .own 5]), (1, .row 27 1 css), (2, .row 3 1 (iRows s.ix)), (3, .row 3 1 (iRows s.lo)), (4, .row 4 1 (bRows s.on)), (5, .row 27 1 pcss)] 6 H K := by
  have hv2 := dt (hsn v hvs)
  have hlx := iRows_len s.ix
  have hll := iRows_len s.lo
  have hlo := bRows_len s.on
  have hls := iRows_len s.st
  have hlt := List.idxOf_lt_length_of_mem hvs
  refine spec_ofG cx_ok cx_mix Try.func99 Try.call99 Try.ntmps99 Try.results99 rfl rfl ?_
  refine ⟨some ([], [0, 1, 2, 3, 4, 5, 6, 7, 8, 9, 10, 11, 12, 13, 14]), by kernel_rfl, ?_⟩
  refine ⟨⟨by omega, by omega⟩, ?_⟩
  refine ⟨_, iRows_at (L := s.lo) hv2.1 (by omega), ?_⟩
  refine ⟨⟨by omega, by omega⟩, ?_⟩
  refine ⟨_, iRows_at (L := s.ix) hv2.1 (by omega), ?_⟩
  refine ⟨fun h => ?_, fun h => ?_⟩
  · have h1 := nt h
    exact ⟨.tup [], [(0, .cells 84 [.own 1, .own 2, .own 3, .own 4, .v (.slice (some ad) n n), .v (.int .i64 s.ct), .own 5]), (1, .row 27 1 css), (2, .row 3 1 (iRows s.ix)), (3, .row 3 1 (iRows s.lo)), (4, .row 4 1 (bRows s.on)), (5, .row 27 1 pcss)], 6, [(0, 0), (1, 1), (2, 2), (3, 3), (4, 4), (5, 5)], by (repeat' (first | exact trivial | refine ⟨?_, ?_⟩ | exact rfl | assumption)), hK1 h1⟩
  · have h1 := nf h
    have hK2 := hK2 h1
    refine ⟨[], rfl, index_frz hs hvs hrl ?_⟩
    obtain ⟨P, hP⟩ : ∃ P, P = s.st.drop (s.st.idxOf v) := ⟨_, rfl⟩
    have hPn : P.Nodup := by rw [hP]; exact hnd.sublist (List.drop_sublist _ _)
    have hPs : ∀ x ∈ P, nodeI s.ix.length x = true := fun x hx => hsn x (List.mem_of_mem_drop (hP ▸ hx))
    have hPl : P.length ≤ 1000000 := by rw [hP, List.length_drop]; omega
    have hPe : (iRows P).length = P.length := iRows_len P
    have hnn := hrl.n_eq
    refine ⟨⟨by omega, by omega, by omega, by omega⟩, ?_⟩
    have hcut := hrl.cut (l := s.st.idxOf v) (k := n) (by omega) (Nat.le_refl _)
    rw [List.take_of_length_le (by omega), ← hP] at hcut
    refine ⟨[], rfl, cloneI_spec (l := P) hcut (by omega) ?_⟩
    rw [← hP] at hK2
    refine ⟨⟨by omega, by omega, by omega, by omega⟩, ?_⟩
    have hra := hfz.partM rfl (lo := 0) (n := s.st.idxOf v) (q := s.st.idxOf v) (by rw [hls]; omega) (by omega) (by omega)
    obtain ⟨a, hac⟩ : ∃ a, a = cutA (some ad) 0 (s.st.idxOf v) 1 := ⟨_, rfl⟩
    rw [← hac, Nat.sub_zero] at hra
    obtain ⟨H1, hH1⟩ : ∃ H1, H1 = H := ⟨_, rfl⟩
    have hle1 : Le H H1 := by rw [hH1]; exact Le.refl H
    rw [← hH1] at hra
    refine ⟨Nat × List Bool, fun q => ⟨[(0, .ptr 0 0), (5, .own 6), (46, .own 6), (47, .v (.int .i64 P.length)), (48, .v (.int .i64 q.1))],
      [(0, .cells 84 [.own 1, .own 2, .own 3, .own 4, .v (.slice a (s.st.idxOf v) (s.st.idxOf v)), .v (.int .i64 s.ct), .own 5]), (1, .row 27 1 css), (2, .row 3 1 (iRows s.ix)), (3, .row 3 1 (iRows s.lo)), (4, .row 4 1 (bRows q.2)), (5, .row 27 1 pcss), (6, .row 3 1 (iRows P))], 7⟩,
      fun q H' => H' = H1 ∧ q.1 ≤ P.length ∧ q.2 = clearM s.on (P.take q.1), fun q => P.length - q.1, ⟨(0, s.on), [(0, 0), (1, 1), (2, 2), (3, 3), (4, 4), (5, 5), (6, 6)], ?_, hH1.symm, Nat.zero_le _, rfl⟩, ?_⟩
    · have eA : SV.v (.slice (cutA (some ad) 0 (s.st.idxOf v) 1) (s.st.idxOf v - 0) (s.st.idxOf v - 0)) = SV.v (.slice a (s.st.idxOf v) (s.st.idxOf v)) := by rw [hac]; rfl
      have e47 : SV.v (.int .i64 ((iRows P).length : Nat)) = SV.v (.int .i64 (P.length : Nat)) := by rw [hPe]
      (repeat' (first | exact trivial | refine ⟨?_, ?_⟩ | exact rfl | assumption))
    rintro ⟨j, M⟩ H2 _ ⟨hH2, hj, hM⟩
    subst hH2
    dsimp only at hj hM
    have hlM : M.length = s.ix.length := by rw [hM, clearM_len, ho]
    refine ⟨fun h => ?_, fun h => ?_⟩
    · have hlt2 : j < P.length := by have := dt h; dsimp only at this; omega
      have hbn := dt (hPs _ (List.getElem_mem hlt2))
      have hgj : (iRows P)[((j : Int)).toNat]? = some [.int .i64 P[j]] := by rw [Int.toNat_natCast]; exact iRows_get hlt2
      refine ⟨⟨by dsimp only; omega, by dsimp only; omega⟩, ?_⟩
      refine ⟨_, hgj, ?_⟩
      refine ⟨⟨by omega, by rw [bRows_len]; dsimp only; omega⟩, ?_⟩
      refine ⟨_, bRows_get (M := M) hbn.1 (by omega), ?_⟩
      have e1 : (bRows M).set P[j].toNat [.bool false] = bRows (M.set P[j].toNat false) := bRows_set _ _ _
      refine ⟨⟨by (try dsimp only); omega, by (try dsimp only); omega⟩, (j + 1, M.set P[j].toNat false), [(0, 0), (1, 1), (2, 2), (3, 3), (4, 4), (5, 5), (6, 6)], ?_, ⟨rfl, by dsimp only; omega, ?_⟩, by dsimp only; omega⟩
      · (repeat' (first | exact trivial | refine ⟨?_, ?_⟩ | exact rfl | assumption))
      · dsimp only
        rw [hM, clearM, clearM, take_step _ _ (List.getElem?_eq_getElem hlt2)]
    · have hjl : j = P.length := by have := df h; dsimp only at this; omega
      rw [hjl, List.take_length] at hM
      refine ⟨[6], rfl, sortI_spec (by omega) fun l' hl' hp' hg => ?_⟩
      rw [gComp_nodup (hp'.nodup_iff.2 hPn)] at hg
      subst hg
      intro x H3 hle3 hx
      have hin : ∀ z ∈ gSort P, inI z := fun z hz => by
        have := dt (hPs z ((gSort_mem _ z).1 hz))
        exact ⟨by omega, by omega⟩
      obtain ⟨a3, n3, c3, rfl, hr3⟩ := rI_all hx hin
      refine ⟨room (n := pcss.length), ?_⟩
      have e2 : bRows M = bRows (clearM s.on P) := by rw [hM]
      have e3 : pcss ++ [[.slice a3 n3 c3]] = pcss ++ [[.slice a3 n3 c3]] := rfl
      have hra' : RowAt H3 (.slice a (s.st.idxOf v) (s.st.idxOf v)) 1 (iRows (s.st.take (s.st.idxOf v))) := by
        have h4 : RowAt H2 (.slice a (s.st.idxOf v) (s.st.idxOf v)) 1 ((iRows s.st).take (s.st.idxOf v)) := hra
        have h5 : (iRows s.st).take (s.st.idxOf v) = iRows (s.st.take (s.st.idxOf v)) := by simp [List.map_take]
        rw [h5] at h4
        exact h4.up hle3
      exact ⟨.tup [], [(0, .cells 84 [.own 1, .own 2, .own 3, .own 4, .v (.slice a (s.st.idxOf v) (s.st.idxOf v)), .v (.int .i64 s.ct), .own 6]), (1, .row 27 1 css), (2, .row 3 1 (iRows s.ix)), (3, .row 3 1 (iRows s.lo)), (4, .row 4 1 (bRows (clearM s.on P))), (6, .row 27 1 (pcss ++ [[.slice a3 n3 c3]]))], 7, [(0, 0), (1, 1), (2, 2), (3, 3), (4, 4), (6, 8)], by (repeat' (first | exact trivial | refine ⟨?_, ?_⟩ | exact rfl | assumption)), hK2 a (.slice a3 n3 c3) H3 (hle1.trans hle3.le) hra' ⟨a3, n3, c3, rfl, hr3⟩ (LeN.base hle1 hle3)⟩
end Go.Proofs
end
section
namespace Go.Proofs
open Go.Sy
set_option maxRecDepth 20000
set_option maxHeartbeats 8000000
abbrev wRows (W : List (Int × Nat)) : List (List Value) := W.map fun p => [.int .i64 p.1, .int .i64 (p.2 : Int)]
theorem wRows_len (W : List (Int × Nat)) : (wRows W).length = W.length := List.length_map _
/-- The last node of the way is the first of its part. -/
theorem TJ.last_root {N : Nat} {nx : Int → List Int} {t : TW} (h : TJ N nx t) (hW : t.W = []) : ig t.s.lo t.v = ig t.s.ix t.v := by
  have hvg : t.v ∈ t.g := by simp [TW.g]
  have hg : t.g = [t.v] := by simp [TW.g, hW]
  obtain ⟨g1, y, g2, g3, _⟩ := h.los t.v hvg
  obtain ⟨w, h1, h2, _⟩ := h.up y g2
  rw [hg, List.mem_singleton] at h1
  subst h1
  omega
theorem TJ.last_TI {N : Nat} {nx : Int → List Int} (hnx : ∀ v, ∀ b ∈ nx v, nodeI N b = true) {t : TW} (h : TJ N nx t) (hb : (nx t.v)[t.k]? = none) (hW : t.W = []) (hc : t.s.ct + t.s.ix.count 0 = N) : TI N nx (leaveT t.s t.v) := by
  obtain ⟨g1, g2, g3, g4, g5, g6, g7, g8⟩ := h.last hnx hb hW
  exact ⟨by rw [g3]; exact h.lx, by rw [g4]; exact h.ll, g5, g1, by rw [g3]; exact g7, g6, by rw [g3, g8]; exact hc, g2⟩
theorem row_some {H : Hp} {a : Option Addr} {n c sz : Nat} {xs : List (List Value)} (h : RowAt H (.slice a n c) sz xs) (hne : xs ≠ []) : ∃ ad, a = some ad := by
  obtain ⟨a', c', e, _, _, h3⟩ := h
  simp only [Value.slice.injEq] at e
  rcases h3 with ⟨h3, _⟩ | ⟨ad, h3, _⟩
  · exact absurd h3 hne
  · exact ⟨ad, e.1.trans h3⟩
/-- What holds along the walk. -/
structure FI (HX : Hp) (NX : List (List Int)) (css : List (List Value)) (r : TS) (H0 H : Hp) (t : TW) (pcss : List (List Value)) (n : Nat) : Prop where
  le : Le H0 H
  j : TJ NX.length (nxL NX) t
  cc : t.s.ct + t.s.ix.count 0 = NX.length
  rc : RC H css NX
  rp : RX HX H pcss t.s.pa
  run : runT (nxL NX) n (.inl t) = some r
theorem rc_slice {H : Hp} {css : List (List Value)} {NX : List (List Int)} (h : RC H css NX) {i : Nat} {L : List Int} (hi : NX[i]? = some L) : ∃ a n c, css[i]? = some [.slice a n c] ∧ RL H a n c L := by
  obtain ⟨cs, h1, a, n, c, rfl, h2⟩ := h.get hi
  exact ⟨a, n, c, h1, h2⟩
theorem nxL_nodes {NX : List (List Int)} (hX : Nexts NX) : ∀ v, ∀ b ∈ nxL NX v, nodeI NX.length b = true := fun v b hb => by
  rw [nxL] at hb
  split at hb
  · rename_i hv
    have h1 := nxL_mem hv
    rw [nxL, if_pos hv] at h1
    exact (hX.2 _ h1).2 b hb
  · cases hb
theorem rl_row {H : Hp} {ad : Addr} {n : Nat} {st : List Int} (h : RowAt H (.slice (some ad) n n) 1 (iRows st)) (hin : ∀ x ∈ st, inI x) : RL H (some ad) n n st := by
  obtain ⟨a, m, c, e, hr⟩ := rI_all h hin
  simp only [Value.slice.injEq] at e
  obtain ⟨rfl, rfl, rfl⟩ := e
  exact hr
theorem parts_len {N : Nat} {nx : Int → List Int} {pa : List (List Int)} (h : TP N nx pa) (hN : N ≤ 1000) : pa.length ≤ 1000000 := by
  have h1 : pa.length ≤ pa.flatten.length := by
    have hne : ∀ p ∈ pa, p ≠ [] := fun p hp => (h.ok p hp).ne
    clear h
    induction pa with
    | nil => simp
    | cons p r ih =>
      have h2 := List.length_pos_iff.2 (hne p List.mem_cons_self)
      have h3 := ih fun q hq => hne q (List.mem_cons_of_mem _ hq)
      rw [List.flatten_cons, List.length_append, List.length_cons]
      omega
  have h2 := nodes_len (m := N) h.nd h.node
  have h3 : ((N : Int)).toNat = N := rfl
  omega
theorem gsort_ne {st : List Int} {v : Int} (h : v ∈ st) : gSort (st.drop (st.idxOf v)) ≠ [] := by
  intro e
  have hlt := List.idxOf_lt_length_of_mem h
  have h1 : st[st.idxOf v] ∈ st.drop (st.idxOf v) := List.mem_drop_iff_getElem.2 ⟨0, by omega, by simp⟩
  have h2 := (gSort_mem _ _).2 h1
  rw [e] at h2
  cases h2
theorem from_spec {HX : Hp} {NX : List (List Int)} (hX : Nexts NX) {css pcss : List (List Value)} {s : TS} {v : Int} {a : Option Addr} {n : Nat} {r : TS} (hTI : TI NX.length (nxL NX) s) (hvn : nodeI NX.length v = true) (h0v : ig s.ix v = 0)
    (hrun : runT (nxL NX) n (.inl ⟨enterT s v, [], v, 0⟩) = some r) {H : Hp} {K : SV → St → Hp → Prop} (hrc : RC H css NX) (hrp : RX HX H pcss s.pa) (hra : RowAt H (.slice a 0 0) 1 [])
    (hK : ∀ a' pcss' H', Le H H' → RowAt H' (.slice a' 0 0) 1 [] → RC H' css NX → RX HX H' pcss' r.pa → TI NX.length (nxL NX) r → K (.tup []) ⟨[], [(0, .cells 84 [.own 1, .own 2, .own 3, .own 4, .v (.slice a' 0 0), .v (.int .i64 r.ct), .own 6]), (1, .row 27 1 css), (2, .row 3 1 (iRows r.ix)), (3, .row 3 1 (iRows r.lo)), (4, .row 4 1 (bRows r.on)), (6, .row 27 1 pcss')], 7⟩ H') :
    DoesG Try.prog 68 [.ptr 0 0, .v (.int .i64 v)] [(0, .cells 84 [.own 1, .own 2, .own 3, .own 4, .v (.slice a 0 0), .v (.int .i64 s.ct), .own 5]), (1, .row 27 1 css), (2, .row 3 1 (iRows s.ix)), (3, .row 3 1 (iRows s.lo)), (4, .row 4 1 (bRows s.on)), (5, .row 27 1 pcss)] 6 H K := by
  have hct0 : s.ct ≤ 1000000 := by have := hTI.cc; have := hX.1; omega
  refine spec_ofG cx_ok cx_mix Try.func68 Try.call68 Try.ntmps68 Try.results68 rfl rfl ?_
  refine .inr ⟨Bool × Addr × TW × List (List Value) × Nat, fun _ => 0, fun q => bif q.1 then ⟨[(0, .ptr 0 0), (4, .own 8)],
      [(0, .cells 84 [.own 1, .own 2, .own 3, .own 4, .own 7, .v (.int .i64 q.2.2.1.s.ct), .own 6]), (1, .row 27 1 css), (2, .row 3 1 (iRows q.2.2.1.s.ix)), (3, .row 3 1 (iRows q.2.2.1.s.lo)), (4, .row 4 1 (bRows q.2.2.1.s.on)), (6, .row 27 1 q.2.2.2.1), (7, .row 3 1 (iRows q.2.2.1.s.st)), (8, .row 113 2 (wRows (q.2.2.1.W ++ [(q.2.2.1.v, q.2.2.1.k)])))], 9⟩
    else ⟨[(0, .ptr 0 0), (4, .own 8)],
      [(0, .cells 84 [.own 1, .own 2, .own 3, .own 4, .v (.slice (some q.2.1) q.2.2.1.s.st.length q.2.2.1.s.st.length), .v (.int .i64 q.2.2.1.s.ct), .own 6]), (1, .row 27 1 css), (2, .row 3 1 (iRows q.2.2.1.s.ix)), (3, .row 3 1 (iRows q.2.2.1.s.lo)), (4, .row 4 1 (bRows q.2.2.1.s.on)), (6, .row 27 1 q.2.2.2.1), (8, .row 113 2 (wRows (q.2.2.1.W ++ [(q.2.2.1.v, q.2.2.1.k)])))], 9⟩,
    fun q H' => FI HX NX css r H H' q.2.2.1 q.2.2.2.1 q.2.2.2.2 ∧ (bif q.1 then True else RowAt H' (.slice (some q.2.1) q.2.2.1.s.st.length q.2.2.1.s.st.length) 1 (iRows q.2.2.1.s.st)), fun q => q.2.2.2.2, ?_, ?_⟩
  · refine ⟨[0, 1, 2, 3, 4, 5], rfl, enter_idle (by rw [hTI.ll, hTI.lx]) (by rw [hTI.lon, hTI.lx]) hTI.st hct0 (by rw [hTI.lx]; exact hvn) hra ?_⟩
    have hI : FI HX NX css r H H ⟨enterT s v, [], v, 0⟩ pcss n := ⟨Le.refl H, hTI.enter (nxL_nodes hX) hvn h0v, cc_enter hTI.lx hvn h0v hTI.cc, hrc, hrp, hrun⟩
    have ad : Addr := ⟨0, 0, none⟩
    have hfz : True := trivial
    obtain ⟨W, hWW⟩ : ∃ W : List (Int × Nat), W = [] := ⟨_, rfl⟩
    obtain ⟨k, hkk⟩ : ∃ k : Nat, k = 0 := ⟨_, rfl⟩
    have hI : FI HX NX css r H H ⟨enterT s v, W, v, k⟩ pcss n := by rw [hWW, hkk]; exact hI
    have hwr : [[Value.int .i64 v, .int .i64 0]] = wRows (W ++ [(v, k)]) := by rw [hWW, hkk]; rfl
    clear hrp hrun
    obtain ⟨hle, hJ, hcc, hrc, hrp, hrun⟩ := hI
    obtain ⟨n, rfl⟩ : ∃ n', n = n' + 1 := by
      cases n with
      | zero => cases hrun
      | succ n => exact ⟨n, rfl⟩
    have hrun : runT (nxL NX) n (stpT (nxL NX) ⟨(enterT s v), W, v, k⟩) = some r := hrun
    have hnx := nxL_nodes hX
    have hN := hX.1
    have hlx : (enterT s v).ix.length = NX.length := hJ.lx
    have hll : (enterT s v).lo.length = NX.length := hJ.ll
    have hlon : (enterT s v).on.length = NX.length := hJ.lon
    have hv : nodeI NX.length v = true := hJ.nn v (hJ.vin hnx)
    have hv2 := dt hv
    have hvs : v ∈ (enterT s v).st := hJ.vin hnx
    have hnn : ∀ x ∈ (enterT s v).st, nodeI NX.length x = true := hJ.nn
    have hcl := hrc.1
    have hpl : pcss.length = (enterT s v).pa.length := hrp.rc.1
    have hsl : (enterT s v).st.length ≤ NX.length := by
      have := nodes_len (m := NX.length) hJ.nd hJ.nn
      simpa using this
    have hct : (enterT s v).ct ≤ 1000 := by
      have h1 : (enterT s v).ct + (enterT s v).ix.count 0 = NX.length := hcc
      omega
    have hpan : (enterT s v).pa.length ≤ 1000000 := parts_len hJ.pa hN
    have hwn : W.length ≤ 1000000 := by
      have h1 : ((⟨(enterT s v), W, v, k⟩ : TW).g).length ≤ NX.length := by
        have := nodes_len (m := NX.length) (s := (⟨(enterT s v), W, v, k⟩ : TW).g) (hJ.ginc.imp fun {x y} h e => by subst e; omega) (fun x hx => hJ.nn x (hJ.gr x hx))
        simpa using this
      simp only [TW.g, List.length_append, List.length_map, List.length_singleton] at h1
      omega
    obtain ⟨a1, n1, c1, hgc, hr1⟩ := rc_slice hrc (nxL_get hv)
    have hn1 := hr1.n_eq
    have hL1 := (hX.2 _ (nxL_mem hv)).1
    have hk1 : k ≤ (nxL NX v).length := hJ.k
    have hew : ([[Value.int .i64 v, .int .i64 0]] : List (List Value)).length = W.length + 1 := by rw [hwr, List.length_map, List.length_append]; rfl
    have hgw : ([[Value.int .i64 v, .int .i64 0]] : List (List Value))[((([[Value.int .i64 v, .int .i64 0]] : List (List Value)).length : Int) - 1).toNat]? = some [.int .i64 v, .int .i64 k] := by
      rw [hew, show (((W.length + 1 : Nat) : Int) - 1).toNat = W.length by omega, hwr, List.getElem?_map, List.getElem?_append_right (Nat.le_refl _), Nat.sub_self]; rfl
    refine ⟨⟨by show _ ≤ (([[Value.int .i64 v, .int .i64 0]] : List (List Value)).length : Int) - 1; omega, by show (([[Value.int .i64 v, .int .i64 0]] : List (List Value)).length : Int) - 1 ≤ _; omega⟩, ?_⟩
    refine ⟨⟨by show _ ≤ (([[Value.int .i64 v, .int .i64 0]] : List (List Value)).length : Int) - 1; omega, by show (([[Value.int .i64 v, .int .i64 0]] : List (List Value)).length : Int) - 1 < (([[Value.int .i64 v, .int .i64 0]] : List (List Value)).length : Int); omega⟩, ?_⟩
    refine ⟨some ([], [0, 1, 2, 3, 4, 5, 6, 7, 8, 9, 10, 11, 12, 13, 14, 15]), by kernel_rfl, ?_⟩
    refine ⟨_, hgw, ?_⟩
    refine ⟨_, hgw, ?_⟩
    refine ⟨⟨by (try dsimp only); omega, by (try dsimp only); omega⟩, ?_⟩
    refine ⟨_, hgc, ?_⟩
    refine ⟨fun h => ?_, fun h => ?_⟩
    · have hlt : k < (nxL NX v).length := by have := dt h; omega
      obtain ⟨ad2, cs2, q2, hh2, r3⟩ := hr1.elem (List.getElem?_eq_getElem hlt)
      obtain ⟨rfl, -⟩ := r3
      have hb0 : (nxL NX v)[k]? = some (nxL NX v)[k] := List.getElem?_eq_getElem hlt
      obtain ⟨b, hbb⟩ : ∃ b, b = (nxL NX v)[k] := ⟨_, rfl⟩
      rw [← hbb] at hb0 hh2
      have hb : nodeI NX.length b = true := hnx v b (List.mem_of_getElem? hb0)
      have hb2 := dt hb
      rw [stpT] at hrun
      dsimp only at hrun
      rw [hb0] at hrun
      dsimp only at hrun
      refine ⟨some ([], [0, 1, 2, 3, 4, 5, 6, 7, 8, 9, 10, 11, 12, 13, 14, 15, 16]), by kernel_rfl, ?_⟩
      refine ⟨_, hgw, ?_⟩
      refine ⟨⟨by (try dsimp only); omega, by (try dsimp only); omega⟩, ?_⟩
      refine ⟨_, hgc, ?_⟩
      refine ⟨_, hgw, ?_⟩
      refine ⟨ad2, ⟨by (try dsimp only); omega, by (try dsimp only); omega, q2⟩, ?_⟩
      refine ⟨_, hh2, ?_⟩
      refine ⟨_, hgw, ?_⟩
      refine ⟨⟨by (try dsimp only); omega, by (try dsimp only); omega⟩, ?_⟩
      refine ⟨_, hgw, ?_⟩
      have hset : ([[Value.int .i64 v, .int .i64 0]] : List (List Value)).set ((([[Value.int .i64 v, .int .i64 0]] : List (List Value)).length : Int) - 1).toNat [.int .i64 v, .int .i64 (k + 1)] = wRows (W ++ [(v, k + 1)]) := by
        rw [hew, show (((W.length + 1 : Nat) : Int) - 1).toNat = W.length by omega, hwr, wRows, List.map_append, List.set_append_right _ _ (by rw [List.length_map]; exact Nat.le_refl _), List.length_map, Nat.sub_self]
        simp
      refine ⟨⟨by (try dsimp only); omega, by (try dsimp only); rw [iRows_len]; (try dsimp only); omega⟩, ?_⟩
      refine ⟨_, iRows_at (L := (enterT s v).ix) hb2.1 (by omega), ?_⟩
      refine ⟨fun h => ?_, fun h => ?_⟩
      · have h0 : ig (enterT s v).ix b = 0 := dt h
        rw [if_pos h0] at hrun
        refine ⟨[0, 1, 2, 3, 4, 5, 6], rfl, enter_own (s := (enterT s v)) (pcss := pcss) (by omega) (by omega) (by omega) (by omega) (by rw [hlx]; exact hb)  ?_⟩
        refine ⟨room (n := (([[Value.int .i64 v, .int .i64 0]] : List (List Value)).set ((([[Value.int .i64 v, .int .i64 0]] : List (List Value)).length : Int) - 1).toNat [.int .i64 v, .int .i64 (k + 1)]).length) (by rw [List.length_set, hew]; omega), ?_⟩
        have e1 : ([[Value.int .i64 v, .int .i64 0]] : List (List Value)).set ((([[Value.int .i64 v, .int .i64 0]] : List (List Value)).length : Int) - 1).toNat [.int .i64 v, .int .i64 (k + 1)] ++ [[.int .i64 b, .int .i64 0]] = wRows (W ++ [(v, k + 1)] ++ [(b, 0)]) := by rw [hset]; simp
        refine ⟨(true, ⟨0, 0, none⟩, ⟨enterT (enterT s v) b, W ++ [(v, k + 1)], b, 0⟩, pcss, n), [(0, 0), (1, 1), (2, 2), (3, 3), (4, 4), (6, 5), (7, 8), (8, 10)], rfl, ?_, ⟨⟨hle, hJ.enter hnx hb0 h0, cc_enter hlx hb h0 hcc, hrc, hrp, hrun⟩, trivial⟩⟩
        (repeat' (first | exact trivial | refine ⟨?_, ?_⟩ | exact rfl | assumption))
      · have h0 : ig (enterT s v).ix b ≠ 0 := df h
        rw [if_neg h0] at hrun
        have hJ2 : TJ NX.length (nxL NX) ⟨bif bget (enterT s v).on b then lowT (enterT s v) v (ig (enterT s v).ix b) else (enterT s v), W, v, k + 1⟩ := hJ.edge hnx hb0 h0
        refine ⟨⟨by (try dsimp only); omega, by (try dsimp only); rw [bRows_len]; (try dsimp only); omega⟩, ?_⟩
        refine ⟨_, bRows_get (M := (enterT s v).on) hb2.1 (by omega), ?_⟩
        refine ⟨fun h => ?_, fun h => ?_⟩
        · rw [if_pos h] at hrun
          rw [show bget (enterT s v).on b = true from h, cond_true] at hJ2
          have hgw2 : (([[Value.int .i64 v, .int .i64 0]] : List (List Value)).set ((([[Value.int .i64 v, .int .i64 0]] : List (List Value)).length : Int) - 1).toNat [.int .i64 v, .int .i64 (k + 1)])[((([[Value.int .i64 v, .int .i64 0]] : List (List Value)).length : Int) - 1).toNat]? = some [.int .i64 v, .int .i64 (k + 1)] := by
            rw [List.getElem?_set_self (by omega)]
          refine ⟨some ([3], [0, 1, 2, 3, 4, 5, 6, 7, 8, 9, 10, 11, 12, 13, 14, 15, 16, 17, 18, 19, 20, 21, 22, 23, 24, 25, 26, 27]), by kernel_rfl, ?_⟩
          refine ⟨_, hgw2, ?_⟩
          refine ⟨_, hgw2, ?_⟩
          refine ⟨⟨by (try dsimp only); omega, by (try dsimp only); rw [iRows_len]; (try dsimp only); omega⟩, ?_⟩
          refine ⟨_, iRows_at (L := (enterT s v).lo) hv2.1 (by omega), ?_⟩
          refine ⟨⟨by (try dsimp only); omega, by (try dsimp only); rw [iRows_len]; (try dsimp only); omega⟩, ?_⟩
          refine ⟨_, iRows_at (L := (enterT s v).ix) hb2.1 (by omega), ?_⟩
          refine ⟨⟨by (try dsimp only); omega, by (try dsimp only); rw [iRows_len]; (try dsimp only); omega⟩, ?_⟩
          refine ⟨_, iRows_at (L := (enterT s v).lo) hv2.1 (by omega), ?_⟩
          have e1 : (iRows (enterT s v).lo).set v.toNat [.int .i64 (min (ig (enterT s v).lo v) (ig (enterT s v).ix b))] = iRows (lowT (enterT s v) v (ig (enterT s v).ix b)).lo := iRows_set _ _ _
          refine ⟨(true, ad, ⟨lowT (enterT s v) v (ig (enterT s v).ix b), W, v, k + 1⟩, pcss, n), [(0, 0), (1, 1), (2, 2), (3, 3), (4, 4), (6, 5), (7, 6), (8, 7)], rfl, ?_, ⟨⟨hle, hJ2, hcc, hrc, hrp, hrun⟩, hfz⟩⟩
          (repeat' (first | exact trivial | refine ⟨?_, ?_⟩ | exact rfl | assumption))
        · rw [if_neg (by rw [h]; decide)] at hrun
          rw [show bget (enterT s v).on b = false from h, cond_false] at hJ2
          refine ⟨(true, ad, ⟨(enterT s v), W, v, k + 1⟩, pcss, n), [(0, 0), (1, 1), (2, 2), (3, 3), (4, 4), (6, 5), (7, 6), (8, 7)], rfl, ?_, ⟨⟨hle, hJ2, hcc, hrc, hrp, hrun⟩, hfz⟩⟩
          (repeat' (first | exact trivial | refine ⟨?_, ?_⟩ | exact rfl | assumption))
    · have hge : (nxL NX v).length ≤ k := by have := df h; omega
      have hb0 : (nxL NX v)[k]? = none := List.getElem?_eq_none hge
      rw [stpT] at hrun
      dsimp only at hrun
      rw [hb0] at hrun
      dsimp only at hrun
      have ew : ([[Value.int .i64 v, .int .i64 0]] : List (List Value)).take ((([[Value.int .i64 v, .int .i64 0]] : List (List Value)).length : Int) - 1).toNat = wRows W := by
        rw [hew, show (((W.length + 1 : Nat) : Int) - 1).toNat = W.length by omega, hwr]; simp
      have hwl : (([[Value.int .i64 v, .int .i64 0]] : List (List Value)).take ((([[Value.int .i64 v, .int .i64 0]] : List (List Value)).length : Int) - 1).toNat).length = W.length := by rw [ew, wRows_len]
      refine ⟨_, hgw, ?_⟩
      refine ⟨[0, 1, 2, 3, 4, 5, 6], rfl, leave_own (s := (enterT s v)) (pcss := pcss) (by omega) (by omega) (by omega) (by omega) (by rw [hlx]; exact hnn) hJ.nd hvs (by omega)  (fun hne => ?_) (fun he a2 x H2 hle2 hra2 hx2 hn2 => ?_)⟩
      · have hlv : leaveT (enterT s v) v = (enterT s v) := by rw [leaveT, if_neg hne]
        rw [hlv] at hrun
        refine ⟨⟨by show _ ≤ (([[Value.int .i64 v, .int .i64 0]] : List (List Value)).length : Int) - 1; omega, by show (([[Value.int .i64 v, .int .i64 0]] : List (List Value)).length : Int) - 1 ≤ _; omega⟩, ?_⟩
        refine .inl ⟨⟨by show _ ≤ (([[Value.int .i64 v, .int .i64 0]] : List (List Value)).length : Int) - 1; omega, by show (([[Value.int .i64 v, .int .i64 0]] : List (List Value)).length : Int) - 1 ≤ (([[Value.int .i64 v, .int .i64 0]] : List (List Value)).length : Int); omega⟩, ?_⟩
        refine ⟨fun h => ?_, fun h => ?_⟩
        · have hpos : 0 < W.length := by
            have this : (0 : Int) < ((([[Value.int .i64 v, .int .i64 0]] : List (List Value)).take ((([[Value.int .i64 v, .int .i64 0]] : List (List Value)).length : Int) - 1).toNat).length : Int) := dt h
            rw [hwl] at this
            omega
          obtain ⟨W1, u, j, hW1⟩ : ∃ W1 u j, W = W1 ++ [(u, j)] := by
            rcases List.eq_nil_or_concat W with h0 | ⟨W1, ⟨u, j⟩, h0⟩
            · rw [h0] at hpos; cases hpos
            · exact ⟨W1, u, j, by rw [h0, List.concat_eq_append]⟩
          have hu : nodeI NX.length u = true := hJ.nn u (hJ.gr u (by simp [TW.g, hW1]))
          have hu2 := dt hu
          have ew2 : ([[Value.int .i64 v, .int .i64 0]] : List (List Value)).take ((([[Value.int .i64 v, .int .i64 0]] : List (List Value)).length : Int) - 1).toNat = wRows (W1 ++ [(u, j)]) := by rw [ew, hW1]
          have hgu : (([[Value.int .i64 v, .int .i64 0]] : List (List Value)).take ((([[Value.int .i64 v, .int .i64 0]] : List (List Value)).length : Int) - 1).toNat)[(((([[Value.int .i64 v, .int .i64 0]] : List (List Value)).take ((([[Value.int .i64 v, .int .i64 0]] : List (List Value)).length : Int) - 1).toNat).length : Int) - 1).toNat]? = some [.int .i64 u, .int .i64 j] := by
            rw [hwl, ew2, hW1, List.length_append, List.length_singleton, show (((W1.length + 1 : Nat) : Int) - 1).toNat = W1.length by omega, List.getElem?_map, List.getElem?_append_right (Nat.le_refl _), Nat.sub_self]; rfl
          refine ⟨⟨by show _ ≤ ((([[Value.int .i64 v, .int .i64 0]] : List (List Value)).take ((([[Value.int .i64 v, .int .i64 0]] : List (List Value)).length : Int) - 1).toNat).length : Int) - 1; omega, by show ((([[Value.int .i64 v, .int .i64 0]] : List (List Value)).take ((([[Value.int .i64 v, .int .i64 0]] : List (List Value)).length : Int) - 1).toNat).length : Int) - 1 ≤ _; omega⟩, ?_⟩
          refine ⟨⟨by show _ ≤ ((([[Value.int .i64 v, .int .i64 0]] : List (List Value)).take ((([[Value.int .i64 v, .int .i64 0]] : List (List Value)).length : Int) - 1).toNat).length : Int) - 1; omega, by show ((([[Value.int .i64 v, .int .i64 0]] : List (List Value)).take ((([[Value.int .i64 v, .int .i64 0]] : List (List Value)).length : Int) - 1).toNat).length : Int) - 1 < ((([[Value.int .i64 v, .int .i64 0]] : List (List Value)).take ((([[Value.int .i64 v, .int .i64 0]] : List (List Value)).length : Int) - 1).toNat).length : Int); omega⟩, ?_⟩
          refine ⟨_, hgu, ?_⟩
          refine ⟨some ([3], [0, 1, 2, 3, 4, 5, 6, 7, 8, 9, 10, 11, 12, 13, 14, 15, 16, 17, 18, 19, 20, 21, 22]), by kernel_rfl, ?_⟩
          refine ⟨⟨by (try dsimp only); omega, by (try dsimp only); rw [iRows_len]; (try dsimp only); omega⟩, ?_⟩
          refine ⟨_, iRows_at (L := (enterT s v).lo) hu2.1 (by omega), ?_⟩
          refine ⟨⟨by (try dsimp only); omega, by (try dsimp only); rw [iRows_len]; (try dsimp only); omega⟩, ?_⟩
          refine ⟨_, iRows_at (L := (enterT s v).lo) hv2.1 (by omega), ?_⟩
          refine ⟨⟨by (try dsimp only); omega, by (try dsimp only); rw [iRows_len]; (try dsimp only); omega⟩, ?_⟩
          refine ⟨_, iRows_at (L := (enterT s v).lo) hu2.1 (by omega), ?_⟩
          have e1 : (iRows (enterT s v).lo).set u.toNat [.int .i64 (min (ig (enterT s v).lo u) (ig (enterT s v).lo v))] = iRows (lowT (enterT s v) u (ig (enterT s v).lo v)).lo := iRows_set _ _ _
          rw [hW1, List.getLast?_concat, List.dropLast_concat] at hrun
          dsimp only at hrun
          skip
          refine ⟨(true, ad, ⟨lowT (enterT s v) u (ig (enterT s v).lo v), W1, u, j⟩, pcss, n), [(0, 0), (1, 1), (2, 2), (3, 3), (4, 4), (6, 5), (7, 6), (8, 9)], rfl, ?_, ⟨⟨hle, hJ.done hnx hb0 hW1 hne, hcc, hrc, hrp, hrun⟩, hfz⟩⟩
          (repeat' (first | exact trivial | refine ⟨?_, ?_⟩ | exact rfl | assumption))
        · have hW0 : W = [] := List.eq_nil_of_length_eq_zero (by
            have this : ¬ (0 : Int) < ((([[Value.int .i64 v, .int .i64 0]] : List (List Value)).take ((([[Value.int .i64 v, .int .i64 0]] : List (List Value)).length : Int) - 1).toNat).length : Int) := df h
            rw [hwl] at this
            omega)
          have hroot : ig (enterT s v).lo v = ig (enterT s v).ix v := hJ.last_root hW0
          exact absurd hroot hne
      · have hlv : leaveT (enterT s v) v = ⟨(enterT s v).ix, (enterT s v).lo, clearM (enterT s v).on ((enterT s v).st.drop ((enterT s v).st.idxOf v)), (enterT s v).st.take ((enterT s v).st.idxOf v), (enterT s v).ct, (enterT s v).pa ++ [gSort ((enterT s v).st.drop ((enterT s v).st.idxOf v))]⟩ := by rw [leaveT, if_pos he]
        have hne2 : gSort ((enterT s v).st.drop ((enterT s v).st.idxOf v)) ≠ [] := gsort_ne hvs
        refine ⟨⟨by show _ ≤ (([[Value.int .i64 v, .int .i64 0]] : List (List Value)).length : Int) - 1; omega, by show (([[Value.int .i64 v, .int .i64 0]] : List (List Value)).length : Int) - 1 ≤ _; omega⟩, ?_⟩
        refine .inl ⟨⟨by show _ ≤ (([[Value.int .i64 v, .int .i64 0]] : List (List Value)).length : Int) - 1; omega, by show (([[Value.int .i64 v, .int .i64 0]] : List (List Value)).length : Int) - 1 ≤ (([[Value.int .i64 v, .int .i64 0]] : List (List Value)).length : Int); omega⟩, ?_⟩
        refine ⟨fun h => ?_, fun h => ?_⟩
        · have hpos : 0 < W.length := by
            have this : (0 : Int) < ((([[Value.int .i64 v, .int .i64 0]] : List (List Value)).take ((([[Value.int .i64 v, .int .i64 0]] : List (List Value)).length : Int) - 1).toNat).length : Int) := dt h
            rw [hwl] at this
            omega
          obtain ⟨W1, u, j, hW1⟩ : ∃ W1 u j, W = W1 ++ [(u, j)] := by
            rcases List.eq_nil_or_concat W with h0 | ⟨W1, ⟨u, j⟩, h0⟩
            · rw [h0] at hpos; cases hpos
            · exact ⟨W1, u, j, by rw [h0, List.concat_eq_append]⟩
          have hu : nodeI NX.length u = true := hJ.nn u (hJ.gr u (by simp [TW.g, hW1]))
          have hu2 := dt hu
          have ew2 : ([[Value.int .i64 v, .int .i64 0]] : List (List Value)).take ((([[Value.int .i64 v, .int .i64 0]] : List (List Value)).length : Int) - 1).toNat = wRows (W1 ++ [(u, j)]) := by rw [ew, hW1]
          have hgu : (([[Value.int .i64 v, .int .i64 0]] : List (List Value)).take ((([[Value.int .i64 v, .int .i64 0]] : List (List Value)).length : Int) - 1).toNat)[(((([[Value.int .i64 v, .int .i64 0]] : List (List Value)).take ((([[Value.int .i64 v, .int .i64 0]] : List (List Value)).length : Int) - 1).toNat).length : Int) - 1).toNat]? = some [.int .i64 u, .int .i64 j] := by
            rw [hwl, ew2, hW1, List.length_append, List.length_singleton, show (((W1.length + 1 : Nat) : Int) - 1).toNat = W1.length by omega, List.getElem?_map, List.getElem?_append_right (Nat.le_refl _), Nat.sub_self]; rfl
          refine ⟨⟨by show _ ≤ ((([[Value.int .i64 v, .int .i64 0]] : List (List Value)).take ((([[Value.int .i64 v, .int .i64 0]] : List (List Value)).length : Int) - 1).toNat).length : Int) - 1; omega, by show ((([[Value.int .i64 v, .int .i64 0]] : List (List Value)).take ((([[Value.int .i64 v, .int .i64 0]] : List (List Value)).length : Int) - 1).toNat).length : Int) - 1 ≤ _; omega⟩, ?_⟩
          refine ⟨⟨by show _ ≤ ((([[Value.int .i64 v, .int .i64 0]] : List (List Value)).take ((([[Value.int .i64 v, .int .i64 0]] : List (List Value)).length : Int) - 1).toNat).length : Int) - 1; omega, by show ((([[Value.int .i64 v, .int .i64 0]] : List (List Value)).take ((([[Value.int .i64 v, .int .i64 0]] : List (List Value)).length : Int) - 1).toNat).length : Int) - 1 < ((([[Value.int .i64 v, .int .i64 0]] : List (List Value)).take ((([[Value.int .i64 v, .int .i64 0]] : List (List Value)).length : Int) - 1).toNat).length : Int); omega⟩, ?_⟩
          refine ⟨_, hgu, ?_⟩
          refine ⟨some ([3], [0, 1, 2, 3, 4, 5, 6, 7, 8, 9, 10, 11, 12, 13, 14, 15, 16, 17, 18, 19, 20, 21, 22]), by kernel_rfl, ?_⟩
          refine ⟨⟨by (try dsimp only); omega, by (try dsimp only); rw [iRows_len]; (try dsimp only); omega⟩, ?_⟩
          refine ⟨_, iRows_at (L := (enterT s v).lo) hu2.1 (by omega), ?_⟩
          refine ⟨⟨by (try dsimp only); omega, by (try dsimp only); rw [iRows_len]; (try dsimp only); omega⟩, ?_⟩
          refine ⟨_, iRows_at (L := (enterT s v).lo) hv2.1 (by omega), ?_⟩
          refine ⟨⟨by (try dsimp only); omega, by (try dsimp only); rw [iRows_len]; (try dsimp only); omega⟩, ?_⟩
          refine ⟨_, iRows_at (L := (enterT s v).lo) hu2.1 (by omega), ?_⟩
          have e1 : (iRows (enterT s v).lo).set u.toNat [.int .i64 (min (ig (enterT s v).lo u) (ig (enterT s v).lo v))] = iRows (lowT ⟨(enterT s v).ix, (enterT s v).lo, clearM (enterT s v).on ((enterT s v).st.drop ((enterT s v).st.idxOf v)), (enterT s v).st.take ((enterT s v).st.idxOf v), (enterT s v).ct, (enterT s v).pa ++ [gSort ((enterT s v).st.drop ((enterT s v).st.idxOf v))]⟩ u (ig (enterT s v).lo v)).lo := iRows_set _ _ _
          rw [hW1, List.getLast?_concat, List.dropLast_concat] at hrun
          dsimp only at hrun
          have hJr : TJ NX.length (nxL NX) ⟨lowT (leaveT (enterT s v) v) u (ig (enterT s v).lo v), W1, u, j⟩ := hJ.root hnx hb0 hW1 he
          rw [hlv] at hJr hrun
          dsimp only at hrun
          have hln : ((enterT s v).st.take ((enterT s v).st.idxOf v)).length = (enterT s v).st.idxOf v := by
            have := List.idxOf_lt_length_of_mem hvs
            rw [List.length_take]; omega
          obtain ⟨ad2, had2⟩ := row_some hra2 (by
            intro e
            have h1 : u ∈ (enterT s v).st.take ((enterT s v).st.idxOf v) := hJr.gr u (by simp [TW.g])
            have h2 := List.length_pos_of_mem h1
            have h3 := congrArg List.length e
            rw [iRows_len, List.length_nil] at h3
            omega)
          have eS : SV.v (.slice a2 ((enterT s v).st.idxOf v) ((enterT s v).st.idxOf v)) = SV.v (.slice (some ad2) ((enterT s v).st.take ((enterT s v).st.idxOf v)).length ((enterT s v).st.take ((enterT s v).st.idxOf v)).length) := by rw [had2, hln]
          have hra3 : RowAt H2 (.slice (some ad2) ((enterT s v).st.take ((enterT s v).st.idxOf v)).length ((enterT s v).st.take ((enterT s v).st.idxOf v)).length) 1 (iRows ((enterT s v).st.take ((enterT s v).st.idxOf v))) := by rw [hln, ← had2]; exact hra2
          refine ⟨(false, ad2, ⟨lowT ⟨(enterT s v).ix, (enterT s v).lo, clearM (enterT s v).on ((enterT s v).st.drop ((enterT s v).st.idxOf v)), (enterT s v).st.take ((enterT s v).st.idxOf v), (enterT s v).ct, (enterT s v).pa ++ [gSort ((enterT s v).st.drop ((enterT s v).st.idxOf v))]⟩ u (ig (enterT s v).lo v), W1, u, j⟩, pcss ++ [[x]], n), [(0, 0), (1, 1), (2, 2), (3, 3), (4, 4), (6, 9), (8, 10)], rfl, ?_, ⟨⟨hle.trans hle2, hJr, hcc, hrc.up hle2, hrp.snoc hn2 hx2 hne2, hrun⟩, hra3⟩⟩
          (repeat' (first | exact trivial | refine ⟨?_, ?_⟩ | exact rfl | assumption))
        · have hW0 : W = [] := List.eq_nil_of_length_eq_zero (by
            have this : ¬ (0 : Int) < ((([[Value.int .i64 v, .int .i64 0]] : List (List Value)).take ((([[Value.int .i64 v, .int .i64 0]] : List (List Value)).length : Int) - 1).toNat).length : Int) := df h
            rw [hwl] at this
            omega)
          have hroot : ig (enterT s v).lo v = ig (enterT s v).ix v := hJ.last_root hW0
          have hTI2 : TI NX.length (nxL NX) (leaveT (enterT s v) v) := hJ.last_TI hnx hb0 hW0 hcc
          rw [hW0] at hrun
          have hr2 : leaveT (enterT s v) v = r := by
            have hrun : some (leaveT (enterT s v) v) = some r := by rw [← hrun]; cases n <;> rfl
            exact Option.some.inj hrun
          rw [hr2] at hTI2
          rw [hlv] at hr2
          have hI0 : (enterT s v).st.idxOf v = 0 := by
            have h1 : ((enterT s v).st.take ((enterT s v).st.idxOf v)) = [] := by
              have := hTI2.st
              rw [← hr2] at this
              exact this
            have h2 := List.length_pos_of_mem hvs
            have h3 := congrArg List.length h1
            rw [List.length_take, List.length_nil] at h3
            omega
          have eS : SV.v (.slice a2 ((enterT s v).st.idxOf v) ((enterT s v).st.idxOf v)) = SV.v (.slice a2 0 0) := by rw [hI0]
          have hra3 : RowAt H2 (.slice a2 0 0) 1 [] := by
            rw [hI0] at hra2
            exact hra2
          have hrp2 : RX HX H2 (pcss ++ [[x]]) r.pa := by
            rw [← hr2]
            exact hrp.snoc hn2 hx2 hne2
          have eix : iRows (enterT s v).ix = iRows r.ix := by rw [← hr2]
          have elo : iRows (enterT s v).lo = iRows r.lo := by rw [← hr2]
          have eon : bRows (clearM (enterT s v).on ((enterT s v).st.drop ((enterT s v).st.idxOf v))) = bRows r.on := by rw [← hr2]
          have ect : SV.v (.int .i64 ((enterT s v).ct : Int)) = SV.v (.int .i64 (r.ct : Int)) := by rw [← hr2]
          exact ⟨.tup [], [(0, .cells 84 [.own 1, .own 2, .own 3, .own 4, .v (.slice a2 0 0), .v (.int .i64 r.ct), .own 6]), (1, .row 27 1 css), (2, .row 3 1 (iRows r.ix)), (3, .row 3 1 (iRows r.lo)), (4, .row 4 1 (bRows r.on)), (6, .row 27 1 (pcss ++ [[x]]))], 7, [(0, 0), (1, 1), (2, 2), (3, 3), (4, 4), (6, 9)], by (repeat' (first | exact trivial | refine ⟨?_, ?_⟩ | exact rfl | assumption)),
            hK a2 (pcss ++ [[x]]) H2 (hle.trans hle2) hra3 (hrc.up hle2) hrp2 hTI2⟩
  · rintro ⟨_ | _, ad, t, pcss, n⟩ H1 _ ⟨hI, hfz⟩
    · obtain ⟨s, W, v, k⟩ := t
      have hI : FI HX NX css r H H1 ⟨s, W, v, k⟩ pcss n := hI
      have hfz : RowAt H1 (.slice (some ad) s.st.length s.st.length) 1 (iRows s.st) := hfz
      have hinI : ∀ x ∈ s.st, inI x := fun x hx => by
        have h1 := dt (hI.j.nn x hx)
        have h2 := hX.1
        exact ⟨by omega, by omega⟩
      have hwr : wRows (W ++ [(v, k)]) = wRows (W ++ [(v, k)]) := rfl
      obtain ⟨hle, hJ, hcc, hrc, hrp, hrun⟩ := hI
      obtain ⟨n, rfl⟩ : ∃ n', n = n' + 1 := by
        cases n with
        | zero => cases hrun
        | succ n => exact ⟨n, rfl⟩
      have hrun : runT (nxL NX) n (stpT (nxL NX) ⟨s, W, v, k⟩) = some r := hrun
      have hnx := nxL_nodes hX
      have hN := hX.1
      have hlx : s.ix.length = NX.length := hJ.lx
      have hll : s.lo.length = NX.length := hJ.ll
      have hlon : s.on.length = NX.length := hJ.lon
      have hv : nodeI NX.length v = true := hJ.nn v (hJ.vin hnx)
      have hv2 := dt hv
      have hvs : v ∈ s.st := hJ.vin hnx
      have hnn : ∀ x ∈ s.st, nodeI NX.length x = true := hJ.nn
      have hcl := hrc.1
      have hpl : pcss.length = s.pa.length := hrp.rc.1
      have hsl : s.st.length ≤ NX.length := by
        have := nodes_len (m := NX.length) hJ.nd hJ.nn
        simpa using this
      have hct : s.ct ≤ 1000 := by
        have h1 : s.ct + s.ix.count 0 = NX.length := hcc
        omega
      have hpan : s.pa.length ≤ 1000000 := parts_len hJ.pa hN
      have hwn : W.length ≤ 1000000 := by
        have h1 : ((⟨s, W, v, k⟩ : TW).g).length ≤ NX.length := by
          have := nodes_len (m := NX.length) (s := (⟨s, W, v, k⟩ : TW).g) (hJ.ginc.imp fun {x y} h e => by subst e; omega) (fun x hx => hJ.nn x (hJ.gr x hx))
          simpa using this
        simp only [TW.g, List.length_append, List.length_map, List.length_singleton] at h1
        omega
      obtain ⟨a1, n1, c1, hgc, hr1⟩ := rc_slice hrc (nxL_get hv)
      have hn1 := hr1.n_eq
      have hL1 := (hX.2 _ (nxL_mem hv)).1
      have hk1 : k ≤ (nxL NX v).length := hJ.k
      have hew : (wRows (W ++ [(v, k)]) : List (List Value)).length = W.length + 1 := by rw [hwr, List.length_map, List.length_append]; rfl
      have hgw : (wRows (W ++ [(v, k)]) : List (List Value))[(((wRows (W ++ [(v, k)]) : List (List Value)).length : Int) - 1).toNat]? = some [.int .i64 v, .int .i64 k] := by
        rw [hew, show (((W.length + 1 : Nat) : Int) - 1).toNat = W.length by omega, hwr, List.getElem?_map, List.getElem?_append_right (Nat.le_refl _), Nat.sub_self]; rfl
      refine ⟨⟨by show _ ≤ ((wRows (W ++ [(v, k)]) : List (List Value)).length : Int) - 1; omega, by show ((wRows (W ++ [(v, k)]) : List (List Value)).length : Int) - 1 ≤ _; omega⟩, ?_⟩
      refine ⟨⟨by show _ ≤ ((wRows (W ++ [(v, k)]) : List (List Value)).length : Int) - 1; omega, by show ((wRows (W ++ [(v, k)]) : List (List Value)).length : Int) - 1 < ((wRows (W ++ [(v, k)]) : List (List Value)).length : Int); omega⟩, ?_⟩
      refine ⟨some ([], [0, 1, 2, 3, 4, 5, 6, 7, 8, 9, 10, 11, 12, 13, 14, 15]), by kernel_rfl, ?_⟩
      refine ⟨_, hgw, ?_⟩
      refine ⟨_, hgw, ?_⟩
      refine ⟨⟨by (try dsimp only); omega, by (try dsimp only); omega⟩, ?_⟩
      refine ⟨_, hgc, ?_⟩
      refine ⟨fun h => ?_, fun h => ?_⟩
      · have hlt : k < (nxL NX v).length := by have := dt h; omega
        obtain ⟨ad2, cs2, q2, hh2, r3⟩ := hr1.elem (List.getElem?_eq_getElem hlt)
        obtain ⟨rfl, -⟩ := r3
        have hb0 : (nxL NX v)[k]? = some (nxL NX v)[k] := List.getElem?_eq_getElem hlt
        obtain ⟨b, hbb⟩ : ∃ b, b = (nxL NX v)[k] := ⟨_, rfl⟩
        rw [← hbb] at hb0 hh2
        have hb : nodeI NX.length b = true := hnx v b (List.mem_of_getElem? hb0)
        have hb2 := dt hb
        rw [stpT] at hrun
        dsimp only at hrun
        rw [hb0] at hrun
        dsimp only at hrun
        refine ⟨some ([], [0, 1, 2, 3, 4, 5, 6, 7, 8, 9, 10, 11, 12, 13, 14, 15, 16]), by kernel_rfl, ?_⟩
        refine ⟨_, hgw, ?_⟩
        refine ⟨⟨by (try dsimp only); omega, by (try dsimp only); omega⟩, ?_⟩
        refine ⟨_, hgc, ?_⟩
        refine ⟨_, hgw, ?_⟩
        refine ⟨ad2, ⟨by (try dsimp only); omega, by (try dsimp only); omega, q2⟩, ?_⟩
        refine ⟨_, hh2, ?_⟩
        refine ⟨_, hgw, ?_⟩
        refine ⟨⟨by (try dsimp only); omega, by (try dsimp only); omega⟩, ?_⟩
        refine ⟨_, hgw, ?_⟩
        have hset : (wRows (W ++ [(v, k)]) : List (List Value)).set (((wRows (W ++ [(v, k)]) : List (List Value)).length : Int) - 1).toNat [.int .i64 v, .int .i64 (k + 1)] = wRows (W ++ [(v, k + 1)]) := by
          rw [hew, show (((W.length + 1 : Nat) : Int) - 1).toNat = W.length by omega, hwr, wRows, List.map_append, List.set_append_right _ _ (by rw [List.length_map]; exact Nat.le_refl _), List.length_map, Nat.sub_self]
          simp
        refine ⟨⟨by (try dsimp only); omega, by (try dsimp only); rw [iRows_len]; (try dsimp only); omega⟩, ?_⟩
        refine ⟨_, iRows_at (L := s.ix) hb2.1 (by omega), ?_⟩
        refine ⟨fun h => ?_, fun h => ?_⟩
        · have h0 : ig s.ix b = 0 := dt h
          rw [if_pos h0] at hrun
          refine ⟨[0, 1, 2, 3, 4, 6], rfl, enter_frz (s := s) (pcss := pcss) (by omega) (by omega) (by omega) (by omega) (by rw [hlx]; exact hb) hfz ?_⟩
          refine ⟨room (n := ((wRows (W ++ [(v, k)]) : List (List Value)).set (((wRows (W ++ [(v, k)]) : List (List Value)).length : Int) - 1).toNat [.int .i64 v, .int .i64 (k + 1)]).length) (by rw [List.length_set, hew]; omega), ?_⟩
          have e1 : (wRows (W ++ [(v, k)]) : List (List Value)).set (((wRows (W ++ [(v, k)]) : List (List Value)).length : Int) - 1).toNat [.int .i64 v, .int .i64 (k + 1)] ++ [[.int .i64 b, .int .i64 0]] = wRows (W ++ [(v, k + 1)] ++ [(b, 0)]) := by rw [hset]; simp
          refine ⟨(true, ⟨0, 0, none⟩, ⟨enterT s b, W ++ [(v, k + 1)], b, 0⟩, pcss, n), [(0, 0), (1, 1), (2, 2), (3, 3), (4, 4), (6, 6), (7, 9), (8, 11)], rfl, ?_, ⟨⟨hle, hJ.enter hnx hb0 h0, cc_enter hlx hb h0 hcc, hrc, hrp, hrun⟩, trivial⟩, Nat.lt_succ_self _⟩
          (repeat' (first | exact trivial | refine ⟨?_, ?_⟩ | exact rfl | assumption))
        · have h0 : ig s.ix b ≠ 0 := df h
          rw [if_neg h0] at hrun
          have hJ2 : TJ NX.length (nxL NX) ⟨bif bget s.on b then lowT s v (ig s.ix b) else s, W, v, k + 1⟩ := hJ.edge hnx hb0 h0
          refine ⟨⟨by (try dsimp only); omega, by (try dsimp only); rw [bRows_len]; (try dsimp only); omega⟩, ?_⟩
          refine ⟨_, bRows_get (M := s.on) hb2.1 (by omega), ?_⟩
          refine ⟨fun h => ?_, fun h => ?_⟩
          · rw [if_pos h] at hrun
            rw [show bget s.on b = true from h, cond_true] at hJ2
            have hgw2 : ((wRows (W ++ [(v, k)]) : List (List Value)).set (((wRows (W ++ [(v, k)]) : List (List Value)).length : Int) - 1).toNat [.int .i64 v, .int .i64 (k + 1)])[(((wRows (W ++ [(v, k)]) : List (List Value)).length : Int) - 1).toNat]? = some [.int .i64 v, .int .i64 (k + 1)] := by
              rw [List.getElem?_set_self (by omega)]
            refine ⟨some ([3], [0, 1, 2, 3, 4, 5, 6, 7, 8, 9, 10, 11, 12, 13, 14, 15, 16, 17, 18, 19, 20, 21, 22, 23, 24, 25, 26, 27]), by kernel_rfl, ?_⟩
            refine ⟨_, hgw2, ?_⟩
            refine ⟨_, hgw2, ?_⟩
            refine ⟨⟨by (try dsimp only); omega, by (try dsimp only); rw [iRows_len]; (try dsimp only); omega⟩, ?_⟩
            refine ⟨_, iRows_at (L := s.lo) hv2.1 (by omega), ?_⟩
            refine ⟨⟨by (try dsimp only); omega, by (try dsimp only); rw [iRows_len]; (try dsimp only); omega⟩, ?_⟩
            refine ⟨_, iRows_at (L := s.ix) hb2.1 (by omega), ?_⟩
            refine ⟨⟨by (try dsimp only); omega, by (try dsimp only); rw [iRows_len]; (try dsimp only); omega⟩, ?_⟩
            refine ⟨_, iRows_at (L := s.lo) hv2.1 (by omega), ?_⟩
            have e1 : (iRows s.lo).set v.toNat [.int .i64 (min (ig s.lo v) (ig s.ix b))] = iRows (lowT s v (ig s.ix b)).lo := iRows_set _ _ _
            refine ⟨(false, ad, ⟨lowT s v (ig s.ix b), W, v, k + 1⟩, pcss, n), [(0, 0), (1, 1), (2, 2), (3, 3), (4, 4), (6, 6), (8, 8)], rfl, ?_, ⟨⟨hle, hJ2, hcc, hrc, hrp, hrun⟩, hfz⟩, Nat.lt_succ_self _⟩
            (repeat' (first | exact trivial | refine ⟨?_, ?_⟩ | exact rfl | assumption))
          · rw [if_neg (by rw [h]; decide)] at hrun
            rw [show bget s.on b = false from h, cond_false] at hJ2
            refine ⟨(false, ad, ⟨s, W, v, k + 1⟩, pcss, n), [(0, 0), (1, 1), (2, 2), (3, 3), (4, 4), (6, 6), (8, 8)], rfl, ?_, ⟨⟨hle, hJ2, hcc, hrc, hrp, hrun⟩, hfz⟩, Nat.lt_succ_self _⟩
            (repeat' (first | exact trivial | refine ⟨?_, ?_⟩ | exact rfl | assumption))
      · have hge : (nxL NX v).length ≤ k := by have := df h; omega
        have hb0 : (nxL NX v)[k]? = none := List.getElem?_eq_none hge
        rw [stpT] at hrun
        dsimp only at hrun
        rw [hb0] at hrun
        dsimp only at hrun
        have ew : (wRows (W ++ [(v, k)]) : List (List Value)).take (((wRows (W ++ [(v, k)]) : List (List Value)).length : Int) - 1).toNat = wRows W := by
          rw [hew, show (((W.length + 1 : Nat) : Int) - 1).toNat = W.length by omega, hwr]; simp
        have hwl : ((wRows (W ++ [(v, k)]) : List (List Value)).take (((wRows (W ++ [(v, k)]) : List (List Value)).length : Int) - 1).toNat).length = W.length := by rw [ew, wRows_len]
        refine ⟨_, hgw, ?_⟩
        refine ⟨[0, 1, 2, 3, 4, 6], rfl, leave_frz (s := s) (pcss := pcss) (by omega) (by omega) (by omega) (by omega) (by rw [hlx]; exact hnn) hJ.nd hvs (by omega) hfz (rl_row hfz hinI) (fun hne => ?_) (fun he a2 x H2 hle2 hra2 hx2 hn2 => ?_)⟩
        · have hlv : leaveT s v = s := by rw [leaveT, if_neg hne]
          rw [hlv] at hrun
          refine ⟨⟨by show _ ≤ ((wRows (W ++ [(v, k)]) : List (List Value)).length : Int) - 1; omega, by show ((wRows (W ++ [(v, k)]) : List (List Value)).length : Int) - 1 ≤ _; omega⟩, ?_⟩
          refine .inl ⟨⟨by show _ ≤ ((wRows (W ++ [(v, k)]) : List (List Value)).length : Int) - 1; omega, by show ((wRows (W ++ [(v, k)]) : List (List Value)).length : Int) - 1 ≤ ((wRows (W ++ [(v, k)]) : List (List Value)).length : Int); omega⟩, ?_⟩
          refine ⟨fun h => ?_, fun h => ?_⟩
          · have hpos : 0 < W.length := by
              have this : (0 : Int) < (((wRows (W ++ [(v, k)]) : List (List Value)).take (((wRows (W ++ [(v, k)]) : List (List Value)).length : Int) - 1).toNat).length : Int) := dt h
              rw [hwl] at this
              omega
            obtain ⟨W1, u, j, hW1⟩ : ∃ W1 u j, W = W1 ++ [(u, j)] := by
              rcases List.eq_nil_or_concat W with h0 | ⟨W1, ⟨u, j⟩, h0⟩
              · rw [h0] at hpos; cases hpos
              · exact ⟨W1, u, j, by rw [h0, List.concat_eq_append]⟩
            have hu : nodeI NX.length u = true := hJ.nn u (hJ.gr u (by simp [TW.g, hW1]))
            have hu2 := dt hu
            have ew2 : (wRows (W ++ [(v, k)]) : List (List Value)).take (((wRows (W ++ [(v, k)]) : List (List Value)).length : Int) - 1).toNat = wRows (W1 ++ [(u, j)]) := by rw [ew, hW1]
            have hgu : ((wRows (W ++ [(v, k)]) : List (List Value)).take (((wRows (W ++ [(v, k)]) : List (List Value)).length : Int) - 1).toNat)[((((wRows (W ++ [(v, k)]) : List (List Value)).take (((wRows (W ++ [(v, k)]) : List (List Value)).length : Int) - 1).toNat).length : Int) - 1).toNat]? = some [.int .i64 u, .int .i64 j] := by
              rw [hwl, ew2, hW1, List.length_append, List.length_singleton, show (((W1.length + 1 : Nat) : Int) - 1).toNat = W1.length by omega, List.getElem?_map, List.getElem?_append_right (Nat.le_refl _), Nat.sub_self]; rfl
            refine ⟨⟨by show _ ≤ (((wRows (W ++ [(v, k)]) : List (List Value)).take (((wRows (W ++ [(v, k)]) : List (List Value)).length : Int) - 1).toNat).length : Int) - 1; omega, by show (((wRows (W ++ [(v, k)]) : List (List Value)).take (((wRows (W ++ [(v, k)]) : List (List Value)).length : Int) - 1).toNat).length : Int) - 1 ≤ _; omega⟩, ?_⟩
            refine ⟨⟨by show _ ≤ (((wRows (W ++ [(v, k)]) : List (List Value)).take (((wRows (W ++ [(v, k)]) : List (List Value)).length : Int) - 1).toNat).length : Int) - 1; omega, by show (((wRows (W ++ [(v, k)]) : List (List Value)).take (((wRows (W ++ [(v, k)]) : List (List Value)).length : Int) - 1).toNat).length : Int) - 1 < (((wRows (W ++ [(v, k)]) : List (List Value)).take (((wRows (W ++ [(v, k)]) : List (List Value)).length : Int) - 1).toNat).length : Int); omega⟩, ?_⟩
            refine ⟨_, hgu, ?_⟩
            refine ⟨some ([3], [0, 1, 2, 3, 4, 5, 6, 7, 8, 9, 10, 11, 12, 13, 14, 15, 16, 17, 18, 19, 20, 21, 22]), by kernel_rfl, ?_⟩
            refine ⟨⟨by (try dsimp only); omega, by (try dsimp only); rw [iRows_len]; (try dsimp only); omega⟩, ?_⟩
            refine ⟨_, iRows_at (L := s.lo) hu2.1 (by omega), ?_⟩
            refine ⟨⟨by (try dsimp only); omega, by (try dsimp only); rw [iRows_len]; (try dsimp only); omega⟩, ?_⟩
            refine ⟨_, iRows_at (L := s.lo) hv2.1 (by omega), ?_⟩
            refine ⟨⟨by (try dsimp only); omega, by (try dsimp only); rw [iRows_len]; (try dsimp only); omega⟩, ?_⟩
            refine ⟨_, iRows_at (L := s.lo) hu2.1 (by omega), ?_⟩
            have e1 : (iRows s.lo).set u.toNat [.int .i64 (min (ig s.lo u) (ig s.lo v))] = iRows (lowT s u (ig s.lo v)).lo := iRows_set _ _ _
            rw [hW1, List.getLast?_concat, List.dropLast_concat] at hrun
            dsimp only at hrun
            skip
            refine ⟨(false, ad, ⟨lowT s u (ig s.lo v), W1, u, j⟩, pcss, n), [(0, 0), (1, 1), (2, 2), (3, 3), (4, 4), (6, 6), (8, 10)], rfl, ?_, ⟨⟨hle, hJ.done hnx hb0 hW1 hne, hcc, hrc, hrp, hrun⟩, hfz⟩, Nat.lt_succ_self _⟩
            (repeat' (first | exact trivial | refine ⟨?_, ?_⟩ | exact rfl | assumption))
          · have hW0 : W = [] := List.eq_nil_of_length_eq_zero (by
              have this : ¬ (0 : Int) < (((wRows (W ++ [(v, k)]) : List (List Value)).take (((wRows (W ++ [(v, k)]) : List (List Value)).length : Int) - 1).toNat).length : Int) := df h
              rw [hwl] at this
              omega)
            have hroot : ig s.lo v = ig s.ix v := hJ.last_root hW0
            exact absurd hroot hne
        · have hlv : leaveT s v = ⟨s.ix, s.lo, clearM s.on (s.st.drop (s.st.idxOf v)), s.st.take (s.st.idxOf v), s.ct, s.pa ++ [gSort (s.st.drop (s.st.idxOf v))]⟩ := by rw [leaveT, if_pos he]
          have hne2 : gSort (s.st.drop (s.st.idxOf v)) ≠ [] := gsort_ne hvs
          refine ⟨⟨by show _ ≤ ((wRows (W ++ [(v, k)]) : List (List Value)).length : Int) - 1; omega, by show ((wRows (W ++ [(v, k)]) : List (List Value)).length : Int) - 1 ≤ _; omega⟩, ?_⟩
          refine .inl ⟨⟨by show _ ≤ ((wRows (W ++ [(v, k)]) : List (List Value)).length : Int) - 1; omega, by show ((wRows (W ++ [(v, k)]) : List (List Value)).length : Int) - 1 ≤ ((wRows (W ++ [(v, k)]) : List (List Value)).length : Int); omega⟩, ?_⟩
          refine ⟨fun h => ?_, fun h => ?_⟩
          · have hpos : 0 < W.length := by
              have this : (0 : Int) < (((wRows (W ++ [(v, k)]) : List (List Value)).take (((wRows (W ++ [(v, k)]) : List (List Value)).length : Int) - 1).toNat).length : Int) := dt h
              rw [hwl] at this
              omega
            obtain ⟨W1, u, j, hW1⟩ : ∃ W1 u j, W = W1 ++ [(u, j)] := by
              rcases List.eq_nil_or_concat W with h0 | ⟨W1, ⟨u, j⟩, h0⟩
              · rw [h0] at hpos; cases hpos
              · exact ⟨W1, u, j, by rw [h0, List.concat_eq_append]⟩
            have hu : nodeI NX.length u = true := hJ.nn u (hJ.gr u (by simp [TW.g, hW1]))
            have hu2 := dt hu
            have ew2 : (wRows (W ++ [(v, k)]) : List (List Value)).take (((wRows (W ++ [(v, k)]) : List (List Value)).length : Int) - 1).toNat = wRows (W1 ++ [(u, j)]) := by rw [ew, hW1]
            have hgu : ((wRows (W ++ [(v, k)]) : List (List Value)).take (((wRows (W ++ [(v, k)]) : List (List Value)).length : Int) - 1).toNat)[((((wRows (W ++ [(v, k)]) : List (List Value)).take (((wRows (W ++ [(v, k)]) : List (List Value)).length : Int) - 1).toNat).length : Int) - 1).toNat]? = some [.int .i64 u, .int .i64 j] := by
              rw [hwl, ew2, hW1, List.length_append, List.length_singleton, show (((W1.length + 1 : Nat) : Int) - 1).toNat = W1.length by omega, List.getElem?_map, List.getElem?_append_right (Nat.le_refl _), Nat.sub_self]; rfl
            refine ⟨⟨by show _ ≤ (((wRows (W ++ [(v, k)]) : List (List Value)).take (((wRows (W ++ [(v, k)]) : List (List Value)).length : Int) - 1).toNat).length : Int) - 1; omega, by show (((wRows (W ++ [(v, k)]) : List (List Value)).take (((wRows (W ++ [(v, k)]) : List (List Value)).length : Int) - 1).toNat).length : Int) - 1 ≤ _; omega⟩, ?_⟩
            refine ⟨⟨by show _ ≤ (((wRows (W ++ [(v, k)]) : List (List Value)).take (((wRows (W ++ [(v, k)]) : List (List Value)).length : Int) - 1).toNat).length : Int) - 1; omega, by show (((wRows (W ++ [(v, k)]) : List (List Value)).take (((wRows (W ++ [(v, k)]) : List (List Value)).length : Int) - 1).toNat).length : Int) - 1 < (((wRows (W ++ [(v, k)]) : List (List Value)).take (((wRows (W ++ [(v, k)]) : List (List Value)).length : Int) - 1).toNat).length : Int); omega⟩, ?_⟩
            refine ⟨_, hgu, ?_⟩
            refine ⟨some ([3], [0, 1, 2, 3, 4, 5, 6, 7, 8, 9, 10, 11, 12, 13, 14, 15, 16, 17, 18, 19, 20, 21, 22]), by kernel_rfl, ?_⟩
            refine ⟨⟨by (try dsimp only); omega, by (try dsimp only); rw [iRows_len]; (try dsimp only); omega⟩, ?_⟩
            refine ⟨_, iRows_at (L := s.lo) hu2.1 (by omega), ?_⟩
            refine ⟨⟨by (try dsimp only); omega, by (try dsimp only); rw [iRows_len]; (try dsimp only); omega⟩, ?_⟩
            refine ⟨_, iRows_at (L := s.lo) hv2.1 (by omega), ?_⟩
            refine ⟨⟨by (try dsimp only); omega, by (try dsimp only); rw [iRows_len]; (try dsimp only); omega⟩, ?_⟩
            refine ⟨_, iRows_at (L := s.lo) hu2.1 (by omega), ?_⟩
            have e1 : (iRows s.lo).set u.toNat [.int .i64 (min (ig s.lo u) (ig s.lo v))] = iRows (lowT ⟨s.ix, s.lo, clearM s.on (s.st.drop (s.st.idxOf v)), s.st.take (s.st.idxOf v), s.ct, s.pa ++ [gSort (s.st.drop (s.st.idxOf v))]⟩ u (ig s.lo v)).lo := iRows_set _ _ _
            rw [hW1, List.getLast?_concat, List.dropLast_concat] at hrun
            dsimp only at hrun
            have hJr : TJ NX.length (nxL NX) ⟨lowT (leaveT s v) u (ig s.lo v), W1, u, j⟩ := hJ.root hnx hb0 hW1 he
            rw [hlv] at hJr hrun
            dsimp only at hrun
            have hln : (s.st.take (s.st.idxOf v)).length = s.st.idxOf v := by
              have := List.idxOf_lt_length_of_mem hvs
              rw [List.length_take]; omega
            obtain ⟨ad2, had2⟩ := row_some hra2 (by
              intro e
              have h1 : u ∈ s.st.take (s.st.idxOf v) := hJr.gr u (by simp [TW.g])
              have h2 := List.length_pos_of_mem h1
              have h3 := congrArg List.length e
              rw [iRows_len, List.length_nil] at h3
              omega)
            have eS : SV.v (.slice a2 (s.st.idxOf v) (s.st.idxOf v)) = SV.v (.slice (some ad2) (s.st.take (s.st.idxOf v)).length (s.st.take (s.st.idxOf v)).length) := by rw [had2, hln]
            have hra3 : RowAt H2 (.slice (some ad2) (s.st.take (s.st.idxOf v)).length (s.st.take (s.st.idxOf v)).length) 1 (iRows (s.st.take (s.st.idxOf v))) := by rw [hln, ← had2]; exact hra2
            refine ⟨(false, ad2, ⟨lowT ⟨s.ix, s.lo, clearM s.on (s.st.drop (s.st.idxOf v)), s.st.take (s.st.idxOf v), s.ct, s.pa ++ [gSort (s.st.drop (s.st.idxOf v))]⟩ u (ig s.lo v), W1, u, j⟩, pcss ++ [[x]], n), [(0, 0), (1, 1), (2, 2), (3, 3), (4, 4), (6, 10), (8, 11)], rfl, ?_, ⟨⟨hle.trans hle2, hJr, hcc, hrc.up hle2, hrp.snoc hn2 hx2 hne2, hrun⟩, hra3⟩, Nat.lt_succ_self _⟩
            (repeat' (first | exact trivial | refine ⟨?_, ?_⟩ | exact rfl | assumption))
          · have hW0 : W = [] := List.eq_nil_of_length_eq_zero (by
              have this : ¬ (0 : Int) < (((wRows (W ++ [(v, k)]) : List (List Value)).take (((wRows (W ++ [(v, k)]) : List (List Value)).length : Int) - 1).toNat).length : Int) := df h
              rw [hwl] at this
              omega)
            have hroot : ig s.lo v = ig s.ix v := hJ.last_root hW0
            have hTI2 : TI NX.length (nxL NX) (leaveT s v) := hJ.last_TI hnx hb0 hW0 hcc
            rw [hW0] at hrun
            have hr2 : leaveT s v = r := by
              have hrun : some (leaveT s v) = some r := by rw [← hrun]; cases n <;> rfl
              exact Option.some.inj hrun
            rw [hr2] at hTI2
            rw [hlv] at hr2
            have hI0 : s.st.idxOf v = 0 := by
              have h1 : (s.st.take (s.st.idxOf v)) = [] := by
                have := hTI2.st
                rw [← hr2] at this
                exact this
              have h2 := List.length_pos_of_mem hvs
              have h3 := congrArg List.length h1
              rw [List.length_take, List.length_nil] at h3
              omega
            have eS : SV.v (.slice a2 (s.st.idxOf v) (s.st.idxOf v)) = SV.v (.slice a2 0 0) := by rw [hI0]
            have hra3 : RowAt H2 (.slice a2 0 0) 1 [] := by
              rw [hI0] at hra2
              exact hra2
            have hrp2 : RX HX H2 (pcss ++ [[x]]) r.pa := by
              rw [← hr2]
              exact hrp.snoc hn2 hx2 hne2
            have eix : iRows s.ix = iRows r.ix := by rw [← hr2]
            have elo : iRows s.lo = iRows r.lo := by rw [← hr2]
            have eon : bRows (clearM s.on (s.st.drop (s.st.idxOf v))) = bRows r.on := by rw [← hr2]
            have ect : SV.v (.int .i64 (s.ct : Int)) = SV.v (.int .i64 (r.ct : Int)) := by rw [← hr2]
            exact ⟨.tup [], [(0, .cells 84 [.own 1, .own 2, .own 3, .own 4, .v (.slice a2 0 0), .v (.int .i64 r.ct), .own 6]), (1, .row 27 1 css), (2, .row 3 1 (iRows r.ix)), (3, .row 3 1 (iRows r.lo)), (4, .row 4 1 (bRows r.on)), (6, .row 27 1 (pcss ++ [[x]]))], 7, [(0, 0), (1, 1), (2, 2), (3, 3), (4, 4), (6, 10)], by (repeat' (first | exact trivial | refine ⟨?_, ?_⟩ | exact rfl | assumption)),
              hK a2 (pcss ++ [[x]]) H2 (hle.trans hle2) hra3 (hrc.up hle2) hrp2 hTI2⟩
    · obtain ⟨s, W, v, k⟩ := t
      have hI : FI HX NX css r H H1 ⟨s, W, v, k⟩ pcss n := hI
      have hwr : wRows (W ++ [(v, k)]) = wRows (W ++ [(v, k)]) := rfl
      obtain ⟨hle, hJ, hcc, hrc, hrp, hrun⟩ := hI
      obtain ⟨n, rfl⟩ : ∃ n', n = n' + 1 := by
        cases n with
        | zero => cases hrun
        | succ n => exact ⟨n, rfl⟩
      have hrun : runT (nxL NX) n (stpT (nxL NX) ⟨s, W, v, k⟩) = some r := hrun
      have hnx := nxL_nodes hX
      have hN := hX.1
      have hlx : s.ix.length = NX.length := hJ.lx
      have hll : s.lo.length = NX.length := hJ.ll
      have hlon : s.on.length = NX.length := hJ.lon
      have hv : nodeI NX.length v = true := hJ.nn v (hJ.vin hnx)
      have hv2 := dt hv
      have hvs : v ∈ s.st := hJ.vin hnx
      have hnn : ∀ x ∈ s.st, nodeI NX.length x = true := hJ.nn
      have hcl := hrc.1
      have hpl : pcss.length = s.pa.length := hrp.rc.1
      have hsl : s.st.length ≤ NX.length := by
        have := nodes_len (m := NX.length) hJ.nd hJ.nn
        simpa using this
      have hct : s.ct ≤ 1000 := by
        have h1 : s.ct + s.ix.count 0 = NX.length := hcc
        omega
      have hpan : s.pa.length ≤ 1000000 := parts_len hJ.pa hN
      have hwn : W.length ≤ 1000000 := by
        have h1 : ((⟨s, W, v, k⟩ : TW).g).length ≤ NX.length := by
          have := nodes_len (m := NX.length) (s := (⟨s, W, v, k⟩ : TW).g) (hJ.ginc.imp fun {x y} h e => by subst e; omega) (fun x hx => hJ.nn x (hJ.gr x hx))
          simpa using this
        simp only [TW.g, List.length_append, List.length_map, List.length_singleton] at h1
        omega
      obtain ⟨a1, n1, c1, hgc, hr1⟩ := rc_slice hrc (nxL_get hv)
      have hn1 := hr1.n_eq
      have hL1 := (hX.2 _ (nxL_mem hv)).1
      have hk1 : k ≤ (nxL NX v).length := hJ.k
      have hew : (wRows (W ++ [(v, k)]) : List (List Value)).length = W.length + 1 := by rw [hwr, List.length_map, List.length_append]; rfl
      have hgw : (wRows (W ++ [(v, k)]) : List (List Value))[(((wRows (W ++ [(v, k)]) : List (List Value)).length : Int) - 1).toNat]? = some [.int .i64 v, .int .i64 k] := by
        rw [hew, show (((W.length + 1 : Nat) : Int) - 1).toNat = W.length by omega, hwr, List.getElem?_map, List.getElem?_append_right (Nat.le_refl _), Nat.sub_self]; rfl
      refine ⟨⟨by show _ ≤ ((wRows (W ++ [(v, k)]) : List (List Value)).length : Int) - 1; omega, by show ((wRows (W ++ [(v, k)]) : List (List Value)).length : Int) - 1 ≤ _; omega⟩, ?_⟩
      refine ⟨⟨by show _ ≤ ((wRows (W ++ [(v, k)]) : List (List Value)).length : Int) - 1; omega, by show ((wRows (W ++ [(v, k)]) : List (List Value)).length : Int) - 1 < ((wRows (W ++ [(v, k)]) : List (List Value)).length : Int); omega⟩, ?_⟩
      refine ⟨some ([], [0, 1, 2, 3, 4, 5, 6, 7, 8, 9, 10, 11, 12, 13, 14, 15]), by kernel_rfl, ?_⟩
      refine ⟨_, hgw, ?_⟩
      refine ⟨_, hgw, ?_⟩
      refine ⟨⟨by (try dsimp only); omega, by (try dsimp only); omega⟩, ?_⟩
      refine ⟨_, hgc, ?_⟩
      refine ⟨fun h => ?_, fun h => ?_⟩
      · have hlt : k < (nxL NX v).length := by have := dt h; omega
        obtain ⟨ad2, cs2, q2, hh2, r3⟩ := hr1.elem (List.getElem?_eq_getElem hlt)
        obtain ⟨rfl, -⟩ := r3
        have hb0 : (nxL NX v)[k]? = some (nxL NX v)[k] := List.getElem?_eq_getElem hlt
        obtain ⟨b, hbb⟩ : ∃ b, b = (nxL NX v)[k] := ⟨_, rfl⟩
        rw [← hbb] at hb0 hh2
        have hb : nodeI NX.length b = true := hnx v b (List.mem_of_getElem? hb0)
        have hb2 := dt hb
        rw [stpT] at hrun
        dsimp only at hrun
        rw [hb0] at hrun
        dsimp only at hrun
        refine ⟨some ([], [0, 1, 2, 3, 4, 5, 6, 7, 8, 9, 10, 11, 12, 13, 14, 15, 16]), by kernel_rfl, ?_⟩
        refine ⟨_, hgw, ?_⟩
        refine ⟨⟨by (try dsimp only); omega, by (try dsimp only); omega⟩, ?_⟩
        refine ⟨_, hgc, ?_⟩
        refine ⟨_, hgw, ?_⟩
        refine ⟨ad2, ⟨by (try dsimp only); omega, by (try dsimp only); omega, q2⟩, ?_⟩
        refine ⟨_, hh2, ?_⟩
        refine ⟨_, hgw, ?_⟩
        refine ⟨⟨by (try dsimp only); omega, by (try dsimp only); omega⟩, ?_⟩
        refine ⟨_, hgw, ?_⟩
        have hset : (wRows (W ++ [(v, k)]) : List (List Value)).set (((wRows (W ++ [(v, k)]) : List (List Value)).length : Int) - 1).toNat [.int .i64 v, .int .i64 (k + 1)] = wRows (W ++ [(v, k + 1)]) := by
          rw [hew, show (((W.length + 1 : Nat) : Int) - 1).toNat = W.length by omega, hwr, wRows, List.map_append, List.set_append_right _ _ (by rw [List.length_map]; exact Nat.le_refl _), List.length_map, Nat.sub_self]
          simp
        refine ⟨⟨by (try dsimp only); omega, by (try dsimp only); rw [iRows_len]; (try dsimp only); omega⟩, ?_⟩
        refine ⟨_, iRows_at (L := s.ix) hb2.1 (by omega), ?_⟩
        refine ⟨fun h => ?_, fun h => ?_⟩
        · have h0 : ig s.ix b = 0 := dt h
          rw [if_pos h0] at hrun
          refine ⟨[0, 1, 2, 3, 4, 6, 7], rfl, enter_own (s := s) (pcss := pcss) (by omega) (by omega) (by omega) (by omega) (by rw [hlx]; exact hb)  ?_⟩
          refine ⟨room (n := ((wRows (W ++ [(v, k)]) : List (List Value)).set (((wRows (W ++ [(v, k)]) : List (List Value)).length : Int) - 1).toNat [.int .i64 v, .int .i64 (k + 1)]).length) (by rw [List.length_set, hew]; omega), ?_⟩
          have e1 : (wRows (W ++ [(v, k)]) : List (List Value)).set (((wRows (W ++ [(v, k)]) : List (List Value)).length : Int) - 1).toNat [.int .i64 v, .int .i64 (k + 1)] ++ [[.int .i64 b, .int .i64 0]] = wRows (W ++ [(v, k + 1)] ++ [(b, 0)]) := by rw [hset]; simp
          refine ⟨(true, ⟨0, 0, none⟩, ⟨enterT s b, W ++ [(v, k + 1)], b, 0⟩, pcss, n), [(0, 0), (1, 1), (2, 2), (3, 3), (4, 4), (6, 6), (7, 9), (8, 11)], rfl, ?_, ⟨⟨hle, hJ.enter hnx hb0 h0, cc_enter hlx hb h0 hcc, hrc, hrp, hrun⟩, trivial⟩, Nat.lt_succ_self _⟩
          (repeat' (first | exact trivial | refine ⟨?_, ?_⟩ | exact rfl | assumption))
        · have h0 : ig s.ix b ≠ 0 := df h
          rw [if_neg h0] at hrun
          have hJ2 : TJ NX.length (nxL NX) ⟨bif bget s.on b then lowT s v (ig s.ix b) else s, W, v, k + 1⟩ := hJ.edge hnx hb0 h0
          refine ⟨⟨by (try dsimp only); omega, by (try dsimp only); rw [bRows_len]; (try dsimp only); omega⟩, ?_⟩
          refine ⟨_, bRows_get (M := s.on) hb2.1 (by omega), ?_⟩
          refine ⟨fun h => ?_, fun h => ?_⟩
          · rw [if_pos h] at hrun
            rw [show bget s.on b = true from h, cond_true] at hJ2
            have hgw2 : ((wRows (W ++ [(v, k)]) : List (List Value)).set (((wRows (W ++ [(v, k)]) : List (List Value)).length : Int) - 1).toNat [.int .i64 v, .int .i64 (k + 1)])[(((wRows (W ++ [(v, k)]) : List (List Value)).length : Int) - 1).toNat]? = some [.int .i64 v, .int .i64 (k + 1)] := by
              rw [List.getElem?_set_self (by omega)]
            refine ⟨some ([3], [0, 1, 2, 3, 4, 5, 6, 7, 8, 9, 10, 11, 12, 13, 14, 15, 16, 17, 18, 19, 20, 21, 22, 23, 24, 25, 26, 27]), by kernel_rfl, ?_⟩
            refine ⟨_, hgw2, ?_⟩
            refine ⟨_, hgw2, ?_⟩
            refine ⟨⟨by (try dsimp only); omega, by (try dsimp only); rw [iRows_len]; (try dsimp only); omega⟩, ?_⟩
            refine ⟨_, iRows_at (L := s.lo) hv2.1 (by omega), ?_⟩
            refine ⟨⟨by (try dsimp only); omega, by (try dsimp only); rw [iRows_len]; (try dsimp only); omega⟩, ?_⟩
            refine ⟨_, iRows_at (L := s.ix) hb2.1 (by omega), ?_⟩
            refine ⟨⟨by (try dsimp only); omega, by (try dsimp only); rw [iRows_len]; (try dsimp only); omega⟩, ?_⟩
            refine ⟨_, iRows_at (L := s.lo) hv2.1 (by omega), ?_⟩
            have e1 : (iRows s.lo).set v.toNat [.int .i64 (min (ig s.lo v) (ig s.ix b))] = iRows (lowT s v (ig s.ix b)).lo := iRows_set _ _ _
            refine ⟨(true, ad, ⟨lowT s v (ig s.ix b), W, v, k + 1⟩, pcss, n), [(0, 0), (1, 1), (2, 2), (3, 3), (4, 4), (6, 6), (7, 7), (8, 8)], rfl, ?_, ⟨⟨hle, hJ2, hcc, hrc, hrp, hrun⟩, hfz⟩, Nat.lt_succ_self _⟩
            (repeat' (first | exact trivial | refine ⟨?_, ?_⟩ | exact rfl | assumption))
          · rw [if_neg (by rw [h]; decide)] at hrun
            rw [show bget s.on b = false from h, cond_false] at hJ2
            refine ⟨(true, ad, ⟨s, W, v, k + 1⟩, pcss, n), [(0, 0), (1, 1), (2, 2), (3, 3), (4, 4), (6, 6), (7, 7), (8, 8)], rfl, ?_, ⟨⟨hle, hJ2, hcc, hrc, hrp, hrun⟩, hfz⟩, Nat.lt_succ_self _⟩
            (repeat' (first | exact trivial | refine ⟨?_, ?_⟩ | exact rfl | assumption))
      · have hge : (nxL NX v).length ≤ k := by have := df h; omega
        have hb0 : (nxL NX v)[k]? = none := List.getElem?_eq_none hge
        rw [stpT] at hrun
        dsimp only at hrun
        rw [hb0] at hrun
        dsimp only at hrun
        have ew : (wRows (W ++ [(v, k)]) : List (List Value)).take (((wRows (W ++ [(v, k)]) : List (List Value)).length : Int) - 1).toNat = wRows W := by
          rw [hew, show (((W.length + 1 : Nat) : Int) - 1).toNat = W.length by omega, hwr]; simp
        have hwl : ((wRows (W ++ [(v, k)]) : List (List Value)).take (((wRows (W ++ [(v, k)]) : List (List Value)).length : Int) - 1).toNat).length = W.length := by rw [ew, wRows_len]
        refine ⟨_, hgw, ?_⟩
        refine ⟨[0, 1, 2, 3, 4, 6, 7], rfl, leave_own (s := s) (pcss := pcss) (by omega) (by omega) (by omega) (by omega) (by rw [hlx]; exact hnn) hJ.nd hvs (by omega)  (fun hne => ?_) (fun he a2 x H2 hle2 hra2 hx2 hn2 => ?_)⟩
        · have hlv : leaveT s v = s := by rw [leaveT, if_neg hne]
          rw [hlv] at hrun
          refine ⟨⟨by show _ ≤ ((wRows (W ++ [(v, k)]) : List (List Value)).length : Int) - 1; omega, by show ((wRows (W ++ [(v, k)]) : List (List Value)).length : Int) - 1 ≤ _; omega⟩, ?_⟩
          refine .inl ⟨⟨by show _ ≤ ((wRows (W ++ [(v, k)]) : List (List Value)).length : Int) - 1; omega, by show ((wRows (W ++ [(v, k)]) : List (List Value)).length : Int) - 1 ≤ ((wRows (W ++ [(v, k)]) : List (List Value)).length : Int); omega⟩, ?_⟩
          refine ⟨fun h => ?_, fun h => ?_⟩
          · have hpos : 0 < W.length := by
              have this : (0 : Int) < (((wRows (W ++ [(v, k)]) : List (List Value)).take (((wRows (W ++ [(v, k)]) : List (List Value)).length : Int) - 1).toNat).length : Int) := dt h
              rw [hwl] at this
              omega
            obtain ⟨W1, u, j, hW1⟩ : ∃ W1 u j, W = W1 ++ [(u, j)] := by
              rcases List.eq_nil_or_concat W with h0 | ⟨W1, ⟨u, j⟩, h0⟩
              · rw [h0] at hpos; cases hpos
              · exact ⟨W1, u, j, by rw [h0, List.concat_eq_append]⟩
            have hu : nodeI NX.length u = true := hJ.nn u (hJ.gr u (by simp [TW.g, hW1]))
            have hu2 := dt hu
            have ew2 : (wRows (W ++ [(v, k)]) : List (List Value)).take (((wRows (W ++ [(v, k)]) : List (List Value)).length : Int) - 1).toNat = wRows (W1 ++ [(u, j)]) := by rw [ew, hW1]
            have hgu : ((wRows (W ++ [(v, k)]) : List (List Value)).take (((wRows (W ++ [(v, k)]) : List (List Value)).length : Int) - 1).toNat)[((((wRows (W ++ [(v, k)]) : List (List Value)).take (((wRows (W ++ [(v, k)]) : List (List Value)).length : Int) - 1).toNat).length : Int) - 1).toNat]? = some [.int .i64 u, .int .i64 j] := by
              rw [hwl, ew2, hW1, List.length_append, List.length_singleton, show (((W1.length + 1 : Nat) : Int) - 1).toNat = W1.length by omega, List.getElem?_map, List.getElem?_append_right (Nat.le_refl _), Nat.sub_self]; rfl
            refine ⟨⟨by show _ ≤ (((wRows (W ++ [(v, k)]) : List (List Value)).take (((wRows (W ++ [(v, k)]) : List (List Value)).length : Int) - 1).toNat).length : Int) - 1; omega, by show (((wRows (W ++ [(v, k)]) : List (List Value)).take (((wRows (W ++ [(v, k)]) : List (List Value)).length : Int) - 1).toNat).length : Int) - 1 ≤ _; omega⟩, ?_⟩
            refine ⟨⟨by show _ ≤ (((wRows (W ++ [(v, k)]) : List (List Value)).take (((wRows (W ++ [(v, k)]) : List (List Value)).length : Int) - 1).toNat).length : Int) - 1; omega, by show (((wRows (W ++ [(v, k)]) : List (List Value)).take (((wRows (W ++ [(v, k)]) : List (List Value)).length : Int) - 1).toNat).length : Int) - 1 < (((wRows (W ++ [(v, k)]) : List (List Value)).take (((wRows (W ++ [(v, k)]) : List (List Value)).length : Int) - 1).toNat).length : Int); omega⟩, ?_⟩
            refine ⟨_, hgu, ?_⟩
            refine ⟨some ([3], [0, 1, 2, 3, 4, 5, 6, 7, 8, 9, 10, 11, 12, 13, 14, 15, 16, 17, 18, 19, 20, 21, 22]), by kernel_rfl, ?_⟩
            refine ⟨⟨by (try dsimp only); omega, by (try dsimp only); rw [iRows_len]; (try dsimp only); omega⟩, ?_⟩
            refine ⟨_, iRows_at (L := s.lo) hu2.1 (by omega), ?_⟩
            refine ⟨⟨by (try dsimp only); omega, by (try dsimp only); rw [iRows_len]; (try dsimp only); omega⟩, ?_⟩
            refine ⟨_, iRows_at (L := s.lo) hv2.1 (by omega), ?_⟩
            refine ⟨⟨by (try dsimp only); omega, by (try dsimp only); rw [iRows_len]; (try dsimp only); omega⟩, ?_⟩
            refine ⟨_, iRows_at (L := s.lo) hu2.1 (by omega), ?_⟩
            have e1 : (iRows s.lo).set u.toNat [.int .i64 (min (ig s.lo u) (ig s.lo v))] = iRows (lowT s u (ig s.lo v)).lo := iRows_set _ _ _
            rw [hW1, List.getLast?_concat, List.dropLast_concat] at hrun
            dsimp only at hrun
            skip
            refine ⟨(true, ad, ⟨lowT s u (ig s.lo v), W1, u, j⟩, pcss, n), [(0, 0), (1, 1), (2, 2), (3, 3), (4, 4), (6, 6), (7, 7), (8, 10)], rfl, ?_, ⟨⟨hle, hJ.done hnx hb0 hW1 hne, hcc, hrc, hrp, hrun⟩, hfz⟩, Nat.lt_succ_self _⟩
            (repeat' (first | exact trivial | refine ⟨?_, ?_⟩ | exact rfl | assumption))
          · have hW0 : W = [] := List.eq_nil_of_length_eq_zero (by
              have this : ¬ (0 : Int) < (((wRows (W ++ [(v, k)]) : List (List Value)).take (((wRows (W ++ [(v, k)]) : List (List Value)).length : Int) - 1).toNat).length : Int) := df h
              rw [hwl] at this
              omega)
            have hroot : ig s.lo v = ig s.ix v := hJ.last_root hW0
            exact absurd hroot hne
        · have hlv : leaveT s v = ⟨s.ix, s.lo, clearM s.on (s.st.drop (s.st.idxOf v)), s.st.take (s.st.idxOf v), s.ct, s.pa ++ [gSort (s.st.drop (s.st.idxOf v))]⟩ := by rw [leaveT, if_pos he]
          have hne2 : gSort (s.st.drop (s.st.idxOf v)) ≠ [] := gsort_ne hvs
          refine ⟨⟨by show _ ≤ ((wRows (W ++ [(v, k)]) : List (List Value)).length : Int) - 1; omega, by show ((wRows (W ++ [(v, k)]) : List (List Value)).length : Int) - 1 ≤ _; omega⟩, ?_⟩
          refine .inl ⟨⟨by show _ ≤ ((wRows (W ++ [(v, k)]) : List (List Value)).length : Int) - 1; omega, by show ((wRows (W ++ [(v, k)]) : List (List Value)).length : Int) - 1 ≤ ((wRows (W ++ [(v, k)]) : List (List Value)).length : Int); omega⟩, ?_⟩
          refine ⟨fun h => ?_, fun h => ?_⟩
          · have hpos : 0 < W.length := by
              have this : (0 : Int) < (((wRows (W ++ [(v, k)]) : List (List Value)).take (((wRows (W ++ [(v, k)]) : List (List Value)).length : Int) - 1).toNat).length : Int) := dt h
              rw [hwl] at this
              omega
            obtain ⟨W1, u, j, hW1⟩ : ∃ W1 u j, W = W1 ++ [(u, j)] := by
              rcases List.eq_nil_or_concat W with h0 | ⟨W1, ⟨u, j⟩, h0⟩
              · rw [h0] at hpos; cases hpos
              · exact ⟨W1, u, j, by rw [h0, List.concat_eq_append]⟩
            have hu : nodeI NX.length u = true := hJ.nn u (hJ.gr u (by simp [TW.g, hW1]))
            have hu2 := dt hu
            have ew2 : (wRows (W ++ [(v, k)]) : List (List Value)).take (((wRows (W ++ [(v, k)]) : List (List Value)).length : Int) - 1).toNat = wRows (W1 ++ [(u, j)]) := by rw [ew, hW1]
            have hgu : ((wRows (W ++ [(v, k)]) : List (List Value)).take (((wRows (W ++ [(v, k)]) : List (List Value)).length : Int) - 1).toNat)[((((wRows (W ++ [(v, k)]) : List (List Value)).take (((wRows (W ++ [(v, k)]) : List (List Value)).length : Int) - 1).toNat).length : Int) - 1).toNat]? = some [.int .i64 u, .int .i64 j] := by
              rw [hwl, ew2, hW1, List.length_append, List.length_singleton, show (((W1.length + 1 : Nat) : Int) - 1).toNat = W1.length by omega, List.getElem?_map, List.getElem?_append_right (Nat.le_refl _), Nat.sub_self]; rfl
            refine ⟨⟨by show _ ≤ (((wRows (W ++ [(v, k)]) : List (List Value)).take (((wRows (W ++ [(v, k)]) : List (List Value)).length : Int) - 1).toNat).length : Int) - 1; omega, by show (((wRows (W ++ [(v, k)]) : List (List Value)).take (((wRows (W ++ [(v, k)]) : List (List Value)).length : Int) - 1).toNat).length : Int) - 1 ≤ _; omega⟩, ?_⟩
            refine ⟨⟨by show _ ≤ (((wRows (W ++ [(v, k)]) : List (List Value)).take (((wRows (W ++ [(v, k)]) : List (List Value)).length : Int) - 1).toNat).length : Int) - 1; omega, by show (((wRows (W ++ [(v, k)]) : List (List Value)).take (((wRows (W ++ [(v, k)]) : List (List Value)).length : Int) - 1).toNat).length : Int) - 1 < (((wRows (W ++ [(v, k)]) : List (List Value)).take (((wRows (W ++ [(v, k)]) : List (List Value)).length : Int) - 1).toNat).length : Int); omega⟩, ?_⟩
            refine ⟨_, hgu, ?_⟩
            refine ⟨some ([3], [0, 1, 2, 3, 4, 5, 6, 7, 8, 9, 10, 11, 12, 13, 14, 15, 16, 17, 18, 19, 20, 21, 22]), by kernel_rfl, ?_⟩
            refine ⟨⟨by (try dsimp only); omega, by (try dsimp only); rw [iRows_len]; (try dsimp only); omega⟩, ?_⟩
            refine ⟨_, iRows_at (L := s.lo) hu2.1 (by omega), ?_⟩
            refine ⟨⟨by (try dsimp only); omega, by (try dsimp only); rw [iRows_len]; (try dsimp only); omega⟩, ?_⟩
            refine ⟨_, iRows_at (L := s.lo) hv2.1 (by omega), ?_⟩
            refine ⟨⟨by (try dsimp only); omega, by (try dsimp only); rw [iRows_len]; (try dsimp only); omega⟩, ?_⟩
            refine ⟨_, iRows_at (L := s.lo) hu2.1 (by omega), ?_⟩
            have e1 : (iRows s.lo).set u.toNat [.int .i64 (min (ig s.lo u) (ig s.lo v))] = iRows (lowT ⟨s.ix, s.lo, clearM s.on (s.st.drop (s.st.idxOf v)), s.st.take (s.st.idxOf v), s.ct, s.pa ++ [gSort (s.st.drop (s.st.idxOf v))]⟩ u (ig s.lo v)).lo := iRows_set _ _ _
            rw [hW1, List.getLast?_concat, List.dropLast_concat] at hrun
            dsimp only at hrun
            have hJr : TJ NX.length (nxL NX) ⟨lowT (leaveT s v) u (ig s.lo v), W1, u, j⟩ := hJ.root hnx hb0 hW1 he
            rw [hlv] at hJr hrun
            dsimp only at hrun
            have hln : (s.st.take (s.st.idxOf v)).length = s.st.idxOf v := by
              have := List.idxOf_lt_length_of_mem hvs
              rw [List.length_take]; omega
            obtain ⟨ad2, had2⟩ := row_some hra2 (by
              intro e
              have h1 : u ∈ s.st.take (s.st.idxOf v) := hJr.gr u (by simp [TW.g])
              have h2 := List.length_pos_of_mem h1
              have h3 := congrArg List.length e
              rw [iRows_len, List.length_nil] at h3
              omega)
            have eS : SV.v (.slice a2 (s.st.idxOf v) (s.st.idxOf v)) = SV.v (.slice (some ad2) (s.st.take (s.st.idxOf v)).length (s.st.take (s.st.idxOf v)).length) := by rw [had2, hln]
            have hra3 : RowAt H2 (.slice (some ad2) (s.st.take (s.st.idxOf v)).length (s.st.take (s.st.idxOf v)).length) 1 (iRows (s.st.take (s.st.idxOf v))) := by rw [hln, ← had2]; exact hra2
            refine ⟨(false, ad2, ⟨lowT ⟨s.ix, s.lo, clearM s.on (s.st.drop (s.st.idxOf v)), s.st.take (s.st.idxOf v), s.ct, s.pa ++ [gSort (s.st.drop (s.st.idxOf v))]⟩ u (ig s.lo v), W1, u, j⟩, pcss ++ [[x]], n), [(0, 0), (1, 1), (2, 2), (3, 3), (4, 4), (6, 10), (8, 11)], rfl, ?_, ⟨⟨hle.trans hle2, hJr, hcc, hrc.up hle2, hrp.snoc hn2 hx2 hne2, hrun⟩, hra3⟩, Nat.lt_succ_self _⟩
            (repeat' (first | exact trivial | refine ⟨?_, ?_⟩ | exact rfl | assumption))
          · have hW0 : W = [] := List.eq_nil_of_length_eq_zero (by
              have this : ¬ (0 : Int) < (((wRows (W ++ [(v, k)]) : List (List Value)).take (((wRows (W ++ [(v, k)]) : List (List Value)).length : Int) - 1).toNat).length : Int) := df h
              rw [hwl] at this
              omega)
            have hroot : ig s.lo v = ig s.ix v := hJ.last_root hW0
            have hTI2 : TI NX.length (nxL NX) (leaveT s v) := hJ.last_TI hnx hb0 hW0 hcc
            rw [hW0] at hrun
            have hr2 : leaveT s v = r := by
              have hrun : some (leaveT s v) = some r := by rw [← hrun]; cases n <;> rfl
              exact Option.some.inj hrun
            rw [hr2] at hTI2
            rw [hlv] at hr2
            have hI0 : s.st.idxOf v = 0 := by
              have h1 : (s.st.take (s.st.idxOf v)) = [] := by
                have := hTI2.st
                rw [← hr2] at this
                exact this
              have h2 := List.length_pos_of_mem hvs
              have h3 := congrArg List.length h1
              rw [List.length_take, List.length_nil] at h3
              omega
            have eS : SV.v (.slice a2 (s.st.idxOf v) (s.st.idxOf v)) = SV.v (.slice a2 0 0) := by rw [hI0]
            have hra3 : RowAt H2 (.slice a2 0 0) 1 [] := by
              rw [hI0] at hra2
              exact hra2
            have hrp2 : RX HX H2 (pcss ++ [[x]]) r.pa := by
              rw [← hr2]
              exact hrp.snoc hn2 hx2 hne2
            have eix : iRows s.ix = iRows r.ix := by rw [← hr2]
            have elo : iRows s.lo = iRows r.lo := by rw [← hr2]
            have eon : bRows (clearM s.on (s.st.drop (s.st.idxOf v))) = bRows r.on := by rw [← hr2]
            have ect : SV.v (.int .i64 (s.ct : Int)) = SV.v (.int .i64 (r.ct : Int)) := by rw [← hr2]
            exact ⟨.tup [], [(0, .cells 84 [.own 1, .own 2, .own 3, .own 4, .v (.slice a2 0 0), .v (.int .i64 r.ct), .own 6]), (1, .row 27 1 css), (2, .row 3 1 (iRows r.ix)), (3, .row 3 1 (iRows r.lo)), (4, .row 4 1 (bRows r.on)), (6, .row 27 1 (pcss ++ [[x]]))], 7, [(0, 0), (1, 1), (2, 2), (3, 3), (4, 4), (6, 10)], by (repeat' (first | exact trivial | refine ⟨?_, ?_⟩ | exact rfl | assumption)),
              hK a2 (pcss ++ [[x]]) H2 (hle.trans hle2) hra3 (hrc.up hle2) hrp2 hTI2⟩
end Go.Proofs
end
section
namespace Go.Proofs
open Go.Sy
/-! The order of the parts. -/
def hdL (p : List Int) : Int := p[0]?.getD 0
def freeP (l : List Edg) (p T : List Int) : Prop := ∀ e ∈ l, e.2 ∈ p → e.1 ∈ p ∨ e.1 ∈ T
/-- The part that is told next. -/
structure NextP (l : List Edg) (pa out : List (List Int)) (p : List Int) : Prop where
  mem : p ∈ pa
  new : p ∉ out
  free : freeP l p out.flatten
  min : ∀ q ∈ pa, q ∉ out → freeP l q out.flatten → hdL p ≤ hdL q
/-- Parts, told in order. -/
def IsOrd (l : List Edg) (pa out : List (List Int)) : Prop := ∀ i, (h : i < out.length) → NextP l pa (out.take i) out[i]
theorem isOrd_nil (l : List Edg) (pa : List (List Int)) : IsOrd l pa [] := fun i h => by cases h
theorem isOrd_snoc {l : List Edg} {pa out : List (List Int)} {p : List Int} (h : IsOrd l pa out) (hp : NextP l pa out p) : IsOrd l pa (out ++ [p]) := fun i hi => by
  rw [List.length_append, List.length_singleton] at hi
  by_cases e : i < out.length
  · rw [List.take_append_of_le_length (by omega), List.getElem_append_left e]
    exact h i e
  · have e : i = out.length := by omega
    subst e
    rw [List.take_left, List.getElem_append_right (Nat.le_refl _)]
    simpa using hp
theorem isOrd_mem {l : List Edg} {pa out : List (List Int)} (h : IsOrd l pa out) : ∀ p ∈ out, p ∈ pa := fun p hp => by
  obtain ⟨i, hi, rfl⟩ := List.getElem_of_mem hp
  exact (h i hi).mem
theorem isOrd_nodup {l : List Edg} {pa out : List (List Int)} (h : IsOrd l pa out) : out.Nodup := by
  rw [List.nodup_iff_pairwise_ne, List.pairwise_iff_getElem]
  intro i j hi hj hij e
  refine (h j hj).new ?_
  rw [← e]
  exact List.mem_iff_getElem.2 ⟨i, by rw [List.length_take]; omega, by rw [List.getElem_take]⟩
/-- Parts whose first nodes are alike are alike. -/
def HdInj (pa : List (List Int)) : Prop := ∀ p ∈ pa, ∀ q ∈ pa, hdL p = hdL q → p = q
theorem nextP_uniq {l : List Edg} {pa out : List (List Int)} (hh : HdInj pa) {p q : List Int} (h : NextP l pa out p) (h' : NextP l pa out q) : p = q :=
  hh p h.mem q h'.mem (Int.le_antisymm (h.min q h'.mem h'.new h'.free) (h'.min p h.mem h.new h.free))
theorem isOrd_uniq {l : List Edg} {pa : List (List Int)} (hh : HdInj pa) : ∀ {out out' : List (List Int)}, IsOrd l pa out → IsOrd l pa out' → out.length = out'.length → out = out' := by
  intro out out' h h' hl
  have key : ∀ i, i ≤ out.length → out.take i = out'.take i := by
    intro i
    induction i with
    | zero => intro _; rfl
    | succ i ih =>
      intro hi
      have e := ih (by omega)
      have h1 := h i (by omega)
      have h2 := h' i (by omega)
      rw [← e] at h2
      have h3 := nextP_uniq hh h1 h2
      rw [List.take_add_one, List.take_add_one, e, List.getElem?_eq_getElem (by omega : i < out.length), List.getElem?_eq_getElem (by omega : i < out'.length), h3]
  have := key out.length (Nat.le_refl _)
  rwa [List.take_length, hl, List.take_length] at this
/-- NextP does not ask for the list's order. -/
theorem nextP_congr {l : List Edg} {pa pa' out : List (List Int)} (hm : ∀ p, p ∈ pa ↔ p ∈ pa') {p : List Int} (h : NextP l pa out p) : NextP l pa' out p :=
  ⟨(hm p).1 h.mem, h.new, h.free, fun q hq => h.min q ((hm q).2 hq)⟩
theorem isOrd_congr {l : List Edg} {pa pa' out : List (List Int)} (hm : ∀ p, p ∈ pa ↔ p ∈ pa') (h : IsOrd l pa out) : IsOrd l pa' out := fun i hi => nextP_congr hm (h i hi)
/-- The parts of a graph, all of them. -/
structure AllP (m : Int) (l : List Edg) (pa : List (List Int)) : Prop where
  tp : TP m.toNat (gnx m l) pa
  all : ∀ x, nodeI m x = true → x ∈ pa.flatten
  edges : ∀ e ∈ l, nodeI m e.1 = true ∧ nodeI m e.2 = true
theorem AllP.part {m : Int} {l : List Edg} {pa : List (List Int)} (h : AllP m l pa) {x : Int} {p q : List Int} (hp : p ∈ pa) (hq : q ∈ pa) (hxp : x ∈ p) (hxq : x ∈ q) : p = q := by
  have hstr : ∀ {p q : List Int}, p ∈ pa → q ∈ pa → x ∈ p → x ∈ q → ∀ y, y ∈ p → y ∈ q := fun hp hq hxp hxq y hy =>
    ((h.tp.ok _ hq).mem x hxq y).2 (((h.tp.ok _ hp).mem x hxp y).1 hy)
  exact strict_ext (h.tp.ok p hp).str (h.tp.ok q hq).str fun y => ⟨hstr hp hq hxp hxq y, hstr hq hp hxq hxp y⟩
theorem PartOK.hd {nx : Int → List Int} {p : List Int} (h : PartOK nx p) : hdL p ∈ p := by
  cases p with
  | nil => exact absurd rfl h.ne
  | cons x r => simp [hdL]
theorem AllP.hinj {m : Int} {l : List Edg} {pa : List (List Int)} (h : AllP m l pa) : HdInj pa := fun p hp q hq e =>
  h.part hp hq (h.tp.ok p hp).hd (e ▸ (h.tp.ok q hq).hd)
/-- As long as a part isn't told, one may be told. -/
theorem AllP.exists_free {m : Int} {l : List Edg} {pa : List (List Int)} (h : AllP m l pa) {out : List (List Int)} (hout : ∀ q ∈ out, q ∈ pa) (hne : ∃ p ∈ pa, p ∉ out) : ∃ q ∈ pa, q ∉ out ∧ freeP l q out.flatten := by
  have key : ∀ (n : Nat) (A B : List (List Int)), A.length = n → pa = A ++ B → (∀ q ∈ B, q ∈ out) → (∃ p ∈ A, p ∉ out) → ∃ q ∈ pa, q ∉ out ∧ freeP l q out.flatten := by
    intro n
    induction n with
    | zero =>
      intro A B hA _ _ ⟨p, hp, _⟩
      rw [List.eq_nil_of_length_eq_zero hA] at hp
      cases hp
    | succ n ih =>
      intro A B hA hpa hB hex
      rcases List.eq_nil_or_concat A with rfl | ⟨A', q, hA'⟩
      · cases hA
      · rw [List.concat_eq_append] at hA'
        subst hA'
        by_cases hq : q ∈ out
        · refine ih A' (q :: B) (by simpa using hA) (by rw [hpa]; simp) (fun r hr => ?_) ?_
          · rcases List.mem_cons.1 hr with rfl | hr
            · exact hq
            · exact hB r hr
          · obtain ⟨p, hp, hpo⟩ := hex
            rcases List.mem_append.1 hp with hp | hp
            · exact ⟨p, hp, hpo⟩
            · rw [List.mem_singleton] at hp; subst hp; exact absurd hq hpo
        · refine ⟨q, by rw [hpa]; simp, hq, fun e he h2 => ?_⟩
          obtain ⟨g1, g2⟩ := h.edges e he
          obtain ⟨r, hr, h1⟩ := List.mem_flatten.1 (h.all e.1 g1)
          rw [hpa] at hr
          rcases List.mem_append.1 hr with hr | hr
          · rcases List.mem_append.1 hr with hr | hr
            · exfalso
              have h3 : e.2 ∈ gnx m l e.1 := (gSort_mem _ _).2 (nxt_mem.2 ⟨by exact he, g1, g2⟩)
              have h4 := h.tp.cl A' (q :: B) (by rw [hpa]; simp) e.1 (List.mem_flatten.2 ⟨r, hr, h1⟩) e.2 h3
              have hnd := h.tp.nd
              rw [hpa, List.append_assoc, List.flatten_append, List.nodup_append] at hnd
              exact hnd.2.2 e.2 h4 e.2 (by simp [h2]) rfl
            · rw [List.mem_singleton] at hr
              subst hr
              exact .inl h1
          · exact .inr (List.mem_flatten.2 ⟨r, hB r hr, h1⟩)
  exact key pa.length pa [] rfl (by simp) (by simp) hne
theorem TP.nodup {N : Nat} {nx : Int → List Int} {pa : List (List Int)} (h : TP N nx pa) : pa.Nodup := by
  have key : ∀ (pa : List (List Int)), pa.flatten.Nodup → (∀ p ∈ pa, p ≠ []) → pa.Nodup := by
    intro pa
    induction pa with
    | nil => intros; exact List.nodup_nil
    | cons p r ih =>
      intro hnd hne
      rw [List.flatten_cons, List.nodup_append] at hnd
      refine List.nodup_cons.2 ⟨fun hp => ?_, ih hnd.2.1 fun q hq => hne q (List.mem_cons_of_mem _ hq)⟩
      obtain ⟨x, hx⟩ := List.exists_mem_of_ne_nil p (hne p List.mem_cons_self)
      exact hnd.2.2 x hx x (List.mem_flatten.2 ⟨p, hp, hx⟩) rfl
  exact key pa h.nd fun p hp => (h.ok p hp).ne
/-! The program's search for the part that is told next. -/
def bestF (f : Nat → Bool) (pa : List (List Int)) : Nat → Int
  | 0 => -1
  | k + 1 => if f k = true ∧ (bestF f pa k < 0 ∨ hdL (pa[k]?.getD []) < hdL (pa[(bestF f pa k).toNat]?.getD [])) then (k : Int) else bestF f pa k
theorem bestF_ok (f : Nat → Bool) (pa : List (List Int)) : ∀ k, (bestF f pa k = -1 ∧ ∀ i, i < k → f i = false) ∨ (0 ≤ bestF f pa k ∧ bestF f pa k < k ∧ f (bestF f pa k).toNat = true ∧ ∀ i, i < k → f i = true → hdL (pa[(bestF f pa k).toNat]?.getD []) ≤ hdL (pa[i]?.getD []))
  | 0 => .inl ⟨rfl, fun i h => by cases h⟩
  | k + 1 => by
    rw [bestF]
    by_cases hf : f k = true
    · by_cases hc : bestF f pa k < 0 ∨ hdL (pa[k]?.getD []) < hdL (pa[(bestF f pa k).toNat]?.getD [])
      · rw [if_pos ⟨hf, hc⟩]
        right
        refine ⟨by omega, by omega, by rw [Int.toNat_natCast]; exact hf, fun i hi h => ?_⟩
        rw [Int.toNat_natCast]
        by_cases e : i = k
        · rw [e]; exact Int.le_refl _
        · rcases bestF_ok f pa k with ⟨_, h2⟩ | ⟨h1, _, _, h4⟩
          · rw [h2 i (by omega)] at h; cases h
          · have := h4 i (by omega) h
            rcases hc with hc | hc
            · omega
            · omega
      · rw [if_neg (fun h => hc h.2)]
        rcases bestF_ok f pa k with ⟨h1, _⟩ | ⟨h1, h2, h3, h4⟩
        · exact absurd (.inl (by omega)) hc
        · right
          refine ⟨h1, by omega, h3, fun i hi h => ?_⟩
          by_cases e : i = k
          · rw [e]
            by_cases hlt : hdL (pa[k]?.getD []) < hdL (pa[(bestF f pa k).toNat]?.getD [])
            · exact absurd (.inr hlt) hc
            · omega
          · exact h4 i (by omega) h
    · rw [if_neg (fun h => hf h.1)]
      rcases bestF_ok f pa k with ⟨h1, h2⟩ | ⟨h1, h2, h3, h4⟩
      · left
        refine ⟨h1, fun i hi => ?_⟩
        by_cases e : i = k
        · rw [e]; simpa using hf
        · exact h2 i (by omega)
      · right
        refine ⟨h1, by omega, h3, fun i hi h => ?_⟩
        by_cases e : i = k
        · rw [e] at h; exact absurd h hf
        · exact h4 i (by omega) h
end Go.Proofs
end
section
namespace Go.Proofs
open Go.Sy
/-! Of each node which part. -/
def setAll (L : List Int) (p : List Int) (i : Int) : List Int := p.foldl (fun L a => L.set a.toNat i) L
theorem setAll_len : ∀ (p : List Int) (L : List Int) (i : Int), (setAll L p i).length = L.length
  | [], _, _ => rfl
  | a :: p, L, i => by rw [setAll, List.foldl_cons, ← setAll, setAll_len p, List.length_set]
theorem setAll_get {N : Nat} : ∀ (p : List Int) {L : List Int}, L.length = N → (∀ x ∈ p, nodeI N x = true) → ∀ (i : Int) {y : Int}, nodeI N y = true → ig (setAll L p i) y = if y ∈ p then i else ig L y
  | [], L, _, _, i, y, _ => by simp [setAll]
  | a :: p, L, hl, hp, i, y, hy => by
    rw [setAll, List.foldl_cons, ← setAll, setAll_get p (by rw [List.length_set]; exact hl) (fun x hx => hp x (List.mem_cons_of_mem _ hx)) i hy, ig_set hl (hp a List.mem_cons_self) _ hy]
    by_cases h1 : y ∈ p
    · rw [if_pos h1, if_pos (List.mem_cons_of_mem _ h1)]
    · rw [if_neg h1]
      by_cases h2 : y = a
      · rw [if_pos h2, if_pos (by rw [h2]; exact List.mem_cons_self)]
      · rw [if_neg h2, if_neg (by simp [h1, h2])]
def whichK (N : Nat) (pa : List (List Int)) : Nat → List Int
  | 0 => List.replicate N 0
  | k + 1 => setAll (whichK N pa k) (pa[k]?.getD []) k
theorem whichK_len (N : Nat) (pa : List (List Int)) : ∀ k, (whichK N pa k).length = N
  | 0 => List.length_replicate
  | k + 1 => by rw [whichK, setAll_len, whichK_len N pa k]
theorem flat_disj {pa : List (List Int)} (h : pa.flatten.Nodup) {i j : Nat} {p q : List Int} (hi : pa[i]? = some p) (hj : pa[j]? = some q) {x : Int} (hx : x ∈ p) (hx' : x ∈ q) : i = j := by
  induction pa generalizing i j with
  | nil => cases hi
  | cons r pa ih =>
    rw [List.flatten_cons, List.nodup_append] at h
    match i, j with
    | 0, 0 => rfl
    | 0, j + 1 =>
      obtain rfl := Option.some.inj hi
      exact absurd rfl (h.2.2 x hx x (List.mem_flatten.2 ⟨q, List.mem_of_getElem? (by simpa using hj), hx'⟩))
    | i + 1, 0 =>
      obtain rfl := Option.some.inj hj
      exact absurd rfl (h.2.2 x hx' x (List.mem_flatten.2 ⟨p, List.mem_of_getElem? (by simpa using hi), hx⟩))
    | i + 1, j + 1 =>
      have := ih h.2.1 (i := i) (j := j) (by simpa using hi) (by simpa using hj)
      omega
theorem whichK_get {N : Nat} {pa : List (List Int)} (hn : ∀ x ∈ pa.flatten, nodeI N x = true) (hd : pa.flatten.Nodup) : ∀ (k : Nat) {i : Nat} {p : List Int}, i < k → pa[i]? = some p → ∀ x ∈ p, ig (whichK N pa k) x = i
  | 0, _, _, h, _, _, _ => by cases h
  | k + 1, i, p, h, hi, x, hx => by
    have hxn : nodeI N x = true := hn x (List.mem_flatten.2 ⟨p, List.mem_of_getElem? hi, hx⟩)
    rw [whichK, setAll_get (N := N) _ (whichK_len N pa k) (fun y hy => ?_) _ hxn]
    · by_cases e : i = k
      · subst e
        rw [hi, Option.getD_some, if_pos hx]
      · rw [if_neg (fun hm => ?_)]
        · exact whichK_get hn hd k (by omega) hi x hx
        · cases hk : pa[k]? with
          | none => rw [hk] at hm; cases hm
          | some q =>
            rw [hk, Option.getD_some] at hm
            exact e (flat_disj hd hi hk hx hm)
    · cases hk : pa[k]? with
      | none => rw [hk] at hy; cases hy
      | some q =>
        rw [hk, Option.getD_some] at hy
        exact hn y (List.mem_flatten.2 ⟨q, List.mem_of_getElem? hk, hy⟩)
/-! What is told, and what is free. -/
def tM (pa out : List (List Int)) : List Bool := pa.map fun p => decide (p ∈ out)
theorem tM_len (pa out : List (List Int)) : (tM pa out).length = pa.length := List.length_map _
theorem tM_get {pa out : List (List Int)} {i : Nat} {p : List Int} (hi : pa[i]? = some p) : bget (tM pa out) (i : Int) = decide (p ∈ out) := by
  rw [bget, tM, List.getElem?_map, Int.toNat_natCast, hi]; rfl
theorem tM_set {pa out : List (List Int)} (hd : pa.Nodup) {i : Nat} {p : List Int} (hi : pa[i]? = some p) : (tM pa out).set i true = tM pa (out ++ [p]) := by
  refine List.ext_getElem? fun j => ?_
  rw [List.getElem?_set, tM_len, tM, tM, List.getElem?_map, List.getElem?_map]
  have hlt := (List.getElem?_eq_some_iff.1 hi).1
  by_cases e : i = j
  · subst e
    rw [if_pos rfl, if_pos hlt, hi]
    simp
  · rw [if_neg e]
    cases hj : pa[j]? with
    | none => rfl
    | some q =>
      have hne : q ≠ p := fun h => by
        subst h
        have hlt2 := (List.getElem?_eq_some_iff.1 hj).1
        have h1 : pa[i] = q := by rw [List.getElem?_eq_getElem hlt] at hi; exact Option.some.inj hi
        have h2 : pa[j] = q := by rw [List.getElem?_eq_getElem hlt2] at hj; exact Option.some.inj hj
        have := (List.pairwise_iff_getElem.1 (List.nodup_iff_pairwise_ne.1 hd))
        rcases Nat.lt_or_gt_of_ne e with hh | hh
        · exact this i j hlt hlt2 hh (h1.trans h2.symm)
        · exact this j i hlt2 hlt hh (h2.trans h1.symm)
      simp [hne]
def badO (wh : List Int) (told : List Bool) (i : Int) (e : Edg) : Bool := decide (ig wh e.2 = i) && (!decide (ig wh e.1 = i)) && (!bget told (ig wh e.1))
def freeB (l : List Edg) (wh : List Int) (told : List Bool) (i : Int) : Bool := (!bget told i) && (!l.any (badO wh told i))
theorem freeB_iff {m : Int} {l : List Edg} {pa : List (List Int)} (h : AllP m l pa) {out : List (List Int)} (hout : ∀ q ∈ out, q ∈ pa) {i : Nat} {p : List Int} (hi : pa[i]? = some p) :
    freeB l (whichK m.toNat pa pa.length) (tM pa out) i = true ↔ p ∉ out ∧ freeP l p out.flatten := by
  have hm : ∀ x, nodeI m x = true → nodeI m.toNat x = true := fun x hx => by
    have h1 := dt hx
    exact decide_eq_true (by omega)
  have hw : ∀ (j : Nat) (q : List Int), pa[j]? = some q → ∀ x ∈ q, ig (whichK m.toNat pa pa.length) x = j := fun j q hj x hx =>
    whichK_get h.tp.node h.tp.nd pa.length (List.getElem?_eq_some_iff.1 hj).1 hj x hx
  have hex : ∀ x, nodeI m x = true → ∃ (j : Nat) (q : List Int), pa[j]? = some q ∧ x ∈ q := fun x hx => by
    obtain ⟨q, hq, hxq⟩ := List.mem_flatten.1 (h.all x hx)
    obtain ⟨j, hj, rfl⟩ := List.getElem_of_mem hq
    exact ⟨j, _, List.getElem?_eq_getElem hj, hxq⟩
  rw [freeB, tM_get hi, Bool.and_eq_true, Bool.not_eq_true', decide_eq_false_iff_not, Bool.not_eq_true', List.any_eq_false]
  refine and_congr_right fun hp => ?_
  constructor
  · intro hb e he h2
    obtain ⟨g1, g2⟩ := h.edges e he
    obtain ⟨j, q, hj, h1⟩ := hex e.1 g1
    have hbe := hb e he
    rw [badO, hw i p hi e.2 h2, hw j q hj e.1 h1, tM_get hj] at hbe
    by_cases e' : j = i
    · subst e'
      rw [hi] at hj
      obtain rfl := Option.some.inj hj
      exact .inl h1
    · have : ¬ (j : Int) = i := by omega
      simp [this] at hbe
      exact .inr (List.mem_flatten.2 ⟨q, hbe, h1⟩)
  · intro hf e he hbe
    obtain ⟨g1, g2⟩ := h.edges e he
    obtain ⟨j, q, hj, h1⟩ := hex e.1 g1
    obtain ⟨j2, q2, hj2, h2⟩ := hex e.2 g2
    rw [badO, hw j2 q2 hj2 e.2 h2, hw j q hj e.1 h1, tM_get hj] at hbe
    simp only [Bool.and_eq_true, decide_eq_true_eq, Bool.not_eq_true', decide_eq_false_iff_not] at hbe
    obtain ⟨⟨k1, k2⟩, k3⟩ := hbe
    have e1 : j2 = i := by omega
    subst e1
    rw [hi] at hj2
    obtain rfl := Option.some.inj hj2
    rcases hf e he h2 with hf | hf
    · have := flat_disj h.tp.nd hi hj hf h1
      omega
    · obtain ⟨q', hq', hx'⟩ := List.mem_flatten.1 hf
      have := h.part (hout q' hq') (List.mem_of_getElem? hj) hx' h1
      subst this
      exact k3 hq'
/-- The search finds the part that is told next. -/
theorem best_next {m : Int} {l : List Edg} {pa : List (List Int)} (h : AllP m l pa) {out : List (List Int)} (ho : IsOrd l pa out) (hlt : out.length < pa.length) :
    ∃ (b : Nat) (p : List Int), bestF (fun i => freeB l (whichK m.toNat pa pa.length) (tM pa out) i) pa pa.length = b ∧ pa[b]? = some p ∧ NextP l pa out p := by
  have hout := isOrd_mem ho
  have hne : ∃ p ∈ pa, p ∉ out := by
    by_cases hc : ∃ p ∈ pa, p ∉ out
    · exact hc
    · exfalso
      have := nodup_sub (l := pa) (l' := out) h.tp.nodup fun p hp => by
        by_cases hpo : p ∈ out
        · exact hpo
        · exact absurd ⟨p, hp, hpo⟩ hc
      omega
  obtain ⟨q, hq, hqo, hqf⟩ := h.exists_free hout hne
  obtain ⟨j, hj, hjq⟩ := List.getElem_of_mem hq
  have hj' : pa[j]? = some q := by rw [List.getElem?_eq_getElem hj, hjq]
  have hfq := (freeB_iff h hout hj').2 ⟨hqo, hqf⟩
  rcases bestF_ok (fun i => freeB l (whichK m.toNat pa pa.length) (tM pa out) i) pa pa.length with ⟨_, h2⟩ | ⟨h1, h2, h3, h4⟩
  · have := h2 j hj
    rw [hfq] at this; cases this
  · obtain ⟨b, hb⟩ : ∃ b : Nat, bestF (fun i => freeB l (whichK m.toNat pa pa.length) (tM pa out) i) pa pa.length = b := ⟨_, (Int.toNat_of_nonneg h1).symm⟩
    rw [hb, Int.toNat_natCast] at h3 h4
    have hbl : b < pa.length := by omega
    have hbp : pa[b]? = some pa[b] := List.getElem?_eq_getElem hbl
    obtain ⟨g1, g2⟩ := (freeB_iff h hout hbp).1 h3
    refine ⟨b, pa[b], hb, hbp, List.getElem_mem hbl, g1, g2, fun r hr hro hrf => ?_⟩
    obtain ⟨i, hi, hir⟩ := List.getElem_of_mem hr
    have hi' : pa[i]? = some r := by rw [List.getElem?_eq_getElem hi, hir]
    have := h4 i hi ((freeB_iff h hout hi').2 ⟨hro, hrf⟩)
    rwa [hbp, hi', Option.getD_some, Option.getD_some] at this
end Go.Proofs
end
section
namespace Go.Proofs
open Go.Sy
set_option maxRecDepth 20000
set_option maxHeartbeats 2000000
theorem badO_spec {wh : List Int} {told : List Bool} {i : Int} {e : Edg} (h1 : 0 ≤ e.1 ∧ e.1 < wh.length) (h2 : 0 ≤ e.2 ∧ e.2 < wh.length) (h3 : 0 ≤ ig wh e.1 ∧ ig wh e.1 < told.length) {H : Hp} {K : SV → St → Hp → Prop}
    (hK : K (.v (.bool (badO wh told i e))) ⟨[], [(0, .cells 27 [.own 3]), (1, .cells 3 [.v (.int .i64 i)]), (2, .cells 82 [.own 4]), (3, .row 3 1 (iRows wh)), (4, .row 4 1 (bRows told))], 5⟩ H) :
    DoesG Try.prog 101 [.agg [.v (.int .i64 e.1), .v (.int .i64 e.2)], .ptr 0 0, .ptr 1 0, .ptr 2 0] [(0, .cells 27 [.own 3]), (1, .cells 3 [.v (.int .i64 i)]), (2, .cells 82 [.own 4]), (3, .row 3 1 (iRows wh)), (4, .row 4 1 (bRows told))] 5 H K := by
  have hlw := iRows_len wh
  have hlt := bRows_len told
  have hend : ∀ b : Bool, badO wh told i e = b → K (.v (.bool b)) ⟨[], [(0, .cells 27 [.own 3]), (1, .cells 3 [.v (.int .i64 i)]), (2, .cells 82 [.own 4]), (3, .row 3 1 (iRows wh)), (4, .row 4 1 (bRows told))], 5⟩ H := fun b h => h ▸ hK
  refine spec_ofG cx_ok cx_mix Try.func101 Try.call101 Try.ntmps101 Try.results101 rfl rfl ?_
  refine ⟨some ([], [0, 1, 2, 3, 4, 5, 6, 7, 8, 9, 10, 11, 12, 13, 14, 15, 16, 17, 18, 19, 20, 21, 22, 23, 24, 25, 26, 27]), by kernel_rfl, ?_⟩
  refine ⟨⟨by omega, by omega⟩, ?_⟩
  refine ⟨_, iRows_at h2.1 h2.2, ?_⟩
  refine ⟨fun h => ?_, fun h => ?_⟩
  · have g1 : ig wh e.2 = i := dt h
    refine ⟨⟨by omega, by omega⟩, ?_⟩
    refine ⟨_, iRows_at h1.1 h1.2, ?_⟩
    refine ⟨fun h => ?_, fun h => ?_⟩
    · have g2 : ¬ ig wh e.1 = i := nt h
      refine ⟨⟨by omega, by omega⟩, ?_⟩
      refine ⟨_, iRows_at h1.1 h1.2, ?_⟩
      refine ⟨⟨by omega, by omega⟩, ?_⟩
      refine ⟨_, bRows_get h3.1 h3.2, ?_⟩
      exact ⟨.v (.bool (!bget told (ig wh e.1))), [(0, .cells 27 [.own 3]), (1, .cells 3 [.v (.int .i64 i)]), (2, .cells 82 [.own 4]), (3, .row 3 1 (iRows wh)), (4, .row 4 1 (bRows told))], 5, [(0, 0), (1, 1), (2, 2), (3, 3), (4, 4)], by (repeat' (first | exact trivial | refine ⟨?_, ?_⟩ | exact rfl | assumption)), hend _ (by simp [badO, g1, g2])⟩
    · have g2 : ig wh e.1 = i := nf h
      exact ⟨.v (.bool false), [(0, .cells 27 [.own 3]), (1, .cells 3 [.v (.int .i64 i)]), (2, .cells 82 [.own 4]), (3, .row 3 1 (iRows wh)), (4, .row 4 1 (bRows told))], 5, [(0, 0), (1, 1), (2, 2), (3, 3), (4, 4)], by (repeat' (first | exact trivial | refine ⟨?_, ?_⟩ | exact rfl | assumption)), hend _ (by simp [badO, g2])⟩
  · have g1 : ¬ ig wh e.2 = i := df h
    exact ⟨.v (.bool false), [(0, .cells 27 [.own 3]), (1, .cells 3 [.v (.int .i64 i)]), (2, .cells 82 [.own 4]), (3, .row 3 1 (iRows wh)), (4, .row 4 1 (bRows told))], 5, [(0, 0), (1, 1), (2, 2), (3, 3), (4, 4)], by (repeat' (first | exact trivial | refine ⟨?_, ?_⟩ | exact rfl | assumption)), hend _ (by simp [badO, g1])⟩
theorem idxB_any (f : Edg → Bool) (l : List Edg) : decide (0 ≤ idxB f l 0) = l.any f := by
  rw [Bool.eq_iff_iff, decide_eq_true_eq, idxB_none l 0 (by omega), List.any_eq_true]
theorem indexO_spec {wh : List Int} {told : List Bool} {i : Int} {l : List Edg} (hl : ∀ e ∈ l, (0 ≤ e.1 ∧ e.1 < wh.length) ∧ (0 ≤ e.2 ∧ e.2 < wh.length) ∧ (0 ≤ ig wh e.1 ∧ ig wh e.1 < told.length)) {a : Option Addr} {n c : Nat} {H : Hp} {K : SV → St → Hp → Prop} (ha : RL H a n c l)
    (hK : K (.v (.int .i64 (idxB (badO wh told i) l 0))) ⟨[], [(0, .cells 27 [.own 3]), (1, .cells 3 [.v (.int .i64 i)]), (2, .cells 82 [.own 4]), (3, .row 3 1 (iRows wh)), (4, .row 4 1 (bRows told))], 5⟩ H) :
    DoesG Try.prog 104 [.v (.slice a n c), .fn 101 [.ptr 0 0, .ptr 1 0, .ptr 2 0]] [(0, .cells 27 [.own 3]), (1, .cells 3 [.v (.int .i64 i)]), (2, .cells 82 [.own 4]), (3, .row 3 1 (iRows wh)), (4, .row 4 1 (bRows told))] 5 H K := by
  have hn1 := ha.n_eq
  have hmx := ha.le
  refine spec_ofG cx_ok cx_mix Try.func104 Try.call104 Try.ntmps104 Try.results104 rfl rfl ?_
  refine ⟨Nat, fun j => ⟨[(0, .v (.slice a n c)), (1, .fn 101 [.ptr 0 0, .ptr 1 0, .ptr 2 0]), (7, .v (.int .i64 n)), (8, .v (.int .i64 j))], [(0, .cells 27 [.own 3]), (1, .cells 3 [.v (.int .i64 i)]), (2, .cells 82 [.own 4]), (3, .row 3 1 (iRows wh)), (4, .row 4 1 (bRows told))], 5⟩,
    fun j H' => H' = H ∧ j ≤ l.length ∧ idxB (badO wh told i) l 0 = idxB (badO wh told i) (l.drop j) j, fun j => l.length - j, ⟨0, [(0, 0), (1, 1), (2, 2), (3, 3), (4, 4)], ?_, rfl, by omega, rfl⟩, ?_⟩
  · (repeat' (first | exact trivial | refine ⟨?_, ?_⟩ | exact rfl | assumption))
  rintro j H1 _ ⟨rfl, hi, hx⟩
  refine ⟨fun h => ?_, fun h => ?_⟩
  · have hlt : j < l.length := by have := dt h; omega
    obtain ⟨ad, cs, q1, hh, r1⟩ := ha.elem (List.getElem?_eq_getElem hlt)
    obtain ⟨rfl, -⟩ := edge_open r1
    rw [idxB_step hlt] at hx
    obtain ⟨g1, g2, g3⟩ := hl _ (List.getElem_mem hlt)
    refine ⟨ad, ⟨by omega, by omega, q1⟩, ?_⟩
    refine ⟨_, hh, ?_⟩
    refine ⟨[0, 1, 2, 3, 4], rfl, badO_spec (e := l[j]) g1 g2 g3 ?_⟩
    refine ⟨fun h => ?_, fun h => ?_⟩
    · rw [if_pos h] at hx
      rw [hx] at hK
      exact ⟨.v (.int .i64 (j : Int)), [(0, .cells 27 [.own 3]), (1, .cells 3 [.v (.int .i64 i)]), (2, .cells 82 [.own 4]), (3, .row 3 1 (iRows wh)), (4, .row 4 1 (bRows told))], 5, [(0, 0), (1, 1), (2, 2), (3, 3), (4, 4)], by (repeat' (first | exact trivial | refine ⟨?_, ?_⟩ | exact rfl | assumption)), hK⟩
    · rw [if_neg (by rw [h]; decide)] at hx
      refine ⟨⟨by omega, by omega⟩, j + 1, [(0, 0), (1, 1), (2, 2), (3, 3), (4, 4)], ?_, ⟨rfl, by omega, hx⟩, by dsimp only; omega⟩
      (repeat' (first | exact trivial | refine ⟨?_, ?_⟩ | exact rfl | assumption))
  · have hil : j = l.length := by have := df h; omega
    rw [hil, List.drop_length, idxB] at hx
    rw [hx] at hK
    exact ⟨.v (.int .i64 (-1)), [(0, .cells 27 [.own 3]), (1, .cells 3 [.v (.int .i64 i)]), (2, .cells 82 [.own 4]), (3, .row 3 1 (iRows wh)), (4, .row 4 1 (bRows told))], 5, [(0, 0), (1, 1), (2, 2), (3, 3), (4, 4)], by (repeat' (first | exact trivial | refine ⟨?_, ?_⟩ | exact rfl | assumption)), hK⟩
theorem contO_spec {wh : List Int} {told : List Bool} {i : Int} {l : List Edg} (hl : ∀ e ∈ l, (0 ≤ e.1 ∧ e.1 < wh.length) ∧ (0 ≤ e.2 ∧ e.2 < wh.length) ∧ (0 ≤ ig wh e.1 ∧ ig wh e.1 < told.length)) {a : Option Addr} {n c : Nat} {H : Hp} {K : SV → St → Hp → Prop} (ha : RL H a n c l)
    (hK : K (.v (.bool (l.any (badO wh told i)))) ⟨[], [(0, .cells 27 [.own 3]), (1, .cells 3 [.v (.int .i64 i)]), (2, .cells 82 [.own 4]), (3, .row 3 1 (iRows wh)), (4, .row 4 1 (bRows told))], 5⟩ H) :
    DoesG Try.prog 82 [.v (.slice a n c), .fn 101 [.ptr 0 0, .ptr 1 0, .ptr 2 0]] [(0, .cells 27 [.own 3]), (1, .cells 3 [.v (.int .i64 i)]), (2, .cells 82 [.own 4]), (3, .row 3 1 (iRows wh)), (4, .row 4 1 (bRows told))] 5 H K := by
  rw [← idxB_any] at hK
  refine spec_ofG cx_ok cx_mix Try.func82 Try.call82 Try.ntmps82 Try.results82 rfl rfl ?_
  refine ⟨[0, 1, 2, 3, 4], rfl, indexO_spec hl ha ?_⟩
  exact ⟨.v (.bool (decide (0 ≤ idxB (badO wh told i) l 0))), [(0, .cells 27 [.own 3]), (1, .cells 3 [.v (.int .i64 i)]), (2, .cells 82 [.own 4]), (3, .row 3 1 (iRows wh)), (4, .row 4 1 (bRows told))], 5, [(0, 0), (1, 1), (2, 2), (3, 3), (4, 4)], by (repeat' (first | exact trivial | refine ⟨?_, ?_⟩ | exact rfl | assumption)), hK⟩
theorem freeB_spec {wh : List Int} {told : List Bool} {i : Int} {l : List Edg} (hi : 0 ≤ i ∧ i < told.length) (hl : ∀ e ∈ l, (0 ≤ e.1 ∧ e.1 < wh.length) ∧ (0 ≤ e.2 ∧ e.2 < wh.length) ∧ (0 ≤ ig wh e.1 ∧ ig wh e.1 < told.length)) {a : Option Addr} {n c : Nat} {H : Hp} {K : SV → St → Hp → Prop} (ha : RL H a n c l)
    (hK : K (.v (.bool (freeB l wh told i))) ⟨[], [(0, .cells 82 [.own 3]), (1, .cells 38 [.v (.slice a n c)]), (2, .cells 27 [.own 4]), (3, .row 4 1 (bRows told)), (4, .row 3 1 (iRows wh))], 5⟩ H) :
    DoesG Try.prog 100 [.v (.int .i64 i), .ptr 0 0, .ptr 1 0, .ptr 2 0] [(0, .cells 82 [.own 3]), (1, .cells 38 [.v (.slice a n c)]), (2, .cells 27 [.own 4]), (3, .row 4 1 (bRows told)), (4, .row 3 1 (iRows wh))] 5 H K := by
  have hlt := bRows_len told
  have hend : ∀ b : Bool, freeB l wh told i = b → K (.v (.bool b)) ⟨[], [(0, .cells 82 [.own 3]), (1, .cells 38 [.v (.slice a n c)]), (2, .cells 27 [.own 4]), (3, .row 4 1 (bRows told)), (4, .row 3 1 (iRows wh))], 5⟩ H := fun b h => h ▸ hK
  refine spec_ofG cx_ok cx_mix Try.func100 Try.call100 Try.ntmps100 Try.results100 rfl rfl ?_
  refine ⟨⟨by omega, by omega⟩, ?_⟩
  refine ⟨_, bRows_get hi.1 hi.2, ?_⟩
  refine ⟨fun h => ?_, fun h => ?_⟩
  · refine ⟨[2, 5, 0, 4, 3], rfl, contO_spec hl ha ?_⟩
    exact ⟨.v (.bool (!l.any (badO wh told i))), [(0, .cells 82 [.own 3]), (1, .cells 38 [.v (.slice a n c)]), (2, .cells 27 [.own 4]), (3, .row 4 1 (bRows told)), (4, .row 3 1 (iRows wh))], 5, [(0, 0), (1, 1), (2, 2), (3, 3), (4, 4)], by (repeat' (first | exact trivial | refine ⟨?_, ?_⟩ | exact rfl | assumption)), hend _ (by rw [freeB, h, Bool.true_and])⟩
  · exact ⟨.v (.bool false), [(0, .cells 82 [.own 3]), (1, .cells 38 [.v (.slice a n c)]), (2, .cells 27 [.own 4]), (3, .row 4 1 (bRows told)), (4, .row 3 1 (iRows wh))], 5, [(0, 0), (1, 1), (2, 2), (3, 3), (4, 4)], by (repeat' (first | exact trivial | refine ⟨?_, ?_⟩ | exact rfl | assumption)), hend _ (by rw [freeB, h]; rfl)⟩
theorem list_elem_k {P : Prop} {H : Hp} {a : Option Addr} {n c : Nat} {NX : List (List Int)} (h : RL H a n c NX) {i : Nat} {L : List Int} (hi : NX[i]? = some L) (k : ∀ ad a1 n1 c1, a = some ad → ElemH H ad (i : Int) 1 [.slice a1 n1 c1] → RL H a1 n1 c1 L → P) : P := by
  obtain ⟨ad, a1, n1, c1, h1, h2, h3⟩ := list_elem h hi
  exact k ad a1 n1 c1 h1 h2 h3
theorem row_elem_k {P : Prop} {H0 H : Hp} {a : Option Addr} {n c : Nat} {css : List (List Value)} {pa : List (List Int)} (h : RowAt H (.slice a n c) 1 css) (hx : RX H0 H css pa) {i : Nat} {L : List Int} (hi : pa[i]? = some L)
    (k : ∀ ad a1 n1 c1, a = some ad → css[i]? = some [.slice a1 n1 c1] → ElemH H ad (i : Int) 1 [.slice a1 n1 c1] → RL H a1 n1 c1 L → P) : P := by
  obtain ⟨cs, h1, a1, n1, c1, rfl, h2⟩ := hx.rc.get hi
  obtain ⟨ad, h3, h4⟩ := rowAt_elem h h1
  exact k ad a1 n1 c1 h3 h1 h4 h2
theorem int_elem_k {P : Prop} {H : Hp} {a : Option Addr} {n c : Nat} {xs : List Int} (h : RL H a n c xs) {i : Nat} {x : Int} (hi : xs[i]? = some x) (k : ∀ ad, a = some ad → ElemH H ad (i : Int) 1 [.int .i64 x] → P) : P := by
  obtain ⟨ad, cs, h1, h2, h3⟩ := h.elem hi
  obtain ⟨rfl, -⟩ := h3
  exact k ad h1 h2
theorem hd_get {p : List Int} (h : p ≠ []) : p[0]? = some (hdL p) := by
  cases p with
  | nil => exact absurd rfl h
  | cons x r => rfl
/-- Each of these is one of those. -/
def SubsOf (css : List (List Value)) (pa : List (List Int)) (ocss : List (List Value)) (out : List (List Int)) : Prop :=
  ocss.length = out.length ∧ ∀ (i : Nat) (cs : List Value) (l : List Int), ocss[i]? = some cs → out[i]? = some l → ∃ j : Nat, css[j]? = some cs ∧ pa[j]? = some l
theorem SubsOf.snoc {css : List (List Value)} {pa : List (List Int)} {ocss : List (List Value)} {out : List (List Int)} (h : SubsOf css pa ocss out) {j : Nat} {cs : List Value} {p : List Int} (h1 : css[j]? = some cs) (h2 : pa[j]? = some p) :
    SubsOf css pa (ocss ++ [cs]) (out ++ [p]) := by
  refine ⟨by rw [List.length_append, List.length_append, h.1]; rfl, fun i cs' l g1 g2 => ?_⟩
  by_cases hi : i < ocss.length
  · rw [List.getElem?_append_left hi] at g1
    rw [List.getElem?_append_left (by have := h.1; omega)] at g2
    exact h.2 i cs' l g1 g2
  · rw [List.getElem?_append_right (by omega)] at g1
    rw [List.getElem?_append_right (by have := h.1; omega)] at g2
    have hi0 : i - ocss.length = 0 := by
      have := (List.getElem?_eq_some_iff.1 g1).1
      simp at this
      omega
    rw [hi0] at g1
    rw [show i - out.length = 0 by have := h.1; omega] at g2
    simp only [List.getElem?_cons_zero, Option.some.injEq] at g1 g2
    subst g1 g2
    exact ⟨j, h1, h2⟩
/-- The top row's block is none of theirs. -/
def TopApart (a : Option Addr) (css : List (List Value)) : Prop := ∀ (i : Nat) (cs : List Value) (g : Nat) (ad : Addr), css[i]? = some cs → blk cs = some g → a = some ad → ad.block ≠ g
theorem top_apart {H0 H H' : Hp} {css : List (List Value)} {pa : List (List Int)} {a : Option Addr} {n c : Nat} (h : RX H0 H css pa) (hx : LeN 27 1 css H (.slice a n c) H') : TopApart a css := by
  intro i cs g ad h1 h2 h3 h4
  have hlt := (List.getElem?_eq_some_iff.1 h1).1
  rcases hx.new with ⟨_, e⟩ | ⟨g', cap, cc, e, h5, _⟩
  · rw [e] at h1; cases h1
  · obtain ⟨g2, o, k1, k2⟩ := (h.ex i cs _ h1 (List.getElem?_eq_getElem (h.rc.1 ▸ hlt))).blk
    simp only [Value.slice.injEq] at e
    rw [e.1, Option.some.injEq] at h3
    rw [h2, Option.some.injEq] at k1
    rw [← h3] at h4
    have h6 : g' = g := h4
    rw [h6, k1, k2] at h5
    cases h5
/-! scc.ordered -/
theorem ordered_spec {m : Int} (hm0 : 0 ≤ m) (hm : m ≤ 1000) {l : List Edg} (hl : l.length ≤ 1000000) {pa : List (List Int)} (hP : AllP m l pa) {a a3 : Option Addr} {n c n3 c3 : Nat} {H0 : Hp} {css : List (List Value)} {H : Hp} {K : Value → Hp → Prop} (ha : RL H a n c l) (hb : RL H a3 n3 c3 pa) (hrow : RowAt H (.slice a3 n3 c3) 1 css) (hrx : RX H0 H css pa)
    (hK : ∀ a1 n1 c1 out ocss H', Le H H' → RL H' a1 n1 c1 out → RowAt H' (.slice a1 n1 c1) 1 ocss → RX H0 H' ocss out → TopApart a1 ocss → IsOrd l pa out → out.length = pa.length → K (.slice a1 n1 c1) H') : Does Try.prog 69 [.int .i64 m, .slice a n c, .slice a3 n3 c3] H K := by
  have hn := ha.n_eq
  have hn3 := hb.n_eq
  have hmx3 := hb.le
  have hpl : pa.length ≤ 1000000 := parts_len hP.tp (by omega)
  have hN : ((m.toNat : Nat) : Int) = m := toNat_nat m hm0
  refine spec_of cx_ok cx_mix rfl Try.func69 Try.call69 Try.ntmps69 Try.results69 rfl rfl ?_
  refine ⟨⟨rfl, by omega, by show m * 8 ≤ _; omega, by omega⟩, ?_⟩
  refine ⟨Nat × List Int, fun q => ⟨[(2, .v (.slice a3 n3 c3)), (4, .ptr 0 0), (7, .ptr 2 0), (20, .v (.slice a3 n3 c3)), (21, .v (.int .i64 n3)), (22, .v (.int .i64 q.1))],
      [(0, .cells 38 [.v (.slice a n c)]), (1, .row 3 1 (iRows q.2)), (2, .cells 27 [.own 1])], 3⟩,
    fun q H' => H' = H ∧ q.1 ≤ pa.length ∧ q.2 = whichK m.toNat pa q.1, fun q => pa.length - q.1, ⟨(0, List.replicate m.toNat 0), [(0, 0), (1, 1), (2, 2)], ?_, rfl, Nat.zero_le _, rfl⟩, ?_⟩
  · have e1 := iRows_rep m.toNat
    (repeat' (first | exact trivial | refine ⟨?_, ?_⟩ | exact rfl | assumption))
  rintro ⟨i, R⟩ H1 _ ⟨rfl, hi, hR⟩
  dsimp only at hi hR
  have hlR : R.length = m.toNat := by rw [hR, whichK_len]
  refine ⟨fun h => ?_, fun h => ?_⟩
  · have hlt : i < pa.length := by have := dt h; (try dsimp only at this); omega
    have hpi : pa[i]? = some pa[i] := List.getElem?_eq_getElem hlt
    obtain ⟨ad, a1, n1, c1, q1, hh, hr1⟩ := list_elem hb hpi
    have hn1 := hr1.n_eq
    have hmx1 := hr1.le
    obtain ⟨p, hp⟩ : ∃ p, p = pa[i] := ⟨_, rfl⟩
    rw [← hp] at hpi hr1 hn1
    have hpn : ∀ x ∈ p, nodeI m.toNat x = true := fun x hx => hP.tp.node x (List.mem_flatten.2 ⟨p, List.mem_of_getElem? hpi, hx⟩)
    refine ⟨ad, ⟨by dsimp only; omega, by dsimp only; omega, q1⟩, ?_⟩
    refine ⟨_, hh, ?_⟩
    refine ⟨Nat × List Int, fun q => ⟨[(2, .v (.slice a3 n3 c3)), (4, .ptr 0 0), (7, .ptr 2 0), (20, .v (.slice a3 n3 c3)), (21, .v (.int .i64 n3)), (22, .v (.int .i64 i)), (8, .v (.int .i64 i)), (27, .v (.slice a1 n1 c1)), (28, .v (.int .i64 n1)), (29, .v (.int .i64 q.1))],
        [(0, .cells 38 [.v (.slice a n c)]), (1, .row 3 1 (iRows q.2)), (2, .cells 27 [.own 1])], 3⟩,
      fun q H' => H' = H1 ∧ q.1 ≤ p.length ∧ q.2 = setAll R (p.take q.1) i, fun q => p.length - q.1, ⟨(0, R), [(0, 0), (1, 1), (2, 2)], ?_, rfl, Nat.zero_le _, rfl⟩, ?_⟩
    · (repeat' (first | exact trivial | refine ⟨?_, ?_⟩ | exact rfl | assumption))
    rintro ⟨j, R2⟩ H2 _ ⟨rfl, hj, hR2⟩
    dsimp only at hj hR2
    have hlR2 : R2.length = m.toNat := by rw [hR2, setAll_len, hlR]
    refine ⟨fun h => ?_, fun h => ?_⟩
    · have hltj : j < p.length := by have := dt h; (try dsimp only at this); omega
      obtain ⟨ad2, cs2, q2, hh2, r3⟩ := hr1.elem (List.getElem?_eq_getElem hltj)
      obtain ⟨rfl, -⟩ := r3
      have hv := dt (hpn _ (List.getElem_mem hltj))
      refine ⟨ad2, ⟨by dsimp only; omega, by dsimp only; omega, q2⟩, ?_⟩
      refine ⟨_, hh2, ?_⟩
      refine ⟨⟨by (try dsimp only); omega, by (try dsimp only); rw [iRows_len]; (try dsimp only); omega⟩, ?_⟩
      refine ⟨_, iRows_at (L := R2) hv.1 (by omega), ?_⟩
      have e1 : (iRows R2).set p[j].toNat [.int .i64 (i : Int)] = iRows (R2.set p[j].toNat i) := iRows_set _ _ _
      refine ⟨⟨by (try dsimp only); omega, by (try dsimp only); omega⟩, (j + 1, R2.set p[j].toNat i), [(0, 0), (1, 1), (2, 2)], ?_, ⟨rfl, by dsimp only; omega, ?_⟩, by dsimp only; omega⟩
      · (repeat' (first | exact trivial | refine ⟨?_, ?_⟩ | exact rfl | assumption))
      · dsimp only
        rw [hR2, setAll, setAll, take_step _ _ (List.getElem?_eq_getElem hltj)]
    · have hjl : j = p.length := by have := df h; (try dsimp only at this); omega
      rw [hjl, List.take_length] at hR2
      refine ⟨⟨by (try dsimp only); omega, by (try dsimp only); omega⟩, (i + 1, R2), [(0, 0), (1, 1), (2, 2)], ?_, ⟨rfl, by dsimp only; omega, ?_⟩, by dsimp only; omega⟩
      · (repeat' (first | exact trivial | refine ⟨?_, ?_⟩ | exact rfl | assumption))
      · dsimp only
        rw [whichK, hpi, Option.getD_some, ← hR, hR2]
  · have hil : i = pa.length := by have := df h; (try dsimp only at this); omega
    rw [hil] at hR
    clear hi hil
    have hwn : ∀ e ∈ l, (0 ≤ e.1 ∧ e.1 < R.length) ∧ (0 ≤ e.2 ∧ e.2 < R.length) ∧ (0 ≤ ig R e.1 ∧ ig R e.1 < pa.length) := fun e he => by
      obtain ⟨g1, g2⟩ := hP.edges e he
      have k1 := dt g1
      have k2 := dt g2
      obtain ⟨q, hq, hxq⟩ := List.mem_flatten.1 (hP.all e.1 g1)
      obtain ⟨j, hj, hjq⟩ := List.getElem_of_mem hq
      have := whichK_get hP.tp.node hP.tp.nd pa.length hj (p := q) (by rw [List.getElem?_eq_getElem hj, hjq]) e.1 hxq
      rw [← hR] at this
      omega
    refine ⟨⟨rfl, by omega, by show (n3 : Int) * 1 ≤ _; omega, by omega⟩, ?_⟩
    refine ⟨List (List Int) × List (List Value), fun q => ⟨[(2, .v (.slice a3 n3 c3)), (12, .ptr 4 0), (13, .fn 100 [.ptr 4 0, .ptr 0 0, .ptr 2 0]), (14, .own 5), (43, .v (.slice a3 n3 c3)), (44, .v (.int .i64 n3)), (45, .v (.int .i64 q.1.length))],
        [(0, .cells 38 [.v (.slice a n c)]), (1, .row 3 1 (iRows R)), (2, .cells 27 [.own 1]), (3, .row 4 1 (bRows (tM pa q.1))), (4, .cells 82 [.own 3]), (5, .row 27 1 q.2)], 6⟩,
      fun q H' => H' = H1 ∧ q.1.length ≤ pa.length ∧ IsOrd l pa q.1 ∧ RC H' q.2 q.1 ∧ SubsOf css pa q.2 q.1, fun q => pa.length - q.1.length, ⟨([], []), [(0, 0), (1, 1), (2, 2), (3, 3), (4, 4)], ?_, rfl, Nat.zero_le _, isOrd_nil l pa, RC.nil, rfl, by simp⟩, ?_⟩
    · have e1 : List.replicate ((n3 : Int)).toNat [Value.bool false] = bRows (tM pa []) := by
        rw [bRows_rep, Int.toNat_natCast, hn3]
        congr 1
        refine List.ext_getElem? fun j => ?_
        rw [tM, List.getElem?_map, List.getElem?_replicate]
        by_cases hj : j < pa.length
        · rw [if_pos hj, List.getElem?_eq_getElem hj]; simp
        · rw [if_neg hj, List.getElem?_eq_none (by omega)]; rfl
      (repeat' (first | exact trivial | refine ⟨?_, ?_⟩ | exact rfl | assumption))
    rintro ⟨out, ocss⟩ H2 _ ⟨rfl, hol, hord, hoc, hsub⟩
    dsimp only at hol hord hoc hsub
    have htl := tM_len pa out
    have hbt := bRows_len (tM pa out)
    refine ⟨fun h => ?_, fun h => ?_⟩
    · have hlt : out.length < pa.length := by have := dt h; (try dsimp only at this); omega
      obtain ⟨f, hf⟩ : ∃ f : Nat → Bool, f = fun (i : Nat) => freeB l R (tM pa out) (i : Int) := ⟨_, rfl⟩
      refine ⟨Nat, fun i => ⟨[(2, .v (.slice a3 n3 c3)), (12, .ptr 4 0), (13, .fn 100 [.ptr 4 0, .ptr 0 0, .ptr 2 0]), (14, .own 5), (43, .v (.slice a3 n3 c3)), (44, .v (.int .i64 n3)), (45, .v (.int .i64 out.length)), (15, .v (.int .i64 (bestF f pa i))), (47, .v (.slice a3 n3 c3)), (48, .v (.int .i64 n3)), (49, .v (.int .i64 i))],
          [(0, .cells 38 [.v (.slice a n c)]), (1, .row 3 1 (iRows R)), (2, .cells 27 [.own 1]), (3, .row 4 1 (bRows (tM pa out))), (4, .cells 82 [.own 3]), (5, .row 27 1 ocss)], 6⟩,
        fun i H' => H' = H2 ∧ i ≤ pa.length, fun i => pa.length - i, ⟨0, [(0, 0), (1, 1), (2, 2), (3, 3), (4, 4), (5, 5)], ?_, rfl, Nat.zero_le _⟩, ?_⟩
      · (repeat' (first | exact trivial | refine ⟨?_, ?_⟩ | exact rfl | assumption))
      rintro i H3 _ ⟨rfl, hi⟩
      have hbs := bestF_ok f pa i
      refine ⟨fun h => ?_, fun h => ?_⟩
      · have hlti : i < pa.length := by have := dt h; (try dsimp only at this); omega
        have hpi : pa[i]? = some pa[i] := List.getElem?_eq_getElem hlti
        refine list_elem_k hb hpi fun ad a1 n1 c1 q1 hh hr1 => ?_
        have hst : bestF f pa (i + 1) = if f i = true ∧ (bestF f pa i < 0 ∨ hdL pa[i] < hdL (pa[(bestF f pa i).toNat]?.getD [])) then (i : Int) else bestF f pa i := by simp only [bestF, hpi, Option.getD_some]
        have hpne : pa[i] ≠ [] := (hP.tp.ok _ (List.getElem_mem hlti)).ne
        refine int_elem_k hr1 (hd_get hpne) fun ad0 q0 hh0 => ?_
        have hp1 := List.length_pos_iff.2 hpne
        have hn1 := hr1.n_eq
        refine hbs.elim (fun hk => ?_) (fun hk => ?_)
        · have k1 := hk.1
          refine ⟨ad, ⟨by (try dsimp only); omega, by (try dsimp only); omega, q1⟩, ?_⟩
          refine ⟨_, hh, ?_⟩
          refine ⟨some ([0, 1, 2, 3, 4], [0, 1, 2, 3, 4, 5, 6, 7, 8, 9, 10, 11, 12, 13, 14, 15, 16, 17, 18]), by kernel_rfl, ?_⟩
          refine ⟨[4, 0, 2, 3, 1], rfl, freeB_spec (i := (i : Int)) (by (try dsimp only); rw [htl]; omega) (by rw [htl]; exact hwn) ha ?_⟩
          refine ⟨fun h => ?_, fun h => ?_⟩
          · have g1 : f i = true := by rw [hf]; exact h
            refine ⟨fun h => ?_, fun h => ?_⟩
            · have g2 : ¬ bestF f pa i < 0 := df h
              omega
            · have g2 : bestF f pa i < 0 := dt h
              rw [if_pos ⟨g1, .inl g2⟩] at hst
              have e15 : SV.v (.int .i64 (i : Int)) = SV.v (.int .i64 (bestF f pa (i + 1))) := by rw [hst]
              refine ⟨⟨by (try dsimp only); omega, by (try dsimp only); omega⟩, i + 1, [(0, 0), (1, 1), (2, 2), (3, 3), (4, 4), (5, 5)], ?_, ⟨rfl, by omega⟩, by dsimp only; omega⟩
              (repeat' (first | exact trivial | refine ⟨?_, ?_⟩ | exact rfl | assumption))
          · have g1 : ¬ f i = true := by rw [hf]; intro hh; have h9 : freeB l R (tM pa out) i = true := hh; rw [show freeB l R (tM pa out) i = false from h] at h9; cases h9
            rw [if_neg (fun hh => g1 hh.1)] at hst
            have e15 : SV.v (.int .i64 (bestF f pa i)) = SV.v (.int .i64 (bestF f pa (i + 1))) := by rw [hst]
            refine ⟨⟨by (try dsimp only); omega, by (try dsimp only); omega⟩, i + 1, [(0, 0), (1, 1), (2, 2), (3, 3), (4, 4), (5, 5)], ?_, ⟨rfl, by omega⟩, by dsimp only; omega⟩
            (repeat' (first | exact trivial | refine ⟨?_, ?_⟩ | exact rfl | assumption))
        · have k1 := hk.1
          have k2 := hk.2.1
          have hbl : (bestF f pa i).toNat < pa.length := by omega
          have hpb : pa[(bestF f pa i).toNat]? = some pa[(bestF f pa i).toNat] := List.getElem?_eq_getElem hbl
          refine list_elem_k hb hpb fun ad3 a4 n4 c4 q4 hh4 hr4 => ?_
          have hqne : pa[(bestF f pa i).toNat] ≠ [] := (hP.tp.ok _ (List.getElem_mem hbl)).ne
          refine int_elem_k hr4 (hd_get hqne) fun ad5 q5 hh5 => ?_
          have hq1 := List.length_pos_iff.2 hqne
          have hn4 := hr4.n_eq
          rw [hpb, Option.getD_some] at hst
          rw [Int.toNat_of_nonneg k1] at hh4
          refine ⟨ad, ⟨by (try dsimp only); omega, by (try dsimp only); omega, q1⟩, ?_⟩
          refine ⟨_, hh, ?_⟩
          refine ⟨some ([0, 1, 2, 3, 4], [0, 1, 2, 3, 4, 5, 6, 7, 8, 9, 10, 11, 12, 13, 14, 15, 16, 17, 18]), by kernel_rfl, ?_⟩
          refine ⟨[4, 0, 2, 3, 1], rfl, freeB_spec (i := (i : Int)) (by (try dsimp only); rw [htl]; omega) (by rw [htl]; exact hwn) ha ?_⟩
          refine ⟨fun h => ?_, fun h => ?_⟩
          · have g1 : f i = true := by rw [hf]; exact h
            refine ⟨fun h => ?_, fun h => ?_⟩
            · refine ⟨ad0, ⟨by (try dsimp only); omega, by (try dsimp only); omega, q0⟩, ?_⟩
              refine ⟨_, hh0, ?_⟩
              refine ⟨ad3, ⟨by (try dsimp only); omega, by (try dsimp only); omega, q4⟩, ?_⟩
              refine ⟨_, hh4, ?_⟩
              refine ⟨ad5, ⟨by (try dsimp only); omega, by (try dsimp only); omega, q5⟩, ?_⟩
              refine ⟨_, hh5, ?_⟩
              refine ⟨fun h => ?_, fun h => ?_⟩
              · have g3 : hdL pa[i] < hdL pa[(bestF f pa i).toNat] := dt h
                rw [if_pos ⟨g1, .inr g3⟩] at hst
                have e15 : SV.v (.int .i64 (i : Int)) = SV.v (.int .i64 (bestF f pa (i + 1))) := by rw [hst]
                refine ⟨⟨by (try dsimp only); omega, by (try dsimp only); omega⟩, i + 1, [(0, 0), (1, 1), (2, 2), (3, 3), (4, 4), (5, 5)], ?_, ⟨rfl, by omega⟩, by dsimp only; omega⟩
                (repeat' (first | exact trivial | refine ⟨?_, ?_⟩ | exact rfl | assumption))
              · have g3 : ¬ hdL pa[i] < hdL pa[(bestF f pa i).toNat] := df h
                rw [if_neg (fun hh => by rcases hh.2 with h1 | h1 <;> omega)] at hst
                have e15 : SV.v (.int .i64 (bestF f pa i)) = SV.v (.int .i64 (bestF f pa (i + 1))) := by rw [hst]
                refine ⟨⟨by (try dsimp only); omega, by (try dsimp only); omega⟩, i + 1, [(0, 0), (1, 1), (2, 2), (3, 3), (4, 4), (5, 5)], ?_, ⟨rfl, by omega⟩, by dsimp only; omega⟩
                (repeat' (first | exact trivial | refine ⟨?_, ?_⟩ | exact rfl | assumption))
            · have g2 : bestF f pa i < 0 := dt h
              omega
          · have g1 : ¬ f i = true := by rw [hf]; intro hh; have h9 : freeB l R (tM pa out) i = true := hh; rw [show freeB l R (tM pa out) i = false from h] at h9; cases h9
            rw [if_neg (fun hh => g1 hh.1)] at hst
            have e15 : SV.v (.int .i64 (bestF f pa i)) = SV.v (.int .i64 (bestF f pa (i + 1))) := by rw [hst]
            refine ⟨⟨by (try dsimp only); omega, by (try dsimp only); omega⟩, i + 1, [(0, 0), (1, 1), (2, 2), (3, 3), (4, 4), (5, 5)], ?_, ⟨rfl, by omega⟩, by dsimp only; omega⟩
            (repeat' (first | exact trivial | refine ⟨?_, ?_⟩ | exact rfl | assumption))
      · have hil : i = pa.length := by have := df h; (try dsimp only at this); omega
        refine (best_next hP hord hlt).elim fun b hb1 => hb1.elim fun p hb2 => ?_
        have hbb := hb2.1
        have hpb := hb2.2.1
        have hnext := hb2.2.2
        rw [← hR, ← hf] at hbb
        have hbl := (List.getElem?_eq_some_iff.1 hpb).1
        have hbi : bestF f pa i = b := by rw [hil]; exact hbb
        refine row_elem_k hrow hrx hpb fun ad3 a4 n4 c4 q4 hcs4 hh4 hr4 => ?_
        rw [← hbi] at hh4
        have e1 : (bRows (tM pa out)).set (bestF f pa i).toNat [.bool true] = bRows (tM pa (out ++ [p])) := by rw [bRows_set, hbi, Int.toNat_natCast, tM_set hP.tp.nodup hpb]
        refine ⟨⟨by (try dsimp only); omega, by (try dsimp only); rw [bRows_len, htl]; omega⟩, ?_⟩
        refine ⟨_, bRows_get (M := tM pa out) (x := bestF f pa i) (by omega) (by rw [htl]; omega), ?_⟩
        refine ⟨ad3, ⟨by (try dsimp only); omega, by (try dsimp only); omega, q4⟩, ?_⟩
        refine ⟨_, hh4, ?_⟩
        have hocl : ocss.length = out.length := hoc.1
        refine ⟨room (n := ocss.length) (by omega), ?_⟩
        have hoc2 : RC (α := List Int) H3 (ocss ++ [[.slice a4 n4 c4]]) (out ++ [p]) := hoc.snoc ⟨a4, n4, c4, rfl, hr4⟩
        have e45 : SV.v (.int .i64 ((out.length : Int) + 1)) = SV.v (.int .i64 (((out ++ [p]).length : Nat) : Int)) := by rw [List.length_append]; rfl
        refine ⟨⟨by (try dsimp only); omega, by (try dsimp only); omega⟩, (out ++ [p], ocss ++ [[.slice a4 n4 c4]]), [(0, 0), (1, 1), (2, 2), (3, 3), (4, 4), (5, 7)], ?_, ⟨rfl, by dsimp only; rw [List.length_append, List.length_singleton]; omega, isOrd_snoc hord hnext, hoc2, hsub.snoc hcs4 hpb⟩, by dsimp only; rw [List.length_append, List.length_singleton]; omega⟩
        (repeat' (first | exact trivial | refine ⟨?_, ?_⟩ | exact rfl | assumption))
    · have hle : out.length = pa.length := by have := df h; dsimp only at this; omega
      intro y H4 hle4 hy
      obtain ⟨a1, n1, c1, rfl, hr1⟩ := RL.of_row (α := List Int) hy (hoc.up hle4)
      exact hK _ _ _ _ _ _ hle4 hr1 hy ((hrx.sub hsub.1 hsub.2).up hle4) (top_apart (hrx.sub hsub.1 hsub.2) hle4) hord hle
end Go.Proofs
end
