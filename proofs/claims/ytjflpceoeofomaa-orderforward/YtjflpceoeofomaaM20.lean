/- Part 'M20' of the proof (Y2, Y6, Y7, Y8, Y9, Y10, Y11): lemmas, each with its own conditions in its own statement. -/
import Derived.Test.YtjflpceoeofomaaM15
import Derived.Test.YtjflpceoeofomaaM19
import Derived.Test.YtjflpceoeofomaaM7
section
namespace Go.Proofs
open Go.Sy Go.Sort Go.Shelf
set_option maxRecDepth 20000
/-! slices.SortFunc over a part, by ranks -/
theorem sortP_spec {ranks p : List Int} {hd : Value} {A B : List (Value × List (List Value))} (hne : p ≠ []) (hp : ∀ x ∈ p, 0 ≤ x ∧ x < ranks.length) (hlen : p.length ≤ 1000000) (hr : ∀ z ∈ ranks, 0 ≤ z ∧ z ≤ 1000000)
    (hdf : ∀ x ∈ p, ∀ y ∈ p, ig ranks x = ig ranks y → x = y) {a : Option Addr} {n c : Nat} {H : Hp} {K : SV → St → Hp → Prop} (ha : RL H a n c ranks)
    (hK : ∀ q H', q.Perm p → q.Pairwise (fun x y => ig ranks x ≤ ig ranks y) → Le H H' → RowAt H' hd 1 (iRows q) → K (.tup []) ⟨[], [(0, .fam 3 1 (A ++ B)), (1, .cells 27 [.v (.slice a n c)])], 2⟩ H') :
    DoesG Try.prog 87 [.v hd, .fn 88 [.ptr 1 0]] [(0, .fam 3 1 (A ++ (hd, iRows p) :: B)), (1, .cells 27 [.v (.slice a n c)])] 2 H K := by
  refine ⟨Try.call87, fun w ρ hm _ => ?_⟩
  obtain ⟨_, ⟨hfam, hpw⟩, _⟩ := hm.ok 0 _ rfl
  obtain ⟨_, hbc, _⟩ := hm.ok 1 _ rfl
  have hbc : w.heap[ρ.b 1]? = some (.cells #[.slice a n c] 27 (0, 0)) := hbc
  obtain ⟨⟨hfl, hv⟩, hall⟩ := hfam (hd, iRows p) (List.mem_append_right _ List.mem_cons_self)
  have hpl : (iRows p).length = p.length := List.length_map _
  rw [hpl] at hv
  have hpos : p.length ≠ 0 := fun h => hne (List.eq_nil_of_length_eq_zero h)
  rcases hv with ⟨_, h0⟩ | ⟨q, cap, cur, hv, _, hcell, hcap, hmax, hsz, hcur⟩
  · exact absurd h0 hpos
  have hv : hd = .slice (some ⟨q, 0, none⟩) p.length cap := hv
  have hown0 : Owns ρ 0 (.fam 3 1 (A ++ (hd, iRows p) :: B)) q := ⟨(hd, iRows p), List.mem_append_right _ List.mem_cons_self, by rw [hv]; rfl⟩
  have hown1 : Owns ρ 1 (.cells 27 [.v (.slice a n c)]) (ρ.b 1) := rfl
  have hq1 : q ≠ ρ.b 1 := fun e => by
    have := hm.disj 0 1 _ _ q rfl rfl hown0 (by rw [e]; exact hown1)
    cases this
  have hHq := (hm.own 0 _ q rfl hown0).1
  have hH1 := (hm.own 1 _ (ρ.b 1) rfl hown1).1
  have hqs : q < w.heap.size := (Array.getElem?_eq_some_iff.1 hcell).1
  have h1s : ρ.b 1 < w.heap.size := (Array.getElem?_eq_some_iff.1 hbc).1
  rw [Nat.mul_one] at hsz
  rw [Nat.mul_one] at hcur
  obtain ⟨x0, hx0⟩ : ∃ x, x ∈ p := by
    cases p with
    | nil => exact absurd rfl hne
    | cons x r => exact ⟨x, List.mem_cons_self⟩
  letI : Inhabited {x // x ∈ p} := ⟨⟨x0, hx0⟩⟩
  let enc : {x // x ∈ p} → Value := fun x => .int .i64 x.1
  let cf : {x // x ∈ p} → {x // x ∈ p} → Int := fun x y => ig ranks x.1 - ig ranks y.1
  have hlt : ∀ x y, ltOf cf x y = decide (ig ranks x.1 < ig ranks y.1) := fun x y => by
    rw [ltOf]
    by_cases h : ig ranks x.1 < ig ranks y.1
    · rw [decide_eq_true h, decide_eq_true (by show ig ranks x.1 - ig ranks y.1 < 0; omega)]
    · rw [decide_eq_false h, decide_eq_false (by show ¬ ig ranks x.1 - ig ranks y.1 < 0; omega)]
  have hltt : ∀ x y, ltOf cf x y = true ↔ ig ranks x.1 < ig ranks y.1 := fun x y => by rw [hlt, decide_eq_true_eq]
  have hltf : ∀ x y, ltOf cf x y = false ↔ ¬ ig ranks x.1 < ig ranks y.1 := fun x y => by rw [hlt, decide_eq_false_iff_not]
  have hO : SWO (ltOf cf) := by
    refine ⟨fun x => (hltf x x).2 (by omega), fun x y z h1 h2 => (hltt x z).2 ?_, fun x y z h1 h2 => ?_⟩
    · have := (hltt x y).1 h1
      have := (hltt y z).1 h2
      omega
    · have := (hltf x y).1 h1
      have := (hltf y z).1 h2
      exact (hltf x z).2 (by omega)
  have hT : ∀ x y, (ltOf cf) x y = false → (ltOf cf) y x = false → x = y := fun x y h1 h2 => by
    have k1 := (hltf x y).1 h1
    have k2 := (hltf y x).1 h2
    exact Subtype.ext (hdf x.1 x.2 y.1 y.2 (by omega))
  let d : Array {x // x ∈ p} := p.attach.toArray
  have hds : d.size = p.length := by show p.attach.toArray.size = _; rw [List.size_toArray, List.length_attach]
  have hdj : ∀ j (hj : j < p.length), (d[j]!).1 = p[j] := fun j hj => by
    have hj2 : j < d.size := by rw [hds]; exact hj
    rw [getElem!_pos d j hj2]
    show (p.attach.toArray[j]'hj2).1 = _
    rw [List.getElem_toArray, List.getElem_attach]
  have hH : Holds enc w q 0 d := by
    intro j hj
    rw [hds] at hj
    have hj2 : j < cur.size := by omega
    constructor
    · have e1 : cur.toList[j]? = some (.int .i64 (d[j]!).1) := by
        rw [hdj j hj, ← List.getElem?_take_of_lt hj, hcur, iRows_flat, List.getElem?_map, List.getElem?_eq_getElem hj]
        rfl
      rw [Nat.zero_add]
      simp only [World.cell?, hcell]
      rw [← Array.getElem?_toList]
      exact e1
    · simp only [World.frozen?, hcell]
      simp
  have hheap : ∀ (m : Nat) (dk : Array {x // x ∈ p}) (os : Array Obj) (b' : Nat), b' < w.heap.size → (sortWorld enc w q 0 m dk os).heap[b']? = if b' = q then some (.cells (putCells enc 0 dk cur) 3 (0, 0)) else w.heap[b']? := fun m dk os b' hb' => by
    show ((w.heap.modify q _) ++ os)[b']? = _
    rw [Array.getElem?_append_left (by simpa using hb'), Array.getElem?_modify]
    by_cases hq : q = b'
    · subst hq
      rw [if_pos rfl, if_pos rfl, hcell]; rfl
    · rw [if_neg hq, if_neg (fun h => hq h.symm)]
  have hsize : ∀ (m : Nat) (dk : Array {x // x ∈ p}) (os : Array Obj), w.heap.size ≤ (sortWorld enc w q 0 m dk os).heap.size := fun m dk os => by
    show w.heap.size ≤ ((w.heap.modify q _) ++ os).size
    simp
  have hcmp : CmpLays1 Try.prog 88 #[.pointer (some ⟨ρ.b 1, 0, none⟩)] enc cf q 0 d.size w := by
    intro m os dk _ x y
    let ρ1 : Rho := ⟨fun _ => ρ.b 1, ρ.sl⟩
    have hd := cmpR_spec (hp x.1 x.2) (hp y.1 y.2) hr (H := H) (K := fun x' t H' => x' = .v (.int .i64 (cf x y)) ∧ t = ⟨[], [(0, .cells 27 [.v (.slice a n c)])], 1⟩ ∧ H' = H) ha ⟨rfl, rfl, rfl⟩
    have hk0 : ∀ {k : Nat} {b : Bx}, lk [(0, Bx.cells 27 [.v (.slice a n c)])] k = some b → k = 0 ∧ b = .cells 27 [.v (.slice a n c)] := fun {k b} h => by
      rw [lk_cons] at h
      split at h
      · rename_i e0
        simp only [Option.some.injEq] at h
        exact ⟨e0.symm, h.symm⟩
      · cases h
    have hb1 : ∀ b', b' ≠ q → b' < w.heap.size → (sortWorld enc w q 0 m dk os).heap[b']? = w.heap[b']? := fun b' h1 h2 => by rw [hheap m dk os b' h2, if_neg h1]
    have hm1 : Mem (Bs.lent (sortWorld enc w q 0 m dk os) ρ1 [(0, .cells 27 [.v (.slice a n c)])] 1 H) ρ1 [(0, .cells 27 [.v (.slice a n c)])] 1 H (sortWorld enc w q 0 m dk os) :=
    { os := rfl, tape := rfl, output := ⟨rfl, Nat.le_refl _⟩, size := Nat.le_refl _
      frame := fun _ _ _ => rfl
      base := Nat.le_refl _
      agree := fun _ _ => ⟨rfl, rfl⟩
      hp := fun b o hb => by
        have h2 := hm.hp b o hb
        have h3 : b < w.heap.size := (Array.getElem?_eq_some_iff.1 h2).1
        rw [hb1 b (fun e => by rw [e, hHq] at hb; cases hb) h3]
        exact h2
      hle := fun _ _ h => h
      hnew := fun _ h _ _ => h
      ok := fun k b h => by
        obtain ⟨rfl, rfl⟩ := hk0 h
        refine ⟨Nat.zero_lt_one, ?_, rfl⟩
        show (sortWorld enc w q 0 m dk os).heap[ρ.b 1]? = _
        rw [hb1 _ (fun e => hq1 e.symm) h1s]
        exact hbc
      own := fun k b g h ho => by
        obtain ⟨rfl, rfl⟩ := hk0 h
        have e : g = ρ.b 1 := ho
        exact ⟨by rw [e]; exact hH1, .inr ⟨0, _, rfl, ho⟩⟩
      disj := fun k k' b b' g h h' _ _ => by
        obtain ⟨rfl, _⟩ := hk0 h
        obtain ⟨rfl, _⟩ := hk0 h'
        rfl }
    refine (hd.2 (sortWorld enc w q 0 m dk os) ρ1 hm1 rfl).mono fun e w' ⟨x', t, H', ρ', e1, ⟨e2, e3, e4⟩, _, hm2⟩ => ?_
    subst e2 e3
    refine ⟨e1, grow_of ⟨⟨hm2.os, hm2.tape, hm2.output.1, hm2.size, fun b hb => ?_⟩, hm2.output.2⟩⟩
    by_cases hb0 : b = ρ.b 1
    · have k1 := (hm2.ok 0 _ rfl).2.1
      have k1 : w'.heap[ρ'.b 0]? = some (.cells #[.slice a n c] 27 (0, 0)) := k1
      have k2 : ρ'.b 0 = ρ.b 1 := (hm2.agree 0 Nat.zero_lt_one).1
      rw [k2] at k1
      rw [hb0, k1, hb1 _ (fun e => hq1 e.symm) h1s, hbc]
    · exact hm2.frame b hb fun ⟨k, b', h1, h2⟩ => by
        obtain ⟨rfl, rfl⟩ := hk0 h1
        exact hb0 h2
  have hmain := Try.slices_SortFunc_total enc (fun _ => rfl) cf hO 88 #[.pointer (some ⟨ρ.b 1, 0, none⟩)] q 0 cap d w Try.call88 hcmp hH hqs (by rw [hds]; omega) hT
  rw [hds, ← hv] at hmain
  show Calls Try.prog 87 #[hd, .func (.func 88) #[] #[.pointer (some ⟨ρ.b 1, 0, none⟩)]] w _
  have hdl : d.toList = p.attach := rfl
  rw [hdl] at hmain
  obtain ⟨sl, hsle⟩ : ∃ sl, sl = p.attach.mergeSort fun x y => !(ltOf cf) y x := ⟨_, rfl⟩
  rw [← hsle] at hmain
  have hperm : sl.Perm p.attach := by rw [hsle]; exact List.mergeSort_perm _ _
  have hsl : sl.length = p.length := by rw [hperm.length_eq, List.length_attach]
  have hpq : (sl.map (·.1)).Perm p := by
    have := hperm.map (fun x : {x // x ∈ p} => x.1)
    rwa [List.attach_map_subtype_val] at this
  have hsort : (sl.map (·.1)).Pairwise (fun x y => ig ranks x ≤ ig ranks y) := by
    rw [List.pairwise_map]
    have := List.pairwise_mergeSort (le := fun x y => !(ltOf cf) y x) (fun x y z h1 h2 => by
      rw [Bool.not_eq_true'] at *
      have := (hltf _ _).1 h1
      have := (hltf _ _).1 h2
      exact (hltf _ _).2 (by omega)) (fun x y => by
      rw [Bool.or_eq_true, Bool.not_eq_true', Bool.not_eq_true']
      by_cases h : ig ranks y.1 < ig ranks x.1
      · exact .inr ((hltf _ _).2 (by omega))
      · exact .inl ((hltf _ _).2 h)) p.attach
    rw [hsle]
    refine this.imp fun {x y} h => ?_
    rw [Bool.not_eq_true'] at h
    have := (hltf _ _).1 h
    omega
  refine hmain.mono fun ev w' ⟨e1, k, os, e2⟩ => ?_
  have hss : sl.toArray.size = p.length := by simp [hsl]
  let H' : Hp := fun b => if b = q then some (.cells (putCells enc 0 sl.toArray cur) 3 (0, 0)) else H b
  have hH'q : H' q = some (.cells (putCells enc 0 sl.toArray cur) 3 (0, 0)) := if_pos rfl
  have hH'n : ∀ b, b ≠ q → H' b = H b := fun b h => if_neg h
  have hle : Le H H' := fun b o hb => by
    rw [hH'n b (fun e => by rw [e, hHq] at hb; cases hb)]
    exact hb
  have hrow : RowAt H' hd 1 (iRows (sl.map (·.1))) := by
    have hlen2 : (iRows (sl.map (·.1))).length = p.length := by simp [iRows, hsl]
    refine ⟨some ⟨q, 0, none⟩, cap, by rw [hlen2]; exact hv, by rw [hlen2]; exact ⟨hcap, hmax⟩, fun x hx => iRows_one _ x hx, .inr ⟨_, rfl, rfl, _, _, _, hH'q, ?_, fun i x hi j hj => ?_⟩⟩
    · simp [putCells, hsz]
    · have hi2 : i < p.length := by rw [← hlen2]; exact (List.getElem?_eq_some_iff.1 hi).1
      have hj0 : j = 0 := by omega
      subst hj0
      have hi3 : i < cur.size := by omega
      have hi4 : i < sl.length := by omega
      have ex : x = [.int .i64 sl[i].1] := by
        rw [iRows, List.getElem?_map, List.getElem?_map, List.getElem?_eq_getElem hi4] at hi
        simpa using hi.symm
      rw [ex, Nat.zero_add, Nat.mul_one, Nat.add_zero]
      simp only [putCells, Array.getElem?_mapIdx, Array.getElem?_eq_getElem hi3, Option.map_some]
      rw [if_pos ⟨Nat.zero_le _, by rw [hss]; omega⟩, Nat.sub_zero, getElem!_pos sl.toArray i (by rw [hss]; exact hi2)]
      rfl
  have hw' : ∀ b', b' < w.heap.size → w'.heap[b']? = if b' = q then some (.cells (putCells enc 0 sl.toArray cur) 3 (0, 0)) else w.heap[b']? := fun b' hb' => by rw [e2]; exact hheap k sl.toArray os b' hb'
  have hkey : ∀ {j : Nat} {b : Bx}, lk [(0, Bx.fam 3 1 (A ++ B)), (1, Bx.cells 27 [.v (.slice a n c)])] j = some b → (j = 0 ∧ b = .fam 3 1 (A ++ B)) ∨ (j = 1 ∧ b = .cells 27 [.v (.slice a n c)]) := fun {j b} h => by
    rw [lk_cons] at h
    split at h
    · rename_i e0
      simp only [Option.some.injEq] at h
      exact .inl ⟨e0.symm, h.symm⟩
    · rw [lk_cons] at h
      split at h
      · rename_i e0
        simp only [Option.some.injEq] at h
        exact .inr ⟨e0.symm, h.symm⟩
      · cases h
  have hmem : ∀ {x}, x ∈ A ++ B → x ∈ A ++ (hd, iRows p) :: B := fun {x} h => by
    rcases List.mem_append.1 h with h | h
    · exact List.mem_append_left _ h
    · exact List.mem_append_right _ (List.mem_cons_of_mem _ h)
  have hnq : ∀ {x : Value × List (List Value)} {g : Nat}, x ∈ A ++ B → x.1.ownBlock = some g → g ≠ q := fun {x g} h hg e => by
    have hh : (hd, iRows p).1.ownBlock = some q := by rw [hv]; rfl
    rw [List.pairwise_append] at hpw
    obtain ⟨_, h2, h3⟩ := hpw
    rw [List.pairwise_cons] at h2
    rw [e] at hg
    rcases List.mem_append.1 h with h | h
    · exact h3 x h _ List.mem_cons_self q hg hh
    · exact h2.1 x h q hh hg
  refine ⟨.tup [], ⟨[], [(0, .fam 3 1 (A ++ B)), (1, .cells 27 [.v (.slice a n c)])], 2⟩, H', ρ, e1, hK _ H' hpq hsort hle hrow, rfl, ?_⟩
  exact
  { os := by rw [e2]; rfl
    tape := by rw [e2]; rfl
    output := by rw [e2]; exact ⟨rfl, Nat.le_add_right _ _⟩
    size := by rw [e2]; exact hsize k sl.toArray os
    frame := fun b hb hn => by
      rw [hw' b hb, if_neg]
      · rfl
      · rintro rfl
        exact hn ⟨0, _, rfl, hown0⟩
    base := Nat.le_refl _
    agree := fun _ _ => ⟨rfl, rfl⟩
    hp := fun b o hb => by
      by_cases h : b = q
      · rw [h] at hb
        rw [h, hw' q hqs, if_pos rfl, ← hH'q]
        exact hb
      · rw [hH'n b h] at hb
        have h2 := hm.hp b o hb
        rw [hw' b (Array.getElem?_eq_some_iff.1 h2).1, if_neg h]
        exact h2
    hle := hle
    hnew := fun b h1 h2 h3 => by
      rw [hH'n b (fun e => by rw [e] at h3; exact h3 ⟨0, _, rfl, hown0⟩)]
      exact h1
    ok := fun j b h => by
      rcases hkey h with ⟨rfl, rfl⟩ | ⟨rfl, rfl⟩
      · refine ⟨Nat.zero_lt_succ _, ⟨fun x hx => ?_, hpw.sublist (List.Sublist.append_left (List.sublist_cons_self _ _) _)⟩, rfl⟩
        obtain ⟨⟨k1, k2⟩, k3⟩ := hfam x (hmem hx)
        refine ⟨⟨k1, ?_⟩, k3⟩
        rcases k2 with k2 | ⟨g, cp, cr, m1, m2, m3, m4⟩
        · exact .inl k2
        · refine .inr ⟨g, cp, cr, m1, m2, ?_, m4⟩
          have hg : g ≠ q := hnq hx (by rw [m1]; rfl)
          rw [hw' g (Array.getElem?_eq_some_iff.1 m3).1, if_neg hg]
          exact m3
      · refine ⟨Nat.lt_succ_self _, ?_, rfl⟩
        show w'.heap[ρ.b 1]? = _
        rw [hw' _ h1s, if_neg (fun e => hq1 e.symm)]
        exact hbc
    own := fun j b g h ho => by
      rcases hkey h with ⟨rfl, rfl⟩ | ⟨rfl, rfl⟩
      · obtain ⟨x, hx, hg⟩ := ho
        have ho2 : Owns ρ 0 (.fam 3 1 (A ++ (hd, iRows p) :: B)) g := ⟨x, hmem hx, hg⟩
        exact ⟨by rw [hH'n g (hnq hx hg)]; exact (hm.own 0 _ g rfl ho2).1, .inr ⟨0, _, rfl, ho2⟩⟩
      · have e : g = ρ.b 1 := ho
        exact ⟨by rw [e, hH'n _ (fun e => hq1 e.symm)]; exact hH1, .inr ⟨1, _, rfl, ho⟩⟩
    disj := fun j j' b b' g h h' ho ho' => by
      rcases hkey h with ⟨rfl, rfl⟩ | ⟨rfl, rfl⟩ <;> rcases hkey h' with ⟨rfl, rfl⟩ | ⟨rfl, rfl⟩
      · rfl
      · obtain ⟨x, hx, hg⟩ := ho
        exact hm.disj 0 1 _ _ g rfl rfl ⟨x, hmem hx, hg⟩ ho'
      · obtain ⟨x, hx, hg⟩ := ho'
        exact hm.disj 1 0 _ _ g rfl rfl ho ⟨x, hmem hx, hg⟩
      · rfl }
end Go.Proofs
end
section
namespace Go.Proofs
open Go.Sy
set_option maxRecDepth 20000
set_option maxHeartbeats 4000000
/-! order.All: parts are taken over, each is sorted in place -/
noncomputable def cxA : Cx := { P := Try.prog, tt := tt, n := 0, wrap := false, base := 0, gf := [27, 66, 67, 68, 72, 74, 75, 79, 81, 82, 83, 86, 87, 88, 90, 92, 93, 94, 98, 99, 100, 101, 104, 105, 106, 120, 129], eqs := [63], xf := [] }
theorem cxA_ok : TOK cxA := ⟨cx_ok.tt, cx_ok.eqs⟩
/-- A family of rows: heads and elements. -/
def famL (hds : List Value) (out : List (List Int)) : List (Value × List (List Value)) := List.zipWith (fun h p => (h, iRows p)) hds out
theorem famL_mem {hds : List Value} {out : List (List Int)} {p : Value × List (List Value)} (h : p ∈ famL hds out) : ∃ (i : Nat) (hd : Value) (q : List Int), hds[i]? = some hd ∧ out[i]? = some q ∧ p = (hd, iRows q) := by
  obtain ⟨i, hi, rfl⟩ := List.getElem_of_mem h
  rw [famL, List.length_zipWith] at hi
  refine ⟨i, hds[i]'(by omega), out[i]'(by omega), List.getElem?_eq_getElem _, List.getElem?_eq_getElem _, ?_⟩
  simp [famL]
def hdOf (cs : List Value) : Value := cs.head?.getD undef
theorem ofG_spec {m : Int} {l : List Edg} (hl : l.length ≤ 1000000) {a : Option Addr} {n c : Nat} {H : Hp} {K : SV → St → Hp → Prop} (ha : RL H a n c l) (hr : rightE m l = true)
    (hK : ∀ a1 n1 c1 pa out hds H', Le H H' → hds.length = out.length → n1 = out.length → RowAt H' (.slice a1 n1 c1) 1 (hds.map fun h => [h]) → AllP m l pa → IsOrd l pa out → out.length = pa.length →
      K (.tup [.v (.slice a1 n1 c1), .v (.int .i64 0)]) ⟨[], [(0, .fam 3 1 (famL hds out))], 1⟩ H') :
    DoesG Try.prog 27 [.v (.int .i64 m), .v (.slice a n c)] [] 0 H K := by
  refine doesG_thaw (args := [.int .i64 m, .slice a n c]) (fun _ => rfl) (of_specX hl ha (K := fun v H' => ∃ a1 n1 c1 pa out ocss, v = .tuple #[.slice a1 n1 c1, .int .i64 0] ∧ RL H' a1 n1 c1 out ∧ RowAt H' (.slice a1 n1 c1) 1 ocss ∧ RX H H' ocss out ∧ TopApart a1 ocss ∧ AllP m l pa ∧ IsOrd l pa out ∧ out.length = pa.length)
    (fun h => by rw [hr] at h; cases h) (fun _ a1 n1 c1 pa out ocss H' _ h1 h2 h3 h4 h5 h6 h7 => ⟨a1, n1, c1, pa, out, ocss, rfl, h1, h2, h3, h4, h5, h6, h7⟩)) ?_
  rintro v H2 hle ⟨a1, n1, c1, pa, out, ocss, rfl, h1, h2, h3, h4, h5, h6, h7⟩
  have hlen : ocss.length = out.length := h3.rc.1
  have hhd : ∀ {i : Nat} {cs : List Value}, ocss[i]? = some cs → cs = [hdOf cs] ∧ ∃ q, out[i]? = some q ∧ ExL H H2 cs q := fun {i cs} hi => by
    have hlt := (List.getElem?_eq_some_iff.1 hi).1
    have hq : out[i]? = some (out[i]'(by omega)) := List.getElem?_eq_getElem _
    have hex := h3.ex i cs _ hi hq
    refine ⟨?_, _, hq, hex⟩
    obtain ⟨g, cap, c', e, _⟩ := hex
    rw [e]; rfl
  have hmap : (ocss.map hdOf).map (fun h => [h]) = ocss := by
    rw [List.map_map]
    conv => rhs; rw [← List.map_id ocss]
    refine List.map_congr_left fun cs hcs => ?_
    obtain ⟨i, hi, rfl⟩ := List.getElem_of_mem hcs
    exact (hhd (List.getElem?_eq_getElem hi)).1.symm
  have hfam : ∀ p ∈ famL (ocss.map hdOf) out, ∃ (i : Nat) (cs : List Value) (q : List Int), ocss[i]? = some cs ∧ out[i]? = some q ∧ p = (hdOf cs, iRows q) ∧ ExL H H2 cs q := fun p hp => by
    obtain ⟨i, hd, q, k1, k2, rfl⟩ := famL_mem hp
    rw [List.getElem?_map] at k1
    cases hi : ocss[i]? with
    | none => rw [hi] at k1; cases k1
    | some cs =>
      rw [hi] at k1
      simp only [Option.map_some, Option.some.injEq] at k1
      obtain ⟨_, q', k3, k4⟩ := hhd hi
      rw [k2] at k3
      simp only [Option.some.injEq] at k3
      subst k3
      exact ⟨i, cs, q, hi, k2, by rw [k1], k4⟩
  have hblk : ∀ {i : Nat} {cs : List Value} {g : Nat}, ocss[i]? = some cs → (hdOf cs).ownBlock = some g → blk cs = some g := fun {i cs g} hi hg => by
    have := (hhd hi).1
    rw [this]
    exact hg
  refine ⟨3, 1, famL (ocss.map hdOf) out, .tup [.v (.slice a1 n1 c1), .v (.int .i64 0)], fun _ => rfl, rfl, fun p hp => ?_, ?_, fun hle2 => ?_⟩
  · obtain ⟨i, cs, q, k1, k2, rfl, g, cap, c', e, k3⟩ := hfam p hp
    refine ⟨⟨g, cap, c', ?_, ?_⟩, fun x hx => iRows_one _ x hx⟩
    · show hdOf cs = .slice (some ⟨g, 0, none⟩) (iRows q).length cap
      rw [e, iRows_len]; rfl
    · show _ ∧ _ ∧ (iRows q).length ≤ cap ∧ _ ∧ _ ∧ c'.toList.take ((iRows q).length * 1) = (iRows q).flatten
      rw [iRows_len]
      exact k3
  · rw [List.pairwise_iff_getElem]
    intro i j hi hj hij g hg hg'
    have hil : i < out.length := by rw [famL, List.length_zipWith] at hi; omega
    have hjl : j < out.length := by rw [famL, List.length_zipWith] at hj; omega
    have ei : (famL (ocss.map hdOf) out)[i].1 = hdOf (ocss[i]'(by omega)) := by simp [famL]
    have ej : (famL (ocss.map hdOf) out)[j].1 = hdOf (ocss[j]'(by omega)) := by simp [famL]
    rw [ei] at hg
    rw [ej] at hg'
    have := h3.eq i j _ _ _ _ g (List.getElem?_eq_getElem (by omega)) (List.getElem?_eq_getElem hil) (List.getElem?_eq_getElem (by omega)) (List.getElem?_eq_getElem hjl) (hblk (List.getElem?_eq_getElem (by omega)) hg) (hblk (List.getElem?_eq_getElem (by omega)) hg')
    have := (List.getElem_inj (isOrd_nodup h6)).1 this
    omega
  · refine hK a1 n1 c1 pa out (ocss.map hdOf) _ hle2 (by rw [List.length_map]; exact hlen) h1.n_eq ?_ h5 h6 h7
    rw [hmap]
    obtain ⟨a', cap, e, k1, k2, k3⟩ := h2
    refine ⟨a', cap, e, k1, k2, ?_⟩
    rcases k3 with k3 | ⟨ad, k3, k4, cc, T, fr, k5, k6⟩
    · exact .inl k3
    · refine .inr ⟨ad, k3, k4, cc, T, fr, ?_, k6⟩
      rw [cutH_out]
      · exact k5
      · intro p hp hg
        obtain ⟨i, cs, q, m1, m2, rfl, _⟩ := hfam p hp
        simp only [Value.slice.injEq] at e
        exact h4 i cs ad.block ad m1 (hblk m1 hg) (e.1.trans k3) rfl
end Go.Proofs
end
section
namespace Go.Proofs
open Go.Sy
set_option maxRecDepth 20000
set_option maxHeartbeats 4000000
theorem sortF_spec {ranks p : List Int} {hd : Value} {F B : List (Value × List (List Value))} (hF : F = (hd, iRows p) :: B) (hne : p ≠ []) (hp : ∀ x ∈ p, 0 ≤ x ∧ x < ranks.length) (hlen : p.length ≤ 1000000) (hr : ∀ z ∈ ranks, 0 ≤ z ∧ z ≤ 1000000)
    (hdf : ∀ x ∈ p, ∀ y ∈ p, ig ranks x = ig ranks y → x = y) {a : Option Addr} {n c : Nat} {H : Hp} {K : SV → St → Hp → Prop} (ha : RL H a n c ranks)
    (hK : ∀ H', Le H H' → RowAt H' hd 1 (iRows (sortR ranks p)) → K (.tup []) ⟨[], [(0, .fam 3 1 B), (1, .cells 27 [.v (.slice a n c)])], 2⟩ H') :
    DoesG Try.prog 87 [.v hd, .fn 88 [.ptr 1 0]] [(0, .fam 3 1 F), (1, .cells 27 [.v (.slice a n c)])] 2 H K := by
  subst hF
  exact sortP_spec (A := []) hne hp hlen hr hdf ha fun q H' h1 h2 h3 h4 => hK H' h3 (sortR_uniq hdf h1 h2 ▸ h4)
/-- What a part has. -/
theorem part_in {m : Int} {l : List Edg} {pa out : List (List Int)} (hP : AllP m l pa) (ho : IsOrd l pa out) {p : List Int} (hp : p ∈ out) : p ≠ [] ∧ (∀ x ∈ p, nodeI m x = true) ∧ p.Nodup := by
  have h1 := hP.tp.ok p (isOrd_mem ho p hp)
  refine ⟨h1.ne, fun x hx => (ord_flat hP ho).2 x (List.mem_flatten.2 ⟨p, hp, hx⟩), ?_⟩
  exact h1.str.imp fun h e => by rw [e] at h; exact absurd h (Int.lt_irrefl _)
theorem ranks_bd {m : Int} (h0 : 0 ≤ m) (hm : m ≤ 1000) {l : List Edg} {f : List Int} (hf : ∀ x ∈ f, nodeI m x = true) : ∀ z ∈ ranks m l f, 0 ≤ z ∧ z ≤ 1000000 := fun z hz => by
  obtain ⟨i, hi, rfl⟩ := List.getElem_of_mem hz
  have hi2 := hi
  rw [ranks_len] at hi2
  have := rank_ok h0 (l := l) hf (x := (i : Int)) (decide_eq_true (by omega))
  rw [ig, Int.toNat_natCast, List.getElem?_eq_getElem hi] at this
  simp only [Option.getD_some] at this
  omega
theorem all_len {r : List Int} {m : Int} {l : List Edg} {pa out : List (List Int)} (hP : AllP m l pa) (ho : IsOrd l pa out) (i : Nat) : (allL r (out.take i)).length ≤ m.toNat := by
  rw [(allL_perm r _).length_eq]
  obtain ⟨h1, h2⟩ := ord_flat hP ho
  refine Nat.le_trans ?_ (nodes_len h1 h2)
  have := congrArg List.length (congrArg List.flatten (List.take_append_drop i out))
  rw [List.flatten_append, List.length_append] at this
  omega
theorem rowAt_le {H : Hp} {a : Option Addr} {n c sz : Nat} {xs : List (List Value)} (h : RowAt H (.slice a n c) sz xs) : n ≤ 9223372036854775807 := by
  obtain ⟨a', cap, e, ⟨h1, h2⟩, _⟩ := h
  simp only [Value.slice.injEq] at e
  omega
theorem rowAt_hd {H H' : Hp} {a : Option Addr} {n c : Nat} {hds : List Value} (h : RowAt H (.slice a n c) 1 (hds.map fun h => [h])) (hle : Le H H') {i : Nat} {hd : Value} (hi : hds[i]? = some hd) {P : Prop} (k : ∀ ad, a = some ad → ElemH H' ad (i : Int) 1 [hd] → P) : P := by
  obtain ⟨ad, h1, h2, h3, cc, T, fr, h4, h5⟩ := rowAt_elem h (i := i) (cs := [hd]) (by rw [List.getElem?_map, hi]; rfl)
  exact k ad h1 ⟨h2, h3, cc, T, fr, hle _ _ h4, h5⟩
theorem famL_drop {hds : List Value} {out : List (List Int)} {i : Nat} (h : i < hds.length) (h' : i < out.length) : famL (hds.drop i) (out.drop i) = (hds[i], iRows out[i]) :: famL (hds.drop (i + 1)) (out.drop (i + 1)) := by
  rw [List.drop_eq_getElem_cons h, List.drop_eq_getElem_cons h']; rfl
theorem all_spec {m : Int} {l : List Edg} {f : List Int} (hl : l.length ≤ 1000000) (hf : f.length ≤ 1000000) {a a3 : Option Addr} {n c n3 c3 : Nat} {H : Hp} {K : Value → Hp → Prop} (ha : RL H a n c l) (hb : RL H a3 n3 c3 f)
    (hbad : errE m l f ≠ 0 → K (.tuple #[.slice none 0 0, .int .i64 (errE m l f)]) H)
    (hK : errE m l f = 0 → ∀ a1 n1 c1 pa out H', Le H H' → AllP m l pa → IsOrd l pa out → out.length = pa.length → RL H' a1 n1 c1 (allL (ranks m l f) out) → K (.tuple #[.slice a1 n1 c1, .int .i64 0]) H') :
    Does Try.prog 50 [.int .i64 m, .slice a n c, .slice a3 n3 c3] H K := by
  refine spec_of cxA_ok cx_mix rfl Try.func50 Try.call50 Try.ntmps50 Try.results50 rfl rfl ?_
  refine ranks_spec hl hf ha hb (fun he => ?_) (fun he a1 n1 c1 H1 hle1 hr1 => ?_)
  · refine ⟨fun h => ?_, fun h => ?_⟩
    · exact hbad (nt h)
    · exact absurd (nf h) he
  · have hK := hK he
    obtain ⟨h1, hf2⟩ := err_ok he
    obtain ⟨hm1, hm2, hl2⟩ := right_ok h1
    have h0 : 0 ≤ m := by omega
    refine ⟨fun h => by simp at h, fun _ => ?_⟩
    refine ⟨[], rfl, ofG_spec hl (ha.up hle1) h1 fun a2 n2 c2 pa out hds H2 hle2 hlen hn2 htop hP ho hol => ?_⟩
    have hmx2 := rowAt_le htop
    obtain ⟨r, hr⟩ : ∃ r, r = ranks m l f := ⟨_, rfl⟩
    have hrl := ranks_len m l f
    have hrb := ranks_bd h0 (by omega) (l := l) hf2
    have hri := fun x y hx hy => rank_inj h0 (l := l) hf2 (x := x) (y := y) hx hy
    rw [← hr] at hr1 hrl hrb hri hK
    refine ⟨Nat, fun i => ⟨[(8, .ptr 0 0), (9, .v (.int .i64 0)), (11, .own 2), (30, .v (.slice a2 n2 c2)), (31, .v (.int .i64 n2)), (32, .v (.int .i64 i))],
        [(0, .cells 27 [.v (.slice a1 n1 c1)]), (1, .fam 3 1 (famL (hds.drop i) (out.drop i))), (2, .row 3 1 (iRows (allL r (out.take i))))], 3⟩,
      fun i H' => Le H2 H' ∧ i ≤ out.length, fun i => out.length - i, ⟨0, [(0, 0), (1, 1)], ?_, Le.refl _, Nat.zero_le _⟩, ?_⟩
    · (repeat' (first | exact trivial | refine ⟨?_, ?_⟩ | exact rfl | assumption))
    rintro i H3 hle3 ⟨_, hi⟩
    have hal := all_len (r := r) hP ho i
    have heS : (iRows (allL r (out.take i))).length = (allL r (out.take i)).length := List.length_map _
    refine ⟨fun h => ?_, fun h => ?_⟩
    · have hlt : i < out.length := by have := dt h; omega
      have hlt2 : i < hds.length := by omega
      refine rowAt_hd htop hle3 (List.getElem?_eq_getElem hlt2) fun ad q1 hh => ?_
      refine ⟨ad, ⟨by omega, by omega, q1⟩, ?_⟩
      refine ⟨_, hh, ?_⟩
      obtain ⟨p, hpe⟩ : ∃ p, p = out[i] := ⟨_, rfl⟩
      have hpm : p ∈ out := by rw [hpe]; exact List.getElem_mem hlt
      obtain ⟨p1, p2, p3⟩ := part_in hP ho hpm
      have hF := famL_drop hlt2 hlt
      rw [← hpe] at hF
      have hpl := nodes_len p3 p2
      refine ⟨[1, 0], rfl, sortF_spec hF p1 (fun x hx => by have := dt (p2 x hx); omega) (by omega) hrb (fun x hx y hy => hri x y (p2 x hx) (p2 y hy)) (hr1.up (hle2.trans hle3)) fun H4 hle4 hrow => ?_⟩
      have hsl := sortR_len r p
      have heP : (iRows (sortR r p)).length = (sortR r p).length := List.length_map _
      have hs : allL r (out.take (i + 1)) = allL r (out.take i) ++ sortR r p := by rw [List.take_succ_eq_append_getElem hlt, ← hpe, allL_snoc]
      refine ⟨_, hrow, ?_⟩
      refine ⟨⟨by show ((iRows _).length + (iRows _).length) * 8 ≤ 140737488355328; omega, by show (iRows _).length + (iRows _).length ≤ 9223372036854775807; omega⟩, ?_⟩
      have e1 : iRows (allL r (out.take i)) ++ iRows (sortR r p) = iRows (allL r (out.take (i + 1))) := by rw [hs]; simp
      refine ⟨⟨by omega, by omega⟩, i + 1, [(0, 0), (1, 1), (2, 3)], ?_, ⟨hle3.trans hle4, hlt⟩, by dsimp only; omega⟩
      (repeat' (first | exact trivial | refine ⟨?_, ?_⟩ | exact rfl | assumption))
    · have hil : i = out.length := by have := df h; omega
      intro x H4 hle4 hx
      rw [hil, List.take_length] at hx
      obtain ⟨a4, n4, c4, rfl, hr4⟩ := rI_all hx (fun x hx => by
        have := dt ((ord_flat hP ho).2 x ((allL_perm r out).mem_iff.1 hx))
        exact ⟨by omega, by omega⟩)
      exact hK _ _ _ pa out _ (((hle1.trans hle2).trans hle3).trans hle4.le) hP ho hol hr4
end Go.Proofs
end
section
namespace Go.Proofs
open Go.Sy
set_option maxRecDepth 20000
set_option maxHeartbeats 4000000
theorem name_k {α : Type} {P : Prop} (x : α) (k : ∀ z, z = x → P) : P := k x rfl
theorem kthR_take {r p : List Int} {k j : Nat} (h : j < p.length) : kthR r (p.take (j + 1)) k = kthR r (p.take j) k ++ (if ig r p[j] = (k : Int) then [p[j]] else []) := by
  rw [kthR, List.take_succ_eq_append_getElem h, List.filter_append, ← kthR]
  congr 1
  by_cases e : ig r p[j] = (k : Int)
  · rw [if_pos e]; simp [e]
  · rw [if_neg e]; simp [e]
theorem byR_len {r p : List Int} (h : p.Nodup) (k : Nat) : (byR r p k).length ≤ p.length := nodup_sub (byR_nodup h k) fun x hx => ((byR_mem r p k x).1 hx).1
theorem rall_spec {m : Int} (h0 : 0 ≤ m) (hm : m ≤ 1000) {l : List Edg} (hl : l.length ≤ 100000) {pa : List (List Int)} (hP : AllP m l pa) {f : List Int} (hf : ∀ x ∈ f, nodeI m x = true) {a a3 : Option Addr} {n c n3 c3 : Nat} {H : Hp} {K : Value → Hp → Prop} (ha : RL H a n c l) (hb : RL H a3 n3 c3 f)
    (hK : ∀ a1 n1 c1 out H', Le H H' → IsOrd l pa out → out.length = pa.length → RL H' a1 n1 c1 (allL (ranks m l f) out) → K (.slice a1 n1 c1) H') : Does Try.prog 54 [.int .i64 m, .slice a n c, .slice a3 n3 c3] H K := by
  have hrb := ranks_bd h0 hm (l := l) hf
  have hri := fun x y hx hy => rank_inj h0 (l := l) hf (x := x) (y := y) hx hy
  have hro := fun x hx => rank_ok h0 (l := l) hf (x := x) hx
  have hrl := ranks_len m l f
  refine spec_of cxV_ok cx_mix rfl Try.func54 Try.call54 Try.ntmps54 Try.results54 rfl rfl ?_
  refine rranks_spec h0 hm hf ha hb fun a1 n1 c1 H1 hle1 hr1 => ?_
  obtain ⟨r, hr⟩ : ∃ r, r = ranks m l f := ⟨_, rfl⟩
  rw [← hr] at hr1 hrl hrb hri hro hK
  refine rof_spec h0 hm hl hP (ha.up hle1) fun a2 n2 c2 out H2 hle2 hr2 ho hol => ?_
  have hmx2 := hr2.le
  have hn2 := hr2.n_eq
  refine ⟨Nat, fun i => ⟨[(0, .v (.int .i64 m)), (7, .v (.slice a1 n1 c1)), (8, .own 0), (20, .v (.slice a2 n2 c2)), (21, .v (.int .i64 n2)), (22, .v (.int .i64 i))], [(0, .row 3 1 (iRows (allL r (out.take i))))], 1⟩,
    fun i H' => Le H2 H' ∧ i ≤ out.length, fun i => out.length - i, ⟨0, [], ?_, Le.refl _, Nat.zero_le _⟩, ?_⟩
  · have e0 : iRows (allL r (out.take 0)) = [] := rfl
    (repeat' (first | exact trivial | refine ⟨?_, ?_⟩ | exact rfl | assumption))
  rintro i H3 hle3 ⟨_, hi⟩
  have hal := all_len (r := r) hP ho i
  refine ⟨fun h => ?_, fun h => ?_⟩
  · have hlt : i < out.length := by have := dt h; omega
    refine list_elem_k (hr2.up hle3) (List.getElem?_eq_getElem hlt) fun ad a4 n4 c4 q1 hh hr4 => ?_
    refine ⟨ad, ⟨by omega, by omega, q1⟩, ?_⟩
    refine ⟨_, hh, ?_⟩
    obtain ⟨p, hpe⟩ : ∃ p, p = out[i] := ⟨_, rfl⟩
    have hpm : p ∈ out := by rw [hpe]; exact List.getElem_mem hlt
    obtain ⟨p1, p2, p3⟩ := part_in hP ho hpm
    have hpl := nodes_len p3 p2
    have hs : allL r (out.take (i + 1)) = allL r (out.take i) ++ sortR r p := by rw [List.take_succ_eq_append_getElem hlt, ← hpe, allL_snoc]
    rw [← hpe] at hr4
    have hn4 := hr4.n_eq
    obtain ⟨A, hA⟩ : ∃ A, A = allL r (out.take i) := ⟨_, rfl⟩
    rw [← hA] at hs hal ⊢
    refine ⟨Nat, fun k => ⟨[(0, .v (.int .i64 m)), (7, .v (.slice a1 n1 c1)), (8, .own 0), (10, .v (.slice a4 n4 c4)), (11, .v (.int .i64 k)), (20, .v (.slice a2 n2 c2)), (21, .v (.int .i64 n2)), (22, .v (.int .i64 i))], [(0, .row 3 1 (iRows (A ++ byR r p k)))], 1⟩,
      fun k H' => Le H3 H' ∧ k ≤ m.toNat, fun k => m.toNat - k, ⟨0, [(0, 0)], ?_, Le.refl _, Nat.zero_le _⟩, ?_⟩
    · have e0 : iRows A = iRows (A ++ byR r p 0) := by simp [byR]
      (repeat' (first | exact trivial | refine ⟨?_, ?_⟩ | exact rfl | assumption))
    rintro k H4 hle4 ⟨_, hk⟩
    have hbl := byR_len (r := r) p3 k
    refine ⟨fun h => ?_, fun h => ?_⟩
    · have hkm : k < m.toNat := by have := dt h; omega
      refine ⟨Nat, fun j => ⟨[(0, .v (.int .i64 m)), (7, .v (.slice a1 n1 c1)), (8, .own 0), (10, .v (.slice a4 n4 c4)), (11, .v (.int .i64 k)), (20, .v (.slice a2 n2 c2)), (21, .v (.int .i64 n2)), (22, .v (.int .i64 i)), (31, .v (.slice a4 n4 c4)), (32, .v (.int .i64 n4)), (33, .v (.int .i64 j))],
          [(0, .row 3 1 (iRows (A ++ byR r p k ++ kthR r (p.take j) k)))], 1⟩,
        fun j H' => Le H4 H' ∧ j ≤ p.length, fun j => p.length - j, ⟨0, [(0, 0)], ?_, Le.refl _, Nat.zero_le _⟩, ?_⟩
      · have e0 : iRows (A ++ byR r p k) = iRows (A ++ byR r p k ++ kthR r (p.take 0) k) := by simp [kthR]
        (repeat' (first | exact trivial | refine ⟨?_, ?_⟩ | exact rfl | assumption))
      rintro j H5 hle5 ⟨_, hj⟩
      have hkl : (kthR r (p.take j) k).length ≤ p.length := by
        have h1 := List.length_filter_le (fun a => decide (ig r a = (k : Int))) (p.take j)
        have h2 := List.length_take_le j p
        have h3 := List.length_take (i := j) (l := p)
        rw [kthR]; omega
      refine ⟨fun h => ?_, fun h => ?_⟩
      · have hjl : j < p.length := by have := dt h; omega
        have hz0 := p2 _ (List.getElem_mem hjl)
        have hs0 := kthR_take (r := r) (k := k) hjl
        refine name_k p[j] fun z hze => ?_
        rw [← hze] at hz0 hs0
        have hz2 := dt hz0
        have hgz : p[j]? = some z := by rw [hze]; exact List.getElem?_eq_getElem hjl
        refine int_elem_k ((hr4.up hle4).up hle5) hgz fun ad1 q1 hh1 => ?_
        refine ⟨ad1, ⟨by omega, by omega, q1⟩, ?_⟩
        refine ⟨_, hh1, ?_⟩
        have hn1 := hr1.n_eq
        refine int_at_k ((((hr1.up hle2).up hle3).up hle4).up hle5) hz2.1 (by omega) fun ad2 q2 hh2 => ?_
        refine ⟨ad2, ⟨by omega, by omega, q2⟩, ?_⟩
        refine ⟨_, hh2, ?_⟩
        have lA : (A ++ byR r p k).length = A.length + (byR r p k).length := List.length_append
        have lB : (A ++ byR r p k ++ kthR r (p.take j) k).length = (A ++ byR r p k).length + (kthR r (p.take j) k).length := List.length_append
        refine ⟨fun h => ?_, fun h => ?_⟩
        · have hyes : ig r z = (k : Int) := dt h
          rw [if_pos hyes] at hs0
          refine ⟨⟨by show ((iRows _).length + 1) * 8 ≤ 140737488355328; rw [iRows_ln]; omega, by show (iRows _).length + 1 ≤ 9223372036854775807; rw [iRows_ln]; omega⟩, ?_⟩
          have e1 : iRows (A ++ byR r p k ++ kthR r (p.take j) k) ++ [[Value.int .i64 z]] = iRows (A ++ byR r p k ++ kthR r (p.take (j + 1)) k) := by rw [hs0]; simp
          refine ⟨⟨by omega, by omega⟩, j + 1, [(0, 2)], ?_, ⟨hle5, hjl⟩, by dsimp only; omega⟩
          (repeat' (first | exact trivial | refine ⟨?_, ?_⟩ | exact rfl | assumption))
        · have hno : ¬ ig r z = (k : Int) := df h
          rw [if_neg hno, List.append_nil] at hs0
          have e1 : iRows (A ++ byR r p k ++ kthR r (p.take j) k) = iRows (A ++ byR r p k ++ kthR r (p.take (j + 1)) k) := by rw [hs0]
          refine ⟨⟨by omega, by omega⟩, j + 1, [(0, 0)], ?_, ⟨hle5, hjl⟩, by dsimp only; omega⟩
          (repeat' (first | exact trivial | refine ⟨?_, ?_⟩ | exact rfl | assumption))
      · have hjl : j = p.length := by have := df h; omega
        have hpt : p.take j = p := by rw [hjl, List.take_length]
        have e1 : iRows (A ++ byR r p k ++ kthR r (p.take j) k) = iRows (A ++ byR r p (k + 1)) := by rw [hpt, byR_succ, List.append_assoc]
        refine ⟨⟨by omega, by omega⟩, k + 1, [(0, 0)], ?_, ⟨hle4.trans hle5, hkm⟩, by dsimp only; omega⟩
        (repeat' (first | exact trivial | refine ⟨?_, ?_⟩ | exact rfl | assumption))
    · have hkm : k = m.toNat := by have := df h; omega
      have hbe : byR r p m.toNat = sortR r p := byR_eq p3 (fun x hx y hy => hri x y (p2 x hx) (p2 y hy)) (fun x hx => by have := hro x (p2 x hx); omega)
      have e1 : iRows (A ++ byR r p k) = iRows (allL r (out.take (i + 1))) := by rw [hkm, hbe, hs]
      refine ⟨⟨by omega, by omega⟩, i + 1, [(0, 0)], ?_, ⟨hle3.trans hle4, hlt⟩, by dsimp only; omega⟩
      (repeat' (first | exact trivial | refine ⟨?_, ?_⟩ | exact rfl | assumption))
  · have hil : i = out.length := by have := df h; omega
    intro x H4 hle4 hx
    rw [hil, List.take_length] at hx
    obtain ⟨a4, n4, c4, rfl, hr4⟩ := rI_all hx (fun x hx => by
      have := dt ((ord_flat hP ho).2 x ((allL_perm r out).mem_iff.1 hx))
      exact ⟨by omega, by omega⟩)
    exact hK _ _ _ out _ (((hle1.trans hle2).trans hle3).trans hle4.le) ho hol hr4
end Go.Proofs
end
section
namespace Go.Proofs
open Go.Sy
set_option maxRecDepth 20000
set_option maxHeartbeats 4000000
theorem few14_spec {m : Int} {l : List Edg} {f : List Int} {a a3 : Option Addr} {n c n3 c3 : Nat} {H : Hp} {K : Value → Hp → Prop} (ha : RL H a n c l) (hb : RL H a3 n3 c3 f) (hK : ∀ b, (b = true → (m ≤ 8 ∨ m > 256) ∧ l.length ≤ 20 ∧ f.length ≤ 10) → K (.bool b) H) : Does Try.prog 47 [.int .i64 m, .slice a n c, .slice a3 n3 c3] H K := by
  have hn := ha.n_eq
  have hn3 := hb.n_eq
  refine spec_of cx_ok cx_mix rfl Try.func47 Try.call47 Try.ntmps47 Try.results47 rfl rfl ?_
  refine ⟨fun h => ?_, fun h => ?_⟩
  · have h1 : ¬ m ≤ 8 := df h
    refine ⟨fun h => ?_, fun h => ?_⟩
    · have h2 : m > 256 := dt h
      refine ⟨fun h => ?_, fun h => ?_⟩
      · have h3 := dt h
        exact hK _ fun h4 => ⟨.inr h2, by omega, by have := dt h4; omega⟩
      · exact hK _ fun h3 => by first | (rw [h] at h3; cases h3) | cases h3
    · exact hK _ fun h3 => by first | (rw [h] at h3; cases h3) | cases h3
  · have h1 : m ≤ 8 := dt h
    refine ⟨fun h => ?_, fun h => ?_⟩
    · have h3 := dt h
      exact hK _ fun h4 => ⟨.inl h1, by omega, by have := dt h4; omega⟩
    · exact hK _ fun h3 => by first | (rw [h] at h3; cases h3) | cases h3
theorem OrderTells_spec {m : Int} {l : List Edg} {f : List Int} {a a3 : Option Addr} {n c n3 c3 : Nat} {H : Hp} {K : Value → Hp → Prop} (ha : RL H a n c l) (hb : RL H a3 n3 c3 f) (hK : ∀ H', Le H H' → K (.bool true) H') : Does Try.prog 9 [.int .i64 m, .slice a n c, .slice a3 n3 c3] H K := by
  have hn := ha.n_eq
  have hn3 := hb.n_eq
  refine spec_of cx_ok cx_mix rfl Try.func9 Try.call9 Try.ntmps9 Try.results9 rfl rfl ?_
  refine awake14_spec fun _ _ => ?_
  refine ⟨(fun h => by cases h), fun _ => ?_⟩
  refine few14_spec ha hb fun b hfew => ?_
  refine ⟨fun h => ?_, fun h => ?_⟩
  · exact hK _ (Le.refl H)
  · obtain ⟨hm, hll, hfl⟩ := hfew (by simpa using h)
    by_cases he : errE m l f = 0
    · obtain ⟨hr, hf⟩ := err_ok he
      obtain ⟨hm1, hm2, _⟩ := right_ok hr
      refine post_spec (by omega) (by omega) ha hb (fun h => absurd he h) (fun _ a4 n4 c4 H4 hle4 hr4 => ?_)
      refine ranks_spec (by omega) (by omega) (ha.up hle4) (hb.up hle4) (fun h => absurd he h) (fun _ a5 n5 c5 H5 hle5 hr5 => ?_)
      refine all_spec (by omega) (by omega) ((ha.up hle4).up hle5) ((hb.up hle4).up hle5) (fun h => absurd he h) (fun _ a6 n6 c6 pa out H6 hle6 hP ho hol hr6 => ?_)
      have hle := (hle4.trans hle5).trans hle6
      refine rerr_spec (ha.up hle) (hb.up hle) ?_
      rw [he]
      refine ⟨(fun h => by simp at h), fun _ => ?_⟩
      refine ⟨fun _ => ?_, fun h => by simp at h⟩
      refine ⟨fun _ => ?_, fun h => by simp at h⟩
      refine ⟨fun _ => ?_, fun h => by simp at h⟩
      refine rpost_spec (by omega) (by omega) hf (ha.up hle) (hb.up hle) fun a7 n7 c7 H7 hle7 hr7 => ?_
      refine ints_spec (((hr4.up hle5).up hle6).up hle7) hr7 ?_
      refine ⟨fun _ => ?_, fun h => by simp at h⟩
      refine rranks_spec (by omega) (by omega) hf ((ha.up hle).up hle7) ((hb.up hle).up hle7) fun a8 n8 c8 H8 hle8 hr8 => ?_
      refine ints_spec (((hr5.up hle6).up hle7).up hle8) hr8 ?_
      refine ⟨fun _ => ?_, fun h => by simp at h⟩
      have hle78 := hle7.trans hle8
      refine rall_spec (by omega) (by omega) (by omega) hP hf ((ha.up hle).up hle78) ((hb.up hle).up hle78) fun a9 n9 c9 out9 H9 hle9 ho9 hol9 hr9 => ?_
      have e9 : out9 = out := ord_one hP hP ho9 ho hol9 hol
      rw [e9] at hr9
      refine ints_spec (hr6.up (hle78.trans hle9)) hr9 ?_
      exact kbool (hK _ ((hle.trans hle78).trans hle9)) (by simp)
    · refine post_spec (by omega) (by omega) ha hb (fun _ => ?_) (fun h => absurd h he)
      refine ranks_spec (by omega) (by omega) ha hb (fun _ => ?_) (fun h => absurd h he)
      refine all_spec (by omega) (by omega) ha hb (fun _ => ?_) (fun h => absurd h he)
      refine rerr_spec ha hb ?_
      refine ⟨fun _ => ?_, fun h => absurd (nf h) he⟩
      refine ⟨fun _ => ?_, fun h => by simp at h⟩
      refine ⟨fun _ => ?_, fun h => by simp at h⟩
      refine ⟨fun _ => ?_, fun h => by simp at h⟩
      refine ⟨⟨by decide, by decide⟩, ?_⟩
      refine ⟨⟨by decide, by decide⟩, ?_⟩
      exact kbool (hK _ (Le.refl H)) (by simp)
end Go.Proofs
end
section
namespace Go.Proofs
open Go.Sy
set_option maxRecDepth 20000
set_option maxHeartbeats 4000000
/-! Without rings ranks rise along edges -/
/-- What leads away from a place is told ahead of it, or leads back. -/
def Fwd (nx : Int → List Int) (S R : List Int) : Prop := ∀ R1 x R2, R = R1 ++ x :: R2 → ∀ y ∈ nx x, y ∈ S ∨ y ∈ R1 ∨ Rch nx y x
theorem app_split {O V O1 O2 : List Int} {x : Int} (h : O ++ V = O1 ++ x :: O2) : (∃ O3, O = O1 ++ x :: O3) ∨ ∃ V1, V = V1 ++ x :: O2 ∧ O1 = O ++ V1 := by
  rcases List.append_eq_append_iff.1 h with ⟨a, h1, h2⟩ | ⟨a, h1, h2⟩
  · exact .inr ⟨a, h2, h1⟩
  · cases a with
    | nil => exact .inr ⟨[], by simpa using h2.symm, by simpa using h1.symm⟩
    | cons z r =>
      simp only [List.cons_append, List.cons.injEq] at h2
      exact .inl ⟨r, by rw [h1, h2.1]⟩
theorem vis_fwd {nx : Int → List Int} {N : Nat} (hnx : ∀ v, ∀ b ∈ nx v, nodeI N b = true) : ∀ (k : Nat) (a : Int) (S : List Int), nodeI N a = true → a ∉ S → (left N S).length ≤ k →
    (∀ x ∈ vis nx k a S, Rch nx a x) ∧ Fwd nx S (vis nx k a S)
  | 0, a, S, ha, hS, hk => by
    have := left_lt ha hS []
    omega
  | k + 1, a, S, ha, hS, hk => by
    have key : ∀ (L : List Int) (O : List Int), (∀ b ∈ L, b ∈ nx a) → (∀ x ∈ O, Rch nx a x) → (∀ O1 x O2, O = O1 ++ x :: O2 → ∀ y ∈ nx x, y ∈ S ∨ y ∈ O1 ∨ Rch nx y x) →
        ∃ O', L.foldl (visS (vis nx k)) (O, S ++ [a] ++ O) = (O', S ++ [a] ++ O') ∧ (∀ x ∈ O, x ∈ O') ∧ (∀ x ∈ O', Rch nx a x) ∧ (∀ O1 x O2, O' = O1 ++ x :: O2 → ∀ y ∈ nx x, y ∈ S ∨ y ∈ O1 ∨ Rch nx y x) ∧ ∀ b ∈ L, b ∈ S ∨ b = a ∨ b ∈ O' := by
      intro L
      induction L with
      | nil => intro O _ h1 h2; exact ⟨O, rfl, fun _ h => h, h1, h2, fun _ h => absurd h List.not_mem_nil⟩
      | cons b L ih =>
        intro O hb h1 h2
        have hba := hb b List.mem_cons_self
        have hbn := hnx a b hba
        rw [List.foldl_cons, visS]
        dsimp only
        obtain ⟨V, hV⟩ : ∃ V, V = vis nx k b (S ++ [a] ++ O) := ⟨_, rfl⟩
        rw [← hV]
        have hVk : (b ∈ S ++ [a] ++ O ∧ V = []) ∨ (b ∈ V ∧ (∀ x ∈ V, Rch nx b x) ∧ Fwd nx (S ++ [a] ++ O) V) := by
          by_cases hm : b ∈ S ++ [a] ++ O
          · exact .inl ⟨hm, by rw [hV, vis_met hm]⟩
          · have hlt := left_lt ha hS O
            have hv := vis_fwd hnx k b (S ++ [a] ++ O) hbn hm (by omega)
            rw [← hV] at hv
            refine .inr ⟨?_, hv⟩
            have hpos := left_lt hbn hm []
            cases k with
            | zero => omega
            | succ k =>
              have := vis_self (nx := nx) k b (S ++ [a] ++ O)
              rw [← hV] at this
              exact (List.mem_append.1 this).resolve_left hm
        have e : S ++ [a] ++ O ++ V = S ++ [a] ++ (O ++ V) := List.append_assoc _ _ _
        rw [e]
        have g1 : ∀ x ∈ O ++ V, Rch nx a x := fun x hx => by
          rcases List.mem_append.1 hx with hx | hx
          · exact h1 x hx
          · rcases hVk with ⟨_, h3⟩ | ⟨_, h3, _⟩
            · rw [h3] at hx; cases hx
            · exact (Rch.step (.refl a) hba).trans (h3 x hx)
        have g2 : ∀ O1 x O2, O ++ V = O1 ++ x :: O2 → ∀ y ∈ nx x, y ∈ S ∨ y ∈ O1 ∨ Rch nx y x := fun O1 x O2 hO y hy => by
          have hxm : x ∈ O ++ V := by rw [hO]; simp
          rcases app_split hO with ⟨O3, h3⟩ | ⟨V1, h3, h4⟩
          · exact h2 O1 x O3 h3 y hy
          · rcases hVk with ⟨_, h5⟩ | ⟨_, _, h5⟩
            · rw [h5] at h3; simp at h3
            · rcases h5 V1 x O2 h3 y hy with h6 | h6 | h6
              · rcases List.mem_append.1 h6 with h6 | h6
                · rcases List.mem_append.1 h6 with h6 | h6
                  · exact .inl h6
                  · rw [List.mem_singleton] at h6
                    rw [h6]
                    exact .inr (.inr (g1 x hxm))
                · exact .inr (.inl (by rw [h4]; exact List.mem_append_left _ h6))
              · exact .inr (.inl (by rw [h4]; exact List.mem_append_right _ h6))
              · exact .inr (.inr h6)
        obtain ⟨O', k1, k2, k3, k4, k5⟩ := ih (O ++ V) (fun z hz => hb z (List.mem_cons_of_mem _ hz)) g1 g2
        refine ⟨O', k1, fun x hx => k2 x (List.mem_append_left _ hx), k3, k4, fun z hz => ?_⟩
        rcases List.mem_cons.1 hz with rfl | hz
        · rcases hVk with ⟨h5, _⟩ | ⟨h5, _⟩
          · rcases List.mem_append.1 h5 with h6 | h6
            · rcases List.mem_append.1 h6 with h6 | h6
              · exact .inl h6
              · exact .inr (.inl (List.mem_singleton.1 h6))
            · exact .inr (.inr (k2 z (List.mem_append_left _ h6)))
          · exact .inr (.inr (k2 z (List.mem_append_right _ h5)))
        · exact k5 z hz
    obtain ⟨O', k1, _, k3, k4, k5⟩ := key (nx a) [] (fun _ h => h) (fun _ h => absurd h List.not_mem_nil) (fun O1 x O2 h => by simp at h)
    have e : vis nx (k + 1) a S = O' ++ [a] := by
      rw [vis, if_neg hS]
      rw [List.append_nil] at k1
      rw [k1]
    rw [e]
    refine ⟨fun x hx => ?_, fun R1 x R2 hR y hy => ?_⟩
    · rcases List.mem_append.1 hx with hx | hx
      · exact k3 x hx
      · rw [List.mem_singleton] at hx
        rw [hx]; exact .refl a
    · rcases app_split hR with ⟨O3, h3⟩ | ⟨V1, h3, h4⟩
      · exact k4 R1 x O3 h3 y hy
      · cases V1 with
        | cons z r => simp at h3
        | nil =>
          simp only [List.nil_append, List.cons.injEq] at h3
          rw [List.append_nil] at h4
          rw [← h3.1] at hy ⊢
          rcases k5 y hy with h | h | h
          · exact .inl h
          · rw [h]; exact .inr (.inr (.refl a))
          · exact .inr (.inl (h4 ▸ h))
theorem post_fwd {nx : Int → List Int} {N : Nat} (hnx : ∀ v, ∀ b ∈ nx v, nodeI N b = true) {f : List Int} (hf : ∀ a ∈ f, nodeI N a = true) : Fwd nx [] (postL nx N f) := by
  have key : ∀ (f o : List Int), (∀ a ∈ f, nodeI N a = true) → Fwd nx [] o → Fwd nx [] (f.foldl (fun o a => o ++ vis nx (N + 1) a o) o) := by
    intro f
    induction f with
    | nil => intro o _ h; exact h
    | cons a r ih =>
      intro o hf h
      rw [List.foldl_cons]
      refine ih _ (fun x hx => hf x (List.mem_cons_of_mem _ hx)) ?_
      by_cases hm : a ∈ o
      · rw [vis_met hm, List.append_nil]; exact h
      · obtain ⟨_, h2⟩ := vis_fwd hnx (N + 1) a o (hf a List.mem_cons_self) hm (by have := left_len N o; omega)
        intro R1 x R2 hR y hy
        rcases app_split hR with ⟨O3, h3⟩ | ⟨V1, h3, h4⟩
        · exact h R1 x O3 h3 y hy
        · rcases h2 V1 x R2 h3 y hy with h5 | h5 | h5
          · exact .inr (.inl (by rw [h4]; exact List.mem_append_left _ h5))
          · exact .inr (.inl (by rw [h4]; exact List.mem_append_right _ h5))
          · exact .inr (.inr h5)
  exact key f [] hf fun R1 x R2 h => by simp at h
theorem rank_rise {m : Int} (h0 : 0 ≤ m) {l : List Edg} {f : List Int} (hf : ∀ x ∈ f, nodeI m x = true) {x y : Int} (hx : nodeI m x = true) (hy : nodeI m y = true) (he : (x, y) ∈ l) (hn : ¬ Rch (gnx m l) y x) : ig (ranks m l f) x < ig (ranks m l f) y := by
  obtain ⟨i, hi, hix⟩ := List.getElem_of_mem ((post_mem h0 (l := l) hf x).2 hx)
  have hN := toNat_nat m h0
  have hall : ∀ a ∈ f ++ nodesL m.toNat, nodeI m.toNat a = true := fun a ha => by
    rw [hN]
    rcases List.mem_append.1 ha with ha | ha
    · exact hf a ha
    · exact nodesL_mem.1 ha
  have hfw := post_fwd (nx := gnx m l) (N := m.toNat) (by rw [hN]; exact gnx_node) hall
  have hsp : pstL m l f = (pstL m l f).take i ++ x :: (pstL m l f).drop (i + 1) := by
    rw [← hix, ← List.drop_eq_getElem_cons hi, List.take_append_drop]
  rcases hfw _ x _ hsp y (gnx_mem.2 (nxt_mem.2 ⟨he, hx, hy⟩)) with h | h | h
  · cases h
  · obtain ⟨j, hj, hjy⟩ := List.getElem_of_mem h
    rw [List.getElem_take] at hjy
    rw [List.length_take] at hj
    have hj2 : j < (pstL m l f).length := by omega
    have e1 := rank_at h0 hf hi
    have e2 := rank_at h0 hf hj2
    rw [hix] at e1
    rw [hjy] at e2
    rw [e1, e2]
    omega
  · exact absurd h hn
theorem isE_all {m : Int} (h0 : 0 ≤ m) {p : List Int} (h1 : p.length = m.toNat) (h2 : ∀ x, nodeI m x = true → x ∈ p) : isE m p = true := by
  rw [isE, Bool.and_eq_true, decide_eq_true_eq, decide_eq_true_eq]
  exact ⟨fun i hi => h2 i (decide_eq_true (by omega)), by omega⟩
/-- At which place each is. -/
def atK (N : Nat) (q : List Int) : Nat → List Int
  | 0 => List.replicate N 0
  | k + 1 => (atK N q k).set (q[k]?.getD 0).toNat k
theorem atK_len (N : Nat) (q : List Int) : ∀ k, (atK N q k).length = N
  | 0 => List.length_replicate
  | k + 1 => by rw [atK, List.length_set, atK_len N q k]
theorem atK_in {N : Nat} {q : List Int} : ∀ (k : Nat), k ≤ 1000000 → ∀ z ∈ atK N q k, inI z
  | 0, _, z, hz => by
    have := List.eq_of_mem_replicate hz
    subst this
    exact ⟨by omega, by omega⟩
  | k + 1, hk, z, hz => by
    rw [atK] at hz
    rcases List.mem_or_eq_of_mem_set hz with hz | hz
    · exact atK_in k (by omega) z hz
    · rw [hz]; exact ⟨by omega, by omega⟩
theorem atK_get {m : Int} {q : List Int} (hnd : q.Nodup) (hn : ∀ x ∈ q, nodeI m x = true) : ∀ (k : Nat), k ≤ q.length → ∀ (i : Nat) (_ : i < k) (hp : i < q.length), ig (atK m.toNat q k) q[i] = i
  | 0, _, i, hi, _ => absurd hi (Nat.not_lt_zero i)
  | k + 1, hk, i, hi, hp => by
    have hkp : k < q.length := hk
    have hni := dt (hn _ (List.getElem_mem hp))
    have hnk := dt (hn _ (List.getElem_mem hkp))
    rw [atK, List.getElem?_eq_getElem hkp]
    simp only [Option.getD_some]
    by_cases e : i = k
    · subst e
      rw [ig, List.getElem?_set_self (by rw [atK_len]; omega)]
      rfl
    · have hne : q[k].toNat ≠ q[i].toNat := fun h => by
        have h2 : q[k] = q[i] := by omega
        exact e ((List.getElem_inj hnd).1 h2.symm)
      have ih := atK_get hnd hn k (by omega) i (by omega) hp
      rw [ig, List.getElem?_set_ne hne]
      exact ih
theorem ord_all {l : List Edg} {pa out : List (List Int)} (ho : IsOrd l pa out) (hlen : out.length = pa.length) : ∀ p ∈ pa, p ∈ out := fun p hp => by
  by_cases hpo : p ∈ out
  · exact hpo
  · exfalso
    have := nodup_sub (l := p :: out) (l' := pa) (List.nodup_cons.2 ⟨hpo, isOrd_nodup ho⟩) (fun q hq => by
      rcases List.mem_cons.1 hq with rfl | hq
      · exact hp
      · exact isOrd_mem ho q hq)
    rw [List.length_cons] at this
    omega
theorem all_mem {r : List Int} {m : Int} {l : List Edg} {pa out : List (List Int)} (hP : AllP m l pa) (ho : IsOrd l pa out) (hlen : out.length = pa.length) (x : Int) : x ∈ allL r out ↔ nodeI m x = true := by
  rw [(allL_perm r out).mem_iff]
  refine ⟨(ord_flat hP ho).2 x, fun h => ?_⟩
  obtain ⟨p, hp, hx⟩ := List.mem_flatten.1 (hP.all x h)
  exact List.mem_flatten.2 ⟨p, ord_all ho hlen p hp, hx⟩
theorem all_nd {r : List Int} {m : Int} {l : List Edg} {pa out : List (List Int)} (hP : AllP m l pa) (ho : IsOrd l pa out) : (allL r out).Nodup := (allL_perm r out).nodup_iff.2 (ord_flat hP ho).1
theorem all_ln {r : List Int} {m : Int} {l : List Edg} {pa out : List (List Int)} (hP : AllP m l pa) (ho : IsOrd l pa out) (hlen : out.length = pa.length) : (allL r out).length = m.toNat := by
  have h1 := nodes_len (all_nd (r := r) hP ho) (fun x hx => (all_mem hP ho hlen x).1 hx)
  have h2 := nodup_sub (l := nodesL m.toNat) (l' := allL r out) ((nodesL_strict _).imp fun h e => by rw [e] at h; exact absurd h (Int.lt_irrefl _)) (fun x hx => (all_mem hP ho hlen x).2 (nodesL_mem.1 hx))
  rw [nodesL_len] at h2
  omega
/-- An edge from part to part leads forward. -/
theorem at_rise {r : List Int} {m : Int} {l : List Edg} {pa out : List (List Int)} (hP : AllP m l pa) (ho : IsOrd l pa out) (hlen : out.length = pa.length) {x y : Int} (he : (x, y) ∈ l) (hn : ¬ Rch (gnx m l) y x) :
    0 ≤ ig (atK m.toNat (allL r out) (allL r out).length) x ∧ ig (atK m.toNat (allL r out) (allL r out).length) x < ig (atK m.toNat (allL r out) (allL r out).length) y := by
  obtain ⟨hx, hy⟩ := hP.edges _ he
  dsimp only at hx hy
  have hnd := all_nd (r := r) hP ho
  have hall := fun z => all_mem (r := r) hP ho hlen z
  obtain ⟨p, hp, hyp⟩ := List.mem_flatten.1 (hP.all y hy)
  obtain ⟨j, hj, hjp⟩ := List.getElem_of_mem (ord_all ho hlen p hp)
  have hyj : y ∈ out[j] := by rw [hjp]; exact hyp
  have hxt : x ∈ (out.take j).flatten := by
    rcases (ho j hj).free _ he hyj with h | h
    · exact absurd ((((hP.tp.ok _ (isOrd_mem ho _ (List.getElem_mem hj))).mem y hyj x).1 h).1) hn
    · exact h
  have hsp : allL r out = allL r (out.take j) ++ allL r (out.drop j) := by
    rw [allL, allL, allL, ← List.flatMap_append, List.take_append_drop]
  have hx1 : x ∈ allL r (out.take j) := (allL_perm r _).mem_iff.2 hxt
  have hy1 : y ∈ allL r (out.drop j) := (allL_perm r _).mem_iff.2 (List.mem_flatten.2 ⟨out[j], by rw [List.drop_eq_getElem_cons hj]; exact List.mem_cons_self, hyj⟩)
  obtain ⟨i, hi, hix⟩ := List.getElem_of_mem hx1
  obtain ⟨k, hk, hky⟩ := List.getElem_of_mem hy1
  obtain ⟨q, hq⟩ : ∃ q, q = allL r out := ⟨_, rfl⟩
  have hl1 := congrArg List.length hsp
  rw [List.length_append] at hl1
  have gx : ∃ h : i < q.length, q[i] = x := ⟨by rw [hq]; omega, by simp only [hq, hsp]; rw [List.getElem_append_left hi]; exact hix⟩
  have gy : ∃ h : (allL r (out.take j)).length + k < q.length, q[(allL r (out.take j)).length + k] = y := ⟨by rw [hq]; omega, by simp only [hq, hsp]; rw [List.getElem_append_right (by omega)]; simp only [Nat.add_sub_cancel_left]; exact hky⟩
  obtain ⟨a1, a2⟩ := gx
  obtain ⟨b1, b2⟩ := gy
  rw [← hq] at hnd hall ⊢
  have hqn : ∀ z ∈ q, nodeI m z = true := fun z hz => (hall z).1 hz
  have e1 := atK_get hnd hqn q.length (Nat.le_refl _) i a1 a1
  have e2 := atK_get hnd hqn q.length (Nat.le_refl _) _ b1 b1
  rw [a2] at e1
  rw [b2] at e2
  rw [e1, e2]
  omega
end Go.Proofs
end
section
namespace Go.Proofs
open Go.Sy
set_option maxRecDepth 20000
set_option maxHeartbeats 4000000
theorem OrderForward_spec {m : Int} {l : List Edg} {f : List Int} {a a3 : Option Addr} {n c n3 c3 : Nat} {H : Hp} {K : Value → Hp → Prop} (ha : RL H a n c l) (hb : RL H a3 n3 c3 f) (hK : ∀ H', Le H H' → K (.bool true) H') : Does Try.prog 10 [.int .i64 m, .slice a n c, .slice a3 n3 c3] H K := by
  have hn := ha.n_eq
  have hn3 := hb.n_eq
  have hmx := ha.le
  refine spec_of cx_ok cx_mix rfl Try.func10 Try.call10 Try.ntmps10 Try.results10 rfl rfl ?_
  refine awake14_spec fun _ _ => ?_
  refine ⟨(fun h => by cases h), fun _ => ?_⟩
  refine few14_spec ha hb fun b hfew => ?_
  refine ⟨fun h => ?_, fun h => ?_⟩
  · exact hK _ (Le.refl H)
  · obtain ⟨hm, hll, hfl⟩ := hfew (by simpa using h)
    by_cases he : errE m l f = 0
    · obtain ⟨hr, hf⟩ := err_ok he
      obtain ⟨hm1, hm2, _⟩ := right_ok hr
      have h0 : 0 ≤ m := by omega
      refine post_spec (by omega) (by omega) ha hb (fun h => absurd he h) (fun _ a4 n4 c4 H4 hle4 hr4 => ?_)
      refine ranks_spec (by omega) (by omega) (ha.up hle4) (hb.up hle4) (fun h => absurd he h) (fun _ a5 n5 c5 H5 hle5 hr5 => ?_)
      refine all_spec (by omega) (by omega) ((ha.up hle4).up hle5) ((hb.up hle4).up hle5) (fun h => absurd he h) (fun _ a6 n6 c6 pa out H6 hle6 hP ho hol hr6 => ?_)
      have hle := (hle4.trans hle5).trans hle6
      obtain ⟨r, hre⟩ : ∃ r, r = ranks m l f := ⟨_, rfl⟩
      have hrl := ranks_len m l f
      have hrise := fun {x y : Int} => rank_rise h0 hf (l := l) (x := x) (y := y)
      rw [← hre] at hr5 hr6 hrl hrise
      obtain ⟨q, hq⟩ : ∃ q, q = allL r out := ⟨_, rfl⟩
      have hqn := fun x => all_mem (r := r) hP ho hol x
      have hql := all_ln (r := r) hP ho hol
      have hat := fun {x y : Int} => at_rise (r := r) hP ho hol (x := x) (y := y)
      rw [← hq] at hr6 hqn hql hat
      have hpl := post_len h0 hf (l := l)
      have hn5 := hr5.n_eq
      have hn6 := hr6.n_eq
      refine ⟨fun h => by simp at h, fun _ => ?_⟩
      refine is_spec (by rw [hpl]; omega) (hr4.up (hle5.trans hle6)) ?_
      have hi1 : isE m (pstL m l f) = true := isE_all h0 hpl fun x hx => (post_mem h0 hf x).2 hx
      have hi2 : isE m q = true := isE_all h0 hql fun x hx => (hqn x).2 hx
      refine ⟨fun _ => ?_, fun h => by rw [hi1] at h; simp at h⟩
      refine is_spec (by rw [hql]; omega) hr6 ?_
      refine ⟨fun _ => ?_, fun h => by rw [hi2] at h; simp at h⟩
      refine ⟨fun h => ?_, fun _ => ?_⟩
      · exact absurd (nt h) (by omega)
      refine ⟨⟨rfl, by omega, by show m * 8 ≤ _; omega, by omega⟩, ?_⟩
      refine ⟨Nat, fun i => ⟨[(0, .v (.int .i64 m)), (1, .v (.slice a n c)), (9, .v (.slice a5 n5 c5)), (13, .own 0), (70, .v (.slice a6 n6 c6)), (71, .v (.int .i64 n6)), (72, .v (.int .i64 i))], [(0, .row 3 1 (iRows (atK m.toNat q i)))], 1⟩,
        fun i H' => Le H6 H' ∧ i ≤ q.length, fun i => q.length - i, ⟨0, [(0, 0)], ?_, Le.refl _, Nat.zero_le _⟩, ?_⟩
      · have e1 := iRows_rep m.toNat
        (repeat' (first | exact trivial | refine ⟨?_, ?_⟩ | exact rfl | assumption))
      · rintro i H7 hle7 ⟨_, hi⟩
        have hal := atK_len m.toNat q i
        have hae : (iRows (atK m.toNat q i)).length = (atK m.toNat q i).length := List.length_map _
        refine ⟨fun h => ?_, fun h => ?_⟩
        · have hlt : i < q.length := by have := dt h; omega
          refine list_get_k hr6 hle7 (List.getElem?_eq_getElem hlt) fun ad q1 hh => ?_
          refine ⟨ad, ⟨by omega, by omega, q1⟩, ?_⟩
          refine ⟨_, hh, ?_⟩
          have hz := dt ((hqn _).1 (List.getElem_mem hlt))
          have hz2 : q[i].toNat < (atK m.toNat q i).length := by omega
          refine ⟨⟨by omega, by rw [hae]; omega⟩, ?_⟩
          have hg : (iRows (atK m.toNat q i))[q[i].toNat]? = some [.int .i64 (atK m.toNat q i)[q[i].toNat]] := by rw [List.getElem?_map, List.getElem?_eq_getElem hz2]; rfl
          refine ⟨_, hg, ?_⟩
          have e1 : (iRows (atK m.toNat q i)).set q[i].toNat [.int .i64 (i : Int)] = iRows (atK m.toNat q (i + 1)) := by
            rw [atK, List.getElem?_eq_getElem hlt]
            exact iRows_set _ _ _
          refine ⟨⟨by omega, by omega⟩, i + 1, [(0, 0)], ?_, ⟨hle7, hlt⟩, by dsimp only; omega⟩
          (repeat' (first | exact trivial | refine ⟨?_, ?_⟩ | exact rfl | assumption))
        · have hil : i = q.length := by have := df h; omega
          refine name_k (atK m.toNat q q.length) fun A hA => ?_
          rw [← hA] at hat
          have hAe : iRows (atK m.toNat q i) = iRows A := by rw [hil, hA]
          have hAl : A.length = m.toNat := by rw [hA]; exact atK_len _ _ _
          refine ⟨Nat, fun i => ⟨[(0, .v (.int .i64 m)), (1, .v (.slice a n c)), (9, .v (.slice a5 n5 c5)), (13, .own 0), (82, .v (.slice a n c)), (83, .v (.int .i64 n)), (84, .v (.int .i64 i))], [(0, .row 3 1 (iRows A))], 1⟩,
            fun i H' => Le H7 H' ∧ i ≤ l.length, fun i => l.length - i, ⟨0, [(0, 0)], ?_, Le.refl _, Nat.zero_le _⟩, ?_⟩
          · (repeat' (first | exact trivial | refine ⟨?_, ?_⟩ | exact rfl | assumption))
          · rintro j H8 hle8 ⟨_, hj⟩
            have hle08 := (hle.trans hle7).trans hle8
            refine ⟨fun h => ?_, fun h => ?_⟩
            · have hlt : j < l.length := by have := dt h; omega
              refine name_k l[j] fun e hee => ?_
              have hge : l[j]? = some e := by rw [hee]; exact List.getElem?_eq_getElem hlt
              have hel : e ∈ l := List.mem_of_getElem? hge
              refine edge_elem_k (ha.up hle08) hge fun ad q1 hh => ?_
              refine ⟨ad, ⟨by omega, by omega, q1⟩, ?_⟩
              refine ⟨_, hh, ?_⟩
              have hed := hP.edges e hel
              have he1 := dt hed.1
              have he2 := dt hed.2
              refine to_spec h0 (by omega) (by omega) (x := e.2) (y := e.1) ⟨by omega, by omega⟩ (ha.up hle08) fun H9 hle9 => ?_
              refine ⟨some ([], [0, 1, 2, 3, 4, 5, 6, 7, 8, 9, 10, 11, 12, 13, 14, 15, 16, 17, 18, 19, 20, 21, 22, 23, 24, 25, 26, 27]), by kernel_rfl, ?_⟩
              have hr58 := hr5.up ((hle6.trans hle7).trans hle8)
              have hgA : ∀ {x : Int}, 0 ≤ x → x < m → (iRows A)[x.toNat]? = some [.int .i64 (ig A x)] := fun {x} h1 h2 => by
                rw [List.getElem?_map, ig, List.getElem?_eq_getElem (by omega)]; rfl
              have hAi : (iRows A).length = A.length := List.length_map _
              refine ⟨fun h => ?_, fun h => ?_⟩
              · have hnr : e.1 ∉ reachD m l e.2 := fun hin => by rw [decide_eq_true hin] at h; simp at h
                have hnR : ¬ Rch (gnx m l) e.2 e.1 := fun hin => hnr ((reachD_mem hed.2 _).2 hin)
                have f1 := hrise hed.1 hed.2 hel hnR
                have f2 := hat hel hnR
                refine int_at_k hr58 he1.1 (by omega) fun ad1 p1 hh1 => ?_
                refine ⟨ad1, ⟨by omega, by omega, p1⟩, ?_⟩
                refine ⟨_, hh1, ?_⟩
                refine int_at_k hr58 he2.1 (by omega) fun ad2 p2 hh2 => ?_
                refine ⟨ad2, ⟨by omega, by omega, p2⟩, ?_⟩
                refine ⟨_, hh2, ?_⟩
                refine ⟨fun h => ?_, fun h => ?_⟩
                · refine ⟨⟨by omega, by rw [hAi]; omega⟩, ?_⟩
                  refine ⟨_, hgA he1.1 he1.2, ?_⟩
                  refine ⟨⟨by omega, by rw [hAi]; omega⟩, ?_⟩
                  refine ⟨_, hgA he2.1 he2.2, ?_⟩
                  refine ⟨fun h => absurd (dt h) (by omega), fun _ => ?_⟩
                  refine ⟨⟨by omega, by omega⟩, j + 1, [(0, 0)], ?_, ⟨hle8, hlt⟩, by dsimp only; omega⟩
                  (repeat' (first | exact trivial | refine ⟨?_, ?_⟩ | exact rfl | assumption))
                · exact absurd (dt (by assumption)) (by omega)
              · refine ⟨⟨by omega, by omega⟩, j + 1, [(0, 0)], ?_, ⟨hle8, hlt⟩, by dsimp only; omega⟩
                (repeat' (first | exact trivial | refine ⟨?_, ?_⟩ | exact rfl | assumption))
            · exact hK _ hle08
    · refine post_spec (by omega) (by omega) ha hb (fun _ => ?_) (fun h => absurd h he)
      refine ranks_spec (by omega) (by omega) ha hb (fun _ => ?_) (fun h => absurd h he)
      refine all_spec (by omega) (by omega) ha hb (fun _ => ?_) (fun h => absurd h he)
      refine ⟨fun _ => ?_, fun h => absurd (nf h) he⟩
      exact kbool (hK _ (Le.refl H)) (by simp)
end Go.Proofs
end
