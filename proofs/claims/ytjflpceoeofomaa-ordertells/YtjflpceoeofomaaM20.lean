/- Part 'M20' of the proof (Y2, Y6, Y7, Y8, Y9): lemmas, each with its own conditions in its own statement. -/
import Derived.Test.YtjflpceoeofomaaM15
import Derived.Test.YtjflpceoeofomaaM19
import Derived.Test.YtjflpceoeofomaaM7
section
namespace Go.Proofs
open Go.Sy Go.Sort Go.Shelf
set_option maxRecDepth 20000
/-! slices.SortFunc over a part, by ranks -/
theorem sortP_spec {ranks p : List Int} {hd : Value} {A B : List (Value × List (List Value))} (hne : p ≠ []) (hp : ∀ x ∈ p, 0 ≤ x ∧ x < ranks.length) (hlen : p.length ≤ 1000000) (hr : ∀ z ∈ ranks, 0 ≤ z ∧ z ≤ 1000000)
    (hdf : ∀ x ∈ p, ∀ y ∈ p, ig ranks x = ig ranks y → x = y) {a : Option Addr} {n c : Nat} {H : Hp} {K : SV → St → Hp → Prop} (ha : RL H a n c ranks)
    (hK : ∀ q H', q.Perm p → q.Pairwise (fun x y => ig ranks x ≤ ig ranks y) → Le H H' → RowAt H' hd 1 (iRows q) → K (.tup []) ⟨[], [(0, .fam 3 1 (A ++ B)), (1, .cells 27 [.v (.slice a n c)])], 2⟩ H') :
    DoesG Try.prog 87 [.v hd, .fn 88 [.ptr 1 0]] [(0, .fam 3 1 (A ++ (hd, iRows p) :: B)), (1, .cells 27 [.v (.slice a n c)])] 2 H K := by
  refine ⟨Try.call87, fun w ρ hm _ => ?_⟩
  obtain ⟨_, ⟨hfam, hpw⟩, _⟩ := hm.ok 0 _ rfl
  obtain ⟨_, hbc, _⟩ := hm.ok 1 _ rfl
  have hbc : w.heap[ρ.b 1]? = some (.cells #[.slice a n c] 27 (0, 0)) := hbc
  obtain ⟨⟨hfl, hv⟩, hall⟩ := hfam (hd, iRows p) (List.mem_append_right _ List.mem_cons_self)
  have hpl : (iRows p).length = p.length := List.length_map _
  rw [hpl] at hv
  have hpos : p.length ≠ 0 := fun h => hne (List.eq_nil_of_length_eq_zero h)
  rcases hv with ⟨_, h0⟩ | ⟨q, cap, cur, hv, _, hcell, hcap, hmax, hsz, hcur⟩
  · exact absurd h0 hpos
  have hv : hd = .slice (some ⟨q, 0, none⟩) p.length cap := hv
  have hown0 : Owns ρ 0 (.fam 3 1 (A ++ (hd, iRows p) :: B)) q := ⟨(hd, iRows p), List.mem_append_right _ List.mem_cons_self, by rw [hv]; rfl⟩
  have hown1 : Owns ρ 1 (.cells 27 [.v (.slice a n c)]) (ρ.b 1) := rfl
  have hq1 : q ≠ ρ.b 1 := fun e => by
    have := hm.disj 0 1 _ _ q rfl rfl hown0 (by rw [e]; exact hown1)
    cases this
  have hHq := (hm.own 0 _ q rfl hown0).1
  have hH1 := (hm.own 1 _ (ρ.b 1) rfl hown1).1
  have hqs : q < w.heap.size := (Array.getElem?_eq_some_iff.1 hcell).1
  have h1s : ρ.b 1 < w.heap.size := (Array.getElem?_eq_some_iff.1 hbc).1
  rw [Nat.mul_one] at hsz
  rw [Nat.mul_one] at hcur
  obtain ⟨x0, hx0⟩ : ∃ x, x ∈ p := by
    cases p with
    | nil => exact absurd rfl hne
    | cons x r => exact ⟨x, List.mem_cons_self⟩
  letI : Inhabited {x // x ∈ p} := ⟨⟨x0, hx0⟩⟩
  let enc : {x // x ∈ p} → Value := fun x => .int .i64 x.1
  let cf : {x // x ∈ p} → {x // x ∈ p} → Int := fun x y => ig ranks x.1 - ig ranks y.1
  have hlt : ∀ x y, ltOf cf x y = decide (ig ranks x.1 < ig ranks y.1) := fun x y => by
    rw [ltOf]
    by_cases h : ig ranks x.1 < ig ranks y.1
    · rw [decide_eq_true h, decide_eq_true (by show ig ranks x.1 - ig ranks y.1 < 0; omega)]
    · rw [decide_eq_false h, decide_eq_false (by show ¬ ig ranks x.1 - ig ranks y.1 < 0; omega)]
  have hltt : ∀ x y, ltOf cf x y = true ↔ ig ranks x.1 < ig ranks y.1 := fun x y => by rw [hlt, decide_eq_true_eq]
  have hltf : ∀ x y, ltOf cf x y = false ↔ ¬ ig ranks x.1 < ig ranks y.1 := fun x y => by rw [hlt, decide_eq_false_iff_not]
  have hO : SWO (ltOf cf) := by
    refine ⟨fun x => (hltf x x).2 (by omega), fun x y z h1 h2 => (hltt x z).2 ?_, fun x y z h1 h2 => ?_⟩
    · have := (hltt x y).1 h1
      have := (hltt y z).1 h2
      omega
    · have := (hltf x y).1 h1
      have := (hltf y z).1 h2
      exact (hltf x z).2 (by omega)
  have hT : ∀ x y, (ltOf cf) x y = false → (ltOf cf) y x = false → x = y := fun x y h1 h2 => by
    have k1 := (hltf x y).1 h1
    have k2 := (hltf y x).1 h2
    exact Subtype.ext (hdf x.1 x.2 y.1 y.2 (by omega))
  let d : Array {x // x ∈ p} := p.attach.toArray
  have hds : d.size = p.length := by show p.attach.toArray.size = _; rw [List.size_toArray, List.length_attach]
  have hdj : ∀ j (hj : j < p.length), (d[j]!).1 = p[j] := fun j hj => by
    have hj2 : j < d.size := by rw [hds]; exact hj
    rw [getElem!_pos d j hj2]
    show (p.attach.toArray[j]'hj2).1 = _
    rw [List.getElem_toArray, List.getElem_attach]
  have hH : Holds enc w q 0 d := by
    intro j hj
    rw [hds] at hj
    have hj2 : j < cur.size := by omega
    constructor
    · have e1 : cur.toList[j]? = some (.int .i64 (d[j]!).1) := by
        rw [hdj j hj, ← List.getElem?_take_of_lt hj, hcur, iRows_flat, List.getElem?_map, List.getElem?_eq_getElem hj]
        rfl
      rw [Nat.zero_add]
      simp only [World.cell?, hcell]
      rw [← Array.getElem?_toList]
      exact e1
    · simp only [World.frozen?, hcell]
      simp
  have hheap : ∀ (m : Nat) (dk : Array {x // x ∈ p}) (os : Array Obj) (b' : Nat), b' < w.heap.size → (sortWorld enc w q 0 m dk os).heap[b']? = if b' = q then some (.cells (putCells enc 0 dk cur) 3 (0, 0)) else w.heap[b']? := fun m dk os b' hb' => by
    show ((w.heap.modify q _) ++ os)[b']? = _
    rw [Array.getElem?_append_left (by simpa using hb'), Array.getElem?_modify]
    by_cases hq : q = b'
    · subst hq
      rw [if_pos rfl, if_pos rfl, hcell]; rfl
    · rw [if_neg hq, if_neg (fun h => hq h.symm)]
  have hsize : ∀ (m : Nat) (dk : Array {x // x ∈ p}) (os : Array Obj), w.heap.size ≤ (sortWorld enc w q 0 m dk os).heap.size := fun m dk os => by
    show w.heap.size ≤ ((w.heap.modify q _) ++ os).size
    simp
  have hcmp : CmpLays1 Try.prog 88 #[.pointer (some ⟨ρ.b 1, 0, none⟩)] enc cf q 0 d.size w := by
    intro m os dk _ x y
    let ρ1 : Rho := ⟨fun _ => ρ.b 1, ρ.sl⟩
    have hd := cmpR_spec (hp x.1 x.2) (hp y.1 y.2) hr (H := H) (K := fun x' t H' => x' = .v (.int .i64 (cf x y)) ∧ t = ⟨[], [(0, .cells 27 [.v (.slice a n c)])], 1⟩ ∧ H' = H) ha ⟨rfl, rfl, rfl⟩
    have hk0 : ∀ {k : Nat} {b : Bx}, lk [(0, Bx.cells 27 [.v (.slice a n c)])] k = some b → k = 0 ∧ b = .cells 27 [.v (.slice a n c)] := fun {k b} h => by
      rw [lk_cons] at h
      split at h
      · rename_i e0
        simp only [Option.some.injEq] at h
        exact ⟨e0.symm, h.symm⟩
      · cases h
    have hb1 : ∀ b', b' ≠ q → b' < w.heap.size → (sortWorld enc w q 0 m dk os).heap[b']? = w.heap[b']? := fun b' h1 h2 => by rw [hheap m dk os b' h2, if_neg h1]
    have hm1 : Mem (Bs.lent (sortWorld enc w q 0 m dk os) ρ1 [(0, .cells 27 [.v (.slice a n c)])] 1 H) ρ1 [(0, .cells 27 [.v (.slice a n c)])] 1 H (sortWorld enc w q 0 m dk os) :=
    { os := rfl, tape := rfl, output := ⟨rfl, Nat.le_refl _⟩, size := Nat.le_refl _
      frame := fun _ _ _ => rfl
      base := Nat.le_refl _
      agree := fun _ _ => ⟨rfl, rfl⟩
      hp := fun b o hb => by
        have h2 := hm.hp b o hb
        have h3 : b < w.heap.size := (Array.getElem?_eq_some_iff.1 h2).1
        rw [hb1 b (fun e => by rw [e, hHq] at hb; cases hb) h3]
        exact h2
      hle := fun _ _ h => h
      hnew := fun _ h _ _ => h
      ok := fun k b h => by
        obtain ⟨rfl, rfl⟩ := hk0 h
        refine ⟨Nat.zero_lt_one, ?_, rfl⟩
        show (sortWorld enc w q 0 m dk os).heap[ρ.b 1]? = _
        rw [hb1 _ (fun e => hq1 e.symm) h1s]
        exact hbc
      own := fun k b g h ho => by
        obtain ⟨rfl, rfl⟩ := hk0 h
        have e : g = ρ.b 1 := ho
        exact ⟨by rw [e]; exact hH1, .inr ⟨0, _, rfl, ho⟩⟩
      disj := fun k k' b b' g h h' _ _ => by
        obtain ⟨rfl, _⟩ := hk0 h
        obtain ⟨rfl, _⟩ := hk0 h'
        rfl }
    refine (hd.2 (sortWorld enc w q 0 m dk os) ρ1 hm1 rfl).mono fun e w' ⟨x', t, H', ρ', e1, ⟨e2, e3, e4⟩, _, hm2⟩ => ?_
    subst e2 e3
    refine ⟨e1, grow_of ⟨⟨hm2.os, hm2.tape, hm2.output.1, hm2.size, fun b hb => ?_⟩, hm2.output.2⟩⟩
    by_cases hb0 : b = ρ.b 1
    · have k1 := (hm2.ok 0 _ rfl).2.1
      have k1 : w'.heap[ρ'.b 0]? = some (.cells #[.slice a n c] 27 (0, 0)) := k1
      have k2 : ρ'.b 0 = ρ.b 1 := (hm2.agree 0 Nat.zero_lt_one).1
      rw [k2] at k1
      rw [hb0, k1, hb1 _ (fun e => hq1 e.symm) h1s, hbc]
    · exact hm2.frame b hb fun ⟨k, b', h1, h2⟩ => by
        obtain ⟨rfl, rfl⟩ := hk0 h1
        exact hb0 h2
  have hmain := Try.slices_SortFunc_total enc (fun _ => rfl) cf hO 88 #[.pointer (some ⟨ρ.b 1, 0, none⟩)] q 0 cap d w Try.call88 hcmp hH hqs (by rw [hds]; omega) hT
  rw [hds, ← hv] at hmain
  show Calls Try.prog 87 #[hd, .func (.func 88) #[] #[.pointer (some ⟨ρ.b 1, 0, none⟩)]] w _
  have hdl : d.toList = p.attach := rfl
  rw [hdl] at hmain
  obtain ⟨sl, hsle⟩ : ∃ sl, sl = p.attach.mergeSort fun x y => !(ltOf cf) y x := ⟨_, rfl⟩
  rw [← hsle] at hmain
  have hperm : sl.Perm p.attach := by rw [hsle]; exact List.mergeSort_perm _ _
  have hsl : sl.length = p.length := by rw [hperm.length_eq, List.length_attach]
  have hpq : (sl.map (·.1)).Perm p := by
    have := hperm.map (fun x : {x // x ∈ p} => x.1)
    rwa [List.attach_map_subtype_val] at this
  have hsort : (sl.map (·.1)).Pairwise (fun x y => ig ranks x ≤ ig ranks y) := by
    rw [List.pairwise_map]
    have := List.pairwise_mergeSort (le := fun x y => !(ltOf cf) y x) (fun x y z h1 h2 => by
      rw [Bool.not_eq_true'] at *
      have := (hltf _ _).1 h1
      have := (hltf _ _).1 h2
      exact (hltf _ _).2 (by omega)) (fun x y => by
      rw [Bool.or_eq_true, Bool.not_eq_true', Bool.not_eq_true']
      by_cases h : ig ranks y.1 < ig ranks x.1
      · exact .inr ((hltf _ _).2 (by omega))
      · exact .inl ((hltf _ _).2 h)) p.attach
    rw [hsle]
    refine this.imp fun {x y} h => ?_
    rw [Bool.not_eq_true'] at h
    have := (hltf _ _).1 h
    omega
  refine hmain.mono fun ev w' ⟨e1, k, os, e2⟩ => ?_
  have hss : sl.toArray.size = p.length := by simp [hsl]
  let H' : Hp := fun b => if b = q then some (.cells (putCells enc 0 sl.toArray cur) 3 (0, 0)) else H b
  have hH'q : H' q = some (.cells (putCells enc 0 sl.toArray cur) 3 (0, 0)) := if_pos rfl
  have hH'n : ∀ b, b ≠ q → H' b = H b := fun b h => if_neg h
  have hle : Le H H' := fun b o hb => by
    rw [hH'n b (fun e => by rw [e, hHq] at hb; cases hb)]
    exact hb
  have hrow : RowAt H' hd 1 (iRows (sl.map (·.1))) := by
    have hlen2 : (iRows (sl.map (·.1))).length = p.length := by simp [iRows, hsl]
    refine ⟨some ⟨q, 0, none⟩, cap, by rw [hlen2]; exact hv, by rw [hlen2]; exact ⟨hcap, hmax⟩, fun x hx => iRows_one _ x hx, .inr ⟨_, rfl, rfl, _, _, _, hH'q, ?_, fun i x hi j hj => ?_⟩⟩
    · simp [putCells, hsz]
    · have hi2 : i < p.length := by rw [← hlen2]; exact (List.getElem?_eq_some_iff.1 hi).1
      have hj0 : j = 0 := by omega
      subst hj0
      have hi3 : i < cur.size := by omega
      have hi4 : i < sl.length := by omega
      have ex : x = [.int .i64 sl[i].1] := by
        rw [iRows, List.getElem?_map, List.getElem?_map, List.getElem?_eq_getElem hi4] at hi
        simpa using hi.symm
      rw [ex, Nat.zero_add, Nat.mul_one, Nat.add_zero]
      simp only [putCells, Array.getElem?_mapIdx, Array.getElem?_eq_getElem hi3, Option.map_some]
      rw [if_pos ⟨Nat.zero_le _, by rw [hss]; omega⟩, Nat.sub_zero, getElem!_pos sl.toArray i (by rw [hss]; exact hi2)]
      rfl
  have hw' : ∀ b', b' < w.heap.size → w'.heap[b']? = if b' = q then some (.cells (putCells enc 0 sl.toArray cur) 3 (0, 0)) else w.heap[b']? := fun b' hb' => by rw [e2]; exact hheap k sl.toArray os b' hb'
  have hkey : ∀ {j : Nat} {b : Bx}, lk [(0, Bx.fam 3 1 (A ++ B)), (1, Bx.cells 27 [.v (.slice a n c)])] j = some b → (j = 0 ∧ b = .fam 3 1 (A ++ B)) ∨ (j = 1 ∧ b = .cells 27 [.v (.slice a n c)]) := fun {j b} h => by
    rw [lk_cons] at h
    split at h
    · rename_i e0
      simp only [Option.some.injEq] at h
      exact .inl ⟨e0.symm, h.symm⟩
    · rw [lk_cons] at h
      split at h
      · rename_i e0
        simp only [Option.some.injEq] at h
        exact .inr ⟨e0.symm, h.symm⟩
      · cases h
  have hmem : ∀ {x}, x ∈ A ++ B → x ∈ A ++ (hd, iRows p) :: B := fun {x} h => by
    rcases List.mem_append.1 h with h | h
    · exact List.mem_append_left _ h
    · exact List.mem_append_right _ (List.mem_cons_of_mem _ h)
  have hnq : ∀ {x : Value × List (List Value)} {g : Nat}, x ∈ A ++ B → x.1.ownBlock = some g → g ≠ q := fun {x g} h hg e => by
    have hh : (hd, iRows p).1.ownBlock = some q := by rw [hv]; rfl
    rw [List.pairwise_append] at hpw
    obtain ⟨_, h2, h3⟩ := hpw
    rw [List.pairwise_cons] at h2
    rw [e] at hg
    rcases List.mem_append.1 h with h | h
    · exact h3 x h _ List.mem_cons_self q hg hh
    · exact h2.1 x h q hh hg
  refine ⟨.tup [], ⟨[], [(0, .fam 3 1 (A ++ B)), (1, .cells 27 [.v (.slice a n c)])], 2⟩, H', ρ, e1, hK _ H' hpq hsort hle hrow, rfl, ?_⟩
  exact
  { os := by rw [e2]; rfl
    tape := by rw [e2]; rfl
    output := by rw [e2]; exact ⟨rfl, Nat.le_add_right _ _⟩
    size := by rw [e2]; exact hsize k sl.toArray os
    frame := fun b hb hn => by
      rw [hw' b hb, if_neg]
      · rfl
      · rintro rfl
        exact hn ⟨0, _, rfl, hown0⟩
    base := Nat.le_refl _
    agree := fun _ _ => ⟨rfl, rfl⟩
    hp := fun b o hb => by
      by_cases h : b = q
      · rw [h] at hb
        rw [h, hw' q hqs, if_pos rfl, ← hH'q]
        exact hb
      · rw [hH'n b h] at hb
        have h2 := hm.hp b o hb
        rw [hw' b (Array.getElem?_eq_some_iff.1 h2).1, if_neg h]
        exact h2
    hle := hle
    hnew := fun b h1 h2 h3 => by
      rw [hH'n b (fun e => by rw [e] at h3; exact h3 ⟨0, _, rfl, hown0⟩)]
      exact h1
    ok := fun j b h => by
      rcases hkey h with ⟨rfl, rfl⟩ | ⟨rfl, rfl⟩
      · refine ⟨Nat.zero_lt_succ _, ⟨fun x hx => ?_, hpw.sublist (List.Sublist.append_left (List.sublist_cons_self _ _) _)⟩, rfl⟩
        obtain ⟨⟨k1, k2⟩, k3⟩ := hfam x (hmem hx)
        refine ⟨⟨k1, ?_⟩, k3⟩
        rcases k2 with k2 | ⟨g, cp, cr, m1, m2, m3, m4⟩
        · exact .inl k2
        · refine .inr ⟨g, cp, cr, m1, m2, ?_, m4⟩
          have hg : g ≠ q := hnq hx (by rw [m1]; rfl)
          rw [hw' g (Array.getElem?_eq_some_iff.1 m3).1, if_neg hg]
          exact m3
      · refine ⟨Nat.lt_succ_self _, ?_, rfl⟩
        show w'.heap[ρ.b 1]? = _
        rw [hw' _ h1s, if_neg (fun e => hq1 e.symm)]
        exact hbc
    own := fun j b g h ho => by
      rcases hkey h with ⟨rfl, rfl⟩ | ⟨rfl, rfl⟩
      · obtain ⟨x, hx, hg⟩ := ho
        have ho2 : Owns ρ 0 (.fam 3 1 (A ++ (hd, iRows p) :: B)) g := ⟨x, hmem hx, hg⟩
        exact ⟨by rw [hH'n g (hnq hx hg)]; exact (hm.own 0 _ g rfl ho2).1, .inr ⟨0, _, rfl, ho2⟩⟩
      · have e : g = ρ.b 1 := ho
        exact ⟨by rw [e, hH'n _ (fun e => hq1 e.symm)]; exact hH1, .inr ⟨1, _, rfl, ho⟩⟩
    disj := fun j j' b b' g h h' ho ho' => by
      rcases hkey h with ⟨rfl, rfl⟩ | ⟨rfl, rfl⟩ <;> rcases hkey h' with ⟨rfl, rfl⟩ | ⟨rfl, rfl⟩
      · rfl
      · obtain ⟨x, hx, hg⟩ := ho
        exact hm.disj 0 1 _ _ g rfl rfl ⟨x, hmem hx, hg⟩ ho'
      · obtain ⟨x, hx, hg⟩ := ho'
        exact hm.disj 1 0 _ _ g rfl rfl ho ⟨x, hmem hx, hg⟩
      · rfl }
end Go.Proofs
end
section
namespace Go.Proofs
open Go.Sy
set_option maxRecDepth 20000
set_option maxHeartbeats 4000000
/-! order.All: parts are taken over, each is sorted in place -/
noncomputable def cxA : Cx := { P := Try.prog, tt := tt, n := 0, wrap := false, base := 0, gf := [27, 66, 67, 68, 72, 74, 75, 79, 81, 82, 83, 86, 87, 88, 90, 92, 93, 94, 98, 99, 100, 101, 104, 105, 106, 120, 129], eqs := [63], xf := [] }
theorem cxA_ok : TOK cxA := ⟨cx_ok.tt, cx_ok.eqs⟩
/-- A family of rows: heads and elements. -/
def famL (hds : List Value) (out : List (List Int)) : List (Value × List (List Value)) := List.zipWith (fun h p => (h, iRows p)) hds out
theorem famL_mem {hds : List Value} {out : List (List Int)} {p : Value × List (List Value)} (h : p ∈ famL hds out) : ∃ (i : Nat) (hd : Value) (q : List Int), hds[i]? = some hd ∧ out[i]? = some q ∧ p = (hd, iRows q) := by
  obtain ⟨i, hi, rfl⟩ := List.getElem_of_mem h
  rw [famL, List.length_zipWith] at hi
  refine ⟨i, hds[i]'(by omega), out[i]'(by omega), List.getElem?_eq_getElem _, List.getElem?_eq_getElem _, ?_⟩
  simp [famL]
def hdOf (cs : List Value) : Value := cs.head?.getD undef
theorem ofG_spec {m : Int} {l : List Edg} (hl : l.length ≤ 1000000) {a : Option Addr} {n c : Nat} {H : Hp} {K : SV → St → Hp → Prop} (ha : RL H a n c l) (hr : rightE m l = true)
    (hK : ∀ a1 n1 c1 pa out hds H', Le H H' → hds.length = out.length → n1 = out.length → RowAt H' (.slice a1 n1 c1) 1 (hds.map fun h => [h]) → AllP m l pa → IsOrd l pa out → out.length = pa.length →
      K (.tup [.v (.slice a1 n1 c1), .v (.int .i64 0)]) ⟨[], [(0, .fam 3 1 (famL hds out))], 1⟩ H') :
    DoesG Try.prog 27 [.v (.int .i64 m), .v (.slice a n c)] [] 0 H K := by
  refine doesG_thaw (args := [.int .i64 m, .slice a n c]) (fun _ => rfl) (of_specX hl ha (K := fun v H' => ∃ a1 n1 c1 pa out ocss, v = .tuple #[.slice a1 n1 c1, .int .i64 0] ∧ RL H' a1 n1 c1 out ∧ RowAt H' (.slice a1 n1 c1) 1 ocss ∧ RX H H' ocss out ∧ TopApart a1 ocss ∧ AllP m l pa ∧ IsOrd l pa out ∧ out.length = pa.length)
    (fun h => by rw [hr] at h; cases h) (fun _ a1 n1 c1 pa out ocss H' _ h1 h2 h3 h4 h5 h6 h7 => ⟨a1, n1, c1, pa, out, ocss, rfl, h1, h2, h3, h4, h5, h6, h7⟩)) ?_
  rintro v H2 hle ⟨a1, n1, c1, pa, out, ocss, rfl, h1, h2, h3, h4, h5, h6, h7⟩
  have hlen : ocss.length = out.length := h3.rc.1
  have hhd : ∀ {i : Nat} {cs : List Value}, ocss[i]? = some cs → cs = [hdOf cs] ∧ ∃ q, out[i]? = some q ∧ ExL H H2 cs q := fun {i cs} hi => by
    have hlt := (List.getElem?_eq_some_iff.1 hi).1
    have hq : out[i]? = some (out[i]'(by omega)) := List.getElem?_eq_getElem _
    have hex := h3.ex i cs _ hi hq
    refine ⟨?_, _, hq, hex⟩
    obtain ⟨g, cap, c', e, _⟩ := hex
    rw [e]; rfl
  have hmap : (ocss.map hdOf).map (fun h => [h]) = ocss := by
    rw [List.map_map]
    conv => rhs; rw [← List.map_id ocss]
    refine List.map_congr_left fun cs hcs => ?_
    obtain ⟨i, hi, rfl⟩ := List.getElem_of_mem hcs
    exact (hhd (List.getElem?_eq_getElem hi)).1.symm
  have hfam : ∀ p ∈ famL (ocss.map hdOf) out, ∃ (i : Nat) (cs : List Value) (q : List Int), ocss[i]? = some cs ∧ out[i]? = some q ∧ p = (hdOf cs, iRows q) ∧ ExL H H2 cs q := fun p hp => by
    obtain ⟨i, hd, q, k1, k2, rfl⟩ := famL_mem hp
    rw [List.getElem?_map] at k1
    cases hi : ocss[i]? with
    | none => rw [hi] at k1; cases k1
    | some cs =>
      rw [hi] at k1
      simp only [Option.map_some, Option.some.injEq] at k1
      obtain ⟨_, q', k3, k4⟩ := hhd hi
      rw [k2] at k3
      simp only [Option.some.injEq] at k3
      subst k3
      exact ⟨i, cs, q, hi, k2, by rw [k1], k4⟩
  have hblk : ∀ {i : Nat} {cs : List Value} {g : Nat}, ocss[i]? = some cs → (hdOf cs).ownBlock = some g → blk cs = some g := fun {i cs g} hi hg => by
    have := (hhd hi).1
    rw [this]
    exact hg
  refine ⟨3, 1, famL (ocss.map hdOf) out, .tup [.v (.slice a1 n1 c1), .v (.int .i64 0)], fun _ => rfl, rfl, fun p hp => ?_, ?_, fun hle2 => ?_⟩
  · obtain ⟨i, cs, q, k1, k2, rfl, g, cap, c', e, k3⟩ := hfam p hp
    refine ⟨⟨g, cap, c', ?_, ?_⟩, fun x hx => iRows_one _ x hx⟩
    · show hdOf cs = .slice (some ⟨g, 0, none⟩) (iRows q).length cap
      rw [e, iRows_len]; rfl
    · show _ ∧ _ ∧ (iRows q).length ≤ cap ∧ _ ∧ _ ∧ c'.toList.take ((iRows q).length * 1) = (iRows q).flatten
      rw [iRows_len]
      exact k3
  · rw [List.pairwise_iff_getElem]
    intro i j hi hj hij g hg hg'
    have hil : i < out.length := by rw [famL, List.length_zipWith] at hi; omega
    have hjl : j < out.length := by rw [famL, List.length_zipWith] at hj; omega
    have ei : (famL (ocss.map hdOf) out)[i].1 = hdOf (ocss[i]'(by omega)) := by simp [famL]
    have ej : (famL (ocss.map hdOf) out)[j].1 = hdOf (ocss[j]'(by omega)) := by simp [famL]
    rw [ei] at hg
    rw [ej] at hg'
    have := h3.eq i j _ _ _ _ g (List.getElem?_eq_getElem (by omega)) (List.getElem?_eq_getElem hil) (List.getElem?_eq_getElem (by omega)) (List.getElem?_eq_getElem hjl) (hblk (List.getElem?_eq_getElem (by omega)) hg) (hblk (List.getElem?_eq_getElem (by omega)) hg')
    have := (List.getElem_inj (isOrd_nodup h6)).1 this
    omega
  · refine hK a1 n1 c1 pa out (ocss.map hdOf) _ hle2 (by rw [List.length_map]; exact hlen) h1.n_eq ?_ h5 h6 h7
    rw [hmap]
    obtain ⟨a', cap, e, k1, k2, k3⟩ := h2
    refine ⟨a', cap, e, k1, k2, ?_⟩
    rcases k3 with k3 | ⟨ad, k3, k4, cc, T, fr, k5, k6⟩
    · exact .inl k3
    · refine .inr ⟨ad, k3, k4, cc, T, fr, ?_, k6⟩
      rw [cutH_out]
      · exact k5
      · intro p hp hg
        obtain ⟨i, cs, q, m1, m2, rfl, _⟩ := hfam p hp
        simp only [Value.slice.injEq] at e
        exact h4 i cs ad.block ad m1 (hblk m1 hg) (e.1.trans k3) rfl
end Go.Proofs
end
section
namespace Go.Proofs
open Go.Sy
set_option maxRecDepth 20000
set_option maxHeartbeats 4000000
theorem sortF_spec {ranks p : List Int} {hd : Value} {F B : List (Value × List (List Value))} (hF : F = (hd, iRows p) :: B) (hne : p ≠ []) (hp : ∀ x ∈ p, 0 ≤ x ∧ x < ranks.length) (hlen : p.length ≤ 1000000) (hr : ∀ z ∈ ranks, 0 ≤ z ∧ z ≤ 1000000)
    (hdf : ∀ x ∈ p, ∀ y ∈ p, ig ranks x = ig ranks y → x = y) {a : Option Addr} {n c : Nat} {H : Hp} {K : SV → St → Hp → Prop} (ha : RL H a n c ranks)
    (hK : ∀ H', Le H H' → RowAt H' hd 1 (iRows (sortR ranks p)) → K (.tup []) ⟨[], [(0, .fam 3 1 B), (1, .cells 27 [.v (.slice a n c)])], 2⟩ H') :
    DoesG Try.prog 87 [.v hd, .fn 88 [.ptr 1 0]] [(0, .fam 3 1 F), (1, .cells 27 [.v (.slice a n c)])] 2 H K := by
  subst hF
  exact sortP_spec (A := []) hne hp hlen hr hdf ha fun q H' h1 h2 h3 h4 => hK H' h3 (sortR_uniq hdf h1 h2 ▸ h4)
/-- What a part has. -/
theorem part_in {m : Int} {l : List Edg} {pa out : List (List Int)} (hP : AllP m l pa) (ho : IsOrd l pa out) {p : List Int} (hp : p ∈ out) : p ≠ [] ∧ (∀ x ∈ p, nodeI m x = true) ∧ p.Nodup := by
  have h1 := hP.tp.ok p (isOrd_mem ho p hp)
  refine ⟨h1.ne, fun x hx => (ord_flat hP ho).2 x (List.mem_flatten.2 ⟨p, hp, hx⟩), ?_⟩
  exact h1.str.imp fun h e => by rw [e] at h; exact absurd h (Int.lt_irrefl _)
theorem ranks_bd {m : Int} (h0 : 0 ≤ m) (hm : m ≤ 1000) {l : List Edg} {f : List Int} (hf : ∀ x ∈ f, nodeI m x = true) : ∀ z ∈ ranks m l f, 0 ≤ z ∧ z ≤ 1000000 := fun z hz => by
  obtain ⟨i, hi, rfl⟩ := List.getElem_of_mem hz
  have hi2 := hi
  rw [ranks_len] at hi2
  have := rank_ok h0 (l := l) hf (x := (i : Int)) (decide_eq_true (by omega))
  rw [ig, Int.toNat_natCast, List.getElem?_eq_getElem hi] at this
  simp only [Option.getD_some] at this
  omega
theorem all_len {r : List Int} {m : Int} {l : List Edg} {pa out : List (List Int)} (hP : AllP m l pa) (ho : IsOrd l pa out) (i : Nat) : (allL r (out.take i)).length ≤ m.toNat := by
  rw [(allL_perm r _).length_eq]
  obtain ⟨h1, h2⟩ := ord_flat hP ho
  refine Nat.le_trans ?_ (nodes_len h1 h2)
  have := congrArg List.length (congrArg List.flatten (List.take_append_drop i out))
  rw [List.flatten_append, List.length_append] at this
  omega
theorem rowAt_le {H : Hp} {a : Option Addr} {n c sz : Nat} {xs : List (List Value)} (h : RowAt H (.slice a n c) sz xs) : n ≤ 9223372036854775807 := by
  obtain ⟨a', cap, e, ⟨h1, h2⟩, _⟩ := h
  simp only [Value.slice.injEq] at e
  omega
theorem rowAt_hd {H H' : Hp} {a : Option Addr} {n c : Nat} {hds : List Value} (h : RowAt H (.slice a n c) 1 (hds.map fun h => [h])) (hle : Le H H') {i : Nat} {hd : Value} (hi : hds[i]? = some hd) {P : Prop} (k : ∀ ad, a = some ad → ElemH H' ad (i : Int) 1 [hd] → P) : P := by
  obtain ⟨ad, h1, h2, h3, cc, T, fr, h4, h5⟩ := rowAt_elem h (i := i) (cs := [hd]) (by rw [List.getElem?_map, hi]; rfl)
  exact k ad h1 ⟨h2, h3, cc, T, fr, hle _ _ h4, h5⟩
theorem famL_drop {hds : List Value} {out : List (List Int)} {i : Nat} (h : i < hds.length) (h' : i < out.length) : famL (hds.drop i) (out.drop i) = (hds[i], iRows out[i]) :: famL (hds.drop (i + 1)) (out.drop (i + 1)) := by
  rw [List.drop_eq_getElem_cons h, List.drop_eq_getElem_cons h']; rfl
theorem all_spec {m : Int} {l : List Edg} {f : List Int} (hl : l.length ≤ 1000000) (hf : f.length ≤ 1000000) {a a3 : Option Addr} {n c n3 c3 : Nat} {H : Hp} {K : Value → Hp → Prop} (ha : RL H a n c l) (hb : RL H a3 n3 c3 f)
    (hbad : errE m l f ≠ 0 → K (.tuple #[.slice none 0 0, .int .i64 (errE m l f)]) H)
    (hK : errE m l f = 0 → ∀ a1 n1 c1 pa out H', Le H H' → AllP m l pa → IsOrd l pa out → out.length = pa.length → RL H' a1 n1 c1 (allL (ranks m l f) out) → K (.tuple #[.slice a1 n1 c1, .int .i64 0]) H') :
    Does Try.prog 50 [.int .i64 m, .slice a n c, .slice a3 n3 c3] H K := by
  refine spec_of cxA_ok cx_mix rfl Try.func50 Try.call50 Try.ntmps50 Try.results50 rfl rfl ?_
  refine ranks_spec hl hf ha hb (fun he => ?_) (fun he a1 n1 c1 H1 hle1 hr1 => ?_)
  · refine ⟨fun h => ?_, fun h => ?_⟩
    · exact hbad (nt h)
    · exact absurd (nf h) he
  · have hK := hK he
    obtain ⟨h1, hf2⟩ := err_ok he
    obtain ⟨hm1, hm2, hl2⟩ := right_ok h1
    have h0 : 0 ≤ m := by omega
    refine ⟨fun h => by simp at h, fun _ => ?_⟩
    refine ⟨[], rfl, ofG_spec hl (ha.up hle1) h1 fun a2 n2 c2 pa out hds H2 hle2 hlen hn2 htop hP ho hol => ?_⟩
    have hmx2 := rowAt_le htop
    obtain ⟨r, hr⟩ : ∃ r, r = ranks m l f := ⟨_, rfl⟩
    have hrl := ranks_len m l f
    have hrb := ranks_bd h0 (by omega) (l := l) hf2
    have hri := fun x y hx hy => rank_inj h0 (l := l) hf2 (x := x) (y := y) hx hy
    rw [← hr] at hr1 hrl hrb hri hK
    refine ⟨Nat, fun i => ⟨[(8, .ptr 0 0), (9, .v (.int .i64 0)), (11, .own 2), (30, .v (.slice a2 n2 c2)), (31, .v (.int .i64 n2)), (32, .v (.int .i64 i))],
        [(0, .cells 27 [.v (.slice a1 n1 c1)]), (1, .fam 3 1 (famL (hds.drop i) (out.drop i))), (2, .row 3 1 (iRows (allL r (out.take i))))], 3⟩,
      fun i H' => Le H2 H' ∧ i ≤ out.length, fun i => out.length - i, ⟨0, [(0, 0), (1, 1)], ?_, Le.refl _, Nat.zero_le _⟩, ?_⟩
    · (repeat' (first | exact trivial | refine ⟨?_, ?_⟩ | exact rfl | assumption))
    rintro i H3 hle3 ⟨_, hi⟩
    have hal := all_len (r := r) hP ho i
    have heS : (iRows (allL r (out.take i))).length = (allL r (out.take i)).length := List.length_map _
    refine ⟨fun h => ?_, fun h => ?_⟩
    · have hlt : i < out.length := by have := dt h; omega
      have hlt2 : i < hds.length := by omega
      refine rowAt_hd htop hle3 (List.getElem?_eq_getElem hlt2) fun ad q1 hh => ?_
      refine ⟨ad, ⟨by omega, by omega, q1⟩, ?_⟩
      refine ⟨_, hh, ?_⟩
      obtain ⟨p, hpe⟩ : ∃ p, p = out[i] := ⟨_, rfl⟩
      have hpm : p ∈ out := by rw [hpe]; exact List.getElem_mem hlt
      obtain ⟨p1, p2, p3⟩ := part_in hP ho hpm
      have hF := famL_drop hlt2 hlt
      rw [← hpe] at hF
      have hpl := nodes_len p3 p2
      refine ⟨[1, 0], rfl, sortF_spec hF p1 (fun x hx => by have := dt (p2 x hx); omega) (by omega) hrb (fun x hx y hy => hri x y (p2 x hx) (p2 y hy)) (hr1.up (hle2.trans hle3)) fun H4 hle4 hrow => ?_⟩
      have hsl := sortR_len r p
      have heP : (iRows (sortR r p)).length = (sortR r p).length := List.length_map _
      have hs : allL r (out.take (i + 1)) = allL r (out.take i) ++ sortR r p := by rw [List.take_succ_eq_append_getElem hlt, ← hpe, allL_snoc]
      refine ⟨_, hrow, ?_⟩
      refine ⟨⟨by show ((iRows _).length + (iRows _).length) * 8 ≤ 140737488355328; omega, by show (iRows _).length + (iRows _).length ≤ 9223372036854775807; omega⟩, ?_⟩
      have e1 : iRows (allL r (out.take i)) ++ iRows (sortR r p) = iRows (allL r (out.take (i + 1))) := by rw [hs]; simp
      refine ⟨⟨by omega, by omega⟩, i + 1, [(0, 0), (1, 1), (2, 3)], ?_, ⟨hle3.trans hle4, hlt⟩, by dsimp only; omega⟩
      (repeat' (first | exact trivial | refine ⟨?_, ?_⟩ | exact rfl | assumption))
    · have hil : i = out.length := by have := df h; omega
      intro x H4 hle4 hx
      rw [hil, List.take_length] at hx
      obtain ⟨a4, n4, c4, rfl, hr4⟩ := rI_all hx (fun x hx => by
        have := dt ((ord_flat hP ho).2 x ((allL_perm r out).mem_iff.1 hx))
        exact ⟨by omega, by omega⟩)
      exact hK _ _ _ pa out _ (((hle1.trans hle2).trans hle3).trans hle4.le) hP ho hol hr4
end Go.Proofs
end
section
namespace Go.Proofs
open Go.Sy
set_option maxRecDepth 20000
set_option maxHeartbeats 4000000
theorem name_k {α : Type} {P : Prop} (x : α) (k : ∀ z, z = x → P) : P := k x rfl
theorem kthR_take {r p : List Int} {k j : Nat} (h : j < p.length) : kthR r (p.take (j + 1)) k = kthR r (p.take j) k ++ (if ig r p[j] = (k : Int) then [p[j]] else []) := by
  rw [kthR, List.take_succ_eq_append_getElem h, List.filter_append, ← kthR]
  congr 1
  by_cases e : ig r p[j] = (k : Int)
  · rw [if_pos e]; simp [e]
  · rw [if_neg e]; simp [e]
theorem byR_len {r p : List Int} (h : p.Nodup) (k : Nat) : (byR r p k).length ≤ p.length := nodup_sub (byR_nodup h k) fun x hx => ((byR_mem r p k x).1 hx).1
theorem rall_spec {m : Int} (h0 : 0 ≤ m) (hm : m ≤ 1000) {l : List Edg} (hl : l.length ≤ 100000) {pa : List (List Int)} (hP : AllP m l pa) {f : List Int} (hf : ∀ x ∈ f, nodeI m x = true) {a a3 : Option Addr} {n c n3 c3 : Nat} {H : Hp} {K : Value → Hp → Prop} (ha : RL H a n c l) (hb : RL H a3 n3 c3 f)
    (hK : ∀ a1 n1 c1 out H', Le H H' → IsOrd l pa out → out.length = pa.length → RL H' a1 n1 c1 (allL (ranks m l f) out) → K (.slice a1 n1 c1) H') : Does Try.prog 54 [.int .i64 m, .slice a n c, .slice a3 n3 c3] H K := by
  have hrb := ranks_bd h0 hm (l := l) hf
  have hri := fun x y hx hy => rank_inj h0 (l := l) hf (x := x) (y := y) hx hy
  have hro := fun x hx => rank_ok h0 (l := l) hf (x := x) hx
  have hrl := ranks_len m l f
  refine spec_of cxV_ok cx_mix rfl Try.func54 Try.call54 Try.ntmps54 Try.results54 rfl rfl ?_
  refine rranks_spec h0 hm hf ha hb fun a1 n1 c1 H1 hle1 hr1 => ?_
  obtain ⟨r, hr⟩ : ∃ r, r = ranks m l f := ⟨_, rfl⟩
  rw [← hr] at hr1 hrl hrb hri hro hK
  refine rof_spec h0 hm hl hP (ha.up hle1) fun a2 n2 c2 out H2 hle2 hr2 ho hol => ?_
  have hmx2 := hr2.le
  have hn2 := hr2.n_eq
  refine ⟨Nat, fun i => ⟨[(0, .v (.int .i64 m)), (7, .v (.slice a1 n1 c1)), (8, .own 0), (20, .v (.slice a2 n2 c2)), (21, .v (.int .i64 n2)), (22, .v (.int .i64 i))], [(0, .row 3 1 (iRows (allL r (out.take i))))], 1⟩,
    fun i H' => Le H2 H' ∧ i ≤ out.length, fun i => out.length - i, ⟨0, [], ?_, Le.refl _, Nat.zero_le _⟩, ?_⟩
  · have e0 : iRows (allL r (out.take 0)) = [] := rfl
    (repeat' (first | exact trivial | refine ⟨?_, ?_⟩ | exact rfl | assumption))
  rintro i H3 hle3 ⟨_, hi⟩
  have hal := all_len (r := r) hP ho i
  refine ⟨fun h => ?_, fun h => ?_⟩
  · have hlt : i < out.length := by have := dt h; omega
    refine list_elem_k (hr2.up hle3) (List.getElem?_eq_getElem hlt) fun ad a4 n4 c4 q1 hh hr4 => ?_
    refine ⟨ad, ⟨by omega, by omega, q1⟩, ?_⟩
    refine ⟨_, hh, ?_⟩
    obtain ⟨p, hpe⟩ : ∃ p, p = out[i] := ⟨_, rfl⟩
    have hpm : p ∈ out := by rw [hpe]; exact List.getElem_mem hlt
    obtain ⟨p1, p2, p3⟩ := part_in hP ho hpm
    have hpl := nodes_len p3 p2
    have hs : allL r (out.take (i + 1)) = allL r (out.take i) ++ sortR r p := by rw [List.take_succ_eq_append_getElem hlt, ← hpe, allL_snoc]
    rw [← hpe] at hr4
    have hn4 := hr4.n_eq
    obtain ⟨A, hA⟩ : ∃ A, A = allL r (out.take i) := ⟨_, rfl⟩
    rw [← hA] at hs hal ⊢
    refine ⟨Nat, fun k => ⟨[(0, .v (.int .i64 m)), (7, .v (.slice a1 n1 c1)), (8, .own 0), (10, .v (.slice a4 n4 c4)), (11, .v (.int .i64 k)), (20, .v (.slice a2 n2 c2)), (21, .v (.int .i64 n2)), (22, .v (.int .i64 i))], [(0, .row 3 1 (iRows (A ++ byR r p k)))], 1⟩,
      fun k H' => Le H3 H' ∧ k ≤ m.toNat, fun k => m.toNat - k, ⟨0, [(0, 0)], ?_, Le.refl _, Nat.zero_le _⟩, ?_⟩
    · have e0 : iRows A = iRows (A ++ byR r p 0) := by simp [byR]
      (repeat' (first | exact trivial | refine ⟨?_, ?_⟩ | exact rfl | assumption))
    rintro k H4 hle4 ⟨_, hk⟩
    have hbl := byR_len (r := r) p3 k
    refine ⟨fun h => ?_, fun h => ?_⟩
    · have hkm : k < m.toNat := by have := dt h; omega
      refine ⟨Nat, fun j => ⟨[(0, .v (.int .i64 m)), (7, .v (.slice a1 n1 c1)), (8, .own 0), (10, .v (.slice a4 n4 c4)), (11, .v (.int .i64 k)), (20, .v (.slice a2 n2 c2)), (21, .v (.int .i64 n2)), (22, .v (.int .i64 i)), (31, .v (.slice a4 n4 c4)), (32, .v (.int .i64 n4)), (33, .v (.int .i64 j))],
          [(0, .row 3 1 (iRows (A ++ byR r p k ++ kthR r (p.take j) k)))], 1⟩,
        fun j H' => Le H4 H' ∧ j ≤ p.length, fun j => p.length - j, ⟨0, [(0, 0)], ?_, Le.refl _, Nat.zero_le _⟩, ?_⟩
      · have e0 : iRows (A ++ byR r p k) = iRows (A ++ byR r p k ++ kthR r (p.take 0) k) := by simp [kthR]
        (repeat' (first | exact trivial | refine ⟨?_, ?_⟩ | exact rfl | assumption))
      rintro j H5 hle5 ⟨_, hj⟩
      have hkl : (kthR r (p.take j) k).length ≤ p.length := by
        have h1 := List.length_filter_le (fun a => decide (ig r a = (k : Int))) (p.take j)
        have h2 := List.length_take_le j p
        have h3 := List.length_take (i := j) (l := p)
        rw [kthR]; omega
      refine ⟨fun h => ?_, fun h => ?_⟩
      · have hjl : j < p.length := by have := dt h; omega
        have hz0 := p2 _ (List.getElem_mem hjl)
        have hs0 := kthR_take (r := r) (k := k) hjl
        refine name_k p[j] fun z hze => ?_
        rw [← hze] at hz0 hs0
        have hz2 := dt hz0
        have hgz : p[j]? = some z := by rw [hze]; exact List.getElem?_eq_getElem hjl
        refine int_elem_k ((hr4.up hle4).up hle5) hgz fun ad1 q1 hh1 => ?_
        refine ⟨ad1, ⟨by omega, by omega, q1⟩, ?_⟩
        refine ⟨_, hh1, ?_⟩
        have hn1 := hr1.n_eq
        refine int_at_k ((((hr1.up hle2).up hle3).up hle4).up hle5) hz2.1 (by omega) fun ad2 q2 hh2 => ?_
        refine ⟨ad2, ⟨by omega, by omega, q2⟩, ?_⟩
        refine ⟨_, hh2, ?_⟩
        have lA : (A ++ byR r p k).length = A.length + (byR r p k).length := List.length_append
        have lB : (A ++ byR r p k ++ kthR r (p.take j) k).length = (A ++ byR r p k).length + (kthR r (p.take j) k).length := List.length_append
        refine ⟨fun h => ?_, fun h => ?_⟩
        · have hyes : ig r z = (k : Int) := dt h
          rw [if_pos hyes] at hs0
          refine ⟨⟨by show ((iRows _).length + 1) * 8 ≤ 140737488355328; rw [iRows_ln]; omega, by show (iRows _).length + 1 ≤ 9223372036854775807; rw [iRows_ln]; omega⟩, ?_⟩
          have e1 : iRows (A ++ byR r p k ++ kthR r (p.take j) k) ++ [[Value.int .i64 z]] = iRows (A ++ byR r p k ++ kthR r (p.take (j + 1)) k) := by rw [hs0]; simp
          refine ⟨⟨by omega, by omega⟩, j + 1, [(0, 2)], ?_, ⟨hle5, hjl⟩, by dsimp only; omega⟩
          (repeat' (first | exact trivial | refine ⟨?_, ?_⟩ | exact rfl | assumption))
        · have hno : ¬ ig r z = (k : Int) := df h
          rw [if_neg hno, List.append_nil] at hs0
          have e1 : iRows (A ++ byR r p k ++ kthR r (p.take j) k) = iRows (A ++ byR r p k ++ kthR r (p.take (j + 1)) k) := by rw [hs0]
          refine ⟨⟨by omega, by omega⟩, j + 1, [(0, 0)], ?_, ⟨hle5, hjl⟩, by dsimp only; omega⟩
          (repeat' (first | exact trivial | refine ⟨?_, ?_⟩ | exact rfl | assumption))
      · have hjl : j = p.length := by have := df h; omega
        have hpt : p.take j = p := by rw [hjl, List.take_length]
        have e1 : iRows (A ++ byR r p k ++ kthR r (p.take j) k) = iRows (A ++ byR r p (k + 1)) := by rw [hpt, byR_succ, List.append_assoc]
        refine ⟨⟨by omega, by omega⟩, k + 1, [(0, 0)], ?_, ⟨hle4.trans hle5, hkm⟩, by dsimp only; omega⟩
        (repeat' (first | exact trivial | refine ⟨?_, ?_⟩ | exact rfl | assumption))
    · have hkm : k = m.toNat := by have := df h; omega
      have hbe : byR r p m.toNat = sortR r p := byR_eq p3 (fun x hx y hy => hri x y (p2 x hx) (p2 y hy)) (fun x hx => by have := hro x (p2 x hx); omega)
      have e1 : iRows (A ++ byR r p k) = iRows (allL r (out.take (i + 1))) := by rw [hkm, hbe, hs]
      refine ⟨⟨by omega, by omega⟩, i + 1, [(0, 0)], ?_, ⟨hle3.trans hle4, hlt⟩, by dsimp only; omega⟩
      (repeat' (first | exact trivial | refine ⟨?_, ?_⟩ | exact rfl | assumption))
  · have hil : i = out.length := by have := df h; omega
    intro x H4 hle4 hx
    rw [hil, List.take_length] at hx
    obtain ⟨a4, n4, c4, rfl, hr4⟩ := rI_all hx (fun x hx => by
      have := dt ((ord_flat hP ho).2 x ((allL_perm r out).mem_iff.1 hx))
      exact ⟨by omega, by omega⟩)
    exact hK _ _ _ out _ (((hle1.trans hle2).trans hle3).trans hle4.le) ho hol hr4
end Go.Proofs
end
section
namespace Go.Proofs
open Go.Sy
set_option maxRecDepth 20000
set_option maxHeartbeats 4000000
theorem few14_spec {m : Int} {l : List Edg} {f : List Int} {a a3 : Option Addr} {n c n3 c3 : Nat} {H : Hp} {K : Value → Hp → Prop} (ha : RL H a n c l) (hb : RL H a3 n3 c3 f) (hK : ∀ b, (b = true → (m ≤ 8 ∨ m > 256) ∧ l.length ≤ 20 ∧ f.length ≤ 10) → K (.bool b) H) : Does Try.prog 47 [.int .i64 m, .slice a n c, .slice a3 n3 c3] H K := by
  have hn := ha.n_eq
  have hn3 := hb.n_eq
  refine spec_of cx_ok cx_mix rfl Try.func47 Try.call47 Try.ntmps47 Try.results47 rfl rfl ?_
  refine ⟨fun h => ?_, fun h => ?_⟩
  · have h1 : ¬ m ≤ 8 := df h
    refine ⟨fun h => ?_, fun h => ?_⟩
    · have h2 : m > 256 := dt h
      refine ⟨fun h => ?_, fun h => ?_⟩
      · have h3 := dt h
        exact hK _ fun h4 => ⟨.inr h2, by omega, by have := dt h4; omega⟩
      · exact hK _ fun h3 => by first | (rw [h] at h3; cases h3) | cases h3
    · exact hK _ fun h3 => by first | (rw [h] at h3; cases h3) | cases h3
  · have h1 : m ≤ 8 := dt h
    refine ⟨fun h => ?_, fun h => ?_⟩
    · have h3 := dt h
      exact hK _ fun h4 => ⟨.inl h1, by omega, by have := dt h4; omega⟩
    · exact hK _ fun h3 => by first | (rw [h] at h3; cases h3) | cases h3
theorem OrderTells_spec {m : Int} {l : List Edg} {f : List Int} {a a3 : Option Addr} {n c n3 c3 : Nat} {H : Hp} {K : Value → Hp → Prop} (ha : RL H a n c l) (hb : RL H a3 n3 c3 f) (hK : ∀ H', Le H H' → K (.bool true) H') : Does Try.prog 9 [.int .i64 m, .slice a n c, .slice a3 n3 c3] H K := by
  have hn := ha.n_eq
  have hn3 := hb.n_eq
  refine spec_of cx_ok cx_mix rfl Try.func9 Try.call9 Try.ntmps9 Try.results9 rfl rfl ?_
  refine awake14_spec fun _ _ => ?_
  refine ⟨(fun h => by cases h), fun _ => ?_⟩
  refine few14_spec ha hb fun b hfew => ?_
  refine ⟨fun h => ?_, fun h => ?_⟩
  · exact hK _ (Le.refl H)
  · obtain ⟨hm, hll, hfl⟩ := hfew (by simpa using h)
    by_cases he : errE m l f = 0
    · obtain ⟨hr, hf⟩ := err_ok he
      obtain ⟨hm1, hm2, _⟩ := right_ok hr
      refine post_spec (by omega) (by omega) ha hb (fun h => absurd he h) (fun _ a4 n4 c4 H4 hle4 hr4 => ?_)
      refine ranks_spec (by omega) (by omega) (ha.up hle4) (hb.up hle4) (fun h => absurd he h) (fun _ a5 n5 c5 H5 hle5 hr5 => ?_)
      refine all_spec (by omega) (by omega) ((ha.up hle4).up hle5) ((hb.up hle4).up hle5) (fun h => absurd he h) (fun _ a6 n6 c6 pa out H6 hle6 hP ho hol hr6 => ?_)
      have hle := (hle4.trans hle5).trans hle6
      refine rerr_spec (ha.up hle) (hb.up hle) ?_
      rw [he]
      refine ⟨(fun h => by simp at h), fun _ => ?_⟩
      refine ⟨fun _ => ?_, fun h => by simp at h⟩
      refine ⟨fun _ => ?_, fun h => by simp at h⟩
      refine ⟨fun _ => ?_, fun h => by simp at h⟩
      refine rpost_spec (by omega) (by omega) hf (ha.up hle) (hb.up hle) fun a7 n7 c7 H7 hle7 hr7 => ?_
      refine ints_spec (((hr4.up hle5).up hle6).up hle7) hr7 ?_
      refine ⟨fun _ => ?_, fun h => by simp at h⟩
      refine rranks_spec (by omega) (by omega) hf ((ha.up hle).up hle7) ((hb.up hle).up hle7) fun a8 n8 c8 H8 hle8 hr8 => ?_
      refine ints_spec (((hr5.up hle6).up hle7).up hle8) hr8 ?_
      refine ⟨fun _ => ?_, fun h => by simp at h⟩
      have hle78 := hle7.trans hle8
      refine rall_spec (by omega) (by omega) (by omega) hP hf ((ha.up hle).up hle78) ((hb.up hle).up hle78) fun a9 n9 c9 out9 H9 hle9 ho9 hol9 hr9 => ?_
      have e9 : out9 = out := ord_one hP hP ho9 ho hol9 hol
      rw [e9] at hr9
      refine ints_spec (hr6.up (hle78.trans hle9)) hr9 ?_
      exact kbool (hK _ ((hle.trans hle78).trans hle9)) (by simp)
    · refine post_spec (by omega) (by omega) ha hb (fun _ => ?_) (fun h => absurd h he)
      refine ranks_spec (by omega) (by omega) ha hb (fun _ => ?_) (fun h => absurd h he)
      refine all_spec (by omega) (by omega) ha hb (fun _ => ?_) (fun h => absurd h he)
      refine rerr_spec ha hb ?_
      refine ⟨fun _ => ?_, fun h => absurd (nf h) he⟩
      refine ⟨fun _ => ?_, fun h => by simp at h⟩
      refine ⟨fun _ => ?_, fun h => by simp at h⟩
      refine ⟨fun _ => ?_, fun h => by simp at h⟩
      refine ⟨⟨by decide, by decide⟩, ?_⟩
      refine ⟨⟨by decide, by decide⟩, ?_⟩
      exact kbool (hK _ (Le.refl H)) (by simp)
end Go.Proofs
end
