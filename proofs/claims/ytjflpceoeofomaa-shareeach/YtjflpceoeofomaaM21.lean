/- Part 'M21' of the proof (Y2, Y6, Y7, Y8, Y8b, Y12, Y13, Y14, Y15, Y16, Y9f, Y17, Y18): lemmas, each with its own conditions in its own statement. -/
import Derived.Test.YtjflpceoeofomaaM15
import Derived.Test.YtjflpceoeofomaaM19
import Derived.Test.YtjflpceoeofomaaM20
import Derived.Test.YtjflpceoeofomaaM7
section
namespace Go.Proofs
open Go.Sy Go.Sort Go.Shelf
set_option maxRecDepth 20000
/-! slices.SortFunc over a part, by ranks -/
theorem sortP_spec {ranks p : List Int} {hd : Value} {A B : List (Value × List (List Value))} (hne : p ≠ []) (hp : ∀ x ∈ p, 0 ≤ x ∧ x < ranks.length) (hlen : p.length ≤ 1000000) (hr : ∀ z ∈ ranks, 0 ≤ z ∧ z ≤ 1000000)
    (hdf : ∀ x ∈ p, ∀ y ∈ p, ig ranks x = ig ranks y → x = y) {a : Option Addr} {n c : Nat} {H : Hp} {K : SV → St → Hp → Prop} (ha : RL H a n c ranks)
    (hK : ∀ q H', q.Perm p → q.Pairwise (fun x y => ig ranks x ≤ ig ranks y) → Le H H' → RowAt H' hd 1 (iRows q) → K (.tup []) ⟨[], [(0, .fam 3 1 (A ++ B)), (1, .cells 27 [.v (.slice a n c)])], 2⟩ H') :
    DoesG Try.prog 87 [.v hd, .fn 88 [.ptr 1 0]] [(0, .fam 3 1 (A ++ (hd, iRows p) :: B)), (1, .cells 27 [.v (.slice a n c)])] 2 H K := by
  refine ⟨Try.call87, fun w ρ hm _ => ?_⟩
  obtain ⟨_, ⟨hfam, hpw⟩, _⟩ := hm.ok 0 _ rfl
  obtain ⟨_, hbc, _⟩ := hm.ok 1 _ rfl
  have hbc : w.heap[ρ.b 1]? = some (.cells #[.slice a n c] 27 (0, 0)) := hbc
  obtain ⟨⟨hfl, hv⟩, hall⟩ := hfam (hd, iRows p) (List.mem_append_right _ List.mem_cons_self)
  have hpl : (iRows p).length = p.length := List.length_map _
  rw [hpl] at hv
  have hpos : p.length ≠ 0 := fun h => hne (List.eq_nil_of_length_eq_zero h)
  rcases hv with ⟨_, h0⟩ | ⟨q, cap, cur, hv, _, hcell, hcap, hmax, hsz, hcur⟩
  · exact absurd h0 hpos
  have hv : hd = .slice (some ⟨q, 0, none⟩) p.length cap := hv
  have hown0 : Owns ρ 0 (.fam 3 1 (A ++ (hd, iRows p) :: B)) q := ⟨(hd, iRows p), List.mem_append_right _ List.mem_cons_self, by rw [hv]; rfl⟩
  have hown1 : Owns ρ 1 (.cells 27 [.v (.slice a n c)]) (ρ.b 1) := rfl
  have hq1 : q ≠ ρ.b 1 := fun e => by
    have := hm.disj 0 1 _ _ q rfl rfl hown0 (by rw [e]; exact hown1)
    cases this
  have hHq := (hm.own 0 _ q rfl hown0).1
  have hH1 := (hm.own 1 _ (ρ.b 1) rfl hown1).1
  have hqs : q < w.heap.size := (Array.getElem?_eq_some_iff.1 hcell).1
  have h1s : ρ.b 1 < w.heap.size := (Array.getElem?_eq_some_iff.1 hbc).1
  rw [Nat.mul_one] at hsz
  rw [Nat.mul_one] at hcur
  obtain ⟨x0, hx0⟩ : ∃ x, x ∈ p := by
    cases p with
    | nil => exact absurd rfl hne
    | cons x r => exact ⟨x, List.mem_cons_self⟩
  letI : Inhabited {x // x ∈ p} := ⟨⟨x0, hx0⟩⟩
  let enc : {x // x ∈ p} → Value := fun x => .int .i64 x.1
  let cf : {x // x ∈ p} → {x // x ∈ p} → Int := fun x y => ig ranks x.1 - ig ranks y.1
  have hlt : ∀ x y, ltOf cf x y = decide (ig ranks x.1 < ig ranks y.1) := fun x y => by
    rw [ltOf]
    by_cases h : ig ranks x.1 < ig ranks y.1
    · rw [decide_eq_true h, decide_eq_true (by show ig ranks x.1 - ig ranks y.1 < 0; omega)]
    · rw [decide_eq_false h, decide_eq_false (by show ¬ ig ranks x.1 - ig ranks y.1 < 0; omega)]
  have hltt : ∀ x y, ltOf cf x y = true ↔ ig ranks x.1 < ig ranks y.1 := fun x y => by rw [hlt, decide_eq_true_eq]
  have hltf : ∀ x y, ltOf cf x y = false ↔ ¬ ig ranks x.1 < ig ranks y.1 := fun x y => by rw [hlt, decide_eq_false_iff_not]
  have hO : SWO (ltOf cf) := by
    refine ⟨fun x => (hltf x x).2 (by omega), fun x y z h1 h2 => (hltt x z).2 ?_, fun x y z h1 h2 => ?_⟩
    · have := (hltt x y).1 h1
      have := (hltt y z).1 h2
      omega
    · have := (hltf x y).1 h1
      have := (hltf y z).1 h2
      exact (hltf x z).2 (by omega)
  have hT : ∀ x y, (ltOf cf) x y = false → (ltOf cf) y x = false → x = y := fun x y h1 h2 => by
    have k1 := (hltf x y).1 h1
    have k2 := (hltf y x).1 h2
    exact Subtype.ext (hdf x.1 x.2 y.1 y.2 (by omega))
  let d : Array {x // x ∈ p} := p.attach.toArray
  have hds : d.size = p.length := by show p.attach.toArray.size = _; rw [List.size_toArray, List.length_attach]
  have hdj : ∀ j (hj : j < p.length), (d[j]!).1 = p[j] := fun j hj => by
    have hj2 : j < d.size := by rw [hds]; exact hj
    rw [getElem!_pos d j hj2]
    show (p.attach.toArray[j]'hj2).1 = _
    rw [List.getElem_toArray, List.getElem_attach]
  have hH : Holds enc w q 0 d := by
    intro j hj
    rw [hds] at hj
    have hj2 : j < cur.size := by omega
    constructor
    · have e1 : cur.toList[j]? = some (.int .i64 (d[j]!).1) := by
        rw [hdj j hj, ← List.getElem?_take_of_lt hj, hcur, iRows_flat, List.getElem?_map, List.getElem?_eq_getElem hj]
        rfl
      rw [Nat.zero_add]
      simp only [World.cell?, hcell]
      rw [← Array.getElem?_toList]
      exact e1
    · simp only [World.frozen?, hcell]
      simp
  have hheap : ∀ (m : Nat) (dk : Array {x // x ∈ p}) (os : Array Obj) (b' : Nat), b' < w.heap.size → (sortWorld enc w q 0 m dk os).heap[b']? = if b' = q then some (.cells (putCells enc 0 dk cur) 3 (0, 0)) else w.heap[b']? := fun m dk os b' hb' => by
    show ((w.heap.modify q _) ++ os)[b']? = _
    rw [Array.getElem?_append_left (by simpa using hb'), Array.getElem?_modify]
    by_cases hq : q = b'
    · subst hq
      rw [if_pos rfl, if_pos rfl, hcell]; rfl
    · rw [if_neg hq, if_neg (fun h => hq h.symm)]
  have hsize : ∀ (m : Nat) (dk : Array {x // x ∈ p}) (os : Array Obj), w.heap.size ≤ (sortWorld enc w q 0 m dk os).heap.size := fun m dk os => by
    show w.heap.size ≤ ((w.heap.modify q _) ++ os).size
    simp
  have hcmp : CmpLays1 Try.prog 88 #[.pointer (some ⟨ρ.b 1, 0, none⟩)] enc cf q 0 d.size w := by
    intro m os dk _ x y
    let ρ1 : Rho := ⟨fun _ => ρ.b 1, ρ.sl⟩
    have hd := cmpR_spec (hp x.1 x.2) (hp y.1 y.2) hr (H := H) (K := fun x' t H' => x' = .v (.int .i64 (cf x y)) ∧ t = ⟨[], [(0, .cells 27 [.v (.slice a n c)])], 1⟩ ∧ H' = H) ha ⟨rfl, rfl, rfl⟩
    have hk0 : ∀ {k : Nat} {b : Bx}, lk [(0, Bx.cells 27 [.v (.slice a n c)])] k = some b → k = 0 ∧ b = .cells 27 [.v (.slice a n c)] := fun {k b} h => by
      rw [lk_cons] at h
      split at h
      · rename_i e0
        simp only [Option.some.injEq] at h
        exact ⟨e0.symm, h.symm⟩
      · cases h
    have hb1 : ∀ b', b' ≠ q → b' < w.heap.size → (sortWorld enc w q 0 m dk os).heap[b']? = w.heap[b']? := fun b' h1 h2 => by rw [hheap m dk os b' h2, if_neg h1]
    have hm1 : Mem (Bs.lent (sortWorld enc w q 0 m dk os) ρ1 [(0, .cells 27 [.v (.slice a n c)])] 1 H) ρ1 [(0, .cells 27 [.v (.slice a n c)])] 1 H (sortWorld enc w q 0 m dk os) :=
    { os := rfl, tape := rfl, output := ⟨rfl, Nat.le_refl _⟩, size := Nat.le_refl _
      frame := fun _ _ _ => rfl
      base := Nat.le_refl _
      agree := fun _ _ => ⟨rfl, rfl⟩
      hp := fun b o hb => by
        have h2 := hm.hp b o hb
        have h3 : b < w.heap.size := (Array.getElem?_eq_some_iff.1 h2).1
        rw [hb1 b (fun e => by rw [e, hHq] at hb; cases hb) h3]
        exact h2
      hle := fun _ _ h => h
      hnew := fun _ h _ _ => h
      ok := fun k b h => by
        obtain ⟨rfl, rfl⟩ := hk0 h
        refine ⟨Nat.zero_lt_one, ?_, rfl⟩
        show (sortWorld enc w q 0 m dk os).heap[ρ.b 1]? = _
        rw [hb1 _ (fun e => hq1 e.symm) h1s]
        exact hbc
      own := fun k b g h ho => by
        obtain ⟨rfl, rfl⟩ := hk0 h
        have e : g = ρ.b 1 := ho
        exact ⟨by rw [e]; exact hH1, .inr ⟨0, _, rfl, ho⟩⟩
      disj := fun k k' b b' g h h' _ _ => by
        obtain ⟨rfl, _⟩ := hk0 h
        obtain ⟨rfl, _⟩ := hk0 h'
        rfl }
    refine (hd.2 (sortWorld enc w q 0 m dk os) ρ1 hm1 rfl).mono fun e w' ⟨x', t, H', ρ', e1, ⟨e2, e3, e4⟩, _, hm2⟩ => ?_
    subst e2 e3
    refine ⟨e1, grow_of ⟨⟨hm2.os, hm2.tape, hm2.output.1, hm2.size, fun b hb => ?_⟩, hm2.output.2⟩⟩
    by_cases hb0 : b = ρ.b 1
    · have k1 := (hm2.ok 0 _ rfl).2.1
      have k1 : w'.heap[ρ'.b 0]? = some (.cells #[.slice a n c] 27 (0, 0)) := k1
      have k2 : ρ'.b 0 = ρ.b 1 := (hm2.agree 0 Nat.zero_lt_one).1
      rw [k2] at k1
      rw [hb0, k1, hb1 _ (fun e => hq1 e.symm) h1s, hbc]
    · exact hm2.frame b hb fun ⟨k, b', h1, h2⟩ => by
        obtain ⟨rfl, rfl⟩ := hk0 h1
        exact hb0 h2
  have hmain := Try.slices_SortFunc_total enc (fun _ => rfl) cf hO 88 #[.pointer (some ⟨ρ.b 1, 0, none⟩)] q 0 cap d w Try.call88 hcmp hH hqs (by rw [hds]; omega) hT
  rw [hds, ← hv] at hmain
  show Calls Try.prog 87 #[hd, .func (.func 88) #[] #[.pointer (some ⟨ρ.b 1, 0, none⟩)]] w _
  have hdl : d.toList = p.attach := rfl
  rw [hdl] at hmain
  obtain ⟨sl, hsle⟩ : ∃ sl, sl = p.attach.mergeSort fun x y => !(ltOf cf) y x := ⟨_, rfl⟩
  rw [← hsle] at hmain
  have hperm : sl.Perm p.attach := by rw [hsle]; exact List.mergeSort_perm _ _
  have hsl : sl.length = p.length := by rw [hperm.length_eq, List.length_attach]
  have hpq : (sl.map (·.1)).Perm p := by
    have := hperm.map (fun x : {x // x ∈ p} => x.1)
    rwa [List.attach_map_subtype_val] at this
  have hsort : (sl.map (·.1)).Pairwise (fun x y => ig ranks x ≤ ig ranks y) := by
    rw [List.pairwise_map]
    have := List.pairwise_mergeSort (le := fun x y => !(ltOf cf) y x) (fun x y z h1 h2 => by
      rw [Bool.not_eq_true'] at *
      have := (hltf _ _).1 h1
      have := (hltf _ _).1 h2
      exact (hltf _ _).2 (by omega)) (fun x y => by
      rw [Bool.or_eq_true, Bool.not_eq_true', Bool.not_eq_true']
      by_cases h : ig ranks y.1 < ig ranks x.1
      · exact .inr ((hltf _ _).2 (by omega))
      · exact .inl ((hltf _ _).2 h)) p.attach
    rw [hsle]
    refine this.imp fun {x y} h => ?_
    rw [Bool.not_eq_true'] at h
    have := (hltf _ _).1 h
    omega
  refine hmain.mono fun ev w' ⟨e1, k, os, e2⟩ => ?_
  have hss : sl.toArray.size = p.length := by simp [hsl]
  let H' : Hp := fun b => if b = q then some (.cells (putCells enc 0 sl.toArray cur) 3 (0, 0)) else H b
  have hH'q : H' q = some (.cells (putCells enc 0 sl.toArray cur) 3 (0, 0)) := if_pos rfl
  have hH'n : ∀ b, b ≠ q → H' b = H b := fun b h => if_neg h
  have hle : Le H H' := fun b o hb => by
    rw [hH'n b (fun e => by rw [e, hHq] at hb; cases hb)]
    exact hb
  have hrow : RowAt H' hd 1 (iRows (sl.map (·.1))) := by
    have hlen2 : (iRows (sl.map (·.1))).length = p.length := by simp [iRows, hsl]
    refine ⟨some ⟨q, 0, none⟩, cap, by rw [hlen2]; exact hv, by rw [hlen2]; exact ⟨hcap, hmax⟩, fun x hx => iRows_one _ x hx, .inr ⟨_, rfl, rfl, _, _, _, hH'q, ?_, fun i x hi j hj => ?_⟩⟩
    · simp [putCells, hsz]
    · have hi2 : i < p.length := by rw [← hlen2]; exact (List.getElem?_eq_some_iff.1 hi).1
      have hj0 : j = 0 := by omega
      subst hj0
      have hi3 : i < cur.size := by omega
      have hi4 : i < sl.length := by omega
      have ex : x = [.int .i64 sl[i].1] := by
        rw [iRows, List.getElem?_map, List.getElem?_map, List.getElem?_eq_getElem hi4] at hi
        simpa using hi.symm
      rw [ex, Nat.zero_add, Nat.mul_one, Nat.add_zero]
      simp only [putCells, Array.getElem?_mapIdx, Array.getElem?_eq_getElem hi3, Option.map_some]
      rw [if_pos ⟨Nat.zero_le _, by rw [hss]; omega⟩, Nat.sub_zero, getElem!_pos sl.toArray i (by rw [hss]; exact hi2)]
      rfl
  have hw' : ∀ b', b' < w.heap.size → w'.heap[b']? = if b' = q then some (.cells (putCells enc 0 sl.toArray cur) 3 (0, 0)) else w.heap[b']? := fun b' hb' => by rw [e2]; exact hheap k sl.toArray os b' hb'
  have hkey : ∀ {j : Nat} {b : Bx}, lk [(0, Bx.fam 3 1 (A ++ B)), (1, Bx.cells 27 [.v (.slice a n c)])] j = some b → (j = 0 ∧ b = .fam 3 1 (A ++ B)) ∨ (j = 1 ∧ b = .cells 27 [.v (.slice a n c)]) := fun {j b} h => by
    rw [lk_cons] at h
    split at h
    · rename_i e0
      simp only [Option.some.injEq] at h
      exact .inl ⟨e0.symm, h.symm⟩
    · rw [lk_cons] at h
      split at h
      · rename_i e0
        simp only [Option.some.injEq] at h
        exact .inr ⟨e0.symm, h.symm⟩
      · cases h
  have hmem : ∀ {x}, x ∈ A ++ B → x ∈ A ++ (hd, iRows p) :: B := fun {x} h => by
    rcases List.mem_append.1 h with h | h
    · exact List.mem_append_left _ h
    · exact List.mem_append_right _ (List.mem_cons_of_mem _ h)
  have hnq : ∀ {x : Value × List (List Value)} {g : Nat}, x ∈ A ++ B → x.1.ownBlock = some g → g ≠ q := fun {x g} h hg e => by
    have hh : (hd, iRows p).1.ownBlock = some q := by rw [hv]; rfl
    rw [List.pairwise_append] at hpw
    obtain ⟨_, h2, h3⟩ := hpw
    rw [List.pairwise_cons] at h2
    rw [e] at hg
    rcases List.mem_append.1 h with h | h
    · exact h3 x h _ List.mem_cons_self q hg hh
    · exact h2.1 x h q hh hg
  refine ⟨.tup [], ⟨[], [(0, .fam 3 1 (A ++ B)), (1, .cells 27 [.v (.slice a n c)])], 2⟩, H', ρ, e1, hK _ H' hpq hsort hle hrow, rfl, ?_⟩
  exact
  { os := by rw [e2]; rfl
    tape := by rw [e2]; rfl
    output := by rw [e2]; exact ⟨rfl, Nat.le_add_right _ _⟩
    size := by rw [e2]; exact hsize k sl.toArray os
    frame := fun b hb hn => by
      rw [hw' b hb, if_neg]
      · rfl
      · rintro rfl
        exact hn ⟨0, _, rfl, hown0⟩
    base := Nat.le_refl _
    agree := fun _ _ => ⟨rfl, rfl⟩
    hp := fun b o hb => by
      by_cases h : b = q
      · rw [h] at hb
        rw [h, hw' q hqs, if_pos rfl, ← hH'q]
        exact hb
      · rw [hH'n b h] at hb
        have h2 := hm.hp b o hb
        rw [hw' b (Array.getElem?_eq_some_iff.1 h2).1, if_neg h]
        exact h2
    hle := hle
    hnew := fun b h1 h2 h3 => by
      rw [hH'n b (fun e => by rw [e] at h3; exact h3 ⟨0, _, rfl, hown0⟩)]
      exact h1
    ok := fun j b h => by
      rcases hkey h with ⟨rfl, rfl⟩ | ⟨rfl, rfl⟩
      · refine ⟨Nat.zero_lt_succ _, ⟨fun x hx => ?_, hpw.sublist (List.Sublist.append_left (List.sublist_cons_self _ _) _)⟩, rfl⟩
        obtain ⟨⟨k1, k2⟩, k3⟩ := hfam x (hmem hx)
        refine ⟨⟨k1, ?_⟩, k3⟩
        rcases k2 with k2 | ⟨g, cp, cr, m1, m2, m3, m4⟩
        · exact .inl k2
        · refine .inr ⟨g, cp, cr, m1, m2, ?_, m4⟩
          have hg : g ≠ q := hnq hx (by rw [m1]; rfl)
          rw [hw' g (Array.getElem?_eq_some_iff.1 m3).1, if_neg hg]
          exact m3
      · refine ⟨Nat.lt_succ_self _, ?_, rfl⟩
        show w'.heap[ρ.b 1]? = _
        rw [hw' _ h1s, if_neg (fun e => hq1 e.symm)]
        exact hbc
    own := fun j b g h ho => by
      rcases hkey h with ⟨rfl, rfl⟩ | ⟨rfl, rfl⟩
      · obtain ⟨x, hx, hg⟩ := ho
        have ho2 : Owns ρ 0 (.fam 3 1 (A ++ (hd, iRows p) :: B)) g := ⟨x, hmem hx, hg⟩
        exact ⟨by rw [hH'n g (hnq hx hg)]; exact (hm.own 0 _ g rfl ho2).1, .inr ⟨0, _, rfl, ho2⟩⟩
      · have e : g = ρ.b 1 := ho
        exact ⟨by rw [e, hH'n _ (fun e => hq1 e.symm)]; exact hH1, .inr ⟨1, _, rfl, ho⟩⟩
    disj := fun j j' b b' g h h' ho ho' => by
      rcases hkey h with ⟨rfl, rfl⟩ | ⟨rfl, rfl⟩ <;> rcases hkey h' with ⟨rfl, rfl⟩ | ⟨rfl, rfl⟩
      · rfl
      · obtain ⟨x, hx, hg⟩ := ho
        exact hm.disj 0 1 _ _ g rfl rfl ⟨x, hmem hx, hg⟩ ho'
      · obtain ⟨x, hx, hg⟩ := ho'
        exact hm.disj 1 0 _ _ g rfl rfl ho ⟨x, hmem hx, hg⟩
      · rfl }
end Go.Proofs
end
section
namespace Go.Proofs
open Go.Sy
set_option maxRecDepth 20000
set_option maxHeartbeats 4000000
/-! order.All: parts are taken over, each is sorted in place -/
noncomputable def cxA : Cx := { P := Try.prog, tt := tt, n := 0, wrap := false, base := 0, gf := [27, 66, 67, 68, 72, 74, 75, 79, 81, 82, 83, 86, 87, 88, 90, 92, 93, 94, 98, 99, 100, 101, 104, 105, 106, 120, 129], eqs := [63], xf := [] }
theorem cxA_ok : TOK cxA := ⟨cx_ok.tt, cx_ok.eqs⟩
/-- A family of rows: heads and elements. -/
def famL (hds : List Value) (out : List (List Int)) : List (Value × List (List Value)) := List.zipWith (fun h p => (h, iRows p)) hds out
theorem famL_mem {hds : List Value} {out : List (List Int)} {p : Value × List (List Value)} (h : p ∈ famL hds out) : ∃ (i : Nat) (hd : Value) (q : List Int), hds[i]? = some hd ∧ out[i]? = some q ∧ p = (hd, iRows q) := by
  obtain ⟨i, hi, rfl⟩ := List.getElem_of_mem h
  rw [famL, List.length_zipWith] at hi
  refine ⟨i, hds[i]'(by omega), out[i]'(by omega), List.getElem?_eq_getElem _, List.getElem?_eq_getElem _, ?_⟩
  simp [famL]
def hdOf (cs : List Value) : Value := cs.head?.getD undef
theorem ofG_spec {m : Int} {l : List Edg} (hl : l.length ≤ 1000000) {a : Option Addr} {n c : Nat} {H : Hp} {K : SV → St → Hp → Prop} (ha : RL H a n c l) (hr : rightE m l = true)
    (hK : ∀ a1 n1 c1 pa out hds H', Le H H' → hds.length = out.length → n1 = out.length → RowAt H' (.slice a1 n1 c1) 1 (hds.map fun h => [h]) → AllP m l pa → IsOrd l pa out → out.length = pa.length →
      K (.tup [.v (.slice a1 n1 c1), .v (.int .i64 0)]) ⟨[], [(0, .fam 3 1 (famL hds out))], 1⟩ H') :
    DoesG Try.prog 27 [.v (.int .i64 m), .v (.slice a n c)] [] 0 H K := by
  refine doesG_thaw (args := [.int .i64 m, .slice a n c]) (fun _ => rfl) (of_specX hl ha (K := fun v H' => ∃ a1 n1 c1 pa out ocss, v = .tuple #[.slice a1 n1 c1, .int .i64 0] ∧ RL H' a1 n1 c1 out ∧ RowAt H' (.slice a1 n1 c1) 1 ocss ∧ RX H H' ocss out ∧ TopApart a1 ocss ∧ AllP m l pa ∧ IsOrd l pa out ∧ out.length = pa.length)
    (fun h => by rw [hr] at h; cases h) (fun _ a1 n1 c1 pa out ocss H' _ h1 h2 h3 h4 h5 h6 h7 => ⟨a1, n1, c1, pa, out, ocss, rfl, h1, h2, h3, h4, h5, h6, h7⟩)) ?_
  rintro v H2 hle ⟨a1, n1, c1, pa, out, ocss, rfl, h1, h2, h3, h4, h5, h6, h7⟩
  have hlen : ocss.length = out.length := h3.rc.1
  have hhd : ∀ {i : Nat} {cs : List Value}, ocss[i]? = some cs → cs = [hdOf cs] ∧ ∃ q, out[i]? = some q ∧ ExL H H2 cs q := fun {i cs} hi => by
    have hlt := (List.getElem?_eq_some_iff.1 hi).1
    have hq : out[i]? = some (out[i]'(by omega)) := List.getElem?_eq_getElem _
    have hex := h3.ex i cs _ hi hq
    refine ⟨?_, _, hq, hex⟩
    obtain ⟨g, cap, c', e, _⟩ := hex
    rw [e]; rfl
  have hmap : (ocss.map hdOf).map (fun h => [h]) = ocss := by
    rw [List.map_map]
    conv => rhs; rw [← List.map_id ocss]
    refine List.map_congr_left fun cs hcs => ?_
    obtain ⟨i, hi, rfl⟩ := List.getElem_of_mem hcs
    exact (hhd (List.getElem?_eq_getElem hi)).1.symm
  have hfam : ∀ p ∈ famL (ocss.map hdOf) out, ∃ (i : Nat) (cs : List Value) (q : List Int), ocss[i]? = some cs ∧ out[i]? = some q ∧ p = (hdOf cs, iRows q) ∧ ExL H H2 cs q := fun p hp => by
    obtain ⟨i, hd, q, k1, k2, rfl⟩ := famL_mem hp
    rw [List.getElem?_map] at k1
    cases hi : ocss[i]? with
    | none => rw [hi] at k1; cases k1
    | some cs =>
      rw [hi] at k1
      simp only [Option.map_some, Option.some.injEq] at k1
      obtain ⟨_, q', k3, k4⟩ := hhd hi
      rw [k2] at k3
      simp only [Option.some.injEq] at k3
      subst k3
      exact ⟨i, cs, q, hi, k2, by rw [k1], k4⟩
  have hblk : ∀ {i : Nat} {cs : List Value} {g : Nat}, ocss[i]? = some cs → (hdOf cs).ownBlock = some g → blk cs = some g := fun {i cs g} hi hg => by
    have := (hhd hi).1
    rw [this]
    exact hg
  refine ⟨3, 1, famL (ocss.map hdOf) out, .tup [.v (.slice a1 n1 c1), .v (.int .i64 0)], fun _ => rfl, rfl, fun p hp => ?_, ?_, fun hle2 => ?_⟩
  · obtain ⟨i, cs, q, k1, k2, rfl, g, cap, c', e, k3⟩ := hfam p hp
    refine ⟨⟨g, cap, c', ?_, ?_⟩, fun x hx => iRows_one _ x hx⟩
    · show hdOf cs = .slice (some ⟨g, 0, none⟩) (iRows q).length cap
      rw [e, iRows_len]; rfl
    · show _ ∧ _ ∧ (iRows q).length ≤ cap ∧ _ ∧ _ ∧ c'.toList.take ((iRows q).length * 1) = (iRows q).flatten
      rw [iRows_len]
      exact k3
  · rw [List.pairwise_iff_getElem]
    intro i j hi hj hij g hg hg'
    have hil : i < out.length := by rw [famL, List.length_zipWith] at hi; omega
    have hjl : j < out.length := by rw [famL, List.length_zipWith] at hj; omega
    have ei : (famL (ocss.map hdOf) out)[i].1 = hdOf (ocss[i]'(by omega)) := by simp [famL]
    have ej : (famL (ocss.map hdOf) out)[j].1 = hdOf (ocss[j]'(by omega)) := by simp [famL]
    rw [ei] at hg
    rw [ej] at hg'
    have := h3.eq i j _ _ _ _ g (List.getElem?_eq_getElem (by omega)) (List.getElem?_eq_getElem hil) (List.getElem?_eq_getElem (by omega)) (List.getElem?_eq_getElem hjl) (hblk (List.getElem?_eq_getElem (by omega)) hg) (hblk (List.getElem?_eq_getElem (by omega)) hg')
    have := (List.getElem_inj (isOrd_nodup h6)).1 this
    omega
  · refine hK a1 n1 c1 pa out (ocss.map hdOf) _ hle2 (by rw [List.length_map]; exact hlen) h1.n_eq ?_ h5 h6 h7
    rw [hmap]
    obtain ⟨a', cap, e, k1, k2, k3⟩ := h2
    refine ⟨a', cap, e, k1, k2, ?_⟩
    rcases k3 with k3 | ⟨ad, k3, k4, cc, T, fr, k5, k6⟩
    · exact .inl k3
    · refine .inr ⟨ad, k3, k4, cc, T, fr, ?_, k6⟩
      rw [cutH_out]
      · exact k5
      · intro p hp hg
        obtain ⟨i, cs, q, m1, m2, rfl, _⟩ := hfam p hp
        simp only [Value.slice.injEq] at e
        exact h4 i cs ad.block ad m1 (hblk m1 hg) (e.1.trans k3) rfl
end Go.Proofs
end
section
namespace Go.Proofs
open Go.Sy
set_option maxRecDepth 20000
set_option maxHeartbeats 4000000
theorem sortF_spec {ranks p : List Int} {hd : Value} {F B : List (Value × List (List Value))} (hF : F = (hd, iRows p) :: B) (hne : p ≠ []) (hp : ∀ x ∈ p, 0 ≤ x ∧ x < ranks.length) (hlen : p.length ≤ 1000000) (hr : ∀ z ∈ ranks, 0 ≤ z ∧ z ≤ 1000000)
    (hdf : ∀ x ∈ p, ∀ y ∈ p, ig ranks x = ig ranks y → x = y) {a : Option Addr} {n c : Nat} {H : Hp} {K : SV → St → Hp → Prop} (ha : RL H a n c ranks)
    (hK : ∀ H', Le H H' → RowAt H' hd 1 (iRows (sortR ranks p)) → K (.tup []) ⟨[], [(0, .fam 3 1 B), (1, .cells 27 [.v (.slice a n c)])], 2⟩ H') :
    DoesG Try.prog 87 [.v hd, .fn 88 [.ptr 1 0]] [(0, .fam 3 1 F), (1, .cells 27 [.v (.slice a n c)])] 2 H K := by
  subst hF
  exact sortP_spec (A := []) hne hp hlen hr hdf ha fun q H' h1 h2 h3 h4 => hK H' h3 (sortR_uniq hdf h1 h2 ▸ h4)
/-- What a part has. -/
theorem part_in {m : Int} {l : List Edg} {pa out : List (List Int)} (hP : AllP m l pa) (ho : IsOrd l pa out) {p : List Int} (hp : p ∈ out) : p ≠ [] ∧ (∀ x ∈ p, nodeI m x = true) ∧ p.Nodup := by
  have h1 := hP.tp.ok p (isOrd_mem ho p hp)
  refine ⟨h1.ne, fun x hx => (ord_flat hP ho).2 x (List.mem_flatten.2 ⟨p, hp, hx⟩), ?_⟩
  exact h1.str.imp fun h e => by rw [e] at h; exact absurd h (Int.lt_irrefl _)
theorem ranks_bd {m : Int} (h0 : 0 ≤ m) (hm : m ≤ 1000) {l : List Edg} {f : List Int} (hf : ∀ x ∈ f, nodeI m x = true) : ∀ z ∈ ranks m l f, 0 ≤ z ∧ z ≤ 1000000 := fun z hz => by
  obtain ⟨i, hi, rfl⟩ := List.getElem_of_mem hz
  have hi2 := hi
  rw [ranks_len] at hi2
  have := rank_ok h0 (l := l) hf (x := (i : Int)) (decide_eq_true (by omega))
  rw [ig, Int.toNat_natCast, List.getElem?_eq_getElem hi] at this
  simp only [Option.getD_some] at this
  omega
theorem all_len {r : List Int} {m : Int} {l : List Edg} {pa out : List (List Int)} (hP : AllP m l pa) (ho : IsOrd l pa out) (i : Nat) : (allL r (out.take i)).length ≤ m.toNat := by
  rw [(allL_perm r _).length_eq]
  obtain ⟨h1, h2⟩ := ord_flat hP ho
  refine Nat.le_trans ?_ (nodes_len h1 h2)
  have := congrArg List.length (congrArg List.flatten (List.take_append_drop i out))
  rw [List.flatten_append, List.length_append] at this
  omega
theorem rowAt_le {H : Hp} {a : Option Addr} {n c sz : Nat} {xs : List (List Value)} (h : RowAt H (.slice a n c) sz xs) : n ≤ 9223372036854775807 := by
  obtain ⟨a', cap, e, ⟨h1, h2⟩, _⟩ := h
  simp only [Value.slice.injEq] at e
  omega
theorem rowAt_hd {H H' : Hp} {a : Option Addr} {n c : Nat} {hds : List Value} (h : RowAt H (.slice a n c) 1 (hds.map fun h => [h])) (hle : Le H H') {i : Nat} {hd : Value} (hi : hds[i]? = some hd) {P : Prop} (k : ∀ ad, a = some ad → ElemH H' ad (i : Int) 1 [hd] → P) : P := by
  obtain ⟨ad, h1, h2, h3, cc, T, fr, h4, h5⟩ := rowAt_elem h (i := i) (cs := [hd]) (by rw [List.getElem?_map, hi]; rfl)
  exact k ad h1 ⟨h2, h3, cc, T, fr, hle _ _ h4, h5⟩
theorem famL_drop {hds : List Value} {out : List (List Int)} {i : Nat} (h : i < hds.length) (h' : i < out.length) : famL (hds.drop i) (out.drop i) = (hds[i], iRows out[i]) :: famL (hds.drop (i + 1)) (out.drop (i + 1)) := by
  rw [List.drop_eq_getElem_cons h, List.drop_eq_getElem_cons h']; rfl
theorem all_spec {m : Int} {l : List Edg} {f : List Int} (hl : l.length ≤ 1000000) (hf : f.length ≤ 1000000) {a a3 : Option Addr} {n c n3 c3 : Nat} {H : Hp} {K : Value → Hp → Prop} (ha : RL H a n c l) (hb : RL H a3 n3 c3 f)
    (hbad : errE m l f ≠ 0 → K (.tuple #[.slice none 0 0, .int .i64 (errE m l f)]) H)
    (hK : errE m l f = 0 → ∀ a1 n1 c1 pa out H', LeN 3 1 (iRows (allL (ranks m l f) out)) H (.slice a1 n1 c1) H' → AllP m l pa → IsOrd l pa out → out.length = pa.length → RL H' a1 n1 c1 (allL (ranks m l f) out) → K (.tuple #[.slice a1 n1 c1, .int .i64 0]) H') :
    Does Try.prog 50 [.int .i64 m, .slice a n c, .slice a3 n3 c3] H K := by
  refine spec_of cxA_ok cx_mix rfl Try.func50 Try.call50 Try.ntmps50 Try.results50 rfl rfl ?_
  refine ranks_spec hl hf ha hb (fun he => ?_) (fun he a1 n1 c1 H1 hle1 hr1 => ?_)
  · refine ⟨fun h => ?_, fun h => ?_⟩
    · exact hbad (nt h)
    · exact absurd (nf h) he
  · have hK := hK he
    obtain ⟨h1, hf2⟩ := err_ok he
    obtain ⟨hm1, hm2, hl2⟩ := right_ok h1
    have h0 : 0 ≤ m := by omega
    refine ⟨fun h => by simp at h, fun _ => ?_⟩
    refine ⟨[], rfl, ofG_spec hl (ha.up hle1) h1 fun a2 n2 c2 pa out hds H2 hle2 hlen hn2 htop hP ho hol => ?_⟩
    have hmx2 := rowAt_le htop
    obtain ⟨r, hr⟩ : ∃ r, r = ranks m l f := ⟨_, rfl⟩
    have hrl := ranks_len m l f
    have hrb := ranks_bd h0 (by omega) (l := l) hf2
    have hri := fun x y hx hy => rank_inj h0 (l := l) hf2 (x := x) (y := y) hx hy
    rw [← hr] at hr1 hrl hrb hri hK
    refine ⟨Nat, fun i => ⟨[(8, .ptr 0 0), (9, .v (.int .i64 0)), (11, .own 2), (30, .v (.slice a2 n2 c2)), (31, .v (.int .i64 n2)), (32, .v (.int .i64 i))],
        [(0, .cells 27 [.v (.slice a1 n1 c1)]), (1, .fam 3 1 (famL (hds.drop i) (out.drop i))), (2, .row 3 1 (iRows (allL r (out.take i))))], 3⟩,
      fun i H' => Le H2 H' ∧ i ≤ out.length, fun i => out.length - i, ⟨0, [(0, 0), (1, 1)], ?_, Le.refl _, Nat.zero_le _⟩, ?_⟩
    · (repeat' (first | exact trivial | refine ⟨?_, ?_⟩ | exact rfl | assumption))
    rintro i H3 hle3 ⟨_, hi⟩
    have hal := all_len (r := r) hP ho i
    have heS : (iRows (allL r (out.take i))).length = (allL r (out.take i)).length := List.length_map _
    refine ⟨fun h => ?_, fun h => ?_⟩
    · have hlt : i < out.length := by have := dt h; omega
      have hlt2 : i < hds.length := by omega
      refine rowAt_hd htop hle3 (List.getElem?_eq_getElem hlt2) fun ad q1 hh => ?_
      refine ⟨ad, ⟨by omega, by omega, q1⟩, ?_⟩
      refine ⟨_, hh, ?_⟩
      obtain ⟨p, hpe⟩ : ∃ p, p = out[i] := ⟨_, rfl⟩
      have hpm : p ∈ out := by rw [hpe]; exact List.getElem_mem hlt
      obtain ⟨p1, p2, p3⟩ := part_in hP ho hpm
      have hF := famL_drop hlt2 hlt
      rw [← hpe] at hF
      have hpl := nodes_len p3 p2
      refine ⟨[1, 0], rfl, sortF_spec hF p1 (fun x hx => by have := dt (p2 x hx); omega) (by omega) hrb (fun x hx y hy => hri x y (p2 x hx) (p2 y hy)) (hr1.up (hle2.trans hle3)) fun H4 hle4 hrow => ?_⟩
      have hsl := sortR_len r p
      have heP : (iRows (sortR r p)).length = (sortR r p).length := List.length_map _
      have hs : allL r (out.take (i + 1)) = allL r (out.take i) ++ sortR r p := by rw [List.take_succ_eq_append_getElem hlt, ← hpe, allL_snoc]
      refine ⟨_, hrow, ?_⟩
      refine ⟨⟨by show ((iRows _).length + (iRows _).length) * 8 ≤ 140737488355328; omega, by show (iRows _).length + (iRows _).length ≤ 9223372036854775807; omega⟩, ?_⟩
      have e1 : iRows (allL r (out.take i)) ++ iRows (sortR r p) = iRows (allL r (out.take (i + 1))) := by rw [hs]; simp
      refine ⟨⟨by omega, by omega⟩, i + 1, [(0, 0), (1, 1), (2, 3)], ?_, ⟨hle3.trans hle4, hlt⟩, by dsimp only; omega⟩
      (repeat' (first | exact trivial | refine ⟨?_, ?_⟩ | exact rfl | assumption))
    · have hil : i = out.length := by have := df h; omega
      intro x H4 hle4 hx
      rw [hil, List.take_length] at hx hle4
      obtain ⟨a4, n4, c4, rfl, hr4⟩ := rI_all hx (fun x hx => by
        have := dt ((ord_flat hP ho).2 x ((allL_perm r out).mem_iff.1 hx))
        exact ⟨by omega, by omega⟩)
      exact hK _ _ _ pa out _ (LeN.base ((hle1.trans hle2).trans hle3) hle4) hP ho hol hr4
end Go.Proofs
end
section
namespace Go.Proofs
open Go.Sy
set_option maxRecDepth 20000
set_option maxHeartbeats 4000000
theorem name_k {α : Type} {P : Prop} (x : α) (k : ∀ z, z = x → P) : P := k x rfl
theorem kthR_take {r p : List Int} {k j : Nat} (h : j < p.length) : kthR r (p.take (j + 1)) k = kthR r (p.take j) k ++ (if ig r p[j] = (k : Int) then [p[j]] else []) := by
  rw [kthR, List.take_succ_eq_append_getElem h, List.filter_append, ← kthR]
  congr 1
  by_cases e : ig r p[j] = (k : Int)
  · rw [if_pos e]; simp [e]
  · rw [if_neg e]; simp [e]
theorem byR_len {r p : List Int} (h : p.Nodup) (k : Nat) : (byR r p k).length ≤ p.length := nodup_sub (byR_nodup h k) fun x hx => ((byR_mem r p k x).1 hx).1
theorem rall_spec {m : Int} (h0 : 0 ≤ m) (hm : m ≤ 1000) {l : List Edg} (hl : l.length ≤ 100000) {pa : List (List Int)} (hP : AllP m l pa) {f : List Int} (hf : ∀ x ∈ f, nodeI m x = true) {a a3 : Option Addr} {n c n3 c3 : Nat} {H : Hp} {K : Value → Hp → Prop} (ha : RL H a n c l) (hb : RL H a3 n3 c3 f)
    (hK : ∀ a1 n1 c1 out H', Le H H' → IsOrd l pa out → out.length = pa.length → RL H' a1 n1 c1 (allL (ranks m l f) out) → K (.slice a1 n1 c1) H') : Does Try.prog 54 [.int .i64 m, .slice a n c, .slice a3 n3 c3] H K := by
  have hrb := ranks_bd h0 hm (l := l) hf
  have hri := fun x y hx hy => rank_inj h0 (l := l) hf (x := x) (y := y) hx hy
  have hro := fun x hx => rank_ok h0 (l := l) hf (x := x) hx
  have hrl := ranks_len m l f
  refine spec_of cxV_ok cx_mix rfl Try.func54 Try.call54 Try.ntmps54 Try.results54 rfl rfl ?_
  refine rranks_spec h0 hm hf ha hb fun a1 n1 c1 H1 hle1 hr1 => ?_
  obtain ⟨r, hr⟩ : ∃ r, r = ranks m l f := ⟨_, rfl⟩
  rw [← hr] at hr1 hrl hrb hri hro hK
  refine rof_spec h0 hm hl hP (ha.up hle1) fun a2 n2 c2 out H2 hle2 hr2 ho hol => ?_
  have hmx2 := hr2.le
  have hn2 := hr2.n_eq
  refine ⟨Nat, fun i => ⟨[(0, .v (.int .i64 m)), (7, .v (.slice a1 n1 c1)), (8, .own 0), (20, .v (.slice a2 n2 c2)), (21, .v (.int .i64 n2)), (22, .v (.int .i64 i))], [(0, .row 3 1 (iRows (allL r (out.take i))))], 1⟩,
    fun i H' => Le H2 H' ∧ i ≤ out.length, fun i => out.length - i, ⟨0, [], ?_, Le.refl _, Nat.zero_le _⟩, ?_⟩
  · have e0 : iRows (allL r (out.take 0)) = [] := rfl
    (repeat' (first | exact trivial | refine ⟨?_, ?_⟩ | exact rfl | assumption))
  rintro i H3 hle3 ⟨_, hi⟩
  have hal := all_len (r := r) hP ho i
  refine ⟨fun h => ?_, fun h => ?_⟩
  · have hlt : i < out.length := by have := dt h; omega
    refine list_elem_k (hr2.up hle3) (List.getElem?_eq_getElem hlt) fun ad a4 n4 c4 q1 hh hr4 => ?_
    refine ⟨ad, ⟨by omega, by omega, q1⟩, ?_⟩
    refine ⟨_, hh, ?_⟩
    obtain ⟨p, hpe⟩ : ∃ p, p = out[i] := ⟨_, rfl⟩
    have hpm : p ∈ out := by rw [hpe]; exact List.getElem_mem hlt
    obtain ⟨p1, p2, p3⟩ := part_in hP ho hpm
    have hpl := nodes_len p3 p2
    have hs : allL r (out.take (i + 1)) = allL r (out.take i) ++ sortR r p := by rw [List.take_succ_eq_append_getElem hlt, ← hpe, allL_snoc]
    rw [← hpe] at hr4
    have hn4 := hr4.n_eq
    obtain ⟨A, hA⟩ : ∃ A, A = allL r (out.take i) := ⟨_, rfl⟩
    rw [← hA] at hs hal ⊢
    refine ⟨Nat, fun k => ⟨[(0, .v (.int .i64 m)), (7, .v (.slice a1 n1 c1)), (8, .own 0), (10, .v (.slice a4 n4 c4)), (11, .v (.int .i64 k)), (20, .v (.slice a2 n2 c2)), (21, .v (.int .i64 n2)), (22, .v (.int .i64 i))], [(0, .row 3 1 (iRows (A ++ byR r p k)))], 1⟩,
      fun k H' => Le H3 H' ∧ k ≤ m.toNat, fun k => m.toNat - k, ⟨0, [(0, 0)], ?_, Le.refl _, Nat.zero_le _⟩, ?_⟩
    · have e0 : iRows A = iRows (A ++ byR r p 0) := by simp [byR]
      (repeat' (first | exact trivial | refine ⟨?_, ?_⟩ | exact rfl | assumption))
    rintro k H4 hle4 ⟨_, hk⟩
    have hbl := byR_len (r := r) p3 k
    refine ⟨fun h => ?_, fun h => ?_⟩
    · have hkm : k < m.toNat := by have := dt h; omega
      refine ⟨Nat, fun j => ⟨[(0, .v (.int .i64 m)), (7, .v (.slice a1 n1 c1)), (8, .own 0), (10, .v (.slice a4 n4 c4)), (11, .v (.int .i64 k)), (20, .v (.slice a2 n2 c2)), (21, .v (.int .i64 n2)), (22, .v (.int .i64 i)), (31, .v (.slice a4 n4 c4)), (32, .v (.int .i64 n4)), (33, .v (.int .i64 j))],
          [(0, .row 3 1 (iRows (A ++ byR r p k ++ kthR r (p.take j) k)))], 1⟩,
        fun j H' => Le H4 H' ∧ j ≤ p.length, fun j => p.length - j, ⟨0, [(0, 0)], ?_, Le.refl _, Nat.zero_le _⟩, ?_⟩
      · have e0 : iRows (A ++ byR r p k) = iRows (A ++ byR r p k ++ kthR r (p.take 0) k) := by simp [kthR]
        (repeat' (first | exact trivial | refine ⟨?_, ?_⟩ | exact rfl | assumption))
      rintro j H5 hle5 ⟨_, hj⟩
      have hkl : (kthR r (p.take j) k).length ≤ p.length := by
        have h1 := List.length_filter_le (fun a => decide (ig r a = (k : Int))) (p.take j)
        have h2 := List.length_take_le j p
        have h3 := List.length_take (i := j) (l := p)
        rw [kthR]; omega
      refine ⟨fun h => ?_, fun h => ?_⟩
      · have hjl : j < p.length := by have := dt h; omega
        have hz0 := p2 _ (List.getElem_mem hjl)
        have hs0 := kthR_take (r := r) (k := k) hjl
        refine name_k p[j] fun z hze => ?_
        rw [← hze] at hz0 hs0
        have hz2 := dt hz0
        have hgz : p[j]? = some z := by rw [hze]; exact List.getElem?_eq_getElem hjl
        refine int_elem_k ((hr4.up hle4).up hle5) hgz fun ad1 q1 hh1 => ?_
        refine ⟨ad1, ⟨by omega, by omega, q1⟩, ?_⟩
        refine ⟨_, hh1, ?_⟩
        have hn1 := hr1.n_eq
        refine int_at_k ((((hr1.up hle2).up hle3).up hle4).up hle5) hz2.1 (by omega) fun ad2 q2 hh2 => ?_
        refine ⟨ad2, ⟨by omega, by omega, q2⟩, ?_⟩
        refine ⟨_, hh2, ?_⟩
        have lA : (A ++ byR r p k).length = A.length + (byR r p k).length := List.length_append
        have lB : (A ++ byR r p k ++ kthR r (p.take j) k).length = (A ++ byR r p k).length + (kthR r (p.take j) k).length := List.length_append
        refine ⟨fun h => ?_, fun h => ?_⟩
        · have hyes : ig r z = (k : Int) := dt h
          rw [if_pos hyes] at hs0
          refine ⟨⟨by show ((iRows _).length + 1) * 8 ≤ 140737488355328; rw [iRows_ln]; omega, by show (iRows _).length + 1 ≤ 9223372036854775807; rw [iRows_ln]; omega⟩, ?_⟩
          have e1 : iRows (A ++ byR r p k ++ kthR r (p.take j) k) ++ [[Value.int .i64 z]] = iRows (A ++ byR r p k ++ kthR r (p.take (j + 1)) k) := by rw [hs0]; simp
          refine ⟨⟨by omega, by omega⟩, j + 1, [(0, 2)], ?_, ⟨hle5, hjl⟩, by dsimp only; omega⟩
          (repeat' (first | exact trivial | refine ⟨?_, ?_⟩ | exact rfl | assumption))
        · have hno : ¬ ig r z = (k : Int) := df h
          rw [if_neg hno, List.append_nil] at hs0
          have e1 : iRows (A ++ byR r p k ++ kthR r (p.take j) k) = iRows (A ++ byR r p k ++ kthR r (p.take (j + 1)) k) := by rw [hs0]
          refine ⟨⟨by omega, by omega⟩, j + 1, [(0, 0)], ?_, ⟨hle5, hjl⟩, by dsimp only; omega⟩
          (repeat' (first | exact trivial | refine ⟨?_, ?_⟩ | exact rfl | assumption))
      · have hjl : j = p.length := by have := df h; omega
        have hpt : p.take j = p := by rw [hjl, List.take_length]
        have e1 : iRows (A ++ byR r p k ++ kthR r (p.take j) k) = iRows (A ++ byR r p (k + 1)) := by rw [hpt, byR_succ, List.append_assoc]
        refine ⟨⟨by omega, by omega⟩, k + 1, [(0, 0)], ?_, ⟨hle4.trans hle5, hkm⟩, by dsimp only; omega⟩
        (repeat' (first | exact trivial | refine ⟨?_, ?_⟩ | exact rfl | assumption))
    · have hkm : k = m.toNat := by have := df h; omega
      have hbe : byR r p m.toNat = sortR r p := byR_eq p3 (fun x hx y hy => hri x y (p2 x hx) (p2 y hy)) (fun x hx => by have := hro x (p2 x hx); omega)
      have e1 : iRows (A ++ byR r p k) = iRows (allL r (out.take (i + 1))) := by rw [hkm, hbe, hs]
      refine ⟨⟨by omega, by omega⟩, i + 1, [(0, 0)], ?_, ⟨hle3.trans hle4, hlt⟩, by dsimp only; omega⟩
      (repeat' (first | exact trivial | refine ⟨?_, ?_⟩ | exact rfl | assumption))
  · have hil : i = out.length := by have := df h; omega
    intro x H4 hle4 hx
    rw [hil, List.take_length] at hx
    obtain ⟨a4, n4, c4, rfl, hr4⟩ := rI_all hx (fun x hx => by
      have := dt ((ord_flat hP ho).2 x ((allL_perm r out).mem_iff.1 hx))
      exact ⟨by omega, by omega⟩)
    exact hK _ _ _ out _ (((hle1.trans hle2).trans hle3).trans hle4.le) ho hol hr4
end Go.Proofs
end
section
namespace Go.Proofs
open Go.Sy
set_option maxRecDepth 20000
theorem isE_all {m : Int} (h0 : 0 ≤ m) {p : List Int} (h1 : p.length = m.toNat) (h2 : ∀ x, nodeI m x = true → x ∈ p) : isE m p = true := by
  rw [isE, Bool.and_eq_true, decide_eq_true_eq, decide_eq_true_eq]
  exact ⟨fun i hi => h2 i (decide_eq_true (by omega)), by omega⟩
theorem ord_all {l : List Edg} {pa out : List (List Int)} (ho : IsOrd l pa out) (hlen : out.length = pa.length) : ∀ p ∈ pa, p ∈ out := fun p hp => by
  by_cases hpo : p ∈ out
  · exact hpo
  · exfalso
    have := nodup_sub (l := p :: out) (l' := pa) (List.nodup_cons.2 ⟨hpo, isOrd_nodup ho⟩) (fun q hq => by
      rcases List.mem_cons.1 hq with rfl | hq
      · exact hp
      · exact isOrd_mem ho q hq)
    rw [List.length_cons] at this
    omega
theorem all_mem {r : List Int} {m : Int} {l : List Edg} {pa out : List (List Int)} (hP : AllP m l pa) (ho : IsOrd l pa out) (hlen : out.length = pa.length) (x : Int) : x ∈ allL r out ↔ nodeI m x = true := by
  rw [(allL_perm r out).mem_iff]
  refine ⟨(ord_flat hP ho).2 x, fun h => ?_⟩
  obtain ⟨p, hp, hx⟩ := List.mem_flatten.1 (hP.all x h)
  exact List.mem_flatten.2 ⟨p, ord_all ho hlen p hp, hx⟩
theorem all_nd {r : List Int} {m : Int} {l : List Edg} {pa out : List (List Int)} (hP : AllP m l pa) (ho : IsOrd l pa out) : (allL r out).Nodup := (allL_perm r out).nodup_iff.2 (ord_flat hP ho).1
theorem all_ln {r : List Int} {m : Int} {l : List Edg} {pa out : List (List Int)} (hP : AllP m l pa) (ho : IsOrd l pa out) (hlen : out.length = pa.length) : (allL r out).length = m.toNat := by
  have h1 := nodes_len (all_nd (r := r) hP ho) (fun x hx => (all_mem hP ho hlen x).1 hx)
  have h2 := nodup_sub (l := nodesL m.toNat) (l' := allL r out) ((nodesL_strict _).imp fun h e => by rw [e] at h; exact absurd h (Int.lt_irrefl _)) (fun x hx => (all_mem hP ho hlen x).2 (nodesL_mem.1 hx))
  rw [nodesL_len] at h2
  omega
end Go.Proofs
end
section
namespace Go.Proofs
open Go.Sy
set_option maxRecDepth 20000
set_option maxHeartbeats 4000000
theorem rowners_spec {m w : Int} (hm1 : 1 ≤ m) (hm2 : m ≤ 1000) (hw : 1 ≤ w ∧ w ≤ 64) {l : List Edg} (hl : l.length ≤ 100000) {pa : List (List Int)} (hP : AllP m l pa) {a : Option Addr} {n c : Nat} {H : Hp} {K : Value → Hp → Prop} (ha : RL H a n c l)
    (hK : ∀ a1 n1 c1 out H', Le H H' → IsOrd l pa out → out.length = pa.length → RL H' a1 n1 c1 (ownK m w out out.length) → K (.slice a1 n1 c1) H') :
    Does Try.prog 62 [.int .i64 m, .slice a n c, .int .i64 w] H K := by
  refine spec_of cxV_ok cx_mix rfl Try.func62 Try.call62 Try.ntmps62 Try.results62 rfl rfl ?_
  refine ⟨⟨rfl, by omega, by show m * 8 ≤ _; omega, by omega⟩, ?_⟩
  refine rof_spec (by omega) hm2 hl hP ha fun a3 n3 c3 out H1 hle1 hb ho hlen => ?_
  have hn3 := hb.n_eq
  have hmx3 := hb.le
  have hN : ((m.toNat : Nat) : Int) = m := toNat_nat m (by omega)
  have hof := ord_flat hP ho
  have hon : ∀ x ∈ out.flatten, nodeI m.toNat x = true := by rw [hN]; exact hof.2
  have hfl : out.flatten.length ≤ 1000 := by
    have := nodes_len hof.1 hof.2
    omega
  refine ⟨Nat × List Int, fun q => ⟨[(0, .v (.int .i64 m)), (2, .v (.int .i64 w)), (7, .own 0), (8, .v (.int .i64 (aheadK out q.1))), (17, .v (.slice a3 n3 c3)), (18, .v (.int .i64 n3)), (19, .v (.int .i64 q.1))], [(0, .row 3 1 (iRows q.2))], 1⟩,
    fun q H' => H' = H1 ∧ q.1 ≤ out.length ∧ q.2 = ownK m w out q.1, fun q => out.length - q.1, ⟨(0, List.replicate m.toNat 0), [(0, 0)], ?_, rfl, Nat.zero_le _, rfl⟩, ?_⟩
  · have e1 := iRows_rep m.toNat
    have e2 : SV.v (.int .i64 0) = SV.v (.int .i64 ((aheadK out 0 : Nat) : Int)) := by simp [aheadK]
    (repeat' (first | exact trivial | refine ⟨?_, ?_⟩ | exact rfl | assumption))
  rintro ⟨i, R⟩ H2 _ ⟨rfl, hi, hR⟩
  dsimp only at hi hR
  have hlR : R.length = m.toNat := by rw [hR, ownK_len]
  have hah := aheadK_le out i
  have hov := own_val hm1 hw.1 hw.2 (k := aheadK out i) (by omega)
  refine ⟨fun h => ?_, fun h => ?_⟩
  · have hlt : i < out.length := by have := dt h; dsimp only at this; omega
    have hpi : out[i]? = some out[i] := List.getElem?_eq_getElem hlt
    refine list_elem_k hb hpi fun ad a1 n1 c1 q1 hh hr1 => ?_
    have hn1 := hr1.n_eq
    have hmx1 := hr1.le
    have hpn : ∀ x ∈ out[i], nodeI m.toNat x = true := fun x hx => hon x (List.mem_flatten.2 ⟨_, List.getElem_mem hlt, hx⟩)
    have hah2 := aheadK_snoc hpi
    have hah3 := aheadK_le out (i + 1)
    refine ⟨ad, ⟨by dsimp only; omega, by dsimp only; omega, q1⟩, ?_⟩
    refine ⟨_, hh, ?_⟩
    refine ⟨Nat × List Int, fun q => ⟨[(0, .v (.int .i64 m)), (2, .v (.int .i64 w)), (7, .own 0), (8, .v (.int .i64 (aheadK out i))), (10, .v (.slice a1 n1 c1)), (17, .v (.slice a3 n3 c3)), (18, .v (.int .i64 n3)), (19, .v (.int .i64 i)), (23, .v (.slice a1 n1 c1)), (24, .v (.int .i64 n1)), (25, .v (.int .i64 q.1))], [(0, .row 3 1 (iRows q.2))], 1⟩,
      fun q H' => H' = H2 ∧ q.1 ≤ out[i].length ∧ q.2 = setAll R (out[i].take q.1) ((w * (aheadK out i : Int)).tdiv m), fun q => out[i].length - q.1, ⟨(0, R), [(0, 0)], ?_, rfl, Nat.zero_le _, rfl⟩, ?_⟩
    · (repeat' (first | exact trivial | refine ⟨?_, ?_⟩ | exact rfl | assumption))
    rintro ⟨j, R2⟩ H3 _ ⟨rfl, hj, hR2⟩
    dsimp only at hj hR2
    have hlR2 : R2.length = m.toNat := by rw [hR2, setAll_len, hlR]
    refine ⟨fun h => ?_, fun h => ?_⟩
    · have hltj : j < out[i].length := by have := dt h; dsimp only at this; omega
      have hv := dt (hpn _ (List.getElem_mem hltj))
      refine int_elem_k hr1 (List.getElem?_eq_getElem hltj) fun ad2 q2 hh2 => ?_
      refine ⟨ad2, ⟨by dsimp only; omega, by dsimp only; omega, q2⟩, ?_⟩
      refine ⟨_, hh2, ?_⟩
      refine ⟨⟨by omega, by omega⟩, ?_⟩
      refine ⟨by omega, ?_⟩
      refine ⟨⟨hov.2.2.1, hov.2.2.2⟩, ?_⟩
      refine ⟨⟨by (try dsimp only); omega, by (try dsimp only); rw [iRows_len]; (try dsimp only); omega⟩, ?_⟩
      refine ⟨_, iRows_at (L := R2) hv.1 (by omega), ?_⟩
      have e1 : (iRows R2).set out[i][j].toNat [.int .i64 ((w * (aheadK out i : Int)).tdiv m)] = iRows (R2.set out[i][j].toNat ((w * (aheadK out i : Int)).tdiv m)) := iRows_set _ _ _
      refine ⟨⟨by (try dsimp only); omega, by (try dsimp only); omega⟩, (j + 1, R2.set out[i][j].toNat ((w * (aheadK out i : Int)).tdiv m)), [(0, 0)], ?_, ⟨rfl, by dsimp only; omega, ?_⟩, by dsimp only; omega⟩
      · (repeat' (first | exact trivial | refine ⟨?_, ?_⟩ | exact rfl | assumption))
      · dsimp only
        rw [hR2, setAll, setAll, take_step _ _ (List.getElem?_eq_getElem hltj)]
    · have hjl : j = out[i].length := by have := df h; dsimp only at this; omega
      rw [hjl, List.take_length] at hR2
      have e11 : SV.v (.int .i64 ((aheadK out i : Int) + (n1 : Int))) = SV.v (.int .i64 ((aheadK out (i + 1) : Nat) : Int)) := by rw [hah2, hn1]; rfl
      refine ⟨⟨by (try dsimp only); omega, by (try dsimp only); omega⟩, ?_⟩
      refine ⟨⟨by (try dsimp only); omega, by (try dsimp only); omega⟩, (i + 1, R2), [(0, 0)], ?_, ⟨rfl, by dsimp only; omega, ?_⟩, by dsimp only; omega⟩
      · (repeat' (first | exact trivial | refine ⟨?_, ?_⟩ | exact rfl | assumption))
      · dsimp only
        rw [ownK, hpi, Option.getD_some, ← hR, hR2]
  · have hil : i = out.length := by have := df h; dsimp only at this; omega
    rw [hil] at hR
    intro y H4 hle4 hy
    have hin : ∀ z ∈ R, inI z := by rw [hR]; exact ownK_in hm1 hw.1 hw.2 hfl _
    obtain ⟨a1, n1, c1, rfl, hr⟩ := rI_all hy hin
    rw [hR] at hr
    exact hK _ _ _ out _ (hle1.trans hle4.le) ho hlen hr
end Go.Proofs
end
section
namespace Go.Proofs
open Go.Sy Go.Sort Go.Shelf
set_option maxRecDepth 20000
/-! slices.Reverse, in place -/
theorem rev_spec {l : List Int} (hl : l.length ≤ 1000000) {H : Hp} {K : SV → St → Hp → Prop}
    (hK : K (.tup []) ⟨[], [(0, .row 3 1 (iRows l.reverse)), (0, .row 3 1 (iRows l))], 1⟩ H) : DoesG Try.prog 92 [.own 0] [(0, .row 3 1 (iRows l))] 1 H K := by
  refine doesG_turn (e := 3) (sz := 1) (xs := iRows l) (ys := iRows l.reverse) Try.call92 rfl (by rw [List.length_map, List.length_map, List.length_reverse]) (fun x hx => iRows_one l.reverse x hx) (fun w ρ hm => ?_) hK
  have hbox := (hm.ok 0 (.row 3 1 (iRows l)) rfl).2.1
  obtain ⟨⟨hfl, hv⟩, hall, hvb⟩ := hbox
  rw [List.length_map] at hv
  rcases hv with ⟨hv, h0⟩ | ⟨q, cap, cur, hv, _, hcell, hcap, hmax, hsz, hcur⟩
  · have hnil : l = [] := List.eq_nil_of_length_eq_zero h0
    have hh := Try.slices_Reverse_int_empty none 0 w
    show Calls Try.prog 92 #[ρ.val 0] w _
    rw [hv]
    refine hh.mono fun ev w' ⟨e1, e2⟩ => ?_
    rw [e2]
    refine ⟨e1, rfl, rfl, OD.refl _, Nat.le_refl _, fun _ _ _ => rfl, ?_⟩
    rw [hnil]
    exact ⟨by simp, .inl ⟨rfl, by simp⟩⟩
  · have hqs : q < w.heap.size := (Array.getElem?_eq_some_iff.1 hcell).1
    rw [Nat.mul_one] at hsz hcur
    rw [iRows_flat] at hcur
    show Calls Try.prog 92 #[ρ.val 0] w _
    have hlk : l.length ≤ cur.size := by rw [hsz]; exact hcap
    have hc : ∀ j, j < l.length → w.cell? ⟨q, 0 + j, none⟩ = some (.int .i64 (l.getD j 0)) := fun j hj => by
      have e1 : cur.toList[j]? = some (.int .i64 (l.getD j 0)) := by
        rw [← List.getElem?_take_of_lt hj, hcur, List.getElem?_map, List.getElem?_eq_getElem hj, List.getD_eq_getElem?_getD, List.getElem?_eq_getElem hj]
        rfl
      rw [Nat.zero_add]
      simp only [World.cell?, hcell]
      rw [← Array.getElem?_toList]
      exact e1
    have hf : ∀ j, j < l.length → w.frozen? ⟨q, 0 + j, none⟩ = false := fun j _ => by
      simp only [World.frozen?, hcell]
      simp
    have hmain := Try.slices_Reverse_int_cells q 0 l.length cap l w (Nat.le_refl _) (by omega) hc hf
    rw [hv]
    refine hmain.mono fun ev w' ⟨e1, n, e2⟩ => ?_
    have hrl : ((l.take l.length).reverse.map (Value.int .i64)).length = l.length := by simp
    obtain ⟨c', k1, k2, k3, k4, k5, k6, k7⟩ := setCells_heap q ((l.take l.length).reverse.map (Value.int .i64)) 0 (w.drewN n) cur hcell (by rw [hrl]; omega)
    rw [← e2] at k1 k3 k4 k5 k6 k7
    rw [hrl, List.take_length] at k2
    have hsz' : c'.size = cur.size := by
      have := congrArg List.length k2
      simp only [Array.length_toList, List.length_append, List.length_drop, List.length_map, List.length_reverse, List.take_zero, List.length_nil] at this
      omega
    refine ⟨e1, k5, k6, ⟨k7.1, Nat.le_trans (Nat.le_add_right _ _) k7.2⟩, Nat.le_of_eq k4.symm, fun b' hb' hn => ?_, ?_⟩
    · refine k3 b' ?_
      rintro rfl
      exact hn (by show (ρ.val 0).ownBlock = some b'; rw [hv]; rfl)
    · refine ⟨by rw [iRows_flat]; simp, .inr ⟨q, cap, c', by rw [List.length_map, List.length_reverse], Nat.zero_le _, k1, ?_, hmax, ?_, ?_⟩⟩
      · rw [List.length_map, List.length_reverse]; exact hcap
      · rw [hsz', hsz, Nat.mul_one]
      · rw [List.length_map, List.length_reverse, Nat.mul_one, iRows_flat, k2, List.take_zero, List.nil_append]
        exact List.take_left' (by simp)
end Go.Proofs
end
section
namespace Go.Proofs
open Go.Sy
set_option maxRecDepth 20000
set_option maxHeartbeats 4000000
/-! share.grouped -/
theorem zw_set {α β γ : Type} (f : α → β → γ) : ∀ (a : List α) (b : List β) (k : Nat) (x : α) (y : β), List.zipWith f (a.set k x) (b.set k y) = (List.zipWith f a b).set k (f x y)
  | [], _, _, _, _ => by simp
  | _ :: _, [], k, _, _ => by cases k <;> simp
  | _ :: a, _ :: b, 0, _, _ => by simp
  | _ :: a, _ :: b, k + 1, x, y => by simp [zw_set f a b k x y]
/-- By groups. -/
def grp (o : List Int) (w : Nat) (l : List Int) : List (List Int) := (List.range w).map fun (k : Nat) => l.filter fun a => decide (ig o a = (k : Int))
theorem grp_len (o : List Int) (w : Nat) (l : List Int) : (grp o w l).length = w := by rw [grp, List.length_map, List.length_range]
theorem grp_get (o : List Int) {w : Nat} (l : List Int) {k : Nat} (hk : k < w) : (grp o w l)[k]? = some (l.filter fun a => decide (ig o a = (k : Int))) := by
  rw [grp, List.getElem?_map, List.getElem?_range hk]; rfl
theorem grp_snoc {o : List Int} {w : Nat} {l : List Int} {x : Int} {k : Nat} (hx : ig o x = (k : Int)) (hk : k < w) : grp o w (l ++ [x]) = (grp o w l).set k ((l.filter fun a => decide (ig o a = (k : Int))) ++ [x]) := by
  refine List.ext_getElem? fun i => ?_
  rw [List.getElem?_set, grp_len]
  by_cases hi : i < w
  · rw [grp_get o _ hi, grp_get o l hi]
    by_cases e : k = i
    · subst e
      rw [if_pos rfl, if_pos hk, List.filter_append]
      simp [hx]
    · rw [if_neg e, List.filter_append]
      have : ¬ ig o x = (i : Int) := by omega
      simp [this]
  · rw [if_neg (by omega), List.getElem?_eq_none (by rw [grp_len]; omega), List.getElem?_eq_none (by rw [grp_len]; omega)]
theorem grp_in {o : List Int} {w : Nat} {l g : List Int} (h : g ∈ grp o w l) : ∀ x ∈ g, x ∈ l := by
  obtain ⟨k, _, rfl⟩ := List.mem_map.1 h
  exact fun x hx => (List.mem_filter.1 hx).1
theorem famL_len {hds : List Value} {R : List (List Int)} (h : hds.length = R.length) : (famL hds R).length = R.length := by rw [famL, List.length_zipWith]; omega
theorem famL_set {hds : List Value} {R : List (List Int)} {k : Nat} (hk : k < hds.length) (hk' : k < R.length) (h : Value) (r : List Int) :
    famL (hds.set k h) (R.set k r) = (famL hds R).take k ++ (h, iRows r) :: (famL hds R).drop (k + 1) := by
  have hl : k < (famL hds R).length := by rw [famL, List.length_zipWith]; omega
  rw [famL, zw_set]
  exact List.set_eq_take_append_cons_drop.trans (if_pos hl)
theorem famL_split {hds : List Value} {R : List (List Int)} {k : Nat} (hk : k < hds.length) (hk' : k < R.length) : famL hds R = (famL hds R).take k ++ (hds[k], iRows R[k]) :: (famL hds R).drop (k + 1) := by
  have hl : k < (famL hds R).length := by rw [famL, List.length_zipWith]; omega
  have e : (famL hds R)[k] = (hds[k], iRows R[k]) := by simp [famL]
  rw [← e, ← List.drop_eq_getElem_cons hl, List.take_append_drop]
theorem own_spec {o : List Int} {x : Int} (hx : 0 ≤ x ∧ x < o.length) {a : Option Addr} {n c : Nat} {H : Hp} {K : SV → St → Hp → Prop} (ha : RL H a n c o)
    (hK : K (.v (.int .i64 (ig o x))) ⟨[], [(0, .cells 27 [.v (.slice a n c)])], 1⟩ H) :
    DoesG Try.prog 94 [.v (.int .i64 x), .ptr 0 0] [(0, .cells 27 [.v (.slice a n c)])] 1 H K := by
  have hn := ha.n_eq
  have hmx := ha.le
  refine spec_ofG cx_ok cx_mix Try.func94 Try.call94 Try.ntmps94 Try.results94 rfl rfl ?_
  refine int_at_k ha hx.1 hx.2 fun ad q1 hh1 => ?_
  refine ⟨ad, ⟨by omega, by omega, q1⟩, ?_⟩
  refine ⟨_, hh1, ?_⟩
  exact ⟨.v (.int .i64 (ig o x)), [(0, .cells 27 [.v (.slice a n c)])], 1, [(0, 0)], by (repeat' (first | exact trivial | refine ⟨?_, ?_⟩ | exact rfl | assumption)), hK⟩
/-- Rows, never written again, whose heads are a row's. -/
theorem rl_fam {H : Hp} {v : Value} {hds : List Value} {R : List (List Int)} (hl : hds.length = R.length) (h : RowAt H v 1 (hds.map fun h => [h])) (hf : ∀ p ∈ famL hds R, RowAt H p.1 1 p.2) (hin : ∀ r ∈ R, ∀ x ∈ r, inI x) :
    ∃ a n c, v = .slice a n c ∧ RL H a n c R := by
  refine RL.of_row (α := List Int) h ⟨by rw [List.length_map]; exact hl, fun i cs r h1 h2 => ?_⟩
  rw [List.getElem?_map] at h1
  cases hh : hds[i]? with
  | none => rw [hh] at h1; cases h1
  | some hd =>
    rw [hh] at h1
    simp only [Option.map_some, Option.some.injEq] at h1
    obtain ⟨hi, e1⟩ := List.getElem?_eq_some_iff.1 hh
    obtain ⟨hi2, e2⟩ := List.getElem?_eq_some_iff.1 h2
    have hm : (hd, iRows r) ∈ famL hds R := by
      have hl2 : i < (famL hds R).length := by rw [famL, List.length_zipWith]; omega
      have e : (famL hds R)[i] = (hd, iRows r) := by simp [famL, e1, e2]
      rw [← e]; exact List.getElem_mem hl2
    obtain ⟨a, n, c, e, hr⟩ := rI_all (hf _ hm) (hin r (List.mem_of_getElem? h2))
    have e : hd = .slice a n c := e
    exact ⟨a, n, c, by rw [← h1, e], hr⟩
theorem grouped_spec {o l : List Int} {w : Nat} (hw : w ≤ 64) (hl : l.length ≤ 1000000) (hol : ∀ x ∈ l, 0 ≤ x ∧ x < o.length) (ho : ∀ x ∈ l, 0 ≤ ig o x ∧ ig o x < w) {a a2 : Option Addr} {n c n2 c2 : Nat} {H : Hp} {K : SV → St → Hp → Prop} (ha : RL H a n c l) (hb : RL H a2 n2 c2 o)
    (hK : ∀ v hds H', Le H H' → hds.length = w → RowAt H' v 1 (hds.map fun h => [h]) → (∀ p ∈ famL hds (grp o w l), RowAt H' p.1 1 p.2) → K (.v v) ⟨[], [(1, .dead), (2, .dead), (0, .cells 27 [.v (.slice a2 n2 c2)]), (1, .row 27 1 (hds.map fun h => [h])), (2, .fam 3 1 (famL hds (grp o w l)))], 3⟩ H') :
    DoesG Try.prog 93 [.v (.slice a n c), .v (.int .i64 w), .fn 94 [.ptr 0 0]] [(0, .cells 27 [.v (.slice a2 n2 c2)])] 1 H K := by
  have hn := ha.n_eq
  have hmx := ha.le
  refine doesG_frz (K0 := fun x t H1 => H1 = H ∧ ∃ hds : List Value, hds.length = w ∧ x = .own 1 ∧ t = ⟨[], [(0, .cells 27 [.v (.slice a2 n2 c2)]), (1, .row 27 1 (hds.map fun h => [h])), (2, .fam 3 1 (famL hds (grp o w l)))], 3⟩) ?_ ?_
  · refine spec_ofG cx_ok cx_mix Try.func93 Try.call93 Try.ntmps93 Try.results93 rfl rfl ?_
    refine ⟨⟨rfl, by omega, by show (w : Int) * 24 ≤ _; omega, by omega⟩, ?_⟩
    refine ⟨Nat × List Value, fun q => ⟨[(2, .fn 94 [.ptr 0 0]), (7, .own 1), (12, .v (.slice a n c)), (13, .v (.int .i64 n)), (14, .v (.int .i64 q.1))],
        [(0, .cells 27 [.v (.slice a2 n2 c2)]), (1, .row 27 1 (q.2.map fun h => [h])), (2, .fam 3 1 (famL q.2 (grp o w (l.take q.1))))], 3⟩,
      fun q H' => H' = H ∧ q.1 ≤ l.length ∧ q.2.length = w, fun q => l.length - q.1, ⟨(0, List.replicate w (.slice none 0 0)), [(0, 0), (1, 1)], ?_, rfl, Nat.zero_le _, by dsimp only; rw [List.length_replicate]⟩, ?_⟩
    · have e1 : List.replicate (w : Int).toNat [Value.slice none 0 0] = (List.replicate w (Value.slice none 0 0)).map fun h => [h] := by rw [List.map_replicate, Int.toNat_natCast]
      have e2 : ∀ p ∈ famL (List.replicate w (Value.slice none 0 0)) (grp o w (l.take 0)), p = (.slice none 0 0, []) := fun p hp => by
        obtain ⟨j, hd, q, h1, h2, rfl⟩ := famL_mem hp
        rw [List.getElem?_replicate] at h1
        split at h1
        · rename_i hj
          rw [grp_get o _ hj] at h2
          simp only [List.take_zero, List.filter_nil, Option.some.injEq] at h1 h2
          rw [← h1, ← h2]; rfl
        · cases h1
      (repeat' (first | exact trivial | refine ⟨?_, ?_⟩ | exact rfl | assumption))
    · rintro ⟨i, hds⟩ H1 _ ⟨rfl, hi, hdl⟩
      dsimp only at hi hdl
      refine ⟨fun h => ?_, fun h => ?_⟩
      · have hlt : i < l.length := by have := dt h; dsimp only at this; omega
        refine name_k l[i] fun x hxe => ?_
        have hgx : l[i]? = some x := by rw [hxe]; exact List.getElem?_eq_getElem hlt
        have hxm : x ∈ l := List.mem_of_getElem? hgx
        have hx1 := hol x hxm
        have hx2 := ho x hxm
        refine int_elem_k ha hgx fun ad q1 hh => ?_
        refine ⟨ad, ⟨by dsimp only; omega, by dsimp only; omega, q1⟩, ?_⟩
        refine ⟨_, hh, ?_⟩
        refine ⟨[0], rfl, own_spec hx1 hb ?_⟩
        refine ⟨[0], rfl, own_spec hx1 hb ?_⟩
        refine name_k (ig o x).toNat fun k hk => ?_
        have hkx : ig o x = (k : Int) := by omega
        have hkw : k < w := by omega
        have hkd : k < hds.length := by omega
        refine name_k hds[k] fun hd hhd => ?_
        have hml : (hds.map fun h => [h]).length = hds.length := List.length_map _
        have hget : (hds.map fun h => [h])[(ig o x).toNat]? = some [hd] := by rw [← hk, List.getElem?_map, List.getElem?_eq_getElem hkd, hhd]; rfl
        refine name_k ((l.take i).filter fun a => decide (ig o a = (k : Int))) fun g hg => ?_
        have hkg : k < (grp o w (l.take i)).length := by rw [grp_len]; exact hkw
        have hgg : (grp o w (l.take i))[k] = g := by
          have := grp_get o (l.take i) hkw
          rw [List.getElem?_eq_getElem hkg, ← hg] at this
          simpa using this
        have hgl : g.length ≤ l.length := by
          have h1 := List.length_filter_le (fun a => decide (ig o a = (k : Int))) (l.take i)
          rw [List.length_take] at h1
          rw [hg]; omega
        have hsp := famL_split hkd hkg
        rw [hgg, ← hhd] at hsp
        have egl : (iRows g).length = g.length := List.length_map _
        refine ⟨⟨by omega, by dsimp only; omega⟩, ?_⟩
        refine ⟨_, hget, ?_⟩
        refine ⟨2, _, _, _, _, rfl, hsp, ⟨by show ((iRows g).length + 1) * 8 ≤ 140737488355328; omega, by show (iRows g).length + 1 ≤ 9223372036854775807; omega⟩, fun a' c' => ?_⟩
        refine name_k (Value.slice a' ((iRows g).length + 1) c') fun hd' hhd' => ?_
        refine ⟨⟨by omega, by dsimp only; omega⟩, ?_⟩
        refine ⟨_, hget, ?_⟩
        have hsn : grp o w (l.take (i + 1)) = (grp o w (l.take i)).set k (g ++ [x]) := by rw [List.take_succ_eq_append_getElem hlt, ← hxe, grp_snoc hkx hkw, ← hg]
        have e1 : (hds.map fun h => [h]).set (ig o x).toNat [Value.slice a' ((iRows g).length + 1) c'] = (hds.set k hd').map fun h => [h] := by rw [← hk, hhd', List.map_set]
        have e2 : (famL hds (grp o w (l.take i))).take k ++ (Value.slice a' ((iRows g).length + 1) c', iRows g ++ [[Value.int .i64 x]]) :: (famL hds (grp o w (l.take i))).drop (k + 1) = famL (hds.set k hd') (grp o w (l.take (i + 1))) := by
          rw [hsn, famL_set hkd hkg, hhd']; simp
        refine ⟨⟨by dsimp only; omega, by dsimp only; omega⟩, (i + 1, hds.set k hd'), [(0, 0), (1, 1), (2, 2)], ?_, ⟨rfl, by dsimp only; omega, by dsimp only; rw [List.length_set]; exact hdl⟩, by dsimp only; omega⟩
        (repeat' (first | exact trivial | refine ⟨?_, ?_⟩ | exact rfl | assumption))
      · have hil : i = l.length := by have := df h; dsimp only at this; omega
        have e3 : famL hds (grp o w (l.take i)) = famL hds (grp o w l) := by rw [hil, List.take_length]
        exact ⟨.own 1, [(0, .cells 27 [.v (.slice a2 n2 c2)]), (1, .row 27 1 (hds.map fun h => [h])), (2, .fam 3 1 (famL hds (grp o w l)))], 3, [(0, 0), (1, 1), (2, 2)], by (repeat' (first | exact trivial | refine ⟨?_, ?_⟩ | exact rfl | assumption)), rfl, hds, hdl, rfl, rfl⟩
  · rintro x t H1 ⟨rfl, hds, hdl, rfl, rfl⟩ _
    exact ⟨1, 2, 27, 3, 1, _, _, rfl, rfl, rfl, by decide, fun v H' h1 h2 h3 => hK v hds H' h1 hdl h2 h3⟩
end Go.Proofs
end
section
namespace Go.Proofs
open Go.Sy
set_option maxRecDepth 20000
set_option maxHeartbeats 4000000
/-! share.Seeds -/
noncomputable def cxS : Cx := { P := Try.prog, tt := tt, n := 0, wrap := false, base := 0, gf := [50, 63, 66, 67, 68, 72, 74, 75, 79, 81, 82, 83, 86, 87, 88, 90, 92, 93, 94, 98, 99, 100, 101, 104, 105, 106, 120, 129], eqs := [63], xf := [] }
theorem cxS_ok : TOK cxS := ⟨cx_ok.tt, cx_ok.eqs⟩
theorem allG_spec {m : Int} {l : List Edg} {f : List Int} (hl : l.length ≤ 1000000) (hf : f.length ≤ 1000000) {a a3 : Option Addr} {n c n3 c3 : Nat} {H : Hp} {K : SV → St → Hp → Prop} (ha : RL H a n c l) (hb : RL H a3 n3 c3 f)
    (hbad : errE m l f ≠ 0 → K (.tup [.v (.slice none 0 0), .v (.int .i64 (errE m l f))]) ⟨[], [], 0⟩ H)
    (hK : errE m l f = 0 → ∀ pa out H', Le H H' → AllP m l pa → IsOrd l pa out → out.length = pa.length → K (.tup [.own 0, .v (.int .i64 0)]) ⟨[], [(0, .row 3 1 (iRows (allL (ranks m l f) out)))], 1⟩ H') :
    DoesG Try.prog 50 [.v (.int .i64 m), .v (.slice a n c), .v (.slice a3 n3 c3)] [] 0 H K := by
  refine doesG_thawR (args := [.int .i64 m, .slice a n c, .slice a3 n3 c3]) (fun _ => rfl) (all_spec hl hf ha hb (K := fun v H' => (errE m l f ≠ 0 ∧ v = .tuple #[.slice none 0 0, .int .i64 (errE m l f)] ∧ H' = H) ∨
      (errE m l f = 0 ∧ ∃ a1 n1 c1 pa out, v = .tuple #[.slice a1 n1 c1, .int .i64 0] ∧ LeN 3 1 (iRows (allL (ranks m l f) out)) H (.slice a1 n1 c1) H' ∧ AllP m l pa ∧ IsOrd l pa out ∧ out.length = pa.length))
    (fun he => .inl ⟨he, rfl, rfl⟩) (fun he a1 n1 c1 pa out H' h1 h2 h3 h4 _ => .inr ⟨he, a1, n1, c1, pa, out, rfl, h1, h2, h3, h4⟩)) ?_
  rintro v H2 hle (⟨he, rfl, rfl⟩ | ⟨he, a1, n1, c1, pa, out, rfl, h1, h2, h3, h4⟩)
  · exact .inl ⟨_, fun _ => rfl, rfl, hbad he⟩
  · refine .inr ⟨3, 1, _, .slice a1 n1 c1, .tup [.own 0, .v (.int .i64 0)], fun ρ hρ => ?_, rfl, h1.new, fun y hy => iRows_one _ y hy, fun H' hle2 _ => hK he pa out H' hle2 h2 h3 h4⟩
    show Value.tuple #[ρ.val 0, .int .i64 0] = _
    rw [hρ]
theorem setAll_mem : ∀ (p : List Int) {L : List Int} {i z : Int}, z ∈ setAll L p i → z ∈ L ∨ z = i
  | [], _, _, _, h => .inl h
  | a :: p, L, i, z, h => by
    rw [setAll, List.foldl_cons, ← setAll] at h
    rcases setAll_mem p h with h | h
    · exact List.mem_or_eq_of_mem_set h
    · exact .inr h
theorem own_div {m w : Int} (hm : 1 ≤ m) (hw : 1 ≤ w) {a : Nat} (ha : (a : Int) < m) : 0 ≤ (w * (a : Int)).tdiv m ∧ (w * (a : Int)).tdiv m < w := by
  have h1 : 0 ≤ w * (a : Int) := Int.mul_nonneg (by omega) (by omega)
  rw [Int.tdiv_eq_ediv_of_nonneg h1]
  exact ⟨Int.ediv_nonneg h1 (by omega), Int.ediv_lt_of_lt_mul (by omega) (Int.mul_lt_mul_of_pos_left ha (by omega))⟩
theorem ahead_lt {out : List (List Int)} (hne : ∀ p ∈ out, p ≠ []) {k : Nat} (hk : k < out.length) : aheadK out k < out.flatten.length := by
  have h1 := aheadK_snoc (List.getElem?_eq_getElem hk)
  have h2 := aheadK_le out (k + 1)
  have h3 : 0 < out[k].length := List.length_pos_iff.2 (hne _ (List.getElem_mem hk))
  omega
theorem own_rng {m w : Int} (hm : 1 ≤ m) (hw : 1 ≤ w) {out : List (List Int)} (hne : ∀ p ∈ out, p ≠ []) (ho : out.flatten.length ≤ m.toNat) : ∀ k, k ≤ out.length → ∀ z ∈ ownK m w out k, 0 ≤ z ∧ z < w
  | 0, _, z, hz => by
    have := List.eq_of_mem_replicate hz
    subst this
    omega
  | k + 1, hk, z, hz => by
    rw [ownK] at hz
    rcases setAll_mem _ hz with hz | hz
    · exact own_rng hm hw hne ho k (by omega) z hz
    · have := ahead_lt hne (k := k) hk
      rw [hz]
      exact own_div hm hw (by omega)
theorem ig_all {P : Int → Prop} {L : List Int} (h : ∀ z ∈ L, P z) {x : Int} (hx : 0 ≤ x ∧ x < L.length) : P (ig L x) := by
  have hlt : x.toNat < L.length := by omega
  rw [ig, List.getElem?_eq_getElem hlt]
  exact h _ (List.getElem_mem hlt)
abbrev seedsL (m w : Int) (r : List Int) (out : List (List Int)) : List (List Int) := grp (ownK m w out out.length) w.toNat (allL r out).reverse
theorem groupedR_spec {o l : List Int} {w : Int} (hw0 : 0 ≤ w) (hw : w ≤ 64) (hl : l.length ≤ 1000000) (hin : ∀ x ∈ l, inI x) (hol : ∀ x ∈ l, 0 ≤ x ∧ x < o.length) (ho : ∀ x ∈ l, 0 ≤ ig o x ∧ ig o x < w) {v : Value} {a2 : Option Addr} {n2 c2 : Nat} {H : Hp} {K : SV → St → Hp → Prop} (hv : RowAt H v 1 (iRows l)) (hb : RL H a2 n2 c2 o)
    (hK : ∀ a1 n1 c1 hds H', Le H H' → RL H' a1 n1 c1 (grp o w.toNat l) → K (.v (.slice a1 n1 c1)) ⟨[], [(1, .dead), (2, .dead), (0, .cells 27 [.v (.slice a2 n2 c2)]), (1, .row 27 1 (hds.map fun h => [h])), (2, .fam 3 1 (famL hds (grp o w.toNat l)))], 3⟩ H') :
    DoesG Try.prog 93 [ofV v, .v (.int .i64 w), .fn 94 [.ptr 0 0]] [(0, .cells 27 [.v (.slice a2 n2 c2)])] 1 H K := by
  obtain ⟨W, rfl⟩ : ∃ W : Nat, w = (W : Int) := ⟨w.toNat, by omega⟩
  obtain ⟨a, n, c, rfl, hr⟩ := rI_all hv hin
  rw [Int.toNat_natCast] at hK
  refine grouped_spec (by omega) hl hol ho hr hb fun v hds H' hle hlen h1 h2 => ?_
  obtain ⟨a1, n1, c1, rfl, hr1⟩ := rl_fam (by rw [grp_len]; exact hlen) h1 h2 (fun r hr x hx => hin x (grp_in hr x hx))
  exact hK a1 n1 c1 hds H' hle hr1
theorem seeds_spec {m w : Int} {l : List Edg} {f : List Int} (hl : l.length ≤ 1000000) (hf : f.length ≤ 1000000) {a a3 : Option Addr} {n c n3 c3 : Nat} {H : Hp} {K : Value → Hp → Prop} (ha : RL H a n c l) (hb : RL H a3 n3 c3 f)
    (hbad1 : mayB w = false → K (.tuple #[.slice none 0 0, .int .i64 1]) H)
    (hbad2 : mayB w = true → errE m l f ≠ 0 → K (.tuple #[.slice none 0 0, .int .i64 (errE m l f)]) H)
    (hK : mayB w = true → errE m l f = 0 → ∀ a1 n1 c1 pa out H', Le H H' → AllP m l pa → IsOrd l pa out → out.length = pa.length → RL H' a1 n1 c1 (seedsL m w (ranks m l f) out) → K (.tuple #[.slice a1 n1 c1, .int .i64 0]) H') :
    Does Try.prog 61 [.int .i64 m, .slice a n c, .slice a3 n3 c3, .int .i64 w] H K := by
  refine spec_of cxS_ok cx_mix rfl Try.func61 Try.call61 Try.ntmps61 Try.results61 rfl rfl ?_
  refine may_spec ?_
  refine ⟨fun h => ?_, fun h => ?_⟩
  · exact hbad1 (by simpa using h)
  · have hmay : mayB w = true := by simpa using h
    have hw : 1 ≤ w ∧ w ≤ 64 := by
      rw [mayB] at hmay
      simpa using hmay
    refine ⟨[], rfl, allG_spec hl hf ha hb (fun he => ?_) (fun he pa out H1 hle1 hP ho hol => ?_)⟩
    · refine ⟨fun h => ?_, fun h => ?_⟩
      · exact hbad2 hmay (nt h)
      · exact absurd (nf h) he
    · have hK := hK hmay he
      obtain ⟨hr, hf2⟩ := err_ok he
      obtain ⟨hm1, hm2, hl2⟩ := right_ok hr
      refine ⟨fun h => by simp at h, fun _ => ?_⟩
      refine owners_spec hl (ha.up hle1) (fun hb => ?_) (fun _ _ a4 n4 c4 pa4 out4 H4 hle4 hP4 ho4 hol4 hr4 => ?_)
      · rw [hmay, hr] at hb
        simp at hb
      have e4 : out4 = out := ord_one hP4 hP ho4 ho hol4 hol
      subst e4
      have hal := all_ln (r := ranks m l f) hP ho hol
      refine ⟨[0], rfl, rev_spec (by omega) ?_⟩
      have hre : ∀ x ∈ (allL (ranks m l f) out4).reverse, nodeI m x = true := fun x hx => (all_mem hP ho hol x).1 (List.mem_reverse.1 hx)
      have hfl : out4.flatten.length ≤ m.toNat := by rw [← (allL_perm (ranks m l f) out4).length_eq, hal]; exact Nat.le_refl _
      have hne : ∀ p ∈ out4, p ≠ [] := fun p hp => (part_in hP ho hp).1
      have hown := own_rng hm1 hw.1 hne hfl out4.length (Nat.le_refl _)
      have hownl := ownK_len m w out4 out4.length
      refine ⟨[1], rfl, fun v H5 hle5 hv => groupedR_spec (by omega) hw.2 (by rw [List.length_reverse]; omega) (fun x hx => by have := dt (hre x hx); exact ⟨by omega, by omega⟩) (fun x hx => by have := dt (hre x hx); omega) (fun x hx => ig_all hown (by have := dt (hre x hx); omega)) hv (hr4.up hle5.le) fun a6 n6 c6 hds H6 hle6 hr6 => ?_⟩
      exact hK _ _ _ pa out4 _ (((hle1.trans hle4).trans hle5.le).trans hle6) hP ho hol hr6
end Go.Proofs
end
section
namespace Go.Proofs
open Go.Sy
set_option maxRecDepth 20000
set_option maxHeartbeats 4000000
theorem rseeds_spec {m w : Int} (hm1 : 1 ≤ m) (hm2 : m ≤ 1000) (hw : 1 ≤ w ∧ w ≤ 64) {l : List Edg} (hl : l.length ≤ 100000) {pa : List (List Int)} (hP : AllP m l pa) {f : List Int} (hf : ∀ x ∈ f, nodeI m x = true) {a a3 : Option Addr} {n c n3 c3 : Nat} {H : Hp} {K : SV → St → Hp → Prop} (ha : RL H a n c l) (hb : RL H a3 n3 c3 f)
    (hK : ∀ a1 n1 c1 out hds H', Le H H' → IsOrd l pa out → out.length = pa.length → RL H' a1 n1 c1 (seedsL m w (ranks m l f) out) → K (.v (.slice a1 n1 c1)) ⟨[], [(0, .dead), (1, .dead), (0, .row 27 1 (hds.map fun h => [h])), (1, .fam 3 1 (famL hds (seedsL m w (ranks m l f) out)))], 2⟩ H') :
    DoesG Try.prog 63 [.v (.int .i64 m), .v (.slice a n c), .v (.slice a3 n3 c3), .v (.int .i64 w)] [] 0 H K := by
  refine doesG_frz (K0 := fun x t H1 => Le H H1 ∧ ∃ (hds : List Value) (out : List (List Int)), hds.length = w.toNat ∧ IsOrd l pa out ∧ out.length = pa.length ∧ x = .own 0 ∧ t = ⟨[], [(0, .row 27 1 (hds.map fun h => [h])), (1, .fam 3 1 (famL hds (seedsL m w (ranks m l f) out)))], 2⟩) ?_ ?_
  · refine spec_ofG cxV_ok cx_mix Try.func63 Try.call63 Try.ntmps63 Try.results63 rfl rfl ?_
    refine rowners_spec hm1 hm2 hw hl hP ha fun a4 n4 c4 out4 H4 hle4 ho4 hol4 hr4 => ?_
    refine rall_spec (by omega) hm2 hl hP hf (ha.up hle4) (hb.up hle4) fun a5 n5 c5 out H5 hle5 ho hol hr5 => ?_
    have e4 : out4 = out := ord_one hP hP ho4 ho hol4 hol
    subst e4
    have hal := all_ln (r := ranks m l f) hP ho hol
    have hnode := fun x => all_mem (r := ranks m l f) hP ho hol x
    have hfl : out4.flatten.length ≤ m.toNat := by rw [← (allL_perm (ranks m l f) out4).length_eq, hal]; exact Nat.le_refl _
    have hne : ∀ p ∈ out4, p ≠ [] := fun p hp => (part_in hP ho hp).1
    have hown := own_rng hm1 hw.1 hne hfl out4.length (Nat.le_refl _)
    have hownl := ownK_len m w out4 out4.length
    have hn5 := hr5.n_eq
    have hmx5 := hr5.le
    have hn4 := hr4.n_eq
    obtain ⟨q, hq⟩ : ∃ q, q = allL (ranks m l f) out4 := ⟨_, rfl⟩
    obtain ⟨o, hoo⟩ : ∃ o, o = ownK m w out4 out4.length := ⟨_, rfl⟩
    have hse : seedsL m w (ranks m l f) out4 = grp o w.toNat q.reverse := by rw [seedsL, hq, hoo]
    rw [← hq] at hal hnode hr5 hn5
    rw [← hoo] at hown hownl hr4 hn4
    obtain ⟨W, hW⟩ : ∃ W : Nat, w = (W : Int) := ⟨w.toNat, by omega⟩
    have hWn : w.toNat = W := by omega
    rw [hWn] at hse
    refine ⟨⟨rfl, by omega, by show w * 24 ≤ _; omega, by omega⟩, ?_⟩
    refine ⟨⟨by omega, by omega⟩, ?_⟩
    refine ⟨Nat × List Value, fun p => ⟨[(9, .v (.slice a4 n4 c4)), (10, .v (.slice a5 n5 c5)), (11, .own 0), (12, .v (.int .i64 ((n5 : Int) - 1 - p.1)))],
        [(0, .row 27 1 (p.2.map fun h => [h])), (1, .fam 3 1 (famL p.2 (grp o W (q.reverse.take p.1))))], 2⟩,
      fun p H' => H' = H5 ∧ p.1 ≤ q.length ∧ p.2.length = W, fun p => q.length - p.1, ⟨(0, List.replicate W (.slice none 0 0)), [(0, 0)], ?_, rfl, Nat.zero_le _, by dsimp only; rw [List.length_replicate]⟩, ?_⟩
    · have e0 : SV.v (.int .i64 ((n5 : Int) - 1)) = SV.v (.int .i64 ((n5 : Int) - 1 - ((0 : Nat) : Int))) := by simp
      have e1 : List.replicate w.toNat [Value.slice none 0 0] = (List.replicate W (Value.slice none 0 0)).map fun h => [h] := by rw [List.map_replicate, hWn]
      have e2 : ∀ p ∈ famL (List.replicate W (Value.slice none 0 0)) (grp o W (q.reverse.take 0)), p = (.slice none 0 0, []) := fun p hp => by
        obtain ⟨j, hd, r, h1, h2, rfl⟩ := famL_mem hp
        rw [List.getElem?_replicate] at h1
        split at h1
        · rename_i hj
          rw [grp_get o _ hj] at h2
          simp only [List.take_zero, List.filter_nil, Option.some.injEq] at h1 h2
          rw [← h1, ← h2]; rfl
        · cases h1
      (repeat' (first | exact trivial | refine ⟨?_, ?_⟩ | exact rfl | assumption))
    · rintro ⟨i, hds⟩ H6 _ ⟨rfl, hi, hdl⟩
      dsimp only at hi hdl
      refine ⟨fun h => ?_, fun h => ?_⟩
      · have hlt : i < q.length := by have := dt h; dsimp only at this; omega
        have hlr : i < q.reverse.length := by rw [List.length_reverse]; exact hlt
        refine name_k q.reverse[i] fun x hxe => ?_
        have hgx : q[q.length - 1 - i]? = some x := by rw [hxe, List.getElem_reverse, List.getElem?_eq_getElem]
        have hxm : x ∈ q := List.mem_of_getElem? hgx
        have hx1 := dt ((hnode x).1 hxm)
        have hx2 := ig_all hown (x := x) (by omega)
        have hki : ((q.length - 1 - i : Nat) : Int) = (n5 : Int) - 1 - i := by omega
        refine int_elem_k hr5 hgx fun ad q1 hh => ?_
        rw [hki] at hh
        refine ⟨ad, ⟨by dsimp only; omega, by dsimp only; omega, q1⟩, ?_⟩
        refine ⟨_, hh, ?_⟩
        refine int_at_k (hr4.up hle5) hx1.1 (by omega) fun ad2 q2 hh2 => ?_
        refine ⟨ad2, ⟨by omega, by omega, q2⟩, ?_⟩
        refine ⟨_, hh2, ?_⟩
        refine ⟨some ([0, 1], [0, 1, 2, 3, 4, 5, 6, 7, 8, 9, 10, 11, 12, 13]), by kernel_rfl, ?_⟩
        refine name_k (ig o x).toNat fun k hk => ?_
        have hkx : ig o x = (k : Int) := by omega
        have hkw : k < W := by omega
        have hkd : k < hds.length := by omega
        refine name_k hds[k] fun hd hhd => ?_
        have hml : (hds.map fun h => [h]).length = hds.length := List.length_map _
        have hget : (hds.map fun h => [h])[(ig o x).toNat]? = some [hd] := by rw [← hk, List.getElem?_map, List.getElem?_eq_getElem hkd, hhd]; rfl
        refine name_k ((q.reverse.take i).filter fun a => decide (ig o a = (k : Int))) fun g hg => ?_
        have hkg : k < (grp o W (q.reverse.take i)).length := by rw [grp_len]; exact hkw
        have hgg : (grp o W (q.reverse.take i))[k] = g := by
          have := grp_get o (q.reverse.take i) hkw
          rw [List.getElem?_eq_getElem hkg, ← hg] at this
          simpa using this
        have hgl : g.length ≤ q.length := by
          have h1 := List.length_filter_le (fun a => decide (ig o a = (k : Int))) (q.reverse.take i)
          rw [List.length_take, List.length_reverse] at h1
          rw [hg]; omega
        have hsp := famL_split hkd hkg
        rw [hgg, ← hhd] at hsp
        have egl : (iRows g).length = g.length := List.length_map _
        refine ⟨⟨by (try dsimp only); omega, by (try dsimp only); omega⟩, ?_⟩
        refine ⟨_, hget, ?_⟩
        refine ⟨ad, ⟨by dsimp only; omega, by dsimp only; omega, q1⟩, ?_⟩
        refine ⟨_, hh, ?_⟩
        refine ⟨1, _, _, _, _, rfl, hsp, ⟨by show ((iRows g).length + 1) * 8 ≤ 140737488355328; omega, by show (iRows g).length + 1 ≤ 9223372036854775807; omega⟩, fun a' c' => ?_⟩
        refine name_k (Value.slice a' ((iRows g).length + 1) c') fun hd' hhd' => ?_
        refine ⟨⟨by (try dsimp only); omega, by (try dsimp only); omega⟩, ?_⟩
        refine ⟨_, hget, ?_⟩
        have hsn : grp o W (q.reverse.take (i + 1)) = (grp o W (q.reverse.take i)).set k (g ++ [x]) := by rw [List.take_succ_eq_append_getElem hlr, ← hxe, grp_snoc hkx hkw, ← hg]
        have e1 : (hds.map fun h => [h]).set (ig o x).toNat [Value.slice a' ((iRows g).length + 1) c'] = (hds.set k hd').map fun h => [h] := by rw [← hk, hhd', List.map_set]
        have e2 : (famL hds (grp o W (q.reverse.take i))).take k ++ (Value.slice a' ((iRows g).length + 1) c', iRows g ++ [[Value.int .i64 x]]) :: (famL hds (grp o W (q.reverse.take i))).drop (k + 1) = famL (hds.set k hd') (grp o W (q.reverse.take (i + 1))) := by
          rw [hsn, famL_set hkd hkg, hhd']; simp
        have e3 : SV.v (.int .i64 ((n5 : Int) - 1 - (i : Int) - 1)) = SV.v (.int .i64 ((n5 : Int) - 1 - ((i + 1 : Nat) : Int))) := by congr 2; omega
        refine ⟨⟨by dsimp only; omega, by dsimp only; omega⟩, (i + 1, hds.set k hd'), [(0, 0), (1, 1)], ?_, ⟨rfl, by dsimp only; omega, by dsimp only; rw [List.length_set]; exact hdl⟩, by dsimp only; omega⟩
        (repeat' (first | exact trivial | refine ⟨?_, ?_⟩ | exact rfl | assumption))
      · have hil : i = q.length := by have := df h; dsimp only at this; omega
        have e3 : famL hds (grp o W (q.reverse.take i)) = famL hds (seedsL m w (ranks m l f) out4) := by rw [hil, hse, ← List.length_reverse, List.take_length]
        exact ⟨.own 0, [(0, .row 27 1 (hds.map fun h => [h])), (1, .fam 3 1 (famL hds (seedsL m w (ranks m l f) out4)))], 2, [(0, 0), (1, 1)], by (repeat' (first | exact trivial | refine ⟨?_, ?_⟩ | exact rfl | assumption)), hle4.trans hle5, hds, out4, by rw [hdl, hWn], ho, hol, rfl, rfl⟩
  · rintro x t H1 ⟨hle, hds, out, hdl, ho, hol, rfl, rfl⟩ _
    refine ⟨0, 1, 27, 3, 1, _, _, rfl, rfl, rfl, by decide, fun v H' h1 h2 h3 => ?_⟩
    obtain ⟨a1, n1, c1, rfl, hr1⟩ := rl_fam (by rw [grp_len]; exact hdl) h2 h3 (fun r hr x hx => by
      have := dt ((all_mem hP ho hol x).1 (List.mem_reverse.1 (grp_in hr x hx)))
      exact ⟨by omega, by omega⟩)
    exact hK a1 n1 c1 out hds H' (hle.trans h1) ho hol hr1
end Go.Proofs
end
section
namespace Go.Proofs
open Go.Sy
set_option maxRecDepth 20000
set_option maxHeartbeats 4000000
theorem few15_spec {m : Int} {l : List Edg} {f : List Int} {a a3 : Option Addr} {n c n3 c3 : Nat} {H : Hp} {K : Value → Hp → Prop} (ha : RL H a n c l) (hb : RL H a3 n3 c3 f) (hK : ∀ b, (b = true → (m ≤ 8 ∨ m > 256) ∧ l.length ≤ 20 ∧ f.length ≤ 10) → K (.bool b) H) : Does Try.prog 59 [.int .i64 m, .slice a n c, .slice a3 n3 c3] H K := by
  have hn := ha.n_eq
  have hn3 := hb.n_eq
  refine spec_of cx_ok cx_mix rfl Try.func59 Try.call59 Try.ntmps59 Try.results59 rfl rfl ?_
  refine ⟨fun h => ?_, fun h => ?_⟩
  · have h1 : ¬ m ≤ 8 := df h
    refine ⟨fun h => ?_, fun h => ?_⟩
    · have h2 : m > 256 := dt h
      refine ⟨fun h => ?_, fun h => ?_⟩
      · have h3 := dt h
        exact hK _ fun h4 => ⟨.inr h2, by omega, by have := dt h4; omega⟩
      · exact hK _ fun h3 => by first | (rw [h] at h3; cases h3) | cases h3
    · exact hK _ fun h3 => by first | (rw [h] at h3; cases h3) | cases h3
  · have h1 : m ≤ 8 := dt h
    refine ⟨fun h => ?_, fun h => ?_⟩
    · have h3 := dt h
      exact hK _ fun h4 => ⟨.inl h1, by omega, by have := dt h4; omega⟩
    · exact hK _ fun h3 => by first | (rw [h] at h3; cases h3) | cases h3
end Go.Proofs
end
section
namespace Go.Proofs
open Go.Sy
set_option maxRecDepth 20000
set_option maxHeartbeats 4000000
theorem ShareTells_spec {m w : Int} {l : List Edg} {f : List Int} {a a3 : Option Addr} {n c n3 c3 : Nat} {H : Hp} {K : Value → Hp → Prop} (ha : RL H a n c l) (hb : RL H a3 n3 c3 f) (hK : ∀ H', Le H H' → K (.bool true) H') : Does Try.prog 13 [.int .i64 m, .slice a n c, .slice a3 n3 c3, .int .i64 w] H K := by
  have hn := ha.n_eq
  have hn3 := hb.n_eq
  refine spec_of cxS_ok cx_mix rfl Try.func13 Try.call13 Try.ntmps13 Try.results13 rfl rfl ?_
  refine awake15_spec fun _ _ => ?_
  refine ⟨(fun h => by cases h), fun _ => ?_⟩
  refine few15_spec ha hb fun b hfew => ?_
  refine ⟨fun h => ?_, fun h => ?_⟩
  · exact hK _ (Le.refl H)
  · obtain ⟨hm, hll, hfl⟩ := hfew (by simpa using h)
    by_cases hmay : mayB w = true
    · have hw : 1 ≤ w ∧ w ≤ 64 := by
        rw [mayB] at hmay
        simpa using hmay
      by_cases hr : rightE m l = true
      · obtain ⟨hm1, hm2, _⟩ := right_ok hr
        refine owners_spec (by omega) ha (fun hb => by rw [hmay, hr] at hb; simp at hb) (fun _ _ a4 n4 c4 pa out H4 hle4 hP ho hol hr4 => ?_)
        by_cases he : errE m l f = 0
        · obtain ⟨_, hf⟩ := err_ok he
          refine seeds_spec (by omega) (by omega) (ha.up hle4) (hb.up hle4) (fun h => by rw [hmay] at h; cases h) (fun _ h => absurd he h) (fun _ _ a5 n5 c5 pa5 out5 H5 hle5 hP5 ho5 hol5 hr5 => ?_)
          have e5 : out5 = out := ord_one hP5 hP ho5 ho hol5 hol
          subst e5
          have hle := hle4.trans hle5
          refine ⟨fun _ => ?_, fun h => absurd (dt h) (by omega)⟩
          refine ⟨fun h => absurd (dt h) (by omega), fun _ => ?_⟩
          refine rerr_spec (ha.up hle) (hb.up hle) ?_
          rw [he]
          refine ⟨fun h => by simp at h, fun _ => ?_⟩
          refine ⟨fun _ => ?_, fun h => by simp at h⟩
          refine ⟨fun _ => ?_, fun h => by simp at h⟩
          refine rowners_spec hm1 (by omega) hw (by omega) hP (ha.up hle) fun a6 n6 c6 out6 H6 hle6 ho6 hol6 hr6 => ?_
          have e6 : out6 = out5 := ord_one hP hP ho6 ho hol6 hol
          rw [e6] at hr6
          refine ints_spec ((hr4.up hle5).up hle6) hr6 ?_
          refine ⟨fun _ => ?_, fun h => by simp at h⟩
          refine ⟨[], rfl, rseeds_spec hm1 (by omega) hw (by omega) hP hf ((ha.up hle).up hle6) ((hb.up hle).up hle6) fun a7 n7 c7 out7 hds H7 hle7 ho7 hol7 hr7 => ?_⟩
          have e7 : out7 = out5 := ord_one hP hP ho7 ho hol7 hol
          rw [e7] at hr7
          refine same09_spec ((hr5.up hle6).up hle7) hr7 ?_
          exact kbool (hK _ ((hle.trans hle6).trans hle7)) (by simp)
        · have he2 : errE m l f = 2 := by
            rw [errE, if_pos hr] at he ⊢
            split at he
            · exact absurd rfl he
            · rename_i h; rw [if_neg h]
          refine seeds_spec (by omega) (by omega) (ha.up hle4) (hb.up hle4) (fun h => by rw [hmay] at h; cases h) (fun _ _ => ?_) (fun _ h => absurd h he)
          refine ⟨fun _ => ?_, fun h => absurd (dt h) (by omega)⟩
          refine ⟨fun h => absurd (dt h) (by omega), fun _ => ?_⟩
          refine rerr_spec (ha.up hle4) (hb.up hle4) ?_
          rw [he2]
          refine ⟨fun _ => ?_, fun h => by simp at h⟩
          refine ⟨fun _ => ?_, fun h => by simp at h⟩
          refine ⟨fun _ => ?_, fun h => by simp at h⟩
          refine ⟨fun h => by simp at h, fun _ => ?_⟩
          exact kbool (hK _ hle4) (by simp)
      · have hr : rightE m l = false := by simpa using hr
        have he1 : errE m l f = 1 := by rw [errE, hr]; rfl
        refine owners_spec (by omega) ha (fun _ => ?_) (fun _ h => by rw [hr] at h; cases h)
        refine seeds_spec (by omega) (by omega) ha hb (fun h => by rw [hmay] at h; cases h) (fun _ _ => ?_) (fun _ h => by rw [he1] at h; cases h)
        refine ⟨fun _ => ?_, fun h => absurd (dt h) (by omega)⟩
        refine ⟨fun h => absurd (dt h) (by omega), fun _ => ?_⟩
        refine rerr_spec ha hb ?_
        rw [he1]
        refine ⟨fun _ => ?_, fun h => by simp at h⟩
        refine ⟨fun _ => ?_, fun h => by simp at h⟩
        refine ⟨fun _ => ?_, fun h => by simp at h⟩
        refine ⟨fun _ => ?_, fun h => by simp at h⟩
        refine ⟨fun _ => ?_, fun h => by simp at h⟩
        exact kbool (hK _ (Le.refl H)) (by simp)
    · have hmay : mayB w = false := by simpa using hmay
      have hw : ¬ (1 ≤ w ∧ w ≤ 64) := fun h => by
        rw [mayB, decide_eq_true h.1, decide_eq_true h.2] at hmay
        cases hmay
      refine owners_spec (by omega) ha (fun _ => ?_) (fun h => by rw [hmay] at h; cases h)
      refine seeds_spec (by omega) (by omega) ha hb (fun _ => ?_) (fun h => by rw [hmay] at h; cases h) (fun h => by rw [hmay] at h; cases h)
      refine ⟨fun h => ?_, fun h => ?_⟩
      · refine ⟨fun h => ?_, fun h => ?_⟩
        · refine ⟨fun _ => ?_, fun h => by simp at h⟩
          refine ⟨fun _ => ?_, fun h => by simp at h⟩
          refine ⟨⟨by decide, by decide⟩, ?_⟩
          exact kbool (hK _ (Le.refl H)) (by simp)
        · exact absurd (And.intro (by have := df (by assumption : decide (w < 1) = false); omega) (by have := df h; omega)) hw
      · refine ⟨fun _ => ?_, fun h => by simp at h⟩
        refine ⟨fun _ => ?_, fun h => by simp at h⟩
        refine ⟨⟨by decide, by decide⟩, ?_⟩
        exact kbool (hK _ (Le.refl H)) (by simp)
end Go.Proofs
end
section
namespace Go.Proofs
open Go.Sy
set_option maxRecDepth 20000
set_option maxHeartbeats 4000000
theorem own_get {m w : Int} {out : List (List Int)} (hn : ∀ x ∈ out.flatten, nodeI m.toNat x = true) (hd : out.flatten.Nodup) : ∀ (k : Nat) {i : Nat} {p : List Int}, i < k → out[i]? = some p → ∀ x ∈ p, ig (ownK m w out k) x = (w * (aheadK out i : Int)).tdiv m
  | 0, _, _, h, _, _, _ => by cases h
  | k + 1, i, p, h, hi, x, hx => by
    have hxn : nodeI m.toNat x = true := hn x (List.mem_flatten.2 ⟨p, List.mem_of_getElem? hi, hx⟩)
    rw [ownK, setAll_get (N := m.toNat) _ (ownK_len m w out k) (fun y hy => ?_) _ hxn]
    · by_cases e : i = k
      · subst e
        rw [hi, Option.getD_some, if_pos hx]
      · rw [if_neg (fun hm => ?_)]
        · exact own_get hn hd k (by omega) hi x hx
        · cases hk : out[k]? with
          | none => rw [hk] at hm; cases hm
          | some q =>
            rw [hk, Option.getD_some] at hm
            exact e (flat_disj hd hi hk hx hm)
    · cases hk : out[k]? with
      | none => rw [hk] at hy; cases hy
      | some q =>
        rw [hk, Option.getD_some] at hy
        exact hn y (List.mem_flatten.2 ⟨q, List.mem_of_getElem? hk, hy⟩)
theorem ahead_mono (out : List (List Int)) {i j : Nat} (h : i ≤ j) : aheadK out i ≤ aheadK out j := by
  rw [aheadK, aheadK]
  have e : out.take j = out.take i ++ (out.drop i).take (j - i) := by rw [← List.take_add, Nat.add_sub_cancel' h]
  rw [e, List.flatten_append, List.length_append]
  omega
/-- Owners never fall along an edge. -/
theorem own_rise {m w : Int} (hm : 1 ≤ m) (hw : 1 ≤ w) {l : List Edg} {pa out : List (List Int)} (hP : AllP m l pa) (ho : IsOrd l pa out) (hlen : out.length = pa.length) {e : Edg} (he : e ∈ l) :
    ig (ownK m w out out.length) e.1 ≤ ig (ownK m w out out.length) e.2 := by
  have hN := toNat_nat m (by omega)
  obtain ⟨f1, f2⟩ := ord_flat hP ho
  have hon : ∀ x ∈ out.flatten, nodeI m.toNat x = true := by rw [hN]; exact f2
  obtain ⟨k1, k2⟩ := hP.edges e he
  have hex : ∀ x, nodeI m x = true → ∃ (i : Nat), ∃ h : i < out.length, x ∈ out[i] := fun x hx => by
    obtain ⟨p, hp, hxp⟩ := List.mem_flatten.1 (hP.all x hx)
    obtain ⟨i, hi, hip⟩ := List.getElem_of_mem (ord_all ho hlen p hp)
    exact ⟨i, hi, by rw [hip]; exact hxp⟩
  obtain ⟨i, hi, hxi⟩ := hex e.1 k1
  obtain ⟨j, hj, hyj⟩ := hex e.2 k2
  have hij : i ≤ j := by
    rcases (ho j hj).free e he hyj with h | h
    · have := flat_disj f1 (List.getElem?_eq_getElem hi) (List.getElem?_eq_getElem hj) hxi h
      omega
    · obtain ⟨q, hq, hxq⟩ := List.mem_flatten.1 h
      obtain ⟨k, hk, hkq⟩ := List.getElem_of_mem hq
      rw [List.length_take] at hk
      rw [List.getElem_take] at hkq
      have hk2 : k < out.length := by omega
      have := flat_disj f1 (List.getElem?_eq_getElem hi) (List.getElem?_eq_getElem hk2) hxi (by rw [hkq]; exact hxq)
      omega
  rw [own_get hon f1 _ hi (List.getElem?_eq_getElem hi) _ hxi, own_get hon f1 _ hj (List.getElem?_eq_getElem hj) _ hyj]
  have h1 : 0 ≤ w * (aheadK out i : Int) := Int.mul_nonneg (by omega) (by omega)
  have h2 : 0 ≤ w * (aheadK out j : Int) := Int.mul_nonneg (by omega) (by omega)
  rw [Int.tdiv_eq_ediv_of_nonneg h1, Int.tdiv_eq_ediv_of_nonneg h2]
  have := ahead_mono out hij
  exact Int.ediv_le_ediv (by omega) (Int.mul_le_mul_of_nonneg_left (by omega) (by omega))
theorem grp_all {o q : List Int} {w : Nat} (ho : ∀ x ∈ q, 0 ≤ ig o x ∧ ig o x < w) (hq : q.Nodup) : (grp o w q).flatten.Nodup ∧ ∀ x, x ∈ (grp o w q).flatten ↔ x ∈ q := by
  constructor
  · refine flat_nodup (fun p hp => ?_) ?_
    · obtain ⟨k, _, rfl⟩ := List.mem_map.1 hp
      exact hq.filter _
    · rw [grp, List.pairwise_map]
      refine List.pairwise_lt_range.imp fun {i j} hij x hx hx2 => ?_
      have h1 := dt (List.mem_filter.1 hx).2
      have h2 := dt (List.mem_filter.1 hx2).2
      omega
  · intro x
    rw [List.mem_flatten]
    constructor
    · rintro ⟨g, hg, hx⟩
      exact grp_in hg x hx
    · intro hx
      have := ho x hx
      refine ⟨_, List.mem_map.2 ⟨(ig o x).toNat, List.mem_range.2 (by omega), rfl⟩, List.mem_filter.2 ⟨hx, decide_eq_true (by omega)⟩⟩
theorem ShareEach_spec {m w : Int} {l : List Edg} {f : List Int} {a a3 : Option Addr} {n c n3 c3 : Nat} {H : Hp} {K : Value → Hp → Prop} (ha : RL H a n c l) (hb : RL H a3 n3 c3 f) (hK : ∀ H', Le H H' → K (.bool true) H') : Does Try.prog 14 [.int .i64 m, .slice a n c, .slice a3 n3 c3, .int .i64 w] H K := by
  have hn := ha.n_eq
  have hn3 := hb.n_eq
  have hmx := ha.le
  refine spec_of cxS_ok cx_mix rfl Try.func14 Try.call14 Try.ntmps14 Try.results14 rfl rfl ?_
  refine awake15_spec fun _ _ => ?_
  refine ⟨(fun h => by cases h), fun _ => ?_⟩
  refine few15_spec ha hb fun b hfew => ?_
  refine ⟨fun h => ?_, fun h => ?_⟩
  · exact hK _ (Le.refl H)
  · obtain ⟨hm, hll, hfl⟩ := hfew (by simpa using h)
    by_cases hmay : mayB w = true
    · have hw : 1 ≤ w ∧ w ≤ 64 := by
        rw [mayB] at hmay
        simpa using hmay
      by_cases hr : rightE m l = true
      · obtain ⟨hm1, hm2, _⟩ := right_ok hr
        refine owners_spec (by omega) ha (fun hb => by rw [hmay, hr] at hb; simp at hb) (fun _ _ a4 n4 c4 pa out H4 hle4 hP ho hol hr4 => ?_)
        by_cases he : errE m l f = 0
        · obtain ⟨_, hf⟩ := err_ok he
          refine seeds_spec (by omega) (by omega) (ha.up hle4) (hb.up hle4) (fun h => by rw [hmay] at h; cases h) (fun _ h => absurd he h) (fun _ _ a5 n5 c5 pa5 out5 H5 hle5 hP5 ho5 hol5 hr5 => ?_)
          have e5 : out5 = out := ord_one hP5 hP ho5 ho hol5 hol
          subst e5
          have hle := hle4.trans hle5
          refine ⟨fun _ => ?_, fun h => by simp at h⟩
          refine ⟨fun h => by simp at h, fun _ => ?_⟩
          have hal := all_ln (r := ranks m l f) hP ho hol
          have hnode := fun x => all_mem (r := ranks m l f) hP ho hol x
          have hnd := all_nd (r := ranks m l f) hP ho
          have hfl2 : out5.flatten.length ≤ m.toNat := by rw [← (allL_perm (ranks m l f) out5).length_eq, hal]; exact Nat.le_refl _
          have hne : ∀ p ∈ out5, p ≠ [] := fun p hp => (part_in hP ho hp).1
          have hown := own_rng hm1 hw.1 hne hfl2 out5.length (Nat.le_refl _)
          have hownl := ownK_len m w out5 out5.length
          have hrise := fun {e : Edg} => own_rise hm1 hw.1 hP ho hol (e := e)
          obtain ⟨q, hq⟩ : ∃ q, q = (allL (ranks m l f) out5).reverse := ⟨_, rfl⟩
          obtain ⟨o, hoo⟩ : ∃ o, o = ownK m w out5 out5.length := ⟨_, rfl⟩
          have hqm : ∀ x, x ∈ q ↔ nodeI m x = true := fun x => by rw [hq, List.mem_reverse]; exact hnode x
          have hqd : q.Nodup := by rw [hq]; exact (List.reverse_perm _).nodup_iff.2 hnd
          rw [seedsL, ← hq, ← hoo] at hr5
          rw [← hoo] at hown hownl hr4 hrise
          have hor : ∀ x ∈ q, 0 ≤ ig o x ∧ ig o x < w.toNat := fun x hx => by
            have := ig_all hown (x := x) (by have := dt ((hqm x).1 hx); omega)
            omega
          obtain ⟨g1, g2⟩ := grp_all hor hqd
          have hGl := grp_len o w.toNat q
          have hGg := fun {k : Nat} => grp_get o (w := w.toNat) q (k := k)
          have hGin := fun {g : List Int} => grp_in (o := o) (w := w.toNat) (l := q) (g := g)
          obtain ⟨G, hG⟩ : ∃ G, G = grp o w.toNat q := ⟨_, rfl⟩
          rw [← hG] at g1 g2 hr5 hGl hGg hGin
          have hGn : ∀ x ∈ G.flatten, nodeI m x = true := fun x hx => (hqm x).1 ((g2 x).1 hx)
          have hGfl := nodes_len g1 hGn
          have hn5 := hr5.n_eq
          have hmx5 := hr5.le
          have hn4 := hr4.n_eq
          have htk : ∀ i, (G.take i).flatten.length ≤ G.flatten.length := fun i => by
            have := congrArg List.length (congrArg List.flatten (List.take_append_drop i G))
            rw [List.flatten_append, List.length_append] at this
            omega
          refine ⟨Nat, fun i => ⟨[(0, .v (.int .i64 m)), (1, .v (.slice a n c)), (9, .v (.slice a4 n4 c4)), (13, .own 0), (51, .v (.slice a5 n5 c5)), (52, .v (.int .i64 n5)), (53, .v (.int .i64 i))], [(0, .row 3 1 (iRows (G.take i).flatten))], 1⟩,
            fun i H' => Le H5 H' ∧ i ≤ G.length, fun i => G.length - i, ⟨0, [], ?_, Le.refl _, Nat.zero_le _⟩, ?_⟩
          · have e0 : iRows (G.take 0).flatten = [] := rfl
            (repeat' (first | exact trivial | refine ⟨?_, ?_⟩ | exact rfl | assumption))
          rintro i H6 hle6 ⟨_, hi⟩
          have hti := htk i
          refine ⟨fun h => ?_, fun h => ?_⟩
          · have hlt : i < G.length := by have := dt h; omega
            refine name_k G[i] fun g hg => ?_
            have hgg : G[i]? = some g := by rw [hg]; exact List.getElem?_eq_getElem hlt
            refine list_elem_k (hr5.up hle6) hgg fun ad a7 n7 c7 q1 hh hr7 => ?_
            refine ⟨ad, ⟨by omega, by omega, q1⟩, ?_⟩
            refine ⟨_, hh, ?_⟩
            have hn7 := hr7.n_eq
            have hsn : (G.take (i + 1)).flatten = (G.take i).flatten ++ g := by rw [List.take_succ_eq_append_getElem hlt, List.flatten_append, List.flatten_singleton, hg]
            have hti2 := htk (i + 1)
            rw [hsn, List.length_append] at hti2
            have hgm : ∀ x ∈ g, nodeI m x = true ∧ ig o x = (i : Int) := fun x hx => by
              have h1 := hGg (k := i) (by omega)
              rw [hgg] at h1
              simp only [Option.some.injEq] at h1
              rw [h1] at hx
              obtain ⟨h2, h3⟩ := List.mem_filter.1 hx
              exact ⟨(hqm x).1 h2, dt h3⟩
            refine ⟨Nat, fun j => ⟨[(0, .v (.int .i64 m)), (1, .v (.slice a n c)), (9, .v (.slice a4 n4 c4)), (13, .own 0), (14, .v (.int .i64 i)), (51, .v (.slice a5 n5 c5)), (52, .v (.int .i64 n5)), (53, .v (.int .i64 i)), (58, .v (.slice a7 n7 c7)), (59, .v (.int .i64 n7)), (60, .v (.int .i64 j))],
                [(0, .row 3 1 (iRows ((G.take i).flatten ++ g.take j)))], 1⟩,
              fun j H' => Le H6 H' ∧ j ≤ g.length, fun j => g.length - j, ⟨0, [(0, 0)], ?_, Le.refl _, Nat.zero_le _⟩, ?_⟩
            · have e0 : iRows (G.take i).flatten = iRows ((G.take i).flatten ++ g.take 0) := by simp
              (repeat' (first | exact trivial | refine ⟨?_, ?_⟩ | exact rfl | assumption))
            rintro j H7 hle7 ⟨_, hj⟩
            refine ⟨fun h => ?_, fun h => ?_⟩
            · have hjl : j < g.length := by have := dt h; omega
              refine name_k g[j] fun x hx => ?_
              have hgx : g[j]? = some x := by rw [hx]; exact List.getElem?_eq_getElem hjl
              have hxx := hgm x (List.mem_of_getElem? hgx)
              have hx1 := dt hxx.1
              refine int_elem_k (hr7.up hle7) hgx fun ad2 q2 hh2 => ?_
              refine ⟨ad2, ⟨by omega, by omega, q2⟩, ?_⟩
              refine ⟨_, hh2, ?_⟩
              refine int_at_k (((hr4.up hle5).up hle6).up hle7) hx1.1 (by omega) fun ad3 q3 hh3 => ?_
              refine ⟨ad3, ⟨by omega, by omega, q3⟩, ?_⟩
              refine ⟨_, hh3, ?_⟩
              refine ⟨fun h => (by rw [decide_eq_true hxx.2] at h; cases h), fun _ => ?_⟩
              have lA : ((G.take i).flatten ++ g.take j).length ≤ 1000 := by
                rw [List.length_append, List.length_take]; omega
              refine ⟨⟨by show ((iRows _).length + 1) * 8 ≤ 140737488355328; rw [iRows_ln]; omega, by show (iRows _).length + 1 ≤ 9223372036854775807; rw [iRows_ln]; omega⟩, ?_⟩
              have e1 : iRows ((G.take i).flatten ++ g.take j) ++ [[Value.int .i64 x]] = iRows ((G.take i).flatten ++ g.take (j + 1)) := by
                rw [List.take_succ_eq_append_getElem hjl, ← hx]; simp
              refine ⟨⟨by omega, by omega⟩, j + 1, [(0, 2)], ?_, ⟨hle7, hjl⟩, by dsimp only; omega⟩
              (repeat' (first | exact trivial | refine ⟨?_, ?_⟩ | exact rfl | assumption))
            · have hjl : j = g.length := by have := df h; omega
              have e1 : iRows ((G.take i).flatten ++ g.take j) = iRows (G.take (i + 1)).flatten := by rw [hsn, hjl, List.take_length]
              refine ⟨⟨by omega, by omega⟩, i + 1, [(0, 0)], ?_, ⟨hle6.trans hle7, hlt⟩, by dsimp only; omega⟩
              (repeat' (first | exact trivial | refine ⟨?_, ?_⟩ | exact rfl | assumption))
          · have hil : i = G.length := by have := df h; omega
            have e1 : iRows (G.take i).flatten = iRows G.flatten := by rw [hil, List.take_length]
            refine ⟨Nat, fun j => ⟨[(0, .v (.int .i64 m)), (9, .v (.slice a4 n4 c4)), (13, .own 0), (76, .v (.slice a n c)), (77, .v (.int .i64 n)), (78, .v (.int .i64 j))], [(0, .row 3 1 (iRows G.flatten))], 1⟩,
              fun j H' => Le H6 H' ∧ j ≤ l.length, fun j => l.length - j, ⟨0, [(0, 0)], ?_, Le.refl _, Nat.zero_le _⟩, ?_⟩
            · (repeat' (first | exact trivial | refine ⟨?_, ?_⟩ | exact rfl | assumption))
            rintro j H7 hle7 ⟨_, hj⟩
            have hle07 := (hle.trans hle6).trans hle7
            refine ⟨fun h => ?_, fun h => ?_⟩
            · have hjl : j < l.length := by have := dt h; omega
              refine name_k l[j] fun e hee => ?_
              have hge : l[j]? = some e := by rw [hee]; exact List.getElem?_eq_getElem hjl
              have hel : e ∈ l := List.mem_of_getElem? hge
              refine edge_elem_k (ha.up hle07) hge fun ad q1 hh => ?_
              refine ⟨ad, ⟨by omega, by omega, q1⟩, ?_⟩
              refine ⟨_, hh, ?_⟩
              have hed := hP.edges e hel
              have he1 := dt hed.1
              have he2 := dt hed.2
              have hri := hrise hel
              refine ⟨some ([], [0, 1, 2, 3, 4, 5, 6, 7, 8, 9, 10]), by kernel_rfl, ?_⟩
              refine int_at_k (((hr4.up hle5).up hle6).up hle7) he1.1 (by omega) fun ad1 p1 hh1 => ?_
              refine ⟨ad1, ⟨by omega, by omega, p1⟩, ?_⟩
              refine ⟨_, hh1, ?_⟩
              refine int_at_k (((hr4.up hle5).up hle6).up hle7) he2.1 (by omega) fun ad2 p2 hh2 => ?_
              refine ⟨ad2, ⟨by omega, by omega, p2⟩, ?_⟩
              refine ⟨_, hh2, ?_⟩
              refine ⟨fun h => absurd (dt h) (by omega), fun _ => ?_⟩
              refine ⟨⟨by omega, by omega⟩, j + 1, [(0, 0)], ?_, ⟨hle7, hjl⟩, by dsimp only; omega⟩
              (repeat' (first | exact trivial | refine ⟨?_, ?_⟩ | exact rfl | assumption))
            · intro v H8 hle8 hv
              refine rI_k hv (fun x hx => by have := dt (hGn x hx); exact ⟨by omega, by omega⟩) fun a8 n8 c8 ev hr8 => ?_
              rw [ev]
              refine refIs_spec (by omega) (by omega) hr8 ?_
              have hGf : G.flatten.length = m.toNat := by
                have h2 := nodup_sub (l := nodesL m.toNat) (l' := G.flatten) ((nodesL_strict _).imp fun h e => by rw [e] at h; exact absurd h (Int.lt_irrefl _)) (fun x hx => (g2 x).2 ((hqm x).2 (nodesL_mem.1 hx)))
                rw [nodesL_len] at h2
                omega
              exact kbool (hK _ hle07) (isE_all (by omega) hGf fun x hx => (g2 x).2 ((hqm x).2 hx)).symm
        · refine seeds_spec (by omega) (by omega) (ha.up hle4) (hb.up hle4) (fun h => by rw [hmay] at h; cases h) (fun _ _ => ?_) (fun _ h => absurd h he)
          refine ⟨fun _ => ?_, fun h => by simp at h⟩
          refine ⟨fun _ => ?_, fun h => absurd (nf h) he⟩
          exact kbool (hK _ hle4) (by simp)
      · have hr : rightE m l = false := by simpa using hr
        have he1 : errE m l f = 1 := by rw [errE, hr]; rfl
        refine owners_spec (by omega) ha (fun _ => ?_) (fun _ h => by rw [hr] at h; cases h)
        refine seeds_spec (by omega) (by omega) ha hb (fun h => by rw [hmay] at h; cases h) (fun _ _ => ?_) (fun _ h => by rw [he1] at h; cases h)
        refine ⟨fun h => by simp at h, fun _ => ?_⟩
        exact kbool (hK _ (Le.refl H)) (by simp)
    · have hmay : mayB w = false := by simpa using hmay
      refine owners_spec (by omega) ha (fun _ => ?_) (fun h => by rw [hmay] at h; cases h)
      refine seeds_spec (by omega) (by omega) ha hb (fun _ => ?_) (fun h => by rw [hmay] at h; cases h) (fun h => by rw [hmay] at h; cases h)
      refine ⟨fun h => by simp at h, fun _ => ?_⟩
      exact kbool (hK _ (Le.refl H)) (by simp)
end Go.Proofs
end
