/- Part 'R3' of the proof: lemmas, each with its own conditions in its own statement. -/
import Derived.Test.YtjflpceoeofomaaR1
import Derived.Test.YtjflpceoeofomaaR2
namespace Go.Proofs
open Go.Sy
set_option maxRecDepth 20000
set_option maxHeartbeats 4000000
abbrev bRows (M : List Bool) : List (List Value) := M.map fun b => [.bool b]
theorem bRows_get {M : List Bool} {x : Int} (h0 : 0 ≤ x) (h : x < M.length) : (bRows M)[x.toNat]? = some [.bool (bget M x)] := by
  have : x.toNat < M.length := by omega
  rw [List.getElem?_map, bget, List.getElem?_eq_getElem this]; rfl
theorem bRows_set (M : List Bool) (i : Nat) (b : Bool) : (bRows M).set i [.bool b] = bRows (M.set i b) := (List.map_set).symm
theorem bRows_len (M : List Bool) : (bRows M).length = M.length := List.length_map _
theorem bRows_rep (k : Nat) : List.replicate k [Value.bool false] = bRows (List.replicate k false) := by rw [bRows, List.map_replicate]
theorem rreached_spec {m : Int} (h0 : 0 ≤ m) (hm : m ≤ 1000) {l : List Edg} (hl : l.length ≤ 100000) {f : List Int} (hf : f.length ≤ 100000) {a a3 : Option Addr} {n c n3 c3 : Nat} {H : Hp} {K : Value → Hp → Prop} (ha : RL H a n c l) (hb : RL H a3 n3 c3 f)
    (hK : ∀ a1 n1 c1 R H', Le H H' → RL H' a1 n1 c1 R → StrictL R → IsReach m l f R → K (.slice a1 n1 c1) H') : Does Try.prog 46 [.int .i64 m, .slice a n c, .slice a3 n3 c3] H K := by
  have hn := ha.n_eq
  have hn3 := hb.n_eq
  obtain ⟨M0, hM0⟩ : ∃ M0, M0 = List.replicate m.toNat false := ⟨_, rfl⟩
  have hl0 : M0.length = m.toNat := by rw [hM0, List.length_replicate]
  refine spec_of cx_ok cx_mix rfl Try.func46 Try.call46 Try.ntmps46 Try.results46 rfl rfl ?_
  refine ⟨⟨rfl, by omega, by show m * 1 ≤ _; omega, by omega⟩, ?_⟩
  refine ⟨Nat × List Bool, fun q => ⟨[(0, .v (.int .i64 m)), (1, .v (.slice a n c)), (7, .own 0), (17, .v (.slice a3 n3 c3)), (18, .v (.int .i64 n3)), (19, .v (.int .i64 q.1))], [(0, .row 4 1 (bRows q.2))], 1⟩,
    fun q H' => H' = H ∧ q.1 ≤ f.length ∧ q.2 = marks m (f.take q.1) M0, fun q => f.length - q.1, ⟨(0, M0), [(0, 0)], ?_, rfl, by dsimp only; omega, rfl⟩, ?_⟩
  · have erow : List.replicate m.toNat [Value.bool false] = bRows M0 := by rw [bRows_rep, ← hM0]
    (repeat' (first | exact trivial | refine ⟨?_, ?_⟩ | exact rfl | assumption))
  rintro ⟨i, M⟩ H1 _ ⟨rfl, hi, hM⟩
  dsimp only at hi hM
  have hlM : M.length = m.toNat := by rw [hM, marks_len, hl0]
  refine ⟨fun h => ?_, fun h => ?_⟩
  · have hlt : i < f.length := by have := dt h; dsimp only at this; omega
    obtain ⟨ad, cs, q1, hh, r1⟩ := hb.elem (List.getElem?_eq_getElem hlt)
    obtain ⟨rfl, hr1, hr2⟩ := r1
    have hst : marks m (f.take (i + 1)) M0 = mark m M f[i] := by rw [hM, marks, take_step _ _ (List.getElem?_eq_getElem hlt)]; rfl
    refine ⟨ad, ⟨by omega, by omega, q1⟩, ?_⟩
    refine ⟨_, hh, ?_⟩
    refine ⟨fun h => ?_, fun h => ?_⟩
    · have h1 : 0 ≤ f[i] := dt h
      refine ⟨fun h => ?_, fun h => ?_⟩
      · have h2 : f[i] < m := dt h
        have erow : (bRows M).set f[i].toNat [.bool true] = bRows (mark m M f[i]) := by rw [bRows_set, mark, if_pos (by exact decide_eq_true ⟨h1, h2⟩)]
        refine ⟨⟨by omega, by rw [bRows_len]; dsimp only; omega⟩, ?_⟩
        refine ⟨_, bRows_get (M := M) h1 (by omega), ?_⟩
        refine ⟨⟨by omega, by omega⟩, (i + 1, mark m M f[i]), [(0, 0)], ?_, ⟨rfl, by dsimp only; omega, hst.symm⟩, by dsimp only; omega⟩
        (repeat' (first | exact trivial | refine ⟨?_, ?_⟩ | exact rfl | assumption))
      · have h2 : ¬ f[i] < m := df h
        have erow : bRows M = bRows (mark m M f[i]) := by rw [mark, if_neg (fun h => h2 (dt h).2)]
        refine ⟨⟨by omega, by omega⟩, (i + 1, mark m M f[i]), [(0, 0)], ?_, ⟨rfl, by dsimp only; omega, hst.symm⟩, by dsimp only; omega⟩
        (repeat' (first | exact trivial | refine ⟨?_, ?_⟩ | exact rfl | assumption))
    · have h1 : ¬ 0 ≤ f[i] := df h
      have erow : bRows M = bRows (mark m M f[i]) := by rw [mark, if_neg (fun h => h1 (dt h).1)]
      refine ⟨⟨by omega, by omega⟩, (i + 1, mark m M f[i]), [(0, 0)], ?_, ⟨rfl, by dsimp only; omega, hst.symm⟩, by dsimp only; omega⟩
      (repeat' (first | exact trivial | refine ⟨?_, ?_⟩ | exact rfl | assumption))
  · have hil : i = f.length := by have := df h; dsimp only at this; omega
    obtain ⟨M1, hM1⟩ : ∃ M1, M1 = marks m f M0 := ⟨_, rfl⟩
    have hM1M : M = M1 := by rw [hM, hM1, hil, List.take_length]
    have hl1 : M1.length = m.toNat := by rw [← hM1M]; exact hlM
    refine ⟨Nat × List Bool, fun q => ⟨[(0, .v (.int .i64 m)), (1, .v (.slice a n c)), (7, .own 0), (10, .v (.int .i64 q.1))], [(0, .row 4 1 (bRows q.2))], 1⟩,
      fun q H' => H' = H1 ∧ q.1 ≤ m.toNat ∧ q.2 = rounds m l M1 q.1, fun q => m.toNat - q.1, ⟨(0, M), [(0, 0)], ?_, rfl, by dsimp only; omega, hM1M⟩, ?_⟩
    · (repeat' (first | exact trivial | refine ⟨?_, ?_⟩ | exact rfl | assumption))
    rintro ⟨k, Q⟩ H2 _ ⟨rfl, hk, hQ⟩
    dsimp only at hk hQ
    have hlQ : Q.length = m.toNat := by rw [hQ, rounds_len, hl1]
    refine ⟨fun h => ?_, fun h => ?_⟩
    · have hkm : k < m.toNat := by have := dt h; dsimp only at this; omega
      refine ⟨Nat × List Bool, fun q => ⟨[(0, .v (.int .i64 m)), (1, .v (.slice a n c)), (7, .own 0), (10, .v (.int .i64 k)), (39, .v (.slice a n c)), (40, .v (.int .i64 n)), (41, .v (.int .i64 q.1))], [(0, .row 4 1 (bRows q.2))], 1⟩,
        fun q H' => H' = H2 ∧ q.1 ≤ l.length ∧ q.2 = round m (l.take q.1) Q, fun q => l.length - q.1, ⟨(0, Q), [(0, 0)], ?_, rfl, by dsimp only; omega, rfl⟩, ?_⟩
      · (repeat' (first | exact trivial | refine ⟨?_, ?_⟩ | exact rfl | assumption))
      rintro ⟨j, R⟩ H3 _ ⟨rfl, hj, hR⟩
      dsimp only at hj hR
      have hlR : R.length = m.toNat := by rw [hR, ← (round_le m _ Q).1, hlQ]
      refine ⟨fun h => ?_, fun h => ?_⟩
      · have hlt : j < l.length := by have := dt h; dsimp only at this; omega
        obtain ⟨ad, cs, q1, hh, r1⟩ := ha.elem (List.getElem?_eq_getElem hlt)
        obtain ⟨rfl, -⟩ := edge_open r1
        have hst : round m (l.take (j + 1)) Q = relax m R l[j] := by rw [hR, round, take_step _ _ (List.getElem?_eq_getElem hlt)]; rfl
        obtain ⟨e, he⟩ : ∃ e, e = l[j] := ⟨_, rfl⟩
        rw [← he] at hh hst
        refine ⟨ad, ⟨by omega, by omega, q1⟩, ?_⟩
        refine ⟨_, hh, ?_⟩
        have hno : (nodeI m e.1 && nodeI m e.2 && bget R e.1) = false → bRows R = bRows (relax m R e) := fun h => by rw [relax, h]; rfl
        refine ⟨fun h => ?_, fun h => ?_⟩
        · have h1 : 0 ≤ e.1 := dt h
          refine ⟨fun h => ?_, fun h => ?_⟩
          · have h2 : e.1 < m := dt h
            refine ⟨fun h => ?_, fun h => ?_⟩
            · have h3 : 0 ≤ e.2 := dt h
              refine ⟨fun h => ?_, fun h => ?_⟩
              · have h4 : e.2 < m := dt h
                have g1 : nodeI m e.1 = true := decide_eq_true ⟨h1, h2⟩
                have g2 : nodeI m e.2 = true := decide_eq_true ⟨h3, h4⟩
                refine ⟨⟨by omega, by rw [bRows_len]; dsimp only; omega⟩, ?_⟩
                refine ⟨_, bRows_get (M := R) h1 (by omega), ?_⟩
                refine ⟨fun h => ?_, fun h => ?_⟩
                · have erow : (bRows R).set e.2.toNat [.bool true] = bRows (relax m R e) := by rw [bRows_set, relax, g1, g2, h]; rfl
                  refine ⟨⟨by omega, by rw [bRows_len]; dsimp only; omega⟩, ?_⟩
                  refine ⟨_, bRows_get (M := R) h3 (by omega), ?_⟩
                  refine ⟨⟨by omega, by omega⟩, (j + 1, relax m R e), [(0, 0)], ?_, ⟨rfl, by dsimp only; omega, hst.symm⟩, by dsimp only; omega⟩
                  (repeat' (first | exact trivial | refine ⟨?_, ?_⟩ | exact rfl | assumption))
                · have erow := hno (by rw [h]; simp)
                  refine ⟨⟨by omega, by omega⟩, (j + 1, relax m R e), [(0, 0)], ?_, ⟨rfl, by dsimp only; omega, hst.symm⟩, by dsimp only; omega⟩
                  (repeat' (first | exact trivial | refine ⟨?_, ?_⟩ | exact rfl | assumption))
              · have h4 : ¬ e.2 < m := df h
                have erow := hno (by rw [show nodeI m e.2 = false from decide_eq_false (fun h => h4 h.2)]; simp)
                refine ⟨⟨by omega, by omega⟩, (j + 1, relax m R e), [(0, 0)], ?_, ⟨rfl, by dsimp only; omega, hst.symm⟩, by dsimp only; omega⟩
                (repeat' (first | exact trivial | refine ⟨?_, ?_⟩ | exact rfl | assumption))
            · have h3 : ¬ 0 ≤ e.2 := df h
              have erow := hno (by rw [show nodeI m e.2 = false from decide_eq_false (fun h => h3 h.1)]; simp)
              refine ⟨⟨by omega, by omega⟩, (j + 1, relax m R e), [(0, 0)], ?_, ⟨rfl, by dsimp only; omega, hst.symm⟩, by dsimp only; omega⟩
              (repeat' (first | exact trivial | refine ⟨?_, ?_⟩ | exact rfl | assumption))
          · have h2 : ¬ e.1 < m := df h
            have erow := hno (by rw [show nodeI m e.1 = false from decide_eq_false (fun h => h2 h.2)]; simp)
            refine ⟨⟨by omega, by omega⟩, (j + 1, relax m R e), [(0, 0)], ?_, ⟨rfl, by dsimp only; omega, hst.symm⟩, by dsimp only; omega⟩
            (repeat' (first | exact trivial | refine ⟨?_, ?_⟩ | exact rfl | assumption))
        · have h1 : ¬ 0 ≤ e.1 := df h
          have erow := hno (by rw [show nodeI m e.1 = false from decide_eq_false (fun h => h1 h.1)]; simp)
          refine ⟨⟨by omega, by omega⟩, (j + 1, relax m R e), [(0, 0)], ?_, ⟨rfl, by dsimp only; omega, hst.symm⟩, by dsimp only; omega⟩
          (repeat' (first | exact trivial | refine ⟨?_, ?_⟩ | exact rfl | assumption))
      · have hjl : j = l.length := by have := df h; dsimp only at this; omega
        refine ⟨⟨by omega, by omega⟩, (k + 1, R), [(0, 0)], ?_, ⟨rfl, by dsimp only; omega, by rw [hR, hjl, List.take_length, hQ]; rfl⟩, by dsimp only; omega⟩
        (repeat' (first | exact trivial | refine ⟨?_, ?_⟩ | exact rfl | assumption))
    · have hkm : k = m.toNat := by have := df h; dsimp only at this; omega
      have hreach := told_reach m l f
      rw [← hM0, ← hM1, ← hkm, ← hQ, hkm] at hreach
      refine ⟨Nat, fun i => ⟨[(0, .v (.int .i64 m)), (7, .own 0), (13, .own 1), (14, .v (.int .i64 i))], [(0, .row 4 1 (bRows Q)), (1, .row 3 1 (iRows (told Q i)))], 2⟩,
        fun i H' => H' = H2 ∧ i ≤ m.toNat, fun i => m.toNat - i, ⟨0, [(0, 0)], ?_, rfl, by omega⟩, ?_⟩
      · (repeat' (first | exact trivial | refine ⟨?_, ?_⟩ | exact rfl | assumption))
      rintro i H3 _ ⟨rfl, hi⟩
      have htl := told_len Q i
      have htl2 : (iRows (told Q i)).length = (told Q i).length := List.length_map _
      have hsn := told_snoc Q i
      refine ⟨fun h => ?_, fun h => ?_⟩
      · have h1 : (i : Int) < m := dt h
        refine ⟨⟨by omega, by rw [bRows_len]; omega⟩, ?_⟩
        refine ⟨_, bRows_get (M := Q) (by omega) (by omega), ?_⟩
        refine ⟨fun h => ?_, fun h => ?_⟩
        · have erow : iRows (told Q i) ++ [[.int .i64 (i : Int)]] = iRows (told Q (i + 1)) := by rw [hsn, if_pos h]; simp
          refine ⟨room, ?_⟩
          refine ⟨⟨by omega, by omega⟩, i + 1, [(0, 0), (1, 3)], ?_, ⟨rfl, by omega⟩, by dsimp only; omega⟩
          (repeat' (first | exact trivial | refine ⟨?_, ?_⟩ | exact rfl | assumption))
        · have erow : iRows (told Q i) = iRows (told Q (i + 1)) := by rw [hsn, if_neg (by rw [h]; decide), List.append_nil]
          refine ⟨⟨by omega, by omega⟩, i + 1, [(0, 0), (1, 1)], ?_, ⟨rfl, by omega⟩, by dsimp only; omega⟩
          (repeat' (first | exact trivial | refine ⟨?_, ?_⟩ | exact rfl | assumption))
      · have hie : i = m.toNat := by have := df h; omega
        intro y H4 hle4 hy
        have hin : ∀ z ∈ told Q i, inI z := fun z hz => by
          rw [hie] at hz
          have := dt (told_mem.1 hz).1
          exact ⟨by omega, by omega⟩
        obtain ⟨a1, n1, c1, rfl, hr⟩ := rI_all hy hin
        rw [hie] at hr
        exact hK _ _ _ _ _ hle4 hr (told_strict Q _) hreach
end Go.Proofs
