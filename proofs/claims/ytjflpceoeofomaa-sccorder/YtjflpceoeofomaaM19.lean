/- Part 'M19' of the proof (Z1): lemmas, each with its own conditions in its own statement. -/
import Derived.Test.YtjflpceoeofomaaM18
namespace Go.Proofs
open Go.Sy
set_option maxRecDepth 20000
set_option maxHeartbeats 2000000
/-- An edge from part to part leads forward. -/
theorem rise {m : Int} (hm0 : 0 ≤ m) {l : List Edg} {pa out : List (List Int)} (hP : AllP m l pa) (ho : IsOrd l pa out) (hlen : out.length = pa.length) {e : Edg} (he : e ∈ l) :
    0 ≤ ig (whichK m.toNat out out.length) e.1 ∧ ig (whichK m.toNat out out.length) e.2 < out.length ∧ (ig (whichK m.toNat out out.length) e.1 ≠ ig (whichK m.toNat out out.length) e.2 → ig (whichK m.toNat out out.length) e.1 < ig (whichK m.toNat out out.length) e.2) := by
  have hN := toNat_nat m hm0
  obtain ⟨f1, f2⟩ := ord_flat hP ho
  have hon : ∀ x ∈ out.flatten, nodeI m.toNat x = true := by rw [hN]; exact f2
  have hmem := isOrd_mem ho
  have hall : ∀ p ∈ pa, p ∈ out := fun p hp => by
    by_cases hpo : p ∈ out
    · exact hpo
    · exfalso
      have := nodup_sub (l := p :: out) (l' := pa) (List.nodup_cons.2 ⟨hpo, isOrd_nodup ho⟩) (fun q hq => by
        rcases List.mem_cons.1 hq with rfl | hq
        · exact hp
        · exact hmem q hq)
      rw [List.length_cons] at this
      omega
  have hex : ∀ x, nodeI m x = true → ∃ (i : Nat), ∃ h : i < out.length, x ∈ out[i] ∧ ig (whichK m.toNat out out.length) x = i := fun x hx => by
    obtain ⟨p, hp, hxp⟩ := List.mem_flatten.1 (hP.all x hx)
    obtain ⟨i, hi, hip⟩ := List.getElem_of_mem (hall p hp)
    exact ⟨i, hi, by rw [hip]; exact hxp, whichK_get hon f1 out.length hi (List.getElem?_eq_getElem hi) x (by rw [hip]; exact hxp)⟩
  obtain ⟨k1, k2⟩ := hP.edges e he
  obtain ⟨i, hi, hxi, gi⟩ := hex e.1 k1
  obtain ⟨j, hj, hyj, gj⟩ := hex e.2 k2
  rw [gi, gj]
  refine ⟨by omega, by omega, fun hne => ?_⟩
  have hfr := (ho j hj).free e he hyj
  rcases hfr with hfr | hfr
  · have := flat_disj f1 (List.getElem?_eq_getElem hi) (List.getElem?_eq_getElem hj) hxi hfr
    omega
  · obtain ⟨q, hq, hxq⟩ := List.mem_flatten.1 hfr
    obtain ⟨k, hk, hkq⟩ := List.getElem_of_mem hq
    rw [List.length_take] at hk
    rw [List.getElem_take] at hkq
    have := flat_disj f1 (List.getElem?_eq_getElem hi) (List.getElem?_eq_getElem (by omega : k < out.length)) hxi (hkq ▸ hxq)
    omega
theorem rise_reach {M : Int} {b : List Edg} (hb : ∀ e ∈ b, e.1 < e.2) {x y : Int} (h : Rch (gnx M b) x y) : x ≤ y := by
  induction h with
  | refl => exact Int.le_refl _
  | step _ hz ih =>
    have := hb _ (nxt_mem.1 (gnx_mem.1 hz)).1
    dsimp only at this
    omega
theorem no_round {M : Int} {b : List Edg} (hM : 0 ≤ M) (hb : ∀ e ∈ b, e.1 < e.2) {pa : List (List Int)} (hP : AllP M b pa) : (decide ((pa.length : Int) < M) || b.any selfE) = false := by
  rw [round_law hM hP, List.any_eq_false]
  intro e he h
  have h1 := dt h
  have := rise_reach hb ((reachD_mem (hP.edges e he).2 e.1).1 h1)
  have := hb e he
  omega
theorem flat_take {out : List (List Int)} {i : Nat} (h : i < out.length) : (out.take (i + 1)).flatten = (out.take i).flatten ++ out[i] := by
  rw [List.take_add_one, List.getElem?_eq_getElem h, Option.toList_some, List.flatten_append, List.flatten_singleton]
theorem flat_sub {out : List (List Int)} {i : Nat} (h : i < out.length) : ((out.take i).flatten ++ out[i]).Sublist out.flatten := by
  rw [← flat_take h]
  have : out.flatten = (out.take (i + 1)).flatten ++ (out.drop (i + 1)).flatten := by rw [← List.flatten_append, List.take_append_drop]
  rw [this]
  exact List.sublist_append_left _ _
theorem SccOrder_spec {m : Int} {l : List Edg} {a : Option Addr} {n c : Nat} {H : Hp} {K : Value → Hp → Prop} (ha : RL H a n c l) (hK : ∀ H', Le H H' → K (.bool true) H') : Does Try.prog 12 [.int .i64 m, .slice a n c] H K := by
  have hn := ha.n_eq
  refine spec_of cx_ok cx_mix rfl Try.func12 Try.call12 Try.ntmps12 Try.results12 rfl rfl ?_
  refine awake13_spec fun _ _ => ?_
  refine ⟨(fun h => by cases h), fun _ => ?_⟩
  refine ⟨fun h => ?_, fun h => ?_⟩
  · have g1 : ¬ m > 60 := df h
    refine ⟨fun h => ?_, fun h => ?_⟩
    · exact hK _ (Le.refl H)
    · have g2 : ¬ (n : Int) > 120 := df h
      refine of_spec (by omega) ha (fun hr => ?_) (fun hr a3 n3 c3 pa out H3 hle3 hb hP ho hlen => ?_)
      · refine ⟨fun _ => ?_, fun h => by simp at h⟩
        exact kbool (hK _ (Le.refl H)) (by simp)
      · obtain ⟨hm1, hm2, hl2⟩ := right_ok hr
        have hn3 := hb.n_eq
        have hmx3 := hb.le
        have hN : ((m.toNat : Nat) : Int) = m := toNat_nat m (by omega)
        have hpl : pa.length ≤ 1000000 := parts_len hP.tp (by omega)
        have hof := ord_flat hP ho
        have hmem := isOrd_mem ho
        refine ⟨fun h => by simp at h, fun _ => ?_⟩
        refine ⟨⟨rfl, by omega, by show m * 8 ≤ _; omega, by omega⟩, ?_⟩
        refine ⟨Nat × List Int, fun q => ⟨[(0, .v (.int .i64 m)), (1, .v (.slice a n c)), (5, .v (.slice a3 n3 c3)), (7, .own 0), (40, .v (.slice a3 n3 c3)), (41, .v (.int .i64 n3)), (42, .v (.int .i64 q.1))], [(0, .row 3 1 (iRows q.2))], 1⟩,
          fun q H' => H' = H3 ∧ q.1 ≤ out.length ∧ q.2 = ldL (List.replicate m.toNat 0) (out.take q.1).flatten, fun q => out.length - q.1, ⟨(0, List.replicate m.toNat 0), [(0, 0)], ?_, rfl, Nat.zero_le _, rfl⟩, ?_⟩
        · have e1 := iRows_rep m.toNat
          (repeat' (first | exact trivial | refine ⟨?_, ?_⟩ | exact rfl | assumption))
        rintro ⟨i, L⟩ H4 _ ⟨rfl, hi, hL⟩
        dsimp only at hi hL
        refine ⟨fun h => ?_, fun h => ?_⟩
        · have hlt : i < out.length := by have := dt h; dsimp only at this; omega
          have hpi : out[i]? = some out[i] := List.getElem?_eq_getElem hlt
          have hok := hP.tp.ok _ (hmem _ (List.getElem_mem hlt))
          have hnd := hof.1.sublist (flat_sub hlt)
          have hft := flat_take hlt
          refine list_elem_k hb hpi fun ad a1 n1 c1 q1 hh hr1 => ?_
          have hn1 := hr1.n_eq
          have hmx1 := hr1.le
          refine ⟨ad, ⟨by dsimp only; omega, by dsimp only; omega, q1⟩, ?_⟩
          refine ⟨_, hh, ?_⟩
          refine ⟨Nat × List Int, fun q => ⟨[(0, .v (.int .i64 m)), (1, .v (.slice a n c)), (5, .v (.slice a3 n3 c3)), (7, .own 0), (40, .v (.slice a3 n3 c3)), (41, .v (.int .i64 n3)), (42, .v (.int .i64 i)), (9, .v (.slice a1 n1 c1)), (46, .v (.slice a1 n1 c1)), (47, .v (.int .i64 n1)), (48, .v (.int .i64 q.1))], [(0, .row 3 1 (iRows q.2))], 1⟩,
            fun q H' => H' = H4 ∧ q.1 ≤ out[i].length ∧ q.2 = ldL L (out[i].take q.1), fun q => out[i].length - q.1, ⟨(0, L), [(0, 0)], ?_, rfl, Nat.zero_le _, rfl⟩, ?_⟩
          · (repeat' (first | exact trivial | refine ⟨?_, ?_⟩ | exact rfl | assumption))
          rintro ⟨j, L2⟩ H5 _ ⟨rfl, hj, hL2⟩
          dsimp only at hj hL2
          have hLl2 : L2.length = m.toNat := by rw [hL2, ldL_len, hL, ldL_len, List.length_replicate]
          refine ⟨fun h => ?_, fun h => ?_⟩
          · have hltj : j < out[i].length := by have := dt h; dsimp only at this; omega
            have hv := dt (hof.2 _ (List.mem_flatten.2 ⟨_, List.getElem_mem hlt, List.getElem_mem hltj⟩))
            have hstj : ldL L (out[i].take (j + 1)) = ldS L2 out[i][j] := by rw [hL2, ldL, take_step _ _ (List.getElem?_eq_getElem hltj)]; rfl
            have hcnt : 0 ≤ ig L2 out[i][j] ∧ ig L2 out[i][j] ≤ 1000000 := by
              have e : L2 = ldL (List.replicate m.toNat 0) ((out.take i).flatten ++ out[i].take j) := by rw [hL2, hL, ldL, ldL, ldL, List.foldl_append]
              have h1 := ldL_get ((out.take i).flatten ++ out[i].take j) (List.replicate m.toNat 0) (x := out[i][j]) hv.1 (by rw [List.length_replicate]; omega)
              rw [rep_ig, ← e] at h1
              have h2 : ((out.take i).flatten ++ out[i].take j).Nodup := hnd.sublist ((List.Sublist.refl _).append (List.take_sublist _ _))
              have h3 := List.nodup_iff_count.1 h2 out[i][j]
              omega
            refine int_elem_k hr1 (List.getElem?_eq_getElem hltj) fun ad2 q2 hh2 => ?_
            refine ⟨ad2, ⟨by dsimp only; omega, by dsimp only; omega, q2⟩, ?_⟩
            refine ⟨_, hh2, ?_⟩
            refine ⟨fun _ => ?_, fun h => absurd (dt h) (by omega)⟩
            refine ⟨fun _ => ?_, fun h => absurd (dt h) (by omega)⟩
            refine ⟨fun h => ?_, fun h => ?_⟩
            · have hj0 : (j : Int) > 0 := dt h
              have hlj : j - 1 < out[i].length := by omega
              have hlt2 : out[i][j - 1] < out[i][j] := List.pairwise_iff_getElem.1 hok.str (j - 1) j hlj hltj (by omega)
              refine int_elem_k hr1 (List.getElem?_eq_getElem hlj) fun ad6 q6 hh6 => ?_
              have ej : (((j - 1 : Nat)) : Int) = (j : Int) - 1 := by omega
              rw [ej] at hh6
              refine ⟨⟨by (try dsimp only); omega, by (try dsimp only); omega⟩, ?_⟩
              refine ⟨ad6, ⟨by (try dsimp only); omega, by (try dsimp only); omega, q6⟩, ?_⟩
              refine ⟨_, hh6, ?_⟩
              refine ⟨fun h => absurd (dt h) (by omega), fun _ => ?_⟩
              refine ⟨⟨by (try dsimp only); omega, by (try dsimp only); rw [iRows_len]; (try dsimp only); omega⟩, ?_⟩
              refine ⟨_, iRows_at (L := L2) hv.1 (by omega), ?_⟩
              refine ⟨⟨by omega, by omega⟩, ?_⟩
              refine ⟨⟨by (try dsimp only); omega, by (try dsimp only); rw [iRows_len]; (try dsimp only); omega⟩, ?_⟩
              refine ⟨_, iRows_at (L := L2) hv.1 (by omega), ?_⟩
              have e1 : (iRows L2).set out[i][j].toNat [.int .i64 (ig L2 out[i][j] + 1)] = iRows (ldS L2 out[i][j]) := by rw [ldS, if_pos ⟨hv.1, by omega⟩]; exact iRows_set _ _ _
              refine ⟨⟨by (try dsimp only); omega, by (try dsimp only); omega⟩, (j + 1, ldS L2 out[i][j]), [(0, 0)], ?_, ⟨rfl, by dsimp only; omega, hstj.symm⟩, by dsimp only; omega⟩
              (repeat' (first | exact trivial | refine ⟨?_, ?_⟩ | exact rfl | assumption))
            ·
              refine ⟨⟨by (try dsimp only); omega, by (try dsimp only); rw [iRows_len]; (try dsimp only); omega⟩, ?_⟩
              refine ⟨_, iRows_at (L := L2) hv.1 (by omega), ?_⟩
              refine ⟨⟨by omega, by omega⟩, ?_⟩
              refine ⟨⟨by (try dsimp only); omega, by (try dsimp only); rw [iRows_len]; (try dsimp only); omega⟩, ?_⟩
              refine ⟨_, iRows_at (L := L2) hv.1 (by omega), ?_⟩
              have e1 : (iRows L2).set out[i][j].toNat [.int .i64 (ig L2 out[i][j] + 1)] = iRows (ldS L2 out[i][j]) := by rw [ldS, if_pos ⟨hv.1, by omega⟩]; exact iRows_set _ _ _
              refine ⟨⟨by (try dsimp only); omega, by (try dsimp only); omega⟩, (j + 1, ldS L2 out[i][j]), [(0, 0)], ?_, ⟨rfl, by dsimp only; omega, hstj.symm⟩, by dsimp only; omega⟩
              (repeat' (first | exact trivial | refine ⟨?_, ?_⟩ | exact rfl | assumption))
          · have hjl : j = out[i].length := by have := df h; dsimp only at this; omega
            rw [hjl, List.take_length] at hL2
            refine ⟨⟨by (try dsimp only); omega, by (try dsimp only); omega⟩, (i + 1, L2), [(0, 0)], ?_, ⟨rfl, by dsimp only; omega, ?_⟩, by dsimp only; omega⟩
            · (repeat' (first | exact trivial | refine ⟨?_, ?_⟩ | exact rfl | assumption))
            · dsimp only
              rw [hft, hL2, hL, ldL, ldL, ldL, List.foldl_append]
        · have hil : i = out.length := by have := df h; dsimp only at this; omega
          rw [hil, List.take_length] at hL
          have hLl : L.length = m.toNat := by rw [hL, ldL_len, List.length_replicate]
          have hel := iRows_len L
          have hone : ∀ x, nodeI m x = true → ig L x = 1 := fun x hx => by
            have h1 := dt hx
            have h2 := ldL_get out.flatten (List.replicate m.toNat 0) (x := x) h1.1 (by rw [List.length_replicate]; omega)
            rw [rep_ig, ← hL] at h2
            have h3 := List.nodup_iff_count.1 hof.1 x
            have h4 : x ∈ out.flatten := by
              obtain ⟨p, hp, hxp⟩ := List.mem_flatten.1 (hP.all x hx)
              by_cases hpo : p ∈ out
              · exact List.mem_flatten.2 ⟨p, hpo, hxp⟩
              · exfalso
                have := nodup_sub (l := p :: out) (l' := pa) (List.nodup_cons.2 ⟨hpo, isOrd_nodup ho⟩) (fun q hq => by
                  rcases List.mem_cons.1 hq with rfl | hq
                  · exact hp
                  · exact hmem q hq)
                rw [List.length_cons] at this
                omega
            have h5 := List.count_pos_iff.2 h4
            omega
          refine ⟨Nat, fun k => ⟨[(0, .v (.int .i64 m)), (1, .v (.slice a n c)), (5, .v (.slice a3 n3 c3)), (81, .own 0), (82, .v (.int .i64 L.length)), (83, .v (.int .i64 k))], [(0, .row 3 1 (iRows L))], 1⟩,
            fun k H' => H' = H4 ∧ k ≤ L.length, fun k => L.length - k, ⟨0, [(0, 0)], ?_, rfl, Nat.zero_le _⟩, ?_⟩
          · have e82 : SV.v (.int .i64 ((iRows L).length : Nat)) = SV.v (.int .i64 (L.length : Nat)) := by rw [hel]
            (repeat' (first | exact trivial | refine ⟨?_, ?_⟩ | exact rfl | assumption))
          rintro k H5 _ ⟨rfl, hk⟩
          refine ⟨fun h => ?_, fun h => ?_⟩
          · have hltk : k < L.length := by have := dt h; omega
            have hk1 := hone (k : Int) (decide_eq_true (by omega))
            refine ⟨⟨by omega, by omega⟩, ?_⟩
            refine ⟨_, iRows_at (L := L) (x := (k : Int)) (by omega) (by omega), ?_⟩
            refine ⟨fun h => absurd hk1 (nt h), fun _ => ?_⟩
            refine ⟨⟨by omega, by omega⟩, k + 1, [(0, 0)], ?_, ⟨rfl, by omega⟩, by dsimp only; omega⟩
            (repeat' (first | exact trivial | refine ⟨?_, ?_⟩ | exact rfl | assumption))
          · refine between_spec (by omega) (ha.up hle3) (fun hr2 => absurd hr (by rw [hr2]; decide)) (fun _ a5 n5 c5 pa5 out5 H6 hle6 hP5 ho5 hlen5 hb5 => ?_)
            have e5 : out5 = out := ord_one hP5 hP ho5 ho hlen5 hlen
            rw [e5] at hb5
            have hn5 := hb5.n_eq
            have hmx5 := hb5.le
            obtain ⟨B, hB⟩ : ∃ B, B = gSort (btL (whichK m.toNat out out.length) l) := ⟨_, rfl⟩
            rw [← hB] at hb5 hn5
            have hBr : ∀ e ∈ B, 0 ≤ e.1 ∧ e.2 < out.length ∧ e.1 < e.2 := fun e he => by
              rw [hB, gSort_mem] at he
              obtain ⟨x, hx, rfl⟩ := List.mem_map.1 he
              obtain ⟨h1, h2⟩ := List.mem_filter.1 hx
              obtain ⟨k1, k2, k3⟩ := rise (by omega) hP ho hlen h1
              exact ⟨k1, k2, k3 (by simpa using h2)⟩
            have hBl : B.length ≤ 1000 := by
              have h1 := gSort_len (btL (whichK m.toNat out out.length) l)
              have h2 := btL_len (whichK m.toNat out out.length) l
              rw [hB]; omega
            refine ⟨Nat, fun k => ⟨[(5, .v (.slice a3 n3 c3)), (14, .v (.slice a5 n5 c5)), (96, .v (.slice a5 n5 c5)), (97, .v (.int .i64 n5)), (98, .v (.int .i64 k))], [], 0⟩,
              fun k H' => H' = H6 ∧ k ≤ B.length, fun k => B.length - k, ⟨0, [], ?_, rfl, Nat.zero_le _⟩, ?_⟩
            · (repeat' (first | exact trivial | refine ⟨?_, ?_⟩ | exact rfl | assumption))
            rintro k H7 _ ⟨rfl, hk⟩
            refine ⟨fun h => ?_, fun h => ?_⟩
            · have hltk : k < B.length := by have := dt h; omega
              have hbk := hBr _ (List.getElem_mem hltk)
              refine edge_elem_k hb5 (List.getElem?_eq_getElem hltk) fun ad q1 hh => ?_
              refine ⟨ad, ⟨by omega, by omega, q1⟩, ?_⟩
              refine ⟨_, hh, ?_⟩
              refine ⟨fun _ => ?_, fun h => absurd (dt h) (by omega)⟩
              refine ⟨fun _ => ?_, fun h => absurd (dt h) (by omega)⟩
              refine ⟨fun h => absurd (dt h) (by omega), fun _ => ?_⟩
              refine ⟨⟨by omega, by omega⟩, k + 1, [], ?_, ⟨rfl, by omega⟩, by dsimp only; omega⟩
              (repeat' (first | exact trivial | refine ⟨?_, ?_⟩ | exact rfl | assumption))
            · have hend := hK _ (hle3.trans hle6)
              refine ⟨fun h => ?_, fun h => ?_⟩
              · refine ⟨fun h => ?_, fun h => ?_⟩
                ·
                  refine round_spec (m := (n3 : Int)) (l := B) (by omega) hb5 (fun _ => kbool hend (by simp)) (fun _ pa9 H9 hle9 hP9 => ?_)
                  exact kbool hend (by rw [no_round (by omega) (fun e he => (hBr e he).2.2) hP9]; rfl)
                · exact hend
              ·
                refine round_spec (m := (n3 : Int)) (l := B) (by omega) hb5 (fun _ => kbool hend (by simp)) (fun _ pa9 H9 hle9 hP9 => ?_)
                exact kbool hend (by rw [no_round (by omega) (fun e he => (hBr e he).2.2) hP9]; rfl)
  · exact hK _ (Le.refl H)
end Go.Proofs
