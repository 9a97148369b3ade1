/- Part 'R8' of the proof: lemmas, each with its own conditions in its own statement. -/
import Derived.Test.YtmcopfncaehggaaR5
import Derived.Test.YtmcopfncaehggaaR6
import Derived.Test.YtmcopfncaehggaaR7
namespace Go.Proofs
open Go.Sy
set_option maxRecDepth 20000
def repH : List UInt8 := [114,101,112,111,114,116,32]
def blkH : List UInt8 := [98,108,111,99,107,32]
def inH : List UInt8 := [105,110,32]
def outH : List UInt8 := [111,117,116,32]
def endL : List UInt8 := [101,110,100,10]
def rowT (x : Row) : List UInt8 := blkH ++ x.1.l ++ [10] ++ lns inH x.2.1 ++ lns outH x.2.2
def rowsT : List Row → List UInt8
  | [] => []
  | x :: r => rowT x ++ rowsT r
def headT (r : Report) : List UInt8 := repH ++ nameOf r.1 ++ [10]
def textT (r : Report) : List UInt8 := headT r ++ rowsT r.2 ++ endL
theorem rowsT_append : ∀ l r, rowsT (l ++ r) = rowsT l ++ rowsT r
  | [], r => rfl
  | s :: l, r => by rw [List.cons_append, rowsT, rowsT, rowsT_append l r, List.append_assoc]
theorem rowsT_step {l : List Row} {i : Nat} {x : Row} (h : l[i]? = some x) : rowsT (l.take (i + 1)) = rowsT (l.take i) ++ rowT x := by
  rw [List.take_add_one, h, rowsT_append]
  simp [rowsT]
theorem rowsT_le (l : List Row) (i : Nat) : (rowsT (l.take i)).length ≤ (rowsT l).length := by
  have := rowsT_append (l.take i) (l.drop i)
  rw [List.take_append_drop] at this
  rw [this, List.length_append]; omega
theorem lns_bound (head : List UInt8) : ∀ l : List Str, (∀ s ∈ l, s.l.length ≤ 60) → (lns head l).length ≤ l.length * (head.length + 61)
  | [], _ => by simp [lns]
  | s :: r, h => by
    have ih := lns_bound head r fun x hx => h x (List.mem_cons_of_mem _ hx)
    have h1 := h s List.mem_cons_self
    rw [lns]
    simp only [List.length_append, List.length_nil, List.length_cons, Nat.add_mul]
    omega
theorem rowT_bound {x : Row} (h : smallR x) : (rowT x).length ≤ 2000 := by
  obtain ⟨h1, h2, h3, h4⟩ := h
  have a1 := lns_bound inH x.2.1 fun s hs => h4 s (List.mem_append_left _ hs)
  have a2 := lns_bound outH x.2.2 fun s hs => h4 s (List.mem_append_right _ hs)
  have e1 : inH.length = 3 := rfl
  have e2 : outH.length = 4 := rfl
  have e3 : blkH.length = 6 := rfl
  rw [e1] at a1
  rw [e2] at a2
  rw [rowT]
  simp only [List.length_append, List.length_singleton, e3]
  omega
theorem rowsT_bound : ∀ l : List Row, (∀ x ∈ l, smallR x) → (rowsT l).length ≤ l.length * 2000
  | [], _ => by simp [rowsT]
  | x :: r, h => by
    have ih := rowsT_bound r fun y hy => h y (List.mem_cons_of_mem _ hy)
    have h1 := rowT_bound (h x List.mem_cons_self)
    rw [rowsT, List.length_append, List.length_cons, Nat.add_mul]
    omega
theorem nameOf_len (k : Int) : (nameOf k).length ≤ 5 := by
  unfold nameOf
  split
  · decide
  · split
    · decide
    · split
      · decide
      · split <;> decide
theorem headT_len (r : Report) : (headT r).length ≤ 13 := by
  have := nameOf_len r.1
  have e : repH.length = 7 := rfl
  simp only [headT, List.length_append, List.length_singleton, e]
  omega
theorem small_bound {r : Report} (h : smallP r) : (rowsT r.2).length ≤ 20000 := by
  have := rowsT_bound r.2 h.2
  have := h.1
  omega
def preB (r : Report) (i : Nat) (x : Row) : List UInt8 := headT r ++ rowsT (r.2.take i) ++ (blkH ++ x.1.l ++ [10])
def preI (r : Report) (i : Nat) (x : Row) : List UInt8 := preB r i x ++ lns inH x.2.1
theorem reftext_spec {r : Report} {H : Hp} {cs : List Value} {K : Value → Hp → Prop} (ha : Enc.R H cs r) (hs : (rowsT r.2).length ≤ 20000) (hK : K (.string (bs (textT r))) H) : Does Try.prog 20 [.agg cs.toArray] H K := by
  obtain ⟨a1, n1, c1, rfl, hl, h1⟩ := rep_open ha
  have hn1 := h1.n_eq
  have hmx := h1.le
  have hnl := nameOf_len r.1
  have hhl := headT_len r
  have hsn : (sl (bs (nameOf r.1))).length = (nameOf r.1).length := rfl
  refine spec_of cx_ok cx_mix rfl Try.func20 Try.call20 Try.ntmps20 Try.results20 rfl rfl ?_
  refine refname_spec ?_
  refine ⟨by show 7 + (sl (bs (nameOf r.1))).length ≤ _; omega, ?_⟩
  refine ⟨by show (repH ++ nameOf r.1).length + 1 ≤ _; rw [List.length_append]; have e : repH.length = 7 := rfl; omega, ?_⟩
  refine ⟨Nat, fun i => ⟨[(3, .v (.string (bs (headT r ++ rowsT (r.2.take i))))), (16, .v (.slice a1 n1 c1)), (17, .v (.int .i64 n1)), (18, .v (.int .i64 i))], [], 0⟩, fun i H' => H' = H ∧ i ≤ r.2.length, fun i => r.2.length - i, ⟨0, [], ?_, rfl, by omega⟩, ?_⟩
  · have e3 : SV.v (.string (bs (headT r))) = SV.v (.string (bs (headT r ++ rowsT (r.2.take 0)))) := by rw [List.take_zero, rowsT, List.append_nil]
    exact ⟨⟨e3, rfl, rfl, rfl, trivial⟩, trivial⟩
  rintro i H1 _ ⟨rfl, hi⟩
  have hle1 := rowsT_le r.2 i
  refine ⟨fun h => ?_, fun h => ?_⟩
  · have hlt : i < r.2.length := by have := dt h; omega
    have hx := List.getElem?_eq_getElem hlt
    have hst := rowsT_step hx
    have hle2 := rowsT_le r.2 (i + 1)
    rw [hst] at hle2
    have hrt : (rowT r.2[i]).length = 6 + r.2[i].1.l.length + 1 + (lns inH r.2[i].2.1).length + (lns outH r.2[i].2.2).length := by
      rw [rowT]; simp only [List.length_append, List.length_singleton]; rfl
    rw [List.length_append] at hle2
    have hel := h1.elem hx
    obtain ⟨ad, cs, e1, hh, r1⟩ := hel
    obtain ⟨b1, m1, d1, b2, m2, d2, ecs, hsl, p1, p2⟩ := row_open r1
    rw [ecs] at hh
    have q1 := p1.n_eq
    have q2 := p2.n_eq
    have z1 := p1.le
    have z2 := p2.le
    have hb : (sl (bs r.2[i].1.l)).length = r.2[i].1.l.length := rfl
    have hS : (sl (bs (headT r ++ rowsT (r.2.take i)))).length = (headT r).length + (rowsT (r.2.take i)).length := List.length_append
    refine ⟨ad, ⟨by omega, by omega, e1⟩, ?_⟩
    refine ⟨_, hh, ?_⟩
    refine ⟨by show 6 + (sl (bs r.2[i].1.l)).length ≤ _; omega, ?_⟩
    refine ⟨by show (blkH ++ r.2[i].1.l).length + 1 ≤ _; rw [List.length_append]; have e : blkH.length = 6 := rfl; omega, ?_⟩
    refine ⟨by show (sl (bs (headT r ++ rowsT (r.2.take i)))).length + (blkH ++ r.2[i].1.l ++ [10]).length ≤ _; rw [List.length_append, List.length_append]; have e : blkH.length = 6 := rfl; simp only [List.length_singleton]; omega, ?_⟩
    have hSd : (preB r i r.2[i]) = headT r ++ rowsT (r.2.take i) ++ (blkH ++ r.2[i].1.l ++ [10]) := rfl
    have hSl : (preB r i r.2[i]).length = (headT r).length + (rowsT (r.2.take i)).length + (6 + r.2[i].1.l.length + 1) := by
      rw [hSd]; simp only [List.length_append, List.length_singleton]; rfl
    have e3 : SV.v (.string (bs (headT r ++ rowsT (r.2.take i) ++ (blkH ++ r.2[i].1.l ++ [10])))) = SV.v (.string (bs ((preB r i r.2[i]) ++ lns inH (r.2[i].2.1.take 0)))) := by rw [List.take_zero, lns, List.append_nil, hSd]
    refine ⟨Nat, fun j => ⟨[(3, .v (.string (bs ((preB r i r.2[i]) ++ lns inH (r.2[i].2.1.take j))))), (5, .ptr 0 0), (16, .v (.slice a1 n1 c1)), (17, .v (.int .i64 n1)), (18, .v (.int .i64 i)), (29, .v (.slice b1 m1 d1)), (30, .v (.int .i64 m1)), (31, .v (.int .i64 j))], [(0, .cells 62 [.v (.string (bs r.2[i].1.l)), .v (.slice b1 m1 d1), .v (.slice b2 m2 d2)])], 1⟩, fun j H' => H' = H1 ∧ j ≤ r.2[i].2.1.length, fun j => r.2[i].2.1.length - j, ⟨0, [(0, 0)], ?_, rfl, by omega⟩, ?_⟩
    · exact ⟨⟨e3, ⟨rfl, rfl⟩, rfl, rfl, rfl, rfl, rfl, rfl, trivial⟩, ⟨⟨rfl, rfl, rfl, trivial⟩, trivial⟩⟩
    rintro j H2 _ ⟨rfl, hj⟩
    have hlj := lns_le inH r.2[i].2.1 j
    have hSj : (sl (bs ((preB r i r.2[i]) ++ lns inH (r.2[i].2.1.take j)))).length = (preB r i r.2[i]).length + (lns inH (r.2[i].2.1.take j)).length := List.length_append
    refine ⟨fun h => ?_, fun h => ?_⟩
    · have hjl : j < r.2[i].2.1.length := by have := dt h; omega
      have hxj := List.getElem?_eq_getElem hjl
      have hst2 := lns_step inH hxj
      have hlj2 := lns_le inH r.2[i].2.1 (j + 1)
      rw [hst2] at hlj2
      have hin : (inH ++ (r.2[i].2.1[j]).l ++ [10]).length = 3 + (r.2[i].2.1[j]).l.length + 1 := by simp only [List.length_append, List.length_singleton]; rfl
      rw [List.length_append, hin] at hlj2
      have hel2 := p1.elem hxj
      obtain ⟨ad2, cs2, e12, hh2, r12⟩ := hel2
      rw [str_open' r12] at hh2
      have hb2 : (sl (bs (r.2[i].2.1[j]).l)).length = (r.2[i].2.1[j]).l.length := rfl
      refine ⟨ad2, ⟨by omega, by omega, e12⟩, ?_⟩
      refine ⟨_, hh2, ?_⟩
      refine ⟨by show 3 + (sl (bs (r.2[i].2.1[j]).l)).length ≤ _; omega, ?_⟩
      refine ⟨by show (inH ++ (r.2[i].2.1[j]).l).length + 1 ≤ _; rw [List.length_append]; have e : inH.length = 3 := rfl; omega, ?_⟩
      refine ⟨by show (sl (bs ((preB r i r.2[i]) ++ lns inH (r.2[i].2.1.take j)))).length + (inH ++ (r.2[i].2.1[j]).l ++ [10]).length ≤ _; omega, ?_⟩
      have e4 : SV.v (.string (bs ((preB r i r.2[i]) ++ lns inH (r.2[i].2.1.take j) ++ (inH ++ (r.2[i].2.1[j]).l ++ [10])))) = SV.v (.string (bs ((preB r i r.2[i]) ++ lns inH (r.2[i].2.1.take (j + 1))))) := by rw [hst2, List.append_assoc]
      refine ⟨⟨by omega, by omega⟩, j + 1, [(0, 0)], ?_, ⟨rfl, by omega⟩, by dsimp only; omega⟩
      exact ⟨⟨e4, ⟨rfl, rfl⟩, rfl, rfl, rfl, rfl, rfl, rfl, trivial⟩, ⟨⟨rfl, rfl, rfl, trivial⟩, trivial⟩⟩
    · have hjl : j = r.2[i].2.1.length := by have := df h; omega
      have hU : (preI r i r.2[i]) = (preB r i r.2[i]) ++ lns inH r.2[i].2.1 := rfl
      have hUl : (preI r i r.2[i]).length = (preB r i r.2[i]).length + (lns inH r.2[i].2.1).length := by rw [hU, List.length_append]
      have e5 : SV.v (.string (bs ((preB r i r.2[i]) ++ lns inH (r.2[i].2.1.take j)))) = SV.v (.string (bs ((preI r i r.2[i]) ++ lns outH (r.2[i].2.2.take 0)))) := by rw [hjl, List.take_length, List.take_zero, lns, List.append_nil, hU]
      refine ⟨Nat, fun k => ⟨[(3, .v (.string (bs ((preI r i r.2[i]) ++ lns outH (r.2[i].2.2.take k))))), (16, .v (.slice a1 n1 c1)), (17, .v (.int .i64 n1)), (18, .v (.int .i64 i)), (42, .v (.slice b2 m2 d2)), (43, .v (.int .i64 m2)), (44, .v (.int .i64 k))], [], 0⟩, fun k H' => H' = H2 ∧ k ≤ r.2[i].2.2.length, fun k => r.2[i].2.2.length - k, ⟨0, [], ?_, rfl, by omega⟩, ?_⟩
      · exact ⟨⟨e5, rfl, rfl, rfl, rfl, rfl, rfl, trivial⟩, trivial⟩
      rintro k H3 _ ⟨rfl, hk⟩
      have hlk := lns_le outH r.2[i].2.2 k
      have hUk : (sl (bs ((preI r i r.2[i]) ++ lns outH (r.2[i].2.2.take k)))).length = (preI r i r.2[i]).length + (lns outH (r.2[i].2.2.take k)).length := List.length_append
      refine ⟨fun h => ?_, fun h => ?_⟩
      · have hkl : k < r.2[i].2.2.length := by have := dt h; omega
        have hxk := List.getElem?_eq_getElem hkl
        have hst3 := lns_step outH hxk
        have hlk2 := lns_le outH r.2[i].2.2 (k + 1)
        rw [hst3] at hlk2
        have hin : (outH ++ (r.2[i].2.2[k]).l ++ [10]).length = 4 + (r.2[i].2.2[k]).l.length + 1 := by simp only [List.length_append, List.length_singleton]; rfl
        rw [List.length_append, hin] at hlk2
        have hel3 := p2.elem hxk
        obtain ⟨ad3, cs3, e13, hh3, r13⟩ := hel3
        rw [str_open' r13] at hh3
        have hb3 : (sl (bs (r.2[i].2.2[k]).l)).length = (r.2[i].2.2[k]).l.length := rfl
        refine ⟨ad3, ⟨by omega, by omega, e13⟩, ?_⟩
        refine ⟨_, hh3, ?_⟩
        refine ⟨by show 4 + (sl (bs (r.2[i].2.2[k]).l)).length ≤ _; omega, ?_⟩
        refine ⟨by show (outH ++ (r.2[i].2.2[k]).l).length + 1 ≤ _; rw [List.length_append]; have e : outH.length = 4 := rfl; omega, ?_⟩
        refine ⟨by show (sl (bs ((preI r i r.2[i]) ++ lns outH (r.2[i].2.2.take k)))).length + (outH ++ (r.2[i].2.2[k]).l ++ [10]).length ≤ _; omega, ?_⟩
        have e4 : SV.v (.string (bs ((preI r i r.2[i]) ++ lns outH (r.2[i].2.2.take k) ++ (outH ++ (r.2[i].2.2[k]).l ++ [10])))) = SV.v (.string (bs ((preI r i r.2[i]) ++ lns outH (r.2[i].2.2.take (k + 1))))) := by rw [hst3, List.append_assoc]
        refine ⟨⟨by omega, by omega⟩, k + 1, [], ?_, ⟨rfl, by omega⟩, by dsimp only; omega⟩
        exact ⟨⟨e4, rfl, rfl, rfl, rfl, rfl, rfl, trivial⟩, trivial⟩
      · have hkl : k = r.2[i].2.2.length := by have := df h; omega
        have e6 : SV.v (.string (bs ((preI r i r.2[i]) ++ lns outH (r.2[i].2.2.take k)))) = SV.v (.string (bs (headT r ++ rowsT (r.2.take (i + 1))))) := by rw [hkl, List.take_length, hst, hU, hSd, rowT]; simp only [List.append_assoc]
        refine ⟨⟨by omega, by omega⟩, i + 1, [], ?_, ⟨rfl, by omega⟩, by dsimp only; omega⟩
        exact ⟨⟨e6, rfl, rfl, rfl, trivial⟩, trivial⟩
  · have hil : i = r.2.length := by have := df h; omega
    have hS : (sl (bs (headT r ++ rowsT (r.2.take i)))).length = (headT r).length + (rowsT (r.2.take i)).length := List.length_append
    refine ⟨by show (sl (bs (headT r ++ rowsT (r.2.take i)))).length + 4 ≤ _; omega, ?_⟩
    have e7 : textT r = headT r ++ rowsT (r.2.take i) ++ endL := by rw [hil, List.take_length, textT]
    rw [e7] at hK
    exact hK
end Go.Proofs
