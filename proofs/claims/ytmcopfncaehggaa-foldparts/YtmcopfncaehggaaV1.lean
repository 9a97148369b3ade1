/- Part 'V1' of the proof: lemmas, each with its own conditions in its own statement. -/
import Derived.Test.YtmcopfncaehggaaV0
import Derived.Test.YtmcopfncaehggaaE6
import Derived.Test.YtmcopfncaehggaaR1
namespace Go.Proofs
open Go.Sy
set_option maxRecDepth 20000
abbrev uns (l : List Str) : List Bs8 := l.map Str.l
abbrev ens (l : List Bs8) : List Str := l.map Str.mk
theorem uns_ens (l : List Bs8) : uns (ens l) = l := by simp [uns, ens, Function.comp_def]
theorem rc_sRows {H : Hp} : ∀ {l : List Bs8}, (∀ s ∈ l, s.length ≤ 9223372036854775807) → RC (α := Str) H (sRows l) (ens l) := by
  intro l h
  refine ⟨by simp, fun i cs x h1 h2 => ?_⟩
  simp only [List.getElem?_map, Option.map_eq_some_iff] at h1 h2
  obtain ⟨s, h3, rfl⟩ := h1
  obtain ⟨t, h4, rfl⟩ := h2
  rw [h3] at h4
  cases h4
  exact ⟨rfl, h s (List.mem_of_getElem? h3)⟩
theorem nan_spec {s : List UInt8} {H : Hp} {K : Value → Hp → Prop} (hK : K (.bool false) H) : Does Try.prog 110 [.string (bs s)] H K := by
  refine spec_of cx_ok cx_mix rfl Try.func110 Try.call110 Try.ntmps110 Try.results110 rfl rfl ?_
  exact kbool hK (by simp)
theorem nan2_spec {s : List UInt8} {H : Hp} {K : Value → Hp → Prop} (hK : K (.bool false) H) : Does Try.prog 106 [.string (bs s)] H K := by
  refine spec_of cx_ok cx_mix rfl Try.func106 Try.call106 Try.ntmps106 Try.results106 rfl rfl ?_
  exact kbool hK (by simp)
theorem bless (a b : List UInt8) : Op.bytesLess a b = decide (a < b) := bytesLess_eq a b
theorem blt_iff (a b : List UInt8) : Op.bytesLess (sl (bs a)) (sl (bs b)) = true ↔ a < b := by rw [sl_bs, sl_bs, bless, decide_eq_true_iff]
theorem ble_iff (a b : List UInt8) : (Op.bytesLess (sl (bs a)) (sl (bs b)) || decide (sl (bs a) = sl (bs b))) = true ↔ a < b ∨ a = b := by
  rw [Bool.or_eq_true, blt_iff, decide_eq_true_iff, sl_bs, sl_bs]
theorem less_spec {a b : List UInt8} {H : Hp} {K : Value → Hp → Prop} (hK : K (.bool (decide (a < b))) H) : Does Try.prog 105 [.string (bs a), .string (bs b)] H K := by
  refine spec_of cx_ok cx_mix rfl Try.func105 Try.call105 Try.ntmps105 Try.results105 rfl rfl ?_
  refine nan_spec ?_
  refine ⟨(fun h => by cases h), fun _ => ?_⟩
  exact kbool hK (bless a b).symm
theorem take_step {α β : Type} (f : β → α → β) (z : β) {l : List α} {i : Nat} {x : α} (h : l[i]? = some x) : (l.take (i + 1)).foldl f z = f ((l.take i).foldl f z) x := by
  rw [List.take_add_one, h, Option.toList_some, List.foldl_append]; rfl
abbrev putI (s : Bs8) (l : List Str) (i : Nat) : List Bs8 × Bool := (uns (l.take i)).foldl (putStep s) ([], decide (s = []))
theorem putI_step {s : Bs8} {l : List Str} {i : Nat} {x : Str} (h : l[i]? = some x) : putI s l (i + 1) = putStep s (putI s l i) x.l := by
  unfold putI uns
  rw [List.map_take, List.map_take, take_step _ _ (by rw [List.getElem?_map, h]; rfl)]
theorem putI_len {s : Bs8} {l : List Str} {i : Nat} (hi : i ≤ l.length) : (putI s l i).1.length ≤ i + 1 := by
  have h := (putF_len s (uns (l.take i)) ([], decide (s = []))).1
  simp only [List.length_nil, List.length_map, List.length_take] at h
  unfold putI
  split at h <;> omega
theorem sRows_snoc (l : List Bs8) (s : Bs8) : sRows l ++ [[.string (bs s)]] = sRows (l ++ [s]) := by simp
theorem put_spec {l : List Str} {a : Option Addr} {n c : Nat} {s : Bs8} {H : Hp} {K : Value → Hp → Prop} (ha : RL H a n c l) (hs : s.length ≤ 9223372036854775807) (hn : l.length < 1000000)
    (hK : ∀ a' n' c' H', Le H H' → RL H' a' n' c' (ens (putS s (uns l))) → K (.slice a' n' c') H') : Does Try.prog 99 [.slice a n c, .string (bs s)] H K := by
  have hn1 := ha.n_eq
  refine spec_of cx_ok cx_mix rfl Try.func99 Try.call99 Try.ntmps99 Try.results99 rfl rfl ?_
  refine ⟨Nat, fun i => ⟨[(1, .v (.string (bs s))), (5, .own 0), (6, .v (.bool (putI s l i).2)), (11, .v (.slice a n c)), (12, .v (.int .i64 n)), (13, .v (.int .i64 i))], [(0, .row 9 1 (sRows (putI s l i).1))], 1⟩,
    fun i H' => H' = H ∧ i ≤ l.length, fun i => l.length - i, ⟨0, [], ?_, rfl, by omega⟩, ?_⟩
  · exact ⟨⟨rfl, ⟨rfl, rfl, rfl⟩, rfl, rfl, rfl, rfl, trivial⟩, ⟨rfl, trivial⟩⟩
  rintro i H1 _ ⟨rfl, hi⟩
  have hil := putI_len (s := s) hi
  refine ⟨fun h => ?_, fun h => ?_⟩
  · have hlt : i < l.length := by have := dt h; omega
    have hx := List.getElem?_eq_getElem hlt
    obtain ⟨ad, cs, e1, hh, rfl, hl⟩ := ha.elem hx
    have hst := putI_step (s := s) hx
    refine ⟨ad, ⟨by omega, by omega, e1⟩, ?_⟩
    refine ⟨_, hh, ?_⟩
    have app : ∀ {o : List Bs8}, o.length ≤ 2000000 → (((sRows o).length + 1) * 16 ≤ 140737488355328 ∧ (sRows o).length + 1 ≤ 9223372036854775807) := fun h => by
      simp only [List.length_map]; omega
    refine ⟨fun h => ?_, fun h => ?_⟩
    · have hd : (putI s l i).2 = false := by simpa using h
      refine ⟨fun h => ?_, fun h => ?_⟩
      · have hle : s < l[i].l ∨ s = l[i].l := (ble_iff _ _).1 h
        refine ⟨fun h => ?_, fun h => ?_⟩
        · have hlt2 : s < l[i].l := (blt_iff _ _).1 h
          have e : sRows (putI s l i).1 ++ [[Value.string (bs s)]] ++ [[Value.string (bs l[i].l)]] = sRows (putI s l (i + 1)).1 := by
            rw [hst, putStep, if_pos ⟨hd, hle⟩, if_pos hlt2, sRows_snoc, sRows_snoc]
          have e2 : (putI s l (i + 1)).2 = true := by rw [hst, putStep, if_pos ⟨hd, hle⟩]
          refine ⟨app (by omega), ?_⟩
          refine ⟨by show ((sRows (putI s l i).1 ++ [[Value.string (bs s)]]).length + 1) * 16 ≤ _ ∧ (sRows (putI s l i).1 ++ [[Value.string (bs s)]]).length + 1 ≤ _; rw [sRows_snoc]; exact app (by rw [List.length_append, List.length_singleton]; omega), ?_⟩
          refine ⟨⟨by omega, by omega⟩, i + 1, [(0, 4)], ?_, ⟨rfl, by omega⟩, by dsimp only; omega⟩
          exact ⟨⟨rfl, rfl, congrArg Value.bool e2, rfl, rfl, rfl, trivial⟩, ⟨e, trivial⟩⟩
        · have hlt2 : ¬ s < l[i].l := fun hh => by rw [(blt_iff _ _).2 hh] at h; cases h
          have e : sRows (putI s l i).1 ++ [[Value.string (bs l[i].l)]] = sRows (putI s l (i + 1)).1 := by
            rw [hst, putStep, if_pos ⟨hd, hle⟩, if_neg hlt2, sRows_snoc]
          have e2 : (putI s l (i + 1)).2 = true := by rw [hst, putStep, if_pos ⟨hd, hle⟩]
          refine ⟨app (by omega), ?_⟩
          refine ⟨⟨by omega, by omega⟩, i + 1, [(0, 2)], ?_, ⟨rfl, by omega⟩, by dsimp only; omega⟩
          exact ⟨⟨rfl, rfl, congrArg Value.bool e2, rfl, rfl, rfl, trivial⟩, ⟨e, trivial⟩⟩
      · have hle : ¬ (s < l[i].l ∨ s = l[i].l) := fun hh => by rw [(ble_iff _ _).2 hh] at h; cases h
        have e : sRows (putI s l i).1 ++ [[Value.string (bs l[i].l)]] = sRows (putI s l (i + 1)).1 := by
          rw [hst, putStep, if_neg (fun hh => hle hh.2), sRows_snoc]
        have e2 : (putI s l (i + 1)).2 = (putI s l i).2 := by rw [hst, putStep, if_neg (fun hh => hle hh.2)]
        refine ⟨app (by omega), ?_⟩
        refine ⟨⟨by omega, by omega⟩, i + 1, [(0, 2)], ?_, ⟨rfl, by omega⟩, by dsimp only; omega⟩
        exact ⟨⟨rfl, rfl, congrArg (fun b => SV.v (.bool b)) e2.symm, rfl, rfl, rfl, trivial⟩, ⟨e, trivial⟩⟩
    · have hd : (putI s l i).2 = true := by simpa using h
      have hnn : ¬ ((putI s l i).2 = false ∧ (s < l[i].l ∨ s = l[i].l)) := fun hh => by rw [hd] at hh; cases hh.1
      have e : sRows (putI s l i).1 ++ [[Value.string (bs l[i].l)]] = sRows (putI s l (i + 1)).1 := by
        rw [hst, putStep, if_neg hnn, sRows_snoc]
      have e2 : (putI s l (i + 1)).2 = (putI s l i).2 := by rw [hst, putStep, if_neg hnn]
      refine ⟨app (by omega), ?_⟩
      refine ⟨⟨by omega, by omega⟩, i + 1, [(0, 2)], ?_, ⟨rfl, by omega⟩, by dsimp only; omega⟩
      exact ⟨⟨rfl, rfl, congrArg (fun b => SV.v (.bool b)) e2.symm, rfl, rfl, rfl, trivial⟩, ⟨e, trivial⟩⟩
  · have hil : i = l.length := by have := df h; omega
    have hall : ∀ t ∈ putS s (uns l), t.length ≤ 9223372036854775807 := fun t ht => by
      rcases putS_mem ht with h | rfl
      · obtain ⟨x, hx, rfl⟩ := List.mem_map.1 h
        obtain ⟨j, hj⟩ := List.getElem?_of_mem hx
        obtain ⟨_, _, _, _, _, hl⟩ := ha.elem hj
        exact hl
      · exact hs
    have e0 : putI s l i = putF s (uns l) := by rw [hil, putI, List.take_length]; rfl
    refine ⟨fun h => ?_, fun h => ?_⟩
    · have hd : (putI s l i).2 = false := by simpa using h
      refine ⟨by show ((sRows _).length + 1) * 16 ≤ _ ∧ (sRows _).length + 1 ≤ _; simp only [List.length_map]; omega, ?_⟩
      intro x H2 hle2 hx
      have e : sRows (putI s l i).1 ++ [[Value.string (bs s)]] = sRows (putS s (uns l)) := by
        rw [sRows_snoc, putS, ← e0, if_neg (by rw [hd]; decide)]
      have hx : RowAt H2 x 1 (sRows (putI s l i).1 ++ [[Value.string (bs s)]]) := hx
      rw [e] at hx
      obtain ⟨a', n', c', rfl, hr⟩ := RL.of_row (α := Str) hx (rc_sRows hall)
      exact hK _ _ _ _ hle2 hr
    · have hd : (putI s l i).2 = true := by simpa using h
      intro x H2 hle2 hx
      have e : sRows (putI s l i).1 = sRows (putS s (uns l)) := by
        rw [putS, ← e0, if_pos hd]
      rw [e] at hx
      obtain ⟨a', n', c', rfl, hr⟩ := RL.of_row (α := Str) hx (rc_sRows hall)
      exact hK _ _ _ _ hle2 hr
/-- Binary search in a sorted row. -/
theorem search_spec {l : List Bs8} {t : Bs8} (hl : SortedS l) (hn : l.length < 1000000) {H : Hp} {K : SV → St → Hp → Prop}
    (hK : ∀ i : Nat, i ≤ l.length → (∀ x ∈ l.take i, x < t) → (∀ x ∈ l.drop i, ¬ x < t) → (l[i]? = some t → K (.tup [.v (.int .i64 i), .kb true]) ⟨[], [(0, .row 9 1 (sRows l))], 1⟩ H) ∧
      (l[i]? ≠ some t → K (.tup [.v (.int .i64 i), .kb false]) ⟨[], [(0, .row 9 1 (sRows l))], 1⟩ H)) :
    DoesG Try.prog 97 [.own 0, .v (.string (bs t))] [(0, .row 9 1 (sRows l))] 1 H K := by
  refine spec_ofG cx_ok cx_mix Try.func97 Try.call97 Try.ntmps97 Try.results97 rfl rfl ?_
  refine ⟨Nat × Nat, fun p => ⟨[(0, .own 0), (1, .v (.string (bs t))), (6, .v (.int .i64 (sRows l).length)), (7, .v (.int .i64 p.1)), (8, .v (.int .i64 p.2))], [(0, .row 9 1 (sRows l))], 1⟩,
    fun p H' => H' = H ∧ p.1 ≤ p.2 ∧ p.2 ≤ l.length ∧ (∀ x ∈ l.take p.1, x < t) ∧ (∀ x ∈ l.drop p.2, ¬ x < t), fun p => p.2 - p.1, ⟨(0, (sRows l).length), [(0, 0)], ?_, rfl, by simp, by simp, by simp, by simp⟩, ?_⟩
  · exact ⟨⟨rfl, rfl, rfl, rfl, rfl, trivial⟩, ⟨rfl, trivial⟩⟩
  rintro ⟨i, j⟩ H1 _ ⟨rfl, h1, h2, h3, h4⟩
  simp only at h1 h2 h3 h4
  refine ⟨fun h => ?_, fun h => ?_⟩
  · have hij : i < j := by have := dt h; simp only at this; omega
    have hlt : (i + j) / 2 < l.length := by omega
    refine ⟨⟨by simp only; omega, by simp only; omega⟩, ⟨by simp only; omega, by simp only; omega⟩, by decide, ?_⟩
    have he : (((i, j).fst : Int) + ((i, j).snd : Int)).fdiv (2 ^ min (Int.toNat 1) IntKind.u64.bits) = (((i + j) / 2 : Nat) : Int) := by
      rw [Int.fdiv_eq_ediv_of_nonneg _ (by decide)]
      show ((i : Int) + (j : Int)) / 2 = _
      omega
    obtain ⟨k, hk⟩ : ∃ k, k = (i + j) / 2 := ⟨_, rfl⟩
    rw [← hk] at he hlt
    have hg : (sRows l)[((((i, j).fst : Int) + ((i, j).snd : Int)).fdiv (2 ^ min (Int.toNat 1) IntKind.u64.bits)).toNat]? = some [.string (bs l[k])] := by
      rw [he, Int.toNat_natCast, List.getElem?_map, List.getElem?_eq_getElem hlt]; rfl
    refine ⟨⟨by rw [he]; omega, by rw [he]; omega⟩, ?_⟩
    refine ⟨⟨by rw [he]; omega, by rw [he, List.length_map]; omega⟩, ?_⟩
    refine ⟨_, hg, ?_⟩
    refine less_spec ?_
    refine ⟨fun h => ?_, fun h => ?_⟩
    · refine ⟨⟨by rw [he]; omega, by rw [he]; omega⟩, (k + 1, j), [(0, 0)], ?_, ⟨rfl, by dsimp only; omega, h2, take_lt hl hlt (dt h), h4⟩, by dsimp only; omega⟩
      exact ⟨⟨rfl, rfl, rfl, congrArg (fun n => SV.v (.int .i64 n)) (by rw [he]; rfl), rfl, trivial⟩, ⟨rfl, trivial⟩⟩
    · refine ⟨(i, k), [(0, 0)], ?_, ⟨rfl, by dsimp only; omega, by dsimp only; omega, h3, drop_ge hl hlt (df h)⟩, by dsimp only; omega⟩
      exact ⟨⟨rfl, rfl, rfl, rfl, congrArg (fun n => SV.v (.int .i64 n)) he, trivial⟩, ⟨rfl, trivial⟩⟩
  · have hij : i = j := by have := df h; simp only at this; omega
    subst hij
    have h9 := hK i h2 h3 h4
    refine ⟨fun h => ?_, fun h => ?_⟩
    · have hlt : i < l.length := by have := dt h; rw [List.length_map] at this; simp only at this; omega
      rw [List.getElem?_eq_getElem hlt] at h9
      refine ⟨⟨by simp only; omega, by rw [List.length_map]; simp only; omega⟩, ?_⟩
      refine ⟨[.string (bs l[i])], by show (sRows l)[((i : Nat) : Int).toNat]? = _; rw [Int.toNat_natCast, List.getElem?_map, List.getElem?_eq_getElem hlt]; rfl, ?_⟩
      have hg : (sRows l)[(((i, i).fst : Int)).toNat]? = some [.string (bs l[i])] := by
        show (sRows l)[((i : Nat) : Int).toNat]? = _
        rw [Int.toNat_natCast, List.getElem?_map, List.getElem?_eq_getElem hlt]; rfl
      refine ⟨fun h => ?_, fun h => ?_⟩
      · refine ⟨⟨by simp only; omega, by rw [List.length_map]; simp only; omega⟩, ?_⟩
        refine ⟨_, hg, ?_⟩
        refine nan2_spec ?_
        refine ⟨(fun h => by cases h), fun _ => ?_⟩
        have hne : l[i] ≠ t := df h
        exact ⟨.tup [.v (.int .i64 i), .kb false], [(0, .row 9 1 (sRows l))], 1, [(0, 0)], ⟨⟨⟨rfl, rfl⟩, trivial⟩, ⟨rfl, trivial⟩⟩, h9.2 (by simpa using hne)⟩
      · have he : l[i] = t := by
          have h : decide (sl (bs l[i]) = sl (bs t)) = true := by cases hh : decide (sl (bs l[i]) = sl (bs t)) <;> simp_all
          exact dt h
        exact ⟨.tup [.v (.int .i64 i), .kb true], [(0, .row 9 1 (sRows l))], 1, [(0, 0)], ⟨⟨⟨rfl, rfl⟩, trivial⟩, ⟨rfl, trivial⟩⟩, h9.1 (by rw [he])⟩
    · have hil : i = l.length := by have := df h; rw [List.length_map] at this; simp only at this; omega
      rw [List.getElem?_eq_none (by omega)] at h9
      exact ⟨.tup [.v (.int .i64 i), .kb false], [(0, .row 9 1 (sRows l))], 1, [(0, 0)], ⟨⟨⟨rfl, rfl⟩, trivial⟩, ⟨rfl, trivial⟩⟩, h9.2 (by simp)⟩
/-- The cell that holds the list, and the list. -/
abbrev cellOf (l : List Bs8) : List (Nat × Bx) := [(0, .cells 60 [.own 1]), (1, .row 9 1 (sRows l))]
abbrev putAll (vs out : List Bs8) : List Bs8 := vs.foldl (fun o v => putS v o) out
theorem putAll_sorted : ∀ (vs : List Bs8) {l : List Bs8}, SortedS l → SortedS (putAll vs l)
  | [], _, h => h
  | v :: r, _, h => putAll_sorted r (putS_sorted h v)
theorem putAll_len : ∀ (vs l : List Bs8), (putAll vs l).length ≤ l.length + vs.length
  | [], l => by simp [putAll]
  | v :: r, l => by
    have h1 := putAll_len r (putS v l)
    have h2 := putS_len v l
    simp only [putAll, List.foldl_cons, List.length_cons] at h1 ⊢
    omega
theorem putc_spec {vs : List Str} {a : Option Addr} {n c : Nat} {l : List Bs8} {H : Hp} {K : SV → St → Hp → Prop} (ha : RL H a n c vs) (hl : SortedS l) (hn : l.length + vs.length < 1000000)
    (hK : K (.tup []) ⟨[], [(0, .cells 60 [.own 2]), (1, .dead), (2, .row 9 1 (sRows (putAll (uns vs) l)))], 3⟩ H) :
    DoesG Try.prog 96 [.v (.slice a n c), .ptr 0 0] (cellOf l) 2 H K := by
  have hn1 := ha.n_eq
  refine spec_ofG cx_ok cx_mix Try.func96 Try.call96 Try.ntmps96 Try.results96 rfl rfl ?_
  refine ⟨Nat, fun i => ⟨[(1, .ptr 0 0), (7, .v (.slice a n c)), (8, .v (.int .i64 n)), (9, .v (.int .i64 i))], [(0, .cells 60 [.own 2]), (1, .dead), (2, .row 9 1 (sRows (putAll (uns (vs.take i)) l)))], 3⟩,
    fun i H' => H' = H ∧ i ≤ vs.length, fun i => vs.length - i, ⟨0, [(0, 0), (2, 1)], ?_, rfl, by omega⟩, ?_⟩
  · exact ⟨⟨⟨rfl, rfl⟩, rfl, rfl, rfl, trivial⟩, ⟨⟨rfl, trivial⟩, trivial, rfl, trivial⟩⟩
  rintro i H1 _ ⟨rfl, hi⟩
  refine ⟨fun h => ?_, fun h => ?_⟩
  · have hlt : i < vs.length := by have := dt h; omega
    have hx := List.getElem?_eq_getElem hlt
    obtain ⟨ad, cs, e1, hh, rfl, hl2⟩ := ha.elem hx
    refine ⟨ad, ⟨by omega, by omega, e1⟩, ?_⟩
    refine ⟨_, hh, ?_⟩
    refine ⟨[2], rfl, ?_⟩
    refine search_spec (putAll_sorted _ hl) (by have := putAll_len (uns (vs.take i)) l; simp only [List.length_map, List.length_take] at this; omega) fun k h1 h2 h3 => ?_
    obtain ⟨o, ho⟩ : ∃ o, o = putAll (uns (vs.take i)) l := ⟨_, rfl⟩
    rw [← ho] at h1 h2 h3
    have hol : o.length ≤ l.length + i := by
      have := putAll_len (uns (vs.take i)) l
      rw [← ho, List.length_map, List.length_take] at this
      omega
    have hnext : putAll (uns (vs.take (i + 1))) l = putS vs[i].l o := by
      rw [ho]
      unfold putAll uns
      rw [List.map_take, List.map_take, take_step _ _ (by rw [List.getElem?_map, hx]; rfl)]
    have h4 : ∀ x, o[k]? = some x → ¬ x < vs[i].l := fun x hx => h3 x (by
      obtain ⟨hlt, e⟩ := List.getElem?_eq_some_iff.1 hx
      rw [List.drop_eq_getElem_cons hlt]
      exact e ▸ List.mem_cons_self)
    refine ⟨fun hf => ?_, fun hf => ?_⟩
    · rw [← ho] at hf
      have e : putS vs[i].l o = o := by
        by_cases hv : vs[i].l = []
        · rw [hv, putS_nil]
        · rw [putS_at hv h1 h2 h4, if_pos hf]
      have e5 : sRows (putAll (uns (vs.take i)) l) = sRows (putAll (uns (vs.take (i + 1))) l) := by rw [hnext, e, ho]
      refine ⟨⟨by omega, by omega⟩, i + 1, [(0, 0), (2, 2)], ?_, ⟨rfl, by omega⟩, by dsimp only; omega⟩
      exact ⟨⟨⟨rfl, rfl⟩, rfl, rfl, rfl, trivial⟩, ⟨⟨rfl, trivial⟩, trivial, e5, trivial⟩⟩
    · rw [← ho] at hf
      refine ⟨fun h => ?_, fun h => ?_⟩
      · have hv : vs[i].l ≠ [] := nt h
        refine ⟨[2, 3], rfl, ?_⟩
        rw [← ho]
        refine insert_spec h1 (by omega) ?_
        have e5 : sRows (insAt k vs[i].l o) = sRows (putAll (uns (vs.take (i + 1))) l) := by rw [hnext, putS_at hv h1 h2 h4, if_neg hf]
        refine ⟨⟨by omega, by omega⟩, i + 1, [(0, 0), (2, 4)], ?_, ⟨rfl, by omega⟩, by dsimp only; omega⟩
        exact ⟨⟨⟨rfl, rfl⟩, rfl, rfl, rfl, trivial⟩, ⟨⟨rfl, trivial⟩, trivial, e5, trivial⟩⟩
      · have hv : vs[i].l = [] := nf h
        have e5 : sRows (putAll (uns (vs.take i)) l) = sRows (putAll (uns (vs.take (i + 1))) l) := by rw [hnext, hv, putS_nil, ho]
        refine ⟨⟨by omega, by omega⟩, i + 1, [(0, 0), (2, 2)], ?_, ⟨rfl, by omega⟩, by dsimp only; omega⟩
        exact ⟨⟨⟨rfl, rfl⟩, rfl, rfl, rfl, trivial⟩, ⟨⟨rfl, trivial⟩, trivial, e5, trivial⟩⟩
  · have hil : i = vs.length := by have := df h; omega
    rw [hil, List.take_length]
    exact ⟨.tup [], [(0, .cells 60 [.own 2]), (1, .dead), (2, .row 9 1 (sRows (putAll (uns vs) l)))], 3, [(0, 0), (2, 2)], ⟨⟨⟨rfl, rfl⟩, trivial⟩, ⟨⟨rfl, trivial⟩, trivial, rfl, trivial⟩⟩, hK⟩
end Go.Proofs
