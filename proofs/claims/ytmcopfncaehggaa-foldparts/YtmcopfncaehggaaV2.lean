/- Part 'V2' of the proof: lemmas, each with its own conditions in its own statement. -/
import Derived.Test.YtmcopfncaehggaaV1
import Derived.Test.YtmcopfncaehggaaG1
namespace Go.Proofs
open Go.Sy
set_option maxRecDepth 20000
abbrev Atm := Str × Nm
abbrev Expr := Int × Atm × Atm
abbrev Stmt := Int × Str × Expr
abbrev Term := Int × Atm × Str × Str
abbrev Block := Str × List Stmt × Term
abbrev Prog := List Block
abbrev atmV (a : Atm) : List Value := [.string (bs a.1.l), .int .i64 a.2.1, .int .i64 a.2.2]
abbrev exprV (x : Expr) : List Value := .int .i64 x.1 :: (atmV x.2.1 ++ atmV x.2.2)
abbrev stmtV (s : Stmt) : List Value := .int .i64 s.1 :: .string (bs s.2.1.l) :: exprV s.2.2
abbrev termV (t : Term) : List Value := .int .i64 t.1 :: (atmV t.2.1 ++ [.string (bs t.2.2.1.l), .string (bs t.2.2.2.l)])
def i64R (n : Int) : Prop := -9223372036854775808 ≤ n ∧ n ≤ 9223372036854775807
def sR (s : Str) : Prop := s.l.length ≤ 9223372036854775807
def atmR (a : Atm) : Prop := sR a.1 ∧ i64R a.2.1 ∧ i64R a.2.2
def exprR (x : Expr) : Prop := i64R x.1 ∧ atmR x.2.1 ∧ atmR x.2.2
def stmtR (s : Stmt) : Prop := i64R s.1 ∧ sR s.2.1 ∧ exprR s.2.2
def termR (t : Term) : Prop := i64R t.1 ∧ atmR t.2.1 ∧ sR t.2.2.1 ∧ sR t.2.2.2
theorem atm_open {H : Hp} {cs : List Value} {a : Atm} (h : Enc.R H cs a) : cs = atmV a ∧ atmR a := by
  obtain ⟨x1, x2, rfl, ⟨rfl, h1⟩, y1, y2, rfl, ⟨rfl, h2⟩, ⟨rfl, h3⟩⟩ := h
  exact ⟨rfl, h1, h2, h3⟩
theorem expr_open {H : Hp} {cs : List Value} {x : Expr} (h : Enc.R H cs x) : cs = exprV x ∧ exprR x := by
  obtain ⟨x1, x2, rfl, ⟨rfl, h1⟩, y1, y2, rfl, h2, h3⟩ := h
  obtain ⟨rfl, k2⟩ := atm_open h2
  obtain ⟨rfl, k3⟩ := atm_open h3
  exact ⟨rfl, h1, k2, k3⟩
theorem stmt_open {H : Hp} {cs : List Value} {x : Stmt} (h : Enc.R H cs x) : cs = stmtV x ∧ stmtR x := by
  obtain ⟨x1, x2, rfl, ⟨rfl, h1⟩, y1, y2, rfl, ⟨rfl, h2⟩, h3⟩ := h
  obtain ⟨rfl, k3⟩ := expr_open h3
  exact ⟨rfl, h1, h2, k3⟩
theorem term_open {H : Hp} {cs : List Value} {x : Term} (h : Enc.R H cs x) : cs = termV x ∧ termR x := by
  obtain ⟨x1, x2, rfl, ⟨rfl, h1⟩, y1, y2, rfl, h2, y3, y4, rfl, ⟨rfl, h3⟩, ⟨rfl, h4⟩⟩ := h
  obtain ⟨rfl, k2⟩ := atm_open h2
  exact ⟨rfl, h1, k2, h3, h4⟩
theorem block_open {H : Hp} {cs : List Value} {x : Block} (h : Enc.R H cs x) : ∃ a n c, cs = .string (bs x.1.l) :: .slice a n c :: termV x.2.2 ∧ RL H a n c x.2.1 ∧ sR x.1 ∧ termR x.2.2 := by
  obtain ⟨x1, x2, rfl, ⟨rfl, h1⟩, y1, y2, rfl, ⟨a, n, c, rfl, h2⟩, h3⟩ := h
  obtain ⟨rfl, k3⟩ := term_open h3
  exact ⟨a, n, c, rfl, h2, h1, k3⟩
/-- The variables of a statement, and of a block's end. -/
abbrev sVars (s : Stmt) : List Bs8 := [s.2.1.l, s.2.2.2.1.1.l, s.2.2.2.2.1.l]
abbrev bVars (o : List Bs8) (l : List Stmt) : List Bs8 := l.foldl (fun o s => putAll (sVars s) o) o
abbrev blkVars (o : List Bs8) (b : Block) : List Bs8 := putAll [b.2.2.2.1.1.l] (bVars o b.2.1)
def varsOf (p : Prog) : List Bs8 := p.foldl blkVars []
theorem bVars_sorted : ∀ (l : List Stmt) {o : List Bs8}, SortedS o → SortedS (bVars o l)
  | [], _, h => h
  | s :: r, _, h => bVars_sorted r (putAll_sorted (sVars s) h)
theorem bVars_len : ∀ (l : List Stmt) (o : List Bs8), (bVars o l).length ≤ o.length + 3 * l.length
  | [], o => by simp [bVars]
  | s :: r, o => by
    have h1 := bVars_len r (putAll (sVars s) o)
    have h2 := putAll_len (sVars s) o
    simp only [bVars, List.foldl_cons, List.length_cons, List.length_nil] at h1 h2 ⊢
    omega
def cnt (p : Prog) : Nat := (p.map fun b => 3 * b.2.1.length + 1).sum
theorem blk_len (o : List Bs8) (b : Block) : (blkVars o b).length ≤ o.length + (3 * b.2.1.length + 1) := by
  have h1 := putAll_len [b.2.2.2.1.1.l] (bVars o b.2.1)
  have h2 := bVars_len b.2.1 o
  simp only [List.length_singleton] at h1
  unfold blkVars
  omega
theorem vars_len : ∀ (p : Prog) (o : List Bs8), (p.foldl blkVars o).length ≤ o.length + cnt p
  | [], o => by simp [cnt]
  | b :: r, o => by
    have h1 := vars_len r (blkVars o b)
    have h2 := blk_len o b
    simp only [cnt, List.foldl_cons, List.map_cons, List.sum_cons] at h1 h2 ⊢
    omega
theorem vars_sorted : ∀ (p : Prog) {o : List Bs8}, SortedS o → SortedS (p.foldl blkVars o)
  | [], _, h => h
  | b :: r, _, h => vars_sorted r (putAll_sorted _ (bVars_sorted b.2.1 h))
theorem cnt_take : ∀ (p : Prog) {i : Nat} {b : Block}, p[i]? = some b → cnt (p.take i) + (3 * b.2.1.length + 1) ≤ cnt p
  | [], i, b, h => by simp at h
  | x :: r, 0, b, h => by
    simp only [List.getElem?_cons_zero, Option.some.injEq] at h
    subst h
    simp [cnt]
  | x :: r, i + 1, b, h => by
    rw [List.getElem?_cons_succ] at h
    have := cnt_take r h
    simp only [cnt, List.take_succ_cons, List.map_cons, List.sum_cons] at this ⊢
    omega
theorem rl_mem {α : Type} [Enc α] {H : Hp} {a : Option Addr} {n c : Nat} {xs : List α} {x : α} (h : RL H a n c xs) (hx : x ∈ xs) : ∃ cs, Enc.R H cs x := by
  obtain ⟨i, hi⟩ := List.getElem?_of_mem hx
  obtain ⟨_, cs, _, _, h⟩ := h.elem hi
  exact ⟨cs, h⟩
theorem putAll_mem : ∀ (vs : List Bs8) {o : List Bs8} {t : Bs8}, t ∈ putAll vs o → t ∈ o ∨ t ∈ vs
  | [], _, _, h => .inl h
  | v :: r, o, t, h => by
    rcases putAll_mem r h with h | h
    · rcases putS_mem h with h | h
      · exact .inl h
      · exact .inr (h ▸ List.mem_cons_self)
    · exact .inr (List.mem_cons_of_mem _ h)
theorem bVars_mem : ∀ (l : List Stmt) {o : List Bs8} {t : Bs8}, t ∈ bVars o l → t ∈ o ∨ ∃ s ∈ l, t ∈ sVars s
  | [], _, _, h => .inl h
  | s :: r, o, t, h => by
    rcases bVars_mem r h with h | ⟨s', h1, h2⟩
    · rcases putAll_mem _ h with h | h
      · exact .inl h
      · exact .inr ⟨s, List.mem_cons_self, h⟩
    · exact .inr ⟨s', List.mem_cons_of_mem _ h1, h2⟩
theorem vars_mem : ∀ (p : Prog) {o : List Bs8} {t : Bs8}, t ∈ p.foldl blkVars o → t ∈ o ∨ ∃ b ∈ p, t = b.2.2.2.1.1.l ∨ ∃ s ∈ b.2.1, t ∈ sVars s
  | [], _, _, h => .inl h
  | b :: r, o, t, h => by
    rcases vars_mem r h with h | ⟨b', h1, h2⟩
    · rcases putAll_mem _ h with h | h
      · rcases bVars_mem _ h with h | h
        · exact .inl h
        · exact .inr ⟨b, List.mem_cons_self, .inr h⟩
      · exact .inr ⟨b, List.mem_cons_self, .inl (List.mem_singleton.1 h)⟩
    · exact .inr ⟨b', List.mem_cons_of_mem _ h1, h2⟩
theorem vars_all {p : Prog} {a : Option Addr} {n c : Nat} {H : Hp} (ha : RL H a n c p) : ∀ t ∈ varsOf p, t.length ≤ 9223372036854775807 := by
  intro t ht
  rcases vars_mem p ht with h | ⟨b, hb, h⟩
  · cases h
  · obtain ⟨cs, hr⟩ := rl_mem ha hb
    obtain ⟨a2, n2, c2, _, hl, _, htm⟩ := block_open hr
    rcases h with rfl | ⟨s, hs, h⟩
    · exact htm.2.1.1
    · obtain ⟨cs, hr⟩ := rl_mem hl hs
      obtain ⟨_, hsr⟩ := stmt_open hr
      simp only [sVars, List.mem_cons, List.not_mem_nil, or_false] at h
      rcases h with rfl | rfl | rfl
      · exact hsr.2.1
      · exact hsr.2.2.2.1.1
      · exact hsr.2.2.2.2.1
theorem pvars_spec {p : Prog} {a : Option Addr} {n c : Nat} {H : Hp} {K : Value → Hp → Prop} (ha : RL H a n c p) (hc : cnt p < 400000)
    (hK : ∀ a' n' c' H', Le H H' → RL H' a' n' c' (ens (varsOf p)) → K (.slice a' n' c') H') : Does Try.prog 81 [.agg #[.slice a n c]] H K := by
  have hn1 := ha.n_eq
  have hmx := ha.le
  refine spec_of cx_ok cx_mix rfl Try.func81 Try.call81 Try.ntmps81 Try.results81 rfl rfl ?_
  refine ⟨Nat, fun i => ⟨[(3, .ptr 1 0), (4, .fn 96 [.ptr 1 0]), (11, .v (.slice a n c)), (12, .v (.int .i64 n)), (13, .v (.int .i64 i))], [(1, .cells 60 [.own 2]), (2, .row 9 1 (sRows (varsOf (p.take i))))], 3⟩,
    fun i H' => Le H H' ∧ i ≤ p.length, fun i => p.length - i, ⟨0, [(1, 1)], ?_, Le.refl H, by omega⟩, ?_⟩
  · exact ⟨⟨⟨rfl, rfl⟩, ⟨rfl, rfl⟩, rfl, rfl, rfl, trivial⟩, ⟨⟨⟨rfl, rfl, rfl⟩, trivial⟩, rfl, trivial⟩⟩
  rintro i H1 _ ⟨hle1, hi⟩
  refine ⟨fun h => ?_, fun h => ?_⟩
  · have hlt : i < p.length := by have := dt h; omega
    have hx := List.getElem?_eq_getElem hlt
    obtain ⟨b, hb⟩ : ∃ b, b = p[i] := ⟨_, rfl⟩
    rw [← hb] at hx
    obtain ⟨ad, cs, e1, hh, r1⟩ := (ha.up hle1).elem hx
    obtain ⟨a2, n2, c2, rfl, hr2, hnm, htm⟩ := block_open r1
    refine ⟨ad, ⟨by omega, by omega, e1⟩, ?_⟩
    refine ⟨_, hh, ?_⟩
    have hn2 := hr2.n_eq
    have hmx2 := hr2.le
    obtain ⟨o, ho⟩ : ∃ o, o = varsOf (p.take i) := ⟨_, rfl⟩
    have hos : SortedS o := by rw [ho]; exact vars_sorted _ List.Pairwise.nil
    have hol : o.length + (3 * b.2.1.length + 1) < 400000 := by
      have h1 := vars_len (p.take i) []
      have h2 := cnt_take p hx
      rw [ho]; unfold varsOf
      simp only [List.length_nil] at h1
      omega
    refine ⟨Nat, fun j => ⟨[(3, .ptr 1 0), (4, .fn 96 [.ptr 1 0]), (6, .ptr 3 0), (11, .v (.slice a n c)), (12, .v (.int .i64 n)), (13, .v (.int .i64 i)), (18, .v (.slice a2 n2 c2)), (19, .v (.int .i64 n2)), (20, .v (.int .i64 j))],
        [(1, .cells 60 [.own 2]), (2, .row 9 1 (sRows (bVars o (b.2.1.take j)))), (3, .cells 89 ((Value.string (bs b.1.l) :: .slice a2 n2 c2 :: termV b.2.2).map .v))], 4⟩,
      fun j H' => Le H1 H' ∧ j ≤ b.2.1.length, fun j => b.2.1.length - j, ⟨0, [(1, 1), (2, 2), (3, 3)], ?_, Le.refl _, by omega⟩, ?_⟩
    · exact ⟨⟨⟨rfl, rfl⟩, ⟨rfl, rfl⟩, ⟨rfl, rfl⟩, rfl, rfl, rfl, rfl, rfl, rfl, trivial⟩, ⟨⟨rfl, trivial⟩, congrArg sRows ho.symm, ⟨rfl, rfl, rfl, rfl, rfl, rfl, rfl, rfl, trivial⟩, trivial⟩⟩
    rintro j H2 _ ⟨hle2, hj⟩
    have hbl := bVars_len (b.2.1.take j) o
    rw [List.length_take] at hbl
    refine ⟨fun h => ?_, fun h => ?_⟩
    · have hltj : j < b.2.1.length := by have := dt h; omega
      have hxj := List.getElem?_eq_getElem hltj
      have hel := (hr2.up hle2).elem hxj
      obtain ⟨ad2, cs2, e2, hh2, r2⟩ := hel
      have hst := stmt_open r2
      obtain ⟨ecs, hsr⟩ := hst
      rw [ecs] at hh2
      refine ⟨ad2, ⟨by omega, by omega, e2⟩, ?_⟩
      refine ⟨_, hh2, ?_⟩
      refine ⟨[1, 2], rfl, ?_⟩
      intro x H3 hle3 hx3
      have hx4 : RowAt H3 x 1 (sRows (sVars b.2.1[j])) := hx3
      have hr3 := RL.of_row (α := Str) hx4 (rc_sRows (l := sVars b.2.1[j]) (fun t ht => by
        simp only [sVars, List.mem_cons, List.not_mem_nil, or_false] at ht
        rcases ht with rfl | rfl | rfl
        · exact hsr.2.1
        · exact hsr.2.2.2.1.1
        · exact hsr.2.2.2.2.1))
      obtain ⟨a3, n3, c3, e3, hr3⟩ := hr3
      rw [e3]
      refine putc_spec hr3 (bVars_sorted _ hos) (by simp only [List.length_map, List.length_cons, List.length_nil]; omega) ?_
      have e5 : sRows (putAll (uns (ens (sVars b.2.1[j]))) (bVars o (b.2.1.take j))) = sRows (bVars o (b.2.1.take (j + 1))) := by
        rw [uns_ens]
        unfold bVars
        rw [take_step _ _ hxj]
      refine ⟨⟨by omega, by omega⟩, j + 1, [(1, 1), (2, 6), (3, 3)], ?_, ⟨hle2.trans hle3, by omega⟩, by dsimp only; omega⟩
      exact ⟨⟨⟨rfl, rfl⟩, ⟨rfl, rfl⟩, ⟨rfl, rfl⟩, rfl, rfl, rfl, rfl, rfl, rfl, trivial⟩, ⟨⟨rfl, trivial⟩, e5, ⟨rfl, rfl, rfl, rfl, rfl, rfl, rfl, rfl, trivial⟩, trivial⟩⟩
    · have hjl : j = b.2.1.length := by have := df h; omega
      refine ⟨[1, 2], rfl, ?_⟩
      intro x H3 hle3 hx3
      have hx4 : RowAt H3 x 1 (sRows [b.2.2.2.1.1.l]) := hx3
      have hr3 := RL.of_row (α := Str) hx4 (rc_sRows (l := [b.2.2.2.1.1.l]) (fun t ht => by
        rw [List.mem_singleton.1 ht]; exact htm.2.1.1))
      obtain ⟨a3, n3, c3, e3, hr3⟩ := hr3
      rw [e3]
      refine putc_spec hr3 (bVars_sorted _ hos) (by simp only [List.length_map, List.length_cons, List.length_nil]; omega) ?_
      have e5 : sRows (putAll (uns (ens [b.2.2.2.1.1.l])) (bVars o (b.2.1.take j))) = sRows (varsOf (p.take (i + 1))) := by
        rw [uns_ens, hjl, List.take_length]
        unfold varsOf
        rw [take_step _ _ hx, ho]
        rfl
      refine ⟨⟨by omega, by omega⟩, i + 1, [(1, 1), (2, 5)], ?_, ⟨hle1.trans (hle2.trans hle3), by omega⟩, by dsimp only; omega⟩
      exact ⟨⟨⟨rfl, rfl⟩, ⟨rfl, rfl⟩, rfl, rfl, rfl, trivial⟩, ⟨⟨rfl, trivial⟩, e5, trivial⟩⟩
  · have hil : i = p.length := by have := df h; omega
    intro x H2 hle2 hx
    have e : varsOf (p.take i) = varsOf p := by rw [hil, List.take_length]
    have hx4 : RowAt H2 x 1 (sRows (varsOf (p.take i))) := hx
    rw [e] at hx4
    have hr3 := RL.of_row (α := Str) hx4 (rc_sRows (l := varsOf p) (vars_all ha))
    obtain ⟨a3, n3, c3, e3, hr3⟩ := hr3
    rw [e3]
    exact hK _ _ _ _ (hle1.trans hle2) hr3
theorem rvars_spec {p : Prog} {a : Option Addr} {n c : Nat} {H : Hp} {K : Value → Hp → Prop} (ha : RL H a n c p) (hc : cnt p < 400000)
    (hK : ∀ a' n' c' H', Le H H' → RL H' a' n' c' (ens (varsOf p)) → K (.slice a' n' c') H') : Does Try.prog 83 [.agg #[.slice a n c]] H K := by
  have hn1 := ha.n_eq
  have hmx := ha.le
  refine spec_of cx_ok cx_mix rfl Try.func83 Try.call83 Try.ntmps83 Try.results83 rfl rfl ?_
  refine ⟨Nat × (Option Addr × Nat × Nat), fun q => ⟨[(3, .v (.slice q.2.1 q.2.2.1 q.2.2.2)), (9, .v (.slice a n c)), (10, .v (.int .i64 n)), (11, .v (.int .i64 q.1))], [], 0⟩,
    fun q H' => Le H H' ∧ q.1 ≤ p.length ∧ RL H' q.2.1 q.2.2.1 q.2.2.2 (ens (varsOf (p.take q.1))), fun q => p.length - q.1, ⟨(0, none, 0, 0), [], ?_, Le.refl H, Nat.zero_le _, ⟨rfl, Nat.le_refl _, Nat.zero_le _, .inl rfl⟩⟩, ?_⟩
  · exact ⟨⟨rfl, rfl, rfl, rfl, trivial⟩, trivial⟩
  rintro ⟨i, a1, n1, c1⟩ H1 _ ⟨hle1, hi, hr1⟩
  simp only at hi hr1
  refine ⟨fun h => ?_, fun h => ?_⟩
  · have hlt : i < p.length := by have := dt h; simp only at this; omega
    have hx := List.getElem?_eq_getElem hlt
    obtain ⟨b, hb⟩ : ∃ b, b = p[i] := ⟨_, rfl⟩
    rw [← hb] at hx
    obtain ⟨ad, cs, e1, hh, r1⟩ := (ha.up hle1).elem hx
    obtain ⟨a2, n2, c2, rfl, hr2, hnm, htm⟩ := block_open r1
    refine ⟨ad, ⟨by simp only; omega, by simp only; omega, e1⟩, ?_⟩
    refine ⟨_, hh, ?_⟩
    have hn2 := hr2.n_eq
    have hmx2 := hr2.le
    obtain ⟨o, ho⟩ : ∃ o, o = varsOf (p.take i) := ⟨_, rfl⟩
    have hol : o.length + (3 * b.2.1.length + 1) < 400000 := by
      have h1 := vars_len (p.take i) []
      have h2 := cnt_take p hx
      rw [ho]; unfold varsOf
      simp only [List.length_nil] at h1
      omega
    rw [← ho] at hr1
    refine ⟨Nat × (Option Addr × Nat × Nat), fun q => ⟨[(3, .v (.slice q.2.1 q.2.2.1 q.2.2.2)), (5, .ptr 0 0), (9, .v (.slice a n c)), (10, .v (.int .i64 n)), (11, .v (.int .i64 i)), (16, .v (.slice a2 n2 c2)), (17, .v (.int .i64 n2)), (18, .v (.int .i64 q.1))],
        [(0, .cells 89 ((Value.string (bs b.1.l) :: .slice a2 n2 c2 :: termV b.2.2).map .v))], 1⟩,
      fun q H' => Le H1 H' ∧ q.1 ≤ b.2.1.length ∧ RL H' q.2.1 q.2.2.1 q.2.2.2 (ens (bVars o (b.2.1.take q.1))), fun q => b.2.1.length - q.1, ⟨(0, a1, n1, c1), [(0, 0)], ?_, Le.refl _, by omega, hr1⟩, ?_⟩
    · exact ⟨⟨rfl, ⟨rfl, rfl⟩, rfl, rfl, rfl, rfl, rfl, rfl, trivial⟩, ⟨⟨rfl, rfl, rfl, rfl, rfl, rfl, rfl, rfl, trivial⟩, trivial⟩⟩
    rintro ⟨j, a3, n3, c3⟩ H2 _ ⟨hle2, hj, hr3⟩
    simp only at hj hr3
    have hbl := bVars_len (b.2.1.take j) o
    rw [List.length_take] at hbl
    refine ⟨fun h => ?_, fun h => ?_⟩
    · have hltj : j < b.2.1.length := by have := dt h; simp only at this; omega
      have hxj := List.getElem?_eq_getElem hltj
      have hel := (hr2.up hle2).elem hxj
      obtain ⟨ad2, cs2, e2, hh2, r2⟩ := hel
      have hst := stmt_open r2
      obtain ⟨ecs, hsr⟩ := hst
      rw [ecs] at hh2
      refine ⟨ad2, ⟨by simp only; omega, by simp only; omega, e2⟩, ?_⟩
      refine ⟨_, hh2, ?_⟩
      refine ⟨some ([], [0, 1, 2, 4, 5, 6, 7, 9, 10, 11, 12, 3, 8, 13, 14]), by kernel_rfl, ?_⟩
      have hlen : ∀ {l : List Bs8} {m : Nat}, l.length ≤ m → m < 1000000 → (ens l).length < 1000000 := fun h1 h2 => by rw [List.length_map]; omega
      refine put_spec hr3 hsr.2.1 (hlen hbl (by omega)) fun a4 n4 c4 H3 hle3 hr4 => ?_
      rw [uns_ens] at hr4
      have l4 := putS_len b.2.1[j].2.1.l (bVars o (b.2.1.take j))
      refine put_spec hr4 hsr.2.2.2.1.1 (hlen l4 (by omega)) fun a5 n5 c5 H4 hle4 hr5 => ?_
      rw [uns_ens] at hr5
      have l5 := putS_len b.2.1[j].2.2.2.1.1.l (putS b.2.1[j].2.1.l (bVars o (b.2.1.take j)))
      refine put_spec hr5 hsr.2.2.2.2.1 (hlen l5 (by omega)) fun a6 n6 c6 H5 hle5 hr6 => ?_
      rw [uns_ens] at hr6
      have e5 : bVars o (b.2.1.take (j + 1)) = putS b.2.1[j].2.2.2.2.1.l (putS b.2.1[j].2.2.2.1.1.l (putS b.2.1[j].2.1.l (bVars o (b.2.1.take j)))) := by
        unfold bVars
        rw [take_step _ _ hxj]
        rfl
      rw [← e5] at hr6
      refine ⟨⟨by simp only; omega, by simp only; omega⟩, (j + 1, a6, n6, c6), [(0, 0)], ?_, ⟨hle2.trans (hle3.trans (hle4.trans hle5)), by simp only; omega, hr6⟩, by dsimp only; omega⟩
      exact ⟨⟨rfl, ⟨rfl, rfl⟩, rfl, rfl, rfl, rfl, rfl, rfl, trivial⟩, ⟨⟨rfl, rfl, rfl, rfl, rfl, rfl, rfl, rfl, trivial⟩, trivial⟩⟩
    · have hjl : j = b.2.1.length := by have := df h; simp only at this; omega
      refine put_spec hr3 htm.2.1.1 (by rw [List.length_map]; omega) fun a4 n4 c4 H3 hle3 hr4 => ?_
      rw [uns_ens] at hr4
      have e5 : varsOf (p.take (i + 1)) = putS b.2.2.2.1.1.l (bVars o (b.2.1.take j)) := by
        rw [hjl, List.take_length]
        unfold varsOf
        rw [take_step _ _ hx, ho]
        rfl
      rw [← e5] at hr4
      refine ⟨⟨by omega, by omega⟩, (i + 1, a4, n4, c4), [], ?_, ⟨hle1.trans (hle2.trans hle3), by omega, hr4⟩, by dsimp only; omega⟩
      exact ⟨⟨rfl, rfl, rfl, rfl, trivial⟩, trivial⟩
  · have hil : i = p.length := by have := df h; simp only at this; omega
    have e : varsOf (p.take i) = varsOf p := by rw [hil, List.take_length]
    rw [e] at hr1
    exact hK _ _ _ _ hle1 hr1
end Go.Proofs
