/- A region whose order is open: every order comes to the same. -/
import Derived.Test.YtjflpceoeofomaaSyDraw
namespace Go.Sy
open Go.RowKit (Below)
section
variable {C : Cx} {hs : List Nat} {B : Bs} {ops : Array Oper}

/-- The frame behind the operations of S. -/
structure Agr (ops : Array Oper) (a0 : Act) (val : Nat → Value) (S : Nat → Prop) (a : Act) : Prop where
  size : a.tmps.size = a0.tmps.size
  hit : ∀ i o d, S i → ops[i]? = some o → o.dst = some d → d < a0.tmps.size → a.tmps[d]? = some (val i)
  miss : ∀ t, (∀ i o, S i → ops[i]? = some o → o.dst ≠ some t) → a.tmps[t]? = a0.tmps[t]?

theorem Agr.put {a0 a : Act} {val : Nat → Value} {S : Nat → Prop} {i : Nat} {o : Oper} {v : Value} (h : Agr ops a0 val S a) (hi : ¬ S i) (ho : ops[i]? = some o)
    (hd : ∀ j o', S j → ops[j]? = some o' → ∀ d, o.dst = some d → o'.dst ≠ some d) (hv : val i = v) : Agr ops a0 val (fun j => S j ∨ j = i) (a.put o.dst v) := by
  cases hdst : o.dst with
  | none =>
    refine ⟨h.size, fun j o' d hj ho' hd' hlt => ?_, fun t ht => h.miss t fun j o' hj ho' => ht j o' (.inl hj) ho'⟩
    rcases hj with hj | rfl
    · exact h.hit j o' d hj ho' hd' hlt
    · rw [ho] at ho'; simp only [Option.some.injEq] at ho'; subst ho'; rw [hdst] at hd'; cases hd'
  | some t0 =>
    refine ⟨by simp [Act.put, h.size], fun j o' d hj ho' hd' hlt => ?_, fun t ht => ?_⟩
    · rcases hj with hj | rfl
      · have hne : t0 ≠ d := fun e => by subst e; exact hd j o' hj ho' _ hdst hd'
        simp only [Act.put]
        rw [Array.getElem?_setIfInBounds_ne hne]
        exact h.hit j o' d hj ho' hd' hlt
      · rw [ho] at ho'; simp only [Option.some.injEq] at ho'; subst ho'
        rw [hdst] at hd'; simp only [Option.some.injEq] at hd'; subst hd'
        simp only [Act.put]
        rw [Array.getElem?_setIfInBounds_self_of_lt (by rw [h.size]; exact hlt), hv]
    · have hne : t0 ≠ t := fun e => by subst e; exact ht i o (.inr rfl) ho hdst
      simp only [Act.put]
      rw [Array.getElem?_setIfInBounds_ne hne]
      exact h.miss t fun j o' hj ho' => ht j o' (.inl hj) ho'

theorem Agr.congr {a0 a : Act} {val val' : Nat → Value} {S S' : Nat → Prop} (h : Agr ops a0 val S a) (hs : ∀ i, S i ↔ S' i) (hv : ∀ i, S i → val i = val' i) : Agr ops a0 val' S' a :=
  ⟨h.size, fun i o d hi ho hd hlt => by rw [← hv i ((hs i).2 hi)]; exact h.hit i o d ((hs i).2 hi) ho hd hlt, fun t ht => h.miss t fun i o hi ho => ht i o ((hs i).1 hi) ho⟩

theorem Agr.at {a0 a c : Act} {val : Nat → Value} {S M : Nat → Prop} (h : Agr ops a0 val S a) (hc : Agr ops a0 val M c) {t : Nat} (ht : ∀ d o, ops[d]? = some o → o.dst = some t → (S d ↔ M d)) : a.tmps[t]? = c.tmps[t]? := by
  by_cases hex : ∃ d o, ops[d]? = some o ∧ o.dst = some t ∧ S d
  · obtain ⟨d, o, ho, hd, hs⟩ := hex
    by_cases hlt : t < a0.tmps.size
    · rw [h.hit d o t hs ho hd hlt, hc.hit d o t ((ht d o ho hd).1 hs) ho hd hlt]
    · rw [Array.getElem?_eq_none (by rw [h.size]; omega), Array.getElem?_eq_none (by rw [hc.size]; omega)]
  · rw [h.miss t fun i o hi ho hd => hex ⟨i, o, ho, hd, hi⟩, hc.miss t fun i o hi ho hd => hex ⟨i, o, ho, hd, (ht i o ho hd).2 hi⟩]

theorem look_exec {o : Oper} {a c : Act} (hs : ∀ cs b, o.op ≠ .select cs b) (h : ∀ t ∈ o.looksAt ops, a.tmps[t]? = c.tmps[t]?) :
    execOp a.eval o = execOp c.eval o ∧ Region.wanted o (yielded ops a.tmps) = Region.wanted o (yielded ops c.tmps) := by
  constructor
  · refine execOp_congr o hs fun x hx => ?_
    cases x with
    | tmp t =>
      have := h t (List.mem_append_left _ (List.mem_filterMap.2 ⟨.tmp t, by simpa using hx, rfl⟩))
      simp only [Act.eval, Array.getD_eq_getD_getElem?, this]
    | _ => rfl
  · unfold Region.wanted
    cases hg : o.guard with
    | none => rfl
    | some gw =>
      obtain ⟨g, want⟩ := gw
      have hy : yielded ops a.tmps g = yielded ops c.tmps g := by
        unfold yielded
        cases ht : (ops[g]?).bind (·.dst) with
        | none => rfl
        | some t =>
          have := h t (List.mem_append_right _ (by simp [hg, ht]))
          simp only [Option.bind_some, this]
      simp only [hy]

theorem hides_some {hs : List Nat} : ∀ {bx : List (Nat × Bx)} {k : Nat} {b : Bx}, lk (hides hs bx) k = some b → (hasN k hs = false ∧ lk bx k = some b) ∨ (b = .dead ∧ ∃ b', lk bx k = some b')
  | (j, b1) :: r, k, b, h => by
    rw [hides] at h
    rw [lk_cons]
    cases hj : hasN j hs with
    | true =>
      rw [hj, cond_true, lk_cons] at h
      split at h
      · rename_i e
        rw [if_pos e]
        exact .inr ⟨(Option.some.inj h).symm, b1, rfl⟩
      · rename_i e
        rw [if_neg e]
        exact hides_some h
    | false =>
      rw [hj, cond_false, lk_cons] at h
      split at h
      · rename_i e
        subst e
        rw [if_pos rfl]
        exact .inl ⟨hj, h⟩
      · rename_i e
        rw [if_neg e]
        exact hides_some h
theorem hide_some {hs : List Nat} {s : St} {k : Nat} {b : Bx} (h : lk (s.hide hs).bx k = some b) : (hasN k hs = false ∧ lk s.bx k = some b) ∨ (b = .dead ∧ ∃ b', lk s.bx k = some b') := by
  cases hs with
  | nil => exact .inl ⟨rfl, h⟩
  | cons a r => exact hides_some h

/-- An elder state's variables, in a later memory. -/
theorem Mem.elder {hs : List Nat} {ρ : Rho} {s s1 : St} {H H1 : Hp} {w : World} (hm : Mem B ρ s.bx s.nx H w) (hk : Keep hs s1 s) (hb : B.base ≤ s1.nx) (hle : Le H1 H) (hle0 : Le B.H H1)
    (hlt : ∀ k b, lk s1.bx k = some b → k < s1.nx ∧ b.lt s1.nx = true) : Mem B ρ (s1.hide hs).bx s1.nx H1 w where
  os := hm.os
  tape := hm.tape
  output := hm.output
  size := hm.size
  frame := hm.frame
  base := hb
  agree := hm.agree
  hp := fun b o h => hm.hp b o (hle b o h)
  hle := hle0
  hnew := fun b h1 h2 h3 => by
    cases h4 : H1 b with
    | none => rfl
    | some o => have := hle b o h4; rw [hm.hnew b h1 h2 h3] at this; cases this
  ok := fun k b h => by
    rcases hide_some h with ⟨hv, h1⟩ | ⟨rfl, b', h1⟩
    · obtain ⟨h2, h3⟩ := hlt k _ h1
      exact ⟨h2, (hm.ok k _ ((hk.2 k h2 hv).trans h1)).2.1, h3⟩
    · exact ⟨(hlt k b' h1).1, trivial, rfl⟩
  own := fun k b g h ho => by
    rcases hide_some h with ⟨hv, h1⟩ | ⟨rfl, b', h1⟩
    · have h2 := hm.own k _ g ((hk.2 k (hlt k _ h1).1 hv).trans h1) ho
      refine ⟨?_, h2.2⟩
      cases h4 : H1 g with
      | none => rfl
      | some o => have := hle g o h4; rw [h2.1] at this; cases this
    · exact ho.elim
  disj := fun k k' b b' g h h' ho ho' => by
    rcases hide_some h with ⟨hv, h1⟩ | ⟨rfl, b1, h1⟩
    · rcases hide_some h' with ⟨hv', h1'⟩ | ⟨rfl, b1', h1'⟩
      · exact hm.disj k k' _ _ g ((hk.2 k (hlt k _ h1).1 hv).trans h1) ((hk.2 k' (hlt k' _ h1').1 hv').trans h1') ho ho'
      · exact ho'.elim
    · exact ho.elim

/-- An operation that has been reckoned, whether or not it has been carried out. -/
def Settled (C : Cx) (hs : List Nat) (B : Bs) (ops : Array Oper) (a0 : Act) (pre : List Nat) (val : Nat → Value) (s : St) (H : Hp) (ρ : Rho) (j : Nat) : Prop :=
  ∃ o A Z c, ops[j]? = some o ∧ pre = A ++ j :: Z ∧ Agr ops a0 val (· ∈ A) c ∧ c.defers = [] ∧
    ((Region.wanted o (yielded ops c.tmps) = true ∧ ∃ (s1 : St) (H1 : Hp) (x : SV), (∀ t y, lk s1.env t = some y → c.tmps[t]? = some (ga ρ y) ∧ y.lt s1.nx = true) ∧ Keep hs s1 s ∧ B.base ≤ s1.nx ∧ Le H1 H ∧ Le B.H H1 ∧
        (∀ k b, lk s1.bx k = some b → k < s1.nx ∧ b.lt s1.nx = true) ∧ x.lt s1.nx = true ∧ val j = ga ρ x ∧
        ∀ B ρ (o' : Oper) a w, o'.op = o.op → o'.type = o.type → Rel C B ρ (s1.hide hs) H1 a w → (execOp a.eval o').run C.P w = .ok (.value (ga ρ x)) w) ∨
     (Region.wanted o (yielded ops c.tmps) = false ∧ val j = undef))

theorem Settled.later {a0 : Act} {pre Z' : List Nat} {val val' : Nat → Value} {s s' : St} {H H' : Hp} {ρ ρ' : Rho} {j : Nat} (h : Settled C hs B ops a0 pre val s H ρ j) (hv : ∀ i ∈ pre, val' i = val i) (hk : Keep hs s s') (hle : Le H H') (hsm : Same s.nx ρ ρ') :
    Settled C hs B ops a0 (pre ++ Z') val' s' H' ρ' j := by
  obtain ⟨o, A, Z, c, h1, h2, h3, h4, h5⟩ := h
  subst h2
  refine ⟨o, A, Z ++ Z', c, h1, by simp, h3.congr (fun _ => Iff.rfl) (fun i hi => (hv i (List.mem_append_left _ hi)).symm), h4, ?_⟩
  have hj : val' j = val j := hv j (by simp)
  rcases h5 with ⟨h5, s1, H1, x, k1, k2, k3, k4, k5, k6, k7, k8, k9⟩ | ⟨h5, h6⟩
  · have hs1 : Same s1.nx ρ ρ' := fun k hk' => hsm k (Nat.lt_of_lt_of_le hk' k2.1)
    refine .inl ⟨h5, s1, H1, x, fun t y hy => ?_, k2.trans hk, k3, k4.trans hle, k5, k6, k7, by rw [hj, k8, ga_same hs1 x k7], k9⟩
    rw [ga_same hs1 y (k1 t y hy).2]
    exact k1 t y hy
  · exact .inr ⟨h5, by rw [hj, h6]⟩

theorem reput2 {ρ : Rho} {s : St} {H : Hp} {a : Act} {w : World} (hr : Rel C B ρ s H a w) {d : Nat} {x y : SV} (hx : lk s.env d = some x) (hy : ga ρ y = ga ρ x) (hl : y.lt s.nx = true) : Rel C B ρ (s.put C.n (some d) y) H a w := by
  simp only [St.put]
  cases Nat.ble (d + 1) C.n with
  | false => exact hr
  | true =>
    refine ⟨fun u z hu => ?_, hr.sz, hr.defers, hr.mem⟩
    simp only [cond_true, lk_cons] at hu
    split at hu
    · rename_i e
      subst e
      simp only [Option.some.injEq] at hu
      subst hu
      rw [hy]
      exact ⟨(hr.env _ _ hx).1, hl⟩
    · exact hr.env u z hu

theorem putK_iff2 {s : St} {n : Nat} {d : Option Tmp} {x : SV} {K : St → Prop} : s.putK n d x K ↔ K (s.put n d x) := by
  cases s with
  | mk env bx nx =>
    cases d with
    | none => simp only [St.putK, St.put, forceB_eq, forceE_eq, forceN_eq]
    | some t => simp only [St.putK, St.put, forceB_eq, forceV_eq, forceE_eq, forceN_eq]; cases Nat.ble (t + 1) n <;> rfl

theorem put_nx2 (n : Nat) (s : St) (d : Option Tmp) (x : SV) : (s.put n d x).nx = s.nx ∧ (s.put n d x).bx = s.bx := by
  cases d with
  | none => exact ⟨rfl, rfl⟩
  | some t => simp only [St.put]; cases Nat.ble (t + 1) n <;> exact ⟨rfl, rfl⟩

theorem Keep.mono {hs : List Nat} {s s' : St} (h : Keep [] s s') : Keep hs s s' := ⟨h.1, fun k hk _ => h.2 k hk rfl⟩
theorem Keep.put (n : Nat) (s : St) (d : Option Tmp) (x : SV) : Keep hs s (s.put n d x) := by
  obtain ⟨h1, h2⟩ := put_nx2 n s d x
  exact ⟨by rw [h1]; exact Nat.le_refl _, fun k _ _ => by rw [h2]⟩

theorem head_step {ρ : Rho} {s : St} {H : Hp} {b : Act} {w : World} {Q : St → Hp → Prop} {i : Nat} {r : List Nat} (h : runD C hs ops.toList Q (i :: r) s H) (hr : Rel C B ρ s H b w) :
    ∃ o s1, ops[i]? = some o ∧ Rel C B ρ s1 H b w ∧ (∀ hs', Keep hs' s s1) ∧
      ((Region.wanted o (yielded ops b.tmps) = true ∧ stepD C hs (hidesR hs ops.toList i r) s1 o H fun s' H' => runD C hs ops.toList Q r s' H') ∨ (Region.wanted o (yielded ops b.tmps) = false ∧ runD C hs ops.toList Q r (s1.put C.n o.dst unit) H)) := by
  rw [runD] at h
  split at h
  · exact h.elim
  · rename_i o ho
    rw [Array.getElem?_toList] at ho
    refine ⟨o, ?_⟩
    split at h
    · rename_i hg
      exact ⟨s, ho, hr, fun _ => Keep.refl s, .inl ⟨by simp [Region.wanted, hg], h⟩⟩
    · rename_i j want hg
      split at h
      · exact h.elim
      · rename_i d hd
        simp only [putK_iff2] at h
        have hd' : (ops[j]?).bind (·.dst) = some d := by
          unfold dstOf at hd
          split at hd
          · rename_i o' ho'
            rw [Array.getElem?_toList] at ho'
            rw [ho']; exact hd
          · cases hd
        have hw : ∀ x, lk s.env d = some x → Region.wanted o (yielded ops b.tmps) = (((match ga ρ x with | .bool b => some b | _ => none) : Option Bool) == some want) := fun x hx => by
          simp only [Region.wanted, hg, yielded, hd', Option.bind_some, (hr.env _ _ hx).1]
          cases ga ρ x <;> rfl
        split at h
        · rename_i v hx
          cases hbw : (v == want) with
          | true =>
            rw [hbw] at h
            exact ⟨s, ho, hr, fun _ => Keep.refl s, .inl ⟨by rw [hw _ hx, ga]; simpa using hbw, h⟩⟩
          | false =>
            rw [hbw] at h
            exact ⟨s, ho, hr, fun _ => Keep.refl s, .inr ⟨by rw [hw _ hx, ga]; simpa using hbw, h⟩⟩
        · rename_i v hx
          obtain ⟨h1, h2⟩ := h
          by_cases hbw : v = want
          · exact ⟨_, ho, reput2 hr hx (y := .kb want) (by rw [ga, ga, hbw]) (by rw [SV.lt]), fun _ => Keep.put _ _ _ _, .inl ⟨by rw [hw _ hx, ga]; simp [hbw], h1 hbw⟩⟩
          · have hb2 : v = !want := by cases v <;> cases want <;> simp_all
            exact ⟨_, ho, reput2 hr hx (y := .kb !want) (by rw [ga, ga, hb2]) (by rw [SV.lt]), fun _ => Keep.put _ _ _ _, .inr ⟨by rw [hw _ hx, ga]; simp [hbw], h2 hb2⟩⟩
        · rename_i vs hx
          exact ⟨s, ho, hr, fun _ => Keep.refl s, .inr ⟨by rw [hw _ hx, ga]; simp, h⟩⟩
        · exact h.elim

/-- How far the reckoning has come. -/
structure Far (C : Cx) (hs : List Nat) (B : Bs) (ops : Array Oper) (ord : List Nat) (a0 : Act) (listed : Nat → Prop) (w : World) (pre rem : List Nat) (val : Nat → Value) (s : St) (H : Hp) (ρ : Rho) (b : Act) : Prop where
  ord : ord = pre ++ rem
  rel : Rel C B ρ s H b w
  agr : Agr ops a0 val (· ∈ pre) b
  sub : ∀ i, listed i → i ∈ pre
  todo : ∀ j ∈ pre, ¬ listed j → ∃ r, (∀ e ∈ rem, e ∈ r) ∧ Settled C (hidesR hs ops.toList j r) B ops a0 pre val s H ρ j

/-- What is still to be done begins with an operation on the memory, that is wanted. -/
def Front (C : Cx) (hs : List Nat) (ops : Array Oper) (Q : St → Hp → Prop) (rem : List Nat) (s : St) (H : Hp) (b : Act) : Prop :=
  (rem = [] ∧ Q s H) ∨ ∃ e o r, rem = e :: r ∧ ops[e]? = some o ∧ pur o.op = false ∧ eff o.op = true ∧ Region.wanted o (yielded ops b.tmps) = true ∧
    opG (opX False C s o.op o.type H fun x s' H' => bif keepB (hsE hs o.op) s s' then s'.putK C.n o.dst x fun s'' => runD C hs ops.toList Q r s'' H' else False) C s o.op o.type H fun x s' H' => bif keepB (hsE hs o.op) s s' then s'.putK C.n o.dst x fun s'' => runD C hs ops.toList Q r s'' H' else False

structure OrdOK (ops : Array Oper) (ord : List Nat) : Prop where
  all : ∀ i, i < ops.size → i ∈ ord
  lt : ∀ i ∈ ord, i < ops.size
  pairs : ord.Pairwise fun p q => pairOK ops p q = true
  self : ∀ i ∈ ord, selfOK ops i = true

theorem ordOK_of {ord : List Nat} (h : drawOK ops ord = true) : OrdOK ops ord := by
  simp only [drawOK, Bool.and_eq_true, List.all_eq_true, List.mem_range, List.contains_iff_mem] at h
  obtain ⟨⟨⟨h1, h2⟩, h3⟩, h4⟩ := h
  refine ⟨h1, fun i hi => by have := h2 i hi; simpa [Nat.blt_eq] using this, ?_, h4⟩
  clear h1 h2 h4
  induction ord with
  | nil => exact List.Pairwise.nil
  | cons p r ih =>
    simp only [pairsOK, Bool.and_eq_true, List.all_eq_true] at h3
    exact List.Pairwise.cons h3.1 (ih h3.2)

theorem pair_dst {p q : Nat} {x y : Oper} (h : pairOK ops p q = true) (hx : ops[p]? = some x) (hy : ops[q]? = some y) : p ≠ q ∧ (∀ d, x.dst = some d → y.dst ≠ some d) ∧ depB ops ops.size p q = false ∧ (depB ops ops.size q p = true ∨ (pur x.op = true ∧ x.apart ops y = true)) := by
  simp only [pairOK, hx, hy, Bool.and_eq_true, bne_iff_ne, Bool.not_eq_true', Bool.or_eq_true] at h
  obtain ⟨⟨⟨h1, h2⟩, h3⟩, h4⟩ := h
  refine ⟨h1, fun d hd => ?_, h2, h3⟩
  rw [hd] at h4
  simpa using h4

theorem adv (ht : TOK C) {Q : St → Hp → Prop} {ord : List Nat} (hok : OrdOK ops ord) {a0 : Act} {listed : Nat → Prop} {w : World} : ∀ (rem pre : List Nat) (val : Nat → Value) (s : St) (H : Hp) (ρ : Rho) (b : Act),
    Far C hs B ops ord a0 listed w pre rem val s H ρ b → runD C hs ops.toList Q rem s H → Le B.H H →
    ∃ pre' rem' val' s' b', Far C hs B ops ord a0 listed w pre' rem' val' s' H ρ b' ∧ Front C hs ops Q rem' s' H b' ∧ ∀ i ∈ pre, val' i = val i
  | [], pre, val, s, H, ρ, b, hf, hrun, _ => ⟨pre, [], val, s, b, hf, .inl ⟨rfl, hrun⟩, fun _ _ => rfl⟩
  | i :: r, pre, val, s, H, ρ, b, hf, hrun, hB => by
    obtain ⟨o, s1, ho, hr1, hk1, hcase⟩ := head_step hrun hf.rel
    have hpw := hok.pairs
    rw [hf.ord] at hpw
    have hpi : ∀ p ∈ pre, pairOK ops p i = true := fun p hp => (List.pairwise_append.1 hpw).2.2 p hp i List.mem_cons_self
    have hni : i ∉ pre := fun hi => (pair_dst (hpi i hi) ho ho).1 rfl
    -- what stands behind the operation, given its value
    have next : ∀ (v : Value) (s2 : St), Rel C B ρ s2 H (b.put o.dst v) w → (∀ hs', Keep hs' s1 s2) → runD C hs ops.toList Q r s2 H →
        (∀ val', val' i = v → (∀ j ∈ pre, val' j = val j) → Settled C (hidesR hs ops.toList i r) B ops a0 (pre ++ [i]) val' s2 H ρ i) →
        ∃ pre' rem' val' s' b', Far C hs B ops ord a0 listed w pre' rem' val' s' H ρ b' ∧ Front C hs ops Q rem' s' H b' ∧ ∀ j ∈ pre, val' j = val j := fun v s2 hr2 hk2 hrun hset => by
      let val2 : Nat → Value := fun j => if j = i then v else val j
      have hv : ∀ j ∈ pre, val2 j = val j := fun j hj => if_neg fun (e : j = i) => hni (e ▸ hj)
      have hvi : val2 i = v := if_pos rfl
      have hf2 : Far C hs B ops ord a0 listed w (pre ++ [i]) r val2 s2 H ρ (b.put o.dst v) :=
        { ord := by rw [hf.ord]; simp
          rel := hr2
          agr := ((hf.agr.congr (val' := val2) (fun _ => Iff.rfl) (fun j hj => (hv j hj).symm)).put hni ho (fun j o' hj ho' d hd hd' => (pair_dst (hpi j hj) ho' ho).2.1 d hd' hd) hvi).congr (fun j => by simp) (fun _ _ => rfl)
          sub := fun j hj => List.mem_append_left _ (hf.sub j hj)
          todo := fun j hj hnl => by
            rcases List.mem_append.1 hj with hj | hj
            · obtain ⟨r', hr', hS⟩ := hf.todo j hj hnl
              exact ⟨r', fun e he => hr' e (List.mem_cons_of_mem _ he), hS.later hv ((hk1 _).trans (hk2 _)) (Le.refl H) (Same.refl _ _)⟩
            · simp only [List.mem_singleton] at hj
              subst hj
              exact ⟨r, fun e he => he, hset val2 hvi hv⟩ }
      obtain ⟨pre', rem', val', s', b', h1, h2, h3⟩ := adv ht hok r _ _ _ _ _ _ hf2 hrun hB
      exact ⟨pre', rem', val', s', b', h1, h2, fun j hj => (h3 j (List.mem_append_left _ hj)).trans (hv j hj)⟩
    rcases hcase with ⟨hw, hstep⟩ | ⟨hw, hrun⟩
    · unfold stepD at hstep
      cases hp : pur o.op with
      | true =>
        rw [hp] at hstep
        simp only [cond_true, putK_iff2] at hstep
        obtain ⟨x, hx1, hx2⟩ := pur_ex hp hstep
        have hrh : Rel C B ρ (s1.hide (hidesR hs ops.toList i r)) H b w := ⟨hr1.env, hr1.sz, hr1.defers, hr1.mem.elder (Keep.refl _) hr1.mem.base (Le.refl H) hB (fun k b hk => ⟨(hr1.mem.ok k b hk).1, (hr1.mem.ok k b hk).2.2⟩)⟩
        have hF : ∀ B ρ (o' : Oper) a w, o'.op = o.op → o'.type = o.type → Rel C B ρ (s1.hide (hidesR hs ops.toList i r)) H a w → (execOp a.eval o').run C.P w = .ok (.value (ga ρ x)) w ∧ x.lt s1.nx = true := fun B ρ o' a w e1 e2 hr => by
          obtain ⟨x', h1, h2, h3⟩ := pur_run ht hp (hx2 (fun x' s' H' => x' = x) rfl) B ρ o' a w e1 e2 hr
          subst h2
          exact ⟨h1, h3⟩
        have hxlt := (hF B ρ o b w rfl rfl hrh).2
        refine next (ga ρ x) _ (hr1.put o.dst hxlt) (fun _ => Keep.put _ _ _ _) hx1 fun val' hvi hv => ⟨o, pre, [], b, ho, rfl, hf.agr.congr (fun _ => Iff.rfl) (fun j hj => (hv j hj).symm), hr1.defers, .inl ⟨hw, s1, H, x, hr1.env, Keep.put _ _ _ _, hr1.mem.base, Le.refl H, hB, fun k b hk => ⟨(hr1.mem.ok k b hk).1, (hr1.mem.ok k b hk).2.2⟩, hxlt, hvi, fun B ρ o' a w e1 e2 hr => (hF B ρ o' a w e1 e2 hr).1⟩⟩
      | false =>
        rw [hp] at hstep
        simp only [cond_false] at hstep
        obtain ⟨he, hstep⟩ := bif_f hstep
        refine ⟨pre, i :: r, val, s1, b, ⟨hf.ord, hr1, hf.agr, hf.sub, fun j hj hnl => by
          obtain ⟨r', hr', hS⟩ := hf.todo j hj hnl
          have := hS.later (Z' := []) (fun _ _ => rfl) (hk1 _) (Le.refl H) (Same.refl _ _)
          rw [List.append_nil] at this
          exact ⟨r', hr', this⟩⟩, .inr ⟨i, o, r, rfl, ho, hp, he, hw, hstep⟩, fun _ _ => rfl⟩
    · exact next undef _ (by have := hr1.put o.dst (x := unit) (by rw [unit, SV.lt]); rwa [unit, ga] at this) (fun _ => Keep.put _ _ _ _) hrun fun val' hvi hv => ⟨o, pre, [], b, ho, rfl, hf.agr.congr (fun _ => Iff.rfl) (fun j hj => (hv j hj).symm), hr1.defers, .inr ⟨hw, hvi⟩⟩


def Done (listed : Array Bool) (i : Nat) : Prop := listed[i]? = some true
def Closed (ops : Array Oper) (listed : Array Bool) : Prop := ∀ i o, Done listed i → ops[i]? = some o → ∀ e ∈ o.after, Region.binds .any e = true → Done listed e.on

theorem dep_done {listed : Array Bool} (hc : Closed ops listed) : ∀ (n i j : Nat) (o : Oper), ops[i]? = some o → (∀ e ∈ o.after, Region.binds .any e = true → Done listed e.on) → depB ops n i j = true → Done listed j
  | 0, i, j, o, _, _, h => by simp [depB] at h
  | n + 1, i, j, o, ho, he, h => by
    simp only [depB, ho, List.any_eq_true, Bool.and_eq_true, Bool.or_eq_true, beq_iff_eq] at h
    obtain ⟨e, he1, he2, he3⟩ := h
    have hd := he e (by simpa using he1) he2
    rcases he3 with rfl | h
    · exact hd
    · cases ho' : ops[e.on]? with
      | none =>
        cases n with
        | zero => simp [depB] at h
        | succ n => simp [depB, ho'] at h
      | some o' => exact dep_done hc n e.on j o' ho' (hc e.on o' hd ho') h

theorem self_spec {p : Nat} {x : Oper} (h : selfOK ops p = true) (hx : ops[p]? = some x) : (∀ d, x.dst = some d → d ∉ x.looksAt ops) ∧ (∀ cs b, x.op ≠ .select cs b) ∧ ∀ e ∈ x.after, Region.binds .any e = true → e.on < ops.size ∧ e.on ≠ p := by
  simp only [selfOK, hx, Bool.and_eq_true, Bool.not_eq_true'] at h
  obtain ⟨⟨h1, h2⟩, h3⟩ := h
  refine ⟨fun d hd hm => ?_, fun cs b e => ?_, fun e he hb => ?_⟩
  · rw [hd] at h1
    have h4 : (!(x.looksAt ops).contains d) = true := h1
    rw [List.contains_iff_mem.2 hm] at h4
    cases h4
  · rw [e] at h2; cases h2
  · have := List.all_eq_true.1 h3 e (by simpa using he)
    rw [hb] at this
    simpa [Nat.blt_eq] using this

theorem dep_edge {i : Nat} {o : Oper} (ho : ops[i]? = some o) {e : Edge} (he : e ∈ o.after) (hb : Region.binds .any e = true) : depB ops ops.size i e.on = true := by
  have hlt := (Array.getElem?_eq_some_iff.1 ho).1
  obtain ⟨n, hn⟩ : ∃ n, ops.size = n + 1 := ⟨ops.size - 1, by omega⟩
  rw [hn, depB, ho]
  simp only [List.any_eq_true, Bool.and_eq_true, Bool.or_eq_true, beq_iff_eq]
  exact ⟨e, by simpa using he, hb, .inl rfl⟩

theorem first_of {p : Nat → Prop} [DecidablePred p] : ∀ (l : List Nat), (∃ i ∈ l, p i) → ∃ A i Z, l = A ++ i :: Z ∧ p i ∧ ∀ j ∈ A, ¬ p j
  | [], h => by obtain ⟨i, hi, _⟩ := h; cases hi
  | x :: r, h => by
    by_cases hx : p x
    · exact ⟨[], x, r, rfl, hx, by simp⟩
    · obtain ⟨A, i, Z, h1, h2, h3⟩ := first_of r (by
        obtain ⟨i, hi, hp⟩ := h
        rcases List.mem_cons.1 hi with rfl | hi
        · exact absurd hp hx
        · exact ⟨i, hi, hp⟩)
      exact ⟨x :: A, i, Z, by rw [h1]; rfl, h2, fun j hj => by
        rcases List.mem_cons.1 hj with rfl | hj
        · exact hx
        · exact h3 j hj⟩

theorem ready_some {ord : List Nat} (hok : OrdOK ops ord) {listed : Array Bool} (hsz : listed.size = ops.size) (hex : ∃ i, i < ops.size ∧ ¬ Done listed i) : Region.ready .any ops listed ≠ [] := by
  obtain ⟨i0, hi0, hn0⟩ := hex
  have : DecidablePred fun i => ¬ Done listed i := fun i => by unfold Done; infer_instance
  obtain ⟨A, i, Z, h1, h2, h3⟩ := first_of (p := fun i => ¬ Done listed i) ord ⟨i0, hok.all i0 hi0, hn0⟩
  have hi : i ∈ ord := by rw [h1]; simp
  have hlt := hok.lt i hi
  have ho : ops[i]? = some ops[i] := Array.getElem?_eq_getElem hlt
  intro hr
  have : i ∈ Region.ready .any ops listed := mem_ready.2 ⟨by
    have hlt' : i < listed.size := by rw [hsz]; exact hlt
    rw [Array.getD_eq_getD_getElem?, Array.getElem?_eq_getElem hlt']
    cases hb : listed[i] with
    | false => rfl
    | true => exact absurd (by unfold Done; rw [Array.getElem?_eq_getElem hlt', hb]) h2, ops[i], ho, fun e he hb => by
    obtain ⟨hs1, hs2⟩ := (self_spec (hok.self i hi) ho).2.2 e he hb
    have hin := hok.all e.on hs1
    rw [h1] at hin
    have hdone : Done listed e.on := by
      rcases List.mem_append.1 hin with hA | hZ
      · exact Classical.not_not.1 (h3 _ hA)
      · rcases List.mem_cons.1 hZ with h4 | hZ
        · exact absurd h4 hs2
        · have hpw := hok.pairs
          rw [h1] at hpw
          have hpq : pairOK ops i e.on = true := (List.pairwise_cons.1 (List.pairwise_append.1 hpw).2.1).1 _ hZ
          have ho2 : ops[e.on]? = some ops[e.on] := Array.getElem?_eq_getElem hs1
          have := (pair_dst hpq ho ho2).2.2.1
          rw [dep_edge ho he hb] at this
          cases this
    unfold Done at hdone
    rw [Array.getD_eq_getD_getElem?, hdone]; rfl⟩
  rw [hr] at this
  cases this

theorem done_set {listed : Array Bool} {i j : Nat} (hi : i < listed.size) : Done (listed.setIfInBounds i true) j ↔ Done listed j ∨ j = i := by
  unfold Done
  by_cases h : i = j
  · subst h
    rw [Array.getElem?_setIfInBounds_self_of_lt hi]; simp
  · rw [Array.getElem?_setIfInBounds_ne h]
    simp [Ne.symm h]

theorem agr_eq {a0 a b : Act} {val : Nat → Value} {S : Nat → Prop} (h : Agr ops a0 val S a) (h' : Agr ops a0 val S b) : a.tmps = b.tmps := by
  apply Array.ext_getElem?
  intro t
  exact h.at h' fun _ _ _ _ => Iff.rfl

theorem upon_swap {P : Program} {o : Oper} {a b : Act} {next next' : Act → World → Prop} {Q Q' : Exit → Act → World → Prop} (hn : ∀ v w, next (b.put o.dst v) w → next' (a.put o.dst v) w) (hd : ∀ a w, next a w → a.defers = [])
    (hq : ∀ e a w, Q e a w → False) : ∀ (r : Result Next), o.upon P b next Q r → o.upon P a next' Q' r
  | .ok (.value v) w, h => hn _ _ h
  | .ok .skip w, h => hn _ _ h
  | .ok (.enter f as) w, h => Calls.mono h fun e w' he => by
    cases e with
    | returned v => exact hn _ _ he
    | panicked c => exact (hq _ _ _ he).elim
    | outgrown => obtain ⟨a, w, h⟩ := he; exact (hq _ _ _ h).elim
  | .ok (.defer d) w, h => by
    have := hd _ _ h
    cases hdst : o.dst <;> simp [Act.put, hdst] at this
  | .ok (.row row as) w, h => Rows.mono h fun v w' he => hn _ _ he
  | .halt (.panic v) w, h => (hq _ _ _ h).elim
  | .ok (.round ..) w, h => h.elim
  | .ok .recover w, h => h.elim
  | .ok (.spawn _) w, h => h.elim
  | .ok (.comm ..) w, h => h.elim
  | .ok .numGoroutine w, h => h.elim
  | .ok .collect w, h => h.elim
  | .ok (.watch _) w, h => h.elim
  | .ok (.newcoro ..) w, h => h.elim
  | .ok (.coroswitch ..) w, h => h.elim
  | .ok (.sleep _) w, h => h.elim
  | .ok (.timer _) w, h => h.elim
  | .ok (.alone ..) w, h => h.elim
  | .ok (.callThen ..) w, h => h.elim
  | .ok (.stack ..) w, h => h.elim
  | .halt .goexit w, h => h.elim
  | .halt .blocked w, h => h.elim
  | .halt .waiting w, h => h.elim
  | .halt (.exit _) w, h => h.elim
  | .halt (.fatal _) w, h => h.elim
  | .halt (.throw _) w, h => h.elim
  | .halt (.unsupported _) w, h => h.elim
  | .halt (.stuck _) w, h => h.elim

theorem put_eq {a b : Act} {d : Option Tmp} {v u : Value} (hs : a.tmps.size = b.tmps.size) (h : b.put d v = b.put d u) : a.put d v = a.put d u := by
  cases d with
  | none => rfl
  | some t =>
    simp only [Act.put, Act.mk.injEq, and_true] at h ⊢
    by_cases hlt : t < b.tmps.size
    · have := congrArg (fun (x : Array Value) => x[t]?) h
      simp only [Array.getElem?_setIfInBounds_self_of_lt hlt, Option.some.injEq] at this
      rw [this]
    · rw [Array.setIfInBounds, dif_neg (by rw [hs]; exact hlt), Array.setIfInBounds, dif_neg (by rw [hs]; exact hlt)]

theorem safe_dep {j i : Nat} {o : Oper} : ∀ {r : List Nat}, safeB ops.toList j r = true → i ∈ r → ops[i]? = some o → pur o.op = false → mild o.op = false → depB ops ops.size i j = true
  | [], _, h, _, _, _ => by cases h
  | e :: r, h, hi, ho, hp, hmi => by
    rw [safeB] at h
    split at h
    · rename_i o' ho'
      rw [Array.getElem?_toList] at ho'
      cases hb : (bif pur o'.op then true else bif mild o'.op then true else depB ops.toList.toArray ops.toList.length e j) with
      | false => rw [hb] at h; cases h
      | true =>
        rw [hb] at h
        rcases List.mem_cons.1 hi with rfl | hi
        · rw [ho] at ho'
          cases ho'
          rw [hp, hmi] at hb
          simpa using hb
        · exact safe_dep h hi ho hp hmi
    · cases h

theorem draw_any (ht : TOK C) {ord : List Nat} (hok : OrdOK ops ord) {Q : St → Hp → Prop} {H0 : Hp} {a0 : Act} : ∀ (fuel : Nat) (un : List Nat) (listed : Array Bool) (a : Act) (w : World), un.length = fuel → un.Nodup → listed.size = ops.size →
    (∀ i, i ∈ un ↔ i < ops.size ∧ ¬ Done listed i) → Closed ops listed →
    (∃ pre rem val s H ρ b, Far C hs B ops ord a0 (Done listed) w pre rem val s H ρ b ∧ Front C hs ops Q rem s H b ∧ Agr ops a0 val (Done listed) a ∧ a.defers = [] ∧ Le H0 H) →
    wpAny C.P .any ops (Post C B H0 fun e s H => match e with | .normal => Q s H | _ => False) fuel listed a w := by
  intro fuel
  -- when all is done
  have fin : ∀ (listed : Array Bool) (a : Act) (w : World), (∀ i, i < ops.size → Done listed i) →
      (∃ pre rem val s H ρ b, Far C hs B ops ord a0 (Done listed) w pre rem val s H ρ b ∧ Front C hs ops Q rem s H b ∧ Agr ops a0 val (Done listed) a ∧ a.defers = [] ∧ Le H0 H) →
      Post C B H0 (fun e s H => match e with | .normal => Q s H | _ => False) .normal a w := by
    rintro listed a w hall ⟨pre, rem, val, s, H, ρ, b, hf, hfr, hag, hdf, hle⟩
    rcases hfr with ⟨rfl, hq⟩ | ⟨e, o, r, rfl, ho, _⟩
    · refine ⟨.normal, s, H, ρ, rfl, hq, ⟨fun t x hx => ?_, ?_, hdf, hf.rel.mem⟩, hle⟩
      · have htm := agr_eq (hag.congr (S' := (· ∈ pre)) (fun i => ⟨hf.sub i, fun hi => hall i (hok.lt i (by rw [hf.ord]; simp [hi]))⟩) (fun _ _ => rfl)) hf.agr
        rw [htm]; exact hf.rel.env t x hx
      · have := hf.rel.sz; rw [hf.agr.size] at this; rw [hag.size]; exact this
    · have hd := hall e (Array.getElem?_eq_some_iff.1 ho).1
      have h1 := hf.sub e hd
      have hpw := hok.pairs
      rw [hf.ord] at hpw
      exact absurd rfl (pair_dst ((List.pairwise_append.1 hpw).2.2 e h1 e List.mem_cons_self) ho ho).1
  induction fuel with
  | zero =>
    intro un listed a w hl hnd hsz hun hc hex
    have hu : un = [] := List.eq_nil_of_length_eq_zero hl
    subst hu
    have hall : ∀ i, i < ops.size → Done listed i := fun i hi => Classical.not_not.1 fun hn => by have := (hun i).2 ⟨hi, hn⟩; cases this
    refine ⟨?_, fin listed a w hall hex⟩
    apply List.eq_nil_iff_forall_not_mem.2
    intro j hj
    obtain ⟨h1, o, ho, _⟩ := mem_ready.1 hj
    have := hall j (Array.getElem?_eq_some_iff.1 ho).1
    unfold Done at this
    rw [Array.getD_eq_getD_getElem?, this] at h1
    cases h1
  | succ fuel ih =>
    intro un listed a w hl hnd hsz hun hc hex
    refine ⟨fun hr => fin listed a w (fun i hi => Classical.not_not.1 fun hn => ready_some hok hsz ⟨i, hi, hn⟩ hr) hex, fun i hi => ?_⟩
    obtain ⟨h1, o, ho, hedge⟩ := mem_ready.1 hi
    have hilt := (Array.getElem?_eq_some_iff.1 ho).1
    have hil : i < listed.size := by rw [hsz]; exact hilt
    have hnd' : ¬ Done listed i := fun h => by
      unfold Done at h
      rw [Array.getD_eq_getD_getElem?, h] at h1; cases h1
    have hedges : ∀ e ∈ o.after, Region.binds .any e = true → Done listed e.on := fun e he hb => by
      have := hedge e he hb
      unfold Done
      rw [Array.getD_eq_getD_getElem?] at this
      cases h2 : listed[e.on]? with
      | none => rw [h2] at this; cases this
      | some v => rw [h2] at this; simp at this; rw [this]
    have hiord : i ∈ ord := hok.all i hilt
    obtain ⟨hself1, hself2, _⟩ := self_spec (hok.self i hiord) ho
    -- behind it
    have step : ∀ (a' : Act) (w' : World), (∃ pre rem val s H ρ b, Far C hs B ops ord a0 (Done (listed.setIfInBounds i true)) w' pre rem val s H ρ b ∧ Front C hs ops Q rem s H b ∧ Agr ops a0 val (Done (listed.setIfInBounds i true)) a' ∧ a'.defers = [] ∧ Le H0 H) →
        wpAny C.P .any ops (Post C B H0 fun e s H => match e with | .normal => Q s H | _ => False) fuel (listed.setIfInBounds i true) a' w' := fun a' w' hex' => by
      refine ih (un.erase i) _ a' w' ?_ (hnd.erase i) (by simpa using hsz) (fun j => ?_) (fun j o' hj ho' e he hb => ?_) hex'
      · have hm := (hun i).2 ⟨hilt, hnd'⟩
        rw [List.length_erase_of_mem hm, hl]; rfl
      · rw [hnd.mem_erase_iff, hun j, done_set hil]
        constructor
        · rintro ⟨h2, h3, h4⟩; exact ⟨h3, fun h => h.elim h4 h2⟩
        · rintro ⟨h2, h3⟩; exact ⟨fun e => h3 (.inr e), h2, fun h => h3 (.inl h)⟩
      · rw [done_set hil] at hj ⊢
        rcases hj with hj | rfl
        · exact .inl (hc j o' hj ho' e he hb)
        · rw [ho] at ho'; simp only [Option.some.injEq] at ho'; subst ho'
          exact .inl (hedges e he hb)
    obtain ⟨pre, rem, val, s, H, ρ, b, hf, hfr, hag, hdf, hle⟩ := hex
    have hpw := hok.pairs
    rw [hf.ord] at hpw
    unfold wpOp
    rw [ho]
    show if _ then _ else _
    by_cases hpre : i ∈ pre
    · -- it has been reckoned
      obtain ⟨r0, _, o', A, Z, c, ho', hAZ, hc1, hc2, hc3⟩ := hf.todo i hpre hnd'
      rw [ho] at ho'; simp only [Option.some.injEq] at ho'; subst ho'
      have hlook : ∀ t ∈ o.looksAt ops, a.tmps[t]? = c.tmps[t]? := fun t htm => hag.at hc1 fun d x hx hxd => by
        constructor
        · intro hd
          have hdp := hf.sub d hd
          rw [hAZ] at hdp hpw
          rcases List.mem_append.1 hdp with h2 | h2
          · exact h2
          · rcases List.mem_cons.1 h2 with rfl | h2
            · exact absurd hd hnd'
            · have hpq : pairOK ops i d = true := (List.pairwise_cons.1 (List.pairwise_append.1 (List.pairwise_append.1 hpw).1).2.1).1 d h2
              obtain ⟨_, _, _, h3⟩ := pair_dst hpq ho hx
              rcases h3 with h3 | ⟨_, h3⟩
              · exact absurd (dep_done hc _ d i x hx (hc d x hd hx) h3) hnd'
              · exact absurd htm ((Oper.apart_spec h3).2.2 t hxd)
        · intro hd
          rw [hAZ] at hpw
          have hpq : pairOK ops d i = true := (List.pairwise_append.1 (List.pairwise_append.1 hpw).1).2.2 d hd i List.mem_cons_self
          obtain ⟨_, _, _, h3⟩ := pair_dst hpq hx ho
          rcases h3 with h3 | ⟨_, h3⟩
          · exact dep_done hc _ i d o ho hedges h3
          · exact absurd htm ((Oper.apart_spec h3).1 t hxd)
      obtain ⟨hex1, hex2⟩ := look_exec hself2 hlook
      have hput : ∀ v, val i = v → wpAny C.P .any ops (Post C B H0 fun e s H => match e with | .normal => Q s H | _ => False) fuel (listed.setIfInBounds i true) (a.put o.dst v) w := fun v hv => step _ _
        ⟨pre, rem, val, s, H, ρ, b, ⟨hf.ord, hf.rel, hf.agr, fun j hj => by
            rw [done_set hil] at hj
            rcases hj with hj | rfl
            · exact hf.sub j hj
            · exact hpre, fun j hj hnj => hf.todo j hj fun h => hnj ((done_set hil).2 (.inl h))⟩, hfr,
          (hag.put hnd' ho (fun j o' hj ho' d hd hd' => by
            have hjp := hf.sub j hj
            have hji : j ≠ i := fun e => hnd' (e ▸ hj)
            have hcmp : pairOK ops j i = true ∨ pairOK ops i j = true := by
              rw [hAZ] at hjp hpw
              have hp1 := (List.pairwise_append.1 hpw).1
              rcases List.mem_append.1 hjp with h2 | h2
              · exact .inl ((List.pairwise_append.1 hp1).2.2 j h2 i List.mem_cons_self)
              · rcases List.mem_cons.1 h2 with h2 | h2
                · exact absurd h2 hji
                · exact .inr ((List.pairwise_cons.1 (List.pairwise_append.1 hp1).2.1).1 j h2)
            rcases hcmp with h2 | h2
            · exact (pair_dst h2 ho' ho).2.1 d hd' hd
            · exact (pair_dst h2 ho ho').2.1 d hd hd') hv).congr (fun j => ((done_set hil).symm)) (fun _ _ => rfl), by
            cases hdst : o.dst <;> simp [Act.put, hdf], hle⟩
      rcases hc3 with ⟨hw, s1, H1, x, k1, k2, k3, k4, k5, k6, k7, k8, k9⟩ | ⟨hw, hv⟩
      · rw [if_pos (by rw [hex2]; exact hw)]
        refine .inl ?_
        unfold Oper.wp
        have hrun := k9 B ρ o c w rfl rfl ⟨k1, by have := hf.rel.sz; rw [hf.agr.size] at this; rw [hc1.size]; exact this, hc2, hf.rel.mem.elder k2 k3 k4 k5 k6⟩
        rw [hex1, hrun]
        exact hput _ k8
      · rw [if_neg (by rw [hex2, hw]; simp)]
        exact hput undef hv
    · -- it is the next one on the memory
      rcases hfr with ⟨rfl, hq⟩ | ⟨e, o', r, rfl, ho', hp, he, hw, hvc⟩
      · exact absurd (by have := hiord; rw [hf.ord] at this; simpa using this) hpre
      · have hie : i = e := by
          have := hiord
          rw [hf.ord] at this
          rcases List.mem_append.1 this with h2 | h2
          · exact absurd h2 hpre
          · rcases List.mem_cons.1 h2 with h2 | h2
            · exact h2
            · have hpq : pairOK ops e i = true := (List.pairwise_cons.1 (List.pairwise_append.1 hpw).2.1).1 i h2
              obtain ⟨_, _, _, h3⟩ := pair_dst hpq ho' ho
              rcases h3 with h3 | ⟨h3, _⟩
              · have := hf.sub e (dep_done hc _ i e o ho hedges h3)
                exact absurd rfl (pair_dst ((List.pairwise_append.1 hpw).2.2 e this e List.mem_cons_self) ho' ho').1
              · rw [hp] at h3; cases h3
        subst hie
        rw [ho] at ho'; simp only [Option.some.injEq] at ho'; subst ho'
        have hlook : ∀ t ∈ o.looksAt ops, a.tmps[t]? = b.tmps[t]? := fun t htm => hag.at hf.agr fun d x hx hxd => by
          refine ⟨hf.sub d, fun hd => ?_⟩
          have hpq : pairOK ops d i = true := (List.pairwise_append.1 hpw).2.2 d hd i List.mem_cons_self
          obtain ⟨_, _, _, h3⟩ := pair_dst hpq hx ho
          rcases h3 with h3 | ⟨_, h3⟩
          · exact dep_done hc _ i d o ho hedges h3
          · exact absurd htm ((Oper.apart_spec h3).1 t hxd)
        obtain ⟨hex1, hex2⟩ := look_exec hself2 hlook
        rw [if_pos (by rw [hex2]; exact hw)]
        refine .inl ?_
        let B' : Bs := { B with base := s.nx, ρ := ρ }
        have hrB : Rel C B' ρ s H b w := ⟨hf.rel.env, hf.rel.sz, hf.rel.defers,
          { hf.rel.mem with base := Nat.le_refl _, agree := fun _ _ => ⟨rfl, rfl⟩ }⟩
        have hraw := opE_ok ht (eff_keep he hvc _) B' ρ o b w rfl rfl hrB
          (fun b' w' => ∃ x s' H' ρ', (s'.putK C.n o.dst x fun s'' => runD C hs ops.toList Q r s'' H') ∧ Keep (hsE hs o.op) s s' ∧ Rel C B ρ' s' H' b w' ∧ Same s.nx ρ ρ' ∧ Le H H' ∧ x.lt s'.nx = true ∧ b' = b.put o.dst (ga ρ' x)) (fun _ _ _ => False)
          (fun x s' H' ρ' w' ⟨h2, h3⟩ h4 h5 h6 => ⟨x, s', H', ρ', (bif_f h2).2, Keep.of_ext h3 (bif_f h2).1, ⟨h4.env, h4.sz, h4.defers, { h4.mem with
              base := Nat.le_trans hf.rel.mem.base h3.1
              agree := fun k hk => by
                have h7 := h4.mem.agree k (Nat.lt_of_lt_of_le hk hf.rel.mem.base)
                have h8 := hf.rel.mem.agree k hk
                exact ⟨h7.1.trans h8.1, h7.2.trans h8.2⟩ }⟩, fun k hk => h4.mem.agree k hk, h5, h6, rfl⟩)
        unfold Oper.wp at hraw ⊢
        rw [hex1]
        refine upon_swap (next := _) (Q := fun _ _ _ => False) ?_ ?_ (fun _ _ _ h => h) _ hraw
        · rintro v w' ⟨x, s', H', ρ', h2, h3, h4, h5, h6, h7, h8⟩
          rw [put_eq (a := a) (b := b) (by rw [hag.size, hf.agr.size]) h8]
          rw [putK_iff2] at h2
          let val2 : Nat → Value := fun j => if j = i then ga ρ' x else val j
          have hni : i ∉ pre := hpre
          have hv : ∀ j ∈ pre, val2 j = val j := fun j hj => if_neg fun (e : j = i) => hni (e ▸ hj)
          have hvi : val2 i = ga ρ' x := if_pos rfl
          have hpi : ∀ p ∈ pre, pairOK ops p i = true := fun p hp => (List.pairwise_append.1 hpw).2.2 p hp i List.mem_cons_self
          have hf2 : Far C hs B ops ord a0 (Done (listed.setIfInBounds i true)) w' (pre ++ [i]) r val2 (s'.put C.n o.dst x) H' ρ' (b.put o.dst (ga ρ' x)) :=
            { ord := by rw [hf.ord]; simp
              rel := h4.put o.dst h7
              agr := ((hf.agr.congr (val' := val2) (fun _ => Iff.rfl) (fun j hj => (hv j hj).symm)).put hni ho (fun j o' hj ho' d hd hd' => (pair_dst (hpi j hj) ho' ho).2.1 d hd' hd) hvi).congr (fun j => by simp) (fun _ _ => rfl)
              sub := fun j hj => by
                rw [done_set hil] at hj
                rcases hj with hj | rfl
                · exact List.mem_append_left _ (hf.sub j hj)
                · simp
              todo := fun j hj hnl => by
                rw [done_set hil] at hnl
                rcases List.mem_append.1 hj with hj | hj
                · obtain ⟨r', hr', hS⟩ := hf.todo j hj fun h => hnl (.inl h)
                  refine ⟨r', fun e he => hr' e (List.mem_cons_of_mem _ he), hS.later hv ?_ h6 h5⟩
                  have hir : i ∈ r' := hr' i List.mem_cons_self
                  cases hmi : mild o.op with
                  | true =>
                    rw [hsE, hmi] at h3
                    exact (Keep.mono h3).trans (Keep.put _ _ _ _)
                  | false =>
                    rw [hsE, hmi] at h3
                    unfold hidesR
                    split
                    · exact h3.trans (Keep.put _ _ _ _)
                    · cases hsf : safeB ops.toList j r' with
                      | false => exact h3.trans (Keep.put _ _ _ _)
                      | true =>
                        exact absurd (.inl (dep_done hc _ i j o ho hedges (safe_dep hsf hir ho hp hmi))) hnl
                · simp only [List.mem_singleton] at hj
                  exact absurd (.inr hj) hnl }
          obtain ⟨pre', rem', val', s2, b2, g1, g2, g3⟩ := adv ht hok r _ _ _ _ _ _ hf2 h2 (hf.rel.mem.hle.trans h6)
          have hvs : ∀ j, Done listed j → val2 j = val j := fun j hj => hv j (hf.sub j hj)
          refine step _ _ ⟨pre', rem', val', s2, H', ρ', b2, g1, g2, ?_, by cases hdst : o.dst <;> simp [Act.put, hdf], hle.trans h6⟩
          refine (((hag.congr (val' := val') (fun _ => Iff.rfl) (fun j hj => by rw [g3 j (List.mem_append_left _ (hf.sub j hj)), hvs j hj])).put hnd' ho (fun j o' hj ho' d hd hd' => (pair_dst (hpi j (hf.sub j hj)) ho' ho).2.1 d hd' hd) (by rw [g3 i (by simp), hvi])).congr (fun j => (done_set hil).symm) (fun _ _ => rfl))
        · rintro a1 w1 ⟨x, s', H', ρ', h2, h3, h4, h5, h6, h7, rfl⟩
          cases hdst : o.dst <;> simp [Act.put, hf.rel.defers]


theorem draw_start (ht : TOK C) {ord : List Nat} (hok : OrdOK ops ord) {Q : St → Hp → Prop} {s : St} {H : Hp} {ρ : Rho} {a : Act} {w : World} (h : runD C hs ops.toList Q ord s H) (hr : Rel C B ρ s H a w) :
    wpAny C.P .any ops (Post C B H fun e s H => match e with | .normal => Q s H | _ => False) ops.size (Array.replicate ops.size false) a w := by
  have hno : ∀ i, ¬ Done (Array.replicate ops.size false) i := fun i h => by
    unfold Done at h
    rw [Array.getElem?_replicate] at h
    split at h <;> simp at h
  have hf : Far C hs B ops ord a (Done (Array.replicate ops.size false)) w [] ord (fun _ => undef) s H ρ a :=
    ⟨rfl, hr, ⟨rfl, fun i o d hi => (by cases hi), fun _ _ => rfl⟩, fun i hi => (hno i hi).elim, fun j hj => (by cases hj)⟩
  obtain ⟨pre', rem', val', s', b', h1, h2, _⟩ := adv ht hok ord _ _ _ _ _ _ hf h hr.mem.hle
  exact draw_any ht hok ops.size (List.range ops.size) _ a w (by simp) List.nodup_range (by simp) (fun i => by simp [hno]) (fun i o hi => (hno i hi).elim)
    ⟨pre', rem', val', s', H, ρ, b', h1, h2, ⟨rfl, fun i o d hi => (hno i hi).elim, fun _ _ => rfl⟩, hr.defers, Le.refl H⟩

end
end Go.Sy
