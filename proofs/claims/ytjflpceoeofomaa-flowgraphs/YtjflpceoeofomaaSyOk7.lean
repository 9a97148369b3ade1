/- Part 'SyOk7' of the proof: lemmas, each with its own conditions in its own statement. -/
import Derived.Test.YtjflpceoeofomaaSyOk6
namespace Go.Sy
open Go.RowKit (Below)
section
variable {C : Cx} {B : Bs} {ρ : Rho} {s : St} {H : Hp} {a : Act} {w : World} {P : Program}

/-- A block of the call's own is never written again. -/
theorem Mem.freeze {bx : List (Nat × Bx)} {nx k g : Nat} {b : Bx} {o : Obj} (hm : Mem B ρ bx nx H w) (hk : lk bx k = some b) (ho : Owns ρ k b g) (hg : w.heap[g]? = some o) {x : Value} (hx : ρ.val k = x) :
    Mem B ρ ((k, .frz x) :: bx) nx (fun j => if j = g then some o else H j) w := by
  have hm1 : Mem B ρ ((k, .frz x) :: bx) nx H w := hm.write hk rfl rfl ⟨rfl, Nat.le_refl _⟩ (Nat.le_refl _) (fun _ _ _ => rfl) rfl hx (fun g hg => hg.elim)
  have hgH := (hm.own k b g hk ho)
  exact
  { os := hm1.os, tape := hm1.tape, output := hm1.output, size := hm1.size, frame := hm1.frame, base := hm1.base, agree := hm1.agree
    hp := fun j o' hj => by
      by_cases e : j = g
      · subst e; simp only [if_true, Option.some.injEq] at hj; subst hj; exact hg
      · simp only [e, if_false] at hj; exact hm.hp j o' hj
    hle := fun j o' hj => by
      have := hm.hle j o' hj
      by_cases e : j = g
      · subst e; rw [hgH.1] at this; cases this
      · simp only [e, if_false]; exact this
    hnew := fun j h1 h2 h3 => by
      have e : j ≠ g := fun e => by
        subst e
        rcases hgH.2 with h | h
        · omega
        · exact h3 h
      simp only [e, if_false]; exact hm.hnew j h1 h2 h3
    ok := hm1.ok
    own := fun j y g' hj hy => by
      have h1 := hm1.own j y g' hj hy
      have e : g' ≠ g := fun e => by
        subst e
        rw [lk_cons] at hj
        split at hj
        · simp only [Option.some.injEq] at hj; subst hj; exact hy
        · rename_i hne
          exact hne (hm.disj k j b y g' hk hj ho hy)
      simp only [e, if_false]; exact h1
    disj := hm1.disj }

theorem le_freeze {g : Nat} {o : Obj} (h : H g = none) : Le H (fun j => if j = g then some o else H j) := fun j o' hj => by
  have e : j ≠ g := fun e => by subst e; rw [h] at hj; cases hj
  simp only [e, if_false]; exact hj

/-- An owned row reads as its elements. -/
theorem row_at {e : TypeId} {sz : Nat} {xs : List (List Value)} {k : Nat} (hb : BoxOK ρ w k (.row e sz xs)) {H' : Hp}
    (hH : ∀ g o, (ρ.val k).ownBlock = some g → w.heap[g]? = some o → H' g = some o) : RowAt H' (ρ.val k) sz xs := by
  rcases hb.1.2 with ⟨h1, h2⟩ | ⟨g, cap, cur, h1, _, h2, h3, hmx, h4, h5⟩
  · have : xs = [] := List.eq_nil_of_length_eq_zero h2
    subst this
    exact ⟨none, 0, h1, ⟨Nat.le_refl _, by omega⟩, by simp, .inl ⟨rfl, rfl⟩⟩
  · have hH' := hH g _ (by rw [h1]; rfl) h2
    refine ⟨some ⟨g, 0, none⟩, cap, h1, ⟨h3, by simpa [maxLen] using hmx⟩, hb.2.1, .inr ⟨_, rfl, rfl, cur, e, _, hH', by simp only; omega, fun i x hi j hj => ?_⟩⟩
    have h6 := flat_get (sz := sz) (fun x hx => (hb.2.1 x hx).1) hi j hj
    have hlt := (List.getElem?_eq_some_iff.1 hi).1
    have h7 : i * sz + j < xs.length * sz := by
      have : (i + 1) * sz ≤ xs.length * sz := Nat.mul_le_mul_right sz hlt
      rw [Nat.add_mul] at this
      omega
    rw [← h5, List.getElem?_take, if_pos h7] at h6
    simp only [Nat.zero_add]
    rw [← h6]
    simp

theorem fz_own (hr : Rel C B ρ s H a w) {k : Nat} {e : TypeId} {sz : Nat} {xs : List (List Value)} (hk : lk s.bx k = some (.row e sz xs)) :
    ∃ H', Le H H' ∧ RowAt H' (ρ.val k) sz xs ∧ Rel C B ρ (s.box k (.frz (ρ.val k))) H' a w := by
  have hb := (hr.mem.ok _ _ hk).2.1
  cases hg : (ρ.val k).ownBlock with
  | none =>
    refine ⟨H, Le.refl H, row_at hb (fun g o h => by rw [hg] at h; cases h), hr.with (bx := (k, .frz (ρ.val k)) :: s.bx) ?_⟩
    exact hr.mem.write hk rfl rfl ⟨rfl, Nat.le_refl _⟩ (Nat.le_refl _) (fun _ _ _ => rfl) rfl rfl (fun g hg => hg.elim)
  | some g =>
    have ho : Owns ρ k (.row e sz xs) g := hg
    obtain ⟨c, T, hblk⟩ := hb.blockR ho
    refine ⟨_, le_freeze (o := .cells c T (0, 0)) (hr.mem.own k _ g hk ho).1, row_at hb (fun g' o h ho' => ?_), hr.with (bx := (k, .frz (ρ.val k)) :: s.bx) (hr.mem.freeze hk ho hblk rfl)⟩
    rw [hg] at h
    simp only [Option.some.injEq] at h
    subst h
    rw [hblk] at ho'
    simp only [if_true]
    exact ho'

theorem RowAt.part {H : Hp} {v : Value} {a : Option Addr} {m c sz : Nat} {xs : List (List Value)} (h : RowAt H v sz xs) (hv : v = .slice a m c) {lo n : Nat} (hn : lo + n ≤ xs.length) :
    RowAt H (.slice (cutA a lo c sz) n (c - lo)) sz ((xs.drop lo).take n) := by
  obtain ⟨a', c', e, h1, h2, h3⟩ := h
  rw [hv] at e
  simp only [Value.slice.injEq] at e
  obtain ⟨rfl, rfl, rfl⟩ := e
  have hl : ((xs.drop lo).take n).length = n := by simp; omega
  refine ⟨_, _, by rw [hl], by rw [hl]; omega, fun x hx => h2 x (List.mem_of_mem_drop (List.mem_of_mem_take hx)), ?_⟩
  by_cases hcl : c = lo
  · exact .inl ⟨List.eq_nil_of_length_eq_zero (by rw [hl]; omega), by omega⟩
  · rcases h3 with ⟨h3, h4⟩ | ⟨ad, rfl, hs, cells, T, fr, hH, hc, hx⟩
    · exact .inl ⟨List.eq_nil_of_length_eq_zero (by rw [h3]; simp), by omega⟩
    · obtain ⟨b, o, sp⟩ := ad
      simp only at hs
      subst hs
      refine .inr ⟨⟨b, o + lo * sz, none⟩, by rw [cutA, if_neg hcl, Option.map_some, Addr.at_], rfl, cells, T, fr, hH, ?_, fun i x hi j hj => ?_⟩
      · have : lo * sz + (c - lo) * sz = c * sz := by rw [← Nat.add_mul]; congr 1; omega
        simp only at hc ⊢
        omega
      · rw [List.getElem?_take] at hi
        split at hi
        · rw [List.getElem?_drop] at hi
          have := hx (lo + i) x hi j hj
          rw [Nat.add_mul] at this
          simp only at this ⊢
          rw [show o + lo * sz + i * sz + j = o + (lo * sz + i * sz) + j by omega]
          exact this
        · cases hi

mutual
theorem fz_ok : ∀ (x : SV) {s : St} {H : Hp} {K : Value → St → Hp → Prop}, Rel C B ρ s H a w → fz x s H K → ∃ s' H', K (ga ρ x) s' H' ∧ Rel C B ρ s' H' a w ∧ Le H H' ∧ s'.nx = s.nx
  | .v x, s, H, K, hr, h => by rw [fz] at h; exact ⟨s, H, by rw [ga]; exact h, hr, Le.refl H, rfl⟩
  | .kb b, s, H, K, hr, h => by rw [fz] at h; exact ⟨s, H, by rw [ga]; exact h, hr, Le.refl H, rfl⟩
  | .own k, s, H, K, hr, h => by
    rw [fz] at h
    split at h
    · rename_i e sz xs hk
      obtain ⟨H', h1, h2, h3⟩ := fz_own hr hk
      exact ⟨_, H', by rw [ga]; exact h _ H' h1 h2, h3, h1, rfl⟩
    · rename_i x hk
      have := (hr.mem.ok _ _ hk).2.1
      simp only [BoxOK] at this
      exact ⟨s, H, by rw [ga, this]; exact h, hr, Le.refl H, rfl⟩
    · exact h.elim
  | .sub k sz lo n, s, H, K, hr, h => by
    rw [fz] at h
    split at h
    · rename_i e sz' xs hk
      obtain ⟨hq, hn, h⟩ := bif_f h
      have := beq_t hq
      subst this
      obtain ⟨H', h1, h2, h3⟩ := fz_own hr hk
      exact ⟨_, H', by rw [ga, Rho.part]; exact h _ _ H' h1 h2 (h2.part rfl hn), h3, h1, rfl⟩
    · rename_i a n' c hk
      have := (hr.mem.ok _ _ hk).2.1
      simp only [BoxOK, Rho.val, Value.slice.injEq] at this
      exact ⟨s, H, by rw [ga, Rho.part, this.1, this.2.2]; exact h, hr, Le.refl H, rfl⟩
    · exact h.elim
  | .agg cs, s, H, K, hr, h => by
    rw [fz] at h
    obtain ⟨s', H', h1, h2, h3, h4⟩ := fzs_ok cs hr h
    exact ⟨s', H', by rw [ga]; exact h1, h2, h3, h4⟩
  | .fn f cs, s, H, K, hr, h => by
    rw [fz] at h
    obtain ⟨s', H', h1, h2, h3, h4⟩ := fzs_ok cs hr h
    exact ⟨s', H', by rw [ga]; exact h1, h2, h3, h4⟩
  | .tup cs, s, H, K, hr, h => by
    rw [fz] at h
    obtain ⟨s', H', h1, h2, h3, h4⟩ := fzs_ok cs hr h
    exact ⟨s', H', by rw [ga]; exact h1, h2, h3, h4⟩
  | .ptr _ _, s, H, K, hr, h => by rw [fz] at h; exact h.elim
  | .el _ _ _ _, s, H, K, hr, h => by rw [fz] at h; exact h.elim
  | .rel _ _ _ _, s, H, K, hr, h => by rw [fz] at h; exact h.elim
  | .mp _, s, H, K, hr, h => by rw [fz] at h; exact h.elim
theorem fzs_ok : ∀ (l : List SV) {s : St} {H : Hp} {K : List Value → St → Hp → Prop}, Rel C B ρ s H a w → fzs l s H K → ∃ s' H', K (gas ρ l) s' H' ∧ Rel C B ρ s' H' a w ∧ Le H H' ∧ s'.nx = s.nx
  | [], s, H, K, hr, h => by rw [fzs] at h; exact ⟨s, H, by rw [gas]; exact h, hr, Le.refl H, rfl⟩
  | x :: r, s, H, K, hr, h => by
    rw [fzs] at h
    obtain ⟨s1, H1, h1, h2, h3, h4⟩ := fz_ok x hr h
    obtain ⟨s2, H2, h5, h6, h7, h8⟩ := fzs_ok r h2 h1
    exact ⟨s2, H2, by rw [gas]; exact h5, h6, h3.trans h7, h8.trans h4⟩
end

theorem ofV_ga (ρ : Rho) (x : Value) : ga ρ (ofV x) = x ∧ ∀ n, (ofV x).lt n = true := by
  have h0 : ∀ y : Value, ga ρ (ofV0 y) = y ∧ ∀ n, (ofV0 y).lt n = true := fun y => by
    unfold ofV0
    split
    · exact ⟨by rw [ga, gas_v], fun n => by rw [SV.lt]; exact lts_v n _⟩
    · exact ⟨by rw [ga], fun n => by rw [SV.lt]⟩
  unfold ofV
  split
  · exact ⟨by rw [ga, gas_v], fun n => by rw [SV.lt]; exact lts_v n _⟩
  · rename_i vs
    refine ⟨?_, fun n => ?_⟩
    · rw [ga, gas_eq, List.map_map]
      have : (ga ρ ∘ ofV0) = id := by funext y; exact (h0 y).1
      rw [this]; simp
    · rw [SV.lt, lts_iff]
      intro y hy
      simp only [List.mem_map] at hy
      obtain ⟨z, _, rfl⟩ := hy
      exact (h0 z).2 n
  · rename_i fn first cap
    cases fn with
    | func f =>
      simp only
      split
      · rename_i hf
        have : first = #[] := by apply Array.ext'; simpa using hf
        subst this
        exact ⟨by rw [ga, gas_v], fun n => by rw [SV.lt]; exact lts_v n _⟩
      · exact ⟨by rw [ga], fun n => by rw [SV.lt]⟩
    | _ => exact ⟨by rw [ga], fun n => by rw [SV.lt]⟩
  · exact ⟨by rw [ga], fun n => by rw [SV.lt]⟩

/-- Behind a call. -/
theorem Mem.called {bx : List (Nat × Bx)} {nx : Nat} {H' : Hp} {w' : World} (hm : Mem B ρ bx nx H w) (hle : Le H H') (hp : ∀ b o, H' b = some o → w'.heap[b]? = some o)
    (hn : ∀ b, H b = none → b < w.heap.size → H' b = none) (hb : BelowD w.heap.size w w') : Mem B ρ bx nx H' w' := by
  have h1 := hm.step hb.os hb.tape ⟨hb.output, hb.drawn⟩ hb.size hb.block
  exact { h1 with
    hp := hp
    hle := hm.hle.trans hle
    hnew := fun b h2 h3 h4 => hn b (hm.hnew b h2 h3 h4) (Nat.lt_of_lt_of_le h3 hm.size)
    own := fun k b g hk ho => ⟨hn g (hm.own k b g hk ho).1 ((hm.ok k b hk).2.1.lt ho), (hm.own k b g hk ho).2⟩ }

theorem call_spec {f : FuncId} {vs : List Value} {K : Value → Hp → Prop} (hs : Does P f vs H K) (hp : ∀ b o, H b = some o → w.heap[b]? = some o) {o : Oper} {next : Act → World → Prop} {Q : Exit → Act → World → Prop}
    (hn : ∀ v H' w', K v H' → Le H H' → (∀ b o, H' b = some o → w'.heap[b]? = some o) → (∀ b, H b = none → b < w.heap.size → H' b = none) → BelowD w.heap.size w w' → next (a.put o.dst v) w') :
    o.upon P a next Q ((callFunc f vs.toArray).run P w) := by
  rw [hs.1]
  show Calls P f vs.toArray w _
  refine (hs.2 w hp).mono fun e w' h => ?_
  obtain ⟨v, H', rfl, h1, h2, h3, h4, h5⟩ := h
  exact hn v H' w' h1 h2 h3 h4 h5

theorem ok_callE {f : FuncId} {args : List SV} {T : TypeId} {K : KK} (h : callE C f args T s H K) (hr : Rel C B ρ s H a w) {o : Oper} {next : Act → World → Prop} {Q : Exit → Act → World → Prop}
    (hn : ∀ x s' H' ρ' w', K x s' H' → Rel C B ρ' s' H' a w' → Le H H' → x.lt s'.nx = true → next (a.put o.dst (ga ρ' x)) w') :
    o.upon C.P a next Q ((callFunc f (gas ρ args).toArray).run C.P w) := by
  unfold callE at h
  simp only [fzL2_eq] at h
  obtain ⟨s1, H1, h1, h2, h3, h4⟩ := fzs_ok args hr h
  cases hf : hfree C 6 T with
  | true =>
    rw [hf] at h1
    simp only [cond_true] at h1
    refine call_spec h1 h2.mem.hp fun v H' w' k1 k2 k3 k4 k5 => ?_
    have := hn (ofV v) s H ρ w' k1 ⟨hr.env, hr.sz, hr.defers, hr.mem.step k5.os k5.tape ⟨k5.output, k5.drawn⟩ k5.size k5.block⟩ (Le.refl H) ((ofV_ga ρ v).2 _)
    rwa [(ofV_ga ρ v).1] at this
  | false =>
    rw [hf] at h1
    simp only [cond_false] at h1
    refine call_spec h1 h2.mem.hp fun v H' w' k1 k2 k3 k4 k5 => ?_
    have := hn (ofV v) s1 H' ρ w' k1 ⟨h2.env, h2.sz, h2.defers, h2.mem.called k2 k3 k4 k5⟩ (h3.trans k2) ((ofV_ga ρ v).2 _)
    rwa [(ofV_ga ρ v).1] at this

end
end Go.Sy
