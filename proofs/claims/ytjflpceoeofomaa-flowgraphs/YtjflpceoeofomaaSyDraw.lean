/- A region whose order is open. -/
import Derived.Test.YtjflpceoeofomaaSyOk8b
namespace Go.Sy
open Go.RowKit (Below)

section
variable {C : Cx} {s : St} {H : Hp}

theorem bif_f' {b : Bool} {p : Prop} (h : bif b then p else False) : b = true ∧ p := by
  cases b
  · exact h.elim
  · exact ⟨rfl, h⟩
theorem arith_ex {k : IntKind} {n : Int} {K : SV → Prop} (h : arith C k n K) : ∃ x, K x ∧ ∀ K' : SV → Prop, K' x → arith C k n K' := by
  unfold arith at *
  cases hw : C.wrap with
  | true => rw [hw] at h; exact ⟨_, h, fun K' h' => h'⟩
  | false => rw [hw] at h; exact ⟨_, h.2, fun K' h' => ⟨h.1, h'⟩⟩
theorem binI_ex {op : BinOp} {k : IntKind} {a b : Int} {K : SV → Prop} (h : binI C op k a b K) : ∃ x, K x ∧ ∀ K' : SV → Prop, K' x → binI C op k a b K' := by
  cases op <;> simp only [binI] at h ⊢
  case add => exact arith_ex h
  case sub => exact arith_ex h
  case mul => exact arith_ex h
  case quo => obtain ⟨x, h1, h2⟩ := arith_ex h.2; exact ⟨x, h1, fun K' h' => ⟨h.1, h2 K' h'⟩⟩
  case rem => exact ⟨_, h.2, fun K' h' => ⟨h.1, h'⟩⟩
  case shl => obtain ⟨x, h1, h2⟩ := arith_ex h.2; exact ⟨x, h1, fun K' h' => ⟨h.1, h2 K' h'⟩⟩
  case shr => exact ⟨_, h.2, fun K' h' => ⟨h.1, h'⟩⟩
  all_goals exact ⟨_, h, fun K' h' => h'⟩
theorem binS_ex {op : BinOp} {a b : ByteArray} {K : SV → Prop} (h : binS op a b K) : ∃ x, K x ∧ ∀ K' : SV → Prop, K' x → binS op a b K' := by
  cases op <;> simp only [binS] at h ⊢
  case add => exact ⟨_, h.2, fun K' h' => ⟨h.1, h'⟩⟩
  all_goals first | exact h.elim | exact ⟨_, h, fun K' h' => h'⟩
theorem bin_ex {op : BinOp} {xT : TypeId} {x y : Option SV} {K : SV → Prop} (h : bin C op xT x y K) : ∃ r, K r ∧ ∀ K' : SV → Prop, K' r → bin C op xT x y K' := by
  unfold bin at *
  split at h
  · split at h
    · split at h
      · exact binI_ex h
      · exact binI_ex h
      · obtain ⟨hk, h⟩ := bif_f' h
        simp only [hk, cond_true]
        exact binI_ex h
    · exact h.elim
  · split at h
    · exact binS_ex h
    · exact h.elim
  · split at h
    · obtain ⟨hk, h⟩ := h
      unfold cplxE at *
      split at h
      · obtain ⟨re, im, h1, h2⟩ := h
        exact ⟨_, h2, fun K' h' => ⟨hk, re, im, h1, h'⟩⟩
      · obtain ⟨re, im, h1, h2⟩ := h
        exact ⟨_, h2, fun K' h' => ⟨hk, re, im, h1, h'⟩⟩
      · obtain ⟨h0, re, im, h1, h2⟩ := h
        exact ⟨_, h2, fun K' h' => ⟨hk, h0, re, im, h1, h'⟩⟩
      · exact h.elim
    · exact h.elim
  · unfold eqE at *
    split at h
    · split at h
      · split at h
        · split at h
          · exact ⟨_, h, fun K' h' => h'⟩
          · exact ⟨_, h, fun K' h' => h'⟩
          · exact h.elim
        · exact h.elim
      · exact h.elim
    · exact h.elim

theorem buildE_ex {T : TypeId} {ps : List (Nat × Operand)} {K : SV → Prop} (h : buildE C T ps s K) : ∃ r, K r ∧ ∀ K' : SV → Prop, K' r → buildE C T ps s K' := by
  unfold buildE at *
  split at h
  · exact h.elim
  · split at h
    · exact h.elim
    · split at h
      · split at h
        · split at h
          · exact ⟨_, h, fun K' h' => h'⟩
          · exact h.elim
        · exact h.elim
      · split at h
        · split at h
          · exact ⟨_, h, fun K' h' => h'⟩
          · exact h.elim
        · exact h.elim
      · exact h.elim

/-- An operation that leaves the memory alone has one value. -/
theorem rowOf_ex {y : SV} {sz : Nat} {K : List (List Value) → Prop} (h : rowOf s H y sz K) : ∃ xs, K xs ∧ ∀ K' : List (List Value) → Prop, K' xs → rowOf s H y sz K' := by
  unfold rowOf at *
  split at h
  · split at h
    · obtain ⟨hb, h⟩ := bif_f' h
      exact ⟨_, h, fun K' h' => by simp only [hb, cond_true]; exact h'⟩
    · exact h.elim
  · split at h
    · obtain ⟨hb, hn, h⟩ := bif_f' h
      exact ⟨_, h, fun K' h' => by simp only [hb, cond_true]; exact ⟨hn, h'⟩⟩
    · exact h.elim
  · obtain ⟨xs, h1, h2⟩ := h
    exact ⟨xs, h2, fun K' h' => ⟨xs, h1, h'⟩⟩
  · exact h.elim

theorem sliceV_ex {T' : TypeId} {x : Operand} {lo hi : Option Operand} {K : SV → Prop} (hx : ∀ k sz l n, get s x ≠ some (.sub k sz l n)) (h : sliceV False C s T' x lo hi none K) : ∃ r, K r ∧ ∀ K' : SV → Prop, K' r → sliceV False C s T' x lo hi none K' := by
  unfold sliceV at *
  split at h
  · simp only at h ⊢
    split at h
    · split at h
      · exact h.elim
      · split at h
        · exact h.elim
        · exact ⟨_, h.2, fun K' h' => ⟨h.1, h'⟩⟩
    · exact h.elim
  · split at h
    · exact h.elim
    · simp only at h ⊢
      split at h
      · split at h
        · exact h.elim
        · split at h
          · exact h.elim
          · exact ⟨_, h.2, fun K' h' => ⟨h.1, h'⟩⟩
      · split at h
        · split at h
          · exact h.elim
          · split at h
            · exact h.elim
            · obtain ⟨hb, h1, h2⟩ := bif_f' h
              exact ⟨_, h2, fun K' h' => by simp only [hb, cond_true]; exact ⟨h1, h'⟩⟩
        · exact h.elim
      · rename_i hq
        exact absurd hq (hx _ _ _ _)
      · exact h.elim
  · exact h.elim

theorem pur_ex {op : Op} {T : TypeId} {K : KK} (hp : pur op = true) (h : opP C s op T H K) : ∃ x, K x s H ∧ ∀ K' : KK, K' x s H → opP C s op T H K' := by
  cases op with
  | slice T' x lo hi mx =>
    simp only [opP] at *
    split at h
    · exact h.elim
    · split at h
      · exact h.elim
      · rename_i hq
        obtain ⟨r, h1, h2⟩ := sliceV_ex (fun k sz l n hc => by rw [hc] at hq; exact hq _ _ _ _ rfl) h
        exact ⟨r, h1, fun K' h' => h2 _ h'⟩
  | move x =>
    simp only [opP, opG] at *
    split at h
    · exact ⟨_, h, fun K' h' => h'⟩
    · exact h.elim
  | assign x =>
    simp only [opP, opG] at *
    split at h
    · exact ⟨_, h, fun K' h' => h'⟩
    · exact h.elim
  | pick c x y =>
    simp only [opP, opG] at *
    split at h
    · split at h
      · exact ⟨_, h, fun K' h' => h'⟩
      · exact h.elim
    · exact h.elim
  | binOp op xT x y yT =>
    simp only [opP, opG] at *
    obtain ⟨r, h1, h2⟩ := bin_ex h
    exact ⟨r, h1, fun K' h' => h2 _ h'⟩
  | unOp op xT x =>
    cases op with
    | not =>
      simp only [opP, opG] at *
      split at h
      · exact ⟨_, h, fun K' h' => h'⟩
      · exact ⟨_, h, fun K' h' => h'⟩
      · exact h.elim
    | neg =>
      simp only [opP, opG] at *
      split at h
      · obtain ⟨r, h1, h2⟩ := arith_ex h
        exact ⟨r, h1, fun K' h' => h2 _ h'⟩
      · exact h.elim
    | xor => exact h.elim
    | plus => exact h.elim
  | fieldAddr T' x f =>
    simp only [opP, opG] at *
    split at h
    · exact h.elim
    · split at h
      · split at h
        · exact ⟨_, h, fun K' h' => h'⟩
        · exact ⟨_, h, fun K' h' => h'⟩
        · exact ⟨_, h, fun K' h' => h'⟩
        · exact h.elim
      · exact h.elim
  | field T' x f =>
    simp only [opP, opG] at *
    split at h
    · exact h.elim
    · split at h
      · split at h
        · split at h
          · split at h
            · exact ⟨_, h, fun K' h' => h'⟩
            · exact h.elim
          · exact h.elim
        · exact h.elim
      · exact h.elim
  | load T' x =>
    simp only [opP, opG] at *
    split at h
    · exact h.elim
    · split at h
      · split at h
        · obtain ⟨hb, h⟩ := bif_f' h
          simp only [hb, cond_true]
          split at h
          · exact ⟨_, h, fun K' h' => h'⟩
          · exact h.elim
        · exact h.elim
      · obtain ⟨cs, h0, h⟩ := h
        obtain ⟨hb, h⟩ := bif_f' h
        split at h
        · rename_i hm
          exact ⟨_, h, fun K' h' => ⟨cs, h0, by simp only [hb, cond_true, hm]; exact h'⟩⟩
        · exact h.elim
      · split at h
        · obtain ⟨hb, cs, h0, h⟩ := bif_f' h
          obtain ⟨hb2, h⟩ := bif_f' h
          simp only [hb, cond_true]
          split at h
          · rename_i hm
            exact ⟨_, h, fun K' h' => ⟨cs, h0, by simp only [hb2, cond_true, hm]; exact h'⟩⟩
          · exact h.elim
        · exact h.elim
      · exact h.elim
  | convert src dst x =>
    simp only [opP, opG] at *
    split at h
    · split at h
      · split at h
        · obtain ⟨r, h1, h2⟩ := arith_ex h
          exact ⟨r, h1, fun K' h' => h2 (fun r => K' r s H) h'⟩
        · exact h.elim
      · split at h
        · exact ⟨_, h, fun K' h' => h'⟩
        · split at h
          · exact h.elim
          · split at h
            · obtain ⟨xs, ⟨b, e, h⟩, hk⟩ := rowOf_ex h
              exact ⟨_, h, fun K' h' => hk _ ⟨b, e, h'⟩⟩
            · exact h.elim
        · exact h.elim
      · exact h.elim
    · exact h.elim
  | nilCheck x =>
    simp only [opP, opG] at *
    split at h
    · exact ⟨_, h, fun K' h' => h'⟩
    · exact ⟨_, h, fun K' h' => h'⟩
    · exact ⟨_, h, fun K' h' => h'⟩
    · exact h.elim
  | indexAddr T' x i =>
    simp only [opP, opG] at *
    split at h
    · exact h.elim
    · split at h
      · exact h.elim
      · split at h
        · split at h
          · obtain ⟨ad, h0, h⟩ := h
            exact ⟨_, h, fun K' h' => ⟨ad, h0, h'⟩⟩
          · split at h
            · obtain ⟨hb, h0, h⟩ := bif_f' h
              simp only [hb, cond_true]
              exact ⟨_, h, fun K' h' => ⟨h0, h'⟩⟩
            · exact h.elim
          · split at h
            · obtain ⟨hb, h0, h⟩ := bif_f' h
              simp only [hb, cond_true]
              exact ⟨_, h, fun K' h' => ⟨h0, h'⟩⟩
            · exact h.elim
          · exact h.elim
        · exact h.elim
  | index T' x i =>
    simp only [opP, opG] at *
    split at h
    · split at h
      · split at h
        · obtain ⟨c, h0, h⟩ := h
          exact ⟨_, h, fun K' h' => ⟨c, h0, h'⟩⟩
        · exact h.elim
      · exact h.elim
    · exact h.elim
  | extract t i =>
    simp only [opP, opG] at *
    split at h
    · split at h
      · exact ⟨_, h, fun K' h' => h'⟩
      · exact h.elim
    · exact h.elim
  | build T' ps =>
    simp only [opP, opG] at *
    obtain ⟨r, h1, h2⟩ := buildE_ex h
    exact ⟨r, h1, fun K' h' => h2 _ h'⟩
  | call c =>
    obtain ⟨callee, args, ats⟩ := c
    cases callee with
    | builtin b =>
      cases b with
      | len =>
        simp only [opP, opG] at *
        split at h
        · split at h
          · split at h
            · split at h
              · exact ⟨_, h, fun K' h' => h'⟩
              · split at h
                · exact ⟨_, h, fun K' h' => h'⟩
                · exact h.elim
              · exact ⟨_, h, fun K' h' => h'⟩
              · exact h.elim
            · split at h
              · exact ⟨_, h, fun K' h' => h'⟩
              · exact h.elim
            · exact h.elim
          · exact h.elim
        · exact h.elim
      | min =>
        simp only [opP, opG] at *
        split at h
        · split at h
          · split at h
            · exact ⟨_, h, fun K' h' => h'⟩
            · exact h.elim
          · exact h.elim
        · exact h.elim
      | max =>
        simp only [opP, opG] at *
        split at h
        · split at h
          · split at h
            · exact ⟨_, h, fun K' h' => h'⟩
            · exact h.elim
          · exact h.elim
        · exact h.elim
      | _ => cases hp
    | _ => cases hp
  | _ => cases hp

theorem pur_run (ht : TOK C) {op : Op} {T : TypeId} {K : KK} (hp : pur op = true) (h : opP C s op T H K) : RawP C s op T H K := by
  cases op with
  | move x => exact (ok_move h).1
  | assign x => exact (ok_move h).2
  | pick c x y => exact (ok_pick (fb := False) h).elim id False.elim
  | binOp op xT x y yT => exact (ok_bin ht (fb := False) h).elim id False.elim
  | unOp op xT x =>
    cases op with
    | not => exact (ok_not (fb := False) h).elim id False.elim
    | neg => exact (ok_neg (fb := False) h).elim id False.elim
    | xor => exact h.elim
    | plus => exact h.elim
  | fieldAddr T' x f => exact (ok_fieldAddr ht h).elim id False.elim
  | field T' x f => exact (ok_field (fb := False) ht h).elim id False.elim
  | load T' x => exact (ok_load ht h).elim id False.elim
  | nilCheck x => exact (ok_nilCheck h).elim id False.elim
  | convert src dst x => exact (ok_convert ht (fb := False) h).elim id False.elim
  | indexAddr T' x i => exact (ok_indexAddr ht h).elim id False.elim
  | index T' x i => exact (ok_index ht h).elim id False.elim
  | slice T' x lo hi mx =>
    simp only [opP] at h
    split at h
    · exact h.elim
    · split at h
      · exact h.elim
      · exact (ok_sliceV ht h).elim id False.elim
  | extract x i => exact (ok_extract (fb := False) h).elim id False.elim
  | build T' ps => exact (ok_build (fb := False) ht h).elim id False.elim
  | call c =>
    obtain ⟨callee, args, ats⟩ := c
    cases callee with
    | builtin b =>
      cases b with
      | len => exact (ok_len ht rfl h).elim id False.elim
      | min => exact (ok_min rfl h).elim id False.elim
      | max => exact (ok_max rfl h).elim id False.elim
      | _ => cases hp
    | _ => cases hp
  | _ => cases hp

/-- An operation on the memory puts new boxes ahead of the old ones. -/
def Ext (s s' : St) : Prop := s.nx ≤ s'.nx ∧ ∃ pre, s'.bx = pre ++ s.bx
theorem Ext.refl (s : St) : Ext s s := ⟨Nat.le_refl _, [], rfl⟩
theorem Ext.trans {s s' s'' : St} (h : Ext s s') (h' : Ext s' s'') : Ext s s'' := by
  obtain ⟨h1, p, e⟩ := h
  obtain ⟨h2, q, f⟩ := h'
  exact ⟨Nat.le_trans h1 h2, q ++ p, by rw [f, e, List.append_assoc]⟩
theorem Ext.new (s : St) (b : Bx) : Ext s (s.new b) := ⟨Nat.le_succ _, [(s.nx, b)], rfl⟩
theorem Ext.box (s : St) (k : Nat) (b : Bx) : Ext s (s.box k b) := ⟨Nat.le_refl _, [(k, b)], rfl⟩

/-- What an operation on the memory leaves of the call's own variables. -/
def Keep (hs : List Nat) (s s' : St) : Prop := s.nx ≤ s'.nx ∧ ∀ k, k < s.nx → hasN k hs = false → lk s'.bx k = lk s.bx k
theorem Keep.refl {hs : List Nat} (s : St) : Keep hs s s := ⟨Nat.le_refl _, fun _ _ _ => rfl⟩
theorem Keep.trans {hs : List Nat} {s s' s'' : St} (h : Keep hs s s') (h' : Keep hs s' s'') : Keep hs s s'' := ⟨Nat.le_trans h.1 h'.1, fun k hk hc => (h'.2 k (Nat.lt_of_lt_of_le hk h.1) hc).trans (h.2 k hk hc)⟩
theorem keys_lk {hs : List Nat} {nx : Nat} : ∀ (pre r : List (Nat × Bx)), keysOK hs nx pre.length (pre ++ r) = true → ∀ k, k < nx → hasN k hs = false → lk (pre ++ r) k = lk r k
  | [], r, _, k, _, _ => rfl
  | (j, b) :: pre, r, h, k, hk, hc => by
    simp only [List.length_cons, List.cons_append, keysOK] at h
    obtain ⟨h1, h2⟩ : (bif Nat.ble nx j then true else hasN j hs) = true ∧ keysOK hs nx pre.length (pre ++ r) = true := by
      revert h
      cases (bif Nat.ble nx j then true else hasN j hs) with
      | true => exact fun h => ⟨rfl, h⟩
      | false => exact fun h => by cases h
    rw [List.cons_append, lk_cons]
    have hne : j ≠ k := by
      intro e
      subst e
      cases hb : Nat.ble nx j with
      | true => have := Nat.le_of_ble_eq_true hb; omega
      | false => rw [hb, hc] at h1; cases h1
    rw [if_neg hne]
    exact keys_lk pre r h2 k hk hc
theorem Keep.of_ext {hs : List Nat} {s s' : St} (h : Ext s s') (hk : keepB hs s s' = true) : Keep hs s s' := by
  obtain ⟨h1, pre, e⟩ := h
  refine ⟨h1, fun k hlt hc => ?_⟩
  unfold keepB at hk
  rw [e] at hk ⊢
  rw [List.length_append, Nat.add_sub_cancel] at hk
  exact keys_lk pre s.bx hk k hlt hc

mutual
theorem fz_mono : ∀ (x : SV) {s : St} {H : Hp} {K K' : Value → St → Hp → Prop}, fz x s H K → (∀ v s H, K v s H → K' v s H) → fz x s H K'
  | .v x, s, H, K, K', h, hk => by rw [fz] at *; exact hk _ _ _ h
  | .kb b, s, H, K, K', h, hk => by rw [fz] at *; exact hk _ _ _ h
  | .own k, s, H, K, K', h, hk => by
    rw [fz] at *
    split at h
    · exact fun x H' h1 h2 => hk _ _ _ (h x H' h1 h2)
    · exact hk _ _ _ h
    · exact h.elim
  | .sub k sz lo n, s, H, K, K', h, hk => by
    rw [fz] at *
    split at h
    · rename_i hk2
      obtain ⟨hq, hn, h⟩ := bif_f' h
      rw [hq]
      exact ⟨hn, fun x v H' h1 h2 h3 => hk _ _ _ (h x v H' h1 h2 h3)⟩
    · exact hk _ _ _ h
    · exact h.elim
  | .agg cs, s, H, K, K', h, hk => by rw [fz] at *; exact fzs_mono cs h fun _ _ _ => hk _ _ _
  | .fn f cs, s, H, K, K', h, hk => by rw [fz] at *; exact fzs_mono cs h fun _ _ _ => hk _ _ _
  | .tup cs, s, H, K, K', h, hk => by rw [fz] at *; exact fzs_mono cs h fun _ _ _ => hk _ _ _
  | .ptr _ _, s, H, K, K', h, hk => by rw [fz] at h; exact h.elim
  | .el _ _ _ _, s, H, K, K', h, hk => by rw [fz] at h; exact h.elim
  | .rel _ _ _ _, s, H, K, K', h, hk => by rw [fz] at h; exact h.elim
  | .mp _, s, H, K, K', h, hk => by rw [fz] at h; exact h.elim
theorem fzs_mono : ∀ (l : List SV) {s : St} {H : Hp} {K K' : List Value → St → Hp → Prop}, fzs l s H K → (∀ v s H, K v s H → K' v s H) → fzs l s H K'
  | [], s, H, K, K', h, hk => by rw [fzs] at *; exact hk _ _ _ h
  | x :: r, s, H, K, K', h, hk => by
    rw [fzs] at *
    exact fz_mono x h fun v s1 H1 h1 => fzs_mono r h1 fun vs s2 H2 h2 => hk _ _ _ h2
end

theorem Does.mono {P : Program} {f : FuncId} {args : List Value} {K K' : Value → Hp → Prop} (h : Does P f args H K) (hk : ∀ v H', K v H' → K' v H') : Does P f args H K' :=
  ⟨h.1, fun w hp => (h.2 w hp).mono fun _ _ ⟨v, H', h1, h2, h3⟩ => ⟨v, H', h1, hk _ _ h2, h3⟩⟩

mutual
theorem fz_keep : ∀ (x : SV) {s : St} {H : Hp} {K : Value → St → Hp → Prop}, fz x s H K → fz x s H fun v s' H' => K v s' H' ∧ Ext s s'
  | .v x, s, H, K, h => by rw [fz] at *; exact ⟨h, Ext.refl s⟩
  | .kb b, s, H, K, h => by rw [fz] at *; exact ⟨h, Ext.refl s⟩
  | .own k, s, H, K, h => by
    rw [fz] at *
    split at h
    · rename_i hk
      exact fun x H' h1 h2 => ⟨h x H' h1 h2, Ext.box _ _ _⟩
    · exact ⟨h, Ext.refl s⟩
    · exact h.elim
  | .sub k sz lo n, s, H, K, h => by
    rw [fz] at *
    split at h
    · rename_i hk2
      obtain ⟨hq, hn, h⟩ := bif_f' h
      rw [hq]
      exact ⟨hn, fun x v H' h1 h2 h3 => ⟨h x v H' h1 h2 h3, Ext.box _ _ _⟩⟩
    · exact ⟨h, Ext.refl s⟩
    · exact h.elim
  | .agg cs, s, H, K, h => by rw [fz] at *; exact fzs_keep cs h
  | .fn f cs, s, H, K, h => by rw [fz] at *; exact fzs_keep cs h
  | .tup cs, s, H, K, h => by rw [fz] at *; exact fzs_keep cs h
  | .ptr _ _, s, H, K, h => by rw [fz] at h; exact h.elim
  | .el _ _ _ _, s, H, K, h => by rw [fz] at h; exact h.elim
  | .rel _ _ _ _, s, H, K, h => by rw [fz] at h; exact h.elim
  | .mp _, s, H, K, h => by rw [fz] at h; exact h.elim
theorem fzs_keep : ∀ (l : List SV) {s : St} {H : Hp} {K : List Value → St → Hp → Prop}, fzs l s H K → fzs l s H fun v s' H' => K v s' H' ∧ Ext s s'
  | [], s, H, K, h => by rw [fzs] at *; exact ⟨h, Ext.refl s⟩
  | x :: r, s, H, K, h => by
    rw [fzs] at *
    exact fz_mono x (fz_keep x h) fun v s1 H1 ⟨h1, h2⟩ => fzs_mono r (fzs_keep r h1) fun vs s2 H2 ⟨h3, h4⟩ => ⟨h3, h2.trans h4⟩
end

theorem argsG_keep (m : List Nat) : ∀ (l : List SV) {s : St} {H : Hp} {K K' : List SV → St → Hp → Prop}, argsG m l s H K → (∀ ys s' H', K ys s' H' → Ext s s' → K' ys s' H') → argsG m l s H K'
  | [], s, H, K, K', h, hk => hk _ _ _ h (Ext.refl s)
  | x :: r, s, H, K, K', h, hk => by
    rw [argsG] at *
    split at h
    · exact argsG_keep m r h fun ys s' H' h1 h2 => hk _ _ _ h1 h2
    · rw [fz2_eq] at *
      exact fz_mono x (fz_keep x h) fun v s1 H1 ⟨h1, h2⟩ => argsG_keep m r h1 fun ys s' H' h3 h4 => hk _ _ _ h3 (h2.trans h4)

theorem DoesG.mono {P : Program} {f : FuncId} {args : List SV} {bx : List (Nat × Bx)} {nx : Nat} {H : Hp} {K K' : SV → St → Hp → Prop} (h : DoesG P f args bx nx H K) (hk : ∀ x t H', K x t H' → K' x t H') : DoesG P f args bx nx H K' :=
  ⟨h.1, fun w ρ hm hl => (h.2 w ρ hm hl).mono fun _ _ ⟨x, t, H', ρ', h1, h2, h3, h4⟩ => ⟨x, t, H', ρ', h1, hk _ _ _ h2, h3, h4⟩⟩

theorem deadB_ext : ∀ (m : List Nat) (bx : List (Nat × Bx)), ∃ pre, deadB m bx = pre ++ bx
  | [], bx => ⟨[], rfl⟩
  | k :: r, bx => by
    obtain ⟨pre, e⟩ := deadB_ext r bx
    exact ⟨(k, .dead) :: pre, by rw [deadB, e]; rfl⟩

theorem callG_keep {f : FuncId} {args : List SV} {K : KK} (h : callG C f args s H K) : callG C f args s H fun x s' H' => K x s' H' ∧ Ext s s' := by
  obtain ⟨m, hnd, h⟩ := h
  refine ⟨m, hnd, argsG_keep m args h fun ys s1 H1 h1 h2 => ?_⟩
  obtain ⟨env1, bx1, nx1⟩ := s1
  simp only at h1 ⊢
  split at h1
  · exact h1.elim
  · rename_i bl hbl
    refine h1.mono fun x t H2 h3 => ?_
    split at h3
    · exact h3.elim
    · split at h3
      · exact h3.elim
      · rename_i b2 hb2
        refine ⟨h3, h2.trans ⟨Nat.le_add_right _ _, ?_⟩⟩
        obtain ⟨pre, e⟩ := deadB_ext m bx1
        exact ⟨b2 ++ pre, by rw [e, List.append_assoc]⟩

theorem rowOf_mono {y : SV} {sz : Nat} {K K' : List (List Value) → Prop} (h : rowOf s H y sz K) (hk : ∀ ys, K ys → K' ys) : rowOf s H y sz K' := by
  unfold rowOf at *
  split at h
  · split at h
    · obtain ⟨hb, h⟩ := bif_f' h
      simp only [hb, cond_true]
      exact hk _ h
    · exact h.elim
  · split at h
    · obtain ⟨hb, hn, h⟩ := bif_f' h
      simp only [hb, cond_true]
      exact ⟨hn, hk _ h⟩
    · exact h.elim
  · obtain ⟨xs, h1, h2⟩ := h
    exact ⟨xs, h1, hk _ h2⟩
  · exact h.elim

theorem viewK_mono {x : SV} {K K' : Nat → TypeId → Nat → List (List Value) → Nat → Nat → Prop} (h : viewK s x K) (hk : ∀ k e sz xs lo n, K k e sz xs lo n → K' k e sz xs lo n) : viewK s x K' := by
  unfold viewK at *
  split at h
  · split at h
    · exact hk _ _ _ _ _ _ h
    · exact h.elim
  · split at h
    · obtain ⟨hb, h⟩ := bif_f' h
      simp only [hb, cond_true]
      exact hk _ _ _ _ _ _ h
    · exact h.elim
  · exact h.elim

theorem opX_keep {op : Op} {T : TypeId} {K : KK} (fb : Prop) (h : opX False C s op T H K) : opX fb C s op T H fun x s' H' => K x s' H' ∧ Ext s s' := by
  unfold opX at *
  split at h
  · split at h
    · exact h.elim
    · split at h
      · exact h.elim
      · split at h
        · exact h.elim
        · split at h
          · exact h.elim
          · obtain ⟨hb, h⟩ := bif_f' h
            simp only [hb, cond_true]
            split at h
            · rw [forceL_eq] at *
              obtain ⟨hb, h⟩ := bif_f' h
              simp only [hb, cond_true]
              rw [fzL2_eq] at *
              exact fzs_mono _ (fzs_keep _ h) fun vs s1 H1 ⟨h1, h2⟩ => ⟨h1, h2.trans (Ext.new _ _)⟩
            · exact h.elim
  · split at h
    · split at h
      · split at h
        · split at h
          · cases hta : tagg C _ with
            | true => rw [hta] at h; exact h.elim
            | false =>
              rw [hta] at h
              obtain ⟨y, h1, h2⟩ := h
              exact ⟨y, h1, h2, Ext.refl s⟩
          · exact h.elim
        · exact h.elim
      · exact h.elim
    · exact h.elim
  · unfold mkMapE at *
    split at h
    · exact h.elim
    · split at h
      · exact ⟨h.1, h.2, Ext.new s _⟩
      · exact h.elim
  · unfold lookE at *
    split at h
    · exact h.elim
    · split at h
      · split at h
        · split at h
          · split at h
            · split at h
              · obtain ⟨n, g, kl, h1, h2, h3⟩ := h
                exact ⟨n, g, kl, h1, h2, h3, Ext.refl s⟩
              · exact h.elim
            · exact h.elim
          · exact h.elim
        · exact h.elim
      · exact h.elim
  · unfold updE at *
    split at h
    · split at h
      · split at h
        · split at h
          · split at h
            · split at h
              · obtain ⟨n, g, kl, h1, h2, h3, h4⟩ := h
                exact ⟨n, g, kl, h1, h2, h3, h4, Ext.box _ _ _⟩
              · exact h.elim
            · exact h.elim
          · exact h.elim
        · exact h.elim
      · exact h.elim
    · exact h.elim
  · split at h
    · exact h.elim
    · split at h
      · exact h.elim
      · split at h
        · exact h.elim
        · split at h
          · exact h.elim
          · exact ⟨h.1, h.2, Ext.new s _⟩
  · split at h
    · split at h
      · exact ⟨h.1, h.2, Ext.refl s⟩
      · exact h.elim
    · split at h
      · split at h
        · exact ⟨h, Ext.refl s⟩
        · exact h.elim
      · exact h.elim
    · split at h
      · split at h
        · obtain ⟨n, hn, h⟩ := h
          exact ⟨n, hn, h, Ext.refl s⟩
        · exact h.elim
      · exact h.elim
    · exact h.elim
  · split at h
    · split at h
      · exact ⟨h, Ext.refl s⟩
      · exact h.elim
    · exact h.elim
  · split at h
    · split at h
      · -- copy
        split at h
        · split at h
          · split at h
            · exact h.elim
            · split at h
              · exact h.elim
              · split at h
                · exact h.elim
                · split at h
                  · exact h.elim
                  · obtain ⟨hb, h⟩ := bif_f' h
                    simp only [hb, cond_true]
                    refine rowOf_mono h fun ys h => viewK_mono h fun k e sz xs lo n h => ?_
                    obtain ⟨hb, h⟩ := bif_f' h
                    simp only [hb, cond_true]
                    exact ⟨h.1, h.2, Ext.box _ _ _⟩
          · exact h.elim
        · exact h.elim
      · -- append
        split at h
        · split at h
          · split at h
            · exact h.elim
            · split at h
              · exact h.elim
              · split at h
                · obtain ⟨hb, h⟩ := bif_f' h
                  simp only [hb, cond_true]
                  split at h
                  · exact h.elim
                  · refine rowOf_mono h fun ys h => ?_
                    split at h
                    · obtain ⟨hb, h⟩ := bif_f' h
                      simp only [hb, cond_true]
                      exact ⟨h.1, h.2, Ext.box _ _ _⟩
                    · exact h.elim
                · split at h
                  · split at h
                    · split at h
                      · split at h
                        · obtain ⟨hb, h⟩ := bif_f' h
                          simp only [hb, cond_true]
                          exact ⟨h.1, h.2.1, h.2.2, (Ext.box _ _ _).trans (Ext.new _ _)⟩
                        · exact h.elim
                      · exact h.elim
                    · exact h.elim
                  · exact h.elim
                · split at h
                  · split at h
                    · split at h
                      · obtain ⟨hb, h⟩ := bif_f' h
                        simp only [hb, cond_true]
                        exact ⟨h.1, h.2.1, h.2.2, Ext.new _ _⟩
                      · exact h.elim
                    · exact h.elim
                  · exact h.elim
                · exact h.elim
          · exact h.elim
        · exact h.elim
      · -- clear
        split at h
        · split at h
          · split at h
            · exact h.elim
            · split at h
              · exact h.elim
              · split at h
                · exact h.elim
                · refine viewK_mono h fun k e sz xs lo n h => ?_
                  obtain ⟨hb, h⟩ := bif_f' h
                  simp only [hb, cond_true]
                  exact ⟨h.1, h.2, Ext.box _ _ _⟩
          · exact h.elim
        · exact h.elim
      · split at h
        · split at h
          · exact ⟨h, Ext.refl s⟩
          · exact h.elim
        · exact h.elim
      · split at h
        · split at h
          · exact ⟨h, Ext.refl s⟩
          · exact h.elim
        · exact h.elim
      · split at h
        · split at h
          · split at h
            · exact ⟨h.1, h.2, Ext.refl s⟩
            · exact h.elim
          · exact h.elim
        · exact h.elim
      · -- cap
        split at h
        · split at h
          · split at h
            · exact h.elim
            · split at h
              · split at h
                · exact fun m h1 h2 => ⟨h m h1 h2, Ext.refl s⟩
                · exact h.elim
              · exact ⟨h, Ext.refl s⟩
              · exact h.elim
          · exact h.elim
        · exact h.elim
      · -- unsafeSliceData
        split at h
        · split at h
          · split at h
            · split at h
              · exact ⟨fun h1 => ⟨h.1 h1, Ext.refl s⟩, fun h1 p => ⟨h.2 h1 p, Ext.refl s⟩⟩
              · exact h.elim
            · exact ⟨h, Ext.refl s⟩
            · exact h.elim
          · exact h.elim
        · exact h.elim
      · -- unsafeString
        split at h
        · split at h
          · split at h
            · split at h
              · exact ⟨h.1, h.2, Ext.refl s⟩
              · split at h
                · obtain ⟨hb, h⟩ := bif_f' h
                  simp only [hb, cond_true]
                  obtain ⟨h1, h2, b, h3, h4, h5, h6⟩ := h
                  exact ⟨h1, h2, b, h3, h4, h5, h6, Ext.box _ _ _⟩
                · exact h.elim
              · exact h.elim
            · exact h.elim
          · exact h.elim
        · exact h.elim
      · exact h.elim
    · exact h.elim
  · exact h.elim

/-- An operation on the memory leaves the call's own variables alone. -/
theorem eff_keep {op : Op} {T : TypeId} {K : KK} (he : eff op = true) (h : opG (opX False C s op T H K) C s op T H K) (fb : Prop) : opG (opX fb C s op T H fun x s' H' => K x s' H' ∧ Ext s s') C s op T H fun x s' H' => K x s' H' ∧ Ext s s' := by
  have hx : ∀ fb', opX False C s op T H K → opX fb' C s op T H fun x s' H' => K x s' H' ∧ Ext s s' := fun fb' h => opX_keep fb' h
  cases op with
  | makeSlice T' l c =>
    simp only [opG] at *
    exact hx fb h
  | box T' x =>
    simp only [opG] at *
    split at h
    · exact ⟨h, Ext.new s _⟩
    · exact h.elim
  | alloc T' =>
    simp only [opG] at *
    split at h
    · exact ⟨h, Ext.new s _⟩
    · exact h.elim
  | buildSlice T' n ps =>
    simp only [opG, buildSliceE] at *
    split at h
    · exact h.elim
    · split at h
      · exact h.elim
      · split at h
        · exact h.elim
        · split at h
          · exact h.elim
          · obtain ⟨hb, h⟩ := bif_f' h
            simp only [hb, cond_true]
            split at h
            · split at h
              · exact ⟨h, Ext.new s _⟩
              · exact hx fb h
            · exact h.elim
  | store T' x y =>
    simp only [opG] at *
    split at h
    · exact h.elim
    · split at h
      · exact h.elim
      · obtain ⟨hb, h⟩ := bif_f' h
        obtain ⟨hb2, h⟩ := bif_f' h
        simp only [hb, hb2, cond_true]
        split at h
        · split at h
          · obtain ⟨hb3, h⟩ := bif_f' h
            simp only [hb3, cond_true]
            exact ⟨h, Ext.box _ _ _⟩
          · exact h.elim
        · split at h
          · obtain ⟨hb3, cs, hc, h⟩ := bif_f' h
            simp only [hb3, cond_true]
            split at h
            · exact ⟨cs, hc, h, Ext.box _ _ _⟩
            · exact h.elim
          · exact h.elim
        · exact hx fb h
  | call c =>
    obtain ⟨callee, args, ats⟩ := c
    cases callee with
    | builtin b =>
      cases b with
      | append =>
        simp only [opG] at *
        split at h
        · split at h
          · rename_i t t' _
            cases hb : Nat.beq t t' with
            | false =>
              rw [hb] at h
              simp only [cond_false] at h ⊢
              exact hx fb h
            | true =>
            rw [hb] at h
            simp only [cond_true] at h ⊢
            split at h
            · exact hx fb h
            · split at h
              · unfold appendE at *
                split at h
                · exact h.elim
                · split at h
                  · exact h.elim
                  · split at h
                    · exact h.elim
                    · obtain ⟨hb, h⟩ := bif_f' h
                      simp only [hb, cond_true]
                      refine rowOf_mono h fun ys h => ?_
                      split at h
                      · split at h
                        · rename_i hk
                          obtain ⟨hb, h0, h⟩ := bif_f' h
                          simp only [hb, cond_true]
                          exact ⟨h0, h, (Ext.box _ _ _).trans (Ext.new _ _)⟩
                        · exact h.elim
                      · exact ⟨h.1, h.2, Ext.new s _⟩
                      · exact h.elim
              · exact h.elim
            · exact h.elim
          · exact h.elim
        · exact h.elim
      | copy => simp only [opG] at *; exact hx fb h
      | clear => simp only [opG] at *; exact hx fb h
      | cap => simp only [opG] at *; exact hx fb h
      | unsafeSliceData => simp only [opG] at *; exact hx fb h
      | unsafeString => simp only [opG] at *; exact hx fb h
      | _ => cases he
    | value g =>
      simp only [opG] at *
      split at h
      · split at h
        · rename_i f cap hg _ vs hvs
          cases hxf : hasN f C.xf with
          | true =>
            rw [hxf] at h
            intro B ρ w hm hl
            obtain ⟨x, bx', nx', H', ρ', w', e1, hk, hl, hm, hs, hnx, hpre, hle⟩ := h B ρ w hm hl
            exact ⟨x, bx', nx', H', ρ', w', e1, ⟨hk, hnx, hpre⟩, hl, hm, hs, hnx, hpre, hle⟩
          | false =>
          rw [hxf] at h
          simp only [cond_false] at h ⊢
          cases hgf : hasN f C.gf with
          | true =>
            rw [hgf] at h
            exact callG_keep h
          | false =>
            rw [hgf] at h
            simp only [cond_false] at h ⊢
            unfold callE at *
            simp only [fzL2_eq] at *
            refine fzs_mono _ (fzs_keep _ h) fun vs s1 H1 ⟨h1, h2⟩ => ?_
            cases hf : hfree C 6 T with
            | true =>
              rw [hf] at h1
              exact Does.mono h1 fun v H' hv => ⟨hv, Ext.refl s⟩
            | false =>
              rw [hf] at h1
              exact Does.mono h1 fun v H' hv => ⟨hv, h2⟩
        · exact h.elim
      · exact h.elim
    | invoke r m => cases he
  | _ => cases he

/-- What the body has come to. -/
def Post (C : Cx) (B : Bs) (H0 : Hp) (Q : Ex → St → Hp → Prop) : Exit → Act → World → Prop := fun e a w => ∃ e0 s H ρ, e = Ex.of e0 ∧ Q e0 s H ∧ Rel C B ρ s H a w ∧ Le H0 H


end
end Go.Sy
