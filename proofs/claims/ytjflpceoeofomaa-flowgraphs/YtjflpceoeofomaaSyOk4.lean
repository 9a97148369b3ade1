/- Part 'SyOk4' of the proof: lemmas, each with its own conditions in its own statement. -/
import Derived.Test.YtjflpceoeofomaaSyOk3
namespace Go.Sy
open Go.RowKit (Below)
theorem patch1 {α : Type} (A c1 c2 c3 D1 D2 l : List α) (hl : l.length = c2.length) :
    ((A ++ (c1 ++ (c2 ++ (c3 ++ (D1 ++ D2))))).take (A.length + c1.length) ++ l ++ (A ++ (c1 ++ (c2 ++ (c3 ++ (D1 ++ D2))))).drop (A.length + c1.length + c2.length)).take (A.length + c1.length + c2.length + c3.length + D1.length)
      = A ++ (c1 ++ (l ++ (c3 ++ D1))) := by
  have h1 : (A ++ (c1 ++ (c2 ++ (c3 ++ (D1 ++ D2))))).take (A.length + c1.length) = A ++ c1 := by
    rw [← List.append_assoc]; exact List.take_left' (by simp)
  have h2 : (A ++ (c1 ++ (c2 ++ (c3 ++ (D1 ++ D2))))).drop (A.length + c1.length + c2.length) = c3 ++ (D1 ++ D2) := by
    rw [← List.append_assoc, ← List.append_assoc]; exact List.drop_left' (by simp; omega)
  rw [h1, h2]
  rw [show A ++ c1 ++ l ++ (c3 ++ (D1 ++ D2)) = (A ++ (c1 ++ (l ++ (c3 ++ D1)))) ++ D2 by simp]
  exact List.take_left' (by simp [hl]; omega)

theorem patch2 {α : Type} (cur l : List α) (m p off n sz : Nat) (h1 : p + sz ≤ m) (h2 : m ≤ cur.length) (hl : l.length = n) (h3 : off + n ≤ sz) :
    (cur.take (p + off) ++ l ++ cur.drop (p + off + n)).take m = (cur.take m).take p ++ ((((cur.drop p).take sz).take off) ++ l ++ ((cur.drop p).take sz).drop (off + n)) ++ (cur.take m).drop (p + sz) := by
  have e : cur = cur.take p ++ ((cur.drop p).take off ++ ((cur.drop (p + off)).take n ++ ((cur.drop (p + off + n)).take (sz - off - n) ++ ((cur.drop (p + sz)).take (m - p - sz) ++ cur.drop m)))) := by
    have e1 : cur.drop (p + sz) = (cur.drop (p + sz)).take (m - p - sz) ++ cur.drop m := by
      conv => lhs; rw [← List.take_append_drop (m - p - sz) (cur.drop (p + sz)), List.drop_drop]
      rw [show p + sz + (m - p - sz) = m by omega]
    have e2 : cur.drop (p + off + n) = (cur.drop (p + off + n)).take (sz - off - n) ++ cur.drop (p + sz) := by
      conv => lhs; rw [← List.take_append_drop (sz - off - n) (cur.drop (p + off + n)), List.drop_drop]
      rw [show p + off + n + (sz - off - n) = p + sz by omega]
    have e3 : cur.drop (p + off) = (cur.drop (p + off)).take n ++ cur.drop (p + off + n) := by
      conv => lhs; rw [← List.take_append_drop n (cur.drop (p + off)), List.drop_drop]
    have e4 : cur.drop p = (cur.drop p).take off ++ cur.drop (p + off) := by
      conv => lhs; rw [← List.take_append_drop off (cur.drop p), List.drop_drop]
    rw [← e1, ← e2, ← e3, ← e4, List.take_append_drop]
  have f1 : (cur.take m).take p = cur.take p := by rw [List.take_take, Nat.min_eq_left (by omega)]
  have f2 : ((cur.drop p).take sz).take off = (cur.drop p).take off := by rw [List.take_take, Nat.min_eq_left (by omega)]
  have f3 : ((cur.drop p).take sz).drop (off + n) = (cur.drop (p + off + n)).take (sz - off - n) := by
    rw [List.drop_take, List.drop_drop, show p + (off + n) = p + off + n by omega, show sz - (off + n) = sz - off - n by omega]
  have f4 : (cur.take m).drop (p + sz) = (cur.drop (p + sz)).take (m - p - sz) := by
    rw [List.drop_take, show m - (p + sz) = m - p - sz by omega]
  rw [f1, f2, f3, f4]
  have := patch1 (cur.take p) ((cur.drop p).take off) ((cur.drop (p + off)).take n) ((cur.drop (p + off + n)).take (sz - off - n)) ((cur.drop (p + sz)).take (m - p - sz)) (cur.drop m) l (by simp [hl]; omega)
  rw [← e] at this
  simp only [List.length_take, List.length_drop] at this
  rw [show min p cur.length + min off (cur.length - p) = p + off by omega, show p + off + min n (cur.length - (p + off)) = p + off + n by omega, show p + off + n + min (sz - off - n) (cur.length - (p + off + n)) + min (m - p - sz) (cur.length - (p + sz)) = m by omega] at this
  rw [this]
  simp [List.append_assoc]

section
variable {C : Cx} {B : Bs} {ρ : Rho} {s : St} {H : Hp} {a : Act} {w : World} {P : Program}

theorem raw_skip {op : Op} {T : TypeId} {K : KK}
    (h : ∀ B ρ (o : Oper) a w, o.op = op → o.type = T → Rel C B ρ s H a w → ∃ s' H' ρ' w', (execOp a.eval o).run C.P w = .ok .skip w' ∧ K unit s' H' ∧ Rel C B ρ' s' H' a w' ∧ Le H H') : RawOp C s op T H K := by
  intro B ρ o a w ho hT hr next Q hn
  obtain ⟨s', H', ρ', w', hrun, hk, hr', hle⟩ := h B ρ o a w ho hT hr
  unfold Oper.wp
  rw [hrun]
  have := hn _ _ _ _ _ hk hr' hle (by rw [unit, SV.lt])
  simpa [unit, ga, Oper.upon, undef] using this

theorem one_cell {x : SV} (h : one x = true) : (ga ρ x).oneCell' = true := by
  cases x with
  | v y => cases y <;> first | (rw [ga]; rfl) | (simp [one] at h)
  | kb b => rw [ga]; rfl
  | ptr k off => rw [ga]; rfl
  | own k => rw [ga]; rfl
  | mp k => rw [ga]; rfl
  | fn f cap => rw [ga]; rfl
  | el a i sz off => simp [one] at h
  | rel k n i off => simp [one] at h
  | sub k sz lo n => simp [one] at h
  | agg cs => simp [one] at h
  | tup vs => simp [one] at h

theorem ones_cell : ∀ {l : List SV}, ones l = true → ∀ v ∈ gas ρ l, v.oneCell' = true
  | [], _, v, hv => by simp [gas] at hv
  | x :: r, h, v, hv => by
    rw [ones] at h
    cases h1 : one x with
    | false => rw [h1] at h; cases h
    | true =>
      rw [h1] at h
      rw [gas] at hv
      rcases List.mem_cons.1 hv with rfl | hv
      · exact one_cell h1
      · exact ones_cell h v hv

theorem vals_gas : ∀ {l : List SV} {vs : List Value}, vals l = some vs → gas ρ l = vs ∧ ∀ v ∈ vs, v.oneCell' = true
  | [], vs, h => by
    simp only [vals, Option.some.injEq] at h
    subst h
    exact ⟨by rw [gas], by simp⟩
  | x :: r, vs, h => by
    simp only [vals] at h
    split at h
    · rename_i y hy
      split at h
      · rename_i ys hys
        simp only [Option.some.injEq] at h
        subst h
        obtain ⟨h1, h2⟩ := vals_gas hys
        have : ga ρ x = y ∧ y.oneCell' = true := by
          unfold val1 at hy
          split at hy
          · rename_i z
            cases hz : one (.v z) with
            | false => rw [hz] at hy; cases hy
            | true =>
              rw [hz] at hy
              simp only [cond_true, Option.some.injEq] at hy
              subst hy
              have := one_cell (ρ := ρ) hz
              rw [ga] at this ⊢
              exact ⟨rfl, this⟩
          · simp only [Option.some.injEq] at hy
            subst hy
            exact ⟨by rw [ga], rfl⟩
          · cases hy
        refine ⟨by rw [gas, this.1, h1], fun v hv => ?_⟩
        rcases List.mem_cons.1 hv with rfl | hv
        · exact this.2
        · exact h2 v hv
      · cases h
    · cases h

theorem storeVar_ok (ht : TOK C) {T : TypeId} {n : Nat} (hn : tsize C T = some n) {v : Value} {l : List Value} (hv : v.cells.toList = l) (hl : l.length = n) {g off : Nat} {c : Array Value} {E : TypeId}
    (hg : w.heap[g]? = some (.cells c E (0, 0))) (hfit : off + n ≤ c.size) (h1 : ∀ u ∈ l, u.oneCell' = true) :
    (storeVar T ⟨g, off, none⟩ v).run C.P w = .ok () (w.setRow g (c.toList.take off ++ l ++ c.toList.drop (off + n)).toArray) := by
  have hsz : v.cells.size = n := by rw [← hl, ← hv]; simp
  have := run_storeCells_at C.P g off E l 0 c w hg (by omega) h1
  simp only [Nat.add_zero, hl] at this
  simp only [storeVar, Sem.run_bind, tsize_ok ht hn w, Result.andThen_ok, hsz, ne_eq, not_true, if_false, hv, this]

theorem Rel.with (hr : Rel C B ρ s H a w) {bx : List (Nat × Bx)} {H' : Hp} {w' : World} (hm : Mem B ρ bx s.nx H' w') : Rel C B ρ { s with bx := bx } H' a w' :=
  ⟨hr.env, hr.sz, hr.defers, hm⟩

theorem setRow_write {bx : List (Nat × Bx)} {nx k : Nat} {b b' : Bx} {c cs : Array Value} {E : TypeId} (hm : Mem B ρ bx nx H w) (hk : lk bx k = some b) (hg : w.heap[ρ.b k]? = some (.cells c E (0, 0)))
    (ho : Owns ρ k b (ρ.b k)) (hlt : b'.lt nx = true) (hok : (w.setRow (ρ.b k) cs).heap[ρ.b k]? = some (.cells cs E (0, 0)) → BoxOK ρ (w.setRow (ρ.b k) cs) k b') (howns : ∀ g, Owns ρ k b' g → Owns ρ k b g) :
    Mem B ρ ((k, b') :: bx) nx H (w.setRow (ρ.b k) cs) :=
  hm.write hk rfl rfl ⟨rfl, Nat.le_refl _⟩ (by simp) (fun g _ hng => setRow_other w _ g _ fun e => hng (e ▸ ho)) hlt (hok (setRow_heap w _ c cs E _ hg)) howns

theorem set_flat {sz : Nat} {cs : List Value} (hcs : cs.length = sz) : ∀ {xs : List (List Value)} {i : Nat}, (∀ x ∈ xs, x.length = sz) → i < xs.length →
    (xs.set i cs).flatten = xs.flatten.take (i * sz) ++ cs ++ xs.flatten.drop (i * sz + sz)
  | [], i, _, h => by simp at h
  | x :: r, 0, hx, _ => by
    have := hx x List.mem_cons_self
    simp [← this, List.drop_left']
  | x :: r, i + 1, hx, h => by
    have h1 := hx x List.mem_cons_self
    have ih := set_flat hcs (xs := r) (i := i) (fun y hy => hx y (List.mem_cons_of_mem _ hy)) (by simpa using h)
    rw [List.set_cons_succ, List.flatten_cons, ih, List.flatten_cons]
    rw [show (i + 1) * sz = x.length + i * sz by rw [Nat.add_mul, h1]; omega]
    rw [show x.length + i * sz + sz = x.length + (i * sz + sz) by omega]
    simp [List.take_append, List.drop_append, List.take_of_length_le]

theorem ok_store (ht : TOK C) {T' T : TypeId} {x y : Operand} {K : KK} (h : match tsize C T' with
    | none => False
    | some n => match get s y with
      | none => False
      | some r => bif Nat.beq (cellsOf r).length n then (bif ones (cellsOf r) then (match get s x with
        | some (.ptr k off) => match lk s.bx k with
          | some (.cells T0 cs) => bif Nat.ble (off + n) cs.length then K unit (s.box k (.cells T0 (put1 cs off (cellsOf r)))) H else False
          | _ => False
        | some (.rel k sz i off) => match lk s.bx k with
          | some (.row e sz' xs) => bif Nat.beq sz' sz && Nat.ble (off + n) sz then (∃ cs, xs[i.toNat]? = some cs ∧ match vals (cellsOf r) with
            | some l => K unit (s.box k (.row e sz (xs.set i.toNat (cs.take off ++ l ++ cs.drop (off + n))))) H
            | none => False) else False
          | _ => False
        | _ => RawOp C s (.store T' x y) T H K) else False) else False) : RawOp C s (.store T' x y) T H K := by
  split at h
  · exact h.elim
  · rename_i n hn
    split at h
    · exact h.elim
    · rename_i r hy
      obtain ⟨hlen, h⟩ := bif_f h
      obtain ⟨hones, h⟩ := bif_f h
      have hlen := beq_t hlen
      split at h
      · rename_i k off hx
        split at h
        · rename_i T0 cs hk
          obtain ⟨hle, h⟩ := bif_f h
          have hle := ble_t hle
          refine raw_skip fun B ρ o a w ho _ hr => ?_
          have h1 := (eval_get hr hx).1
          obtain ⟨h2, h2lt⟩ := eval_get hr hy
          rw [ga] at h1
          have hkk := hr.mem.ok _ _ hk
          have hb := hkk.2.1
          simp only [BoxOK] at hb
          have hst := storeVar_ok (w := w) ht hn (cells_ga ρ r) (by rw [gas_eq, List.length_map, hlen]) hb (off := off) (by simp [gas_eq]; omega) (ones_cell hones)
          refine ⟨_, H, ρ, w.setRow (ρ.b k) ((gas ρ cs).toArray.toList.take off ++ gas ρ (cellsOf r) ++ (gas ρ cs).toArray.toList.drop (off + n)).toArray, ?_, h, hr.with (bx := (k, .cells T0 (put1 cs off (cellsOf r))) :: s.bx) (setRow_write hr.mem hk hb rfl ?_ ?_ ?_), Le.refl H⟩
          · simp only [execOp, ho, h1, h2, Instr.storeAt, Instr.sureAddr, Sem.run_bind, Sem.run_pure, Result.andThen_ok, hst]
          · exact put1_lt off hkk.2.2 (cellsOf_lt h2lt)
          · intro hh
            simp only [BoxOK]
            rw [hh, put1_ga]
            simp [gas_eq, hlen]
          · intro g hg; exact hg
        · exact h.elim
      · rename_i k sz i off hx
        split at h
        · rename_i e sz' xs hk
          have hbif := bif_f h; clear h; obtain ⟨hszz, cs, hcs, h⟩ := hbif
          simp only [Bool.and_eq_true] at hszz
          obtain rfl := beq_t hszz.1
          have hfit := ble_t hszz.2
          split at h
          · rename_i l hl
            refine raw_skip fun B ρ o a w ho _ hr => ?_
            have h1 := (eval_get hr hx).1
            obtain ⟨h2, h2lt⟩ := eval_get hr hy
            rw [ga] at h1
            have hkk := hr.mem.ok _ _ hk
            have hb := hkk.2.1
            have hi := (List.getElem?_eq_some_iff.1 hcs).1
            obtain ⟨cap, cur, hv, hg, hcap, hsz, htk⟩ := row_block hb (by intro e; subst e; simp at hi)
            have hcl := (hb.2.1 cs (List.mem_of_getElem? hcs)).1
            have hll : l.length = n := by rw [← (vals_gas (ρ := ρ) hl).1, gas_eq, List.length_map, hlen]
            have hin : i.toNat * sz' + sz' ≤ xs.length * sz' := by
              have : (i.toNat + 1) * sz' ≤ xs.length * sz' := Nat.mul_le_mul_right sz' hi
              rwa [Nat.add_mul, Nat.one_mul] at this
            have hcapm : xs.length * sz' ≤ cap * sz' := Nat.mul_le_mul_right sz' hcap
            have hst := storeVar_ok (w := w) ht hn (cells_ga ρ r) (by rw [gas_eq, List.length_map, hlen]) hg (off := i.toNat * sz' + off) (by omega) (ones_cell hones)
            rw [(vals_gas (ρ := ρ) hl).1] at hst
            have hown : Owns ρ k (.row e sz' xs) (ρ.b k) := by simp [Owns, hv, Value.ownBlock]
            refine ⟨_, H, ρ, w.setRow (ρ.b k) (cur.toList.take (i.toNat * sz' + off) ++ l ++ cur.toList.drop (i.toNat * sz' + off + n)).toArray, ?_, h, hr.with (bx := (k, .row e sz' (xs.set i.toNat (cs.take off ++ l ++ cs.drop (off + n)))) :: s.bx) (setRow_write hr.mem hk hg hown rfl ?_ ?_), Le.refl H⟩
            · simp only [execOp, ho, h1, h2, Instr.storeAt, Instr.sureAddr, Sem.run_bind, Sem.run_pure, Result.andThen_ok, hst]
            · intro hh
              have hnl : (cs.take off ++ l ++ cs.drop (off + n)).length = sz' := by simp [hll]; omega
              have hall : ∀ x ∈ xs.set i.toNat (cs.take off ++ l ++ cs.drop (off + n)), x.length = sz' ∧ ∀ u ∈ x, u.oneCell' = true := by
                intro x hx'
                rcases List.mem_or_eq_of_mem_set hx' with hx' | rfl
                · exact hb.2.1 x hx'
                · refine ⟨hnl, fun u hu => ?_⟩
                  have hcs1 := (hb.2.1 cs (List.mem_of_getElem? hcs)).2
                  simp only [List.mem_append] at hu
                  rcases hu with (hu | hu) | hu
                  · exact hcs1 u (List.mem_of_mem_take hu)
                  · exact (vals_gas (ρ := ρ) hl).2 u hu
                  · exact hcs1 u (List.mem_of_mem_drop hu)
              have hflat := set_flat hnl (xs := xs) (i := i.toNat) (fun x hx => (hb.2.1 x hx).1) hi
              refine ⟨⟨?_, .inr ⟨ρ.b k, cap, _, by rw [hv]; simp, Nat.zero_le _, hh, by simpa using hcap, ?_, ?_, ?_⟩⟩, hall, hb.2.2⟩
              · rw [hflat]
                have : xs.flatten.length = xs.length * sz' := hb.1.1
                rw [List.length_append, List.length_append, hnl, List.length_take, List.length_drop, this, List.length_set]
                omega
              · rcases hb.1.2 with ⟨h5, _⟩ | ⟨g', cap', cur', h5, _, _, _, h6, _⟩
                · rw [hv] at h5; cases h5
                · rw [hv] at h5; simp only [Value.slice.injEq] at h5; omega
              · simp [hll]; omega
              · rw [hflat]
                have hcsd : cs = (cur.toList.drop (i.toNat * sz')).take sz' := by
                  apply List.ext_getElem?
                  intro j
                  rw [List.getElem?_take]
                  split
                  · rename_i hj
                    have := flat_get (sz := sz') (fun x hx => (hb.2.1 x hx).1) hcs j hj
                    rw [← htk, List.getElem?_take, if_pos (by omega)] at this
                    rw [List.getElem?_drop, this]
                  · exact List.getElem?_eq_none (by omega)
                simp only [List.length_set, ← htk]
                have hp := patch2 cur.toList l (xs.length * sz') (i.toNat * sz') off n sz' hin (by simp; omega) hll hfit
                rw [← hcsd] at hp
                exact hp
            · intro g hg'; exact hg'
          · exact h.elim
        · exact h.elim
      · exact h


/-! ### Addresses and parts -/

theorem fieldPlace_run (ht : TOK C) {f : Field} {n : Nat} (h : tsize C f.type = some (n + 1)) (a : Addr) (w : World) : (fieldPlace a f).run C.P w = .ok (a.add f.offset) w := by
  simp [fieldPlace, tsize_ok ht h w]

theorem ok_fieldAddr {fb : Prop} (ht : TOK C) {T' T : TypeId} {x : Operand} {f : Nat} {K : KK} (h : match tfield C T' f with
    | none => False
    | some fd => match tsize C fd.type with
      | some (_ + 1) => match get s x with
        | some (.ptr k off) => K (.ptr k (off + fd.offset)) s H
        | some (.el (some a) i sz off) => K (.el (some a) i sz (off + fd.offset)) s H
        | some (.rel k n i off) => K (.rel k n i (off + fd.offset)) s H
        | _ => fb
      | _ => fb) : RawP C s (.fieldAddr T' x f) T H K ∨ fb := by
  split at h
  · exact h.elim
  · rename_i fd hfd
    obtain ⟨fs, h1, h2⟩ := tfield_ok ht hfd
    split at h
    · rename_i n hn
      split at h
      · rename_i k off hx
        refine .inl fun B ρ o a w ho _ hr => ⟨_, ?_, h, ?_⟩
        · have h3 := (eval_get hr hx).1
          rw [ga] at h3
          simp only [execOp, ho, h3, Instr.fieldAt, Instr.sureAddr, Sem.run_bind, run_underlying h1, Result.andThen_ok, h2, Sem.run_pure, fieldPlace_run ht hn, ga, Addr.at_]
        · have := (eval_get hr hx).2
          rw [SV.lt] at this ⊢; exact this
      · rename_i ad i sz off hx
        refine .inl fun B ρ o a w ho _ hr => ⟨_, ?_, h, by rw [SV.lt]⟩
        have h3 := (eval_get hr hx).1
        rw [ga] at h3
        simp only [execOp, ho, h3, Instr.fieldAt, Instr.sureAddr, Sem.run_bind, run_underlying h1, Result.andThen_ok, h2, Sem.run_pure, fieldPlace_run ht hn, ga, Addr.add_add, Nat.add_assoc]
      · rename_i k m i off hx
        refine .inl fun B ρ o a w ho _ hr => ⟨_, ?_, h, ?_⟩
        · have h3 := (eval_get hr hx).1
          rw [ga] at h3
          simp only [execOp, ho, h3, Instr.fieldAt, Instr.sureAddr, Sem.run_bind, run_underlying h1, Result.andThen_ok, h2, Sem.run_pure, fieldPlace_run ht hn, ga, Addr.at_, Nat.add_assoc]
        · have := (eval_get hr hx).2
          rw [SV.lt] at this ⊢; exact this
      · exact .inr h
    · exact .inr h

theorem part_ok (ht : TOK C) {T : TypeId} {n off : Nat} (hn : tsize C T = some n) {l : List SV} {r : SV} (hr : mkv (tagg C T) ((l.drop off).take n) = some r) (w : World) :
    (part T (gas ρ l).toArray off).run C.P w = .ok (ga ρ r) w := by
  unfold part
  rw [Sem.run_bind, tagg_ok ht hn w]
  simp only [Result.andThen_ok]
  rcases mkv_ga hr with ⟨h1, rfl⟩ | ⟨h1, h2⟩
  · rw [h1, if_pos rfl, Sem.run_bind, tsize_ok ht hn w, ga, gas_take_drop]
    simp
  · rw [h1, if_neg (by simp)]
    have : (gas ρ l)[off]? = some (ga ρ r) := by
      have h3 : (l.drop off)[0]? = some r := by
        have := congrArg (fun l => l[0]?) h2
        simp only [List.getElem?_take] at this
        split at this
        · simpa using this
        · cases this
      rw [List.getElem?_drop, Nat.add_zero] at h3
      rw [gas_eq, List.getElem?_map, h3]; rfl
    have h4 : (gas ρ l).toArray[off]? = some (ga ρ r) := by simpa using this
    rw [h4]
    rfl

theorem aggOf_ga (ρ : Rho) {y : SV} {cs : List SV} (h : aggOf y = some cs) : ga ρ y = .agg (gas ρ cs).toArray ∧ ∀ n, y.lt n = true → SV.lts n cs = true := by
  unfold aggOf at h
  split at h
  · simp only [Option.some.injEq] at h
    subst h
    exact ⟨by rw [ga], fun n hn => by rw [SV.lt] at hn; exact hn⟩
  · simp only [Option.some.injEq] at h
    subst h
    exact ⟨by rw [ga, gas_v], fun n _ => lts_v n _⟩
  · cases h

theorem ok_field {fb : Prop} (ht : TOK C) {T' T : TypeId} {x : Operand} {f : Nat} {K : KK} (h : match tfield C T' f with
    | none => False
    | some fd => match get s x with
      | some y => match aggOf y with
        | some cs => match tsize C fd.type with
          | some n => match mkv (tagg C fd.type) ((cs.drop fd.offset).take n) with
            | some r => K r s H
            | none => False
          | none => False
        | none => False
      | none => False) : RawP C s (.field T' x f) T H K ∨ fb := by
  split at h
  · exact h.elim
  · rename_i fd hfd
    obtain ⟨fs, h1, h2⟩ := tfield_ok ht hfd
    split at h
    · rename_i y hy
      split at h
      · rename_i cs hcs
        split at h
        · rename_i n hn
          split at h
          · rename_i r hr0
            refine .inl fun B ρ o a w ho _ hr => ⟨r, ?_, h, ?_⟩
            · have h3 := (eval_get hr hy).1
              rw [(aggOf_ga ρ hcs).1] at h3
              simp only [execOp, ho, h3, Instr.field, Sem.run_bind, run_underlying h1, Result.andThen_ok, h2, asAgg, Sem.run_pure, part_ok ht hn hr0]
            · exact mkv_lt hr0 (lts_take_drop ((aggOf_ga ρ hcs).2 _ (eval_get hr hy).2) _ _)
          · exact h.elim
        · exact h.elim
      · exact h.elim
    · exact h.elim

theorem ok_nilCheck {fb : Prop} {T : TypeId} {x : Operand} {K : KK} (h : match get s x with
    | some (.ptr k off) => K (.ptr k off) s H
    | some (.el (some a) i sz off) => K (.el (some a) i sz off) s H
    | some (.fn f cap) => K (.fn f cap) s H
    | _ => fb) : RawP C s (.nilCheck x) T H K ∨ fb := by
  split at h
  · rename_i k off hx
    refine .inl fun B ρ o a w ho _ hr => ⟨_, ?_, h, (eval_get hr hx).2⟩
    have h3 := (eval_get hr hx).1
    rw [ga] at h3
    simp only [execOp, ho, h3, ga]
    rfl
  · rename_i ad i sz off hx
    refine .inl fun B ρ o a w ho _ hr => ⟨_, ?_, h, (eval_get hr hx).2⟩
    have h3 := (eval_get hr hx).1
    rw [ga] at h3
    simp only [execOp, ho, h3, ga]
    rfl
  · rename_i f cap hx
    refine .inl fun B ρ o a w ho _ hr => ⟨_, ?_, h, (eval_get hr hx).2⟩
    have h3 := (eval_get hr hx).1
    rw [ga] at h3
    simp only [execOp, ho, h3, ga]
    rfl
  · exact .inr h

theorem ok_indexAddr {fb : Prop} (ht : TOK C) {T' T : TypeId} {x i : Operand} {K : KK} (h : match telem C T' with
    | none => fb
    | some e => match tsize C e with
      | none => False
      | some sz => match get s i with
        | some (.v (.int _ j)) => match get s x with
          | some (.v (.slice a n _)) => ∃ ad, (0 ≤ j ∧ j < n ∧ a = some ad) ∧ K (.el (some ad) j sz 0) s H
          | some (.own k) => match lk s.bx k with
            | some (.row _ sz' xs) => bif Nat.beq sz' sz then ((0 ≤ j ∧ j < xs.length) ∧ K (.rel k sz j 0) s H) else False
            | _ => False
          | some (.sub k sz0 lo n) => match lk s.bx k with
            | some (.row _ sz' xs) => bif Nat.beq sz' sz && Nat.beq sz0 sz then ((0 ≤ j ∧ j < n ∧ lo + n ≤ xs.length) ∧ K (.rel k sz (lo + j) 0) s H) else False
            | _ => False
          | _ => False
        | _ => False) : RawP C s (.indexAddr T' x i) T H K ∨ fb := by
  split at h
  · exact .inr h
  · rename_i e he
    have hu := telem_ok ht he
    split at h
    · exact h.elim
    · rename_i sz hsz
      split at h
      · rename_i k j hi
        split at h
        · rename_i ad n cp hx
          obtain ⟨ad, ⟨h1, h2, rfl⟩, h⟩ := h
          refine .inl fun B ρ o a w ho _ hr => ⟨_, ?_, h, by rw [SV.lt]⟩
          have h3 := (eval_get hr hx).1
          have h4 := (eval_get hr hi).1
          rw [ga] at h3 h4
          simp only [execOp, ho, h3, h4, Instr.indexAt, asIntOf, Sem.run_bind, Sem.run_pure, Result.andThen_ok, run_underlying hu, h1, h2, and_self, if_true, tsize_ok ht hsz, ga, Addr.add_add, Nat.add_zero]
        · rename_i k' hx
          split at h
          · rename_i e' sz' xs hk
            have hbif := bif_f h; clear h; obtain ⟨hszz, ⟨h1, h2⟩, h⟩ := hbif
            obtain rfl := beq_t hszz
            refine .inl fun B ρ o a w ho _ hr => ⟨_, ?_, h, ?_⟩
            · have h3 := (eval_get hr hx).1
              have h4 := (eval_get hr hi).1
              rw [ga] at h3
              rw [ga] at h4
              have hb := (hr.mem.ok _ _ hk).2.1
              obtain ⟨cap, cur, hv, _⟩ := row_block hb (by intro e; subst e; simp at h2; omega)
              rw [hv] at h3
              simp only [execOp, ho, h3, h4, Instr.indexAt, asIntOf, Sem.run_bind, Sem.run_pure, Result.andThen_ok, run_underlying hu, h1, h2, and_self, if_true, tsize_ok ht hsz, ga, Addr.at_, Nat.zero_add, Nat.add_zero]
            · have := (eval_get hr hx).2
              rw [SV.lt] at this
              rw [SV.lt]; exact this
          · exact h.elim
        · rename_i k' sz0 lo n hx
          split at h
          · rename_i e' sz' xs hk
            have hbif := bif_f h; clear h; obtain ⟨hszz, ⟨h1, h2, h5⟩, h⟩ := hbif
            simp only [Bool.and_eq_true] at hszz
            obtain rfl := beq_t hszz.1
            obtain rfl := beq_t hszz.2
            refine .inl fun B ρ o a w ho _ hr => ⟨_, ?_, h, ?_⟩
            · have h3 := (eval_get hr hx).1
              have h4 := (eval_get hr hi).1
              rw [ga, Rho.part] at h3
              rw [ga] at h4
              have hb := (hr.mem.ok _ _ hk).2.1
              have hsl : ∃ cap, ρ.sl k' = (some ⟨ρ.b k', 0, none⟩, xs.length, cap) ∧ xs.length ≤ cap := by
                obtain ⟨cap, cur, hv, h7⟩ := row_block hb (by intro e; subst e; simp at h5; omega)
                simp only [Rho.val, Value.slice.injEq] at hv
                rcases hb.1.2 with ⟨h1, h2⟩ | ⟨g, cap', cur', h8, _, _, h3, _⟩
                · omega
                · simp only [Rho.val, Value.slice.injEq] at h8
                  exact ⟨cap, Prod.ext hv.1 (Prod.ext hv.2.1 hv.2.2), by have := h8.2.2.symm.trans hv.2.2; omega⟩
              obtain ⟨cap, hsl, hcap⟩ := hsl
              rw [hsl, cutA, if_neg (by simp only; omega), Option.map_some, Addr.at_, Nat.zero_add] at h3
              have e9 : ((lo : Int) + j).toNat = lo + j.toNat := by omega
              simp only [execOp, ho, h3, h4, Instr.indexAt, asIntOf, Sem.run_bind, Sem.run_pure, Result.andThen_ok, run_underlying hu, h1, h2, and_self, if_true, tsize_ok ht hsz, ga, Addr.at_, Nat.add_zero, e9, Nat.add_mul]
            · have := (eval_get hr hx).2
              rw [SV.lt] at this
              rw [SV.lt]; exact this
          · exact h.elim
        · exact h.elim
      · exact h.elim

theorem sl_get (b : ByteArray) (i : Nat) : b[i]? = (sl b)[i]? := by
  unfold sl
  rw [Array.getElem?_toList]
  by_cases h : i < b.size
  · rw [getElem?_pos b i h, getElem?_pos b.data i h]; rfl
  · rw [getElem?_neg b i h, getElem?_neg b.data i h]
theorem extract_bs (b : ByteArray) (l h : Nat) : b.extract l h = bs (((sl b).take h).drop l) := by
  apply ByteArray.ext
  apply Array.ext'
  simp [bs, sl, List.drop_take]

theorem ok_index {fb : Prop} (ht : TOK C) {xT T : TypeId} {x i : Operand} {K : KK} (h : match C.tt xT with
    | some (_, .string) => match get s x with
      | some (.v (.string b)) => match get s i with
        | some (.v (.int _ j)) => ∃ c : UInt8, (0 ≤ j ∧ (sl b)[j.toNat]? = some c) ∧ K (.v (.int .u8 c.toNat)) s H
        | _ => False
      | _ => False
    | _ => fb) : RawP C s (.index xT x i) T H K ∨ fb := by
  split at h
  · rename_i i0 hT
    have hs := (ht _ _ _ hT).2
    split at h
    · rename_i b hx
      split at h
      · rename_i k j hi
        obtain ⟨c, ⟨h1, h2⟩, h⟩ := h
        refine .inl fun B ρ o a w ho _ hr => ⟨_, ?_, h, by rw [SV.lt]⟩
        have h3 := (eval_get hr hx).1
        have h4 := (eval_get hr hi).1
        rw [ga] at h3 h4
        rw [← sl_get] at h2
        simp only [execOp, ho, h3, h4, Instr.index, asIntOf, Sem.run_bind, Sem.run_pure, Result.andThen_ok, run_underlying hs, h1, if_true, h2, ga]
      · exact h.elim
    · exact h.elim
  · exact .inr h

theorem ok_extract {fb : Prop} {T : TypeId} {x : Operand} {i : Nat} {K : KK} (h : match get s x with
    | some (.tup vs) => match vs[i]? with
      | some y => K y s H
      | none => False
    | _ => False) : RawP C s (.extract x i) T H K ∨ fb := by
  split at h
  · rename_i vs hx
    split at h
    · rename_i y hy
      refine .inl fun B ρ o a w ho _ hr => ⟨y, ?_, h, ?_⟩
      · have h3 := (eval_get hr hx).1
        rw [ga] at h3
        have : (gas ρ vs).toArray[i]? = some (ga ρ y) := by simp [gas_eq, hy]
        simp only [execOp, ho, h3, Instr.extract, this]
        rfl
      · have := (eval_get hr hx).2
        rw [SV.lt, lts_iff] at this
        exact this y (List.mem_of_getElem? hy)
    · exact h.elim
  · exact h.elim

theorem ok_makeFunc {fb : Prop} {fn : Fn} {first cap : Array Operand} {T : TypeId} {K : KK} (h : match fn with
    | .func f => match first.toList with
      | [] => match gets s cap.toList with
        | some vs => K (.fn f vs) s H
        | none => False
      | _ => fb
    | _ => fb) : RawP C s (.makeFunc fn first cap) T H K ∨ fb := by
  split at h
  · rename_i f
    split at h
    · rename_i hfirst
      split at h
      · rename_i vs hvs
        refine .inl fun B ρ o a w ho _ hr => ⟨_, ?_, h, ?_⟩
        · have h3 := (eval_gets hr hvs).1
          have h4 : first = #[] := by apply Array.ext'; simpa using hfirst
          have h5 : cap.map a.eval = (gas ρ vs).toArray := by apply Array.ext'; simpa using h3
          have h6 : (#[] : Array Operand).map a.eval = #[] := by simp
          simp only [execOp, ho, Instr.makeFunc, ga, h4, h5, h6, Sem.run_bind, Sem.run_pure, Result.andThen_ok]
        · rw [SV.lt]; exact (eval_gets hr hvs).2
      · exact h.elim
    · exact .inr h
  · exact .inr h

end
end Go.Sy
