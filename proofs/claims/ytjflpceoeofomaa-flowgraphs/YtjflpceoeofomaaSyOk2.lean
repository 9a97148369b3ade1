/- Part 'SyOk2' of the proof: lemmas, each with its own conditions in its own statement. -/
import Derived.Test.YtjflpceoeofomaaSyOk
import Derived.IntWalk
import Derived.Laws.Strings
namespace Go.Sy
open Go.RowKit (Below)

theorem wrap_in : ∀ {k : IntKind} {n : Int}, inR k n → k.wrap n = n
  | .i8, n, h => IntWalk.i8_in n h
  | .i16, n, h => IntWalk.i16_in n h
  | .i32, n, h => IntWalk.i32_in n h
  | .i64, n, h => IntWalk.i64_in n h
  | .u8, n, h => IntWalk.u8_in n h
  | .u16, n, h => IntWalk.u16_in n h
  | .u32, n, h => IntWalk.u32_in n h
  | .u64, n, h => IntWalk.u64_in n h

section
variable {C : Cx} {B : Bs} {ρ : Rho} {s : St} {H : Hp} {a : Act} {w : World} {P : Program}

theorem arith_ok {k : IntKind} {n : Int} {K : SV → Prop} (h : arith C k n K) : K (.v (.int k (k.wrap n))) := by
  unfold arith at h
  cases hw : C.wrap with
  | true => rw [hw] at h; exact h
  | false => rw [hw] at h; rw [wrap_in h.1]; exact h.2

theorem binI_run {op : BinOp} {k k' : IntKind} {x y : Int} {K : SV → Prop} (xT : TypeId) (h : binI C op k x y K) (hk : op = .shl ∨ op = .shr ∨ k = k') (w : World) :
    ∃ r, (Go.binOp op xT (.int k x) (.int k' y)).run P w = .ok r w ∧ K (.v r) := by
  cases op
  case shl =>
    simp only [binI] at h
    refine ⟨_, ?_, arith_ok h.2⟩
    simp [Go.binOp, Op.shift, Int.not_lt.2 h.1]
  case shr =>
    simp only [binI] at h
    refine ⟨_, ?_, h.2⟩
    simp [Go.binOp, Op.shift, Int.not_lt.2 h.1]
  all_goals
    obtain rfl : k = k' := by simpa using hk
    simp only [binI] at h
  case add => exact ⟨_, by simp [Go.binOp, Op.intArith], arith_ok h⟩
  case sub => exact ⟨_, by simp [Go.binOp, Op.intArith], arith_ok h⟩
  case mul => exact ⟨_, by simp [Go.binOp, Op.intArith], arith_ok h⟩
  case quo => exact ⟨_, by simp [Go.binOp, Op.intDiv, h.1], arith_ok h.2⟩
  case rem => exact ⟨_, by simp [Go.binOp, Op.intDiv, h.1], h.2⟩
  case and => exact ⟨_, by simp [Go.binOp, Op.intBits], h⟩
  case or => exact ⟨_, by simp [Go.binOp, Op.intBits], h⟩
  case xor => exact ⟨_, by simp [Go.binOp, Op.intBits], h⟩
  case andNot => exact ⟨_, by simp [Go.binOp, Op.intBits], h⟩
  case eql => exact ⟨_, by simp only [Go.binOp, Op.intCmp, ne_eq, not_true, if_false]; rfl, by simpa [bool, BEq.beq] using h⟩
  case neq => exact ⟨_, by simp only [Go.binOp, Op.intCmp, ne_eq, not_true, if_false]; rfl, by simpa [bool, bne, BEq.beq] using h⟩
  case lss => exact ⟨_, by simp only [Go.binOp, Op.intCmp, ne_eq, not_true, if_false]; rfl, h⟩
  case leq => exact ⟨_, by simp only [Go.binOp, Op.intCmp, ne_eq, not_true, if_false]; rfl, h⟩
  case gtr => exact ⟨_, by simp only [Go.binOp, Op.intCmp, ne_eq, not_true, if_false]; rfl, h⟩
  case geq => exact ⟨_, by simp only [Go.binOp, Op.intCmp, ne_eq, not_true, if_false]; rfl, h⟩

theorem toList_sl (s : ByteArray) : s.toList = sl s := ByteArray.toList_eq s
theorem beq_dec (a b : List UInt8) : (a == b) = decide (a = b) := by rw [Bool.eq_iff_iff]; simp

theorem bs_append (a b : ByteArray) : bs (sl a ++ sl b) = a ++ b := by
  apply ByteArray.ext
  apply Array.ext'
  simp [bs, sl]

theorem binS_run {op : BinOp} {x y : ByteArray} {K : SV → Prop} (xT : TypeId) (h : binS op x y K) (w : World) :
    ∃ r, (Go.binOp op xT (.string x) (.string y)).run P w = .ok r w ∧ K (.v r) := by
  cases op <;> simp only [binS] at h
  case add =>
    refine ⟨_, ?_, h.2⟩
    have h1 : ¬ ((x.size + y.size : Nat) : Int) > IntKind.i64.max := by
      have h2 := h.1
      have e : IntKind.i64.max = 9223372036854775807 := by decide
      have hx : x.size = (sl x).length := rfl
      have hy : y.size = (sl y).length := rfl
      rw [e, hx, hy]
      omega
    simp only [Go.binOp, Op.stringOp, if_neg h1, bs_append]
    rfl
  all_goals first | exact h.elim | (refine ⟨_, by simp only [Go.binOp, Op.stringOp, toList_sl, beq_dec]; rfl, ?_⟩; exact h)


/-! ### Operations -/

theorem raw_val {op : Op} {T : TypeId} {K : KK}
    (h : ∀ B ρ (o : Oper) a w, o.op = op → o.type = T → Rel C B ρ s H a w → ∃ x s' H' ρ' w', (execOp a.eval o).run C.P w = .ok (.value (ga ρ' x)) w' ∧ K x s' H' ∧ Rel C B ρ' s' H' a w' ∧ Le H H' ∧ x.lt s'.nx = true) : RawOp C s op T H K := by
  intro B ρ o a w ho hT hr next Q hn
  obtain ⟨x, s', H', ρ', w', hrun, hk, hr', hle, hlt⟩ := h B ρ o a w ho hT hr
  unfold Oper.wp
  rw [hrun]
  exact hn _ _ _ _ _ hk hr' hle hlt

/-- An operation that leaves the memory alone. -/
def RawP (C : Cx) (s : St) (op : Op) (T : TypeId) (H : Hp) (K : KK) : Prop :=
  ∀ B ρ (o : Oper) a w, o.op = op → o.type = T → Rel C B ρ s H a w → ∃ x, (execOp a.eval o).run C.P w = .ok (.value (ga ρ x)) w ∧ K x s H ∧ x.lt s.nx = true

theorem raw_pure {op : Op} {T : TypeId} {K : KK}
    (h : ∀ B ρ (o : Oper) a w, o.op = op → o.type = T → Rel C B ρ s H a w → ∃ x, (execOp a.eval o).run C.P w = .ok (.value (ga ρ x)) w ∧ K x s H ∧ x.lt s.nx = true) : RawOp C s op T H K :=
  raw_val fun B ρ o a w ho hT hr => by
    obtain ⟨x, h1, h2, h3⟩ := h B ρ o a w ho hT hr
    exact ⟨x, s, H, ρ, w, h1, h2, hr, Le.refl H, h3⟩

theorem ok_move {x : Operand} {T : TypeId} {K : KK} (h : match get s x with | some y => K y s H | none => False) : RawP C s (.move x) T H K ∧ RawP C s (.assign x) T H K := by
  split at h
  · rename_i y hy
    constructor <;>
    · refine fun B ρ o a w ho _ hr => ⟨y, ?_, h, (eval_get hr hy).2⟩
      simp only [execOp, ho, (eval_get hr hy).1]
      rfl
  · exact h.elim

theorem ok_pick {fb : Prop} {c x y : Operand} {T : TypeId} {K : KK} (h : match get s c with
    | some (.kb t) => match (bif t then get s x else get s y) with
      | some y => K y s H
      | none => False
    | _ => False) : RawP C s (.pick c x y) T H K ∨ fb := by
  split at h
  · rename_i t hc
    split at h
    · rename_i z hz
      have hz' : get s (if t then x else y) = some z := by cases t <;> exact hz
      refine .inl fun B ρ o a w ho _ hr => ⟨z, ?_, h, (eval_get hr hz').2⟩
      have h1 := (eval_get hr hc).1
      have h2 := (eval_get hr hz').1
      rw [ga] at h1
      simp only [execOp, ho, h1, asBool, Sem.run_bind, Sem.run_pure, Result.andThen_ok, ← h2]
      cases t <;> rfl
    · exact h.elim
  · exact h.elim

theorem eqGuard_int (op : BinOp) (t : TypeId) (x y : Operand) (k k' : IntKind) (n m : Int) (w : World) : (eqGuard op t x y (.int k n) (.int k' m)).run P w = .ok () w := by
  cases op <;> simp [eqGuard]
theorem eqGuard_str (op : BinOp) (t : TypeId) (x y : Operand) (n m : ByteArray) (w : World) : (eqGuard op t x y (.string n) (.string m)).run P w = .ok () w := by
  cases op <;> simp [eqGuard]

theorem ok_not {fb : Prop} {xT : TypeId} {x : Operand} {T : TypeId} {K : KK} (h : match get s x with
      | some (.kb b) => K (.kb (!b)) s H
      | some (.v (.bool b)) => K (bool (!b)) s H
      | _ => False) : RawP C s (.unOp .not xT x) T H K ∨ fb := by
  refine .inl fun B ρ o a w ho _ hr => ?_
  split at h
  · rename_i b hx
    have h1 := (eval_get hr hx).1
    rw [ga] at h1
    exact ⟨_, by simp only [execOp, ho, h1, Op.unary, ga]; rfl, h, by rw [SV.lt]⟩
  · rename_i b hx
    have h1 := (eval_get hr hx).1
    rw [ga] at h1
    exact ⟨_, by simp only [execOp, ho, h1, Op.unary, ga, bool]; rfl, h, by rw [bool, SV.lt]⟩
  · exact h.elim

theorem ok_neg {fb : Prop} {xT : TypeId} {x : Operand} {T : TypeId} {K : KK} (h : match get s x with
      | some (.v (.int k n)) => arith C k (0 - n) fun r => K r s H
      | _ => fb) : RawP C s (.unOp .neg xT x) T H K ∨ fb := by
  split at h
  · rename_i k n hx
    refine .inl fun B ρ o a w ho _ hr => ?_
    have h1 := (eval_get hr hx).1
    rw [ga] at h1
    exact ⟨_, by simp only [execOp, ho, h1, Op.unary, Op.intArith, ga]; rfl, arith_ok (K := fun r => K r s H) h, by rw [SV.lt]⟩
  · exact .inr h

theorem gas_v (ρ : Rho) (l : List Value) : gas ρ (l.map .v) = l := by
  rw [gas_eq, List.map_map]
  have : (ga ρ ∘ SV.v) = id := by funext y; simp [ga]
  rw [this]; simp

theorem cells_ga (ρ : Rho) (x : SV) : (ga ρ x).cells.toList = gas ρ (cellsOf x) := by
  cases x with
  | v y => cases y <;> first | (rw [ga]; rfl) | (rw [ga]; simp only [Value.cells, cellsOf, gas_v])
  | agg cs => rw [ga]; simp [Value.cells, cellsOf]
  | el a i sz off => cases a <;> (rw [ga]; rfl)
  | kb b => rw [ga]; rfl
  | ptr k off => rw [ga]; rfl
  | own k => rw [ga]; rfl
  | fn f cap => rw [ga]; rfl
  | rel k n i off => rw [ga]; rfl
  | sub k sz lo n => rw [ga]; rfl
  | mp k => rw [ga]; rfl
  | tup vs => rw [ga]; rfl

theorem lts_v (n : Nat) (l : List Value) : SV.lts n (l.map .v) = true := by
  rw [lts_iff]
  intro y hy
  simp only [List.mem_map] at hy
  obtain ⟨z, _, rfl⟩ := hy
  rw [SV.lt]

theorem cellsOf_lt {n : Nat} {x : SV} (h : x.lt n = true) : SV.lts n (cellsOf x) = true := by
  unfold cellsOf
  split
  · rw [SV.lt] at h; exact h
  · rw [lts_iff]
    intro y hy
    simp only [List.mem_map] at hy
    obtain ⟨z, _, rfl⟩ := hy
    rw [SV.lt]
  · rw [SV.lts, h, SV.lts]; rfl


theorem Addr.at_ (g off j : Nat) : (⟨g, off, none⟩ : Addr).add j = ⟨g, off + j, none⟩ := by
  unfold Addr.add; split <;> simp_all

/-- A new block of the call's own. -/
theorem Rel.boxed (hr : Rel C B ρ s H a w) (T : TypeId) {cs : List SV} (hcs : SV.lts s.nx cs = true) :
    Rel C B (ρ.set s.nx w.heap.size (none, 0, 0)) (s.new (.cells T cs)) H a (w.alloc (.cells (gas ρ cs).toArray T)) where
  env := hr.env_new _ _
  sz := hr.sz
  defers := hr.defers
  mem := by
    refine hr.mem.alloc rfl rfl ⟨rfl, Nat.le_refl _⟩ (by simp) (fun g hg => heap_alloc_old w _ g hg) ?_ ?_ ?_
    · exact lts_mono (Nat.le_succ _) cs hcs
    · simp only [BoxOK]
      rw [gas_same (Rho.set_same ρ s.nx _ _) cs hcs]
      simp only [Rho.set, if_true]
      exact heap_alloc_new w _
    · intro g hg
      simp only [Owns, Rho.set, if_true] at hg
      omega

theorem ok_box {T' T : TypeId} {x : Operand} {K : KK} (h : match get s x with
    | some y => K (.ptr s.nx 0) (s.new (.cells T' (cellsOf y))) H
    | none => False) : RawOp C s (.box T' x) T H K := by
  refine raw_val fun B ρ o a w ho _ hr => ?_
  split at h
  · rename_i y hy
    obtain ⟨h1, h2⟩ := eval_get hr hy
    refine ⟨_, _, H, _, _, ?_, h, hr.boxed T' (cellsOf_lt h2), Le.refl H, ?_⟩
    · simp only [execOp, ho, h1, Instr.box, newVar, newRow, Sem.run_bind, run_newObj, Result.andThen_ok, Sem.run_pure, ga, Rho.set, if_true, World.alloc_eq, ← cells_ga, Array.toArray_toList]
    · rw [SV.lt]; exact Nat.ble_eq_true_of_le (Nat.le_refl _)
  · exact h.elim

theorem zeroCells_ok (ht : TOK C) {T : TypeId} {z : List SV} (h : zeroCells C T = some z) : ∃ v, (zeroValue T).run C.P w = .ok v w ∧ (∀ ρ, v.cells = (gas ρ z).toArray) ∧ ∀ n, SV.lts n z = true := by
  unfold zeroCells at h
  split at h
  · rename_i i hi
    split at h
    · rename_i v hv
      simp only [Option.some.injEq] at h
      subst h
      have := (ht T i.1 i.2 hi).1
      refine ⟨v, by simp [zeroValue, typeInfo, this, hv], fun ρ => ?_, fun n => cellsOf_lt (by rw [SV.lt])⟩
      rw [← cells_ga, ga]
    · cases h
  · cases h

theorem ok_alloc (ht : TOK C) {T' T : TypeId} {K : KK} (h : match zeroCells C T' with
    | some z => K (.ptr s.nx 0) (s.new (.cells T' z)) H
    | none => False) : RawOp C s (.alloc T') T H K := by
  refine raw_val fun B ρ o a w ho _ hr => ?_
  split at h
  · rename_i z hz
    obtain ⟨v, h1, h2, h3⟩ := zeroCells_ok (w := w) ht hz
    refine ⟨_, _, H, _, _, ?_, h, hr.boxed T' (h3 _), Le.refl H, ?_⟩
    · simp only [execOp, ho, Instr.alloc, newVar, newRow, Sem.run_bind, h1, run_newObj, Result.andThen_ok, Sem.run_pure, ga, Rho.set, if_true, World.alloc_eq, h2 ρ]
    · rw [SV.lt]; exact Nat.ble_eq_true_of_le (Nat.le_refl _)
  · exact h.elim

theorem getPs_ok (hr : Rel C B ρ s H a w) : ∀ {l : List (Nat × Operand)} {vs : List (Nat × SV)}, getPs s l = some vs → l.map (fun p => (p.1, a.eval p.2)) = vs.map (fun p => (p.1, ga ρ p.2)) ∧ ∀ p ∈ vs, p.2.lt s.nx = true
  | [], vs, h => by
    simp only [getPs, Option.some.injEq] at h
    subst h
    simp
  | (i, x) :: r, vs, h => by
    simp only [getPs] at h
    split at h
    · rename_i y hy
      split at h
      · rename_i zs hz
        simp only [Option.some.injEq] at h
        subst h
        obtain ⟨h1, h2⟩ := eval_get hr hy
        obtain ⟨h3, h4⟩ := getPs_ok hr hz
        refine ⟨by simp only [List.map_cons, h1, h3], fun p hp => ?_⟩
        rcases List.mem_cons.1 hp with rfl | hp
        · exact h2
        · exact h4 p hp
      · cases h
    · cases h

theorem foldl_set (l : List Value) : ∀ (cs : Array Value) (off k : Nat), (l.zipIdx k).foldl (fun cs (p : Value × Nat) => cs.setIfInBounds (off + p.2) p.1) cs = 
    if off + k + l.length ≤ cs.size then (cs.toList.take (off + k) ++ l ++ cs.toList.drop (off + k + l.length)).toArray else (l.zipIdx k).foldl (fun cs (p : Value × Nat) => cs.setIfInBounds (off + p.2) p.1) cs := by
  induction l with
  | nil => intro cs off k; split <;> simp
  | cons v r ih =>
    intro cs off k
    split
    · rename_i h
      simp only [List.zipIdx_cons, List.foldl_cons]
      rw [ih, if_pos (by simp; simp at h; omega)]
      simp only [List.length_cons] at h
      apply Array.ext'
      simp only [Array.toList_setIfInBounds]
      apply List.ext_getElem?
      intro j
      simp only [List.getElem?_append, List.length_append, List.length_take, List.length_set, List.getElem?_take, List.getElem?_drop, List.getElem?_set, Array.length_toList, List.length_cons]
      by_cases h1 : j < off + k
      · simp [h1, show j < off + (k + 1) by omega, show off + k ≠ j by omega, show off + k ≤ cs.size by omega, show off + (k + 1) ≤ cs.size by omega]
        rw [if_pos (by omega), if_pos (by omega)]
      · by_cases h2 : j = off + k
        · subst h2
          simp [show off + k ≤ cs.size by omega, show off + (k+1) ≤ cs.size by omega, show off + k < off + (k + 1) by omega, show off + k < cs.size by omega]
          intro hh; omega
        · have e1 : j - (off + k) = (j - (off + (k + 1))) + 1 := by omega
          simp only [show min (off + (k+1)) cs.size = off + (k + 1) by omega, show min (off + k) cs.size = off + k by omega, show ¬ j < off + k from h1, show ¬ j < off + (k+1) by omega, if_false, e1, List.getElem?_cons_succ, show off + k ≠ off + (k + 1) + r.length + (j - (off + (k + 1) + r.length)) by omega]
          by_cases h3 : j < off + (k + 1) + r.length
          · simp [show j < off + k + (r.length + 1) by omega, h3]
          · simp [show ¬ j < off + k + (r.length + 1) by omega, h3]
            congr 1
            omega
    · rfl

theorem put1_ga (ρ : Rho) (cs : List SV) (off : Nat) (x : List SV) : gas ρ (put1 cs off x) = (gas ρ cs).take off ++ gas ρ x ++ (gas ρ cs).drop (off + (gas ρ x).length) := by
  simp only [put1, gas_eq, List.map_append, List.map_take, List.map_drop, List.length_map]

theorem put1_lt {n : Nat} {cs x : List SV} (off : Nat) (h1 : SV.lts n cs = true) (h2 : SV.lts n x = true) : SV.lts n (put1 cs off x) = true := by
  rw [lts_iff] at *
  intro y hy
  simp only [put1, List.mem_append] at hy
  rcases hy with (hy | hy) | hy
  · exact h1 y (List.mem_of_mem_take hy)
  · exact h2 y hy
  · exact h1 y (List.mem_of_mem_drop hy)

theorem fill_ok (ρ : Rho) (place : Nat → Option (Nat × Nat)) : ∀ (vs : List (Nat × SV)) (cells cs : List SV), fillE place cells vs = some cs →
    Instr.fill place (gas ρ cells).toArray (vs.map fun p => (p.1, ga ρ p.2)) = some (gas ρ cs).toArray
  | [], cells, cs, h => by
    simp only [fillE, Option.some.injEq] at h
    subst h
    simp [Instr.fill]
  | (i, x) :: r, cells, cs, h => by
    simp only [fillE] at h
    split at h
    · cases h
    · rename_i off size hp
      cases h1 : Nat.beq (cellsOf x).length size with
      | false => rw [h1] at h; cases h
      | true =>
        rw [h1] at h
        simp only [cond_true] at h
        cases h2 : Nat.ble (off + size) cells.length with
        | false => rw [h2] at h; cases h
        | true =>
          rw [h2] at h
          simp only [cond_true] at h
          have e1 := beq_t h1
          have e2 := ble_t h2
          have hc : (ga ρ x).cells = (gas ρ (cellsOf x)).toArray := by rw [← cells_ga]
          have ih := fill_ok ρ place r _ cs h
          have hl : (gas ρ (cellsOf x)).length = size := by rw [gas_eq, List.length_map, e1]
          have hl2 : (gas ρ cells).length = cells.length := by rw [gas_eq, List.length_map]
          simp only [List.map_cons, Instr.fill, hp, hc, List.size_toArray, hl, hl2, ne_eq, not_true, decide_false, Bool.false_or, gt_iff_lt, Nat.not_lt.2 e2]
          have hf := foldl_set (gas ρ (cellsOf x)) (gas ρ cells).toArray off 0
          rw [if_pos (by simp [hl, hl2]; omega)] at hf
          simp only [Nat.add_zero] at hf
          rw [← Array.foldl_toList, Array.toList_zipIdx]
          simp only [Bool.false_eq_true, if_false]
          rw [hf]
          rw [put1_ga] at ih
          exact ih

theorem fill_lt {n : Nat} {place : Nat → Option (Nat × Nat)} : ∀ (vs : List (Nat × SV)) (cells cs : List SV), fillE place cells vs = some cs → SV.lts n cells = true → (∀ p ∈ vs, p.2.lt n = true) → SV.lts n cs = true
  | [], cells, cs, h, h1, _ => by
    simp only [fillE, Option.some.injEq] at h
    subst h
    exact h1
  | (i, x) :: r, cells, cs, h, h1, h2 => by
    simp only [fillE] at h
    split at h
    · cases h
    · rename_i off size hp
      cases h3 : Nat.beq (cellsOf x).length size with
      | false => rw [h3] at h; cases h
      | true =>
        rw [h3] at h
        simp only [cond_true] at h
        cases h4 : Nat.ble (off + size) cells.length with
        | false => rw [h4] at h; cases h
        | true =>
          rw [h4] at h
          simp only [cond_true] at h
          exact fill_lt r _ cs h (put1_lt off h1 (cellsOf_lt (h2 _ List.mem_cons_self))) (fun p hp => h2 p (List.mem_cons_of_mem _ hp))

end
end Go.Sy
