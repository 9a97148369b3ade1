/- Part 'SyX' of the proof: lemmas, each with its own conditions in its own statement. -/
import Derived.Test.YtjflpceoeofomaaSyOk8
import Derived.Laws.IdiomStrings
import Derived.Laws.MakeOwn
import Derived.Lib.UnsafeStr
import Derived.Lib.Builder
import Derived.Laws.BytesArg
namespace Go.Sy
open Go.RowKit (Below)
section
variable {C : Cx} {B : Bs} {ρ : Rho} {s : St} {H : Hp} {a : Act} {w : World} {P : Program}

theorem sliceBounds3_ok (hr : Rel C B ρ s H a w) {lo : Option Operand} {hi mx : Operand} {l h m : Int} (b : Bool) (len cap : Nat) (hl : optN s lo 0 = some l) (hh : getN s hi = some h) (hm : getN s mx = some m) (hle : 0 ≤ l ∧ l ≤ h ∧ h ≤ m ∧ m ≤ cap) :
    (Instr.sliceBounds b len cap (lo.map a.eval) (some (a.eval hi)) (some (a.eval mx))).run P w = .ok (l.toNat, h.toNat, m.toNat) w := by
  unfold Instr.sliceBounds
  obtain ⟨k', hk'⟩ := getN_ok hr hh
  obtain ⟨k2, hk2⟩ := getN_ok hr hm
  cases lo with
  | none =>
    simp only [optN, Option.some.injEq] at hl
    subst hl
    simp [sliceBound_ok hk2 (show 0 ≤ m ∧ m ≤ (cap : Nat) by omega), sliceBound_ok hk' (show 0 ≤ h ∧ h ≤ (m.toNat : Nat) by omega)]
  | some x =>
    simp only [optN] at hl
    obtain ⟨k, hk⟩ := getN_ok hr hl
    simp [sliceBound_ok hk2 (show 0 ≤ m ∧ m ≤ (cap : Nat) by omega), sliceBound_ok hk' (show 0 ≤ h ∧ h ≤ (m.toNat : Nat) by omega), sliceBound_ok hk (show 0 ≤ l ∧ l ≤ (h.toNat : Nat) by omega)]

theorem row_len {e : TypeId} {sz : Nat} {xs : List (List Value)} {k : Nat} (hb : BoxOK ρ w k (.row e sz xs)) : (ρ.sl k).2.1 = xs.length ∧ xs.length ≤ (ρ.sl k).2.2 := by
  rcases row_arr hb with ⟨h1, rfl⟩ | ⟨cap, cur, h1, h2, h3, hmx, h4, h5⟩
  · rw [h1]; exact ⟨rfl, Nat.le_refl _⟩
  · rw [h1]; exact ⟨rfl, h3⟩

theorem cutA_cut (a : Option Addr) (lo l c sz : Nat) (hc : lo + l < c) : cutA (cutA a lo c sz) l (c - lo) sz = cutA a (lo + l) c sz := by
  unfold cutA
  rw [if_neg (by omega), if_neg (by omega), if_neg (by omega)]
  cases a with
  | none => rfl
  | some ad => simp only [Option.map_some, Addr.add_add, Nat.add_mul]

theorem ok_sliceV {fb : Prop} (ht : TOK C) {T' T : TypeId} {x : Operand} {lo hi mx : Option Operand} {K : KK} (h : sliceV fb C s T' x lo hi mx fun r => K r s H) : RawP C s (.slice T' x lo hi mx) T H K ∨ fb := by
  unfold sliceV at h
  split at h
  · -- a string
    rename_i i0 hT
    have hu := (ht _ _ _ hT).2
    split at h
    · exact .inr h
    · split at h
      · rename_i b hx
        split at h
        · exact h.elim
        · rename_i l hl
          split at h
          · exact h.elim
          · rename_i hh0 hh
            obtain ⟨hle, h⟩ := h
            refine .inl fun B ρ o a w ho _ hr => ⟨_, ?_, h, by rw [SV.lt]⟩
            have h1 := (eval_get hr hx).1
            rw [ga] at h1
            have hbd := sliceBounds_ok (P := C.P) hr false b.size b.size hl hh hle
            simp only [execOp, ho, Instr.sliceAt, Sem.run_bind, run_underlying hu, Result.andThen_ok, Instr.slice, h1, Option.map_none, Option.isSome_none, Bool.false_eq_true, if_false, Sem.run_pure, hbd, ga, extract_bs]
      · exact h.elim
  · -- a slice
    rename_i i0 e hT
    have hu := (ht _ _ _ hT).2
    split at h
    · exact h.elim
    · rename_i sz hsz
      split at h
      · split at h
        · rename_i ad n c hx
          split at h
          · exact h.elim
          · rename_i l hl
            split at h
            · exact h.elim
            · rename_i hh0 hh
              obtain ⟨hle, h⟩ := h
              refine .inl fun B ρ o a w ho _ hr => ⟨_, ?_, h, by rw [SV.lt]⟩
              have h1 := (eval_get hr hx).1
              rw [ga] at h1
              have hbd := sliceBounds_ok (P := C.P) hr true n c hl hh (by omega)
              simp only [execOp, ho, Instr.sliceAt, Sem.run_bind, run_underlying hu, Result.andThen_ok, Instr.slice, h1, Option.map_none, Sem.run_pure, hbd, tsize_ok ht hsz, ga, cutA]
        · rename_i k hx
          split at h
          · rename_i e' sz' xs hk
            split at h
            · exact h.elim
            · rename_i l hl
              split at h
              · exact h.elim
              · rename_i hh0 hh
                have hbif := bif_f h; clear h; obtain ⟨hq, hle, h⟩ := hbif
                obtain rfl := beq_t hq
                refine .inl fun B ρ o a w ho _ hr => ⟨_, ?_, h, ?_⟩
                · have h1 := (eval_get hr hx).1
                  rw [ga] at h1
                  obtain ⟨hn, hcap⟩ := row_len (hr.mem.ok _ _ hk).2.1
                  have hbd := sliceBounds_ok (P := C.P) hr true xs.length (ρ.sl k).2.2 hl hh (by omega)
                  simp only [execOp, ho, Instr.sliceAt, Sem.run_bind, run_underlying hu, Result.andThen_ok, Instr.slice, h1, Rho.val, hn, Option.map_none, Sem.run_pure, hbd, tsize_ok ht hsz, ga, cutA, Rho.part]
                · have := (eval_get hr hx).2
                  simpa only [SV.lt] using this
          · exact h.elim
        · rename_i k sz0 lo0 n hx
          split at h
          · rename_i e' sz' xs hk
            split at h
            · exact h.elim
            · rename_i l hl
              split at h
              · exact h.elim
              · rename_i hh0 hh
                have hbif := bif_f h; clear h; obtain ⟨hq, hle, h, h'⟩ := hbif
                simp only [Bool.and_eq_true] at hq
                obtain rfl := beq_t hq.1
                obtain rfl := beq_t hq.2
                by_cases hlt : l < hh0
                · refine .inl fun B ρ o a w ho _ hr => ⟨_, ?_, h hlt, ?_⟩
                  · have h1 := (eval_get hr hx).1
                    rw [ga, Rho.part] at h1
                    obtain ⟨hn, hcap⟩ := row_len (hr.mem.ok _ _ hk).2.1
                    have hbd := sliceBounds_ok (P := C.P) hr true n ((ρ.sl k).2.2 - lo0) hl hh (by omega)
                    simp only [execOp, ho, Instr.sliceAt, Sem.run_bind, run_underlying hu, Result.andThen_ok, Instr.slice, h1, Option.map_none, Sem.run_pure, hbd, tsize_ok ht hsz, ga, Rho.part]
                    rw [← cutA_cut _ _ _ _ _ (by omega)]
                    simp only [cutA, Nat.sub_sub]
                  · have := (eval_get hr hx).2
                    simpa only [SV.lt] using this
                · have hlh : l = hh0 := by omega
                  refine .inl fun B ρ o a w ho _ hr => ?_
                  have h1 := (eval_get hr hx).1
                  rw [ga, Rho.part] at h1
                  obtain ⟨hn, hcap⟩ := row_len (hr.mem.ok _ _ hk).2.1
                  have hbd := sliceBounds_ok (P := C.P) hr true n ((ρ.sl k).2.2 - lo0) hl hh (by omega)
                  refine ⟨_, ?_, h' hlh (cutA (cutA (ρ.sl k).1 lo0 (ρ.sl k).2.2 sz0) l.toNat ((ρ.sl k).2.2 - lo0) sz0) ((ρ.sl k).2.2 - lo0 - l.toNat), by rw [SV.lt]⟩
                  simp only [execOp, ho, Instr.sliceAt, Sem.run_bind, run_underlying hu, Result.andThen_ok, Instr.slice, h1, Option.map_none, Sem.run_pure, hbd, tsize_ok ht hsz, ga, hlh, Nat.sub_self]
                  simp only [cutA]
          · exact h.elim
        · exact h.elim
      · split at h
        · exact .inr h
        · split at h
          · rename_i ad n c hx
            split at h
            · exact h.elim
            · rename_i l hl
              split at h
              · exact h.elim
              · rename_i hh0 hh
                split at h
                · exact h.elim
                · rename_i m hm
                  obtain ⟨hle, h⟩ := h
                  refine .inl fun B ρ o a w ho _ hr => ⟨_, ?_, h, by rw [SV.lt]⟩
                  have h1 := (eval_get hr hx).1
                  rw [ga] at h1
                  have hbd := sliceBounds3_ok (P := C.P) hr true n c hl hh hm (by omega)
                  simp only [execOp, ho, Instr.sliceAt, Sem.run_bind, run_underlying hu, Result.andThen_ok, Instr.slice, h1, Option.map_some, Sem.run_pure, hbd, tsize_ok ht hsz, ga, cutA]
          · rename_i k hx
            split at h
            · rename_i e' sz' xs hk
              split at h
              · exact h.elim
              · rename_i l hl
                split at h
                · exact h.elim
                · rename_i hh0 hh
                  split at h
                  · exact h.elim
                  · rename_i m hm
                    have hbif := bif_f h; clear h; obtain ⟨hq, hle, h⟩ := hbif
                    obtain rfl := beq_t hq
                    refine .inl fun B ρ o a w ho _ hr => ?_
                    have h1 := (eval_get hr hx).1
                    rw [ga] at h1
                    obtain ⟨hn, hcap⟩ := row_len (hr.mem.ok _ _ hk).2.1
                    have hbd := sliceBounds3_ok (P := C.P) hr true xs.length (ρ.sl k).2.2 hl hh hm (by omega)
                    refine ⟨_, ?_, h (.slice (cutA (ρ.sl k).1 l.toNat m.toNat sz') (hh0.toNat - l.toNat) (m.toNat - l.toNat)), by rw [SV.lt]⟩
                    simp only [execOp, ho, Instr.sliceAt, Sem.run_bind, run_underlying hu, Result.andThen_ok, Instr.slice, h1, Rho.val, hn, Option.map_some, Sem.run_pure, hbd, tsize_ok ht hsz, ga, cutA]
            · exact h.elim
          · exact .inr h
  · exact .inr h

theorem flat_len {sz : Nat} : ∀ {xs : List (List Value)}, (∀ x ∈ xs, x.length = sz) → xs.flatten.length = xs.length * sz
  | [], _ => by simp
  | x :: r, h => by
    rw [List.flatten_cons, List.length_append, h x List.mem_cons_self, flat_len fun y hy => h y (List.mem_cons_of_mem _ hy), List.length_cons, Nat.add_mul]; omega

theorem patch_take {α : Type} (c Y : List α) (p m : Nat) (h1 : p + Y.length ≤ m) (h2 : m ≤ c.length) : (c.take p ++ Y ++ c.drop (p + Y.length)).take m = (c.take m).take p ++ Y ++ (c.take m).drop (p + Y.length) := by
  have e1 : (c.take p ++ Y).length = p + Y.length := by simp; omega
  rw [List.take_append, e1, List.take_of_length_le (by rw [e1]; exact h1), List.take_take, Nat.min_eq_left (by omega), List.drop_take]

/-- Part of a row of the call's own is written. -/
theorem store_view (hr : Rel C B ρ s H a w) {k : Nat} {e : TypeId} {sz : Nat} {xs : List (List Value)} (hk : lk s.bx k = some (.row e sz xs)) {lo : Nat} {ys : List (List Value)}
    (hy : ∀ y ∈ ys, y.length = sz ∧ ∀ u ∈ y, u.oneCell' = true) (hfit : lo + ys.length ≤ xs.length) {base : Option Addr} (hb : ys = [] ∨ base = some ⟨ρ.b k, lo * sz, none⟩) :
    ∃ w', (match base with | some a => storeCells a ys.flatten | none => pure ()).run P w = .ok () w' ∧ Rel C B ρ (s.box k (.row e sz (xs.take lo ++ ys ++ xs.drop (lo + ys.length)))) H a w' := by
  have hbx := (hr.mem.ok _ _ hk).2.1
  by_cases hys : ys = []
  · subst hys
    refine ⟨w, by cases base <;> simp [storeCells], ?_⟩
    have : xs.take lo ++ [] ++ xs.drop (lo + ([] : List (List Value)).length) = xs := by simp
    rw [this]
    exact hr.with (bx := (k, .row e sz xs) :: s.bx) (hr.mem.write hk rfl rfl ⟨rfl, Nat.le_refl _⟩ (Nat.le_refl _) (fun _ _ _ => rfl) rfl hbx (fun g hg => hg))
  · obtain rfl := hb.resolve_left hys
    have hsz : ∀ x ∈ xs, x.length = sz := fun x hx => (hbx.2.1 x hx).1
    have hyl := flat_len fun y hx => (hy y hx).1
    have hxl := flat_len hsz
    have hpos : 0 < ys.length := List.length_pos_iff.2 hys
    have hfs : lo * sz + ys.flatten.length ≤ xs.length * sz := by rw [hyl, ← Nat.add_mul]; exact Nat.mul_le_mul_right _ hfit
    rcases row_arr hbx with ⟨_, rfl⟩ | ⟨cap, cur, h1, h2, h3, hmx, h4, h5⟩
    · simp only [List.length_nil] at hfit; omega
    · have hcs : xs.length * sz ≤ cur.size := by rw [h4]; exact Nat.mul_le_mul_right _ h3
      have hst := run_storeCells_at P (ρ.b k) (lo * sz) e ys.flatten 0 cur w h2 (by omega) (fun u hu => by
        obtain ⟨y, h6, h7⟩ := List.mem_flatten.1 hu
        exact (hy y h6).2 u h7)
      simp only [Nat.add_zero] at hst
      refine ⟨_, hst, ?_⟩
      have ho : Owns ρ k (.row e sz xs) (ρ.b k) := by simp only [Owns, Rho.val, h1]; rfl
      refine hr.with (bx := (k, .row e sz (xs.take lo ++ ys ++ xs.drop (lo + ys.length))) :: s.bx) (setRow_write hr.mem hk h2 ho rfl (fun hh => ?_) (fun g hg => hg))
      have hnl : (xs.take lo ++ ys ++ xs.drop (lo + ys.length)).length = xs.length := by simp; omega
      have hnf : (xs.take lo ++ ys ++ xs.drop (lo + ys.length)).flatten = xs.flatten.take (lo * sz) ++ ys.flatten ++ xs.flatten.drop (lo * sz + ys.flatten.length) := by
        rw [List.flatten_append, List.flatten_append, take_flat lo hsz, drop_flat _ hsz, hyl, Nat.add_mul]
      refine ⟨?_, fun x hx => ?_, fun g hg => hbx.2.2 g hg⟩
      · rw [hnl]
        refine ⟨by rw [hnf]; simp only [List.length_append, List.length_take, List.length_drop]; omega, .inr ⟨ρ.b k, cap, _, by rw [Rho.val, h1], Nat.zero_le _, hh, h3, hmx, ?_, ?_⟩⟩
        · simp only [List.size_toArray, List.length_append, List.length_take, List.length_drop, Array.length_toList]; omega
        · rw [hnf, ← h5]
          exact patch_take _ _ _ _ hfs (by simpa using hcs)
      · rcases List.mem_append.1 hx with hx | hx
        · rcases List.mem_append.1 hx with hx | hx
          · exact hbx.2.1 x (List.mem_of_mem_take hx)
          · exact hy x hx
        · exact hbx.2.1 x (List.mem_of_mem_drop hx)

/-- A view, as a value. -/
theorem viewK_ok (hr : Rel C B ρ s H a w) {x : SV} {K : Nat → TypeId → Nat → List (List Value) → Nat → Nat → Prop} (h : viewK s x K) :
    ∃ k e sz xs lo n, lk s.bx k = some (.row e sz xs) ∧ K k e sz xs lo n ∧ ∃ base c, ga ρ x = .slice base n c ∧ (lo + n ≤ xs.length → n = 0 ∨ base = some ⟨ρ.b k, lo * sz, none⟩) := by
  unfold viewK at h
  split at h
  · rename_i k
    split at h
    · rename_i e sz xs hk
      refine ⟨k, e, sz, xs, 0, xs.length, hk, h, (ρ.sl k).1, (ρ.sl k).2.2, ?_, fun _ => ?_⟩
      · rw [ga, Rho.val, (row_len (hr.mem.ok _ _ hk).2.1).1]
      · rcases row_arr (hr.mem.ok _ _ hk).2.1 with ⟨_, rfl⟩ | ⟨cap, cur, h1, _⟩
        · exact .inl rfl
        · right; rw [h1]; simp
    · exact h.elim
  · rename_i k sz lo n
    split at h
    · rename_i e sz' xs hk
      have hbif := bif_f h; clear h; obtain ⟨hq, h⟩ := hbif
      obtain rfl := beq_t hq
      refine ⟨k, e, sz', xs, lo, n, hk, h, _, _, by rw [ga, Rho.part], fun hn => ?_⟩
      rcases row_arr (hr.mem.ok _ _ hk).2.1 with ⟨_, rfl⟩ | ⟨cap, cur, h1, _, h3, _⟩
      · simp only [List.length_nil] at hn; left; omega
      · by_cases hc : cap = lo
        · left; omega
        · right; rw [h1, cutA, if_neg hc, Option.map_some, Addr.at_, Nat.zero_add]
    · exact h.elim
  · exact h.elim

theorem news_len {v : Value} {sz : Nat} {ys : List (List Value)} (h : News w v sz ys) (w' : World) : (Builtin.lenOf v).run P w' = .ok ys.length w' := by
  rcases h.2 with ⟨rfl, rfl⟩ | ⟨ad, c, rfl, _⟩ <;> rfl

theorem news_first {v : Value} {sz : Nat} {ys : List (List Value)} (h : News w v sz ys) (m : Nat) (hm : m ≤ ys.length) : (Builtin.firstCells sz m v).run P w = .ok ((ys.take m).flatten.toArray) w := by
  rcases h.2 with ⟨rfl, rfl⟩ | ⟨ad, c, rfl, hc⟩
  · simp [Builtin.firstCells]
  · have hsz : ∀ y ∈ ys, y.length = sz := fun y hy => (h.1 y hy).1
    have hl : ((ys.take m).flatten).length = m * sz := by rw [flat_len fun y hy => hsz y (List.mem_of_mem_take hy), List.length_take, Nat.min_eq_left hm]
    have := run_loadCells_list (P := P) w ad (ys.take m).flatten (fun j u hj => hc j u (by
      rw [take_flat m hsz, List.getElem?_take] at hj
      split at hj
      · exact hj
      · cases hj))
    rw [hl] at this
    simp only [Builtin.firstCells, this]

theorem ok_copy {fb : Prop} (ht : TOK C) {c : Call} {T : TypeId} {K : KK} (hc : c.callee = .builtin .copy) (hfb : fb → RawOp C s (.call c) T H K) (h : match c.args.toList with
        | [x, y] => match c.argTypes.toList with
          | [t, _] => match telem C t with
            | none => fb
            | some e => match tsize C e with
              | none => fb
              | some sz => match get s x with
                | none => fb
                | some x' => match get s y with
                  | none => fb
                  | some y' => bif Nat.ble 1 sz then (rowOf s H y' sz fun ys => viewK s x' fun k e' sz' xs lo n => bif Nat.beq sz' sz then
                      (lo + n ≤ xs.length ∧ K (.v (.int .i64 ((ys.take n).length : Nat))) (s.box k (.row e' sz' (xs.take lo ++ ys.take n ++ xs.drop (lo + (ys.take n).length)))) H) else False) else fb
          | _ => fb
        | _ => fb) : RawOp C s (.call c) T H K := by
  split at h
  · rename_i x y hx
    have ha : c.args = #[x, y] := by apply Array.ext'; simpa using hx
    split at h
    · rename_i t t' hT'
      have hat : c.argTypes = #[t, t'] := by apply Array.ext'; simpa using hT'
      split at h
      · exact hfb h
      · rename_i e he
        split at h
        · exact hfb h
        · rename_i sz hsz
          split at h
          · exact hfb h
          · rename_i x' hx'
            split at h
            · exact hfb h
            · rename_i y' hy'
              cases hz : Nat.ble 1 sz with
              | false => rw [hz] at h; exact hfb h
              | true =>
                rw [hz, cond_true] at h
                have hsz1 := ble_t hz
                refine raw_val fun B ρ o a w ho _ hr => ?_
                obtain ⟨ys, h1, hn⟩ := rowOf_news hr hsz1 h
                clear h
                obtain ⟨e1, l1⟩ := eval_get hr hx'
                obtain ⟨e2, l2⟩ := eval_get hr hy'
                obtain ⟨k, e', sz', xs, lo, n, hk, h2, base, cp, hv, hbase⟩ := viewK_ok hr h1
                have hbif := bif_f h2; clear h1 h2; obtain ⟨hq, hfit, h⟩ := hbif
                obtain rfl := beq_t hq
                have hm : (ys.take n).length = min ys.length n := by rw [List.length_take, Nat.min_comm]
                obtain ⟨w', hw, hr'⟩ := store_view (P := C.P) hr hk (lo := lo) (ys := ys.take n) (base := base) (fun y hy => hn.1 y (List.mem_of_mem_take hy)) (by omega) (by
                  rcases hbase hfit with h0 | h0
                  · left; subst h0; simp
                  · exact .inr h0)
                refine ⟨_, _, H, ρ, w', ?_, h, hr', Le.refl H, by rw [SV.lt]⟩
                rw [exec_builtin ho hc, ha, hat]
                have hmin : Nat.min ys.length n = (ys.take n).length := hm.symm
                have hf := news_first (P := C.P) hn (ys.take n).length (by omega)
                have e3 : ys.take (ys.take n).length = ys.take n := by rw [List.length_take]; exact List.take_eq_take_iff.2 (by omega)
                rw [e3] at hf
                simp only [builtin, List.map_toArray, List.map_cons, List.map_nil, e1, e2, hv]
                have hu := telem_ok ht he
                have hlen := news_len (P := C.P) hn w
                have hts := tsize_ok ht hsz w
                obtain ⟨m, hmm⟩ : ∃ m, m = (ys.take n).length := ⟨_, rfl⟩
                rw [← hmm] at hf hmin ⊢
                cases base with
                | none =>
                  simp at hw
                  subst hw
                  simp [Builtin.copy_, run_underlying hu, hlen, hts, hf, hmin, ga, goInt]
                | some ad =>
                  simp at hw
                  simp [Builtin.copy_, run_underlying hu, hlen, hts, hf, hmin, hw, ga, goInt]
    · exact hfb h
  · exact hfb h

theorem zeroRow_ok (ht : TOK C) {e : TypeId} {z : Nat × List Value} (h : zeroRow C e = some z) : ∃ i v, C.P.info? e = some i ∧ i.zero = some v ∧ v.cells.toList = z.2 ∧ i.size = z.2.length ∧ 1 ≤ i.size ∧ i.bytes = z.1 ∧ ∀ u ∈ z.2, u.oneCell' = true := by
  unfold zeroRow at h
  split at h
  · cases h
  · rename_i i hi
    split at h
    · cases h
    · rename_i cs hcs
      split at h
      · cases h
      · rename_i zl hzl
        cases hq : (Nat.ble 1 i.1.size && Nat.beq zl.length i.1.size) with
        | false => rw [hq] at h; cases h
        | true =>
          rw [hq] at h
          cases h
          simp only [Bool.and_eq_true] at hq
          have hv := vals_gas (ρ := ⟨fun _ => 0, fun _ => (none, 0, 0)⟩) hzl
          unfold zeroCells at hcs
          rw [hi] at hcs
          simp only at hcs
          split at hcs
          · rename_i v hzv
            cases hcs
            refine ⟨i.1, v, tt_zero ht hi, hzv, ?_, (beq_t hq.2).symm, ble_t hq.1, rfl, hv.2⟩
            have := cells_ga (ρ := ⟨fun _ => 0, fun _ => (none, 0, 0)⟩) (.v v)
            rw [ga] at this
            rw [this, hv.1]
          · cases hcs

theorem rep_flat (z : List Value) : ∀ n, (List.replicate n z).flatten = (madeCells z.toArray (n * z.length)).toList := by
  intro n
  apply List.ext_getElem?
  intro j
  by_cases hj : j < n * z.length
  · have hz : 0 < z.length := by
      rcases Nat.eq_zero_or_pos z.length with h | h
      · rw [h] at hj; omega
      · exact h
    have h1 : j / z.length < n := Nat.div_lt_of_lt_mul (by rw [Nat.mul_comm]; exact hj)
    have h2 := flat_get (sz := z.length) (xs := List.replicate n z) (i := j / z.length) (cs := z) (fun x hx => by rw [(List.mem_replicate.1 hx).2]) (by rw [List.getElem?_replicate, if_pos h1]) (j % z.length) (Nat.mod_lt _ hz)
    rw [Nat.mul_comm, Nat.div_add_mod] at h2
    rw [h2]
    have hm : j % z.length < z.length := Nat.mod_lt _ hz
    simp [madeCells, hj, hm]
  · have hl : ((List.replicate n z).flatten).length = n * z.length := by simp
    rw [List.getElem?_eq_none (by omega), List.getElem?_eq_none (by simp [madeCells]; omega)]

theorem ok_make {fb : Prop} (ht : TOK C) {T' T : TypeId} {l c : Operand} {K : KK} (hfb : fb → RawOp C s (.makeSlice T' l c) T H K) (h : match telem C T' with
    | none => fb
    | some e => match zeroRow C e with
      | none => fb
      | some (zb, zl) => match getN s l with
        | none => fb
        | some n => match getN s c with
          | none => fb
          | some m => (m = n ∧ 0 ≤ n ∧ n * zb ≤ 140737488355328 ∧ n ≤ 9223372036854775807) ∧ K (.own s.nx) (s.new (.row e zl.length (List.replicate n.toNat zl))) H) : RawOp C s (.makeSlice T' l c) T H K := by
  split at h
  · exact hfb h
  · rename_i e he
    split at h
    · exact hfb h
    · rename_i zb zl hz
      split at h
      · exact hfb h
      · rename_i n hn
        split at h
        · exact hfb h
        · rename_i m hm
          obtain ⟨⟨rfl, h0, hby, hmax⟩, h⟩ := h
          refine raw_val fun B ρ o a w ho _ hr => ?_
          obtain ⟨i, v, i1, i2, i3, i4, i5, i6, i7⟩ := zeroRow_ok ht hz
          simp only at i3 i4 i6 i7
          obtain ⟨kl, hkl⟩ := getN_ok hr hn
          obtain ⟨kc, hkc⟩ := getN_ok hr hm
          have hrun := run_make (P := C.P) w T' e i v (telem_ok ht he) i1 i2 kl kc m m h0 (by omega) (by rw [i6, Int.mul_comm]; omega) (by omega)
          have hvc : v.cells = zl.toArray := by rw [← i3]
          rw [hvc, i4] at hrun
          have hfl := rep_flat zl m.toNat
          obtain ⟨ρ', hr', hg⟩ := hr.rowed (e := e) (sz := zl.length) (xs := List.replicate m.toNat zl) (w' := w.alloc (.cells (madeCells zl.toArray (m.toNat * zl.length)) e)) (v := (some ⟨w.heap.size, 0, none⟩, m.toNat, m.toNat)) rfl rfl ⟨rfl, Nat.le_refl _⟩ (by simp) (fun g hg => heap_alloc_old w _ g hg)
            (by
              rw [List.length_replicate, hfl]
              refine ⟨by simp [madeCells], .inr ⟨w.heap.size, m.toNat, _, rfl, Nat.zero_le _, heap_alloc_new w _, Nat.le_refl _, ?_, by simp [madeCells], by rw [List.take_of_length_le (by simp [madeCells])]⟩⟩
              simp only [maxLen]
              omega)
            (fun x hx => by rw [(List.mem_replicate.1 hx).2]; exact ⟨rfl, i7⟩)
            (fun g hg => by simp only [Value.ownBlock, Option.some.injEq] at hg; omega)
          refine ⟨_, _, H, ρ', _, ?_, h, hr', Le.refl H, by rw [SV.lt]; exact Nat.ble_eq_true_of_le (Nat.le_refl _)⟩
          simp only [execOp, ho, hkl, hkc, Sem.run_bind, hrun, hg]
          rfl

theorem ok_clear {fb : Prop} (ht : TOK C) {c : Call} {T : TypeId} {K : KK} (hc : c.callee = .builtin .clear) (hfb : fb → RawOp C s (.call c) T H K) (h : match c.args.toList with
        | [x] => match c.argTypes.toList with
          | [t] => match telem C t with
            | none => fb
            | some e => match zeroRow C e with
              | none => fb
              | some (_, zl) => match get s x with
                | none => fb
                | some x' => viewK s x' fun k e' sz' xs lo n => bif Nat.beq sz' zl.length then
                    (lo + n ≤ xs.length ∧ K (.v (.tuple #[])) (s.box k (.row e' sz' (xs.take lo ++ List.replicate n zl ++ xs.drop (lo + n)))) H) else False
          | _ => fb
        | _ => fb) : RawOp C s (.call c) T H K := by
  split at h
  · rename_i x hx
    have ha : c.args = #[x] := by apply Array.ext'; simpa using hx
    split at h
    · rename_i t hT'
      have hat : c.argTypes = #[t] := by apply Array.ext'; simpa using hT'
      split at h
      · exact hfb h
      · rename_i e he
        split at h
        · exact hfb h
        · rename_i zb zl hz
          split at h
          · exact hfb h
          · rename_i x' hx'
            refine raw_val fun B ρ o a w ho _ hr => ?_
            obtain ⟨e1, l1⟩ := eval_get hr hx'
            obtain ⟨k, e', sz', xs, lo, n, hk, h2, base, cp, hv, hbase⟩ := viewK_ok hr h
            have hbif := bif_f h2; clear h h2; obtain ⟨hq, hfit, h⟩ := hbif
            have hq := beq_t hq
            subst hq
            obtain ⟨i, v, i1, i2, i3, i4, i5, i6, i7⟩ := zeroRow_ok ht hz
            simp only at i3 i4 i6 i7
            have hvc : v.cells = zl.toArray := by rw [← i3]
            obtain ⟨w', hw, hr'⟩ := store_view (P := C.P) hr hk (lo := lo) (ys := List.replicate n zl) (base := base) (fun y hy => by rw [(List.mem_replicate.1 hy).2]; exact ⟨rfl, i7⟩) (by simpa using hfit) (by
              rcases hbase hfit with h0 | h0
              · left; subst h0; rfl
              · exact .inr h0)
            rw [List.length_replicate] at hr'
            refine ⟨_, _, H, ρ, w', ?_, h, hr', Le.refl H, by rw [SV.lt]⟩
            rw [exec_builtin ho hc, ha, hat]
            simp only [builtin, List.map_toArray, List.map_cons, List.map_nil, e1, hv]
            have hu := telem_ok ht he
            rw [rep_flat] at hw
            have hzc : Builtin.zeroCells v.cells n = madeCells zl.toArray (n * zl.length) := by rw [hvc]; rfl
            cases base with
            | none =>
              simp at hw
              subst hw
              simp [Builtin.clear_, run_underlying hu, ga]
            | some ad =>
              simp only at hw
              by_cases hn0 : n = 0
              · subst hn0
                have : w' = w := by
                  have h9 : (madeCells zl.toArray (0 * zl.length)).toList = [] := by simp [madeCells]
                  rw [h9] at hw
                  simp [storeCells] at hw
                  exact hw.symm
                subst this
                simp [Builtin.clear_, run_underlying hu, ga]
              · obtain ⟨m, rfl⟩ : ∃ m, n = m + 1 := ⟨n - 1, by omega⟩
                simp [Builtin.clear_, run_underlying hu, zeroValue, typeInfo, i1, i2, hzc, hw, ga]
    · exact hfb h
  · exact hfb h

theorem ok_cap {fb : Prop} (ht : TOK C) {c : Call} {T : TypeId} {K : KK} (hc : c.callee = .builtin .cap) (hfb : fb → RawOp C s (.call c) T H K) (h : match c.args.toList with
        | [x] => match c.argTypes.toList with
          | [t] => match telem C t with
            | none => fb
            | some _ => match get s x with
              | some (.own k) => match lk s.bx k with
                | some (.row _ _ xs) => ∀ m : Nat, xs.length ≤ m → m ≤ 9223372036854775807 → K (.v (.int .i64 m)) s H
                | _ => False
              | some (.v (.slice _ _ m)) => K (.v (.int .i64 m)) s H
              | _ => fb
          | _ => fb
        | _ => fb) : RawOp C s (.call c) T H K := by
  split at h
  · rename_i x hx
    have ha : c.args = #[x] := by apply Array.ext'; simpa using hx
    split at h
    · rename_i t hT'
      have hat : c.argTypes = #[t] := by apply Array.ext'; simpa using hT'
      split at h
      · exact hfb h
      · rename_i e he
        have hu := telem_ok ht he
        split at h
        · rename_i k hg
          split at h
          · rename_i e' sz xs hk
            refine raw_pure fun B ρ o a w ho _ hr => ?_
            have h1 := (eval_get hr hg).1
            rw [ga, Rho.val] at h1
            have hbx := (hr.mem.ok _ _ hk).2.1
            have hmx : (ρ.sl k).2.2 ≤ 9223372036854775807 := by
              rcases row_arr hbx with ⟨h2, rfl⟩ | ⟨cap, cur, h2, h3, h4, hmx, _⟩
              · rw [h2]; exact Nat.zero_le _
              · rw [h2]; simpa [maxLen] using hmx
            refine ⟨_, ?_, h (ρ.sl k).2.2 (row_len hbx).2 hmx, by rw [SV.lt]⟩
            rw [exec_builtin ho hc, ha, hat]
            simp [builtin, Builtin.cap_, h1, run_underlying hu, ga, goInt]
          · exact h.elim
        · rename_i ad n m hg
          refine raw_pure fun B ρ o a w ho _ hr => ⟨_, ?_, h, by rw [SV.lt]⟩
          have h1 := (eval_get hr hg).1
          rw [ga] at h1
          rw [exec_builtin ho hc, ha, hat]
          simp [builtin, Builtin.cap_, h1, run_underlying hu, ga, goInt]
        · exact hfb h
    · exact hfb h
  · exact hfb h

theorem byte_rows_flat : ∀ (b : List UInt8), (byteRows b).flatten = b.map fun c => Value.int .u8 c.toNat
  | [] => rfl
  | c :: r => by
    have := byte_rows_flat r
    simp only [byteRows, List.map_cons, List.flatten_cons] at this ⊢
    rw [this]; rfl
theorem byte_rows_len (b : List UInt8) : (byteRows b).length = b.length := by simp [byteRows]
theorem byte_rows_one (b : List UInt8) : ∀ x ∈ byteRows b, x.length = 1 ∧ ∀ u ∈ x, u.oneCell' = true := by
  intro x hx
  simp only [byteRows, List.mem_map] at hx
  obtain ⟨c, _, rfl⟩ := hx
  refine ⟨rfl, fun u hu => ?_⟩
  simp only [List.mem_singleton] at hu
  subst hu
  rfl
theorem strCells_sl (s : ByteArray) : Lib.strCells s = (byteRows (sl s)).flatten := by rw [byte_rows_flat]; rfl

/-- In a piece with room. -/
theorem append_view (ht : TOK C) (hr : Rel C B ρ s H a w) {t ty e : TypeId} (he : telem C t = some e) {sz : Nat} (hsz : tsize C e = some sz) {k : Nat} {e' : TypeId} {xs : List (List Value)} (hk : lk s.bx k = some (.row e' sz xs)) {lo n : Nat}
    {y : Value} {ys : List (List Value)} (hn : News w y sz ys) (hfit : lo + n + ys.length ≤ xs.length) :
    ∃ w', (Builtin.append_ #[t, t] ty #[ρ.part k sz lo n, y]).run C.P w = .ok (ρ.part k sz lo (n + ys.length)) w' ∧ Rel C B ρ (s.box k (.row e' sz (xs.take (lo + n) ++ ys ++ xs.drop (lo + n + ys.length)))) H a w' := by
  have hbx := (hr.mem.ok _ _ hk).2.1
  obtain ⟨hl1, hl2⟩ := row_len hbx
  have hu := telem_ok ht he
  have hts := tsize_ok ht hsz w
  have hlen := news_len (P := C.P) hn w
  have hf := news_first (P := C.P) hn ys.length (Nat.le_refl _)
  rw [List.take_of_length_le (Nat.le_refl _)] at hf
  have hroom : n + ys.length ≤ (ρ.sl k).2.2 - lo := by omega
  obtain ⟨base, hb⟩ : ∃ base, base = cutA (ρ.sl k).1 lo (ρ.sl k).2.2 sz := ⟨_, rfl⟩
  have hbase : ys = [] ∨ base.map (·.add (n * sz)) = some ⟨ρ.b k, (lo + n) * sz, none⟩ := by
    rcases row_arr hbx with ⟨_, rfl⟩ | ⟨cap, cur, h1, h2, h3, hmx, h4, h5⟩
    · left
      simp only [List.length_nil] at hfit
      exact List.eq_nil_of_length_eq_zero (by omega)
    · by_cases hys : ys = []
      · exact .inl hys
      · right
        have : 0 < ys.length := List.length_pos_iff.2 hys
        rw [h1] at hroom
        simp only at hroom
        rw [hb, h1, cutA, if_neg (by simp only; omega), Option.map_some, Option.map_some, Addr.add_add, Addr.at_, Nat.add_mul, Nat.zero_add]
  obtain ⟨w', hw, hr'⟩ := store_view (P := C.P) hr hk (lo := lo + n) (ys := ys) (base := base.map (·.add (n * sz))) hn.1 hfit hbase
  refine ⟨w', ?_, hr'⟩
  have hz : ∀ w : World, ((match (#[t, t] : Array TypeId)[1]? with
    | some xType => do pure ((← underlying xType) matches .int _)
    | none => pure false : Sem Bool)).run C.P w = .ok false w := fun w => by
    simp [run_underlying hu]
  cases base with
  | none =>
    simp at hw
    subst hw
    simp [Builtin.append_, run_underlying hu, Rho.part, ← hb, hts, hlen, hf, hroom]
  | some ad =>
    simp at hw
    simp [Builtin.append_, run_underlying hu, Rho.part, ← hb, hts, hlen, hf, hroom, hw]

theorem run_append_none_str {P : Program} (w : World) (t t' ty e : TypeId) (i : TypeInfo) (ht : P.underlying t = some (.slice e)) (hu : P.underlying t' = some .string) (hi : P.info? e = some i) (b : ByteArray) (hb : b.size = 0) :
    (Builtin.append_ #[t, t'] ty #[.slice none 0 0, .string b]).run P w = .ok (.slice none 0 0) w := by
  have hf := Lib.run_firstCells_string (P := P) w i.size b
  rw [hb] at hf
  simp [Builtin.append_, run_underlying ht, run_underlying hu, sizeOf, typeInfo, hi, Builtin.lenOf, hb, hf]
theorem append_str {t t' ty e : TypeId} {i : TypeInfo} (hu : C.P.underlying t = some (.slice e)) (hu2 : C.P.underlying t' = some .string) (hi : C.P.info? e = some i) (hz : i.zero = some (.int .u8 0)) (hs1 : i.size = 1) (hb1 : i.bytes = 1)
    {v : Value} {xs : List (List Value)} (hown : w.ownsRow 0 e 1 v xs.length xs.flatten) (b : ByteArray) (hlen : xs.length + (sl b).length ≤ 140737488355328) :
    ∃ v' w', (Builtin.append_ #[t, t'] ty #[v, .string b]).run C.P w = .ok v' w' ∧ w'.ownsRow 0 e 1 v' (xs ++ byteRows (sl b)).length (xs ++ byteRows (sl b)).flatten ∧ w.grownBy w' v.ownBlock ∧ (∀ g, v'.ownBlock = some g → v.ownBlock = some g ∨ w.heap.size ≤ g) ∧ w.drawn ≤ w'.drawn ∧ ∃ a l c, v' = .slice a l c := by
  have hbs : b.size = (sl b).length := rfl
  have hfl : (xs ++ byteRows (sl b)).flatten = xs.flatten ++ Lib.strCells b := by rw [List.flatten_append, strCells_sl]
  have hll : (xs ++ byteRows (sl b)).length = xs.length + b.size := by rw [List.length_append, byte_rows_len]; rfl
  rw [hfl, hll]
  have hm : xs.length + b.size ≤ maxLen := by simp only [maxLen]; omega
  rcases hown.2 with ⟨rfl, h0⟩ | ⟨g, cap, cur, rfl, hb0, hg, hnc, hcm, hcs, htk⟩
  · have hx : xs = [] := List.eq_nil_of_length_eq_zero h0
    subst hx
    obtain ⟨v', w', hr, ho, hg, _⟩ := Lib.run_append_own_string (P := C.P) w w.heap.size t t' ty e i hu hu2 hi hz hs1 hb1 (.slice none 0 0) 0 [] (World.ownsRow_nil _ _ _ _) b (by simpa using hm) (by simp only [List.length_nil] at hlen; omega) (Nat.le_refl _)
    refine ⟨v', w', hr, ?_, hg, fun g hg' => .inr (ho.lt g hg').1, ?_, ?_⟩
    · refine ⟨by simpa using ho.1, ?_⟩
      rcases ho.2 with h | ⟨g, cap, cur, a1, a2, a3, a4, a5, a6, a7⟩
      · exact .inl (by simpa using h)
      · exact .inr ⟨g, cap, cur, by simpa using a1, Nat.zero_le _, a3, by simpa using a4, a5, a6, by simpa using a7⟩
    · by_cases hy0 : b.size = 0
      · have h2 := run_append_none_str (P := C.P) w t t' ty e i hu hu2 hi b hy0
        rw [h2] at hr
        simp only [Result.ok.injEq] at hr
        rw [← hr.2]
        exact Nat.le_refl _
      · have h2 := run_append_nil_string (P := C.P) w t t' ty e i (.int .u8 0) hu hu2 hi hz b (by omega) (by omega) (by rw [hb1]; simp only [List.length_nil] at hlen; omega)
        rw [hr] at h2
        simp only [Result.ok.injEq] at h2
        rw [h2.2]
        exact Nat.le_succ _
    · rcases ho.2 with ⟨h1, _⟩ | ⟨g, cap, cur, h1, _⟩ <;> exact ⟨_, _, _, h1⟩
  · obtain ⟨v', w', hr, ho, hgr, _⟩ := Lib.run_append_own_string (P := C.P) w 0 t t' ty e i hu hu2 hi hz hs1 hb1 _ xs.length xs.flatten hown b hm (by omega) (Nat.zero_le _)
    have hdr : w.drawn ≤ w'.drawn := by
      by_cases hroom : xs.length + b.size ≤ cap
      · have h2 := Lib.run_append_room_string (P := C.P) w t t' ty e i hu hu2 hi hs1 g xs.length cap cur hg b hroom (by rw [hcs]; omega)
        rw [hr] at h2
        simp only [Result.ok.injEq] at h2
        rw [h2.2]
        exact Nat.le_refl _
      · have h2 := Lib.run_append_grow_string (P := C.P) w t t' ty e i (.int .u8 0) hu hu2 hi hz ⟨g, 0, none⟩ xs.length cap xs.flatten (by rw [hs1]; exact hown.1) (hown.cells (g := g) rfl) b (by omega) (by omega) (by rw [hb1]; exact growslice_fits (by omega) (by omega))
        rw [hr] at h2
        simp only [Result.ok.injEq] at h2
        rw [h2.2]
        exact Nat.le_succ _
    refine ⟨v', w', hr, ho, hgr, fun g' hg' => ?_, hdr, ?_⟩
    · by_cases hroom : xs.length + b.size ≤ cap
      · have h2 := Lib.run_append_room_string (P := C.P) w t t' ty e i hu hu2 hi hs1 g xs.length cap cur hg b hroom (by rw [hcs]; omega)
        rw [hr] at h2
        simp only [Result.ok.injEq] at h2
        rw [h2.1] at hg'
        exact .inl hg'
      · have h2 := Lib.run_append_grow_string (P := C.P) w t t' ty e i (.int .u8 0) hu hu2 hi hz ⟨g, 0, none⟩ xs.length cap xs.flatten (by rw [hs1]; exact hown.1) (hown.cells (g := g) rfl) b (by omega) (by omega) (by rw [hb1]; exact growslice_fits (by omega) (by omega))
        rw [hr] at h2
        simp only [Result.ok.injEq] at h2
        rw [h2.1] at hg'
        simp only [Value.ownBlock, Option.some.injEq] at hg'
        exact .inr (by omega)
    · rcases ho.2 with ⟨h1, _⟩ | ⟨g, cap, cur, h1, _⟩ <;> exact ⟨_, _, _, h1⟩

theorem ok_appendX {fb : Prop} (ht : TOK C) {c : Call} {T : TypeId} {K : KK} (hc : c.callee = .builtin .append) (hfb : fb → RawOp C s (.call c) T H K) (h : match c.args.toList with
        | [x, y] => match c.argTypes.toList with
          | [t, t'] => match telem C t with
            | none => fb
            | some e => match tsize C e with
              | none => fb
              | some sz => match get s x with
                | some (.sub k sz0 lo n) => bif Nat.beq t t' && Nat.ble 1 sz then (match get s y with
                  | none => fb
                  | some y' => rowOf s H y' sz fun ys => match lk s.bx k with
                    | some (.row e' sz' xs) => bif Nat.beq sz' sz && Nat.beq sz0 sz then (lo + n + ys.length ≤ xs.length ∧ K (.sub k sz lo (n + ys.length)) (s.box k (.row e' sz' (xs.take (lo + n) ++ ys ++ xs.drop (lo + n + ys.length)))) H) else False
                    | _ => False) else fb
                | some (.own k) => match C.tt t' with
                  | some (_, .string) => match get s y with
                    | some (.v (.string b)) => match C.tt e with
                      | some (i, .int .u8) => match lk s.bx k with
                        | some (.row e' sz' xs) => bif Nat.beq e' e && Nat.beq sz' 1 && Nat.beq i.size 1 && Nat.beq i.bytes 1 then (i.zero = some (.int .u8 0) ∧ xs.length + (sl b).length ≤ 140737488355328 ∧
                            K (.own s.nx) ((s.box k .dead).new (.row e 1 (xs ++ byteRows (sl b)))) H) else False
                        | _ => False
                      | _ => fb
                    | _ => fb
                  | _ => fb
                | some (.v (.slice none 0 0)) => match C.tt t' with
                  | some (_, .string) => match get s y with
                    | some (.v (.string b)) => match C.tt e with
                      | some (i, .int .u8) => bif Nat.beq i.size 1 && Nat.beq i.bytes 1 then (i.zero = some (.int .u8 0) ∧ (sl b).length ≤ 140737488355328 ∧ K (.own s.nx) (s.new (.row e 1 (byteRows (sl b)))) H) else False
                      | _ => fb
                    | _ => fb
                  | _ => fb
                | _ => fb
          | _ => fb
        | _ => fb) : RawOp C s (.call c) T H K := by
  split at h
  · rename_i x y hx
    have ha : c.args = #[x, y] := by apply Array.ext'; simpa using hx
    split at h
    · rename_i t t' hT'
      have hat : c.argTypes = #[t, t'] := by apply Array.ext'; simpa using hT'
      split at h
      · exact hfb h
      · rename_i e he
        have hu := telem_ok ht he
        split at h
        · exact hfb h
        · rename_i sz hsz
          split at h
          · rename_i k sz0 lo n hx'
            cases htt : (Nat.beq t t' && Nat.ble 1 sz) with
            | false => rw [htt] at h; exact hfb h
            | true =>
              rw [htt, cond_true] at h
              simp only [Bool.and_eq_true] at htt
              obtain rfl := beq_t htt.1
              have hsz1 := ble_t htt.2
              split at h
              · exact hfb h
              · rename_i y' hy'
                refine raw_val fun B ρ o a w ho _ hr => ?_
                obtain ⟨ys, h1, hn⟩ := rowOf_news hr hsz1 h
                clear h
                split at h1
                · rename_i e' sz' xs hk
                  have hbif := bif_f h1; clear h1; obtain ⟨hq, hfit, h⟩ := hbif
                  simp only [Bool.and_eq_true] at hq
                  obtain rfl := beq_t hq.1
                  obtain rfl := beq_t hq.2
                  obtain ⟨e1, l1⟩ := eval_get hr hx'
                  obtain ⟨e2, l2⟩ := eval_get hr hy'
                  obtain ⟨w', hw, hr'⟩ := append_view (ty := o.type) ht hr he hsz hk hn hfit
                  refine ⟨_, _, H, ρ, w', ?_, h, hr', Le.refl H, by simp only [SV.lt] at l1 ⊢; exact l1⟩
                  rw [exec_builtin ho hc, ha, hat]
                  rw [ga] at e1
                  simp only [builtin, List.map_toArray, List.map_cons, List.map_nil, e1, e2, Sem.run_bind, hw, ga]
                  rfl
                · exact h1.elim
          · rename_i k hx'
            split at h
            · rename_i i0 hT2
              have hu2 := (ht _ _ _ hT2).2
              split at h
              · rename_i b hb
                split at h
                · rename_i i hi
                  split at h
                  · rename_i e' sz' xs hk
                    have hbif := bif_f h; clear h; obtain ⟨hq, hz, hlen, h⟩ := hbif
                    simp only [Bool.and_eq_true] at hq
                    obtain ⟨⟨⟨hq1, hq2⟩, hq3⟩, hq4⟩ := hq
                    obtain rfl := beq_t hq1
                    obtain rfl := beq_t hq2
                    refine raw_val fun B ρ o a w ho _ hr => ?_
                    obtain ⟨e1, l1⟩ := eval_get hr hx'
                    obtain ⟨e2, l2⟩ := eval_get hr hb
                    have hbx := (hr.mem.ok _ _ hk).2.1
                    obtain ⟨v', w', r1, r2, r3, r4, r5, a', l', c', rfl⟩ := append_str (ty := o.type) hu hu2 (ht _ _ _ hi).1 hz (beq_t hq3) (beq_t hq4) hbx.1 b hlen
                    obtain ⟨ρ', hr', hg⟩ := hr.moved (v := (a', l', c')) hk r3.os r3.tape ⟨r3.output, r5⟩ r3.size (fun g hg hno => r3.block g hg (fun e => hno e.symm)) r2 (fun x hx => by
                        rcases List.mem_append.1 hx with hx | hx
                        · exact hbx.2.1 x hx
                        · exact byte_rows_one _ x hx) (fun g hg => r4 g hg)
                    refine ⟨_, _, H, ρ', w', ?_, h, hr', Le.refl H, by rw [SV.lt]; exact Nat.ble_eq_true_of_le (Nat.le_refl _)⟩
                    rw [exec_builtin ho hc, ha, hat]
                    simp only [ga] at e1 e2
                    simp only [builtin, List.map_toArray, List.map_cons, List.map_nil, e1, e2, Sem.run_bind, r1, hg]
                    rfl
                  · exact h.elim
                · exact hfb h
              · exact hfb h
            · exact hfb h
          · rename_i hx'
            split at h
            · rename_i i0 hT2
              have hu2 := (ht _ _ _ hT2).2
              split at h
              · rename_i b hb
                split at h
                · rename_i i hi
                  have hbif := bif_f h; clear h; obtain ⟨hq, hz, hlen, h⟩ := hbif
                  simp only [Bool.and_eq_true] at hq
                  refine raw_val fun B ρ o a w ho _ hr => ?_
                  obtain ⟨e1, l1⟩ := eval_get hr hx'
                  obtain ⟨e2, l2⟩ := eval_get hr hb
                  obtain ⟨v', w', r1, r2, r3, r4, r5, a', l', c', rfl⟩ := append_str (xs := []) (v := .slice none 0 0) (ty := o.type) hu hu2 (ht _ _ _ hi).1 hz (beq_t hq.1) (beq_t hq.2) (World.ownsRow_nil w 0 e 1) b (by simpa using hlen)
                  obtain ⟨ρ', hr', hg⟩ := hr.rowed (v := (a', l', c')) r3.os r3.tape ⟨r3.output, r5⟩ r3.size (fun g hg => r3.block g hg (by simp [Value.ownBlock])) (by simpa using r2) (fun x hx => byte_rows_one _ x hx) (fun g hg => by
                    rcases r4 g hg with h | h
                    · simp [Value.ownBlock] at h
                    · exact h)
                  refine ⟨_, _, H, ρ', w', ?_, h, hr', Le.refl H, by rw [SV.lt]; exact Nat.ble_eq_true_of_le (Nat.le_refl _)⟩
                  rw [exec_builtin ho hc, ha, hat]
                  simp only [ga] at e1 e2
                  simp only [builtin, List.map_toArray, List.map_cons, List.map_nil, e1, e2, Sem.run_bind, r1, hg]
                  rfl
                · exact hfb h
              · exact hfb h
            · exact hfb h
          · exact hfb h
    · exact hfb h
  · exact hfb h

theorem ok_convert (ht : TOK C) {fb : Prop} {src dst T : TypeId} {x : Operand} {K : KK} (h : match C.tt src with
    | some _ => match C.tt dst with
      | some (_, .int k) => match get s x with
        | some (.v (.int _ n)) => arith C k n fun r => K r s H
        | _ => fb
      | some (_, .string) => match get s x with
        | some (.v (.string t)) => K (.v (.string t)) s H
        | some y => match telem C src with
          | none => fb
          | some e => match C.tt e with
            | some (_, .int .u8) => rowOf s H y 1 fun xs => ∃ b, xs = byteRows b ∧ K (.v (.string (bs b))) s H
            | _ => fb
        | none => fb
      | _ => fb
    | none => fb) : RawP C s (.convert src dst x) T H K ∨ fb := by
  split at h
  · rename_i di hsrc
    have hu := (ht src di.1 di.2 hsrc).2
    split at h
    · rename_i i k hdst
      have hd := (ht _ _ _ hdst).2
      split at h
      · rename_i k' n hx
        refine .inl fun B ρ o a w ho _ hr => ⟨_, ?_, arith_ok h, by rw [SV.lt]⟩
        have h1 := (eval_get hr hx).1
        rw [ga] at h1
        simp only [execOp, ho, h1, convert, Sem.run_bind, run_underlying hu, run_underlying hd, Result.andThen_ok, Conv.intToInt, ga]
        rfl
      · exact .inr h
    · rename_i i hdst
      have hd := (ht _ _ _ hdst).2
      split at h
      · rename_i t hx
        refine .inl fun B ρ o a w ho _ hr => ⟨_, ?_, h, by rw [SV.lt]⟩
        have h1 := (eval_get hr hx).1
        rw [ga] at h1
        simp only [execOp, ho, h1, convert, Sem.run_bind, run_underlying hu, run_underlying hd, Result.andThen_ok, ga]
        rfl
      · rename_i y _ hx
        split at h
        · exact .inr h
        · rename_i e he
          split at h
          · rename_i i1 hi
            refine .inl fun B ρ o a w ho _ hr => ?_
            obtain ⟨xs, ⟨b, rfl, h⟩, hn⟩ := rowOf_news hr (by omega) h
            refine ⟨_, ?_, h, by rw [SV.lt]⟩
            have h1 := (eval_get hr hx).1
            have hu2 := telem_ok ht he
            have hu3 := (ht _ _ _ hi).2
            simp only [execOp, ho, h1, Sem.run_bind, ga]
            rcases hn.2 with ⟨h2, h3⟩ | ⟨ad, c, h2, h3⟩
            · rw [h2, run_convert_bytes_nil w src e hu2 hu3 0 0 dst hd]
              have : b = [] := by cases b with
                | nil => rfl
                | cons x r => simp [byteRows] at h3
              subst this
              rfl
            · rw [h2, byte_rows_len, run_convert_bytes_back w src dst e ad c b hu2 hu3 hd (fun j hj => h3 j _ (by rw [byte_rows_flat]; simp [hj]))]
              rfl
          · exact .inr h
      · exact .inr h
    · exact .inr h
  · exact .inr h


theorem ok_data {fb : Prop} {c : Call} {T : TypeId} {K : KK} (hc : c.callee = .builtin .unsafeSliceData) (hfb : fb → RawOp C s (.call c) T H K) (h : match c.args.toList with
        | [x] => match C.P.underlying T with
          | some (.pointer _) => match get s x with
            | some (.own k) => match lk s.bx k with
              | some (.row _ sz xs) => (xs ≠ [] → K (.rel k sz 0 0) s H) ∧ (xs = [] → ∀ p, K (.v (.pointer p)) s H)
              | _ => False
            | some (.v (.slice none 0 0)) => K (.v (.pointer none)) s H
            | _ => fb
          | _ => fb
        | _ => fb) : RawOp C s (.call c) T H K := by
  split at h
  · rename_i x hx
    have ha : c.args = #[x] := by apply Array.ext'; simpa using hx
    split at h
    · rename_i e0 hT
      split at h
      · rename_i k hg
        split at h
        · rename_i e' sz xs hk
          refine raw_val fun B ρ o a w ho hoT hr => ?_
          obtain ⟨h1, l1⟩ := eval_get hr hg
          have hbx := (hr.mem.ok _ _ hk).2.1
          have hrun : ∀ w' v, (Builtin.unsafeSliceData_ c.argTypes o.type #[a.eval x]).run C.P w = .ok v w' → (execOp a.eval o).run C.P w = .ok (.value v) w' := fun w' v hv => by
            rw [exec_builtin ho hc, ha]
            simp only [builtin, List.map_toArray, List.map_cons, List.map_nil, Sem.run_bind, hv]
            rfl
          rw [ga, Rho.val] at h1
          rcases row_arr hbx with ⟨h2, rfl⟩ | ⟨cap, cur, h2, h3, h4, hmx, h5, _⟩
          · rw [h2] at h1
            refine ⟨_, s, H, ρ, w, hrun w _ ?_, h.2 rfl none, hr, Le.refl H, by rw [SV.lt]⟩
            rw [h1, Lib.run_unsafeSliceData_nil, ga]
          · rw [h2] at h1
            by_cases hcap : cap = 0
            · subst hcap
              have hxs : xs = [] := List.eq_nil_of_length_eq_zero (by omega)
              have hsh : w.shape? (ρ.b k) = some (e', cur.size) := by simp [World.shape?, h3]
              refine ⟨.v (.pointer (some ⟨w.heap.size, 0, none⟩)), s, H, ρ, w.alloc (.view ⟨ρ.b k, 0, none⟩ e0), hrun _ _ ?_, h.2 hxs _, hr.with (bx := s.bx) (hr.mem.step rfl rfl ⟨rfl, Nat.le_refl _⟩ (by simp) (fun g hg => heap_alloc_old w _ g hg)), Le.refl H, by rw [SV.lt]⟩
              rw [h1, hoT, Lib.run_unsafeSliceData_zero (P := C.P) w c.argTypes T e0 hT ⟨ρ.b k, 0, none⟩ xs.length _ hsh, ga]
            · by_cases hxs : xs = []
              · refine ⟨_, s, H, ρ, w, hrun w _ ?_, h.2 hxs (some ⟨ρ.b k, 0, none⟩), hr, Le.refl H, by rw [SV.lt]⟩
                rw [h1, Lib.run_unsafeSliceData_row _ _ _ _ _ _ hcap, ga]
              · refine ⟨_, s, H, ρ, w, hrun w _ ?_, h.1 hxs, hr, Le.refl H, by simp only [SV.lt] at l1 ⊢; exact l1⟩
                rw [h1, Lib.run_unsafeSliceData_row _ _ _ _ _ _ hcap, ga]
                simp
        · exact h.elim
      · rename_i hg
        refine raw_pure fun B ρ o a w ho _ hr => ⟨_, ?_, h, by rw [SV.lt]⟩
        have h1 := (eval_get hr hg).1
        rw [ga] at h1
        rw [exec_builtin ho hc, ha]
        simp only [builtin, List.map_toArray, List.map_cons, List.map_nil, Sem.run_bind, h1, Lib.run_unsafeSliceData_nil, ga]
        rfl
      · exact hfb h
    · exact hfb h
  · exact hfb h

theorem freeze_other (w : World) (g n : Nat) (j : Nat) (h : j ≠ g) : (w.freeze ⟨g, 0, none⟩ n).heap[j]? = w.heap[j]? := by
  unfold World.freeze
  split
  · rfl
  · simp only [Array.getElem?_modify]
    rw [if_neg (fun e => h e.symm)]

theorem ok_unstr {fb : Prop} {c : Call} {T : TypeId} {K : KK} (hc : c.callee = .builtin .unsafeString) (hfb : fb → RawOp C s (.call c) T H K) (h : match c.args.toList with
        | [p, n] => match c.argTypes.toList with
          | [pt, _] => match get s n with
            | some (.v (.int .i64 m)) => match get s p with
              | some (.v (.pointer _)) => m = 0 ∧ K (.v (.string (bs []))) s H
              | some (.rel k 1 0 0) => match lk s.bx k with
                | some (.row e sz xs) => bif Nat.beq sz 1 then (C.P.underlying pt = some (.pointer e) ∧ C.P.cellsOf e = 1 ∧ ∃ b, xs = byteRows b ∧ b ≠ [] ∧ m = b.length ∧ K (.v (.string (bs b))) (s.box k .dead) H) else False
                | _ => False
              | _ => fb
            | _ => fb
          | _ => fb
        | _ => fb) : RawOp C s (.call c) T H K := by
  split at h
  · rename_i p n hx
    have ha : c.args = #[p, n] := by apply Array.ext'; simpa using hx
    split at h
    · rename_i pt it hT'
      have hat : c.argTypes = #[pt, it] := by apply Array.ext'; simpa using hT'
      split at h
      · rename_i m hm
        split at h
        · rename_i q hp
          obtain ⟨rfl, h⟩ := h
          refine raw_pure fun B ρ o a w ho _ hr => ⟨_, ?_, h, by rw [SV.lt]⟩
          have h1 := (eval_get hr hp).1
          have h2 := (eval_get hr hm).1
          rw [ga] at h1 h2
          rw [exec_builtin ho hc, ha, hat]
          simp only [builtin, List.map_toArray, List.map_cons, List.map_nil, Sem.run_bind, h1, h2, Lib.run_unsafeString_none, ga]
          rfl
        · rename_i k hp
          split at h
          · rename_i e sz xs hk
            have hbif := bif_f h; clear h; obtain ⟨hq, hpt, hce, b, rfl, hne, rfl, h⟩ := hbif
            obtain rfl := beq_t hq
            refine raw_val fun B ρ o a w ho _ hr => ?_
            have h1 := (eval_get hr hp).1
            have h2 := (eval_get hr hm).1
            simp only [ga] at h1 h2
            have hbx := (hr.mem.ok _ _ hk).2.1
            rcases row_arr hbx with ⟨_, h3⟩ | ⟨cap, cur, h3, h4, h5, hmx, h6, h7⟩
            · have := congrArg List.length h3
              rw [byte_rows_len] at this
              exact absurd (List.eq_nil_of_length_eq_zero this) hne
            · have hsh : w.shape? (ρ.b k) = some (e, cur.size) := by simp [World.shape?, h4]
              have ho1 : Owns ρ k (.row e 1 (byteRows b)) (ρ.b k) := by simp only [Owns, Rho.val, h3]; rfl
              rw [byte_rows_len] at h5 h7
              have hrun := Lib.run_unsafeString_row (P := C.P) w pt it o.type e hpt hce (ρ.b k) cur.size hsh b hne (by omega) (by simp only [maxLen] at hmx; omega) (fun j x hj => by
                rw [Addr.at_, cell_of _ _ h4]
                have : cur.toList[j]? = some (.int .u8 x.toNat) := by
                  have h8 : (cur.toList.take (b.length * 1))[j]? = some (.int .u8 x.toNat) := by
                    rw [h7, byte_rows_flat, List.getElem?_map, hj]
                    rfl
                  rw [List.getElem?_take] at h8
                  split at h8
                  · exact h8
                  · cases h8
                simpa using this)
              refine ⟨_, _, H, ρ, w.freeze ⟨ρ.b k, 0, none⟩ b.length, ?_, h, hr.with (bx := (k, .dead) :: s.bx) (hr.mem.write hk (by unfold World.freeze; split <;> rfl) (by unfold World.freeze; split <;> rfl) (by unfold World.freeze; split <;> exact ⟨rfl, Nat.le_refl _⟩) ?_ (fun g _ hg => freeze_other w _ _ g (fun e => hg (e ▸ ho1))) rfl trivial (fun g hg => hg.elim)), Le.refl H, by rw [SV.lt]⟩
              · rw [exec_builtin ho hc, ha, hat]
                simp only [builtin, List.map_toArray, List.map_cons, List.map_nil, Sem.run_bind, h1, h2, Int.toNat_zero, Nat.zero_mul, Nat.zero_add]
                rw [hrun]
                simp only [ga]
                rfl
              · unfold World.freeze
                split
                · exact Nat.le_refl _
                · simp
          · exact h.elim
        · exact hfb h
      · exact hfb h
    · exact hfb h
  · exact hfb h

theorem ok_seen (ht : TOK C) {fb : Prop} {src dst T : TypeId} {x : Operand} {K : KK} (hfb : fb → RawOp C s (.convert src dst x) T H K) (h : match get s x with
    | some (.ptr k off) => match lk s.bx k with
      | some (.cells T0 cs) => seenOK C.P src dst T0 cs.length off = true ∧ K (.ptr k off) s H
      | _ => fb
    | some (.v (.int _ n)) => match C.tt src with
      | some _ => match C.tt dst with
        | some (_, .float k) => K (.v (.float k (floatOfInt k n))) s H
        | _ => fb
      | none => fb
    | some (.v (.float fk b)) => match C.tt src with
      | some _ => match C.tt dst with
        | some (_, .int k) => ∃ n, floatToIntVal fk b k = some n ∧ K (.v (.int k n)) s H
        | _ => fb
      | none => fb
    | _ => fb) : RawOp C s (.convert src dst x) T H K := by
  split at h
  · rename_i k off hx
    split at h
    · rename_i T0 cs hk
      obtain ⟨hs, h⟩ := h
      refine raw_pure fun B ρ o a w ho _ hr => ⟨_, ?_, h, (eval_get hr hx).2⟩
      have h1 := (eval_get hr hx).1
      rw [ga] at h1
      have hb := (hr.mem.ok _ _ hk).2.1
      simp only [BoxOK] at hb
      have hsh : w.shape? (ρ.b k) = some (T0, cs.length) := by
        simp [World.shape?, hb, gas_eq]
      have hrun : (convert src dst (.pointer (some ⟨ρ.b k, off, none⟩))).run C.P w = .ok (.pointer (some ⟨ρ.b k, off, none⟩)) w := by
        unfold seenOK at hs
        split at hs
        · rename_i t hsrc
          split at hs
          · rename_i hdst
            split at hs
            · rename_i j hj
              simp only [Bool.and_eq_true, Nat.blt_eq] at hs
              exact Lib.run_to_unsafe w ⟨ρ.b k, off, none⟩ hsrc hdst hj (by omega) hsh hs.2
            · cases hs
          · cases hs
        · rename_i hsrc
          split at hs
          · rename_i u hdst
            split at hs
            · rename_i j hj
              exact Lib.run_from_unsafe w ⟨ρ.b k, off, none⟩ hsrc hdst hj hsh hs
            · cases hs
          · cases hs
        · cases hs
      simp only [execOp, ho, h1, Sem.run_bind, hrun, ga]
      rfl
    · exact hfb h
  · rename_i ik n hx
    split at h
    · rename_i di hsrc
      have hu := (ht src di.1 di.2 hsrc).2
      split at h
      · rename_i i k hdst
        have hd := (ht _ _ _ hdst).2
        refine raw_pure fun B ρ o a w ho _ hr => ⟨_, ?_, h, by rw [SV.lt]⟩
        have h1 := (eval_get hr hx).1
        rw [ga] at h1
        simp only [execOp, ho, h1, Sem.run_bind, run_convert_int_float w src dst ik k n (by rw [hu]; rfl) hd, ga]
        rfl
      · exact hfb h
    · exact hfb h
  · rename_i fk b hx
    split at h
    · rename_i di hsrc
      have hu := (ht src di.1 di.2 hsrc).2
      split at h
      · rename_i i k hdst
        have hd := (ht _ _ _ hdst).2
        obtain ⟨n, hn, h⟩ := h
        refine raw_pure fun B ρ o a w ho _ hr => ⟨_, ?_, h, by rw [SV.lt]⟩
        have h1 := (eval_get hr hx).1
        rw [ga] at h1
        simp only [execOp, ho, h1, Sem.run_bind, run_convert_float_int w src dst fk k b n (by rw [hu]; rfl) hd hn, ga]
        rfl
      · exact hfb h
    · exact hfb h
  · exact hfb h

def negF (fb : Prop) (s : St) (op : UnOp) (x : Operand) (H : Hp) (K : KK) : Prop := match op with
    | .neg => match get s x with
      | some (.v (.float k b)) => K (.v (.float k (Op.negFloat k b))) s H
      | _ => fb
    | _ => fb
theorem ok_negF {fb : Prop} {op : UnOp} {xT T : TypeId} {x : Operand} {K : KK} (hfb : fb → RawOp C s (.unOp op xT x) T H K) (h : negF fb s op x H K) : RawOp C s (.unOp op xT x) T H K := by
  cases op with
  | neg =>
    simp only [negF] at h
    split at h
    · rename_i k b hx
      refine raw_pure fun B ρ o a w ho _ hr => ⟨_, ?_, h, by rw [SV.lt]⟩
      have h1 := (eval_get hr hx).1
      rw [ga] at h1
      simp only [execOp, ho, h1, Op.unary, ga]
      rfl
    · exact hfb h
  | _ => exact hfb h

theorem ok_real {fb : Prop} {c : Call} {T : TypeId} {K : KK} (hc : c.callee = .builtin .real) (hfb : fb → RawOp C s (.call c) T H K) (h : match c.args.toList with
        | [x] => match get s x with
          | some (.v (.complex k a _)) => K (.v (.float k a)) s H
          | _ => fb
        | _ => fb) : RawOp C s (.call c) T H K := by
  split at h
  · rename_i x hx
    have ha : c.args = #[x] := by apply Array.ext'; simpa using hx
    split at h
    · rename_i k p q hg
      refine raw_pure fun B ρ o a w ho _ hr => ⟨_, ?_, h, by rw [SV.lt]⟩
      have h1 := (eval_get hr hg).1
      rw [ga] at h1
      rw [exec_builtin ho hc, ha]
      simp [builtin, run_real, h1, ga]
    · exact hfb h
  · exact hfb h

theorem ok_imag {fb : Prop} {c : Call} {T : TypeId} {K : KK} (hc : c.callee = .builtin .imag) (hfb : fb → RawOp C s (.call c) T H K) (h : match c.args.toList with
        | [x] => match get s x with
          | some (.v (.complex k _ b)) => K (.v (.float k b)) s H
          | _ => fb
        | _ => fb) : RawOp C s (.call c) T H K := by
  split at h
  · rename_i x hx
    have ha : c.args = #[x] := by apply Array.ext'; simpa using hx
    split at h
    · rename_i k p q hg
      refine raw_pure fun B ρ o a w ho _ hr => ⟨_, ?_, h, by rw [SV.lt]⟩
      have h1 := (eval_get hr hg).1
      rw [ga] at h1
      rw [exec_builtin ho hc, ha]
      simp [builtin, run_imag, h1, ga]
    · exact hfb h
  · exact hfb h

theorem ok_complex {fb : Prop} {c : Call} {T : TypeId} {K : KK} (hc : c.callee = .builtin .complex) (hfb : fb → RawOp C s (.call c) T H K) (h : match c.args.toList with
        | [x, y] => match get s x with
          | some (.v (.float k a)) => match get s y with
            | some (.v (.float k' b)) => k' = k ∧ K (.v (.complex k a b)) s H
            | _ => fb
          | _ => fb
        | _ => fb) : RawOp C s (.call c) T H K := by
  split at h
  · rename_i x y hx
    have ha : c.args = #[x, y] := by apply Array.ext'; simpa using hx
    split at h
    · rename_i k p hg
      split at h
      · rename_i k' q hg2
        obtain ⟨rfl, h⟩ := h
        refine raw_pure fun B ρ o a w ho _ hr => ⟨_, ?_, h, by rw [SV.lt]⟩
        have h1 := (eval_get hr hg).1
        have h2 := (eval_get hr hg2).1
        rw [ga] at h1 h2
        rw [exec_builtin ho hc, ha]
        simp [builtin, run_complex, h1, h2, ga]
      · exact hfb h
    · exact hfb h
  · exact hfb h

theorem ok_arr {fb : Prop} (ht : TOK C) {T' T : TypeId} {x i : Operand} {K : KK} (hfb : fb → RawOp C s (.index T' x i) T H K) (h : match C.tt T' with
    | some (_, .array m e) => match tsize C e with
      | some 1 => match get s x with
        | some (.agg cs) => match get s i with
          | some (.v (.int _ j)) => bif tagg C e then fb else (∃ y, (0 ≤ j ∧ j < m ∧ cs[j.toNat]? = some y) ∧ K y s H)
          | _ => fb
        | _ => fb
      | _ => fb
    | _ => fb) : RawOp C s (.index T' x i) T H K := by
  split at h
  · rename_i i0 m e hT
    have hu := (ht _ _ _ hT).2
    split at h
    · rename_i hsz
      split at h
      · rename_i cs hx
        split at h
        · rename_i k j hi
          cases hta : tagg C e with
          | true => rw [hta] at h; exact hfb h
          | false =>
            rw [hta] at h
            obtain ⟨y, ⟨h1, h2, h3⟩, h⟩ := h
            refine raw_pure fun B ρ o a w ho _ hr => ⟨y, ?_, h, ?_⟩
            · have h4 := (eval_get hr hx).1
              have h5 := (eval_get hr hi).1
              simp only [ga] at h4 h5
              have hp := part_ok ht hsz (l := cs) (off := j.toNat) (r := y) (by
                rw [hta]
                have hlt := (List.getElem?_eq_some_iff.1 h3).1
                have : (cs.drop j.toNat).take 1 = [y] := by
                  rw [List.drop_eq_getElem_cons hlt]
                  have h6 := List.getElem?_eq_getElem hlt
                  rw [h3] at h6
                  simp only [Option.some.injEq] at h6
                  simp [← h6]
                rw [this]
                rfl) (ρ := ρ) w
              simp only [execOp, ho, h4, h5, Instr.index, asIntOf, Sem.run_bind, Sem.run_pure, Result.andThen_ok, run_underlying hu, h1, h2, and_self, if_true, tsize_ok ht hsz, Nat.mul_one, hp]
            · have := (eval_get hr hx).2
              rw [SV.lt] at this
              exact (lts_iff _ _).1 this y (List.mem_of_getElem? h3)
        · exact hfb h
      · exact hfb h
    · exact hfb h
  · exact hfb h

theorem ok_buildF {fb : Prop} (ht : TOK C) {T' T : TypeId} {len : Nat} {ps : Array (Nat × Operand)} {K : KK} (hfb : fb → RawOp C s (.buildSlice T' len ps) T H K) (h : match telem C T' with
    | none => fb
    | some e => match tsize C e with
      | none => fb
      | some sz => match zeroCells C e with
        | none => fb
        | some z => match getPs s ps.toList with
          | none => fb
          | some vs => bif Nat.ble (len * sz) 16777216 && Nat.ble 1 sz && Nat.beq z.length sz then (match fillE (fun i => some (i * sz, sz)) (rep len z) vs with
            | some cs => forceL cs fun cs => bif ones cs then (fzL fz2 cs s H fun l s1 H1 => K (.own s1.nx) (s1.new (.row e sz (chop sz len l))) H1) else fb
            | none => fb) else fb) : RawOp C s (.buildSlice T' len ps) T H K := by
  split at h
  · exact hfb h
  · rename_i e he
    have hu := telem_ok ht he
    split at h
    · exact hfb h
    · rename_i sz hsz
      split at h
      · exact hfb h
      · rename_i z hz
        split at h
        · exact hfb h
        · rename_i vs hvs
          cases hle0 : (Nat.ble (len * sz) 16777216 && Nat.ble 1 sz && Nat.beq z.length sz) with
          | false => rw [hle0] at h; exact hfb h
          | true =>
          rw [hle0, cond_true] at h
          simp only [Bool.and_eq_true] at hle0
          obtain ⟨⟨hle, hsz1⟩, hzl⟩ := hle0
          have hle9 := ble_t hle
          have hsz1 := ble_t hsz1
          have hzl := beq_t hzl
          split at h
          · rename_i cs hcs
            rw [forceL_eq] at h
            cases ho1 : ones cs with
            | false => rw [ho1] at h; exact hfb h
            | true =>
              rw [ho1, cond_true, fzL2_eq] at h
              refine raw_val fun B ρ o a w ho _ hr => ?_
              obtain ⟨s1, H1, hk, hr1, hle, hnx⟩ := fzs_ok cs hr h
              obtain ⟨l, hl⟩ : ∃ l, l = gas ρ cs := ⟨_, rfl⟩
              rw [← hl] at hk
              obtain ⟨v, h1, h2, h3⟩ := zeroCells_ok (w := w) ht hz
              have hf := fill_ok ρ _ vs _ cs hcs
              have hgas : gas ρ cs = l ∧ ∀ u ∈ l, u.oneCell' = true := ⟨hl.symm, by rw [hl]; exact ones_cell ho1⟩
              rw [hgas.1] at hf
              have hll : l.length = len * sz := by
                rw [← hgas.1, gas_eq, List.length_map, fill_len _ _ _ hcs]
                have := congrArg List.length (rep_ga ρ z len)
                rw [gas_eq, List.length_map] at this
                rw [this, hzl]; simp
              obtain ⟨c1, c2, c3⟩ := chop_flat sz len l hll
              have hparts : (ps.map fun (p : Nat × Operand) => (p.1, a.eval p.2)).toList = vs.map (fun p => (p.1, ga ρ p.2)) := by
                rw [Array.toList_map, (getPs_ok hr hvs).1]
              have hrep : (gas ρ (rep len z)).toArray = (Array.range (len * sz)).map fun i => (gas ρ z).toArray[i % (gas ρ z).toArray.size]! := by
                rw [rep_ga, Array.toArray_toList]; simp only [List.size_toArray, gas_eq, List.length_map, hzl]
              obtain ⟨ρ', hr', hg⟩ := hr1.rowed (e := e) (sz := sz) (xs := chop sz len l) (w' := w.alloc (.cells l.toArray e)) (v := (some ⟨w.heap.size, 0, none⟩, len, len)) rfl rfl ⟨rfl, Nat.le_refl _⟩ (by simp) (fun g hg => heap_alloc_old w _ g hg)
                (by
                  rw [c1, c2]
                  refine ⟨hll, .inr ⟨w.heap.size, len, l.toArray, rfl, Nat.zero_le _, heap_alloc_new w _, Nat.le_refl _, ?_, by simpa using hll, by show l.take (len * sz) = l; exact List.take_of_length_le (by omega)⟩⟩
                  have : len ≤ len * sz := Nat.le_mul_of_pos_right len hsz1
                  simp only [maxLen]
                  omega)
                (fun x hx => ⟨(c3 x hx).1, fun u hu => hgas.2 u ((c3 x hx).2 u hu)⟩)
                (fun g hg => by simp only [Value.ownBlock, Option.some.injEq] at hg; omega)
              refine ⟨_, _, H1, ρ', _, ?_, hk, hr', hle, ?_⟩
              · rw [hg]
                simp only [execOp, ho, Instr.buildSlice, Sem.run_bind, run_underlying hu, Result.andThen_ok, tsize_ok ht hsz]
                rw [if_neg (by omega)]
                by_cases h0 : len * sz = 0
                · have e1 : len = 0 := by rcases Nat.mul_eq_zero.1 h0 with h | h <;> omega
                  subst e1
                  rw [if_pos h0]
                  have e2 : (Array.range (0 * sz)).map (fun i => (#[] : Array Value)[i % (#[] : Array Value).size]!) = (gas ρ (rep 0 z)).toArray := by simp [rep, gas]
                  simp only [Sem.run_pure, Result.andThen_ok, e2, hparts, hf, Sem.run_bind, newRow, run_newObj]
                  rfl
                · rw [if_neg h0]
                  simp only [Sem.run_bind, h1, Result.andThen_ok, Sem.run_pure, h2 ρ, hparts, ← hrep, hf, newRow, run_newObj]
                  rfl
              · rw [SV.lt]; exact Nat.ble_eq_true_of_le (Nat.le_refl _)
          · exact hfb h

theorem val1_ga {x : SV} {v : Value} (h : val1 x = some v) : ga ρ x = v := by
  unfold val1 at h
  split at h
  · rename_i y
    cases ho : one (.v y) with
    | false => rw [ho] at h; cases h
    | true => rw [ho] at h; cases h; rw [ga]
  · cases h; rw [ga]
  · cases h
theorem valOf_ok {y : SV} {v : Value} (h : valOf y = some v) : ga ρ y = v := by
  unfold valOf at h
  split at h
  · split at h
    · rename_i l hl
      cases h
      rw [ga, (vals_gas (ρ := ρ) hl).1]
    · cases h
  · exact val1_ga h

theorem Rel.objed (hr : Rel C B ρ s H a w) {Φ : Obj → Prop} {o : Obj} (hΦ : Φ o) : Rel C B (ρ.set s.nx w.heap.size (none, 0, 0)) (s.new (.obj Φ)) H a (w.alloc o) where
  env := hr.env_new _ _
  sz := hr.sz
  defers := hr.defers
  mem := by
    refine hr.mem.alloc rfl rfl ⟨rfl, Nat.le_refl _⟩ (by simp) (fun g hg => heap_alloc_old w _ g hg) rfl ?_ ?_
    · simp only [BoxOK, Rho.set, if_true]
      exact ⟨o, heap_alloc_new w _, hΦ⟩
    · intro g hg
      simp only [Owns, Rho.set, if_true] at hg
      omega

theorem ok_makeMap {fb : Prop} {T' T : TypeId} {r : Option Operand} {K : KK} (hfb : fb → RawOp C s (.makeMap T' r) T H K) (h : mkMapE fb C s T' r H K) : RawOp C s (.makeMap T' r) T H K := by
  unfold mkMapE at h
  split at h
  · exact hfb h
  · split at h
    · rename_i i k e hT
      obtain ⟨hok, h⟩ := h
      refine raw_val fun B ρ o a w ho _ hr => ?_
      have hm : MapI C.P k e 0 (fun _ => 0) (.map #[] 0) := ⟨hok, #[], 0, rfl, ⟨by simp, MapKept.stamped_empty 0, by simp⟩, Nat.le_refl _, fun kl _ => rfl⟩
      refine ⟨_, _, H, _, _, ?_, h, hr.objed hm, Le.refl H, ?_⟩
      · simp only [execOp, ho, Instr.makeMap, Option.map_none, Sem.run_bind, run_newObj, Result.andThen_ok, Sem.run_pure, ga, Rho.set, if_true]
        rfl
      · rw [SV.lt]; exact Nat.ble_eq_true_of_le (Nat.le_refl _)
    · exact hfb h

theorem ok_lookup {fb : Prop} (ht : TOK C) {T' T : TypeId} {m x : Operand} {ok : Bool} {K : KK} (hfb : fb → RawOp C s (.lookup T' m x ok) T H K) (h : lookE fb C s T' m x ok H K) : RawOp C s (.lookup T' m x ok) T H K := by
  unfold lookE at h
  split at h
  · exact hfb h
  · split at h
    · rename_i j hj
      split at h
      · rename_i Φ hk
        split at h
        · rename_i y hy
          split at h
          · rename_i kv hkv
            split at h
            · rename_i i k e hT
              obtain ⟨n, g, kl, rfl, hkey, h⟩ := h
              refine raw_pure fun B ρ o a w ho _ hr => ⟨_, ?_, h, by rw [SV.lt]⟩
              have h1 := (eval_get hr hj).1
              have h2 := (eval_get hr hy).1
              rw [valOf_ok hkv] at h2
              rw [ga] at h1
              obtain ⟨ob, hb, ⟨hK, he, hz⟩, es, clock, rfl, hfit, hsz, hg⟩ := (hr.mem.ok _ _ hk).2.1
              have hown : w.ownsMap (H := Empty) C.P k (plainElem C.P e) (ρ.b j) es.size (.map ((es.toList.map (WideElems.rg C.P k (plainElem C.P e))).foldr DataW.insert [])) := ⟨es, clock, hb, hfit, Nat.le_refl _, rfl⟩
              obtain ⟨c, hrun, hat, _⟩ := hown.lookup_int hK (ht _ _ _ hT).2 he (hz w) hkey
              have hgk := hg kl ⟨kv, hkey⟩
              rw [hat] at hgk
              simp only [DataW.lit.injEq, Lit.int.injEq, true_and] at hgk
              simp only [execOp, ho, h1, h2, hrun, Sem.run_bind, Result.andThen_ok, ga, hgk]
              rfl
            · exact hfb h
          · exact hfb h
        · exact hfb h
      · exact hfb h
    · exact hfb h

theorem ok_mapUpdate {fb : Prop} (ht : TOK C) {T' T : TypeId} {m x v : Operand} {K : KK} (hfb : fb → RawOp C s (.mapUpdate T' m x v) T H K) (h : updE fb C s T' m x v H K) : RawOp C s (.mapUpdate T' m x v) T H K := by
  unfold updE at h
  split at h
  · rename_i j hj
    split at h
    · rename_i Φ hk
      split at h
      · rename_i y hy
        split at h
        · rename_i kv hkv
          split at h
          · rename_i z hv
            split at h
            · rename_i i k e hT
              obtain ⟨n, g, kl, rfl, hkey, ⟨hn, hin⟩, h⟩ := h
              refine raw_skip fun B ρ o a w ho _ hr => ?_
              have h1 := (eval_get hr hj).1
              have h2 := (eval_get hr hy).1
              have h3 := (eval_get hr hv).1
              rw [valOf_ok hkv] at h2
              rw [ga] at h1
              rw [ga] at h3
              obtain ⟨ob, hb, ⟨hK, he, hz⟩, es, clock, rfl, hfit, hsz, hg⟩ := (hr.mem.ok _ _ hk).2.1
              have hown : w.ownsMap (H := Empty) C.P k (plainElem C.P e) (ρ.b j) n (.map ((es.toList.map (WideElems.rg C.P k (plainElem C.P e))).foldr DataW.insert [])) := ⟨es, clock, hb, hfit, hsz, rfl⟩
              have hwf : (Lit.int .i64 z).wf = true := by
                simp only [inR] at hin
                simp only [Lit.wf, Bool.and_eq_true, decide_eq_true_eq]
                exact hin
              obtain ⟨w', hrun, ⟨es', clock', hb', hfit', hsz', hD'⟩, hturn⟩ := hown.store hK (ht _ _ _ hT).2 (by simpa [maxLen] using hn) hkey (plainElem_int he hwf)
              have hgr := hturn.grown
              have hdr : w.drawn ≤ w'.drawn := by
                obtain ⟨_, _, _, _, _, rfl⟩ := hturn
                exact Nat.le_refl _
              have hm : MapI C.P k e (n + 1) (updL g kl z) (.map es' clock') := by
                refine ⟨⟨hK, he, hz⟩, es', clock', rfl, hfit', hsz', fun kl' hkl' => ?_⟩
                rw [← hD', updL]
                split
                · rename_i heq
                  subst heq
                  exact Maps.atKey_put_same ⟨_, rfl⟩ (hK.key hkey) _ _
                · rename_i hne
                  rw [Maps.atKey_put_other hne]
                  exact hg kl' hkl'
              refine ⟨_, H, ρ, w', ?_, h, hr.with (bx := (j, _) :: s.bx) ?_, Le.refl H⟩
              · simp only [execOp, ho, h1, h2, h3, hrun, Sem.run_bind, Result.andThen_ok, Sem.run_pure]
              · refine hr.mem.write hk hgr.os hgr.tape ⟨hgr.output, hdr⟩ hgr.size (fun g' hg' hno => hgr.block g' hg' (fun e => hno (by simp only [Owns]; simpa using e))) rfl ⟨_, hb', hm⟩ (fun g' hg' => hg')
            · exact hfb h
          · exact hfb h
        · exact hfb h
      · exact hfb h
    · exact hfb h
  · exact hfb h

theorem opX_ok {fb : Prop} (ht : TOK C) {op : Op} {T : TypeId} {K : KK} (hfb : fb → RawOp C s op T H K) (h : opX fb C s op T H K) : RawOp C s op T H K := by
  unfold opX at h
  split at h
  · exact ok_buildF ht hfb h
  · exact ok_arr ht hfb h
  · exact ok_makeMap hfb h
  · exact ok_lookup ht hfb h
  · exact ok_mapUpdate ht hfb h
  · exact ok_make ht hfb h
  · exact ok_seen ht hfb h
  · exact ok_negF (fb := fb) hfb h
  · rename_i c
    split at h
    · rename_i b hc
      split at h
      · exact ok_copy ht hc hfb h
      · exact ok_appendX ht hc hfb h
      · exact ok_clear ht hc hfb h
      · exact ok_real hc hfb h
      · exact ok_imag hc hfb h
      · exact ok_complex hc hfb h
      · exact ok_cap ht hc hfb h
      · exact ok_data hc hfb h
      · exact ok_unstr hc hfb h
      · exact hfb h
    · exact hfb h
  · exact hfb h

theorem Rel.shrunk (hr : Rel C B ρ s H a w) {k : Nat} {e : TypeId} {sz : Nat} {xs : List (List Value)} (hk : lk s.bx k = some (.row e sz xs)) {n : Nat} (hn : n ≤ xs.length) (sz' : Nat) :
    ∃ ρ', Rel C B ρ' ((s.box k .dead).new (.row e sz (xs.take n))) H a w ∧ ga ρ' (.own s.nx) = ρ.part k sz' 0 n := by
  have hb := (hr.mem.ok _ _ hk).2.1
  have hlen : (xs.take n).length = n := by rw [List.length_take]; omega
  obtain ⟨ρ', hr', hg⟩ := hr.moved (e := e) (sz := sz) (xs := xs.take n) (w' := w) (v := ((ρ.sl k).1, n, (ρ.sl k).2.2)) hk rfl rfl ⟨rfl, Nat.le_refl _⟩ (Nat.le_refl _) (fun _ _ _ => rfl)
    (by
      rw [hlen, take_flat n (fun x hx => (hb.2.1 x hx).1)]
      have hfl : xs.flatten.length = xs.length * sz := hb.1.1
      refine ⟨by rw [List.length_take, hfl]; exact Nat.min_eq_left (Nat.mul_le_mul_right _ hn), ?_⟩
      rcases row_arr hb with ⟨h1, rfl⟩ | ⟨cap, cur, h1, h2, h3, hmx, h4, h5⟩
      · simp only [List.length_nil] at hn
        exact .inl ⟨by rw [h1, show n = 0 by omega], by omega⟩
      · refine .inr ⟨ρ.b k, cap, cur, by rw [h1], Nat.zero_le _, h2, by omega, hmx, h4, ?_⟩
        rw [← h5, List.take_take, Nat.min_eq_left (Nat.mul_le_mul_right _ hn)])
    (fun x hx => hb.2.1 x (List.mem_of_mem_take hx))
    (fun g hg => .inl (by
      simp only [Owns, Rho.val]
      cases hs : (ρ.sl k).1 with
      | none => simp [hs, Value.ownBlock] at hg
      | some ad => simpa [hs, Value.ownBlock] using hg))
  refine ⟨ρ', hr', ?_⟩
  rw [hg, Rho.part]
  congr 1
  unfold cutA
  split
  · rfl
  · rcases row_arr hb with ⟨h1, rfl⟩ | ⟨cap, cur, h1, h2, h3, hmx, h4, h5⟩
    · rw [h1]; rfl
    · rw [h1]; simp [Addr.add]

theorem ok_moveG {x : Operand} {T : TypeId} {K : KK} (h : match get s x with
    | some (.sub k sz lo n) => K (.sub k sz lo n) s H ∨ headS k lo n s H K
    | some y => K y s H
    | none => False) : RawOp C s (.move x) T H K ∧ RawOp C s (.assign x) T H K := by
  split at h
  · rename_i k sz lo n hx
    rcases h with h | h
    · have := ok_move (C := C) (s := s) (H := H) (T := T) (x := x) (K := K) (by rw [hx]; exact h)
      exact ⟨raw_pure this.1, raw_pure this.2⟩
    · unfold headS at h
      split at h
      · rename_i e sz' xs hk
        obtain ⟨⟨rfl, hn⟩, h⟩ := h
        constructor <;>
        · refine raw_val fun B ρ o a w ho _ hr => ?_
          obtain ⟨ρ', hr', hg⟩ := hr.shrunk hk hn sz
          refine ⟨_, _, H, ρ', w, ?_, h, hr', Le.refl H, by rw [SV.lt]; exact Nat.ble_eq_true_of_le (Nat.le_refl _)⟩
          have h1 := (eval_get hr hx).1
          rw [ga] at h1
          simp only [execOp, ho, h1, hg]
          rfl
      · exact h.elim
  · rename_i y _ hx
    have := ok_move (C := C) (s := s) (H := H) (T := T) (x := x) (K := K) (by rw [hx]; exact h)
    exact ⟨raw_pure this.1, raw_pure this.2⟩
  · exact h.elim
end
end Go.Sy
