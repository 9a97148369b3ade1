/- Part 'SyOk8' of the proof: lemmas, each with its own conditions in its own statement. -/
import Derived.Test.YtjflpceoeofomaaSyG
namespace Go.Sy
open Go.RowKit (Below)
section
variable {C : Cx} {B : Bs} {ρ : Rho} {s : St} {H : Hp} {a : Act} {w : World} {P : Program}

theorem len_own (hr : Rel C B ρ s H a w) {k : Nat} {e : TypeId} {sz : Nat} {xs : List (List Value)} (hk : lk s.bx k = some (.row e sz xs)) : (ρ.sl k).2.1 = xs.length := by
  rcases (hr.mem.ok _ _ hk).2.1.1.2 with ⟨h2, h3⟩ | ⟨g, cap, cur, h2, _⟩
  · simp only [Rho.val, Value.slice.injEq] at h2; omega
  · simp only [Rho.val, Value.slice.injEq] at h2; exact h2.2.1

theorem ok_len {fb : Prop} (ht : TOK C) {c : Call} {T : TypeId} {K : KK} (hc : c.callee = .builtin .len) (h : match c.args.toList with
        | [x] => match c.argTypes.toList with
          | [T'] => match C.tt T' with
            | some (_, .slice _) => match get s x with
              | some (.v (.slice _ n _)) => K (.v (.int .i64 n)) s H
              | some (.own k) => match lk s.bx k with
                | some (.row _ _ xs) => K (.v (.int .i64 xs.length)) s H
                | _ => False
              | some (.sub _ _ _ n) => K (.v (.int .i64 n)) s H
              | _ => False
            | some (_, .string) => match get s x with
              | some (.v (.string t)) => K (.v (.int .i64 (sl t).length)) s H
              | _ => False
            | _ => fb
          | _ => False
        | _ => False) : RawP C s (.call c) T H K ∨ fb := by
  split at h
  · rename_i x hx
    have ha : c.args = #[x] := by apply Array.ext'; simpa using hx
    split at h
    · rename_i T' hT'
      have hat : c.argTypes = #[T'] := by apply Array.ext'; simpa using hT'
      split at h
      · rename_i i0 e hT
        have hu := (ht _ _ _ hT).2
        split at h
        · rename_i ad n cp hg
          refine .inl fun B ρ o a w ho _ hr => ⟨_, ?_, h, by rw [SV.lt]⟩
          have h1 := (eval_get hr hg).1
          rw [ga] at h1
          rw [exec_builtin ho hc, ha, hat]
          simp [builtin, Builtin.len_, h1, run_underlying hu, ga, goInt]
        · rename_i k hg
          split at h
          · rename_i e' sz xs hk
            refine .inl fun B ρ o a w ho _ hr => ⟨_, ?_, h, by rw [SV.lt]⟩
            have h1 := (eval_get hr hg).1
            have h2 := len_own hr hk
            rw [ga] at h1
            rw [exec_builtin ho hc, ha, hat]
            simp [builtin, Builtin.len_, h1, run_underlying hu, ga, goInt, Rho.val, h2]
          · exact h.elim
        · rename_i k sz lo n hg
          refine .inl fun B ρ o a w ho _ hr => ⟨_, ?_, h, by rw [SV.lt]⟩
          have h1 := (eval_get hr hg).1
          rw [ga, Rho.part] at h1
          rw [exec_builtin ho hc, ha, hat]
          simp [builtin, Builtin.len_, h1, run_underlying hu, ga, goInt]
        · exact h.elim
      · rename_i i0 hT
        have hu := (ht _ _ _ hT).2
        split at h
        · rename_i t hg
          refine .inl fun B ρ o a w ho _ hr => ⟨_, ?_, h, by rw [SV.lt]⟩
          have h1 := (eval_get hr hg).1
          rw [ga] at h1
          rw [exec_builtin ho hc, ha, hat]
          simp [builtin, Builtin.len_, h1, run_underlying hu, ga, goInt]
          rfl
        · exact h.elim
      · exact .inr h
    · exact h.elim
  · exact h.elim

theorem ok_min {fb : Prop} {c : Call} {T : TypeId} {K : KK} (hc : c.callee = .builtin .min) (h : match c.args.toList with
        | [x, y] => match get s x with
          | some (.v (.int k a)) => match get s y with
            | some (.v (.int _ b)) => K (.v (.int k (min a b))) s H
            | _ => False
          | _ => fb
        | _ => fb) : RawP C s (.call c) T H K ∨ fb := by
  split at h
  · rename_i x y hx
    have ha : c.args = #[x, y] := by apply Array.ext'; simpa using hx
    split at h
    · rename_i k m hg
      split at h
      · rename_i k' n hg'
        refine .inl fun B ρ o a w ho _ hr => ⟨_, ?_, h, by rw [SV.lt]⟩
        have h1 := (eval_get hr hg).1
        have h2 := (eval_get hr hg').1
        rw [ga] at h1 h2
        rw [exec_builtin ho hc, ha]
        have e : (if n < m then n else m) = min m n := by split <;> omega
        simp [builtin, Builtin.min_, Builtin.min2, h1, h2, ga, e]
      · exact h.elim
    · exact .inr h
  · exact .inr h

theorem ok_max {fb : Prop} {c : Call} {T : TypeId} {K : KK} (hc : c.callee = .builtin .max) (h : match c.args.toList with
        | [x, y] => match get s x with
          | some (.v (.int k a)) => match get s y with
            | some (.v (.int _ b)) => K (.v (.int k (max a b))) s H
            | _ => False
          | _ => fb
        | _ => fb) : RawP C s (.call c) T H K ∨ fb := by
  split at h
  · rename_i x y hx
    have ha : c.args = #[x, y] := by apply Array.ext'; simpa using hx
    split at h
    · rename_i k m hg
      split at h
      · rename_i k' n hg'
        refine .inl fun B ρ o a w ho _ hr => ⟨_, ?_, h, by rw [SV.lt]⟩
        have h1 := (eval_get hr hg).1
        have h2 := (eval_get hr hg').1
        rw [ga] at h1 h2
        rw [exec_builtin ho hc, ha]
        have e : (if m < n then n else m) = max m n := by split <;> omega
        simp [builtin, Builtin.max_, Builtin.max2, h1, h2, ga, e]
      · exact h.elim
    · exact .inr h
  · exact .inr h

/-- What is read of a row, in the world. -/
def News (w : World) (v : Value) (sz : Nat) (ys : List (List Value)) : Prop :=
  (∀ y ∈ ys, y.length = sz ∧ ∀ u ∈ y, u.oneCell' = true) ∧
    ((v = .slice none 0 0 ∧ ys = []) ∨ ∃ ad c, v = .slice (some ad) ys.length c ∧ ∀ j u, ys.flatten[j]? = some u → w.cell? (ad.add j) = some u)

theorem flat_split {sz : Nat} (hsz : 0 < sz) {ys : List (List Value)} (h : ∀ y ∈ ys, y.length = sz) {j : Nat} {u : Value} (hj : ys.flatten[j]? = some u) :
    ∃ y, ys[j / sz]? = some y ∧ y[j % sz]? = some u := by
  have hl : ys.flatten.length = ys.length * sz := by
    clear hj
    induction ys with
    | nil => simp
    | cons x r ih => rw [List.flatten_cons, List.length_append, h x List.mem_cons_self, ih (fun y hy => h y (List.mem_cons_of_mem _ hy)), List.length_cons, Nat.add_mul]; omega
  have hlt := (List.getElem?_eq_some_iff.1 hj).1
  rw [hl] at hlt
  have h1 : j / sz < ys.length := Nat.div_lt_of_lt_mul (by rw [Nat.mul_comm]; exact hlt)
  refine ⟨ys[j / sz], List.getElem?_eq_getElem h1, ?_⟩
  rw [← flat_get (sz := sz) h (List.getElem?_eq_getElem h1) (j % sz) (Nat.mod_lt _ hsz), Nat.mul_comm, Nat.div_add_mod]
  exact hj

theorem drop_flat {sz : Nat} : ∀ {xs : List (List Value)} (n : Nat), (∀ x ∈ xs, x.length = sz) → (xs.drop n).flatten = xs.flatten.drop (n * sz)
  | [], n, _ => by simp
  | x :: r, 0, _ => by simp
  | x :: r, n + 1, h => by
    have h1 := h x List.mem_cons_self
    rw [List.drop_succ_cons, drop_flat n (fun y hy => h y (List.mem_cons_of_mem _ hy)), List.flatten_cons, show (n + 1) * sz = x.length + n * sz by rw [Nat.add_mul]; omega, List.drop_length_add_append]

/-- A row that is a block. -/
theorem row_arr {e : TypeId} {sz : Nat} {xs : List (List Value)} {k : Nat} (hb : BoxOK ρ w k (.row e sz xs)) :
    (ρ.sl k = (none, 0, 0) ∧ xs = []) ∨ ∃ cap cur, ρ.sl k = (some ⟨ρ.b k, 0, none⟩, xs.length, cap) ∧ w.heap[ρ.b k]? = some (.cells cur e (0, 0)) ∧ xs.length ≤ cap ∧ cap ≤ maxLen ∧ cur.size = cap * sz ∧ cur.toList.take (xs.length * sz) = xs.flatten := by
  rcases hb.1.2 with ⟨h1, h2⟩ | ⟨g, cap, cur, h1, _, h2, h3, hmx, h4, h5⟩
  · left
    have := List.eq_nil_of_length_eq_zero h2
    refine ⟨?_, this⟩
    simp only [Rho.val, Value.slice.injEq] at h1
    obtain ⟨e1, e2, e3⟩ := h1
    exact Prod.ext e1 (Prod.ext e2 e3)
  · right
    have hg := hb.2.2 g (by rw [h1]; rfl)
    subst hg
    simp only [Rho.val, Value.slice.injEq] at h1
    obtain ⟨e1, e2, e3⟩ := h1
    exact ⟨cap, cur, Prod.ext e1 (Prod.ext e2 e3), h2, h3, hmx, h4, h5⟩

theorem sub_news {e : TypeId} {sz : Nat} {xs : List (List Value)} {k lo n : Nat} (hb : BoxOK ρ w k (.row e sz xs)) (hn : lo + n ≤ xs.length) : News w (ρ.part k sz lo n) sz ((xs.drop lo).take n) := by
  refine ⟨fun y hy => hb.2.1 y (List.mem_of_mem_drop (List.mem_of_mem_take hy)), ?_⟩
  have hl : ((xs.drop lo).take n).length = n := by simp; omega
  have hsz : ∀ x ∈ xs, x.length = sz := fun x hx => (hb.2.1 x hx).1
  rcases row_arr hb with ⟨h1, rfl⟩ | ⟨cap, cur, h1, h2, h3, hmx, h4, h5⟩
  · simp only [List.length_nil, Nat.le_zero] at hn
    obtain ⟨rfl, rfl⟩ : lo = 0 ∧ n = 0 := by omega
    refine .inl ⟨?_, by simp⟩
    rw [Rho.part, h1]
    rfl
  · rw [Rho.part, h1, hl]
    by_cases hc : cap = lo
    · refine .inr ⟨⟨ρ.b k, 0, none⟩, _, by rw [cutA, if_pos hc], fun j u hj => ?_⟩
      have : (xs.drop lo).take n = [] := List.eq_nil_of_length_eq_zero (by rw [hl]; omega)
      rw [this] at hj
      simp at hj
    · refine .inr ⟨⟨ρ.b k, lo * sz, none⟩, _, by rw [cutA, if_neg hc, Option.map_some, Addr.at_, Nat.zero_add], fun j u hj => ?_⟩
      rw [Addr.at_, cell_of _ _ h2]
      rw [take_flat n (fun x hx => hsz x (List.mem_of_mem_drop hx)), drop_flat lo hsz, List.getElem?_take] at hj
      split at hj
      · rw [List.getElem?_drop, ← h5, List.getElem?_take] at hj
        split at hj
        · rw [← hj]; simp
        · cases hj
      · cases hj

theorem rowOf_news (hr : Rel C B ρ s H a w) {y : SV} {sz : Nat} (hsz : 0 < sz) {K : List (List Value) → Prop} (h : rowOf s H y sz K) : ∃ ys, K ys ∧ News w (ga ρ y) sz ys := by
  unfold rowOf at h
  split at h
  · rename_i k
    split at h
    · rename_i e sz' xs hk
      have hbif := bif_f h; clear h; obtain ⟨hszz, h⟩ := hbif
      obtain rfl := beq_t hszz
      have hb := (hr.mem.ok _ _ hk).2.1
      refine ⟨xs, h, hb.2.1, ?_⟩
      rw [ga]
      rcases hb.1.2 with ⟨h2, h3⟩ | ⟨g, cap, cur, h2, _⟩
      · exact .inl ⟨h2, List.eq_nil_of_length_eq_zero h3⟩
      · exact .inr ⟨_, _, h2, hb.1.cells (by rw [h2]; rfl)⟩
    · exact h.elim
  · rename_i k sz0 lo n
    split at h
    · rename_i e sz' xs hk
      have hbif := bif_f h; clear h; obtain ⟨hszz, hn, h⟩ := hbif
      simp only [Bool.and_eq_true] at hszz
      obtain rfl := beq_t hszz.1
      obtain rfl := beq_t hszz.2
      exact ⟨_, h, by rw [ga]; exact sub_news (hr.mem.ok _ _ hk).2.1 hn⟩
    · exact h.elim
  · rename_i v
    obtain ⟨xs, ⟨a', cap, h1, h2, h3, h4⟩, h⟩ := h
    refine ⟨xs, h, h3, ?_⟩
    rw [ga]
    rcases h4 with ⟨rfl, rfl⟩ | ⟨ad, rfl, hsp, c, T, fr, hH, hc, hel⟩
    · cases a' with
      | none => exact .inl ⟨h1, rfl⟩
      | some ad => exact .inr ⟨ad, 0, h1, fun j u hj => by simp at hj⟩
    · refine .inr ⟨ad, cap, h1, fun j u hj => ?_⟩
      obtain ⟨y, hy, hu⟩ := flat_split hsz (fun y hy => (h3 y hy).1) hj
      have h5 := hel _ _ hy (j % sz) (Nat.mod_lt _ hsz)
      have h6 : ad.add j = ⟨ad.block, ad.off + j, none⟩ := by
        obtain ⟨b, o, sp⟩ := ad
        simp only at hsp
        subst hsp
        rw [Addr.at_]
      rw [h6, cell_of _ _ (hr.mem.hp _ _ hH)]
      rw [Nat.add_assoc, Nat.mul_comm, Nat.div_add_mod, hu] at h5
      exact h5
  · exact h.elim

theorem tt_zero (ht : TOK C) {e : TypeId} {i : TypeInfo × TypeDesc} (h : C.tt e = some i) : C.P.info? e = some i.1 := (ht e i.1 i.2 h).1

theorem run_append_none0 {P : Program} (w : World) (t ty e : TypeId) (i : TypeInfo) (ht : P.underlying t = some (.slice e)) (hi : P.info? e = some i) (ad : Addr) (c : Nat) :
    (Builtin.append_ #[t, t] ty #[.slice none 0 0, .slice (some ad) 0 c]).run P w = .ok (.slice none 0 0) w := by
  have hf := run_firstCells_some (P := P) w i.size 0 ad 0 c [] (by simp) (by simp)
  simp [Builtin.append_, run_underlying ht, sizeOf, typeInfo, hi, Builtin.lenOf, hf]
theorem append_run (ht : TOK C) {t ty e : TypeId} {i : TypeInfo × TypeDesc} (hT : telem C t = some e) (hi : C.tt e = some i) {z : Value} (hz : i.1.zero = some z) (hzs : z.cells.size = i.1.size) (hsz : 0 < i.1.size)
    {v y : Value} {xs ys : List (List Value)} (hown : w.ownsRow 0 e i.1.size v xs.length xs.flatten) (hn : News w y i.1.size ys)
    (hby : (xs.length + ys.length) * i.1.bytes ≤ 140737488355328) (hlen : xs.length + ys.length ≤ 9223372036854775807) :
    ∃ v' w', (Builtin.append_ #[t, t] ty #[v, y]).run C.P w = .ok v' w' ∧ w'.ownsRow 0 e i.1.size v' (xs ++ ys).length (xs ++ ys).flatten ∧ w.grownBy w' v.ownBlock ∧ (∀ g, v'.ownBlock = some g → v.ownBlock = some g ∨ w.heap.size ≤ g) ∧ w.drawn ≤ w'.drawn ∧ ∃ a l c, v' = .slice a l c := by
  have hu := telem_ok ht hT
  have hinfo := tt_zero ht hi
  have hfl : (xs ++ ys).flatten = xs.flatten ++ ys.flatten := List.flatten_append
  rcases hn.2 with ⟨rfl, rfl⟩ | ⟨ad, c, rfl, hcell⟩
  · refine ⟨v, w, run_append_owned_none w 0 t ty e i.1 i.1.size hu hinfo v _ _ hown, by simpa using hown, ⟨rfl, rfl, rfl, Nat.le_refl _, fun _ _ _ => rfl⟩, fun g hg => .inl hg, Nat.le_refl _, ?_⟩
    rcases hown.2 with ⟨h1, _⟩ | ⟨g, cap, cur, h1, _⟩
    · exact ⟨_, _, _, h1⟩
    · exact ⟨_, _, _, h1⟩
  · have hl : ys.flatten.length = ys.length * i.1.size := by
      clear hcell
      have := hn.1
      clear hn hby hlen hown hfl
      induction ys with
      | nil => simp
      | cons x r ih => rw [List.flatten_cons, List.length_append, (this x List.mem_cons_self).1, ih (fun y hy => this y (List.mem_cons_of_mem _ hy)), List.length_cons, Nat.add_mul]; omega
    have h1 : ∀ u ∈ ys.flatten, u.oneCell' = true := fun u hu => by
      obtain ⟨y, hy, hu⟩ := List.mem_flatten.1 hu
      exact (hn.1 y hy).2 u hu
    have hm : xs.length + ys.length ≤ maxLen := by simp only [maxLen]; omega
    rw [hfl, List.length_append]
    rcases hown.2 with ⟨rfl, h0⟩ | ⟨g, cap, cur, rfl, hb0, hg, hnc, hcm, hcs, htk⟩
    · have hx : xs = [] := List.eq_nil_of_length_eq_zero h0
      subst hx
      obtain ⟨v', w', hr, ho, hg, _⟩ := run_append_own (P := C.P) w w.heap.size t ty e i.1 z i.1.size i.1.bytes hu hinfo hz rfl rfl hzs hsz (.slice none 0 0) 0 [] (World.ownsRow_nil _ _ _ _) ad ys.length c ys.flatten hl hcell h1 (by simpa using hm) (by simpa using hby) (Nat.le_refl _)
      refine ⟨v', w', hr, ?_, hg, fun g hg' => .inr (ho.lt g hg').1, ?_, ?_⟩
      · refine ⟨by simpa using ho.1, ?_⟩
        rcases ho.2 with h | ⟨g, cap, cur, a1, a2, a3, a4, a5, a6, a7⟩
        · exact .inl (by simpa using h)
        · exact .inr ⟨g, cap, cur, by simpa using a1, Nat.zero_le _, a3, by simpa using a4, a5, a6, by simpa using a7⟩
      · by_cases hy0 : ys.length = 0
        · have hy : ys = [] := List.eq_nil_of_length_eq_zero hy0
          subst hy
          have h2 := run_append_none0 (P := C.P) w t ty e i.1 hu hinfo ad c
          rw [List.length_nil, h2] at hr
          simp only [Result.ok.injEq] at hr
          rw [← hr.2]
          exact Nat.le_refl _
        · have h2 := run_append_nil (P := C.P) w t ty e i.1 z hu hinfo hz ad ys.length c ys.flatten hl hcell (by omega) (by omega) (by simp only [List.length_nil, Nat.zero_add] at hby; omega)
          rw [hr] at h2
          simp only [Result.ok.injEq] at h2
          rw [h2.2]
          exact Nat.le_succ _
      · rcases ho.2 with ⟨h1, _⟩ | ⟨g, cap, cur, h1, _⟩ <;> exact ⟨_, _, _, h1⟩
    · obtain ⟨v', w', hr, ho, hgr, _⟩ := run_append_own (P := C.P) w 0 t ty e i.1 z i.1.size i.1.bytes hu hinfo hz rfl rfl hzs hsz _ xs.length xs.flatten hown ad ys.length c ys.flatten hl hcell h1 hm hby (Nat.zero_le _)
      have hdr : w.drawn ≤ w'.drawn := by
        by_cases hroom : xs.length + ys.length ≤ cap
        · have hfit : xs.length * i.1.size + ys.flatten.length ≤ cur.size := by rw [hl, hcs, ← Nat.add_mul]; exact Nat.mul_le_mul_right _ hroom
          have h2 := run_append_room (P := C.P) w t ty e i.1 hu hinfo g xs.length cap cur hg ad ys.length c ys.flatten hl hcell h1 hroom hfit
          rw [hr] at h2
          simp only [Result.ok.injEq] at h2
          rw [h2.2]
          exact Nat.le_refl _
        · have h2 := run_append_grow (P := C.P) w t ty e i.1 z hu hinfo hz ⟨g, 0, none⟩ xs.length cap xs.flatten hown.1 (hown.cells (g := g) rfl) ad ys.length c ys.flatten hl hcell (by omega) (by omega) (growslice_fits (by omega) hby)
          rw [hr] at h2
          simp only [Result.ok.injEq] at h2
          rw [h2.2]
          exact Nat.le_succ _
      refine ⟨v', w', hr, ho, hgr, fun g' hg' => ?_, hdr, ?_⟩
      · by_cases hroom : xs.length + ys.length ≤ cap
        · have hfit : xs.length * i.1.size + ys.flatten.length ≤ cur.size := by rw [hl, hcs, ← Nat.add_mul]; exact Nat.mul_le_mul_right _ hroom
          have h2 := run_append_room (P := C.P) w t ty e i.1 hu hinfo g xs.length cap cur hg ad ys.length c ys.flatten hl hcell h1 hroom hfit
          rw [hr] at h2
          simp only [Result.ok.injEq] at h2
          rw [h2.1] at hg'
          exact .inl hg'
        · have h2 := run_append_grow (P := C.P) w t ty e i.1 z hu hinfo hz ⟨g, 0, none⟩ xs.length cap xs.flatten hown.1 (hown.cells (g := g) rfl) ad ys.length c ys.flatten hl hcell (by omega) (by omega) (growslice_fits (by omega) hby)
          rw [hr] at h2
          simp only [Result.ok.injEq] at h2
          rw [h2.1] at hg'
          simp only [Value.ownBlock, Option.some.injEq] at hg'
          exact .inr (by omega)
      · rcases ho.2 with ⟨h1, _⟩ | ⟨g, cap, cur, h1, _⟩ <;> exact ⟨_, _, _, h1⟩

end
end Go.Sy
