/- Part 'SyOk8b' of the proof: lemmas, each with its own conditions in its own statement. -/
import Derived.Test.YtjflpceoeofomaaSyX
namespace Go.Sy
open Go.RowKit (Below)
section
variable {C : Cx} {B : Bs} {ρ : Rho} {s : St} {H : Hp} {a : Act} {w : World} {P : Program}

theorem ok_append {fb : Prop} (ht : TOK C) {c : Call} {T : TypeId} {K : KK} (hc : c.callee = .builtin .append) (hfb : fb → RawOp C s (.call c) T H K) (h : match c.args.toList with
        | [x, y] => match c.argTypes.toList with
          | [t, t'] => bif Nat.beq t t' then (match get s x with
            | some (.sub _ _ _ _) => fb
            | some x' => match get s y with
              | some y' => appendE C t x' y' s H K
              | none => False
            | none => False) else fb
          | _ => False
        | _ => False) : RawOp C s (.call c) T H K := by
  split at h
  · rename_i x y hx
    have ha : c.args = #[x, y] := by apply Array.ext'; simpa using hx
    split at h
    · rename_i t t' hT'
      have hat : c.argTypes = #[t, t'] := by apply Array.ext'; simpa using hT'
      cases htt : Nat.beq t t' with
      | false => rw [htt] at h; exact hfb h
      | true =>
        rw [htt] at h
        simp only [cond_true] at h
        obtain rfl := beq_t htt
        split at h
        · exact hfb h
        · rename_i x' _ hx'
          split at h
          · rename_i y' hy'
            unfold appendE at h
            split at h
            · exact h.elim
            · rename_i e he
              split at h
              · exact h.elim
              · rename_i i hi
                split at h
                · exact h.elim
                · rename_i z hz
                  obtain ⟨hb, h⟩ := bif_f h
                  simp only [Bool.and_eq_true] at hb
                  have hzs := beq_t hb.1
                  have hsz := ble_t hb.2
                  refine raw_val fun B ρ o a w ho _ hr => ?_
                  obtain ⟨ys, h, hn⟩ := rowOf_news hr hsz h
                  obtain ⟨e1, l1⟩ := eval_get hr hx'
                  obtain ⟨e2, l2⟩ := eval_get hr hy'
                  have hrun : (execOp a.eval o).run C.P w = ((do pure (.value (← Builtin.append_ #[t, t] o.type #[ga ρ x', ga ρ y'])) : Sem Next)).run C.P w := by
                    rw [exec_builtin ho hc, ha, hat]
                    simp only [builtin, List.map_toArray, List.map_cons, List.map_nil, e1, e2]
                  split at h
                  · rename_i k
                    split at h
                    · rename_i e' sz xs hk
                      have hbif := bif_f h; clear h; obtain ⟨hee, ⟨hby, hlen⟩, h⟩ := hbif
                      simp only [Bool.and_eq_true] at hee
                      obtain rfl := beq_t hee.1
                      obtain rfl := beq_t hee.2
                      have hbx := (hr.mem.ok _ _ hk).2.1
                      obtain ⟨v', w', r1, r2, r3, r4, r5, a', l', c', rfl⟩ := append_run (ty := o.type) ht he hi hz hzs hsz hbx.1 hn hby hlen
                      obtain ⟨ρ', hr', hg⟩ := hr.moved (v := (a', l', c')) hk r3.os r3.tape ⟨r3.output, r5⟩ r3.size (fun g hg hno => r3.block g hg (fun e => hno e.symm)) r2 (fun x hx => by
                        rcases List.mem_append.1 hx with hx | hx
                        · exact hbx.2.1 x hx
                        · exact hn.1 x hx) (fun g hg => r4 g hg)
                      refine ⟨_, _, H, ρ', w', ?_, h, hr', Le.refl H, by rw [SV.lt]; exact Nat.ble_eq_true_of_le (Nat.le_refl _)⟩
                      rw [hrun, hg, ga, Sem.run_bind, r1]
                      rfl
                    · exact h.elim
                  · obtain ⟨⟨hby, hlen⟩, h⟩ := h
                    obtain ⟨v', w', r1, r2, r3, r4, r5, a', l', c', rfl⟩ := append_run (xs := []) (v := .slice none 0 0) (ty := o.type) ht he hi hz hzs hsz (World.ownsRow_nil w 0 e i.1.size) hn (by simpa using hby) (by simpa using hlen)
                    obtain ⟨ρ', hr', hg⟩ := hr.rowed (v := (a', l', c')) r3.os r3.tape ⟨r3.output, r5⟩ r3.size (fun g hg => r3.block g hg (by simp [Value.ownBlock])) (by simpa using r2) (fun x hx => hn.1 x hx) (fun g hg => by
                      rcases r4 g hg with h | h
                      · simp [Value.ownBlock] at h
                      · exact h)
                    refine ⟨_, _, H, ρ', w', ?_, h, hr', Le.refl H, by rw [SV.lt]; exact Nat.ble_eq_true_of_le (Nat.le_refl _)⟩
                    rw [hrun, hg, ga, Sem.run_bind, r1]
                    rfl
                  · exact h.elim
          · exact h.elim
        · exact h.elim
    · exact h.elim
  · exact h.elim

theorem opE_ok (ht : TOK C) {op : Op} {T : TypeId} {K : KK} (h : opE C s op T H K) : RawOp C s op T H K := by
  have hfb : opX (RawOp C s op T H K) C s op T H K → RawOp C s op T H K := opX_ok ht id
  unfold opE at h
  cases op with
  | move x => exact (ok_moveG h).1
  | assign x => exact (ok_moveG h).2
  | pick c x y => exact (ok_pick h).elim raw_pure hfb
  | binOp op xT x y yT => exact (ok_bin ht h).elim raw_pure hfb
  | unOp op xT x =>
    cases op with
    | not => exact (ok_not h).elim raw_pure hfb
    | neg => exact (ok_neg h).elim raw_pure hfb
    | xor => exact hfb h
    | plus => exact hfb h
  | box T' x => exact ok_box h
  | alloc T' => exact ok_alloc ht h
  | build T' ps => exact (ok_build ht h).elim raw_pure hfb
  | buildSlice T' n ps => exact (ok_buildSlice ht h).elim id hfb
  | fieldAddr T' x f => exact (ok_fieldAddr ht h).elim raw_pure hfb
  | field T' x f => exact (ok_field ht h).elim raw_pure hfb
  | load T' x => exact (ok_load ht h).elim raw_pure hfb
  | store T' x y => exact ok_store ht h
  | nilCheck x => exact (ok_nilCheck h).elim raw_pure hfb
  | convert src dst x => exact (ok_convert ht h).elim raw_pure hfb
  | indexAddr T' x i => exact (ok_indexAddr ht h).elim raw_pure hfb
  | index T' x i => exact (ok_index ht h).elim raw_pure hfb
  | extract x i => exact (ok_extract h).elim raw_pure hfb
  | makeFunc fn first cap => exact (ok_makeFunc h).elim raw_pure hfb
  | slice T' x lo hi mx =>
    simp only [opG] at h
    split at h
    · rename_i k hk
      rcases h with h | h
      · exact ok_slice ht hk h
      · exact (ok_sliceV ht h).elim raw_pure hfb
    · exact (ok_sliceV ht h).elim raw_pure hfb
  | call c =>
    obtain ⟨callee, args, ats⟩ := c
    cases callee with
    | value g => exact ok_value rfl h
    | invoke r m => exact hfb h
    | builtin b =>
      cases b with
      | len => exact (ok_len ht rfl h).elim raw_pure hfb
      | append => exact ok_append ht rfl hfb h
      | min => exact (ok_min rfl h).elim raw_pure hfb
      | max => exact (ok_max rfl h).elim raw_pure hfb
      | _ => exact hfb h
  | _ => exact hfb h

end
end Go.Sy
