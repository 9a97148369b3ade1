/- Part 'Q4' of the proof: lemmas, each with its own conditions in its own statement. -/
import Derived.Test.YtjflpceoeofomaaQ3
namespace Go.Proofs
open Go.Sy
/-- R has the nodes of f and what they lead to, and nothing else. -/
structure IsReach (m : Int) (l : List Edg) (f R : List Int) : Prop where
  from' : ∀ x ∈ f, nodeI m x = true → x ∈ R
  closed : ∀ x ∈ R, ∀ y ∈ nxt m x l, y ∈ R
  least : ∀ S : Int → Prop, (∀ x ∈ f, nodeI m x = true → S x) → (∀ x, S x → ∀ y ∈ nxt m x l, S y) → ∀ x ∈ R, S x
theorem IsReach.mem {m : Int} {l : List Edg} {f R R' : List Int} (h : IsReach m l f R) (h' : IsReach m l f R') (x : Int) : x ∈ R ↔ x ∈ R' :=
  ⟨h.least (· ∈ R') h'.from' h'.closed x, h'.least (· ∈ R) h.from' h.closed x⟩
theorem IsReach.node {m : Int} {l : List Edg} {f R : List Int} (h : IsReach m l f R) : ∀ x ∈ R, nodeI m x = true :=
  h.least (fun x => nodeI m x = true) (fun _ _ h => h) (fun _ _ _ hy => (nxt_mem.1 hy).2.2)
theorem IsReach.again {m : Int} {l : List Edg} {f R R' : List Int} (h : IsReach m l f R) (h' : IsReach m l R R') (x : Int) : x ∈ R' ↔ x ∈ R :=
  ⟨h'.least (· ∈ R) (fun _ hx _ => hx) h.closed x, fun hx => h'.from' x hx (h.node x hx)⟩
theorem pst_inv {m : Int} : ∀ (l : List Int) {s t o : List Int}, s.Nodup → (∀ x ∈ s, nodeI m x = true) → (o ++ t).Perm s →
    (pst m l (s, t)).1.Nodup ∧ (∀ x ∈ (pst m l (s, t)).1, nodeI m x = true) ∧ (o ++ (pst m l (s, t)).2).Perm (pst m l (s, t)).1 ∧ ∀ x, x ∈ (pst m l (s, t)).1 ↔ x ∈ s ∨ (x ∈ l ∧ nodeI m x = true)
  | [], s, t, o, h1, h2, h3 => ⟨h1, h2, h3, fun x => by simp [pst]⟩
  | y :: r, s, t, o, h1, h2, h3 => by
    rw [pst, List.foldl_cons]
    by_cases hc : nodeI m y = true ∧ y ∉ s
    · rw [if_pos hc]
      have ih := pst_inv (m := m) r (s := s ++ [y]) (t := t ++ [y]) (o := o) (by
          rw [List.nodup_append]
          refine ⟨h1, by simp, fun a ha b hb => ?_⟩
          rw [List.mem_singleton] at hb
          subst hb
          exact fun e => hc.2 (e ▸ ha)) (fun x hx => by
          rcases List.mem_append.1 hx with hx | hx
          · exact h2 x hx
          · rw [List.mem_singleton] at hx; subst hx; exact hc.1) (by rw [← List.append_assoc]; exact h3.append (List.Perm.refl _))
      refine ⟨ih.1, ih.2.1, ih.2.2.1, fun x => ?_⟩
      have := ih.2.2.2 x
      rw [pst] at this
      rw [this, List.mem_append, List.mem_singleton, List.mem_cons]
      constructor
      · rintro ((h | h) | h)
        · exact .inl h
        · exact .inr ⟨.inl h, h ▸ hc.1⟩
        · exact .inr ⟨.inr h.1, h.2⟩
      · rintro (h | ⟨h | h, h'⟩)
        · exact .inl (.inl h)
        · exact .inl (.inr h)
        · exact .inr ⟨h, h'⟩
    · rw [if_neg hc]
      have ih := pst_inv (m := m) r h1 h2 h3
      refine ⟨ih.1, ih.2.1, ih.2.2.1, fun x => ?_⟩
      have := ih.2.2.2 x
      rw [pst] at this
      rw [this, List.mem_cons]
      constructor
      · rintro (h | h)
        · exact .inl h
        · exact .inr ⟨.inr h.1, h.2⟩
      · rintro (h | ⟨h | h, h'⟩)
        · exact .inl h
        · subst h
          by_cases hs : x ∈ s
          · exact .inl hs
          · exact absurd ⟨h', hs⟩ hc
        · exact .inr ⟨h, h'⟩
/-- The work under way: seen, waiting, done. -/
structure RInv (m : Int) (l : List Edg) (f s t o : List Int) : Prop where
  nd : s.Nodup
  node : ∀ x ∈ s, nodeI m x = true
  perm : (o ++ t).Perm s
  from' : ∀ x ∈ f, nodeI m x = true → x ∈ s
  done : ∀ x ∈ o, ∀ y ∈ nxt m x l, y ∈ s
  least : ∀ S : Int → Prop, (∀ x ∈ f, nodeI m x = true → S x) → (∀ x, S x → ∀ y ∈ nxt m x l, S y) → ∀ x ∈ s, S x
theorem rinv_zero (m : Int) (l : List Edg) (f : List Int) : RInv m l f (pst m f ([], [])).1 (pst m f ([], [])).2 [] := by
  have h := pst_inv (m := m) f (s := []) (t := []) (o := []) List.nodup_nil (by simp) (List.Perm.refl _)
  refine ⟨h.1, h.2.1, h.2.2.1, fun x hx hn => (h.2.2.2 x).2 (.inr ⟨hx, hn⟩), by simp, fun S h1 _ x hx => ?_⟩
  rcases (h.2.2.2 x).1 hx with h' | h'
  · cases h'
  · exact h1 x h'.1 h'.2
theorem rinv_step {m : Int} {l : List Edg} {f s t o : List Int} {x : Int} (h : RInv m l f s (t ++ [x]) o) {g : List Int} (hg : ∀ y, y ∈ g ↔ y ∈ nxt m x l) :
    RInv m l f (pst m g (s, t)).1 (pst m g (s, t)).2 (o ++ [x]) := by
  have hp : ((o ++ [x]) ++ t).Perm s := by
    refine List.Perm.trans ?_ h.perm
    rw [List.append_assoc]
    exact List.Perm.append_left o (List.perm_append_comm)
  have k := pst_inv (m := m) g h.nd h.node hp
  have hx : x ∈ s := h.perm.mem_iff.1 (by simp)
  refine ⟨k.1, k.2.1, k.2.2.1, fun y hy hn => (k.2.2.2 y).2 (.inl (h.from' y hy hn)), fun y hy z hz => ?_, fun S h1 h2 y hy => ?_⟩
  · rcases List.mem_append.1 hy with hy | hy
    · exact (k.2.2.2 z).2 (.inl (h.done y hy z hz))
    · rw [List.mem_singleton] at hy
      subst hy
      exact (k.2.2.2 z).2 (.inr ⟨(hg z).2 hz, (nxt_mem.1 hz).2.2⟩)
  · rcases (k.2.2.2 y).1 hy with h' | h'
    · exact h.least S h1 h2 y h'
    · exact h2 x (h.least S h1 h2 x hx) y ((hg y).1 h'.1)
theorem rinv_end {m : Int} {l : List Edg} {f s o : List Int} (h : RInv m l f s [] o) : IsReach m l f o ∧ o.Nodup := by
  have hp : o.Perm s := by have := h.perm; rw [List.append_nil] at this; exact this
  exact ⟨⟨fun x hx hn => hp.mem_iff.2 (h.from' x hx hn), fun x hx y hy => hp.mem_iff.2 (h.done x hx y hy), fun S h1 h2 x hx => h.least S h1 h2 x (hp.mem_iff.1 hx)⟩, hp.nodup_iff.2 h.nd⟩
theorem nat_few : ∀ (n : Nat) (s : List Nat), s.Nodup → (∀ x ∈ s, x < n) → s.length ≤ n
  | 0, s, _, h => by
    match s, h with
    | [], _ => exact Nat.le_refl _
    | x :: r, h => exact absurd (h x List.mem_cons_self) (Nat.not_lt_zero x)
  | n + 1, s, hn, h => by
    by_cases hm : n ∈ s
    · have h2 := nat_few n (s.erase n) (hn.erase n) (fun x hx => by
        have h3 := (hn.mem_erase_iff).1 hx
        have := h x h3.2
        have := h3.1
        omega)
      rw [List.length_erase_of_mem hm] at h2
      omega
    · have := nat_few n s hn (fun x hx => by
        have := h x hx
        have : x ≠ n := fun e => hm (e ▸ hx)
        omega)
      omega
/-- Nodes that differ are few. -/
theorem nodes_len {m : Int} {s : List Int} (h1 : s.Nodup) (h2 : ∀ x ∈ s, nodeI m x = true) : s.length ≤ m.toNat := by
  have h3 : (s.map Int.toNat).Nodup := by
    rw [List.nodup_iff_pairwise_ne, List.pairwise_map]
    refine (List.Pairwise.and_mem.1 h1).imp fun {a b} ⟨ha, hb, hab⟩ e => hab ?_
    have := dt (h2 a ha)
    have := dt (h2 b hb)
    omega
  have := nat_few m.toNat _ h3 (fun x hx => by
    obtain ⟨y, hy, rfl⟩ := List.mem_map.1 hx
    have := dt (h2 y hy)
    omega)
  rwa [List.length_map] at this
theorem gComp_nodup {α : Type} [LO α] : ∀ {l : List α}, l.Nodup → gComp l = l
  | [], _ => rfl
  | [_], _ => rfl
  | x :: y :: s, h => by
    have h1 := List.nodup_cons.1 h
    rw [gComp, if_neg (fun e => h1.1 (by rw [e]; exact List.mem_cons_self)), gComp_nodup h1.2]
end Go.Proofs
