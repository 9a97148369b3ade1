/- Part 'M24' of the proof (Rn0, Px1, W14, W15, Fo0, W16, Fo1, Fo2, Fo3, Ex1, Ex2, Ex3, Ex4, Ex5, Pr10): lemmas, each with its own conditions in its own statement. -/
import Derived.Test.YtjnmonnpglkmlaaGreatM10
import Derived.Test.YtjnmonnpglkmlaaGreatM22
import Derived.Test.YtjnmonnpglkmlaaGreatM23
section
namespace Go.Proofs
open Go.Sy
set_option maxRecDepth 20000
set_option maxHeartbeats 4000000
/-! Runs: the law. -/
abbrev StE := Int × List Nm × Int × List Nm
def valA (p : Prog) (e : List Nm) (a : Atm) : Nm := if a.1.l = [] then nOf a.2 else if 0 ≤ vIdx p a.1.l then e[(vIdx p a.1.l).toNat]?.getD (0, 0) else (0, 0)
def inAt (inn : List Nm) (i : Int) : Nm := if i < 0 then (0, 0) else inn[i.toNat]?.getD (0, 0)
def inNext (i : Int) : Int := min i 2147483646 + 1
def setAt (p : Prog) (e : List Nm) (t : Bs8) (n : Nm) : List Nm := e.set (vIdx p t).toNat n
def doS (p : Prog) (inn : List Nm) (s : StE) (x : Stmt) : StE :=
  if x.1 = 1 then (s.1, setAt p s.2.1 x.2.1.l (nOp x.2.2.1 (valA p s.2.1 x.2.2.2.1) (valA p s.2.1 x.2.2.2.2)), s.2.2)
  else if x.1 = 2 then (s.1, setAt p s.2.1 x.2.1.l (nOf (inAt inn s.2.2.1)), inNext s.2.2.1, s.2.2.2)
  else if x.1 = 3 then (s.1, s.2.1, s.2.2.1, s.2.2.2 ++ [valA p s.2.1 x.2.2.2.1])
  else s
def doAll (p : Prog) (inn : List Nm) (s : StE) (l : List Stmt) : StE := l.foldl (doS p inn) s
def blkN (p : Prog) (i : Int) : Block := p[i.toNat]?.getD (⟨[]⟩, [], (0, (⟨[]⟩, 0, 0), ⟨[]⟩, ⟨[]⟩))
def runB (p : Prog) (inn : List Nm) (s : StE) : StE := doAll p inn s (blkN p s.1).2.1
def bIdx (p : Prog) (t : Bs8) : Int := max (idxS t (nms p) 0) 0
def goTo (p : Prog) (s : StE) (t : Term) : Bs8 := if t.1 = 2 ∧ valA p s.2.1 t.2.1 = (0, 0) then t.2.2.2.l else t.2.2.1.l
def folS (p : Prog) (s : StE) : StE × Bool := if (blkN p s.1).2.2.1 = 3 then (s, false) else ((bIdx p (goTo p s (blkN p s.1).2.2), s.2), true)
/-- What is there behind so many rounds. -/
def itS (p : Prog) (inn : List Nm) (s0 : StE) : Nat → List StE × StE × Bool
  | 0 => ([], s0, true)
  | k + 1 => if (itS p inn s0 k).2.2 then ((itS p inn s0 k).1 ++ [(itS p inn s0 k).2.1], folS p (runB p inn (itS p inn s0 k).2.1)) else itS p inn s0 k
theorem itS_step {p : Prog} {inn : List Nm} {s0 : StE} {k : Nat} (h : (itS p inn s0 k).2.2 = true) : itS p inn s0 (k + 1) = ((itS p inn s0 k).1 ++ [(itS p inn s0 k).2.1], folS p (runB p inn (itS p inn s0 k).2.1)) := by
  rw [itS, if_pos h]
theorem itS_stop {p : Prog} {inn : List Nm} {s0 : StE} {k : Nat} (h : (itS p inn s0 k).2.2 = false) : itS p inn s0 (k + 1) = itS p inn s0 k := by
  rw [itS, if_neg (by rw [h]; decide)]
theorem itS_end {p : Prog} {inn : List Nm} {s0 : StE} {k : Nat} (h : (itS p inn s0 k).2.2 = false) : ∀ m, itS p inn s0 (k + m) = itS p inn s0 k
  | 0 => rfl
  | m + 1 => by rw [← Nat.add_assoc, itS_stop (by rw [itS_end h m]; exact h), itS_end h m]
theorem itS_len {p : Prog} {inn : List Nm} {s0 : StE} : ∀ (k : Nat), (itS p inn s0 k).2.2 = true → (itS p inn s0 k).1.length = k
  | 0, _ => rfl
  | k + 1, h => by
    by_cases h1 : (itS p inn s0 k).2.2 = true
    · rw [itS_step h1, List.length_append, itS_len k h1]; rfl
    · rw [itS_stop (by simpa using h1)] at h
      exact absurd h h1
theorem itS_le {p : Prog} {inn : List Nm} {s0 : StE} : ∀ (k : Nat), (itS p inn s0 k).1.length ≤ k
  | 0 => Nat.le_refl _
  | k + 1 => by
    have h := itS_le (p := p) (inn := inn) (s0 := s0) k
    rw [itS]
    split
    · rw [List.length_append, List.length_singleton]; omega
    · omega
def start0 (p : Prog) : StE := (0, List.replicate (varsOf p).length (0, 0), 0, [])
/-- An invariant of runs. -/
theorem itS_inv {p : Prog} {inn : List Nm} {s0 : StE} (P : StE → Prop) (h0 : P s0) (hs : ∀ s, P s → (folS p (runB p inn s)).2 = true → P (folS p (runB p inn s)).1) :
    ∀ k, (∀ s ∈ (itS p inn s0 k).1, P s) ∧ ((itS p inn s0 k).2.2 = true → P (itS p inn s0 k).2.1)
  | 0 => ⟨fun s hs => (by cases hs), fun _ => h0⟩
  | k + 1 => by
    have h := itS_inv P h0 hs k
    by_cases h1 : (itS p inn s0 k).2.2 = true
    · have hp := h.2 h1
      rw [itS_step h1]
      refine ⟨fun s hm => ?_, fun h2 => hs _ hp h2⟩
      rcases List.mem_append.1 hm with hm | hm
      · exact h.1 s hm
      · rw [List.mem_singleton.1 hm]; exact hp
    · rw [itS_stop (by simpa using h1)]; exact h
/-! Which names are variables. -/
theorem insAt_has {i : Nat} {s : Bs8} {l : List Bs8} (_h : i ≤ l.length) : s ∈ insAt i s l ∧ ∀ t ∈ l, t ∈ insAt i s l := by
  rw [insAt]
  refine ⟨by simp, fun t ht => ?_⟩
  rw [← List.take_append_drop i l] at ht
  rcases List.mem_append.1 ht with ht | ht
  · simp [ht]
  · simp [ht]
theorem putS_has {l : List Bs8} (hl : SortedS l) (s : Bs8) : (s ≠ [] → s ∈ putS s l) ∧ ∀ t ∈ l, t ∈ putS s l := by
  by_cases h0 : s = []
  · rw [h0, putS_nil]; exact ⟨fun h => absurd rfl h, fun t h => h⟩
  · obtain ⟨i, hi, h1, h2⟩ := lower hl s
    have e := putS_at h0 hi h1 (fun x hx => h2 x (by
      have hlt := (List.getElem?_eq_some_iff.1 hx).1
      rw [List.drop_eq_getElem_cons hlt, (List.getElem?_eq_some_iff.1 hx).2]
      exact List.mem_cons_self))
    rw [e]
    split
    · rename_i hx
      exact ⟨fun _ => List.mem_of_getElem? hx, fun t h => h⟩
    · have := insAt_has (s := s) hi
      exact ⟨fun _ => this.1, this.2⟩
theorem putAll_has : ∀ (vs : List Bs8) {o : List Bs8}, SortedS o → (∀ s ∈ vs, s ≠ [] → s ∈ putAll vs o) ∧ ∀ t ∈ o, t ∈ putAll vs o
  | [], _, _ => ⟨fun s h => (by cases h), fun t h => h⟩
  | v :: r, o, ho => by
    have h1 := putS_has ho v
    have h2 := putAll_has r (putS_sorted ho v)
    refine ⟨fun s hs h0 => ?_, fun t ht => h2.2 t (h1.2 t ht)⟩
    rcases List.mem_cons.1 hs with rfl | hs
    · exact h2.2 _ (h1.1 h0)
    · exact h2.1 s hs h0
theorem bVars_has : ∀ (l : List Stmt) {o : List Bs8}, SortedS o → (∀ x ∈ l, ∀ s ∈ sVars x, s ≠ [] → s ∈ bVars o l) ∧ ∀ t ∈ o, t ∈ bVars o l
  | [], _, _ => ⟨fun s h => (by cases h), fun t h => h⟩
  | x :: r, o, ho => by
    have h1 := putAll_has (sVars x) ho
    have h2 := bVars_has r (putAll_sorted (sVars x) ho)
    refine ⟨fun y hy s hs h0 => ?_, fun t ht => h2.2 t (h1.2 t ht)⟩
    rcases List.mem_cons.1 hy with rfl | hy
    · exact h2.2 _ (h1.1 s hs h0)
    · exact h2.1 y hy s hs h0
theorem blkVars_sorted {o : List Bs8} (ho : SortedS o) (b : Block) : SortedS (blkVars o b) := putAll_sorted _ (bVars_sorted _ ho)
theorem blkVars_has {o : List Bs8} (ho : SortedS o) (b : Block) : (∀ x ∈ b.2.1, ∀ s ∈ sVars x, s ≠ [] → s ∈ blkVars o b) ∧ (b.2.2.2.1.1.l ≠ [] → b.2.2.2.1.1.l ∈ blkVars o b) ∧ ∀ t ∈ o, t ∈ blkVars o b := by
  have h1 := bVars_has b.2.1 ho
  have h2 := putAll_has [b.2.2.2.1.1.l] (bVars_sorted b.2.1 ho)
  exact ⟨fun x hx s hs h0 => h2.2 s (h1.1 x hx s hs h0), fun h0 => h2.1 _ (List.mem_singleton.2 rfl) h0, fun t ht => h2.2 t (h1.2 t ht)⟩
theorem vars_has : ∀ (p : Prog) {o : List Bs8}, SortedS o → (∀ b ∈ p, (∀ x ∈ b.2.1, ∀ s ∈ sVars x, s ≠ [] → s ∈ p.foldl blkVars o) ∧ (b.2.2.2.1.1.l ≠ [] → b.2.2.2.1.1.l ∈ p.foldl blkVars o)) ∧ ∀ t ∈ o, t ∈ p.foldl blkVars o
  | [], _, _ => ⟨fun s h => (by cases h), fun t h => h⟩
  | b :: r, o, ho => by
    have h1 := blkVars_has ho b
    have h2 := vars_has r (blkVars_sorted ho b)
    refine ⟨fun b' hb => ?_, fun t ht => h2.2 t (h1.2.2 t ht)⟩
    rcases List.mem_cons.1 hb with rfl | hb
    · exact ⟨fun x hx s hs h0 => h2.2 _ (h1.1 x hx s hs h0), fun h0 => h2.2 _ (h1.2.1 h0)⟩
    · exact h2.1 b' hb
theorem nil_sorted : SortedS [] := by simp [SortedS]
theorem idxS_at (t : Bs8) : ∀ (l : List Bs8) (i : Int), 0 ≤ i → t ∈ l → i ≤ idxS t l i ∧ idxS t l i < i + l.length ∧ l[(idxS t l i - i).toNat]? = some t
  | [], _, _, h => by cases h
  | x :: r, i, h0, h => by
    rw [idxS]
    split
    · rename_i e
      refine ⟨Int.le_refl _, by simp only [List.length_cons]; omega, ?_⟩
      rw [show (i - i).toNat = 0 by omega, List.getElem?_cons_zero, e]
    · rename_i e
      rcases List.mem_cons.1 h with h | h
      · exact absurd h.symm e
      · have := idxS_at t r (i + 1) (by omega) h
        simp only [List.length_cons]
        refine ⟨by omega, by omega, ?_⟩
        rw [show (idxS t r (i + 1) - i).toNat = (idxS t r (i + 1) - (i + 1)).toNat + 1 by omega, List.getElem?_cons_succ]
        exact this.2.2
theorem idxS_some {t : Bs8} : ∀ {l : List Bs8} {i : Int}, 0 ≤ i → 0 ≤ idxS t l i → t ∈ l
  | [], i, _, h => by rw [idxS] at h; omega
  | x :: r, i, h0, h => by
    rw [idxS] at h
    split at h
    · rename_i e
      rw [e]; exact List.mem_cons_self
    · exact List.mem_cons_of_mem _ (idxS_some (by omega) h)
theorem vIdx_mem {p : Prog} {t : Bs8} (h : t ∈ varsOf p) : 0 ≤ vIdx p t ∧ vIdx p t < ((varsOf p).length : Nat) := by
  have := idxS_at t (varsOf p) 0 (by omega) h
  unfold vIdx
  omega
theorem vIdx_stmt {p : Prog} {b : Block} (hb : b ∈ p) {x : Stmt} (hx : x ∈ b.2.1) {t : Bs8} (ht : t ∈ sVars x) (h0 : t ≠ []) : 0 ≤ vIdx p t ∧ vIdx p t < ((varsOf p).length : Nat) :=
  vIdx_mem (((vars_has p nil_sorted).1 b hb).1 x hx t ht h0)
theorem vIdx_term {p : Prog} {b : Block} (hb : b ∈ p) (h0 : b.2.2.2.1.1.l ≠ []) : 0 ≤ vIdx p b.2.2.2.1.1.l ∧ vIdx p b.2.2.2.1.1.l < ((varsOf p).length : Nat) :=
  vIdx_mem (((vars_has p nil_sorted).1 b hb).2 h0)
theorem blkN_get {p : Prog} {i : Int} {b : Block} (h : p[i.toNat]? = some b) : blkN p i = b := by rw [blkN, h]; rfl
theorem doS_blk (p : Prog) (inn : List Nm) (s : StE) (x : Stmt) : (doS p inn s x).1 = s.1 ∧ (doS p inn s x).2.1.length = s.2.1.length := by
  unfold doS setAt
  repeat' split
  all_goals simp
theorem doAll_blk (p : Prog) (inn : List Nm) : ∀ (l : List Stmt) (s : StE), (doAll p inn s l).1 = s.1 ∧ (doAll p inn s l).2.1.length = s.2.1.length
  | [], _ => ⟨rfl, rfl⟩
  | x :: r, s => by
    have h1 := doS_blk p inn s x
    have h2 := doAll_blk p inn r (doS p inn s x)
    rw [doAll, List.foldl_cons]
    exact ⟨h2.1.trans h1.1, h2.2.trans h1.2⟩
theorem bIdx_range (p : Prog) (t : Bs8) (h : 1 ≤ p.length) : 0 ≤ bIdx p t ∧ bIdx p t < (p.length : Nat) := by
  have := idxS_range t (nms p) 0 (by omega)
  rw [List.length_map] at this
  unfold bIdx
  omega
end Go.Proofs
end
section
namespace Go.Proofs
open Go.Sy
set_option maxRecDepth 20000
set_option maxHeartbeats 4000000
/-! What is known along a run. -/
def absW (w : Nat) (n : Nm) : Prop := w ≠ 0 ∧ ∀ x, kNum w = some x → x = n
theorem absW_le {a b : Nat} {n : Nm} (h : kLe a b) (ha : absW a n) : absW b n := by
  rcases h with h | h | h
  · exact absurd h ha.1
  · rw [← h]; exact ha
  · rw [h]
    exact ⟨by decide, fun x hx => by rw [show kNum 1 = none from by decide] at hx; cases hx⟩
theorem absW_of (n : Nm) : absW (kOf n) (nOf n) := ⟨by unfold kOf; omega, fun x hx => by rw [kNum_of] at hx; exact (Option.some.inj hx).symm⟩
theorem kIs_cases {w : Nat} (h : kIs w = true) : w = 0 ∨ w = 1 ∨ ∃ x, kNum w = some x := by
  simp only [kIs, Bool.or_eq_true, decide_eq_true_eq] at h
  rcases h with (h | h) | h
  · exact .inr (.inr (Option.isSome_iff_exists.1 h))
  · exact .inl h
  · exact .inr (.inl h)
theorem nOp_nOf (op : Int) (a b : Nm) : nOf (nOp op a b) = nOp op a b := by
  have h : ∀ x : Nm, nOf (nOf x) = nOf x := fun x => by simp only [nOf, wrp_wrp]
  unfold nOp
  repeat' split
  all_goals first | exact h _ | rfl
theorem absW_op {op : Int} {a b : Nat} {x y : Nm} (ho : 0 ≤ op ∧ op ≤ 4) (ha : kIs a = true) (hb : kIs b = true) (h1 : absW a x) (h2 : absW b y) : absW (kOp op a b) (nOp op x y) := by
  have one : ∀ n : Nm, absW 1 n := fun n => absW_le (a := 1) (.inr (.inr rfl)) ⟨by decide, fun x hx => by rw [show kNum 1 = none from by decide] at hx; cases hx⟩
  have hof : ∀ n : Nm, nOf n = n → absW (kOf n) n := fun n e => by have := absW_of n; rw [e] at this; exact this
  unfold kOp
  rw [kNorm_is ha, kNorm_is hb]
  rcases kIs_cases ha with e | e | ⟨u, eu⟩
  · exact absurd e h1.1
  · rw [if_neg h1.1, if_pos e]
    split
    · exact one _
    · rw [if_neg (by have := h2.1; omega), if_pos (.inl e)]; exact one _
  · have e1 : numOf a = x := by rw [numOf, eu]; exact h1.2 u eu
    have n1 : ¬ a = 1 := fun e => by rw [e, show kNum 1 = none from by decide] at eu; cases eu
    rw [if_neg h1.1, if_neg n1, e1]
    split
    · rename_i h0
      rw [nOp_one h0 x (numOf b) y]
      exact hof _ (nOp_nOf _ _ _)
    · rw [if_neg (by have := h1.1; have := h2.1; omega)]
      rcases kIs_cases hb with e | e | ⟨v, ev⟩
      · exact absurd e h2.1
      · rw [if_pos (.inr e)]; exact one _
      · have e2 : numOf b = y := by rw [numOf, ev]; exact h2.2 v ev
        have n2 : ¬ b = 1 := fun e => by rw [e, show kNum 1 = none from by decide] at ev; cases ev
        rw [if_neg (by omega), if_pos (by rw [opIs]; exact decide_eq_true ho), e2]
        exact hof _ (nOp_nOf _ _ _)
def absV (k : Wd) (e : List Nm) : Prop := k.length = e.length ∧ ∀ i n, e[i]? = some n → absW (wAt k i) n
theorem absV_le {k k' : Wd} {e : List Nm} (h : vLe k k') (ha : absV k e) : absV k' e := ⟨h.1.symm.trans ha.1, fun i n hi => absW_le (h.2 i) (ha.2 i n hi)⟩
theorem absV_set {k : Wd} {e : List Nm} {i : Nat} {w : Nat} {n : Nm} (hw : w < 18446744073709551616) (h : absV k e) (h1 : absW w n) : absV (k.set i (UInt64.ofNat w)) (e.set i n) := by
  refine ⟨by rw [List.length_set, List.length_set, h.1], fun j m hj => ?_⟩
  rw [wAt_set]
  rw [List.getElem?_set] at hj
  split at hj
  · rename_i hi
    split at hj
    · rename_i hl
      rw [if_pos ⟨hi, by rw [h.1]; exact hl⟩, u64_of hw, ← Option.some.inj hj]
      exact h1
    · cases hj
  · rename_i hi
    rw [if_neg (fun hh => hi hh.1)]
    exact h.2 j m hj
theorem absV_val {p : Prog} {k : Wd} {e : List Nm} (h : absV k e) (hl : e.length = (varsOf p).length) {a : Atm} (ha : a.1.l ≠ [] → 0 ≤ vIdx p a.1.l ∧ vIdx p a.1.l < ((varsOf p).length : Nat)) (he : vIdx p [] < 0) : absW (refN k (refOf p a)) (valA p e a) := by
  unfold valA refOf
  by_cases h0 : a.1.l = []
  · rw [if_pos h0, h0, if_neg (by omega), refN, if_pos rfl]
    have := absW_of (wrp a.2.1, wrp a.2.2)
    rw [show nOf (wrp a.2.1, wrp a.2.2) = nOf a.2 from by simp only [nOf, wrp_wrp]] at this
    exact this
  · have h1 := ha h0
    rw [if_neg h0, if_pos h1.1, if_pos h1.1, refN, if_neg (by dsimp only; omega)]
    have hlt : (vIdx p a.1.l).toNat < e.length := by omega
    rw [List.getElem?_eq_getElem hlt]
    exact h.2 _ _ (List.getElem?_eq_getElem hlt)
theorem vIdx_nil (p : Prog) : vIdx p [] < 0 := by
  rcases vIdx_range p [] with h | h
  · omega
  · exfalso
    have hm : [] ∈ varsOf p := idxS_some (i := 0) (by omega) h.1
    have hs := vars_sorted p nil_sorted
    have : ∀ (p : Prog) {o : List Bs8}, [] ∉ o → [] ∉ p.foldl blkVars o := by
      have h1 : ∀ (vs : List Bs8) {o : List Bs8}, [] ∉ o → [] ∉ putAll vs o := by
        intro vs
        induction vs with
        | nil => exact fun h => h
        | cons v r ih =>
          intro o h
          refine ih (o := putS v o) ?_
          by_cases hv : v = []
          · rw [hv, putS_nil]; exact h
          · intro hm
            rcases putS_mem hm with hm | hm
            · exact h hm
            · exact hv hm.symm
      have h2 : ∀ (l : List Stmt) {o : List Bs8}, [] ∉ o → [] ∉ bVars o l := by
        intro l
        induction l with
        | nil => exact fun h => h
        | cons v r ih => exact fun h => ih (h1 _ h)
      intro p
      induction p with
      | nil => exact fun h => h
      | cons b r ih => exact fun h => ih (h1 _ (h2 _ h))
    exact this p (by simp) hm
theorem stmtB_var {s : Stmt} (h : stmtB s = true) : (s.1 = 1 ∧ 0 ≤ s.2.2.1 ∧ s.2.2.1 ≤ 4 ∧ s.2.1.l ≠ []) ∨ (s.1 = 2 ∧ s.2.1.l ≠ []) ∨ (s.1 = 3 ∧ s.2.1.l = []) := by
  have hn : ∀ t : Bs8, nmB t = true → t ≠ [] := fun t ht e => by rw [e] at ht; exact absurd ht (by decide)
  unfold stmtB at h
  split at h
  · rename_i h1
    rw [Bool.and_eq_true] at h
    have := exprB_op h.2
    exact .inl ⟨h1, this.1, this.2, hn _ h.1⟩
  · split at h
    · rename_i h1
      rw [Bool.and_eq_true] at h
      exact .inr (.inl ⟨h1, hn _ h.1⟩)
    · split at h
      · rename_i h1
        rw [Bool.and_eq_true, Bool.and_eq_true] at h
        exact .inr (.inr ⟨h1, dt h.1.1⟩)
      · cases h
theorem absV_do {p : Prog} {inn : List Nm} {k : Wd} {s : StE} {b : Block} {x : Stmt} (hk : okW (varsOf p).length k) (h : absV k s.2.1) (hb : b ∈ p) (hx : x ∈ b.2.1) (hs : stmtB x = true) : absV (doL k (codeOf p x)) (doS p inn s x).2.1 := by
  have hl : s.2.1.length = (varsOf p).length := by rw [← h.1, hk.1]
  have he := vIdx_nil p
  have hA : x.2.2.2.1.1.l ≠ [] → _ := fun h0 => vIdx_stmt (t := x.2.2.2.1.1.l) hb hx (by simp) h0
  have hB : x.2.2.2.2.1.l ≠ [] → _ := fun h0 => vIdx_stmt (t := x.2.2.2.2.1.l) hb hx (by simp) h0
  rcases stmtB_var hs with ⟨h1, h2, h3, h4⟩ | ⟨h1, h4⟩ | ⟨h1, h4⟩
  · have hv := vIdx_stmt hb hx (t := x.2.1.l) (by simp) h4
    rw [codeOf, if_neg (by omega), if_pos h1, doS, if_pos h1]
    show absV (doC k _) (setAt p s.2.1 _ _)
    rw [doC, if_neg (by dsimp only; omega)]
    exact absV_set (kOp_lt _ _ _) h (absW_op ⟨h2, h3⟩ (refN_is hk _) (refN_is hk _) (absV_val h hl hA he) (absV_val h hl hB he))
  · have hv := vIdx_stmt hb hx (t := x.2.1.l) (by simp) h4
    rw [codeOf, if_neg (by omega), if_neg (by omega), if_pos h1, doS, if_neg (by omega), if_pos h1]
    show absV (doC k _) (setAt p s.2.1 _ _)
    rw [doC, if_pos rfl]
    exact absV_set (w := 1) (by omega) h ⟨by decide, fun x hx => by rw [show kNum 1 = none from by decide] at hx; cases hx⟩
  · rw [codeOf, h4, if_pos (by omega), doS, if_neg (by omega), if_neg (by omega), if_pos h1]
    exact h
theorem absV_all {p : Prog} {inn : List Nm} {b : Block} (hb : b ∈ p) (hs : ∀ x ∈ b.2.1, stmtB x = true) : ∀ (l : List Stmt) {k : Wd} {s : StE}, (∀ x ∈ l, x ∈ b.2.1) → okW (varsOf p).length k → absV k s.2.1 → absV (doL k (codesOf p l)) (doAll p inn s l).2.1
  | [], _, _, _, _, h => h
  | x :: r, k, s, hl, hk, h => by
    have hx := hl x List.mem_cons_self
    have e : doL k (codesOf p (x :: r)) = doL (doL k (codeOf p x)) (codesOf p r) := by rw [codesOf, List.flatMap_cons, doL, List.foldl_append]; rfl
    rw [e]
    exact absV_all hb hs r (s := doS p inn s x) (fun y hy => hl y (List.mem_cons_of_mem _ hy)) (doL_ok _ hk) (absV_do hk h hb hx (hs x hx))
theorem absV_has0 {k : Wd} {e : List Nm} (h : absV k e) : has0 k = false := by
  cases h0 : has0 k with
  | false => rfl
  | true =>
    exfalso
    obtain ⟨i, hi, h1⟩ := has0_iff.1 h0
    exact (h.2 i _ (List.getElem?_eq_getElem (by rw [← h.1]; exact hi))).1 h1
theorem eAll_mem {p : Prog} : ∀ (l : List Block) (i : Nat) {j : Nat} {b : Block} {e : Edg}, l[j]? = some b → e ∈ eB p (i + j) b → e ∈ eAll p l i
  | [], _, _, _, _, h, _ => by simp at h
  | x :: r, i, 0, b, e, h, he => by
    simp only [List.getElem?_cons_zero, Option.some.injEq] at h
    subst h
    rw [eAll]
    exact List.mem_append_left _ he
  | x :: r, i, j + 1, b, e, h, he => by
    rw [List.getElem?_cons_succ] at h
    rw [eAll]
    exact List.mem_append_right _ (eAll_mem r (i + 1) h (by rw [show i + 1 + j = i + (j + 1) by omega]; exact he))
/-- What an end's names are. -/
theorem check_goes {p : Prog} (h : checkE p = 0) {b : Block} (hb : b ∈ p) {t : Bs8} (ht : t ∈ goes b.2.2) : t ∈ bnames p := by
  unfold checkE at h
  split at h
  · cases h
  · split at h
    · split at h
      · cases h
      · split at h
        · split at h
          · rename_i h5
            exact dt (List.all_eq_true.1 (List.all_eq_true.1 h5 b hb) t ht)
          · cases h
        · cases h
    · cases h
theorem term_kind {p : Prog} (h : checkE p = 0) {b : Block} (hb : b ∈ p) : b.2.2.1 = 1 ∨ b.2.2.1 = 2 ∨ b.2.2.1 = 3 := by
  have h1 := (check_facts h).2.2.2 b hb
  rw [blockB, Bool.and_eq_true, Bool.and_eq_true] at h1
  have h2 := h1.1.2
  unfold termB at h2
  split at h2
  · exact .inl (by assumption)
  · split at h2
    · exact .inr (.inl (by assumption))
    · split at h2
      · exact .inr (.inr (by assumption))
      · cases h2
theorem fol_edge {p : Prog} (h : checkE p = 0) {i : Int} {b : Block} (h0 : 0 ≤ i) (hb : p[i.toNat]? = some b) {s : StE} (h3 : b.2.2.1 ≠ 3) : (i, bIdx p (goTo p s b.2.2)) ∈ edgesOf p := by
  have hm := List.mem_of_getElem? hb
  have hg : ∀ t ∈ goes b.2.2, eN p i.toNat t = [(i, bIdx p t)] := fun t ht => by
    have h1 : t ∈ bnames p := check_goes h hm ht
    have h2 := idxS_at t (nms p) 0 (by omega) h1
    rw [eN, if_pos h2.1, bIdx, Int.max_eq_left h2.1, Int.toNat_of_nonneg h0]
  refine eAll_mem p 0 hb ?_
  rw [Nat.zero_add, eB]
  rcases term_kind h hm with h1 | h1 | h1
  · have e : goTo p s b.2.2 = b.2.2.2.2.1.l := by rw [goTo, if_neg (by omega)]
    rw [if_pos (.inl h1), e, hg _ (by rw [goes, if_pos h1]; simp)]
    simp
  · have hgo : goes b.2.2 = [b.2.2.2.2.1.l, b.2.2.2.2.2.l] := by rw [goes, if_neg (by omega), if_pos h1]
    rw [if_pos (.inr h1), if_pos h1, hg _ (by rw [hgo]; simp), hg _ (by rw [hgo]; simp), goTo]
    split <;> simp
  · exact absurd h1 h3
/-- Where a run stands, what is known is so. -/
def okSt (p : Prog) (s : StE) : Prop := (0 ≤ s.1 ∧ s.1 < (p.length : Nat)) ∧ s.2.1.length = (varsOf p).length ∧ absV (aAt (solveS (sysOf p)) s.1.toNat) s.2.1
theorem okSt_start {p : Prog} (h : checkE p = 0) : okSt p (start0 p) := by
  have hf := check_facts h
  have ho := sysOf_ok h
  have hm : (0 : Nat) < (sysOf p).m := by show 0 < p.length; omega
  refine ⟨⟨Int.le_refl _, by show (0 : Int) < _; omega⟩, by simp [start0], ?_⟩
  refine absV_le (sol_start ho (v := 0) hm) ?_
  have e : vStart (sysOf p) 0 = List.replicate (varsOf p).length two64 := by
    rw [vStart, if_pos (by show ((0 : Nat) : Int) ∈ [(0 : Int)]; simp)]; rfl
  rw [e]
  refine ⟨by simp [start0], fun i n hi => ?_⟩
  have hi : (List.replicate (varsOf p).length ((0, 0) : Nm))[i]? = some n := hi
  rw [List.getElem?_replicate] at hi
  split at hi
  · rename_i hlt
    have e : wAt (List.replicate (varsOf p).length two64) i = 2 := by rw [wAt, List.getElem?_replicate, if_pos hlt]; rfl
    rw [e, ← Option.some.inj hi, ← kOf_zero]
    exact absW_of (0, 0)
  · cases hi
theorem okSt_step {p : Prog} (h : checkE p = 0) {inn : List Nm} {s : StE} (hs : okSt p s) (hg : (folS p (runB p inn s)).2 = true) : okSt p (folS p (runB p inn s)).1 := by
  have hf := check_facts h
  have ho := sysOf_ok h
  obtain ⟨⟨h0, h1⟩, h2, h3⟩ := hs
  have hlt : s.1.toNat < p.length := by omega
  obtain ⟨b, hb⟩ : ∃ b, p[s.1.toNat]? = some b := ⟨_, List.getElem?_eq_getElem hlt⟩
  have hm := List.mem_of_getElem? hb
  have hst := block_stmts (hf.2.2.2 b hm)
  have er : runB p inn s = doAll p inn s b.2.1 := by rw [runB, blkN_get hb]
  have hd := doAll_blk p inn b.2.1 s
  have hw : okW (varsOf p).length (aAt (solveS (sysOf p)) s.1.toNat) := aAt_ok (solveS_ok ho) hlt
  have ha := absV_all (inn := inn) hm hst b.2.1 (fun x hx => hx) hw h3
  rw [er] at hg ⊢
  unfold folS at hg ⊢
  rw [hd.1, blkN_get hb] at hg ⊢
  split at hg
  · cases hg
  · rename_i h3'
    rw [if_neg h3']
    have hr := bIdx_range p (goTo p (doAll p inn s b.2.1) b.2.2) hf.1
    refine ⟨hr, by show (doAll p inn s b.2.1).2.1.length = _; rw [hd.2, h2], ?_⟩
    have he := fol_edge h h0 hb (s := doAll p inn s b.2.1) h3'
    have hle := sol_edge ho (e := (s.1, bIdx p (goTo p (doAll p inn s b.2.1) b.2.2))) ((gSort_mem _ _).2 he)
    refine absV_le hle ?_
    show absV (vApp (tAt (sysOf p) s.1.toNat) (aAt (solveS (sysOf p)) s.1.toNat)) _
    rw [sys_t hb, vApp, if_neg (by rw [absV_has0 h3]; decide)]
    exact ha
theorem okSt_all {p : Prog} (h : checkE p = 0) (inn : List Nm) (k : Nat) : ∀ s ∈ (itS p inn (start0 p) k).1, okSt p s :=
  (itS_inv (okSt p) (okSt_start h) (fun _ hs hg => okSt_step h hs hg) k).1
end Go.Proofs
end
section
namespace Go.Proofs
open Go.Sy
set_option maxRecDepth 20000
set_option maxHeartbeats 4000000
/-! Two systems that are alike. -/
end Go.Proofs
end
section
namespace Go.Proofs
open Go.Sy
set_option maxRecDepth 20000
set_option maxHeartbeats 4000000
theorem sets_spec {p : Prog} (hp : p.length ≤ 12) (hl : ∀ b ∈ p, b.2.1.length ≤ 1000000) (hc : stmtsN p ≤ 1000000) (hv : cnt p < 400000) {a : Option Addr} {n c : Nat} {H : Hp} {K : Value → Hp → Prop} (ha : RL H a n c p)
    (hbad : checkE p ≠ 0 → ∀ H', Le H H' → K (.tuple #[.slice none 0 0, .slice none 0 0, .int .i64 (checkE p)]) H')
    (hK : checkE p = 0 → ∀ a1 n1 c1 a2 n2 c2 H', Le H H' → RL H' a1 n1 c1 (solveS (sysOf p)) → RL H' a2 n2 c2 (outsS (sysOf p) (solveS (sysOf p))) → K (.tuple #[.slice a1 n1 c1, .slice a2 n2 c2, .int .i64 0]) H') :
    Does Tryz.prog 10 [.agg #[.slice a n c]] H K := by
  refine spec_of cx_ok cx_mix rfl Tryz.func10 Tryz.call10 Tryz.ntmps10 Tryz.results10 rfl rfl ?_
  refine psys_spec hp hl hc hv ha (fun he H1 hle1 => ?_) (fun he z H1 hle1 hs => ?_)
  · refine ⟨fun _ => ?_, (fun h => absurd (nf h) he)⟩
    exact hbad he _ hle1
  · have ho := sysOf_ok he
    refine ⟨(fun h => absurd rfl (nt h)), fun _ => ?_⟩
    refine lsolve_spec ho hs fun a1 n1 c1 k H2 hle2 hr2 => ?_
    refine louts_spec ho (solveS_ok ho) (hs.up hle2) hr2 fun a2 n2 c2 H3 hle3 hr3 => ?_
    exact hK he _ _ _ _ _ _ _ ((hle1.trans hle2).trans hle3) (hr2.up hle3) hr3
theorem at_spec {p : Prog} (hp : p.length ≤ 12) (hl : ∀ b ∈ p, b.2.1.length ≤ 1000000) (hc : stmtsN p ≤ 1000000) (hv : cnt p < 400000) {a : Option Addr} {n c : Nat} {i j : Int} {H : Hp} {K : Value → Hp → Prop} (ha : RL H a n c p)
    (hbad : checkE p ≠ 0 → ∀ H', Le H H' → K (.tuple #[.slice none 0 0, .int .i64 (checkE p)]) H')
    (hout : checkE p = 0 → (¬ (0 ≤ i ∧ 0 ≤ j ∧ ∃ b, p[i.toNat]? = some b ∧ i < (p.length : Nat) ∧ j ≤ (b.2.1.length : Nat))) → ∀ H', Le H H' → K (.tuple #[.slice none 0 0, .int .i64 1]) H')
    (hK : checkE p = 0 → ∀ b, p[i.toNat]? = some b → 0 ≤ i → 0 ≤ j → j ≤ (b.2.1.length : Nat) → i < (p.length : Nat) → ∀ a1 n1 c1 H', Le H H' → RL H' a1 n1 c1 (vApp (codesOf p (b.2.1.take j.toNat)) (aAt (solveS (sysOf p)) i.toNat)) → K (.tuple #[.slice a1 n1 c1, .int .i64 0]) H') :
    Does Tryz.prog 54 [.agg #[.slice a n c], .int .i64 i, .int .i64 j] H K := by
  have hn := ha.n_eq
  have hmx := ha.le
  refine spec_of cx_ok cx_mix rfl Tryz.func54 Tryz.call54 Tryz.ntmps54 Tryz.results54 rfl rfl ?_
  refine sets_spec hp hl hc hv ha (fun he H1 hle1 => ?_) (fun he a1 n1 c1 a2 n2 c2 H1 hle1 hr1 hr2 => ?_)
  · refine ⟨fun _ => ?_, (fun h => absurd (nf h) he)⟩
    exact hbad he _ hle1
  have ho := sysOf_ok he
  have hA := solveS_ok ho
  have hn1 := hr1.n_eq
  rw [hA.len] at hn1
  have hm : (sysOf p).m = p.length := rfl
  refine ⟨(fun h => absurd rfl (nt h)), fun _ => ?_⟩
  refine ⟨fun h0 => ?f0, fun h0 => ?t0⟩
  case t0 => exact hout he (fun h => absurd (dt h0) (by omega)) _ hle1
  refine ⟨fun h1 => ?f1, fun h1 => ?t1⟩
  case t1 => exact hout he (fun h => h.2.2.elim fun b hb => absurd (dt h1) (by omega)) _ hle1
  refine ⟨fun h2 => ?f2, fun h2 => ?t2⟩
  case t2 => exact hout he (fun h => absurd (dt h2) (by omega)) _ hle1
  have h0 := df h0
  have h1 := df h1
  have h2 := df h2
  have hlt : i.toNat < p.length := by omega
  refine name_k p[i.toNat] fun b hbe => ?_
  have hbb : p[i.toNat]? = some b := by rw [hbe]; exact List.getElem?_eq_getElem hlt
  have hok := check_facts he
  refine block_kI (ha.up hle1) (by omega) hbb fun ad a5 n5 c5 q1 hh hr5 hs5 ht5 => ?_
  have hn5 := hr5.n_eq
  refine ⟨ad, ⟨by omega, by omega, q1⟩, ?_⟩
  refine ⟨_, hh, ?_⟩
  refine ⟨fun h3 => ?t3, fun h3 => ?f3⟩
  case t3 =>
    refine hout he (fun h => h.2.2.elim fun b' hb' => ?_) _ hle1
    have hb := hb'.1
    rw [hbb] at hb
    cases hb
    exact absurd (dt h3) (by omega)
  have h3 := df h3
  have hAi : (solveS (sysOf p))[i.toNat]? = some (aAt (solveS (sysOf p)) i.toNat) := aAt_get hA (by rw [hm]; exact hlt)
  have hAo := aAt_ok hA (v := i.toNat) (by rw [hm]; exact hlt)
  have ei : ((i.toNat : Nat) : Int) = i := Int.toNat_of_nonneg (by omega)
  refine list_k hr1 hAi fun ad2 a6 n6 c6 q2 hh2 hr6 => ?_
  rw [ei] at hh2
  have hn6 := hr6.n_eq
  rw [hAo.1] at hn6
  refine ⟨some ([], [0, 1, 2, 3, 4, 5, 6, 7, 8, 9, 10, 11, 12, 13, 16, 17, 18, 19, 14, 15, 20, 21, 22, 23, 24]), by kernel_rfl, ?_⟩
  refine ⟨ad2, ⟨by omega, by omega, q2⟩, ?_⟩
  refine ⟨_, hh2, ?_⟩
  refine ⟨ad, ⟨by omega, by omega, q1⟩, ?_⟩
  refine ⟨_, hh, ?_⟩
  have hj0 : j.toNat ≤ n5 := by omega
  have hcut := hr5.cut (l := 0) (k := j.toNat) (Nat.zero_le _) hj0
  have hbl := hl b (by rw [hbe]; exact List.getElem_mem hlt)
  have hlt2 : ((b.2.1.take j.toNat).drop 0).length ≤ 1000000 := by rw [List.drop_zero, List.length_take]; omega
  refine ⟨⟨by omega, by omega, by have := hr5.2.1; omega⟩, ?_⟩
  refine ⟨ad2, ⟨by omega, by omega, q2⟩, ?_⟩
  refine ⟨_, hh2, ?_⟩
  refine codes_spec hv (vars_small he) hlt2 (ha.up hle1) hcut fun a7 n7 c7 H2 hle2 hr7 => ?_
  rw [List.drop_zero] at hr7
  have hr6 := hr6.up hle2
  rw [hn6] at hr6 ⊢
  refine tapply_spec (sysOf_ok he).w hAo (codesOf_ok (fun s hs => block_stmts (hok.2.2.2 b (List.mem_of_getElem? hbb)) s (List.mem_of_mem_take hs))) hr6 hr7 fun a8 n8 c8 H3 hle3 hr8 => ?_
  exact hK he b hbb (by omega) (by omega) (by omega) (by omega) _ _ _ _ ((hle1.trans hle2).trans hle3) hr8
end Go.Proofs
end
section
namespace Go.Proofs
open Go.Sy
set_option maxRecDepth 20000
set_option maxHeartbeats 4000000
/-! Folding of expressions (from V5, V6). -/
def nAt (op : Int) : Nat := if op = 0 ∨ op = 4 then 1 else if op = 1 ∨ op = 2 ∨ op = 3 then 2 else 0
theorem atomsOf_len (x : Expr) : (atomsOf x).length = nAt x.1 := by
  unfold atomsOf nAt op1 op2
  by_cases h0 : x.1 = 0 ∨ x.1 = 4
  · rw [if_pos h0, if_pos (by simpa using h0)]; rfl
  · rw [if_neg h0, if_neg (by simpa using h0)]
    by_cases h1 : x.1 = 1 ∨ x.1 = 2 ∨ x.1 = 3
    · rw [if_pos h1, if_pos (by simpa [or_assoc] using h1)]; rfl
    · rw [if_neg h1, if_neg (by simpa [or_assoc] using h1)]; rfl
theorem vatoms_spec {x : Expr} (hx : exprR x) {H : Hp} {K : Value → Hp → Prop} (hK : ∀ a c H', Le H H' → K (.slice a (nAt x.1) c) H') : Does Tryz.prog 95 [exprA x] H K := by
  refine patoms_spec hx fun a n c H' hle hr => ?_
  have hn := hr.n_eq
  rw [atomsOf_len] at hn
  rw [hn]
  exact hK _ _ _ hle
theorem vratoms_spec {x : Expr} (hx : exprR x) {H : Hp} {K : Value → Hp → Prop} (hK : ∀ a c H', Le H H' → K (.slice a (nAt x.1) c) H') : Does Tryz.prog 101 [exprA x] H K := by
  refine ratoms_spec hx fun a n c H' hle hr => ?_
  have hn := hr.n_eq
  rw [atomsOf_len] at hn
  rw [hn]
  exact hK _ _ _ hle
def foldA (p : Prog) (known : List UInt64) (a : Atm) : Atm :=
  let i := idxS a.1.l (varsOf p) 0
  if 0 ≤ i ∧ i < known.length then (match kNum (known[i.toNat]?.getD 0).toNat with
    | some n => (⟨[]⟩, n)
    | none => a) else a
theorem kNum_R {w : Nat} {n : Nm} (h : kNum w = some n) : i64R n.1 ∧ i64R n.2 := by
  unfold kNum at h
  split at h
  · simp only [Option.some.injEq] at h
    subst h
    exact ⟨⟨by have := wrp_le ((w / 4 % 65536 : Nat) : Int); dsimp only; omega, by have := wrp_le ((w / 4 % 65536 : Nat) : Int); dsimp only; omega⟩, ⟨by have := wrp_le ((w / 4 / 65536 : Nat) : Int); dsimp only; omega, by have := wrp_le ((w / 4 / 65536 : Nat) : Int); dsimp only; omega⟩⟩
  · cases h
theorem foldA_R {p : Prog} {known : List UInt64} {x : Atm} (h : atmR x) : atmR (foldA p known x) := by
  unfold foldA
  dsimp only
  split
  · split
    · rename_i n hn
      exact ⟨Nat.zero_le _, (kNum_R hn).1, (kNum_R hn).2⟩
    · exact h
  · exact h
theorem vatom_spec {p : Prog} {known : List UInt64} {x : Atm} {a ka : Option Addr} {n c kn kc : Nat} {H : Hp} {K : Value → Hp → Prop} (ha : RL H a n c p) (hk : RL H ka kn kc known) (hc : cnt p < 400000)
    (hK : ∀ H', Le H H' → K (atmA (foldA p known x)) H') : Does Tryz.prog 56 [.agg #[.slice a n c], .slice ka kn kc, atmA x] H K := by
  refine spec_of cx_ok cx_mix rfl Tryz.func56 Tryz.call56 Tryz.ntmps56 Tryz.results56 rfl rfl ?_
  refine var_spec ha hc fun H1 hle1 => ?_
  have hK := hK _ (Le.refl H)
  have hrg := idxS_range x.1.l (varsOf p) 0 (by omega)
  have hkn := hk.n_eq
  unfold foldA at hK
  obtain ⟨i, hi⟩ : ∃ i, i = idxS x.1.l (varsOf p) 0 := ⟨_, rfl⟩
  rw [← hi] at hK hrg ⊢
  refine ⟨fun h => ?_, fun h => ?_⟩
  · have h0 : 0 ≤ i := nf h
    have e0 : max i 0 = i := by omega
    refine ⟨fun h => ?_, fun h => ?_⟩
    · have h1 := dt h
      rw [e0] at h1
      simp only [show ¬ (0 ≤ i ∧ i < (known.length : Int)) by omega, if_false] at hK
      exact hK
    · have h1 := df h
      rw [e0] at h1
      have hlt : i.toNat < known.length := by omega
      have hx := List.getElem?_eq_getElem hlt
      simp only [show (0 ≤ i ∧ i < (known.length : Int)) by omega, and_self, if_true, hx, Option.getD_some] at hK
      have hel := hk.elem hx
      obtain ⟨ad, cs, e1, hh, r1⟩ := hel
      have hcs : cs = [.int .u64 known[i.toNat].toNat] := r1
      rw [hcs] at hh
      have e2 : ((i.toNat : Nat) : Int) = max i 0 := by omega
      rw [e2] at hh
      refine ⟨ad, ⟨by omega, by omega, e1⟩, ?_⟩
      refine ⟨_, hh, ?_⟩
      cases hm : kNum known[i.toNat].toNat with
      | none =>
        rw [hm] at hK
        refine knum_spec known[i.toNat].toNat_lt ?_
        rw [hm]
        exact ⟨fun _ => hK, fun h => by cases h⟩
      | some n =>
        rw [hm] at hK
        refine knum_spec known[i.toNat].toNat_lt ?_
        rw [hm]
        exact ⟨(fun h => by cases h), fun _ => hK⟩
  · have h0 : ¬ 0 ≤ i := fun hh => by rw [decide_eq_true hh] at h; cases h
    simp only [show ¬ (0 ≤ i ∧ i < (known.length : Int)) by omega, if_false] at hK
    exact hK
theorem change_spec {p : Prog} {known : List UInt64} {x : Expr} {a ka : Option Addr} {n c kn kc : Nat} {b : Bool} {H : Hp} {K : SV → St → Hp → Prop} (ha : RL H a n c p) (hk : RL H ka kn kc known) (hc : cnt p < 400000)
    (hK : ∀ b', b' = (b && decide ((foldA p known x.2.1).1.l = [])) → K (.tup []) ⟨[], [(0, .cells 63 (vL (exprV (x.1, foldA p known x.2.1, x.2.2)))), (1, .cells 24 [.v (.slice a n c)]), (2, .cells 44 [.v (.slice ka kn kc)]), (3, .cells 4 [.kb b'])], 4⟩ H) :
    DoesG Tryz.prog 94 [.ptr 0 1, .ptr 1 0, .ptr 2 0, .ptr 3 0] [(0, .cells 63 (vL (exprV x))), (1, .cells 24 [.v (.slice a n c)]), (2, .cells 44 [.v (.slice ka kn kc)]), (3, .cells 4 [.kb b])] 4 H K := by
  refine spec_ofG cx_ok cx_mix Tryz.func94 Tryz.call94 Tryz.ntmps94 Tryz.results94 rfl rfl ?_
  refine ⟨some ([0], [0, 1, 2, 3, 4, 5, 6, 7, 8]), by kernel_rfl, ?_⟩
  refine vatom_spec ha hk hc fun H1 hle1 => ?_
  obtain ⟨y, hy⟩ : ∃ y, y = foldA p known x.2.1 := ⟨_, rfl⟩
  rw [← hy] at hK ⊢
  cases b with
  | true =>
    exact ⟨.tup [], [(0, .cells 63 (vL (exprV (x.1, y, x.2.2)))), (1, .cells 24 [.v (.slice a n c)]), (2, .cells 44 [.v (.slice ka kn kc)]), (3, .cells 4 [.kb (decide (y.1.l = []))])], 4, [(0, 0), (1, 1), (2, 2), (3, 3)],
      ⟨⟨⟨rfl, rfl⟩, trivial⟩, ⟨⟨rfl, rfl, rfl, rfl, rfl, rfl, rfl, trivial⟩, ⟨rfl, trivial⟩, ⟨rfl, trivial⟩, ⟨rfl, trivial⟩, trivial⟩⟩, hK _ rfl⟩
  | false =>
    exact ⟨.tup [], [(0, .cells 63 (vL (exprV (x.1, y, x.2.2)))), (1, .cells 24 [.v (.slice a n c)]), (2, .cells 44 [.v (.slice ka kn kc)]), (3, .cells 4 [.kb false])], 4, [(0, 0), (1, 1), (2, 2), (3, 3)],
      ⟨⟨⟨rfl, rfl⟩, trivial⟩, ⟨⟨rfl, rfl, rfl, rfl, rfl, rfl, rfl, trivial⟩, ⟨rfl, trivial⟩, ⟨rfl, trivial⟩, ⟨rfl, trivial⟩, trivial⟩⟩, hK _ rfl⟩
theorem change2_spec {p : Prog} {known : List UInt64} {x : Expr} {a ka : Option Addr} {n c kn kc : Nat} {b : Bool} {H : Hp} {K : SV → St → Hp → Prop} (ha : RL H a n c p) (hk : RL H ka kn kc known) (hc : cnt p < 400000)
    (hK : ∀ b', b' = (b && decide ((foldA p known x.2.2).1.l = [])) → K (.tup []) ⟨[], [(0, .cells 63 (vL (exprV (x.1, x.2.1, foldA p known x.2.2)))), (1, .cells 24 [.v (.slice a n c)]), (2, .cells 44 [.v (.slice ka kn kc)]), (3, .cells 4 [.kb b'])], 4⟩ H) :
    DoesG Tryz.prog 94 [.ptr 0 4, .ptr 1 0, .ptr 2 0, .ptr 3 0] [(0, .cells 63 (vL (exprV x))), (1, .cells 24 [.v (.slice a n c)]), (2, .cells 44 [.v (.slice ka kn kc)]), (3, .cells 4 [.kb b])] 4 H K := by
  refine spec_ofG cx_ok cx_mix Tryz.func94 Tryz.call94 Tryz.ntmps94 Tryz.results94 rfl rfl ?_
  refine ⟨some ([0], [0, 1, 2, 3, 4, 5, 6, 7, 8]), by kernel_rfl, ?_⟩
  refine vatom_spec ha hk hc fun H1 hle1 => ?_
  obtain ⟨y, hy⟩ : ∃ y, y = foldA p known x.2.2 := ⟨_, rfl⟩
  rw [← hy] at hK ⊢
  cases b with
  | true =>
    exact ⟨.tup [], [(0, .cells 63 (vL (exprV (x.1, x.2.1, y)))), (1, .cells 24 [.v (.slice a n c)]), (2, .cells 44 [.v (.slice ka kn kc)]), (3, .cells 4 [.kb (decide (y.1.l = []))])], 4, [(0, 0), (1, 1), (2, 2), (3, 3)],
      ⟨⟨⟨rfl, rfl⟩, trivial⟩, ⟨⟨rfl, rfl, rfl, rfl, rfl, rfl, rfl, trivial⟩, ⟨rfl, trivial⟩, ⟨rfl, trivial⟩, ⟨rfl, trivial⟩, trivial⟩⟩, hK _ rfl⟩
  | false =>
    exact ⟨.tup [], [(0, .cells 63 (vL (exprV (x.1, x.2.1, y)))), (1, .cells 24 [.v (.slice a n c)]), (2, .cells 44 [.v (.slice ka kn kc)]), (3, .cells 4 [.kb false])], 4, [(0, 0), (1, 1), (2, 2), (3, 3)],
      ⟨⟨⟨rfl, rfl⟩, trivial⟩, ⟨⟨rfl, rfl, rfl, rfl, rfl, rfl, rfl, trivial⟩, ⟨rfl, trivial⟩, ⟨rfl, trivial⟩, ⟨rfl, trivial⟩, trivial⟩⟩, hK _ rfl⟩
def foldE (p : Prog) (known : List UInt64) (x : Expr) : Expr :=
  let y1 := if 0 < nAt x.1 then foldA p known x.2.1 else x.2.1
  let y2 := if 1 < nAt x.1 then foldA p known x.2.2 else x.2.2
  if 0 < nAt x.1 ∧ y1.1.l = [] ∧ (nAt x.1 = 1 ∨ y2.1.l = []) then (0, (⟨[]⟩, nOp x.1 y1.2 y2.2), (⟨[]⟩, (0, 0))) else (x.1, y1, y2)
theorem nAt_is (op : Int) : opIs op = decide (0 < nAt op) := by
  unfold opIs nAt
  by_cases h : op = 0 ∨ op = 4
  · rw [if_pos h]; exact decide_eq_true (by omega)
  · rw [if_neg h]
    by_cases h' : op = 1 ∨ op = 2 ∨ op = 3
    · rw [if_pos h']; exact decide_eq_true (by omega)
    · rw [if_neg h']; exact decide_eq_false (by omega)
theorem vexpr_spec {p : Prog} {known : List UInt64} {x : Expr} (hx : exprR x) {a ka : Option Addr} {n c kn kc : Nat} {H : Hp} {K : Value → Hp → Prop} (ha : RL H a n c p) (hk : RL H ka kn kc known) (hc : cnt p < 400000)
    (hK : ∀ H', Le H H' → K (exprA (foldE p known x)) H') : Does Tryz.prog 51 [.agg #[.slice a n c], .slice ka kn kc, exprA x] H K := by
  refine spec_of cx_ok cx_mix rfl Tryz.func51 Tryz.call51 Tryz.ntmps51 Tryz.results51 rfl rfl ?_
  have hop := nAt_is x.1
  refine vatoms_spec hx fun a1 c1 H1 hle1 => ?_
  refine ⟨fun h => ?_, fun h => ?_⟩
  · have h0 : 0 < nAt x.1 := by have := dt h; omega
    refine ⟨[2, 0, 1, 4], rfl, ?_⟩
    refine change_spec (ha.up hle1) (hk.up hle1) hc fun b hb => ?_
    obtain ⟨y1, hy1⟩ : ∃ y, y = foldA p known x.2.1 := ⟨_, rfl⟩
    rw [← hy1] at hb ⊢
    refine vatoms_spec (x := (x.1, y1, x.2.2)) ⟨hx.1, by rw [hy1]; exact foldA_R hx.2.1, hx.2.2⟩ fun a2 c2 H2 hle2 => ?_
    have hK := hK _ (hle1.trans hle2)
    refine ⟨fun h => ?_, fun h => ?_⟩
    · have h1 : 1 < nAt x.1 := by have := dt h; simp only at this; omega
      refine ⟨[2, 0, 1, 4], rfl, ?_⟩
      refine change2_spec (x := (x.1, y1, x.2.2)) (ha.up (hle1.trans hle2)) (hk.up (hle1.trans hle2)) hc fun b' hb' => ?_
      refine gop_spec (a := y1.2) (b := (foldA p known x.2.2).2) ?_
      rw [hop, decide_eq_true h0]
      have hE : foldE p known x = if y1.1.l = [] ∧ (foldA p known x.2.2).1.l = [] then (0, (⟨[]⟩, nOp x.1 y1.2 (foldA p known x.2.2).2), (⟨[]⟩, (0, 0))) else (x.1, y1, foldA p known x.2.2) := by
        unfold foldE
        simp only [h0, h1, if_true, ← hy1, true_and, show ¬ nAt x.1 = 1 by omega, false_or]
      rw [hE] at hK
      cases b' with
      | true =>
        have hb2 : y1.1.l = [] ∧ (foldA p known x.2.2).1.l = [] := by rw [hb] at hb'; simpa using hb'.symm
        rw [if_pos hb2] at hK
        exact ⟨(fun h => by cases h), fun _ => hK⟩
      | false =>
        have hb2 : ¬ (y1.1.l = [] ∧ (foldA p known x.2.2).1.l = []) := by
          rw [hb] at hb'
          intro hh
          simp [hh.1, hh.2] at hb'
        rw [if_neg hb2] at hK
        exact hK
    · have h1 : ¬ 1 < nAt x.1 := by have := df h; simp only at this; omega
      refine gop_spec (a := y1.2) (b := x.2.2.2) ?_
      rw [hop, decide_eq_true h0]
      have hE : foldE p known x = if y1.1.l = [] then (0, (⟨[]⟩, nOp x.1 y1.2 x.2.2.2), (⟨[]⟩, (0, 0))) else (x.1, y1, x.2.2) := by
        have hn1 : nAt x.1 = 1 := by omega
        unfold foldE
        rw [hn1, ← hy1]
        simp only [show (0 : Nat) < 1 by decide, show ¬ (1 : Nat) < 1 by decide, if_true, if_false, true_and, true_or, and_true]
      rw [hE] at hK
      cases b with
      | true =>
        have hb2 : y1.1.l = [] := by simpa using hb.symm
        rw [if_pos hb2] at hK
        exact ⟨(fun h => by cases h), fun _ => hK⟩
      | false =>
        have hb2 : ¬ y1.1.l = [] := by
          intro hh
          simp [hh] at hb
        rw [if_neg hb2] at hK
        exact hK
  · have h0 : ¬ 0 < nAt x.1 := by have := df h; omega
    have hE : foldE p known x = x := by
      unfold foldE
      simp only [h0, show ¬ 1 < nAt x.1 by omega, if_false, false_and]
    refine vatoms_spec hx fun a2 c2 H2 hle2 => ?_
    have hK := hK _ (hle1.trans hle2)
    rw [hE] at hK
    refine ⟨fun h => ?_, fun h => ?_⟩
    · have := dt h; omega
    · refine gop_spec (a := x.2.1.2) (b := x.2.2.2) ?_
      rw [hop, decide_eq_false h0]
      exact ⟨fun _ => hK, fun h => by cases h⟩
end Go.Proofs
end
section
namespace Go.Proofs
open Go.Sy
set_option maxRecDepth 20000
set_option maxHeartbeats 4000000
/-! The example, and PropSystems. -/
def stX : Stmt := (1, ⟨[120]⟩, 3, (⟨[]⟩, 2, 0), (⟨[]⟩, 3, 0))
def blX : Block := (⟨[97]⟩, [stX], (3, za, ⟨[]⟩, ⟨[]⟩))
def progX : Prog := [blX]
theorem checkE_progX : checkE progX = 0 := by decide +kernel
theorem outs_progX : outsS (sysOf progX) (solveS (sysOf progX)) = [[UInt64.ofNat (kOf (6, 0))]] := by decide +kernel
theorem stX_R : stmtR stX := ⟨⟨by decide, by decide⟩, Nat.le_of_lt_succ (by decide), ⟨by decide, by decide⟩, ⟨Nat.zero_le _, ⟨by decide, by decide⟩, ⟨by decide, by decide⟩⟩, ⟨Nat.zero_le _, ⟨by decide, by decide⟩, ⟨by decide, by decide⟩⟩⟩
theorem stmt_mk {H : Hp} {s : Stmt} (h : stmtR s) : Enc.R H (.int .i64 s.1 :: .string (bs s.2.1.l) :: .int .i64 s.2.2.1 :: (atmV s.2.2.2.1 ++ atmV s.2.2.2.2)) s :=
  ⟨[.int .i64 s.1], _, rfl, ⟨rfl, h.1⟩, [.string (bs s.2.1.l)], _, rfl, ⟨rfl, h.2.1⟩, [.int .i64 s.2.2.1], atmV s.2.2.2.1 ++ atmV s.2.2.2.2, rfl, ⟨rfl, h.2.2.1⟩, atmV s.2.2.2.1, atmV s.2.2.2.2, rfl, atm_mk h.2.2.2.1, atm_mk h.2.2.2.2⟩
theorem awake41_spec {H : Hp} {K : Value → Hp → Prop} (hK : ∀ H', Le H H' → K (.bool true) H') : Does Tryz.prog 6 [] H K := by
  refine spec_of cx_ok cx_mix rfl Tryz.func6 Tryz.call6 Tryz.ntmps6 Tryz.results6 rfl rfl ?_
  intro x H1 hle1 hx
  have hrs : RC (α := Stmt) H1 _ [stX] := RC.nil.snoc (stmt_mk stX_R)
  refine of_row_k (α := Stmt) hx hrs fun sa sn sc ex hr1 => ?_
  subst ex
  intro y H2 hle2 hy
  have hrb : RC (α := Block) H2 _ progX := RC.nil.snoc (block_mk (b := blX) (hr1.up hle2.le) (Nat.le_of_lt_succ (by decide)) ⟨⟨by decide, by decide⟩, za_R, Nat.zero_le _, Nat.zero_le _⟩)
  refine of_row_k (α := Block) hy hrb fun a n c ey hr => ?_
  subst ey
  have hle := hle1.le.trans hle2.le
  refine sets_spec (p := progX) (by decide) (by decide) (by decide) (by decide) hr (fun he => absurd checkE_progX he) (fun _ a1 n1 c1 a2 n2 c2 H3 hle3 hr3 hr4 => ?_)
  rw [outs_progX] at hr4
  have hn4 : n2 = 1 := hr4.n_eq
  refine list_k hr4 (i := 0) (x := [UInt64.ofNat (kOf (6, 0))]) rfl fun ad a5 n5 c5 q1 hh hr5 => ?_
  have hn5 : n5 = 1 := hr5.n_eq
  refine word_k hr5 (i := 0) (x := UInt64.ofNat (kOf (6, 0))) rfl fun ad2 q2 hh2 _ => ?_
  refine ⟨some ([], [0, 1, 2, 3, 4, 5, 6, 7, 8, 9, 10, 11, 12, 13, 14, 15, 16, 17]), by kernel_rfl, ?_⟩
  refine ⟨fun _ => ?_, fun h => absurd rfl (df h)⟩
  refine ⟨fun _ => ?_, fun h => absurd (by rw [hn4]; rfl) (df h)⟩
  refine ⟨ad, ⟨by omega, by omega, q1⟩, ?_⟩
  refine ⟨_, hh, ?_⟩
  refine ⟨ad2, ⟨by omega, by omega, q2⟩, ?_⟩
  refine ⟨_, hh2, ?_⟩
  refine rkof_spec (a := (6, 0)) ?_
  exact kbool (hK _ (hle.trans hle3)) (by decide +kernel)
theorem zt_R : termR (0, za, ⟨[]⟩, ⟨[]⟩) := ⟨⟨by decide, by decide⟩, za_R, Nat.zero_le _, Nat.zero_le _⟩
end Go.Proofs
end
section
namespace Go.Proofs
open Go.Sy
set_option maxRecDepth 20000
set_option maxHeartbeats 4000000
/-! Folding: statements, the example. -/
theorem nOf_R (a : Nm) : i64R (nOf a).1 ∧ i64R (nOf a).2 := by
  have h1 := wrp_le a.1
  have h2 := wrp_le a.2
  exact ⟨⟨by show _ ≤ wrp a.1; omega, by show wrp a.1 ≤ _; omega⟩, ⟨by show _ ≤ wrp a.2; omega, by show wrp a.2 ≤ _; omega⟩⟩
theorem nOp_R (op : Int) (a b : Nm) : i64R (nOp op a b).1 ∧ i64R (nOp op a b).2 := by
  unfold nOp
  repeat' split
  all_goals first | exact nOf_R _ | exact ⟨⟨by decide, by decide⟩, ⟨by decide, by decide⟩⟩
theorem ze_R : atmR (⟨[]⟩, 0, 0) := ⟨Nat.zero_le _, ⟨by decide, by decide⟩, ⟨by decide, by decide⟩⟩
theorem zero_R : i64R 0 := ⟨by decide, by decide⟩
theorem foldE_R {p : Prog} {known : List UInt64} {x : Expr} (h : exprR x) : exprR (foldE p known x) := by
  have h1 : atmR (if 0 < nAt x.1 then foldA p known x.2.1 else x.2.1) := by
    split
    · exact foldA_R h.2.1
    · exact h.2.1
  have h2 : atmR (if 1 < nAt x.1 then foldA p known x.2.2 else x.2.2) := by
    split
    · exact foldA_R h.2.2
    · exact h.2.2
  have key : ∀ (y1 y2 : Atm), atmR y1 → atmR y2 → ∀ (c : Prop) [Decidable c], exprR (if c then (0, (⟨[]⟩, nOp x.1 y1.2 y2.2), (⟨[]⟩, (0, 0))) else (x.1, y1, y2)) := fun y1 y2 h1 h2 c _ => by
    split
    · exact ⟨zero_R, ⟨Nat.zero_le _, (nOp_R _ _ _).1, (nOp_R _ _ _).2⟩, ze_R⟩
    · exact ⟨h.1, h1, h2⟩
  exact key _ _ h1 h2 _
theorem has0_cons (x : UInt64) (r : Wd) : has0 (x :: r) = (decide (x.toNat = 0) || has0 r) := rfl
def foldS (p : Prog) (known : List UInt64) (s : Stmt) : Stmt := if s.1 = 1 ∨ s.1 = 3 then (s.1, s.2.1, foldE p known s.2.2) else s
theorem foldS_R {p : Prog} {known : List UInt64} {s : Stmt} (h : stmtR s) : stmtR (foldS p known s) := by
  unfold foldS
  split
  · exact ⟨h.1, h.2.1, foldE_R h.2.2⟩
  · exact h
theorem never_spec {l : Wd} {a : Option Addr} {n c : Nat} {H : Hp} {K : Value → Hp → Prop} (ha : RL H a n c l) (hK : K (.bool (has0 l)) H) : Does Tryz.prog 53 [.slice a n c] H K := by
  have hn := ha.n_eq
  have hmx := ha.le
  refine spec_of cx_ok cx_mix rfl Tryz.func53 Tryz.call53 Tryz.ntmps53 Tryz.results53 rfl rfl ?_
  refine ⟨Nat, fun i => ⟨[(5, .v (.slice a n c)), (6, .v (.int .i64 n)), (7, .v (.int .i64 i))], [], 0⟩,
    fun i H' => H' = H ∧ i ≤ l.length ∧ has0 l = has0 (l.drop i), fun i => l.length - i, ⟨0, [], ?_, rfl, Nat.zero_le _, rfl⟩, ?_⟩
  · (repeat' (first | exact trivial | refine ⟨?_, ?_⟩ | exact rfl | assumption))
  rintro i H1 _ ⟨rfl, hi, hx⟩
  refine ⟨fun h => ?_, fun h => ?_⟩
  · have hlt : i < l.length := by have := dt h; omega
    refine word_k ha (List.getElem?_eq_getElem hlt) fun ad q1 hh _ => ?_
    refine ⟨ad, ⟨by omega, by omega, q1⟩, ?_⟩
    refine ⟨_, hh, ?_⟩
    have hd : l.drop i = l[i] :: l.drop (i + 1) := List.drop_eq_getElem_cons hlt
    rw [hd, has0_cons] at hx
    refine ⟨fun h => ?_, fun h => ?_⟩
    · have h0 : l[i].toNat = 0 := by have := dt h; omega
      rw [decide_eq_true h0, Bool.true_or] at hx
      rw [hx] at hK
      exact hK
    · have h0 : ¬ l[i].toNat = 0 := by have := df h; omega
      rw [decide_eq_false h0, Bool.false_or] at hx
      refine ⟨⟨by omega, by omega⟩, i + 1, [], ?_, ⟨rfl, hlt, hx⟩, by dsimp only; omega⟩
      (repeat' (first | exact trivial | refine ⟨?_, ?_⟩ | exact rfl | assumption))
  · have hil : i = l.length := by have := df h; omega
    rw [hil, List.drop_length] at hx
    rw [hx] at hK
    exact hK
theorem fstmt_spec {p : Prog} {known : List UInt64} {s : Stmt} (hs : stmtR s) {a ka : Option Addr} {n c kn kc : Nat} {H : Hp} {K : Value → Hp → Prop} (ha : RL H a n c p) (hk : RL H ka kn kc known) (hc : cnt p < 400000)
    (hK : ∀ H', Le H H' → K (stmtA (foldS p known s)) H') : Does Tryz.prog 55 [.agg #[.slice a n c], .slice ka kn kc, stmtA s] H K := by
  refine spec_of cx_ok cx_mix rfl Tryz.func55 Tryz.call55 Tryz.ntmps55 Tryz.results55 rfl rfl ?_
  unfold foldS at hK
  refine ⟨fun h => ?_, fun h => ?_⟩
  · have h1 : ¬ s.1 = 1 := df h
    refine ⟨fun h => ?_, fun h => ?_⟩
    · have h3 : s.1 = 3 := dt h
      rw [if_pos (.inr h3)] at hK
      refine vexpr_spec hs.2.2 ha hk hc fun H1 hle1 => ?_
      exact hK _ (Le.refl H)
    · have h3 : ¬ s.1 = 3 := df h
      rw [if_neg (by omega)] at hK
      exact hK _ (Le.refl H)
  · have h1 : s.1 = 1 := dt h
    rw [if_pos (.inl h1)] at hK
    refine vexpr_spec hs.2.2 ha hk hc fun H1 hle1 => ?_
    exact hK _ (Le.refl H)
def exX : Expr := (1, (⟨[]⟩, 1, 0), (⟨[]⟩, 1, 0))
theorem exX_R : exprR exX := ⟨⟨by decide, by decide⟩, ⟨Nat.zero_le _, ⟨by decide, by decide⟩, ⟨by decide, by decide⟩⟩, ⟨Nat.zero_le _, ⟨by decide, by decide⟩, ⟨by decide, by decide⟩⟩⟩
theorem foldE_exX : foldE [] [] exX = (0, (⟨[]⟩, 2, 0), (⟨[]⟩, 0, 0)) := by decide +kernel
theorem awake45_spec {H : Hp} {K : Value → Hp → Prop} (hK : ∀ H', Le H H' → K (.bool true) H') : Does Tryz.prog 20 [] H K := by
  refine spec_of cx_ok cx_mix rfl Tryz.func20 Tryz.call20 Tryz.ntmps20 Tryz.results20 rfl rfl ?_
  refine vexpr_spec (p := []) (known := []) (x := exX) exX_R rl_nil rl_nil (by decide) fun H1 hle1 => ?_
  rw [foldE_exX]
  refine ⟨fun _ => ?_, fun h => absurd rfl (df h)⟩
  refine ⟨fun _ => ?_, fun h => absurd rfl (df h)⟩
  exact kbool (hK _ (Le.refl H)) (by decide)
end Go.Proofs
end
section
namespace Go.Proofs
open Go.Sy
set_option maxRecDepth 20000
set_option maxHeartbeats 4000000
/-! Folding of a program: the law, and the document's way. -/
def knownAt (p : Prog) (i : Nat) (b : Block) (k : Nat) : Wd := vApp (codesOf p (b.2.1.take k)) (aAt (solveS (sysOf p)) i)
def foldL (p : Prog) (i : Nat) (b : Block) : List Stmt := b.2.1.mapIdx fun k s => foldS p (knownAt p i b k) s
def foldT (p : Prog) (i : Nat) (b : Block) : Term := if b.2.2.1 = 2 then (b.2.2.1, foldA p (knownAt p i b b.2.1.length) b.2.2.2.1, b.2.2.2.2) else b.2.2
def nev (p : Prog) (i : Nat) : Bool := has0 (aAt (solveS (sysOf p)) i)
def foldB (p : Prog) (i : Nat) (b : Block) : Block := if nev p i then b else (b.1, foldL p i b, foldT p i b)
def foldP (p : Prog) : Prog := p.mapIdx (foldB p)
theorem mapIdx_take {α β : Type} {f : Nat → α → β} {l : List α} {k : Nat} {x : α} (h : l[k]? = some x) : (l.mapIdx f).take (k + 1) = (l.mapIdx f).take k ++ [f k x] := by
  rw [List.take_add_one, List.getElem?_mapIdx, h]; rfl
theorem foldP_len (p : Prog) : (foldP p).length = p.length := List.length_mapIdx
theorem foldL_len (p : Prog) (i : Nat) (b : Block) : (foldL p i b).length = b.2.1.length := List.length_mapIdx
theorem has0_take {l : Wd} {j : Nat} {x : UInt64} (h : l[j]? = some x) : has0 (l.take (j + 1)) = (has0 (l.take j) || decide (x.toNat = 0)) := by
  rw [List.take_add_one, h, Option.toList_some, has0, List.any_append]; simp [has0]
theorem foldT_R {p : Prog} {i : Nat} {b : Block} (h : termR b.2.2) : termR (foldT p i b) := by
  unfold foldT
  split
  · exact ⟨h.1, foldA_R h.2.1, h.2.2⟩
  · exact h
theorem stmts_snoc {H : Hp} {css : List (List Value)} {l : List Stmt} (h : RC (α := Stmt) H css l) {s : Stmt} (hs : stmtR s) : RC (α := Stmt) H (css ++ [.int .i64 s.1 :: .string (bs s.2.1.l) :: .int .i64 s.2.2.1 :: (atmV s.2.2.2.1 ++ atmV s.2.2.2.2)]) (l ++ [s]) := RC.snoc h (stmt_mk hs)
theorem foldB_take {p : Prog} {i : Nat} {b : Block} {k : Nat} {s : Stmt} (h : b.2.1[k]? = some s) : (foldB p i b).2.1.take (k + 1) = (foldB p i b).2.1.take k ++ [if nev p i then s else foldS p (knownAt p i b k) s] := by
  unfold foldB
  split
  · rw [List.take_add_one, h]; rfl
  · exact mapIdx_take h
theorem foldB_len (p : Prog) (i : Nat) (b : Block) : (foldB p i b).2.1.length = b.2.1.length := by
  unfold foldB
  split
  · rfl
  · exact foldL_len p i b
abbrev bC (b : Block) (v : SV) : List SV := .v (.string (bs b.1.l)) :: v :: vL (termV b.2.2)
end Go.Proofs
end
section
namespace Go.Proofs
open Go.Sy
set_option maxRecDepth 20000
set_option maxHeartbeats 4000000
/-! proper.Clone with the rows of its blocks taken over. -/
abbrev stV (s : Stmt) : List Value := .int .i64 s.1 :: .string (bs s.2.1.l) :: .int .i64 s.2.2.1 :: (atmV s.2.2.2.1 ++ atmV s.2.2.2.2)
abbrev blkV (v : Value) (b : Block) : List Value := .string (bs b.1.l) :: v :: termV b.2.2
theorem stRows_of {H : Hp} {css : List (List Value)} {l : List Stmt} (h : RC (α := Stmt) H css l) : css = l.map stV := by
  apply List.ext_getElem?
  intro i
  rw [List.getElem?_map]
  have hl : css.length = l.length := h.1
  by_cases hi : i < l.length
  · have h1 : css[i]? = some (css[i]'(by omega)) := List.getElem?_eq_getElem _
    have h2 := List.getElem?_eq_getElem hi
    have h3 := (stmt_open (h.2 i _ _ h1 h2)).1
    rw [h1, h2, h3]; rfl
  · rw [List.getElem?_eq_none (by omega), List.getElem?_eq_none (by omega)]; rfl
theorem stRows_rc {H : Hp} {l : List Stmt} (h : ∀ s ∈ l, stmtR s) : RC (α := Stmt) H (l.map stV) l := by
  refine ⟨by simp, fun i cs x h1 h2 => ?_⟩
  rw [List.getElem?_map, h2] at h1
  cases h1
  exact stmt_mk (h x (List.mem_of_getElem? h2))
theorem newAt_k {P : Prop} {e : TypeId} {sz : Nat} {xs : List (List Value)} {H H2 : Hp} {x : Value} (h : NewAt e sz xs H x H2) (k : ∀ a n c, x = .slice a n c → P) : P := by
  rcases h with ⟨h1, _⟩ | ⟨g, cap, c, h1, _⟩
  · exact k _ _ _ h1
  · exact k _ _ _ h1
theorem cloneS2_spec {l : List Stmt} (hl : l.length ≤ 1000000) {a : Option Addr} {n c : Nat} {H : Hp} {K : Value → Hp → Prop} (ha : RL H a n c l) (hK : ∀ a1 n1 c1 H', LeN 65 9 (l.map stV) H (.slice a1 n1 c1) H' → (∀ s ∈ l, stmtR s) → K (.slice a1 n1 c1) H') : Does Tryz.prog 97 [.slice a n c] H K := by
  have hn := ha.n_eq
  have hR : ∀ s ∈ l, stmtR s := fun s hs => by
    obtain ⟨i, hi⟩ := List.getElem?_of_mem hs
    exact stmt_k ha hi fun _ _ _ h => h
  refine spec_of cx_ok cx_mix rfl Tryz.func97 Tryz.call97 Tryz.ntmps97 Tryz.results97 rfl rfl ?_
  refine ⟨fun h => ?_, fun h => ?_⟩
  · have hno : a = none := by
      cases a with
      | none => rfl
      | some x => cases h
    rw [hno] at ha
    have h0 := RL_nil ha
    refine hK none 0 0 H ⟨Le.refl H, .inl ⟨rfl, by rw [h0]; rfl⟩⟩ hR
  · obtain ⟨css, hrow, hrc⟩ := ha.row
    have hcl : css.length = l.length := hrc.1
    have hcs := stRows_of hrc
    refine ⟨css, hrow, ?_⟩
    refine ⟨⟨by show (0 + css.length) * 96 ≤ 140737488355328; omega, by show 0 + css.length ≤ 9223372036854775807; omega⟩, ?_⟩
    intro v H' hle hv
    rw [hcs] at hle
    refine newAt_k hle.new fun a1 n1 c1 e => ?_
    subst e
    exact hK _ _ _ H' hle hR
structure FamI (H H' : Hp) (vs : List Value) (p : Prog) : Prop where
  len : vs.length = p.length
  new : ∀ (i : Nat) (v : Value) (b : Block), vs[i]? = some v → p[i]? = some b → NewAt 65 9 (b.2.1.map stV) H v H'
  dis : vs.Pairwise fun v u => ∀ g, v.ownBlock = some g → u.ownBlock ≠ some g
theorem newAt_up {e : TypeId} {sz : Nat} {xs : List (List Value)} {H H2 H3 : Hp} {x : Value} (h : NewAt e sz xs H x H2) (hle : Le H2 H3) : NewAt e sz xs H x H3 := by
  rcases h with h1 | ⟨g, cap, c, h1, h2, h3, h4⟩
  · exact .inl h1
  · exact .inr ⟨g, cap, c, h1, h2, hle _ _ h3, h4⟩
theorem newAt_down {e : TypeId} {sz : Nat} {xs : List (List Value)} {H H1 H2 : Hp} {x : Value} (h : NewAt e sz xs H1 x H2) (hle : Le H H1) : NewAt e sz xs H x H2 := by
  rcases h with h1 | ⟨g, cap, c, h1, h2, h3⟩
  · exact .inl h1
  · refine .inr ⟨g, cap, c, h1, ?_, h3⟩
    cases hg : H g with
    | none => rfl
    | some o => rw [hle _ _ hg] at h2; cases h2
theorem FamI.up {H H' H2 : Hp} {vs : List Value} {p : Prog} (h : FamI H H' vs p) (hle : Le H' H2) : FamI H H2 vs p := ⟨h.len, fun i v b h1 h2 => newAt_up (h.new i v b h1 h2) hle, h.dis⟩
theorem FamI.snoc {H H1 H2 : Hp} {vs : List Value} {p : Prog} (h : FamI H H1 vs p) (hle0 : Le H H1) {v : Value} {b : Block} (hv : LeN 65 9 (b.2.1.map stV) H1 v H2) : FamI H H2 (vs ++ [v]) (p ++ [b]) := by
  refine ⟨by rw [List.length_append, List.length_append, h.len]; rfl, fun i u c h1 h2 => ?_, ?_⟩
  · rw [List.getElem?_append] at h1 h2
    have hl := h.len
    split at h1
    · rename_i hi
      rw [if_pos (by omega)] at h2
      exact newAt_up (h.new i u c h1 h2) hv.le
    · rename_i hi
      rw [if_neg (by omega)] at h2
      have e1 : i - vs.length = 0 := by
        have := (List.getElem?_eq_some_iff.1 h1).1
        simp at this; omega
      rw [e1] at h1
      rw [← hl, e1] at h2
      cases h1
      cases h2
      exact newAt_down hv.new hle0
  · rw [List.pairwise_append]
    refine ⟨h.dis, List.pairwise_singleton _ _, fun u hu w hw g hg hg' => ?_⟩
    rw [List.mem_singleton] at hw
    subst hw
    obtain ⟨i, hi⟩ := List.getElem?_of_mem hu
    have hlt := (List.getElem?_eq_some_iff.1 hi).1
    have hb : p[i]? = some (p[i]'(by have := h.len; omega)) := List.getElem?_eq_getElem _
    obtain ⟨_, o, ho⟩ := (h.new i u _ hi hb).fresh hg
    have := (hv.new.fresh hg').1
    rw [ho] at this
    cases this
theorem zipBlk_snoc {vs : List Value} {p : Prog} (hl : vs.length = p.length) (v : Value) (b : Block) : List.zipWith blkV (vs ++ [v]) (p ++ [b]) = List.zipWith blkV vs p ++ [blkV v b] := by
  rw [List.zipWith_append hl]; rfl
theorem blkR_mk {H : Hp} {v : Value} {b : Block} (hv : RowAt H v 9 (b.2.1.map stV)) (hst : ∀ s ∈ b.2.1, stmtR s) (hs : sR b.1) (ht : termR b.2.2) : Enc.R H (blkV v b) b :=
  of_row_k (α := Stmt) hv (stRows_rc hst) fun a n c e hr => by subst e; exact block_mk hr hs ht
theorem pclone2_spec {p : Prog} (hp : p.length ≤ 1000000) (hl : ∀ b ∈ p, b.2.1.length ≤ 1000000) {a : Option Addr} {n c : Nat} {H : Hp} {K : Value → Hp → Prop} (ha : RL H a n c p)
    (hK : ∀ v vs H3 H', Le H H3 → FamI H H3 vs p → LeN 70 8 (List.zipWith blkV vs p) H3 v H' → K (.agg #[v]) H') : Does Tryz.prog 52 [.agg #[.slice a n c]] H K := by
  have hn := ha.n_eq
  have hmx := ha.le
  refine spec_of cx_ok cx_mix rfl Tryz.func52 Tryz.call52 Tryz.ntmps52 Tryz.results52 rfl rfl ?_
  refine ⟨Nat × List Value, fun q => ⟨[(2, .ptr 0 0), (3, .ptr 1 0), (7, .v (.slice a n c)), (8, .v (.int .i64 n)), (9, .v (.int .i64 q.1))],
      [(0, .cells 24 [.v (.slice none 0 0)]), (1, .cells 24 [.own 2]), (2, .row 70 8 (List.zipWith blkV q.2 (p.take q.1)))], 3⟩,
    fun q H' => Le H H' ∧ q.1 ≤ p.length ∧ FamI H H' q.2 (p.take q.1), fun q => p.length - q.1, ⟨(0, []), [(0, 1), (1, 2)], ?_, Le.refl _, Nat.zero_le _, ⟨rfl, fun i v b h1 => (by cases h1), List.Pairwise.nil⟩⟩, ?_⟩
  · (repeat' (first | exact trivial | refine ⟨?_, ?_⟩ | exact rfl | assumption))
  rintro ⟨i, vs⟩ H1 hle1 ⟨_, hi, hf⟩
  dsimp only at hi hf
  have hvl : vs.length = i := by rw [hf.len, List.length_take]; omega
  have hcl : (List.zipWith blkV vs (p.take i)).length = i := by rw [List.length_zipWith, List.length_take]; omega
  refine ⟨fun h => ?_, fun h => ?_⟩
  · have hlt : i < p.length := by have := dt h; dsimp only at this; omega
    refine name_k p[i] fun b hbe => ?_
    have hbb : p[i]? = some b := by rw [hbe]; exact List.getElem?_eq_getElem hlt
    refine block_k (ha.up hle1) hbb fun ad a1 n1 c1 q1 hh hr1 hs1 ht1 => ?_
    refine ⟨ad, ⟨by dsimp only; omega, by dsimp only; omega, q1⟩, ?_⟩
    refine ⟨_, hh, ?_⟩
    refine cloneS2_spec (hl b (List.mem_of_getElem? hbb)) hr1 fun a5 n5 c5 H5 hle5 hst => ?_
    have htk : p.take (i + 1) = p.take i ++ [b] := by rw [List.take_add_one, hbb, Option.toList_some]
    have hz : List.zipWith blkV (vs ++ [.slice a5 n5 c5]) (p.take (i + 1)) = List.zipWith blkV vs (p.take i) ++ [blkV (.slice a5 n5 c5) b] := by rw [htk, zipBlk_snoc hf.len]
    refine ⟨⟨by show ((List.zipWith blkV vs (p.take i)).length + 1) * 112 ≤ 140737488355328; omega, by show (List.zipWith blkV vs (p.take i)).length + 1 ≤ 9223372036854775807; omega⟩, ?_⟩
    refine ⟨⟨by dsimp only; omega, by dsimp only; omega⟩, (i + 1, vs ++ [.slice a5 n5 c5]), [(0, 0), (1, 1), (2, 5)], ?_, ⟨hle1.trans hle5.le, hlt, by dsimp only; rw [htk]; exact hf.snoc hle1 hle5⟩, by dsimp only; omega⟩
    have hz := hz.symm
    (repeat' (first | exact trivial | refine ⟨?_, ?_⟩ | exact rfl | assumption))
  · have hil : i = p.length := by have := df h; dsimp only at this; omega
    rw [hil, List.take_length] at hf
    intro v H' hle hv
    have hle : LeN 70 8 (List.zipWith blkV vs (p.take i)) H1 v H' := hle
    rw [hil, List.take_length] at hle
    exact hK v vs H1 H' hle1 hf hle
abbrev famL (vs : List Value) (p : Prog) : List (Value × List (List Value)) := List.zip vs (p.map fun b => b.2.1.map stV)
theorem famL_mem {vs : List Value} {p : Prog} {q : Value × List (List Value)} (h : q ∈ famL vs p) : ∃ (i : Nat) (b : Block), vs[i]? = some q.1 ∧ p[i]? = some b ∧ q.2 = b.2.1.map stV := by
  obtain ⟨i, hi⟩ := List.getElem?_of_mem h
  rw [famL, List.getElem?_zip_eq_some, List.getElem?_map] at hi
  obtain ⟨h1, h2⟩ := hi
  cases hb : p[i]? with
  | none => rw [hb] at h2; cases h2
  | some b =>
    rw [hb] at h2
    simp only [Option.map_some, Option.some.injEq] at h2
    exact ⟨i, b, h1, hb, h2.symm⟩
theorem stV_ok (l : List Stmt) : ∀ y ∈ l.map stV, y.length = 9 ∧ ∀ u ∈ y, u.oneCell' = true := by
  intro y hy
  obtain ⟨s, _, rfl⟩ := List.mem_map.1 hy
  have h : (stV s).all (·.oneCell') = true := rfl
  exact ⟨rfl, fun u hu => List.all_eq_true.1 h u hu⟩
theorem cloneF_spec {p : Prog} (hp : p.length ≤ 1000000) (hl : ∀ b ∈ p, b.2.1.length ≤ 1000000) {a : Option Addr} {n c : Nat} {H : Hp} {K : SV → St → Hp → Prop} (ha : RL H a n c p)
    (hK : ∀ vs H', Le H H' → vs.length = p.length → (∀ (i : Nat) (v : Value) (b : Block), vs[i]? = some v → p[i]? = some b → ∃ a c, v = .slice a b.2.1.length c ∧ (a = none → b.2.1 = [])) → K (.agg [.own 0]) ⟨[], [(0, .row 70 8 (List.zipWith blkV vs p)), (1, .fam 65 9 (famL vs p))], 2⟩ H') : DoesG Tryz.prog 52 [.agg [.v (.slice a n c)]] [] 0 H K := by
  refine doesG_thawB (args := [.agg #[.slice a n c]]) (fun _ => rfl) (pclone2_spec hp hl ha (K := fun v H' => ∃ x vs H3, v = .agg #[x] ∧ Le H H3 ∧ FamI H H3 vs p ∧ LeN 70 8 (List.zipWith blkV vs p) H3 x H') (fun v vs H3 H' h1 h2 h3 => ⟨v, vs, H3, rfl, h1, h2, h3⟩)) ?_
  rintro v H2 hle ⟨x, vs, H3, rfl, h1, h2, h3⟩
  have hsl : ∀ (i : Nat) (v : Value) (b : Block), vs[i]? = some v → p[i]? = some b → ∃ a c, v = .slice a b.2.1.length c ∧ (a = none → b.2.1 = []) := fun i v b h4 h5 => by
    rcases h2.new i v b h4 h5 with ⟨h6, h7⟩ | ⟨g, cap, cc, h6, _⟩
    · have h8 : b.2.1 = [] := List.map_eq_nil_iff.1 h7
      exact ⟨none, 0, by rw [h6, h8]; rfl, fun _ => h8⟩
    · rw [List.length_map] at h6
      exact ⟨_, _, h6, fun h => by cases h⟩
  refine ⟨70, 8, List.zipWith blkV vs p, x, 65, 9, famL vs p, .agg [.own 0], fun ρ hρ => ?_, rfl, (LeN.base h1 h3).new, fun y hy => ?_, fun q hq => ?_, ?_, fun q hq g hg hg' => ?_, fun H' hle2 _ => hK vs H' hle2 h2.len hsl⟩
  · show Value.agg #[ρ.val 0] = _
    rw [hρ]
  · obtain ⟨i, hi⟩ := List.getElem?_of_mem hy
    rw [List.getElem?_zipWith_eq_some] at hi
    obtain ⟨v, b, h4, h5, rfl⟩ := hi
    obtain ⟨a1, c1, rfl, _⟩ := hsl i v b h4 h5
    have h : (blkV (.slice a1 b.2.1.length c1) b).all (·.oneCell') = true := rfl
    exact ⟨rfl, fun u hu => List.all_eq_true.1 h u hu⟩
  · obtain ⟨i, b, h4, h5, h6⟩ := famL_mem hq
    rw [h6]
    exact ⟨newAt_up (h2.new i _ b h4 h5) h3.le, stV_ok _⟩
  · have e : (famL vs p).map Prod.fst = vs := List.map_fst_zip (by rw [List.length_map]; exact Nat.le_of_eq h2.len)
    have hd := h2.dis
    rw [← e, List.pairwise_map] at hd
    exact hd
  · obtain ⟨i, b, h4, h5, _⟩ := famL_mem hq
    obtain ⟨_, o, ho⟩ := (h2.new i _ b h4 h5).fresh hg'
    have := (h3.new.fresh hg).1
    rw [ho] at this
    cases this
end Go.Proofs
end
section
namespace Go.Proofs
open Go.Sy
set_option maxRecDepth 20000
set_option maxHeartbeats 4000000
/-! Running: values, environments. -/
abbrev nRows (l : List Nm) : List (List Value) := eRows l
theorem nRows_of {H : Hp} {css : List (List Value)} {l : List Nm} (h : RC (α := Nm) H css l) : css = nRows l := by
  apply List.ext_getElem?
  intro i
  rw [List.getElem?_map]
  have hl : css.length = l.length := h.1
  by_cases hi : i < l.length
  · have h1 : css[i]? = some (css[i]'(by omega)) := List.getElem?_eq_getElem _
    have h2 := List.getElem?_eq_getElem hi
    have h3 := (edge_open (h.2 i _ _ h1 h2)).1
    rw [h1, h2, h3]; rfl
  · rw [List.getElem?_eq_none (by omega), List.getElem?_eq_none (by omega)]; rfl
theorem nRows_ok (l : List Nm) : ∀ y ∈ nRows l, y.length = 2 ∧ ∀ u ∈ y, u.oneCell' = true := by
  intro y hy
  obtain ⟨w, _, rfl⟩ := List.mem_map.1 hy
  exact ⟨rfl, fun u hu => by simp at hu; rcases hu with rfl | rfl <;> rfl⟩
theorem nRL_all {H : Hp} {a : Option Addr} {n c : Nat} {l : List Nm} (h : RL H a n c l) : ∀ e ∈ l, inI e.1 ∧ inI e.2 := RLe_all h
theorem cloneV_spec {l : List Nm} (hl : l.length ≤ 1000000) {a : Option Addr} {n c : Nat} {H : Hp} {K : Value → Hp → Prop} (ha : RL H a n c l) (hK : ∀ a1 n1 c1 H', LeN 42 2 (nRows l) H (.slice a1 n1 c1) H' → RL H' a1 n1 c1 l → K (.slice a1 n1 c1) H') : Does Tryz.prog 102 [.slice a n c] H K := by
    have hn := ha.n_eq
    have hall := nRL_all ha
    refine spec_of cx_ok cx_mix rfl Tryz.func102 Tryz.call102 Tryz.ntmps102 Tryz.results102 rfl rfl ?_
    refine ⟨fun h => ?_, fun h => ?_⟩
    · have hno : a = none := by
        cases a with
        | none => rfl
        | some x => cases h
      rw [hno] at ha
      have h0 := RL_nil ha
      refine hK none 0 0 H ⟨Le.refl H, .inl ⟨rfl, by rw [h0]; rfl⟩⟩ ?_
      rw [h0]; exact rl_nil
    · obtain ⟨css, hrow, hrc⟩ := ha.row
      have hcl : css.length = l.length := hrc.1
      have e := nRows_of hrc
      refine ⟨css, hrow, ?_⟩
      refine ⟨⟨by show (0 + css.length) * 16 ≤ 140737488355328; omega, by show 0 + css.length ≤ 9223372036854775807; omega⟩, ?_⟩
      intro v H' hle hv
      rw [e] at hle hv
      refine of_row_k (α := Nm) hv (rc_eRows hall) fun a1 n1 c1 ev hr => ?_
      subst ev
      exact hK _ _ _ H' hle hr
theorem cloneN_spec {l : List Nm} (hl : l.length ≤ 1000000) {a : Option Addr} {n c : Nat} {H : Hp} {K : Value → Hp → Prop} (ha : RL H a n c l) (hK : ∀ a1 n1 c1 H', LeN 42 2 (nRows l) H (.slice a1 n1 c1) H' → RL H' a1 n1 c1 l → K (.slice a1 n1 c1) H') : Does Tryz.prog 103 [.slice a n c] H K := by
    have hn := ha.n_eq
    have hall := nRL_all ha
    refine spec_of cx_ok cx_mix rfl Tryz.func103 Tryz.call103 Tryz.ntmps103 Tryz.results103 rfl rfl ?_
    refine ⟨fun h => ?_, fun h => ?_⟩
    · have hno : a = none := by
        cases a with
        | none => rfl
        | some x => cases h
      rw [hno] at ha
      have h0 := RL_nil ha
      refine hK none 0 0 H ⟨Le.refl H, .inl ⟨rfl, by rw [h0]; rfl⟩⟩ ?_
      rw [h0]; exact rl_nil
    · obtain ⟨css, hrow, hrc⟩ := ha.row
      have hcl : css.length = l.length := hrc.1
      have e := nRows_of hrc
      refine ⟨css, hrow, ?_⟩
      refine ⟨⟨by show (0 + css.length) * 16 ≤ 140737488355328; omega, by show 0 + css.length ≤ 9223372036854775807; omega⟩, ?_⟩
      intro v H' hle hv
      rw [e] at hle hv
      refine of_row_k (α := Nm) hv (rc_eRows hall) fun a1 n1 c1 ev hr => ?_
      subst ev
      exact hK _ _ _ H' hle hr
theorem cloneVG_spec {l : List Nm} (hl : l.length ≤ 1000000) {a : Option Addr} {n c : Nat} {H : Hp} {K : SV → St → Hp → Prop} (ha : RL H a n c l)
    (hK : ∀ H', Le H H' → K (.own 0) ⟨[], [(0, .row 42 2 (nRows l))], 1⟩ H') : DoesG Tryz.prog 102 [.v (.slice a n c)] [] 0 H K := by
  refine doesG_thawR (args := [.slice a n c]) (fun _ => rfl) (cloneV_spec hl ha (K := fun v H' => LeN 42 2 (nRows l) H v H') (fun _ _ _ H' h _ => h)) ?_
  intro v H2 hle h
  exact .inr ⟨42, 2, nRows l, v, .own 0, fun ρ hρ => hρ, rfl, h.new, nRows_ok l, fun H' hle2 _ => hK H' hle2⟩
noncomputable def cxW : Cx := { P := Tryz.prog, tt := tt, n := 0, wrap := false, base := 0, gf := 102 :: cx.gf, eqs := cx.eqs, xf := [] }
theorem cxW_ok : TOK cxW := ⟨cx_ok.tt, cx_ok.eqs⟩
theorem nm_k {P : Prop} {H : Hp} {a : Option Addr} {n c : Nat} {xs : List Nm} (h : RL H a n c xs) {i : Int} (h0 : 0 ≤ i) {x : Nm} (hi : xs[i.toNat]? = some x) (k : ∀ ad, a = some ad → ElemH H ad i 2 [.int .i64 x.1, .int .i64 x.2] → P) : P :=
  edge_k h hi fun ad e he => k ad e (by rwa [Int.toNat_of_nonneg h0] at he)
theorem eat_spec {l : List Nm} {i : Int} {a : Option Addr} {n c : Nat} {H : Hp} {K : Value → Hp → Prop} (ha : RL H a n c l) (hK : K (numV (inAt l i)) H) : Does Tryz.prog 149 [.slice a n c, .int .i64 i] H K := by
  have hn := ha.n_eq
  have hmx := ha.le
  refine spec_of cx_ok cx_mix rfl Tryz.func149 Tryz.call149 Tryz.ntmps149 Tryz.results149 rfl rfl ?_
  have hlow : i < 0 → inAt l i = (0, 0) := fun h => if_pos h
  have hhigh : ¬ i < 0 → (l.length : Int) ≤ i → inAt l i = (0, 0) := fun h0 h => by rw [inAt, if_neg h0, List.getElem?_eq_none (by omega)]; rfl
  refine ⟨fun h => ?_, fun h => ?_⟩
  · have h0 : ¬ i < 0 := df h
    refine ⟨fun h => ?_, fun h => ?_⟩
    · have h1 := dt h
      rw [hhigh h0 (by omega)] at hK
      exact hK
    · have h1 := df h
      have hlt : i.toNat < l.length := by omega
      have e : inAt l i = l[i.toNat] := by rw [inAt, if_neg h0, List.getElem?_eq_getElem hlt]; rfl
      rw [e] at hK
      refine nm_k ha (by omega) (List.getElem?_eq_getElem hlt) fun ad q1 hh => ?_
      refine ⟨ad, ⟨by omega, by omega, q1⟩, ?_⟩
      refine ⟨_, hh, ?_⟩
      exact hK
  · have h0 : i < 0 := dt h
    rw [hlow h0] at hK
    exact hK
theorem with_spec {l : List Nm} (hl : l.length ≤ 1000000) {i : Int} (hi : 0 ≤ i ∧ i < (l.length : Nat)) {x : Nm} {a : Option Addr} {n c : Nat} {H : Hp} {K : Value → Hp → Prop} (ha : RL H a n c l) (hx : inI x.1 ∧ inI x.2) (hK : ∀ a1 n1 c1 H', Le H H' → RL H' a1 n1 c1 (l.set i.toNat x) → K (.slice a1 n1 c1) H') : Does Tryz.prog 150 [.slice a n c, .int .i64 i, numV x] H K := by
  have hn := ha.n_eq
  have hmx := ha.le
  have hall := nRL_all ha
  refine spec_of cxW_ok cx_mix rfl Tryz.func150 Tryz.call150 Tryz.ntmps150 Tryz.results150 rfl rfl ?_
  refine ⟨[], rfl, cloneVG_spec hl ha fun H1 hle1 => ?_⟩
  have hll : (nRows l).length = l.length := List.length_map _
  have hlt : i.toNat < l.length := by omega
  have hg : (nRows l)[i.toNat]? = some [.int .i64 l[i.toNat].1, .int .i64 l[i.toNat].2] := by rw [List.getElem?_map, List.getElem?_eq_getElem hlt]; rfl
  have e : (nRows l).set i.toNat [.int .i64 x.1, .int .i64 x.2] = nRows (l.set i.toNat x) := List.map_set.symm
  refine ⟨⟨hi.1, by rw [hll]; exact hi.2⟩, ?_⟩
  refine ⟨_, hg, ?_⟩
  intro v H' hle hv
  have hv : RowAt H' v 2 ((nRows l).set i.toNat [.int .i64 x.1, .int .i64 x.2]) := hv
  rw [e] at hv
  refine of_row_k (α := Nm) hv (rc_eRows fun y hy => ?_) fun a1 n1 c1 ev hr => ?_
  · rcases List.mem_or_eq_of_mem_set hy with hy | hy
    · exact hall y hy
    · rw [hy]; exact hx
  · subst ev
    exact hK _ _ _ _ (hle1.trans hle.le) hr
theorem value_spec {p : Prog} (hc : cnt p < 400000) {l : List Nm} {x : Atm} {a a2 : Option Addr} {n c n2 c2 : Nat} {H : Hp} {K : Value → Hp → Prop} (ha : RL H a n c p) (hb : RL H a2 n2 c2 l) (hK : K (numV (valA p l x)) H) : Does Tryz.prog 104 [.agg #[.slice a n c], .slice a2 n2 c2, .agg (atmV x).toArray] H K := by
  refine spec_of cx_ok cx_mix rfl Tryz.func104 Tryz.call104 Tryz.ntmps104 Tryz.results104 rfl rfl ?_
  refine ⟨fun h => ?_, fun h => ?_⟩
  · have h0 : x.1.l = [] := dt h
    have e : valA p l x = nOf x.2 := by rw [valA, if_pos h0]
    rw [e] at hK
    refine gof_spec ?_
    exact hK
  · have h0 : ¬ x.1.l = [] := df h
    refine var_spec ha hc fun _ _ => ?_
    have hr := vIdx_range p x.1.l
    refine ⟨fun h => ?_, fun h => ?_⟩
    · have h1 : ¬ 0 ≤ vIdx p x.1.l := nt h
      have e : valA p l x = (0, 0) := by rw [valA, if_neg h0, if_neg h1]
      rw [e] at hK
      exact hK
    · have h1 : 0 ≤ vIdx p x.1.l := nf h
      have e : valA p l x = inAt l (vIdx p x.1.l) := by rw [valA, if_neg h0, if_pos h1, inAt, if_neg (by omega)]
      have e2 : max (idxS x.1.l (varsOf p) 0) 0 = vIdx p x.1.l := by rw [vIdx] at h1 ⊢; omega
      rw [e] at hK
      rw [e2]
      refine eat_spec hb ?_
      exact hK
theorem eval_spec {p : Prog} (hc : cnt p < 400000) {l : List Nm} {x : Expr} {a a2 : Option Addr} {n c n2 c2 : Nat} {H : Hp} {K : Value → Hp → Prop} (ha : RL H a n c p) (hb : RL H a2 n2 c2 l) (hK : K (.tuple #[numV (nOp x.1 (valA p l x.2.1) (valA p l x.2.2)), .int .i64 (if opIs x.1 then 0 else 10)]) H) : Does Tryz.prog 151 [.agg #[.slice a n c], .slice a2 n2 c2, .agg (exprV x).toArray] H K := by
  refine spec_of cx_ok cx_mix rfl Tryz.func151 Tryz.call151 Tryz.ntmps151 Tryz.results151 rfl rfl ?_
  refine ⟨some ([2], [0, 1, 2, 3, 4, 5, 7, 8, 9, 10, 6, 11, 12, 13, 14, 15, 16]), by kernel_rfl, ?_⟩
  refine value_spec hc ha hb ?_
  refine value_spec hc ha hb ?_
  refine gop_spec ?_
  exact hK
end Go.Proofs
end
section
namespace Go.Proofs
open Go.Sy
set_option maxRecDepth 20000
set_option maxHeartbeats 4000000
/-! Running: statements. -/
abbrev staV (b : Int) (ae : Option Addr) (ne ce : Nat) (i : Int) (x : Value) : Value := .agg #[.int .i64 b, .slice ae ne ce, .int .i64 i, x]
theorem wrp_in (n : Int) : inI (wrp n) := by have := wrp_le n; exact ⟨by omega, by omega⟩
theorem nOf_in (a : Nm) : inI (nOf a).1 ∧ inI (nOf a).2 := ⟨wrp_in _, wrp_in _⟩
theorem nOp_in (op : Int) (a b : Nm) : inI (nOp op a b).1 ∧ inI (nOp op a b).2 := by rw [← nOp_nOf]; exact nOf_in _
theorem xcheck_spec {p : Prog} (he : checkE p = 0) (hc : stmtsN p ≤ 1000000) (hv : cnt p < 400000) {b i : Int} {l : List Nm} (hb : 0 ≤ b ∧ b < (p.length : Nat)) (hl : l.length = (varsOf p).length) (hi : 0 ≤ i) {a ae ao : Option Addr} {n c ne ce no co : Nat} {H : Hp} {K : Value → Hp → Prop}
    (ha : RL H a n c p) (hE : RL H ae ne ce l) (hK : ∀ H', Le H H' → K (.int .i64 0) H') : Does Tryz.prog 64 [.agg #[.slice a n c], staV b ae ne ce i (.slice ao no co)] H K := by
  have hn := ha.n_eq
  have hne := hE.n_eq
  refine spec_of cx_ok cx_mix rfl Tryz.func64 Tryz.call64 Tryz.ntmps64 Tryz.results64 rfl rfl ?_
  refine pcheck_spec ha hc hv fun H0 hle0 => ?_
  refine ⟨fun h => absurd he (nt h), fun _ => ?_⟩
  refine ⟨some ([], [0, 1, 2, 3, 4, 5, 6, 7, 8, 9, 10, 11, 12, 13, 14, 15, 16, 17, 18, 19, 20, 21, 22, 23, 24]), by kernel_rfl, ?_⟩
  refine ⟨fun _ => ?_, fun h => absurd (dt h) (by omega)⟩
  refine ⟨fun _ => ?_, fun h => absurd (dt h) (by omega)⟩
  refine pvars_spec ha hv fun av nv cv H1 hle1 hrv => ?_
  have hnv := hrv.n_eq
  rw [List.length_map] at hnv
  refine ⟨fun _ => ?_, fun h => absurd (show (ne : Int) = nv by omega) (nt h)⟩
  refine ⟨fun h => absurd (dt h) (by omega), fun _ => ?_⟩
  exact hK _ hle1
theorem xclone_spec {b i : Int} {l o : List Nm} (hl : l.length ≤ 1000000) (ho : o.length ≤ 1000000) {ae ao : Option Addr} {ne ce no co : Nat} {H : Hp} {K : Value → Hp → Prop} (hE : RL H ae ne ce l) (hO : RL H ao no co o)
    (hK : ∀ a1 n1 c1 a2 n2 c2 H1 H', Le H H1 → RL H1 a1 n1 c1 l → LeN 42 2 (nRows o) H1 (.slice a2 n2 c2) H' → RL H' a2 n2 c2 o → K (staV b a1 n1 c1 i (.slice a2 n2 c2)) H') : Does Tryz.prog 65 [staV b ae ne ce i (.slice ao no co)] H K := by
  refine spec_of cx_ok cx_mix rfl Tryz.func65 Tryz.call65 Tryz.ntmps65 Tryz.results65 rfl rfl ?_
  refine ⟨some ([1000000, 0], [0, 1, 3, 4, 2, 6, 5, 7, 8, 9]), by kernel_rfl, ?_⟩
  refine cloneV_spec hl hE fun a1 n1 c1 H1 hle1 hr1 => ?_
  refine cloneN_spec ho (hO.up hle1.le) fun a2 n2 c2 H2 hle2 hr2 => ?_
  exact hK _ _ _ _ _ _ _ _ hle1.le hr1 hle2 hr2
theorem xdo_spec {p : Prog} (hc : cnt p < 400000) {inn l o : List Nm} {b i : Int} {x : Stmt} (hx : stmtB x = true) (hvx : x.2.1.l ≠ [] → 0 ≤ vIdx p x.2.1.l ∧ vIdx p x.2.1.l < (l.length : Nat)) (hl : l.length ≤ 1000000) (ho : o.length ≤ 1000000) (hi : 0 ≤ i) {a ae ai : Option Addr} {n c ne ce ni ci : Nat} {H : Hp} {K : SV → St → Hp → Prop}
    (ha : RL H a n c p) (hE : RL H ae ne ce l) (hI : RL H ai ni ci inn)
    (hK : ∀ a1 n1 c1 H', Le H H' → RL H' a1 n1 c1 (doS p inn (b, l, i, o) x).2.1 → x.1 ≠ 3 → K (.agg [.v (.int .i64 b), .v (.slice a1 n1 c1), .v (.int .i64 (doS p inn (b, l, i, o) x).2.2.1), .own 0]) ⟨[], [(0, .row 42 2 (nRows o))], 1⟩ H')
    (hK3 : x.1 = 3 → K (.agg [.v (.int .i64 b), .v (.slice ae ne ce), .v (.int .i64 i), .own 6]) ⟨[], [(6, .row 42 2 (nRows (o ++ [valA p l x.2.2.2.1])))], 7⟩ H) :
    DoesG Tryz.prog 105 [.agg [.v (.slice a n c)], .agg [.v (.int .i64 b), .v (.slice ae ne ce), .v (.int .i64 i), .own 0], .agg (vL (stmtV x)), .v (.slice ai ni ci)] [(0, .row 42 2 (nRows o))] 1 H K := by
  refine spec_ofG cx_ok cx_mix Tryz.func105 Tryz.call105 Tryz.ntmps105 Tryz.results105 rfl rfl ?_
  refine var_spec ha hc fun _ _ => ?_
  rcases stmtB_var hx with ⟨h1, h2, h3, h4⟩ | ⟨h1, h4⟩ | ⟨h1, h4⟩
  · refine ⟨fun _ => ?_, fun h => absurd h1 (df h)⟩
    have hv := hvx h4
    have e2 : max (idxS x.2.1.l (varsOf p) 0) 0 = vIdx p x.2.1.l := by rw [vIdx] at hv ⊢; omega
    refine eval_spec hc ha hE ?_
    rw [e2]
    refine with_spec hl hv hE (nOp_in _ _ _) fun a1 n1 c1 H1 hle1 hr1 => ?_
    have e : doS p inn (b, l, i, o) x = (b, setAt p l x.2.1.l (nOp x.2.2.1 (valA p l x.2.2.2.1) (valA p l x.2.2.2.2)), i, o) := by rw [doS, if_pos h1]
    rw [e] at hK
    exact ⟨.agg [.v (.int .i64 b), .v (.slice a1 n1 c1), .v (.int .i64 i), .own 0], [(0, .row 42 2 (nRows o))], 1, [(0, 0)], by (repeat' (first | exact trivial | refine ⟨?_, ?_⟩ | exact rfl | assumption)), hK a1 n1 c1 H1 hle1 hr1 (by omega)⟩
  · refine ⟨fun h => absurd (dt h) (by omega), fun _ => ?_⟩
    refine ⟨fun _ => ?_, fun h => absurd h1 (df h)⟩
    have hv := hvx h4
    have e2 : max (idxS x.2.1.l (varsOf p) 0) 0 = vIdx p x.2.1.l := by rw [vIdx] at hv ⊢; omega
    refine eat_spec hI ?_
    refine ⟨some ([1000000, 2], [0, 1, 2, 3, 4, 5, 6, 7, 8, 9, 10, 11]), by kernel_rfl, ?_⟩
    refine gof_spec ?_
    rw [e2]
    refine with_spec hl hv hE (nOf_in _) fun a1 n1 c1 H1 hle1 hr1 => ?_
    have e : doS p inn (b, l, i, o) x = (b, setAt p l x.2.1.l (nOf (inAt inn i)), inNext i, o) := by rw [doS, if_neg (by omega), if_pos h1]
    rw [e] at hK
    refine ⟨⟨by omega, by omega⟩, ?_⟩
    exact ⟨.agg [.v (.int .i64 b), .v (.slice a1 n1 c1), .v (.int .i64 (inNext i)), .own 0], [(0, .row 42 2 (nRows o))], 1, [(0, 0)], by (repeat' (first | exact trivial | refine ⟨?_, ?_⟩ | exact rfl | assumption)), hK a1 n1 c1 H1 hle1 hr1 (by omega)⟩
  · refine ⟨fun h => absurd (dt h) (by omega), fun _ => ?_⟩
    refine ⟨fun h => absurd (dt h) (by omega), fun _ => ?_⟩
    refine ⟨fun _ => ?_, fun h => absurd h1 (df h)⟩
    refine ⟨some ([1000000, 0, 2], [0, 1, 2, 3, 4, 5, 6, 7, 8, 9, 10, 11, 12]), by kernel_rfl, ?_⟩
    refine value_spec hc ha hE ?_
    have hll : (nRows o).length = o.length := List.length_map _
    have e : nRows o ++ [[.int .i64 (valA p l x.2.2.2.1).1, .int .i64 (valA p l x.2.2.2.1).2]] = nRows (o ++ [valA p l x.2.2.2.1]) := by show List.map _ _ ++ [_] = List.map _ (_ ++ [_]); rw [List.map_append]; rfl
    refine ⟨⟨by show (_ + 1) * 16 ≤ 140737488355328; rw [hll]; omega, by show _ + 1 ≤ 9223372036854775807; rw [hll]; omega⟩, ?_⟩
    exact ⟨.agg [.v (.int .i64 b), .v (.slice ae ne ce), .v (.int .i64 i), .own 6], [(6, .row 42 2 (nRows (o ++ [valA p l x.2.2.2.1])))], 7, [(6, 6)], by (repeat' (first | exact trivial | refine ⟨?_, ?_⟩ | exact rfl | assumption)), hK3 h1⟩
end Go.Proofs
end
section
namespace Go.Proofs
open Go.Sy
set_option maxRecDepth 20000
set_option maxHeartbeats 4000000
/-! Running: blocks. -/
theorem xcloneG_spec {b i : Int} {l o : List Nm} (hl : l.length ≤ 1000000) (ho : o.length ≤ 1000000) {ae ao : Option Addr} {ne ce no co : Nat} {H : Hp} {K : SV → St → Hp → Prop} (hE : RL H ae ne ce l) (hO : RL H ao no co o)
    (hK : ∀ a1 n1 c1 H', Le H H' → RL H' a1 n1 c1 l → K (.agg [.v (.int .i64 b), .v (.slice a1 n1 c1), .v (.int .i64 i), .own 0]) ⟨[], [(0, .row 42 2 (nRows o))], 1⟩ H') : DoesG Tryz.prog 65 [.agg [.v (.int .i64 b), .v (.slice ae ne ce), .v (.int .i64 i), .v (.slice ao no co)]] [] 0 H K := by
  refine doesG_thawR (args := [staV b ae ne ce i (.slice ao no co)]) (fun _ => rfl) (xclone_spec hl ho hE hO (K := fun v H' => ∃ a1 n1 c1 x H1, v = staV b a1 n1 c1 i x ∧ Le H H1 ∧ RL H1 a1 n1 c1 l ∧ LeN 42 2 (nRows o) H1 x H')
    (fun a1 n1 c1 a2 n2 c2 H1 H' h1 h2 h3 _ => ⟨a1, n1, c1, _, H1, rfl, h1, h2, h3⟩)) ?_
  rintro v H2 hle ⟨a1, n1, c1, x, H1, rfl, h1, h2, h3⟩
  refine .inr ⟨42, 2, nRows o, x, .agg [.v (.int .i64 b), .v (.slice a1 n1 c1), .v (.int .i64 i), .own 0], fun ρ hρ => ?_, rfl, (LeN.base h1 h3).new, nRows_ok o, fun H' hle2 hkeep => hK a1 n1 c1 H' hle2 (h2.up fun b o hb => hkeep b o (h3.le b o hb) fun e => ?_)⟩
  · show Value.agg #[.int .i64 b, .slice a1 n1 c1, .int .i64 i, ρ.val 0] = _
    rw [hρ]
  · rcases h3.new with ⟨h4, _⟩ | ⟨g, cap, cc, h4, h5, _⟩
    · rw [h4] at e; cases e
    · rw [h4] at e
      simp only [Value.ownBlock, Option.some.injEq] at e
      subst e
      rw [h5] at hb
      cases hb
noncomputable def cxR : Cx := { P := Tryz.prog, tt := tt, n := 0, wrap := false, base := 0, gf := 65 :: 105 :: cx.gf, eqs := cx.eqs, xf := [] }
theorem cxR_ok : TOK cxR := ⟨cx_ok.tt, cx_ok.eqs⟩
theorem doAll_snoc (p : Prog) (inn : List Nm) (s : StE) {l : List Stmt} {k : Nat} {x : Stmt} (h : l[k]? = some x) : doAll p inn s (l.take (k + 1)) = doS p inn (doAll p inn s (l.take k)) x := by
  rw [doAll, List.take_add_one, h, Option.toList_some, List.foldl_append]; rfl
theorem doS_out (p : Prog) (inn : List Nm) (s : StE) (x : Stmt) : (doS p inn s x).2.2.2.length ≤ s.2.2.2.length + 1 ∧ (0 ≤ s.2.2.1 → 0 ≤ (doS p inn s x).2.2.1) := by
  unfold doS inNext
  repeat' split
  all_goals simp
  all_goals omega
theorem doAll_out (p : Prog) (inn : List Nm) : ∀ (l : List Stmt) (s : StE), (doAll p inn s l).2.2.2.length ≤ s.2.2.2.length + l.length ∧ (0 ≤ s.2.2.1 → 0 ≤ (doAll p inn s l).2.2.1)
  | [], _ => ⟨Nat.le_refl _, fun h => h⟩
  | x :: r, s => by
    have h1 := doS_out p inn s x
    have h2 := doAll_out p inn r (doS p inn s x)
    rw [doAll, List.foldl_cons, List.length_cons]
    exact ⟨by have := h2.1; unfold doAll at this; omega, fun h => h2.2 (h1.2 h)⟩
theorem doS_keep {p : Prog} {inn : List Nm} {s : StE} {x : Stmt} (h : x.1 ≠ 3) : (doS p inn s x).2.2.2 = s.2.2.2 := by
  unfold doS
  repeat' split
  all_goals first | rfl | contradiction
theorem valA_in (p : Prog) {e : List Nm} (h : ∀ y ∈ e, inI y.1 ∧ inI y.2) (a : Atm) : inI (valA p e a).1 ∧ inI (valA p e a).2 := by
  have z : inI ((0 : Int)) := ⟨by decide, by decide⟩
  unfold valA
  split
  · exact nOf_in _
  · split
    · cases hg : e[(vIdx p a.1.l).toNat]? with
      | none => exact ⟨z, z⟩
      | some y => exact h y (List.mem_of_getElem? hg)
    · exact ⟨z, z⟩
theorem doS_in (p : Prog) (inn : List Nm) (s : StE) (hE : ∀ y ∈ s.2.1, inI y.1 ∧ inI y.2) (hO : ∀ y ∈ s.2.2.2, inI y.1 ∧ inI y.2) (x : Stmt) : (∀ y ∈ (doS p inn s x).2.1, inI y.1 ∧ inI y.2) ∧ ∀ y ∈ (doS p inn s x).2.2.2, inI y.1 ∧ inI y.2 := by
  unfold doS setAt
  split
  · refine ⟨fun y hy => ?_, hO⟩
    rcases List.mem_or_eq_of_mem_set hy with hy | hy
    · exact hE y hy
    · rw [hy]; exact nOp_in _ _ _
  · split
    · refine ⟨fun y hy => ?_, hO⟩
      rcases List.mem_or_eq_of_mem_set hy with hy | hy
      · exact hE y hy
      · rw [hy]; exact nOf_in _
    · split
      · refine ⟨hE, fun y hy => ?_⟩
        rcases List.mem_append.1 hy with hy | hy
        · exact hO y hy
        · rw [List.mem_singleton.1 hy]; exact valA_in p hE _
      · exact ⟨hE, hO⟩
theorem doAll_in (p : Prog) (inn : List Nm) : ∀ (l : List Stmt) (s : StE), (∀ y ∈ s.2.1, inI y.1 ∧ inI y.2) → (∀ y ∈ s.2.2.2, inI y.1 ∧ inI y.2) → ∀ y ∈ (doAll p inn s l).2.2.2, inI y.1 ∧ inI y.2
  | [], _, _, h => h
  | x :: r, s, h1, h2 => by
    have h3 := doS_in p inn s h1 h2 x
    exact doAll_in p inn r (doS p inn s x) h3.1 h3.2
theorem run_spec {p : Prog} (hc : cnt p < 400000) {inn : List Nm} {s : StE} {q : Block} (h0 : 0 ≤ s.1) (hq : p[s.1.toNat]? = some q) (hst : ∀ x ∈ q.2.1, stmtB x = true) (hl : s.2.1.length = (varsOf p).length) (hvl : (varsOf p).length ≤ 1000) (ho : s.2.2.2.length + q.2.1.length ≤ 1000000) (hi : 0 ≤ s.2.2.1)
    {a ae ao ai : Option Addr} {n c ne ce no co ni ci : Nat} {H : Hp} {K : Value → Hp → Prop} (ha : RL H a n c p) (hE : RL H ae ne ce s.2.1) (hO : RL H ao no co s.2.2.2) (hI : RL H ai ni ci inn)
    (hK : ∀ a1 n1 c1 a2 n2 c2 H', Le H H' → RL H' a1 n1 c1 (runB p inn s).2.1 → RL H' a2 n2 c2 (runB p inn s).2.2.2 → K (staV s.1 a1 n1 c1 (runB p inn s).2.2.1 (.slice a2 n2 c2)) H') :
    Does Tryz.prog 67 [.agg #[.slice a n c], staV s.1 ae ne ce s.2.2.1 (.slice ao no co), .slice ai ni ci] H K := by
  obtain ⟨b, l, i, o⟩ := s
  dsimp only at h0 hl ho hi hE hO ⊢
  have hn := ha.n_eq
  have hmx := ha.le
  have hblt := (List.getElem?_eq_some_iff.1 hq).1
  refine spec_of cxR_ok cx_mix rfl Tryz.func67 Tryz.call67 Tryz.ntmps67 Tryz.results67 rfl rfl ?_
  refine ⟨[], rfl, xcloneG_spec (by omega) (by omega) hE hO fun a1 n1 c1 H1 hle1 hr1 => ?_⟩
  refine block_kI (ha.up hle1) h0 hq fun ad a5 n5 c5 q1 hh hr5 _ _ => ?_
  refine ⟨ad, ⟨by omega, by omega, q1⟩, ?_⟩
  refine ⟨_, hh, ?_⟩
  have hn5 := hr5.n_eq
  have hmx5 := hr5.le
  have hqm := List.mem_of_getElem? hq
  have hrb : runB p inn (b, l, i, o) = doAll p inn (b, l, i, o) q.2.1 := by rw [runB, blkN_get hq]
  rw [hrb] at hK
  refine ⟨Nat × StE × (Option Addr × Nat × Nat), fun z => ⟨[(2, .v (.slice ai ni ci)), (3, .ptr 0 0), (4, .ptr 1 0), (6, .ptr 2 0), (17, .v (.slice a5 n5 c5)), (18, .v (.int .i64 n5)), (19, .v (.int .i64 z.1))],
      [(0, .cells 24 [.v (.slice a n c)]), (1, .cells 40 [.v (.int .i64 b), .v (.slice z.2.2.1 z.2.2.2.1 z.2.2.2.2), .v (.int .i64 z.2.1.2.2.1), .own 3]), (2, .cells 40 [.v (.int .i64 0), .v (.slice none 0 0), .v (.int .i64 0), .v (.slice none 0 0)]), (3, .row 42 2 (nRows z.2.1.2.2.2))], 4⟩,
    fun z H' => Le H H' ∧ z.1 ≤ q.2.1.length ∧ z.2.1 = doAll p inn (b, l, i, o) (q.2.1.take z.1) ∧ RL H' z.2.2.1 z.2.2.2.1 z.2.2.2.2 z.2.1.2.1, fun z => q.2.1.length - z.1, ⟨(0, (b, l, i, o), (a1, n1, c1)), [(0, 0), (1, 1), (2, 2), (3, 3)], ?_, hle1, Nat.zero_le _, rfl, hr1⟩, ?_⟩
  · (repeat' (first | exact trivial | refine ⟨?_, ?_⟩ | exact rfl | assumption))
  rintro ⟨k, st, a6, n6, c6⟩ H2 _ ⟨hle2, hk, hst2, hr6⟩
  dsimp only at hk hst2 hr6
  have hz := doAll_blk p inn (q.2.1.take k) (b, l, i, o)
  have hz2 := doAll_out p inn (q.2.1.take k) (b, l, i, o)
  rw [← hst2] at hz hz2
  obtain ⟨b', l', i', o'⟩ := st
  dsimp only at hr6 hz hz2 hst2 ⊢
  have hb' : b' = b := hz.1
  refine ⟨fun h => ?_, fun h => ?_⟩
  · have hlt : k < q.2.1.length := by have := dt h; omega
    refine name_k q.2.1[k] fun x hxe => ?_
    have hxx : q.2.1[k]? = some x := by rw [hxe]; exact List.getElem?_eq_getElem hlt
    have hxm := List.mem_of_getElem? hxx
    have hstep := doAll_snoc p inn (b, l, i, o) hxx
    rw [← hst2, hb'] at hstep
    have hz3 := hz2.1
    rw [List.length_take] at hz3
    have hvx : x.2.1.l ≠ [] → 0 ≤ vIdx p x.2.1.l ∧ vIdx p x.2.1.l < (l'.length : Nat) := fun hne => by
      rw [hz.2, hl]
      exact vIdx_stmt hqm hxm (by simp) hne
    have h12 : Le H1 H2 := by assumption
    refine stmt_k (hr5.up h12) hxx fun ad e1 hh1 hR => ?_
    refine ⟨ad, ⟨by omega, by omega, e1⟩, ?_⟩
    refine ⟨_, hh1, ?_⟩
    refine ⟨[3], rfl, xdo_spec hc (inn := inn) (o := o') (hst x hxm) hvx (by rw [hz.2, hl]; omega) (by omega) (hz2.2 hi) (ha.up hle2) hr6 (hI.up hle2) (fun a7 n7 c7 H3 hle3 hr7 h3 => ?_) (fun h3 => ?_)⟩
    · have ho3 : (doS p inn (b, l', i', o') x).2.2.2 = o' := doS_keep h3
      have hb3 := (doS_blk p inn (b, l', i', o') x).1
      refine ⟨⟨by omega, by omega⟩, (k + 1, doS p inn (b, l', i', o') x, (a7, n7, c7)), [(0, 0), (1, 1), (2, 2), (3, 3)], ?_, ⟨hle2.trans hle3, hlt, hstep.symm, hr7⟩, by dsimp only; omega⟩
      dsimp only
      rw [ho3]
      (repeat' (first | exact trivial | refine ⟨?_, ?_⟩ | exact rfl | assumption))
    · have e3 : doS p inn (b, l', i', o') x = (b, l', i', o' ++ [valA p l' x.2.2.2.1]) := by rw [doS, if_neg (by omega), if_neg (by omega), if_pos h3]
      rw [e3] at hstep
      refine ⟨⟨by omega, by omega⟩, (k + 1, (b, l', i', o' ++ [valA p l' x.2.2.2.1]), (a6, n6, c6)), [(0, 0), (1, 1), (2, 2), (3, 10)], ?_, ⟨hle2, hlt, hstep.symm, hr6⟩, by dsimp only; omega⟩
      (repeat' (first | exact trivial | refine ⟨?_, ?_⟩ | exact rfl | assumption))
  · have hkl : k = q.2.1.length := by have := df h; omega
    rw [hkl, List.take_length] at hst2
    rw [← hst2] at hK
    intro v H' hle hv
    refine of_row_k (α := Nm) hv (rc_eRows fun y hy => ?_) fun a8 n8 c8 ev hr => ?_
    · have := doAll_in p inn q.2.1 (b, l, i, o) (nRL_all hE) (nRL_all hO)
      rw [← hst2] at this
      exact this y hy
    · subst ev
      exact hK _ _ _ _ _ _ _ (hle2.trans hle.le) (hr6.up hle.le) hr
theorem nm_zero {a : Nm} : (decide (a.1 = 0) && (decide (a.2 = 0) && true)) = true ↔ a = (0, 0) := by
  obtain ⟨x, y⟩ := a
  simp
theorem follow_spec {p : Prog} (hc : cnt p < 400000) (hp : p.length ≤ 12) {s : StE} {q : Block} (h0 : 0 ≤ s.1) (hq : p[s.1.toNat]? = some q)
    {a ae ao : Option Addr} {n c ne ce no co : Nat} {H : Hp} {K : Value → Hp → Prop} (ha : RL H a n c p) (hE : RL H ae ne ce s.2.1)
    (hK : K (.tuple #[staV (folS p s).1.1 ae ne ce s.2.2.1 (.slice ao no co), .bool (folS p s).2]) H) :
    Does Tryz.prog 66 [.agg #[.slice a n c], staV s.1 ae ne ce s.2.2.1 (.slice ao no co)] H K := by
  obtain ⟨b, l, i, o⟩ := s
  dsimp only at h0 hq hE ⊢
  have hn := ha.n_eq
  have hmx := ha.le
  have hblt := (List.getElem?_eq_some_iff.1 hq).1
  have hbk := blkN_get hq
  have hkind : ∀ t : Term, t = q.2.2 → (q.2.2.1 = 3 → folS p (b, l, i, o) = ((b, l, i, o), false)) ∧ (q.2.2.1 ≠ 3 → folS p (b, l, i, o) = ((bIdx p (goTo p (b, l, i, o) q.2.2), l, i, o), true)) := fun _ _ =>
    ⟨fun h => by rw [folS]; dsimp only; rw [hbk, if_pos h], fun h => by rw [folS]; dsimp only; rw [hbk, if_neg h]⟩
  have hkind := hkind _ rfl
  refine spec_of cx_ok cx_mix rfl Tryz.func66 Tryz.call66 Tryz.ntmps66 Tryz.results66 rfl rfl ?_
  refine block_kI ha h0 hq fun ad a5 n5 c5 q1 hh _ _ _ => ?_
  refine ⟨ad, ⟨by omega, by omega, q1⟩, ?_⟩
  refine ⟨_, hh, ?_⟩
  refine ⟨fun h => ?_, fun h => ?_⟩
  · have h3 := dt h
    rw [hkind.1 h3] at hK
    exact hK
  have h3 := df h
  rw [hkind.2 h3] at hK
  refine ⟨fun h => ?_, fun h => ?_⟩
  · have h2 := dt h
    refine value_spec hc ha hE ?_
    refine ⟨fun h => ?_, fun h => ?_⟩
    · have hz : valA p l q.2.2.2.1 = (0, 0) := nm_zero.1 h
      have hgo : goTo p (b, l, i, o) q.2.2 = q.2.2.2.2.2.l := by rw [goTo, if_pos ⟨h2, hz⟩]
      rw [hgo, bIdx] at hK
      refine block_spec hp ha fun _ _ => ?_
      exact hK
    · have hz : ¬ valA p l q.2.2.2.1 = (0, 0) := fun e => by rw [nm_zero.2 e] at h; cases h
      have hgo : goTo p (b, l, i, o) q.2.2 = q.2.2.2.2.1.l := by rw [goTo, if_neg (fun hh => hz hh.2)]
      rw [hgo, bIdx] at hK
      refine block_spec hp ha fun _ _ => ?_
      exact hK
  · have h2 := df h
    have hgo : goTo p (b, l, i, o) q.2.2 = q.2.2.2.2.1.l := by rw [goTo, if_neg (fun hh => h2 hh.1)]
    rw [hgo, bIdx] at hK
    refine block_spec hp ha fun _ _ => ?_
    exact hK
end Go.Proofs
end
section
namespace Go.Proofs
open Go.Sy
set_option maxRecDepth 20000
set_option maxHeartbeats 4000000
/-! Running: whole runs. -/
def goodS (p : Prog) (s : StE) : Prop := (0 ≤ s.1 ∧ s.1 < (p.length : Nat)) ∧ s.2.1.length = (varsOf p).length ∧ 0 ≤ s.2.2.1 ∧ s.2.2.1 ≤ 9223372036854775807
theorem doS_in2 (p : Prog) (inn : List Nm) (s : StE) (x : Stmt) (h : s.2.2.1 ≤ 9223372036854775807) : (doS p inn s x).2.2.1 ≤ 9223372036854775807 := by
  unfold doS inNext
  repeat' split
  all_goals (first | omega | (dsimp only; omega))
theorem doAll_in2 (p : Prog) (inn : List Nm) : ∀ (l : List Stmt) (s : StE), s.2.2.1 ≤ 9223372036854775807 → (doAll p inn s l).2.2.1 ≤ 9223372036854775807
  | [], _, h => h
  | x :: r, s, h => doAll_in2 p inn r (doS p inn s x) (doS_in2 p inn s x h)
theorem goodS_run {p : Prog} {inn : List Nm} {s : StE} (h : goodS p s) : goodS p (runB p inn s) := by
  have h1 := doAll_blk p inn (blkN p s.1).2.1 s
  have h2 := doAll_out p inn (blkN p s.1).2.1 s
  have h3 := doAll_in2 p inn (blkN p s.1).2.1 s h.2.2.2
  rw [runB]
  exact ⟨by rw [h1.1]; exact h.1, by rw [h1.2]; exact h.2.1, h2.2 h.2.2.1, h3⟩
theorem goodS_step {p : Prog} {inn : List Nm} {s : StE} (h : goodS p s) : goodS p (folS p (runB p inn s)).1 := by
  have h1 := goodS_run (inn := inn) h
  unfold folS
  split
  · exact h1
  · exact ⟨bIdx_range p _ (by have := h.1; omega), h1.2⟩
theorem goodS_it {p : Prog} {inn : List Nm} {s : StE} (h : goodS p s) : ∀ k, goodS p (itS p inn s k).2.1
  | 0 => h
  | k + 1 => by
    have h1 := goodS_it (inn := inn) h k
    rw [itS]
    split
    · exact goodS_step h1
    · exact h1
theorem le_stmts : ∀ {p : Prog} {b : Block}, b ∈ p → b.2.1.length ≤ stmtsN p
  | [], _, h => by cases h
  | x :: r, b, h => by
    unfold stmtsN
    rw [List.map_cons, List.sum_cons]
    rcases List.mem_cons.1 h with rfl | h
    · omega
    · have := le_stmts h
      unfold stmtsN at this
      omega
theorem stmts_512 {p : Prog} (h : checkE p = 0) : stmtsN p ≤ 512 := by
  unfold checkE at h
  split at h
  · cases h
  · omega
theorem fol_out (p : Prog) (s : StE) : (folS p s).1.2.2.2 = s.2.2.2 ∧ (folS p s).1.2.1 = s.2.1 ∧ (folS p s).1.2.2.1 = s.2.2.1 := by
  unfold folS
  split <;> exact ⟨rfl, rfl, rfl⟩
theorem blkN_mem {p : Prog} {s : StE} (h : goodS p s) : ∃ q, p[s.1.toNat]? = some q ∧ blkN p s.1 = q ∧ q ∈ p := by
  have hlt : s.1.toNat < p.length := by have := h.1; omega
  exact ⟨p[s.1.toNat], List.getElem?_eq_getElem hlt, blkN_get (List.getElem?_eq_getElem hlt), List.getElem_mem hlt⟩
theorem out_run {p : Prog} {inn : List Nm} {s : StE} (h : goodS p s) : (runB p inn s).2.2.2.length ≤ s.2.2.2.length + stmtsN p := by
  obtain ⟨q, _, e, hm⟩ := blkN_mem h
  have h1 := (doAll_out p inn q.2.1 s).1
  have h2 := le_stmts hm
  rw [runB, e]
  omega
theorem out_it {p : Prog} {inn : List Nm} {s : StE} (h : goodS p s) : ∀ k, (itS p inn s k).2.1.2.2.2.length ≤ s.2.2.2.length + k * stmtsN p
  | 0 => by simp [itS]
  | k + 1 => by
    have h1 := out_it (inn := inn) h k
    have h2 := out_run (inn := inn) (goodS_it (inn := inn) h k)
    rw [itS, Nat.add_mul, Nat.one_mul]
    split
    · rw [(fol_out p _).1]; omega
    · omega
theorem sta_mk {H : Hp} {s : StE} {a1 a2 : Option Addr} {n1 c1 n2 c2 : Nat} (h1 : inI s.1) (h2 : inI s.2.2.1) (hE : RL H a1 n1 c1 s.2.1) (hO : RL H a2 n2 c2 s.2.2.2) : Enc.R H [.int .i64 s.1, .slice a1 n1 c1, .int .i64 s.2.2.1, .slice a2 n2 c2] s :=
  ⟨[_], [_, _, _], rfl, ⟨rfl, h1⟩, [_], [_, _], rfl, ⟨_, _, _, rfl, hE⟩, [_], [_], rfl, ⟨rfl, h2⟩, ⟨_, _, _, rfl, hO⟩⟩
theorem sta_k {P : Prop} {H : Hp} {a : Option Addr} {n c : Nat} {xs : List StE} (h : RL H a n c xs) {i : Nat} {x : StE} (hi : xs[i]? = some x) (k : ∀ ad a1 n1 c1 a2 n2 c2, a = some ad → ElemH H ad (i : Int) 4 [.int .i64 x.1, .slice a1 n1 c1, .int .i64 x.2.2.1, .slice a2 n2 c2] → RL H a1 n1 c1 x.2.1 → RL H a2 n2 c2 x.2.2.2 → P) : P :=
  elem_k h hi fun ad cs h1 h2 h3 => by
    obtain ⟨x1, x2, rfl, ⟨rfl, _⟩, y1, y2, rfl, ⟨a1, n1, c1, rfl, hE⟩, z1, z2, rfl, ⟨rfl, _⟩, ⟨a2, n2, c2, rfl, hO⟩⟩ := h3
    exact k ad a1 n1 c1 a2 n2 c2 h1 h2 hE hO
theorem from_spec {p : Prog} (he : checkE p = 0) (hp : p.length ≤ 12) (hc : stmtsN p ≤ 1000000) (hv : cnt p < 400000) {inn : List Nm} {s : StE} (hs : goodS p s) (ho : s.2.2.2.length ≤ 100000) {most : Int} (hm : most ≤ 40)
    {a ae ao ai : Option Addr} {n c ne ce no co ni ci : Nat} {H : Hp} {K : Value → Hp → Prop} (ha : RL H a n c p) (hE : RL H ae ne ce s.2.1) (hO : RL H ao no co s.2.2.2) (hI : RL H ai ni ci inn)
    (hK : ∀ a1 n1 c1 a2 n2 c2 H', Le H H' → RL H' a1 n1 c1 (itS p inn s most.toNat).1 → RL H' a2 n2 c2 (itS p inn s most.toNat).2.1.2.2.2 → K (.tuple #[.agg #[.slice a1 n1 c1, .slice a2 n2 c2, .bool (!(itS p inn s most.toNat).2.2)], .int .i64 0]) H') :
    Does Tryz.prog 30 [.agg #[.slice a n c], staV s.1 ae ne ce s.2.2.1 (.slice ao no co), .slice ai ni ci, .int .i64 most] H K := by
  have hn := ha.n_eq
  have hmx := ha.le
  have hf := check_facts he
  have hst5 := stmts_512 he
  refine spec_of cx_ok cx_mix rfl Tryz.func30 Tryz.call30 Tryz.ntmps30 Tryz.results30 rfl rfl ?_
  have hmm : min (max most 0) 4096 = (most.toNat : Int) := by omega
  refine .inr ⟨Nat × List (List Value) × StE × Bool × (Option Addr × Nat × Nat) × (Option Addr × Nat × Nat), fun _ => 0, fun z => ⟨[(2, .v (.slice ai ni ci)), (3, .v (.int .i64 (min (max most 0) 4096))), (4, .ptr 0 0), (5, .ptr 1 0), (8, .ptr 2 0), (11, .ptr 3 0), (12, .v (.bool z.2.2.2.1))],
      [(0, .cells 24 [.v (.slice a n c)]), (1, .cells 40 [.v (.int .i64 z.2.2.1.1), .v (.slice z.2.2.2.2.1.1 z.2.2.2.2.1.2.1 z.2.2.2.2.1.2.2), .v (.int .i64 z.2.2.1.2.2.1), .v (.slice z.2.2.2.2.2.1 z.2.2.2.2.2.2.1 z.2.2.2.2.2.2.2)]), (2, .cells 31 [.v (.slice none 0 0), .v (.slice none 0 0), .v (.bool false)]), (3, .cells 31 [.own 4, .v (.slice none 0 0), .v (.bool false)]), (4, .row 40 4 z.2.1)], 5⟩,
    fun z H' => Le H H' ∧ z.1 ≤ most.toNat ∧ itS p inn s z.1 = (((itS p inn s z.1).1), z.2.2.1, z.2.2.2.1) ∧ RC (α := StE) H' z.2.1 (itS p inn s z.1).1 ∧ RL H' z.2.2.2.2.1.1 z.2.2.2.2.1.2.1 z.2.2.2.2.1.2.2 z.2.2.1.2.1 ∧ RL H' z.2.2.2.2.2.1 z.2.2.2.2.2.2.1 z.2.2.2.2.2.2.2 z.2.2.1.2.2.2, fun z => most.toNat - z.1, ?_, ?_⟩
  · refine xcheck_spec he hc hv hs.1 hs.2.1 hs.2.2.1 ha hE fun _ _ => ?_
    refine ⟨fun h => absurd rfl (nt h), fun _ => ?_⟩
    have hE1 := hs.2.1
    refine xclone_spec (by omega) (by omega) hE hO fun a1 n1 c1 a2 n2 c2 H0 H1 hle0 hr0 hle1 hr2 => ?_
    have hle : Le H H1 := hle0.trans hle1.le
    have hr1 := hr0.up hle1.le
    have hgd := hs
    have hit : itS p inn s 0 = ([], s, true) := rfl
    have hrc : RC (α := StE) H1 [] ([] : List StE) := RC.nil
    have hcl : ([] : List (List Value)).length = 0 := rfl
    refine ⟨fun h => ?_, fun h => ?_⟩
    · have hlt : 0 < most.toNat := by have := dt h; omega
      refine ⟨some ([1000000, 3], [0, 1, 2, 3, 4, 5, 6, 7]), by kernel_rfl, ?_⟩
      obtain ⟨qq, hq, hbq, hqm⟩ := blkN_mem hgd
      have hst := block_stmts (hf.2.2.2 qq hqm)
      have hqs := le_stmts hqm
      refine xclone_spec (l := s.2.1) (o := s.2.2.2) (by omega) (by omega) hr1 hr2 fun a3 n3 c3 a4 n4 c4 H2 H3 hle2 hr3 hle3 hr4 => ?_
      have h13 : Le H1 H3 := hle2.trans hle3.le
      refine ⟨⟨by show ([].length + 1) * 64 ≤ 140737488355328; omega, by show [].length + 1 ≤ 9223372036854775807; omega⟩, ?_⟩
      refine ⟨some ([1000000, 1], [0, 1, 2, 3, 4, 5, 6, 7, 8, 9, 10]), by kernel_rfl, ?_⟩
      refine run_spec (s := s) hv hgd.1.1 hq hst hE1 (by omega) (by omega) hgd.2.2.1 (ha.up (hle.trans h13)) (hr1.up h13) (hr2.up h13) (hI.up (hle.trans h13)) fun a5 n5 c5 a6 n6 c6 H4 hle4 hr5 hr6 => ?_
      have hgr := goodS_run (inn := inn) hgd
      have hb1 : (runB p inn s).1 = s.1 := (doAll_blk p inn _ s).1
      rw [← hb1]
      refine follow_spec (s := runB p inn s) hv hp hgr.1.1 (by rw [hb1]; exact hq) (ha.up ((hle.trans h13).trans hle4)) hr5 ?_
      have hfo := fol_out p (runB p inn s)
      have e : SV.v (.int .i64 (runB p inn s).2.2.1) = SV.v (.int .i64 (folS p (runB p inn s)).1.2.2.1) := by rw [hfo.2.2]
      have hstp := itS_step (p := p) (inn := inn) (s0 := s) (k := 0) (by rw [hit])
      have h14 := h13.trans hle4
      have hrow : RC (α := StE) H4 ([] ++ [[.int .i64 (runB p inn s).1, .slice a3 n3 c3, .int .i64 s.2.2.1, .slice a4 n4 c4]]) (itS p inn s (0 + 1)).1 := by
        rw [hstp, hit, hb1]
        have g1 := hgd.1
        have g2 := hgd.2.2
        exact (hrc.up h14).snoc (sta_mk ⟨by omega, by omega⟩ ⟨by omega, by omega⟩ (hr3.up (hle3.le.trans hle4)) (hr4.up hle4))
      refine ⟨(0 + 1, [] ++ [[.int .i64 (runB p inn s).1, .slice a3 n3 c3, .int .i64 s.2.2.1, .slice a4 n4 c4]], (folS p (runB p inn s)).1, (folS p (runB p inn s)).2, (a5, n5, c5), (a6, n6, c6)), [(0, 0), (1, 1), (2, 2), (3, 3), (4, 5)], rfl, ?_, ⟨hle.trans h14, hlt, ?_, hrow, ?_, ?_⟩⟩
      · (repeat' (first | exact trivial | refine ⟨?_, ?_⟩ | exact rfl | assumption))
      · rw [hstp, hit]
      · rw [hfo.2.1]; exact hr5
      · rw [hfo.1]; exact hr6
    · have hlt : most.toNat = 0 := by have := df h; omega
      rw [hlt] at hK
      exact hK none 0 0 a2 n2 c2 H1 hle rl_nil hr2
  · rintro ⟨k, css, st, g, ⟨a1, n1, c1⟩, ⟨a2, n2, c2⟩⟩ H1 _ ⟨hle, hk, hit, hrc, hr1, hr2⟩
    dsimp only at hk hit hrc hr1 hr2
    have hgd : goodS p st := by have := goodS_it (inn := inn) hs k; rw [hit] at this; exact this
    have hol : st.2.2.2.length ≤ 100000 + 40 * 512 := by
      have h1 := out_it (inn := inn) hs k
      rw [hit] at h1
      have h2 : k * stmtsN p ≤ 40 * 512 := Nat.mul_le_mul (by omega) hst5
      have h1 : st.2.2.2.length ≤ s.2.2.2.length + k * stmtsN p := h1
      omega
    have hcl : css.length = (itS p inn s k).1.length := hrc.1
    have hle4 := itS_le (p := p) (inn := inn) (s0 := s) k
    refine ⟨fun h => ?_, fun h => ?_⟩
    · have hgt : g = true := h
      subst hgt
      have hkl : (itS p inn s k).1.length = k := itS_len k (by rw [hit])
      have hE1 := hgd.2.1
      refine ⟨fun h => ?_, fun h => ?_⟩
      · have hlt : k < most.toNat := by have := dt h; dsimp only at this; omega
        refine ⟨some ([1000000, 3, 4], [0, 1, 2, 3, 4, 5, 6, 7]), by kernel_rfl, ?_⟩
        obtain ⟨qq, hq, hbq, hqm⟩ := blkN_mem hgd
        have hst := block_stmts (hf.2.2.2 qq hqm)
        have hqs := le_stmts hqm
        refine xclone_spec (l := st.2.1) (o := st.2.2.2) (by omega) (by omega) hr1 hr2 fun a3 n3 c3 a4 n4 c4 H2 H3 hle2 hr3 hle3 hr4 => ?_
        have h13 : Le H1 H3 := hle2.trans hle3.le
        refine ⟨⟨by show (css.length + 1) * 64 ≤ 140737488355328; omega, by show css.length + 1 ≤ 9223372036854775807; omega⟩, ?_⟩
        refine ⟨some ([1000000, 1], [0, 1, 2, 3, 4, 5, 6, 7, 8, 9, 10]), by kernel_rfl, ?_⟩
        refine run_spec (s := st) hv hgd.1.1 hq hst hE1 (by omega) (by omega) hgd.2.2.1 (ha.up (hle.trans h13)) (hr1.up h13) (hr2.up h13) (hI.up (hle.trans h13)) fun a5 n5 c5 a6 n6 c6 H4 hle4 hr5 hr6 => ?_
        have hgr := goodS_run (inn := inn) hgd
        have hb1 : (runB p inn st).1 = st.1 := (doAll_blk p inn _ st).1
        rw [← hb1]
        refine follow_spec (s := runB p inn st) hv hp hgr.1.1 (by rw [hb1]; exact hq) (ha.up ((hle.trans h13).trans hle4)) hr5 ?_
        have hfo := fol_out p (runB p inn st)
        have e : SV.v (.int .i64 (runB p inn st).2.2.1) = SV.v (.int .i64 (folS p (runB p inn st)).1.2.2.1) := by rw [hfo.2.2]
        have hstp := itS_step (p := p) (inn := inn) (s0 := s) (k := k) (by rw [hit])
        have h14 := h13.trans hle4
        have hrow : RC (α := StE) H4 (css ++ [[.int .i64 (runB p inn st).1, .slice a3 n3 c3, .int .i64 st.2.2.1, .slice a4 n4 c4]]) (itS p inn s (k + 1)).1 := by
          rw [hstp, hit, hb1]
          have g1 := hgd.1
          have g2 := hgd.2.2
          exact (hrc.up h14).snoc (sta_mk ⟨by omega, by omega⟩ ⟨by omega, by omega⟩ (hr3.up (hle3.le.trans hle4)) (hr4.up hle4))
        refine ⟨(k + 1, css ++ [[.int .i64 (runB p inn st).1, .slice a3 n3 c3, .int .i64 st.2.2.1, .slice a4 n4 c4]], (folS p (runB p inn st)).1, (folS p (runB p inn st)).2, (a5, n5, c5), (a6, n6, c6)), [(0, 0), (1, 1), (2, 2), (3, 3), (4, 6)], rfl, ?_, ⟨hle.trans h14, hlt, ?_, hrow, ?_, ?_⟩, by dsimp only; omega⟩
        · (repeat' (first | exact trivial | refine ⟨?_, ?_⟩ | exact rfl | assumption))
        · rw [hstp, hit]
        · rw [hfo.2.1]; exact hr5
        · rw [hfo.1]; exact hr6
      · have hge : most.toNat = k := by have := df h; dsimp only at this; omega
        rw [hge, hit] at hK
        intro v H5 hle5 hv5
        refine of_row_k (α := StE) hv5 (hrc.up hle5.le) fun a7 n7 c7 ev hr7 => ?_
        subst ev
        exact hK _ _ _ _ _ _ _ (hle.trans hle5.le) hr7 (hr2.up hle5.le)
    · have hgf : g = false := h
      subst hgf
      have hend := itS_end (p := p) (inn := inn) (s0 := s) (k := k) (by rw [hit]) (most.toNat - k)
      rw [show k + (most.toNat - k) = most.toNat by omega] at hend
      rw [hend, hit] at hK
      intro v H5 hle5 hv5
      refine of_row_k (α := StE) hv5 (hrc.up hle5.le) fun a7 n7 c7 ev hr7 => ?_
      subst ev
      exact hK _ _ _ _ _ _ _ (hle.trans hle5.le) hr7 (hr2.up hle5.le)
end Go.Proofs
end
section
namespace Go.Proofs
open Go.Sy
set_option maxRecDepth 20000
set_option maxHeartbeats 4000000
/-! Running from the start. -/
theorem start_spec {p : Prog} (he : checkE p = 0) (hv : cnt p < 400000) {a : Option Addr} {n c : Nat} {H : Hp} {K : Value → Hp → Prop} (ha : RL H a n c p)
    (hK : ∀ a1 n1 c1 H', Le H H' → RL H' a1 n1 c1 (start0 p).2.1 → K (staV 0 a1 n1 c1 0 (.slice none 0 0)) H') : Does Tryz.prog 31 [.agg #[.slice a n c]] H K := by
  have hf := check_facts he
  refine spec_of cx_ok cx_mix rfl Tryz.func31 Tryz.call31 Tryz.ntmps31 Tryz.results31 rfl rfl ?_
  refine pvars_spec ha hv fun av nv cv H1 hle1 hrv => ?_
  have hnv := hrv.n_eq
  rw [List.length_map] at hnv
  refine ⟨⟨rfl, by omega, by show (nv : Int) * 16 ≤ _; omega, by omega⟩, ?_⟩
  intro v H' hle hv2
  have e : List.replicate (nv : Int).toNat [Value.int .i64 0, Value.int .i64 0] = nRows (start0 p).2.1 := by
    show _ = List.map _ (List.replicate _ _)
    rw [List.map_replicate, Int.toNat_natCast, hnv]
  have hv2 : RowAt H' v 2 (List.replicate (nv : Int).toNat [Value.int .i64 0, Value.int .i64 0]) := hv2
  rw [e] at hv2
  refine of_row_k (α := Nm) hv2 (rc_eRows fun y hy => ?_) fun a1 n1 c1 ev hr => ?_
  · rw [(List.mem_replicate.1 hy).2]; exact ⟨⟨by decide, by decide⟩, ⟨by decide, by decide⟩⟩
  · subst ev
    exact hK _ _ _ _ (hle1.trans hle.le) hr
theorem goodS_start {p : Prog} (he : checkE p = 0) : goodS p (start0 p) := by
  have hf := check_facts he
  exact ⟨⟨Int.le_refl _, by show (0 : Int) < _; omega⟩, by simp [start0], Int.le_refl _, (by show (0 : Int) ≤ 9223372036854775807; decide)⟩
theorem all_spec {p : Prog} (he : checkE p = 0) (hp : p.length ≤ 12) (hc : stmtsN p ≤ 1000000) (hv : cnt p < 400000) {inn : List Nm} {most : Int} (hm : most ≤ 40)
    {a ai : Option Addr} {n c ni ci : Nat} {H : Hp} {K : Value → Hp → Prop} (ha : RL H a n c p) (hI : RL H ai ni ci inn)
    (hK : ∀ a1 n1 c1 a2 n2 c2 H', Le H H' → RL H' a1 n1 c1 (itS p inn (start0 p) most.toNat).1 → RL H' a2 n2 c2 (itS p inn (start0 p) most.toNat).2.1.2.2.2 → K (.tuple #[.agg #[.slice a1 n1 c1, .slice a2 n2 c2, .bool (!(itS p inn (start0 p) most.toNat).2.2)], .int .i64 0]) H') :
    Does Tryz.prog 9 [.agg #[.slice a n c], .slice ai ni ci, .int .i64 most] H K := by
  refine spec_of cx_ok cx_mix rfl Tryz.func9 Tryz.call9 Tryz.ntmps9 Tryz.results9 rfl rfl ?_
  refine ⟨some ([1], [0, 1, 3, 4, 2, 5, 6, 7, 8, 9]), by kernel_rfl, ?_⟩
  refine start_spec he hv ha fun a1 n1 c1 H1 hle1 hr1 => ?_
  refine from_spec he hp hc hv (s := start0 p) (goodS_start he) (by simp [start0]) hm (ha.up hle1) hr1 rl_nil (hI.up hle1) fun a2 n2 c2 a3 n3 c3 H2 hle2 hr2 hr3 => ?_
  exact hK _ _ _ _ _ _ _ (hle1.trans hle2) hr2 hr3
end Go.Proofs
end
section
namespace Go.Proofs
open Go.Sy
set_option maxRecDepth 20000
set_option maxHeartbeats 4000000
/-! PropRuns. -/
theorem PropRuns_spec {p : Prog} {inn : List Nm} {a ai : Option Addr} {n c ni ci : Nat} {H : Hp} {K : Value → Hp → Prop} (ha : RL H a n c p) (hI : RL H ai ni ci inn) (most : Int) (hK : ∀ H', Le H H' → K (.bool true) H') : Does Tryz.prog 3 [.agg #[.slice a n c], .slice ai ni ci, .int .i64 most] H K := by
  have hn := ha.n_eq
  have hmx := ha.le
  have hni := hI.n_eq
  refine spec_of cx_ok cx_mix rfl Tryz.func3 Tryz.call3 Tryz.ntmps3 Tryz.results3 rfl rfl ?_
  refine awake41_spec fun _ _ => ?_
  refine ⟨(fun h => by cases h), fun _ => ?_⟩
  refine small4_spec ha fun t ht => ?_
  refine ⟨fun h => ?f0, fun h => ?t0⟩
  case t0 => exact hK _ (Le.refl H)
  have hb4 := ht (by simpa using h)
  have hp := hb4.1
  have hl : ∀ b ∈ p, b.2.1.length ≤ 1000000 := fun b h => by have := (hb4.2 b h).1.1; omega
  have hc : stmtsN p ≤ 1000000 := small_stmts hb4
  have hv : cnt p < 400000 := small_cnt hb4
  refine ⟨fun h => ?f1, fun h => ?t1⟩
  case t1 => exact hK _ (Le.refl H)
  refine rcheck_spec ha hc hv fun _ _ => ?_
  refine ⟨fun h => ?t2, fun h => ?f2⟩
  case t2 => exact hK _ (Le.refl H)
  have he : checkE p = 0 := nf h
  have hf := check_facts he
  refine all_spec he hp hc hv (by omega) ha hI fun a1 n1 c1 a2 n2 c2 H1 hle1 hr1 hr2 => ?_
  have hok := okSt_all he inn (min most 25).toNat
  refine name_k (itS p inn (start0 p) (min most 25).toNat).1 fun V hV => ?_
  rw [← hV] at hr1 hok
  refine sets_spec hp hl hc hv (ha.up hle1) (fun hb => absurd he hb) (fun _ a3 n3 c3 a4 n4 c4 H2 hle2 hr3 hr4 => ?_)
  have ho := sysOf_ok he
  have hA := solveS_ok ho
  have hle := hle1.trans hle2
  refine ⟨fun _ => ?_, fun h => absurd rfl (nt h)⟩
  refine ⟨fun h => absurd rfl (nt h), fun _ => ?_⟩
  have hnv := hr1.n_eq
  have hmv := hr1.le
  refine ⟨Nat, fun j => ⟨[(9, .v (.slice a3 n3 c3)), (55, .v (.slice a1 n1 c1)), (56, .v (.int .i64 n1)), (57, .v (.int .i64 j))], [], 0⟩, fun j H' => H' = H2 ∧ j ≤ V.length, fun j => V.length - j, ⟨0, [], ?_, rfl, Nat.zero_le _⟩, ?_⟩
  · (repeat' (first | exact trivial | refine ⟨?_, ?_⟩ | exact rfl | assumption))
  rintro j H3 _ ⟨rfl, hj⟩
  refine ⟨fun h => ?_, fun h => ?_⟩
  · have hlt : j < V.length := by have := dt h; omega
    refine name_k V[j] fun s hse => ?_
    have hss : V[j]? = some s := by rw [hse]; exact List.getElem?_eq_getElem hlt
    have hsk := hok s (List.mem_of_getElem? hss)
    refine sta_k (hr1.up hle2) hss fun ad a5 n5 c5 a6 n6 c6 e1 hh hr5 hr6 => ?_
    refine ⟨ad, ⟨by omega, by omega, e1⟩, ?_⟩
    refine ⟨_, hh, ?_⟩
    have hn5 := hr5.n_eq
    have hm5 := hr5.le
    have hlt1 : s.1.toNat < (sysOf p).m := by have := hsk.1; show s.1.toNat < p.length; omega
    have hks := hsk.2.2
    refine ⟨Nat, fun i => ⟨[(9, .v (.slice a3 n3 c3)), (13, .ptr 0 0), (55, .v (.slice a1 n1 c1)), (56, .v (.int .i64 n1)), (57, .v (.int .i64 j)), (62, .v (.slice a5 n5 c5)), (63, .v (.int .i64 n5)), (64, .v (.int .i64 i))], [(0, .cells 40 [.v (.int .i64 s.1), .v (.slice a5 n5 c5), .v (.int .i64 s.2.2.1), .v (.slice a6 n6 c6)])], 1⟩, fun i H' => H' = H3 ∧ i ≤ s.2.1.length, fun i => s.2.1.length - i, ⟨0, [(0, 0)], ?_, rfl, Nat.zero_le _⟩, ?_⟩
    · (repeat' (first | exact trivial | refine ⟨?_, ?_⟩ | exact rfl | assumption))
    rintro i H4 _ ⟨rfl, hi⟩
    refine ⟨fun h => ?_, fun h => ?_⟩
    · have hlt2 : i < s.2.1.length := by have := dt h; omega
      refine name_k s.2.1[i] fun x hxe => ?_
      have hxx : s.2.1[i]? = some x := by rw [hxe]; exact List.getElem?_eq_getElem hlt2
      have hab := hks.2 i x hxx
      refine edge_k hr5 hxx fun ad2 e2 hh2 => ?_
      refine ⟨ad2, ⟨by omega, by omega, e2⟩, ?_⟩
      refine ⟨_, hh2, ?_⟩
      refine list_k hr3 (aAt_get hA hlt1) fun ad3 a7 n7 c7 e3 hh3 hr7 => ?_
      rw [show ((s.1.toNat : Nat) : Int) = s.1 from Int.toNat_of_nonneg hsk.1.1] at hh3
      have hn3 := hr3.n_eq
      rw [hA.len] at hn3
      have hs1 := hsk.1
      have hpm : (sysOf p).m = p.length := rfl
      refine ⟨ad3, ⟨by omega, by omega, e3⟩, ?_⟩
      refine ⟨_, hh3, ?_⟩
      have hn7 := hr7.n_eq
      have hkl := hks.1
      have hlt7 : i < (aAt (solveS (sysOf p)) s.1.toNat).length := by omega
      have hw7 := List.getElem?_eq_getElem hlt7
      refine word_k hr7 hw7 fun ad4 e4 hh4 _ => ?_
      refine ⟨ad4, ⟨by omega, by omega, e4⟩, ?_⟩
      refine ⟨_, hh4, ?_⟩
      rw [wAt_in hw7] at hab
      refine rnum_spec (UInt64.toNat_lt _) ?_
      refine ⟨fun h => ?_, fun h => absurd (by have := dt h; omega) hab.1⟩
      refine ⟨fun h => ?_, fun h => ?_⟩
      · have hx : (kNum (aAt (solveS (sysOf p)) s.1.toNat)[i].toNat).getD (0, 0) = x := by
          cases e : kNum (aAt (solveS (sysOf p)) s.1.toNat)[i].toNat with
          | none => rw [e] at h; cases h
          | some y => exact hab.2 y e
        refine ⟨fun h2 => ?_, fun _ => ?_⟩
        · rw [hx] at h2
          simp at h2
        · refine ⟨⟨by omega, by omega⟩, i + 1, [(0, 0)], ?_, ⟨rfl, hlt2⟩, by dsimp only; omega⟩
          (repeat' (first | exact trivial | refine ⟨?_, ?_⟩ | exact rfl | assumption))
      · refine ⟨⟨by omega, by omega⟩, i + 1, [(0, 0)], ?_, ⟨rfl, hlt2⟩, by dsimp only; omega⟩
        (repeat' (first | exact trivial | refine ⟨?_, ?_⟩ | exact rfl | assumption))
    · refine ⟨⟨by omega, by omega⟩, j + 1, [], ?_, ⟨rfl, hlt⟩, by dsimp only; omega⟩
      (repeat' (first | exact trivial | refine ⟨?_, ?_⟩ | exact rfl | assumption))
  · exact hK _ hle
end Go.Proofs
end
