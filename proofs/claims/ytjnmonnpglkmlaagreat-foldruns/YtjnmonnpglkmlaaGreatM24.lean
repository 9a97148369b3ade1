/- Part 'M24' of the proof (Fo1, Fo2, Px0, Rn0, Px1, Fr0, Fr1, Fr2, Fr3, Fr4, Fr5, Fo3, Fo4, Fo5, Ex1, Ex2, Ex3, Ex4, Ex5, Pr10): lemmas, each with its own conditions in its own statement. -/
import Derived.Test.YtjnmonnpglkmlaaGreatM10
import Derived.Test.YtjnmonnpglkmlaaGreatM22
import Derived.Test.YtjnmonnpglkmlaaGreatM23
section
namespace Go.Proofs
open Go.Sy
set_option maxRecDepth 20000
set_option maxHeartbeats 4000000
/-! Folding: statements, the example. -/
theorem nOf_R (a : Nm) : i64R (nOf a).1 ∧ i64R (nOf a).2 := by
  have h1 := wrp_le a.1
  have h2 := wrp_le a.2
  exact ⟨⟨by show _ ≤ wrp a.1; omega, by show wrp a.1 ≤ _; omega⟩, ⟨by show _ ≤ wrp a.2; omega, by show wrp a.2 ≤ _; omega⟩⟩
theorem nOp_R (op : Int) (a b : Nm) : i64R (nOp op a b).1 ∧ i64R (nOp op a b).2 := by
  unfold nOp
  repeat' split
  all_goals first | exact nOf_R _ | exact ⟨⟨by decide, by decide⟩, ⟨by decide, by decide⟩⟩
theorem ze_R : atmR (⟨[]⟩, 0, 0) := ⟨Nat.zero_le _, ⟨by decide, by decide⟩, ⟨by decide, by decide⟩⟩
theorem zero_R : i64R 0 := ⟨by decide, by decide⟩
theorem foldE_R {p : Prog} {known : List UInt64} {x : Expr} (h : exprR x) : exprR (foldE p known x) := by
  have h1 : atmR (if 0 < nAt x.1 then foldA p known x.2.1 else x.2.1) := by
    split
    · exact foldA_R h.2.1
    · exact h.2.1
  have h2 : atmR (if 1 < nAt x.1 then foldA p known x.2.2 else x.2.2) := by
    split
    · exact foldA_R h.2.2
    · exact h.2.2
  have key : ∀ (y1 y2 : Atm), atmR y1 → atmR y2 → ∀ (c : Prop) [Decidable c], exprR (if c then (0, (⟨[]⟩, nOp x.1 y1.2 y2.2), (⟨[]⟩, (0, 0))) else (x.1, y1, y2)) := fun y1 y2 h1 h2 c _ => by
    split
    · exact ⟨zero_R, ⟨Nat.zero_le _, (nOp_R _ _ _).1, (nOp_R _ _ _).2⟩, ze_R⟩
    · exact ⟨h.1, h1, h2⟩
  exact key _ _ h1 h2 _
theorem has0_cons (x : UInt64) (r : Wd) : has0 (x :: r) = (decide (x.toNat = 0) || has0 r) := rfl
def foldS (p : Prog) (known : List UInt64) (s : Stmt) : Stmt := if s.1 = 1 ∨ s.1 = 3 then (s.1, s.2.1, foldE p known s.2.2) else s
theorem foldS_R {p : Prog} {known : List UInt64} {s : Stmt} (h : stmtR s) : stmtR (foldS p known s) := by
  unfold foldS
  split
  · exact ⟨h.1, h.2.1, foldE_R h.2.2⟩
  · exact h
theorem never_spec {l : Wd} {a : Option Addr} {n c : Nat} {H : Hp} {K : Value → Hp → Prop} (ha : RL H a n c l) (hK : K (.bool (has0 l)) H) : Does Tryz.prog 53 [.slice a n c] H K := by
  have hn := ha.n_eq
  have hmx := ha.le
  refine spec_of cx_ok cx_mix rfl Tryz.func53 Tryz.call53 Tryz.ntmps53 Tryz.results53 rfl rfl ?_
  refine ⟨Nat, fun i => ⟨[(5, .v (.slice a n c)), (6, .v (.int .i64 n)), (7, .v (.int .i64 i))], [], 0⟩,
    fun i H' => H' = H ∧ i ≤ l.length ∧ has0 l = has0 (l.drop i), fun i => l.length - i, ⟨0, [], ?_, rfl, Nat.zero_le _, rfl⟩, ?_⟩
  · (repeat' (first | exact trivial | refine ⟨?_, ?_⟩ | exact rfl | assumption))
  rintro i H1 _ ⟨rfl, hi, hx⟩
  refine ⟨fun h => ?_, fun h => ?_⟩
  · have hlt : i < l.length := by have := dt h; omega
    refine word_k ha (List.getElem?_eq_getElem hlt) fun ad q1 hh _ => ?_
    refine ⟨ad, ⟨by omega, by omega, q1⟩, ?_⟩
    refine ⟨_, hh, ?_⟩
    have hd : l.drop i = l[i] :: l.drop (i + 1) := List.drop_eq_getElem_cons hlt
    rw [hd, has0_cons] at hx
    refine ⟨fun h => ?_, fun h => ?_⟩
    · have h0 : l[i].toNat = 0 := by have := dt h; omega
      rw [decide_eq_true h0, Bool.true_or] at hx
      rw [hx] at hK
      exact hK
    · have h0 : ¬ l[i].toNat = 0 := by have := df h; omega
      rw [decide_eq_false h0, Bool.false_or] at hx
      refine ⟨⟨by omega, by omega⟩, i + 1, [], ?_, ⟨rfl, hlt, hx⟩, by dsimp only; omega⟩
      (repeat' (first | exact trivial | refine ⟨?_, ?_⟩ | exact rfl | assumption))
  · have hil : i = l.length := by have := df h; omega
    rw [hil, List.drop_length] at hx
    rw [hx] at hK
    exact hK
theorem fstmt_spec {p : Prog} {known : List UInt64} {s : Stmt} (hs : stmtR s) {a ka : Option Addr} {n c kn kc : Nat} {H : Hp} {K : Value → Hp → Prop} (ha : RL H a n c p) (hk : RL H ka kn kc known) (hc : cnt p < 400000)
    (hK : ∀ H', Le H H' → K (stmtA (foldS p known s)) H') : Does Tryz.prog 55 [.agg #[.slice a n c], .slice ka kn kc, stmtA s] H K := by
  refine spec_of cx_ok cx_mix rfl Tryz.func55 Tryz.call55 Tryz.ntmps55 Tryz.results55 rfl rfl ?_
  unfold foldS at hK
  refine ⟨fun h => ?_, fun h => ?_⟩
  · have h1 : ¬ s.1 = 1 := df h
    refine ⟨fun h => ?_, fun h => ?_⟩
    · have h3 : s.1 = 3 := dt h
      rw [if_pos (.inr h3)] at hK
      refine vexpr_spec hs.2.2 ha hk hc fun H1 hle1 => ?_
      exact hK _ (Le.refl H)
    · have h3 : ¬ s.1 = 3 := df h
      rw [if_neg (by omega)] at hK
      exact hK _ (Le.refl H)
  · have h1 : s.1 = 1 := dt h
    rw [if_pos (.inl h1)] at hK
    refine vexpr_spec hs.2.2 ha hk hc fun H1 hle1 => ?_
    exact hK _ (Le.refl H)
def exX : Expr := (1, (⟨[]⟩, 1, 0), (⟨[]⟩, 1, 0))
theorem exX_R : exprR exX := ⟨⟨by decide, by decide⟩, ⟨Nat.zero_le _, ⟨by decide, by decide⟩, ⟨by decide, by decide⟩⟩, ⟨Nat.zero_le _, ⟨by decide, by decide⟩, ⟨by decide, by decide⟩⟩⟩
theorem foldE_exX : foldE [] [] exX = (0, (⟨[]⟩, 2, 0), (⟨[]⟩, 0, 0)) := by decide +kernel
theorem awake45_spec {H : Hp} {K : Value → Hp → Prop} (hK : ∀ H', Le H H' → K (.bool true) H') : Does Tryz.prog 20 [] H K := by
  refine spec_of cx_ok cx_mix rfl Tryz.func20 Tryz.call20 Tryz.ntmps20 Tryz.results20 rfl rfl ?_
  refine vexpr_spec (p := []) (known := []) (x := exX) exX_R rl_nil rl_nil (by decide) fun H1 hle1 => ?_
  rw [foldE_exX]
  refine ⟨fun _ => ?_, fun h => absurd rfl (df h)⟩
  refine ⟨fun _ => ?_, fun h => absurd rfl (df h)⟩
  exact kbool (hK _ (Le.refl H)) (by decide)
end Go.Proofs
end
section
namespace Go.Proofs
open Go.Sy
set_option maxRecDepth 20000
set_option maxHeartbeats 4000000
/-! Folding of a program: the law, and the document's way. -/
def knownAt (p : Prog) (i : Nat) (b : Block) (k : Nat) : Wd := vApp (codesOf p (b.2.1.take k)) (aAt (solveS (sysOf p)) i)
def foldL (p : Prog) (i : Nat) (b : Block) : List Stmt := b.2.1.mapIdx fun k s => foldS p (knownAt p i b k) s
def foldT (p : Prog) (i : Nat) (b : Block) : Term := if b.2.2.1 = 2 then (b.2.2.1, foldA p (knownAt p i b b.2.1.length) b.2.2.2.1, b.2.2.2.2) else b.2.2
def nev (p : Prog) (i : Nat) : Bool := has0 (aAt (solveS (sysOf p)) i)
def foldB (p : Prog) (i : Nat) (b : Block) : Block := if nev p i then b else (b.1, foldL p i b, foldT p i b)
def foldP (p : Prog) : Prog := p.mapIdx (foldB p)
theorem mapIdx_take {α β : Type} {f : Nat → α → β} {l : List α} {k : Nat} {x : α} (h : l[k]? = some x) : (l.mapIdx f).take (k + 1) = (l.mapIdx f).take k ++ [f k x] := by
  rw [List.take_add_one, List.getElem?_mapIdx, h]; rfl
theorem foldP_len (p : Prog) : (foldP p).length = p.length := List.length_mapIdx
theorem foldL_len (p : Prog) (i : Nat) (b : Block) : (foldL p i b).length = b.2.1.length := List.length_mapIdx
theorem has0_take {l : Wd} {j : Nat} {x : UInt64} (h : l[j]? = some x) : has0 (l.take (j + 1)) = (has0 (l.take j) || decide (x.toNat = 0)) := by
  rw [List.take_add_one, h, Option.toList_some, has0, List.any_append]; simp [has0]
theorem foldT_R {p : Prog} {i : Nat} {b : Block} (h : termR b.2.2) : termR (foldT p i b) := by
  unfold foldT
  split
  · exact ⟨h.1, foldA_R h.2.1, h.2.2⟩
  · exact h
theorem stmts_snoc {H : Hp} {css : List (List Value)} {l : List Stmt} (h : RC (α := Stmt) H css l) {s : Stmt} (hs : stmtR s) : RC (α := Stmt) H (css ++ [.int .i64 s.1 :: .string (bs s.2.1.l) :: .int .i64 s.2.2.1 :: (atmV s.2.2.2.1 ++ atmV s.2.2.2.2)]) (l ++ [s]) := RC.snoc h (stmt_mk hs)
theorem foldB_take {p : Prog} {i : Nat} {b : Block} {k : Nat} {s : Stmt} (h : b.2.1[k]? = some s) : (foldB p i b).2.1.take (k + 1) = (foldB p i b).2.1.take k ++ [if nev p i then s else foldS p (knownAt p i b k) s] := by
  unfold foldB
  split
  · rw [List.take_add_one, h]; rfl
  · exact mapIdx_take h
theorem foldB_len (p : Prog) (i : Nat) (b : Block) : (foldB p i b).2.1.length = b.2.1.length := by
  unfold foldB
  split
  · rfl
  · exact foldL_len p i b
abbrev bC (b : Block) (v : SV) : List SV := .v (.string (bs b.1.l)) :: v :: vL (termV b.2.2)
end Go.Proofs
end
section
namespace Go.Proofs
open Go.Sy
set_option maxRecDepth 20000
set_option maxHeartbeats 4000000
/-! The least solution is one. -/
def kLe (a b : Nat) : Prop := a = 0 ∨ a = b ∨ b = 1
theorem kLe_refl (a : Nat) : kLe a a := .inr (.inl rfl)
theorem kLe_trans {a b c : Nat} (h1 : kLe a b) (h2 : kLe b c) : kLe a c := by unfold kLe at *; omega
theorem kJoin_is {a b : Nat} (ha : kIs a = true) (hb : kIs b = true) : kJoin a b = if a = b ∨ b = 0 then a else if a = 0 then b else 1 := by rw [kJoin, kNorm_is ha, kNorm_is hb]
theorem kLe_join1 {a b : Nat} (ha : kIs a = true) (hb : kIs b = true) : kLe a (kJoin a b) := by
  rw [kJoin_is ha hb]
  unfold kLe
  split
  · omega
  · split <;> omega
theorem kLe_join2 {a b : Nat} (ha : kIs a = true) (hb : kIs b = true) : kLe b (kJoin a b) := by
  rw [kJoin_is ha hb]
  unfold kLe
  split
  · omega
  · split <;> omega
theorem kJoin_le {a b c : Nat} (ha : kIs a = true) (hb : kIs b = true) (h1 : kLe a c) (h2 : kLe b c) : kLe (kJoin a b) c := by
  rw [kJoin_is ha hb]
  unfold kLe at *
  split
  · omega
  · split <;> omega
theorem kJoin_mono {a b a' b' : Nat} (ha : kIs a = true) (hb : kIs b = true) (ha' : kIs a' = true) (hb' : kIs b' = true) (h1 : kLe a a') (h2 : kLe b b') : kLe (kJoin a b) (kJoin a' b') :=
  kJoin_le ha hb (kLe_trans h1 (kLe_join1 ha' hb')) (kLe_trans h2 (kLe_join2 ha' hb'))
theorem kOp_mono {op : Int} {a b a' b' : Nat} (ha : kIs a = true) (hb : kIs b = true) (ha' : kIs a' = true) (hb' : kIs b' = true) (h1 : kLe a a') (h2 : kLe b b') : kLe (kOp op a b) (kOp op a' b') := by
  unfold kOp
  rw [kNorm_is ha, kNorm_is hb, kNorm_is ha', kNorm_is hb']
  by_cases h0 : op = 0 ∨ op = 4
  · rw [if_pos h0, if_pos h0]
    rcases h1 with h1 | h1 | h1
    · rw [if_pos h1]; exact .inl rfl
    · subst h1
      rw [nOp_one h0 (numOf a) (numOf b) (numOf b')]; exact kLe_refl _
    · rw [h1, if_neg (show ¬ (1 : Nat) = 0 by omega), if_pos rfl]; exact .inr (.inr rfl)
  · rw [if_neg h0, if_neg h0]
    by_cases z : a = 0 ∨ b = 0
    · rw [if_pos z]; exact .inl rfl
    · have z' : ¬ (a' = 0 ∨ b' = 0) := by unfold kLe at h1 h2; omega
      by_cases o : a' = 1 ∨ b' = 1
      · rw [if_neg z', if_pos o]; exact .inr (.inr rfl)
      · have e1 : a = a' := by unfold kLe at h1; omega
        have e2 : b = b' := by unfold kLe at h2; omega
        subst e1 e2
        exact kLe_refl _
def wAt (v : Wd) (i : Nat) : Nat := (v[i]?.getD 0).toNat
def vLe (x y : Wd) : Prop := x.length = y.length ∧ ∀ i, kLe (wAt x i) (wAt y i)
theorem vLe_refl (x : Wd) : vLe x x := ⟨rfl, fun _ => kLe_refl _⟩
theorem vLe_trans {x y z : Wd} (h1 : vLe x y) (h2 : vLe y z) : vLe x z := ⟨h1.1.trans h2.1, fun i => kLe_trans (h1.2 i) (h2.2 i)⟩
theorem wAt_out {v : Wd} {i : Nat} (h : v.length ≤ i) : wAt v i = 0 := by rw [wAt, List.getElem?_eq_none h]; rfl
theorem wAt_in {v : Wd} {i : Nat} {x : UInt64} (h : v[i]? = some x) : wAt v i = x.toNat := by rw [wAt, h]; rfl
theorem wAt_is {n : Nat} {v : Wd} (h : okW n v) (i : Nat) : kIs (wAt v i) = true := by
  by_cases hi : i < v.length
  · rw [wAt_in (List.getElem?_eq_getElem hi)]
    exact h.2 _ (List.getElem_mem hi)
  · rw [wAt_out (by omega)]; rfl
theorem wAt_join {x y : Wd} (hl : x.length = y.length) (i : Nat) : wAt (vJoin x y) i = kJoin (wAt x i) (wAt y i) := by
  by_cases hi : i < x.length
  · have e : (vJoin x y)[i]? = some (uJoin x[i] (y[i]'(by omega))) := by
      rw [vJoin, List.getElem?_zipWith, List.getElem?_eq_getElem hi, List.getElem?_eq_getElem (show i < y.length by omega)]
    rw [wAt_in e, wAt_in (List.getElem?_eq_getElem hi), wAt_in (List.getElem?_eq_getElem (show i < y.length by omega)), uJoin_nat]
  · have e : (vJoin x y).length ≤ i := by rw [vJoin, List.length_zipWith]; omega
    rw [wAt_out e, wAt_out (by omega), wAt_out (by omega), kJoin_is (show kIs 0 = true from rfl) rfl]; rfl
theorem wAt_set {v : Wd} {i : Nat} {x : UInt64} (j : Nat) : wAt (v.set i x) j = if i = j ∧ i < v.length then x.toNat else wAt v j := by
  rw [wAt, List.getElem?_set]
  split
  · rename_i h
    subst h
    split
    · rename_i h
      rw [if_pos ⟨rfl, h⟩]; rfl
    · rename_i h
      rw [if_neg (by omega), wAt_out (by omega)]; rfl
  · rename_i h
    rw [if_neg (by omega)]; rfl
theorem vJoin_len {x y : Wd} (hl : x.length = y.length) : (vJoin x y).length = x.length := by rw [vJoin, List.length_zipWith, hl, Nat.min_self]
theorem vJoin_mono {n : Nat} {x y x' y' : Wd} (hx : okW n x) (hy : okW n y) (hx' : okW n x') (hy' : okW n y') (h1 : vLe x x') (h2 : vLe y y') : vLe (vJoin x y) (vJoin x' y') := by
  have e1 : x.length = y.length := by rw [hx.1, hy.1]
  have e2 : x'.length = y'.length := by rw [hx'.1, hy'.1]
  refine ⟨by rw [vJoin_len e1, vJoin_len e2, h1.1], fun i => ?_⟩
  rw [wAt_join e1, wAt_join e2]
  exact kJoin_mono (wAt_is hx i) (wAt_is hy i) (wAt_is hx' i) (wAt_is hy' i) (h1.2 i) (h2.2 i)
theorem vLe_join1 {n : Nat} {x y : Wd} (hx : okW n x) (hy : okW n y) : vLe x (vJoin x y) := by
  have e1 : x.length = y.length := by rw [hx.1, hy.1]
  refine ⟨by rw [vJoin_len e1], fun i => ?_⟩
  rw [wAt_join e1]
  exact kLe_join1 (wAt_is hx i) (wAt_is hy i)
theorem vLe_join2 {n : Nat} {x y : Wd} (hx : okW n x) (hy : okW n y) : vLe y (vJoin x y) := by
  have e1 : x.length = y.length := by rw [hx.1, hy.1]
  refine ⟨by rw [vJoin_len e1, e1], fun i => ?_⟩
  rw [wAt_join e1]
  exact kLe_join2 (wAt_is hx i) (wAt_is hy i)
theorem vJoin_le {n : Nat} {x y z : Wd} (hx : okW n x) (hy : okW n y) (h1 : vLe x z) (h2 : vLe y z) : vLe (vJoin x y) z := by
  have e1 : x.length = y.length := by rw [hx.1, hy.1]
  refine ⟨by rw [vJoin_len e1, h1.1], fun i => ?_⟩
  rw [wAt_join e1]
  exact kJoin_le (wAt_is hx i) (wAt_is hy i) (h1.2 i) (h2.2 i)
theorem refN_mono {n : Nat} {v v' : Wd} (_hv : okW n v) (_hv' : okW n v') (h : vLe v v') (r : Rf) : kLe (refN v r) (refN v' r) := by
  unfold refN
  split
  · exact kLe_refl _
  · exact h.2 _
theorem refN_is {n : Nat} {v : Wd} (hv : okW n v) (r : Rf) : kIs (refN v r) = true := by
  unfold refN
  split
  · exact kIs_of _
  · exact wAt_is hv _
theorem doC_mono {n : Nat} {v v' : Wd} (hv : okW n v) (hv' : okW n v') (h : vLe v v') (c : Cd) : vLe (doC v c) (doC v' c) := by
  refine ⟨by rw [doC, doC, List.length_set, List.length_set, h.1], fun i => ?_⟩
  rw [doC, doC, wAt_set, wAt_set, h.1]
  split
  · split
    · exact kLe_refl _
    · rw [u64_of (kOp_lt _ _ _), u64_of (kOp_lt _ _ _)]
      exact kOp_mono (refN_is hv _) (refN_is hv _) (refN_is hv' _) (refN_is hv' _) (refN_mono hv hv' h _) (refN_mono hv hv' h _)
  · exact h.2 i
theorem doL_mono {n : Nat} : ∀ (l : List Cd) {v v' : Wd}, okW n v → okW n v' → vLe v v' → vLe (doL v l) (doL v' l)
  | [], _, _, _, _, h => h
  | c :: r, _, _, hv, hv', h => doL_mono r (doC_ok hv c) (doC_ok hv' c) (doC_mono hv hv' h c)
theorem has0_iff {v : Wd} : has0 v = true ↔ ∃ i < v.length, wAt v i = 0 := by
  rw [has0, List.any_eq_true]
  constructor
  · rintro ⟨x, hx, h⟩
    obtain ⟨i, hi⟩ := List.getElem?_of_mem hx
    exact ⟨i, (List.getElem?_eq_some_iff.1 hi).1, by rw [wAt_in hi]; exact dt h⟩
  · rintro ⟨i, hi, h⟩
    rw [wAt_in (List.getElem?_eq_getElem hi)] at h
    exact ⟨_, List.getElem_mem hi, decide_eq_true h⟩
theorem wAt_bot (n i : Nat) : wAt (vBot n) i = 0 := by
  rw [wAt, vBot, List.getElem?_replicate]
  split <;> rfl
theorem vBot_le {n : Nat} {v : Wd} (h : v.length = n) : vLe (vBot n) v := ⟨by rw [vBot, List.length_replicate, h], fun i => .inl (wAt_bot n i)⟩
theorem vApp_mono {n : Nat} {v v' : Wd} (hv : okW n v) (hv' : okW n v') (h : vLe v v') (l : List Cd) : vLe (vApp l v) (vApp l v') := by
  unfold vApp
  split
  · refine vBot_le ?_
    split
    · rw [vBot, List.length_replicate, h.1]
    · rw [(doL_ok l hv').1, hv.1]
  · rename_i h0
    rw [if_neg]
    · exact doL_mono l hv hv' h
    · rw [has0_iff] at h0 ⊢
      rintro ⟨i, hi, h1⟩
      refine h0 ⟨i, by rw [h.1]; exact hi, ?_⟩
      have := h.2 i
      unfold kLe at this
      omega
/-- Lists of values. -/
def aLe (s : Sy3) (A B : List Wd) : Prop := ∀ v < s.m, vLe (aAt A v) (aAt B v)
theorem stepR_at {s : Sy3} {A : List Wd} {v : Nat} (hv : v < s.m) : aAt (stepR s A) v = s.E.foldl (joinE s A v) (vStart s v) := by
  rw [aAt, stepR, List.getElem?_map, List.getElem?_range hv]; rfl
theorem step_at {s : Sy3} (ho : OkS s) {A : List Wd} {v : Nat} (hv : v < s.m) : aAt (stepS s A) v = s.E.foldl (joinE s A v) (vStart s v) := by
  rw [← stepR_eq ho, stepR_at hv]
theorem appE_mono {s : Sy3} {A B : List Wd} (hA : OkA s A) (hB : OkA s B) (h : aLe s A B) {e : Edg} (he : 0 ≤ e.1 ∧ e.1 < (s.m : Nat)) : vLe (appE s A e) (appE s B e) :=
  vApp_mono (aAt_ok hA (by omega)) (aAt_ok hB (by omega)) (h _ (by omega)) _
theorem joinE_ok1 {s : Sy3} {A : List Wd} (hA : OkA s A) {v : Nat} {x : Wd} {e : Edg} (he : 0 ≤ e.1 ∧ e.1 < (s.m : Nat)) (hx : okW s.w x) : okW s.w (joinE s A v x e) := by
  unfold joinE
  split
  · exact vJoin_ok hx (appE_ok hA he)
  · exact hx
theorem fold_mono {s : Sy3} {A B : List Wd} (hA : OkA s A) (hB : OkA s B) (h : aLe s A B) {v : Nat} : ∀ (l : List Edg) {x y : Wd}, (∀ e ∈ l, 0 ≤ e.1 ∧ e.1 < (s.m : Nat)) → okW s.w x → okW s.w y → vLe x y → vLe (l.foldl (joinE s A v) x) (l.foldl (joinE s B v) y)
  | [], _, _, _, _, _, h1 => h1
  | e :: r, x, y, hl, hx, hy, h1 => by
    have he := hl e List.mem_cons_self
    refine fold_mono hA hB h r (x := joinE s A v x e) (y := joinE s B v y e) (fun e he => hl e (List.mem_cons_of_mem _ he)) (joinE_ok1 hA he hx) (joinE_ok1 hB he hy) ?_
    unfold joinE
    split
    · exact vJoin_mono hx (appE_ok hA he) hy (appE_ok hB he) h1 (appE_mono hA hB h he)
    · exact h1
theorem step_mono {s : Sy3} (ho : OkS s) {A B : List Wd} (hA : OkA s A) (hB : OkA s B) (h : aLe s A B) : aLe s (stepS s A) (stepS s B) := fun v hv => by
  rw [step_at ho hv, step_at ho hv]
  exact fold_mono hA hB h s.E (fun e he => (ho.En e he).1) (vStart_ok ho v) (vStart_ok ho v) (vLe_refl _)
theorem fold_up {s : Sy3} {A : List Wd} (hA : OkA s A) {v : Nat} : ∀ (l : List Edg) {x : Wd}, (∀ e ∈ l, 0 ≤ e.1 ∧ e.1 < (s.m : Nat)) → okW s.w x → vLe x (l.foldl (joinE s A v) x) ∧ ∀ e ∈ l, e.2 = (v : Int) → vLe (appE s A e) (l.foldl (joinE s A v) x)
  | [], x, _, _ => ⟨vLe_refl x, fun e he => by cases he⟩
  | e :: r, x, hl, hx => by
    have he := hl e List.mem_cons_self
    have hx1 := joinE_ok1 (v := v) hA he hx
    obtain ⟨h1, h2⟩ := fold_up hA r (x := joinE s A v x e) (fun e he => hl e (List.mem_cons_of_mem _ he)) hx1
    refine ⟨vLe_trans ?_ h1, fun e' he' hv => ?_⟩
    · unfold joinE
      split
      · exact vLe_join1 hx (appE_ok hA he)
      · exact vLe_refl _
    · rcases List.mem_cons.1 he' with rfl | he'
      · refine vLe_trans ?_ h1
        rw [joinE, if_pos hv]
        exact vLe_join2 hx (appE_ok hA he)
      · exact h2 e' he' hv
theorem fold_least {s : Sy3} {A : List Wd} (hA : OkA s A) {v : Nat} {z : Wd} : ∀ (l : List Edg) {x : Wd}, (∀ e ∈ l, 0 ≤ e.1 ∧ e.1 < (s.m : Nat)) → okW s.w x → vLe x z → (∀ e ∈ l, e.2 = (v : Int) → vLe (appE s A e) z) → vLe (l.foldl (joinE s A v) x) z
  | [], _, _, _, h, _ => h
  | e :: r, x, hl, hx, h, h2 => by
    have he := hl e List.mem_cons_self
    refine fold_least hA r (x := joinE s A v x e) (fun e he => hl e (List.mem_cons_of_mem _ he)) (joinE_ok1 hA he hx) ?_ (fun e he => h2 e (List.mem_cons_of_mem _ he))
    unfold joinE
    split
    · rename_i hv
      exact vJoin_le hx (appE_ok hA he) h (h2 e List.mem_cons_self hv)
    · exact h
/-- Ranks. -/
def rW (w : Nat) : Nat := if w = 0 then 0 else if w = 1 then 2 else 1
theorem rW_cases (x : Nat) : (rW x = 0 ∧ x = 0) ∨ (rW x = 2 ∧ x = 1) ∨ (rW x = 1 ∧ 2 ≤ x) := by
  unfold rW
  split
  · omega
  · split <;> omega
theorem rW_le {a b : Nat} (h : kLe a b) : rW a ≤ rW b ∧ (rW a = rW b → a = b) := by
  have h1 := rW_cases a
  have h2 := rW_cases b
  unfold kLe at h
  omega
theorem sum_rank {α : Type} (f : α → Nat) (R : α → α → Prop) (hR : ∀ a b, R a b → f a ≤ f b ∧ (f a = f b → a = b)) : ∀ (x y : List α), x.length = y.length → (∀ (i : Nat) (a b : α), x[i]? = some a → y[i]? = some b → R a b) → (x.map f).sum ≤ (y.map f).sum ∧ ((x.map f).sum = (y.map f).sum → x = y)
  | [], [], _, _ => ⟨Nat.le_refl _, fun _ => rfl⟩
  | [], b :: y, h, _ => by cases h
  | a :: x, [], h, _ => by cases h
  | a :: x, b :: y, h, h1 => by
    have h2 := hR a b (h1 0 a b rfl rfl)
    have h3 := sum_rank f R hR x y (by simpa using h) (fun i a b => h1 (i + 1) a b)
    simp only [List.map_cons, List.sum_cons]
    refine ⟨by omega, fun e => ?_⟩
    rw [h2.2 (by omega), h3.2 (by omega)]
def vR (v : Wd) : Nat := (v.map fun (x : UInt64) => rW x.toNat).sum
def aR (A : List Wd) : Nat := (A.map vR).sum
theorem vR_le {x y : Wd} (h : vLe x y) : vR x ≤ vR y ∧ (vR x = vR y → x = y) := by
  refine sum_rank (fun (x : UInt64) => rW x.toNat) (fun a b => kLe a.toNat b.toNat) (fun a b h => ?_) x y h.1 (fun i a b ha hb => ?_)
  · exact ⟨(rW_le h).1, fun e => UInt64.toNat_inj.1 ((rW_le h).2 e)⟩
  · have := h.2 i
    rw [wAt_in ha, wAt_in hb] at this
    exact this
theorem aR_le {s : Sy3} {A B : List Wd} (hA : OkA s A) (hB : OkA s B) (h : aLe s A B) : aR A ≤ aR B ∧ (aR A = aR B → A = B) := by
  refine sum_rank vR vLe (fun a b h => vR_le h) A B (by rw [hA.len, hB.len]) (fun i a b ha hb => ?_)
  have hi := (List.getElem?_eq_some_iff.1 ha).1
  have := h i (by rw [← hA.len]; exact hi)
  rw [aAt, aAt, ha, hb] at this
  exact this
theorem sum_bound {α : Type} (f : α → Nat) (k : Nat) : ∀ (x : List α), (∀ a ∈ x, f a ≤ k) → (x.map f).sum ≤ x.length * k
  | [], _ => by simp
  | a :: x, h => by
    have h1 := h a List.mem_cons_self
    have h2 := sum_bound f k x (fun a ha => h a (List.mem_cons_of_mem _ ha))
    simp only [List.map_cons, List.sum_cons, List.length_cons, Nat.add_mul, Nat.one_mul]
    omega
theorem vR_bound {n : Nat} {v : Wd} (h : okW n v) : vR v ≤ 2 * n := by
  have := sum_bound (fun (x : UInt64) => rW x.toNat) 2 v (fun a _ => by
    show rW a.toNat ≤ 2
    unfold rW
    split
    · omega
    · split <;> omega)
  rw [h.1] at this
  unfold vR
  omega
theorem aR_bound {s : Sy3} {A : List Wd} (hA : OkA s A) : aR A ≤ s.m * (2 * s.w) := by
  have := sum_bound vR (2 * s.w) A (fun a ha => vR_bound (hA.ok a ha))
  rw [hA.len] at this
  exact this
theorem iterN_fix {s : Sy3} (ho : OkS s) : ∀ (k : Nat) (A : List Wd), OkA s A → aLe s A (stepS s A) → s.m * (2 * s.w) < aR A + k → stepS s (iterN s k A) = iterN s k A
  | 0, A, hA, _, h => by have := aR_bound hA; omega
  | k + 1, A, hA, h1, h => by
    rw [iterN]
    split
    · rename_i e
      exact e.symm
    · rename_i e
      have hB := stepS_ok ho hA
      have h2 := aR_le hA hB h1
      have h3 : aR A ≠ aR (stepS s A) := fun e2 => e (h2.2 e2)
      exact iterN_fix ho k (stepS s A) hB (step_mono ho hA hB h1) (by omega)
theorem aLe_bots {s : Sy3} {A : List Wd} (hA : OkA s A) : aLe s (bots s) A := fun v hv => by
  have e : aAt (bots s) v = vBot s.w := by rw [aAt, bots, List.getElem?_replicate, if_pos hv]; rfl
  rw [e]
  exact vBot_le (aAt_ok hA hv).1
theorem solve_fix {s : Sy3} (ho : OkS s) : stepS s (solveS s) = solveS s :=
  iterN_fix ho _ _ (bots_ok s) (aLe_bots (stepS_ok ho (bots_ok s))) (by unfold enoughS; omega)
theorem iterN_least {s : Sy3} (ho : OkS s) {B : List Wd} (hB : OkA s B) (h : aLe s (stepS s B) B) : ∀ (k : Nat) (A : List Wd), OkA s A → aLe s A B → aLe s (iterN s k A) B
  | 0, _, _, h1 => h1
  | k + 1, A, hA, h1 => by
    rw [iterN]
    split
    · exact h1
    · exact iterN_least ho hB h k _ (stepS_ok ho hA) (fun v hv => vLe_trans (step_mono ho hA hB h1 v hv) (h v hv))
theorem solve_least {s : Sy3} (ho : OkS s) {B : List Wd} (hB : OkA s B) (h : aLe s (stepS s B) B) : aLe s (solveS s) B := iterN_least ho hB h _ _ (bots_ok s) (aLe_bots hB)
theorem sol_start {s : Sy3} (ho : OkS s) {v : Nat} (hv : v < s.m) : vLe (vStart s v) (aAt (solveS s) v) := by
  rw [← solve_fix ho, step_at ho hv]
  exact (fold_up (solveS_ok ho) s.E (fun e he => (ho.En e he).1) (vStart_ok ho v)).1
theorem sol_edge {s : Sy3} (ho : OkS s) {e : Edg} (he : e ∈ s.E) : vLe (appE s (solveS s) e) (aAt (solveS s) e.2.toNat) := by
  have h := ho.En e he
  rw [← solve_fix ho, step_at ho (v := e.2.toNat) (by omega), solve_fix ho]
  exact (fold_up (solveS_ok ho) s.E (fun e he => (ho.En e he).1) (vStart_ok ho _)).2 e he (by omega)
end Go.Proofs
end
section
namespace Go.Proofs
open Go.Sy
set_option maxRecDepth 20000
set_option maxHeartbeats 4000000
/-! Runs: the law. -/
abbrev StE := Int × List Nm × Int × List Nm
def valA (p : Prog) (e : List Nm) (a : Atm) : Nm := if a.1.l = [] then nOf a.2 else if 0 ≤ vIdx p a.1.l then e[(vIdx p a.1.l).toNat]?.getD (0, 0) else (0, 0)
def inAt (inn : List Nm) (i : Int) : Nm := if i < 0 then (0, 0) else inn[i.toNat]?.getD (0, 0)
def inNext (i : Int) : Int := min i 2147483646 + 1
def setAt (p : Prog) (e : List Nm) (t : Bs8) (n : Nm) : List Nm := e.set (vIdx p t).toNat n
def doS (p : Prog) (inn : List Nm) (s : StE) (x : Stmt) : StE :=
  if x.1 = 1 then (s.1, setAt p s.2.1 x.2.1.l (nOp x.2.2.1 (valA p s.2.1 x.2.2.2.1) (valA p s.2.1 x.2.2.2.2)), s.2.2)
  else if x.1 = 2 then (s.1, setAt p s.2.1 x.2.1.l (nOf (inAt inn s.2.2.1)), inNext s.2.2.1, s.2.2.2)
  else if x.1 = 3 then (s.1, s.2.1, s.2.2.1, s.2.2.2 ++ [valA p s.2.1 x.2.2.2.1])
  else s
def doAll (p : Prog) (inn : List Nm) (s : StE) (l : List Stmt) : StE := l.foldl (doS p inn) s
def blkN (p : Prog) (i : Int) : Block := p[i.toNat]?.getD (⟨[]⟩, [], (0, (⟨[]⟩, 0, 0), ⟨[]⟩, ⟨[]⟩))
def runB (p : Prog) (inn : List Nm) (s : StE) : StE := doAll p inn s (blkN p s.1).2.1
def bIdx (p : Prog) (t : Bs8) : Int := max (idxS t (nms p) 0) 0
def goTo (p : Prog) (s : StE) (t : Term) : Bs8 := if t.1 = 2 ∧ valA p s.2.1 t.2.1 = (0, 0) then t.2.2.2.l else t.2.2.1.l
def folS (p : Prog) (s : StE) : StE × Bool := if (blkN p s.1).2.2.1 = 3 then (s, false) else ((bIdx p (goTo p s (blkN p s.1).2.2), s.2), true)
/-- What is there behind so many rounds. -/
def itS (p : Prog) (inn : List Nm) (s0 : StE) : Nat → List StE × StE × Bool
  | 0 => ([], s0, true)
  | k + 1 => if (itS p inn s0 k).2.2 then ((itS p inn s0 k).1 ++ [(itS p inn s0 k).2.1], folS p (runB p inn (itS p inn s0 k).2.1)) else itS p inn s0 k
theorem itS_step {p : Prog} {inn : List Nm} {s0 : StE} {k : Nat} (h : (itS p inn s0 k).2.2 = true) : itS p inn s0 (k + 1) = ((itS p inn s0 k).1 ++ [(itS p inn s0 k).2.1], folS p (runB p inn (itS p inn s0 k).2.1)) := by
  rw [itS, if_pos h]
theorem itS_stop {p : Prog} {inn : List Nm} {s0 : StE} {k : Nat} (h : (itS p inn s0 k).2.2 = false) : itS p inn s0 (k + 1) = itS p inn s0 k := by
  rw [itS, if_neg (by rw [h]; decide)]
theorem itS_end {p : Prog} {inn : List Nm} {s0 : StE} {k : Nat} (h : (itS p inn s0 k).2.2 = false) : ∀ m, itS p inn s0 (k + m) = itS p inn s0 k
  | 0 => rfl
  | m + 1 => by rw [← Nat.add_assoc, itS_stop (by rw [itS_end h m]; exact h), itS_end h m]
theorem itS_len {p : Prog} {inn : List Nm} {s0 : StE} : ∀ (k : Nat), (itS p inn s0 k).2.2 = true → (itS p inn s0 k).1.length = k
  | 0, _ => rfl
  | k + 1, h => by
    by_cases h1 : (itS p inn s0 k).2.2 = true
    · rw [itS_step h1, List.length_append, itS_len k h1]; rfl
    · rw [itS_stop (by simpa using h1)] at h
      exact absurd h h1
theorem itS_le {p : Prog} {inn : List Nm} {s0 : StE} : ∀ (k : Nat), (itS p inn s0 k).1.length ≤ k
  | 0 => Nat.le_refl _
  | k + 1 => by
    have h := itS_le (p := p) (inn := inn) (s0 := s0) k
    rw [itS]
    split
    · rw [List.length_append, List.length_singleton]; omega
    · omega
def start0 (p : Prog) : StE := (0, List.replicate (varsOf p).length (0, 0), 0, [])
/-- An invariant of runs. -/
theorem itS_inv {p : Prog} {inn : List Nm} {s0 : StE} (P : StE → Prop) (h0 : P s0) (hs : ∀ s, P s → (folS p (runB p inn s)).2 = true → P (folS p (runB p inn s)).1) :
    ∀ k, (∀ s ∈ (itS p inn s0 k).1, P s) ∧ ((itS p inn s0 k).2.2 = true → P (itS p inn s0 k).2.1)
  | 0 => ⟨fun s hs => (by cases hs), fun _ => h0⟩
  | k + 1 => by
    have h := itS_inv P h0 hs k
    by_cases h1 : (itS p inn s0 k).2.2 = true
    · have hp := h.2 h1
      rw [itS_step h1]
      refine ⟨fun s hm => ?_, fun h2 => hs _ hp h2⟩
      rcases List.mem_append.1 hm with hm | hm
      · exact h.1 s hm
      · rw [List.mem_singleton.1 hm]; exact hp
    · rw [itS_stop (by simpa using h1)]; exact h
/-! Which names are variables. -/
theorem insAt_has {i : Nat} {s : Bs8} {l : List Bs8} (_h : i ≤ l.length) : s ∈ insAt i s l ∧ ∀ t ∈ l, t ∈ insAt i s l := by
  rw [insAt]
  refine ⟨by simp, fun t ht => ?_⟩
  rw [← List.take_append_drop i l] at ht
  rcases List.mem_append.1 ht with ht | ht
  · simp [ht]
  · simp [ht]
theorem putS_has {l : List Bs8} (hl : SortedS l) (s : Bs8) : (s ≠ [] → s ∈ putS s l) ∧ ∀ t ∈ l, t ∈ putS s l := by
  by_cases h0 : s = []
  · rw [h0, putS_nil]; exact ⟨fun h => absurd rfl h, fun t h => h⟩
  · obtain ⟨i, hi, h1, h2⟩ := lower hl s
    have e := putS_at h0 hi h1 (fun x hx => h2 x (by
      have hlt := (List.getElem?_eq_some_iff.1 hx).1
      rw [List.drop_eq_getElem_cons hlt, (List.getElem?_eq_some_iff.1 hx).2]
      exact List.mem_cons_self))
    rw [e]
    split
    · rename_i hx
      exact ⟨fun _ => List.mem_of_getElem? hx, fun t h => h⟩
    · have := insAt_has (s := s) hi
      exact ⟨fun _ => this.1, this.2⟩
theorem putAll_has : ∀ (vs : List Bs8) {o : List Bs8}, SortedS o → (∀ s ∈ vs, s ≠ [] → s ∈ putAll vs o) ∧ ∀ t ∈ o, t ∈ putAll vs o
  | [], _, _ => ⟨fun s h => (by cases h), fun t h => h⟩
  | v :: r, o, ho => by
    have h1 := putS_has ho v
    have h2 := putAll_has r (putS_sorted ho v)
    refine ⟨fun s hs h0 => ?_, fun t ht => h2.2 t (h1.2 t ht)⟩
    rcases List.mem_cons.1 hs with rfl | hs
    · exact h2.2 _ (h1.1 h0)
    · exact h2.1 s hs h0
theorem bVars_has : ∀ (l : List Stmt) {o : List Bs8}, SortedS o → (∀ x ∈ l, ∀ s ∈ sVars x, s ≠ [] → s ∈ bVars o l) ∧ ∀ t ∈ o, t ∈ bVars o l
  | [], _, _ => ⟨fun s h => (by cases h), fun t h => h⟩
  | x :: r, o, ho => by
    have h1 := putAll_has (sVars x) ho
    have h2 := bVars_has r (putAll_sorted (sVars x) ho)
    refine ⟨fun y hy s hs h0 => ?_, fun t ht => h2.2 t (h1.2 t ht)⟩
    rcases List.mem_cons.1 hy with rfl | hy
    · exact h2.2 _ (h1.1 s hs h0)
    · exact h2.1 y hy s hs h0
theorem blkVars_sorted {o : List Bs8} (ho : SortedS o) (b : Block) : SortedS (blkVars o b) := putAll_sorted _ (bVars_sorted _ ho)
theorem blkVars_has {o : List Bs8} (ho : SortedS o) (b : Block) : (∀ x ∈ b.2.1, ∀ s ∈ sVars x, s ≠ [] → s ∈ blkVars o b) ∧ (b.2.2.2.1.1.l ≠ [] → b.2.2.2.1.1.l ∈ blkVars o b) ∧ ∀ t ∈ o, t ∈ blkVars o b := by
  have h1 := bVars_has b.2.1 ho
  have h2 := putAll_has [b.2.2.2.1.1.l] (bVars_sorted b.2.1 ho)
  exact ⟨fun x hx s hs h0 => h2.2 s (h1.1 x hx s hs h0), fun h0 => h2.1 _ (List.mem_singleton.2 rfl) h0, fun t ht => h2.2 t (h1.2 t ht)⟩
theorem vars_has : ∀ (p : Prog) {o : List Bs8}, SortedS o → (∀ b ∈ p, (∀ x ∈ b.2.1, ∀ s ∈ sVars x, s ≠ [] → s ∈ p.foldl blkVars o) ∧ (b.2.2.2.1.1.l ≠ [] → b.2.2.2.1.1.l ∈ p.foldl blkVars o)) ∧ ∀ t ∈ o, t ∈ p.foldl blkVars o
  | [], _, _ => ⟨fun s h => (by cases h), fun t h => h⟩
  | b :: r, o, ho => by
    have h1 := blkVars_has ho b
    have h2 := vars_has r (blkVars_sorted ho b)
    refine ⟨fun b' hb => ?_, fun t ht => h2.2 t (h1.2.2 t ht)⟩
    rcases List.mem_cons.1 hb with rfl | hb
    · exact ⟨fun x hx s hs h0 => h2.2 _ (h1.1 x hx s hs h0), fun h0 => h2.2 _ (h1.2.1 h0)⟩
    · exact h2.1 b' hb
theorem nil_sorted : SortedS [] := by simp [SortedS]
theorem idxS_at (t : Bs8) : ∀ (l : List Bs8) (i : Int), 0 ≤ i → t ∈ l → i ≤ idxS t l i ∧ idxS t l i < i + l.length ∧ l[(idxS t l i - i).toNat]? = some t
  | [], _, _, h => by cases h
  | x :: r, i, h0, h => by
    rw [idxS]
    split
    · rename_i e
      refine ⟨Int.le_refl _, by simp only [List.length_cons]; omega, ?_⟩
      rw [show (i - i).toNat = 0 by omega, List.getElem?_cons_zero, e]
    · rename_i e
      rcases List.mem_cons.1 h with h | h
      · exact absurd h.symm e
      · have := idxS_at t r (i + 1) (by omega) h
        simp only [List.length_cons]
        refine ⟨by omega, by omega, ?_⟩
        rw [show (idxS t r (i + 1) - i).toNat = (idxS t r (i + 1) - (i + 1)).toNat + 1 by omega, List.getElem?_cons_succ]
        exact this.2.2
theorem idxS_some {t : Bs8} : ∀ {l : List Bs8} {i : Int}, 0 ≤ i → 0 ≤ idxS t l i → t ∈ l
  | [], i, _, h => by rw [idxS] at h; omega
  | x :: r, i, h0, h => by
    rw [idxS] at h
    split at h
    · rename_i e
      rw [e]; exact List.mem_cons_self
    · exact List.mem_cons_of_mem _ (idxS_some (by omega) h)
theorem vIdx_mem {p : Prog} {t : Bs8} (h : t ∈ varsOf p) : 0 ≤ vIdx p t ∧ vIdx p t < ((varsOf p).length : Nat) := by
  have := idxS_at t (varsOf p) 0 (by omega) h
  unfold vIdx
  omega
theorem vIdx_stmt {p : Prog} {b : Block} (hb : b ∈ p) {x : Stmt} (hx : x ∈ b.2.1) {t : Bs8} (ht : t ∈ sVars x) (h0 : t ≠ []) : 0 ≤ vIdx p t ∧ vIdx p t < ((varsOf p).length : Nat) :=
  vIdx_mem (((vars_has p nil_sorted).1 b hb).1 x hx t ht h0)
theorem vIdx_term {p : Prog} {b : Block} (hb : b ∈ p) (h0 : b.2.2.2.1.1.l ≠ []) : 0 ≤ vIdx p b.2.2.2.1.1.l ∧ vIdx p b.2.2.2.1.1.l < ((varsOf p).length : Nat) :=
  vIdx_mem (((vars_has p nil_sorted).1 b hb).2 h0)
theorem blkN_get {p : Prog} {i : Int} {b : Block} (h : p[i.toNat]? = some b) : blkN p i = b := by rw [blkN, h]; rfl
theorem doS_blk (p : Prog) (inn : List Nm) (s : StE) (x : Stmt) : (doS p inn s x).1 = s.1 ∧ (doS p inn s x).2.1.length = s.2.1.length := by
  unfold doS setAt
  repeat' split
  all_goals simp
theorem doAll_blk (p : Prog) (inn : List Nm) : ∀ (l : List Stmt) (s : StE), (doAll p inn s l).1 = s.1 ∧ (doAll p inn s l).2.1.length = s.2.1.length
  | [], _ => ⟨rfl, rfl⟩
  | x :: r, s => by
    have h1 := doS_blk p inn s x
    have h2 := doAll_blk p inn r (doS p inn s x)
    rw [doAll, List.foldl_cons]
    exact ⟨h2.1.trans h1.1, h2.2.trans h1.2⟩
theorem bIdx_range (p : Prog) (t : Bs8) (h : 1 ≤ p.length) : 0 ≤ bIdx p t ∧ bIdx p t < (p.length : Nat) := by
  have := idxS_range t (nms p) 0 (by omega)
  rw [List.length_map] at this
  unfold bIdx
  omega
end Go.Proofs
end
section
namespace Go.Proofs
open Go.Sy
set_option maxRecDepth 20000
set_option maxHeartbeats 4000000
/-! What is known along a run. -/
def absW (w : Nat) (n : Nm) : Prop := w ≠ 0 ∧ ∀ x, kNum w = some x → x = n
theorem absW_le {a b : Nat} {n : Nm} (h : kLe a b) (ha : absW a n) : absW b n := by
  rcases h with h | h | h
  · exact absurd h ha.1
  · rw [← h]; exact ha
  · rw [h]
    exact ⟨by decide, fun x hx => by rw [show kNum 1 = none from by decide] at hx; cases hx⟩
theorem absW_of (n : Nm) : absW (kOf n) (nOf n) := ⟨by unfold kOf; omega, fun x hx => by rw [kNum_of] at hx; exact (Option.some.inj hx).symm⟩
theorem kIs_cases {w : Nat} (h : kIs w = true) : w = 0 ∨ w = 1 ∨ ∃ x, kNum w = some x := by
  simp only [kIs, Bool.or_eq_true, decide_eq_true_eq] at h
  rcases h with (h | h) | h
  · exact .inr (.inr (Option.isSome_iff_exists.1 h))
  · exact .inl h
  · exact .inr (.inl h)
theorem nOp_nOf (op : Int) (a b : Nm) : nOf (nOp op a b) = nOp op a b := by
  have h : ∀ x : Nm, nOf (nOf x) = nOf x := fun x => by simp only [nOf, wrp_wrp]
  unfold nOp
  repeat' split
  all_goals first | exact h _ | rfl
theorem absW_op {op : Int} {a b : Nat} {x y : Nm} (ho : 0 ≤ op ∧ op ≤ 4) (ha : kIs a = true) (hb : kIs b = true) (h1 : absW a x) (h2 : absW b y) : absW (kOp op a b) (nOp op x y) := by
  have one : ∀ n : Nm, absW 1 n := fun n => absW_le (a := 1) (.inr (.inr rfl)) ⟨by decide, fun x hx => by rw [show kNum 1 = none from by decide] at hx; cases hx⟩
  have hof : ∀ n : Nm, nOf n = n → absW (kOf n) n := fun n e => by have := absW_of n; rw [e] at this; exact this
  unfold kOp
  rw [kNorm_is ha, kNorm_is hb]
  rcases kIs_cases ha with e | e | ⟨u, eu⟩
  · exact absurd e h1.1
  · rw [if_neg h1.1, if_pos e]
    split
    · exact one _
    · rw [if_neg (by have := h2.1; omega), if_pos (.inl e)]; exact one _
  · have e1 : numOf a = x := by rw [numOf, eu]; exact h1.2 u eu
    have n1 : ¬ a = 1 := fun e => by rw [e, show kNum 1 = none from by decide] at eu; cases eu
    rw [if_neg h1.1, if_neg n1, e1]
    split
    · rename_i h0
      rw [nOp_one h0 x (numOf b) y]
      exact hof _ (nOp_nOf _ _ _)
    · rw [if_neg (by have := h1.1; have := h2.1; omega)]
      rcases kIs_cases hb with e | e | ⟨v, ev⟩
      · exact absurd e h2.1
      · rw [if_pos (.inr e)]; exact one _
      · have e2 : numOf b = y := by rw [numOf, ev]; exact h2.2 v ev
        have n2 : ¬ b = 1 := fun e => by rw [e, show kNum 1 = none from by decide] at ev; cases ev
        rw [if_neg (by omega), if_pos (by rw [opIs]; exact decide_eq_true ho), e2]
        exact hof _ (nOp_nOf _ _ _)
def absV (k : Wd) (e : List Nm) : Prop := k.length = e.length ∧ ∀ i n, e[i]? = some n → absW (wAt k i) n
theorem absV_le {k k' : Wd} {e : List Nm} (h : vLe k k') (ha : absV k e) : absV k' e := ⟨h.1.symm.trans ha.1, fun i n hi => absW_le (h.2 i) (ha.2 i n hi)⟩
theorem absV_set {k : Wd} {e : List Nm} {i : Nat} {w : Nat} {n : Nm} (hw : w < 18446744073709551616) (h : absV k e) (h1 : absW w n) : absV (k.set i (UInt64.ofNat w)) (e.set i n) := by
  refine ⟨by rw [List.length_set, List.length_set, h.1], fun j m hj => ?_⟩
  rw [wAt_set]
  rw [List.getElem?_set] at hj
  split at hj
  · rename_i hi
    split at hj
    · rename_i hl
      rw [if_pos ⟨hi, by rw [h.1]; exact hl⟩, u64_of hw, ← Option.some.inj hj]
      exact h1
    · cases hj
  · rename_i hi
    rw [if_neg (fun hh => hi hh.1)]
    exact h.2 j m hj
theorem absV_val {p : Prog} {k : Wd} {e : List Nm} (h : absV k e) (hl : e.length = (varsOf p).length) {a : Atm} (ha : a.1.l ≠ [] → 0 ≤ vIdx p a.1.l ∧ vIdx p a.1.l < ((varsOf p).length : Nat)) (he : vIdx p [] < 0) : absW (refN k (refOf p a)) (valA p e a) := by
  unfold valA refOf
  by_cases h0 : a.1.l = []
  · rw [if_pos h0, h0, if_neg (by omega), refN, if_pos rfl]
    have := absW_of (wrp a.2.1, wrp a.2.2)
    rw [show nOf (wrp a.2.1, wrp a.2.2) = nOf a.2 from by simp only [nOf, wrp_wrp]] at this
    exact this
  · have h1 := ha h0
    rw [if_neg h0, if_pos h1.1, if_pos h1.1, refN, if_neg (by dsimp only; omega)]
    have hlt : (vIdx p a.1.l).toNat < e.length := by omega
    rw [List.getElem?_eq_getElem hlt]
    exact h.2 _ _ (List.getElem?_eq_getElem hlt)
theorem vIdx_nil (p : Prog) : vIdx p [] < 0 := by
  rcases vIdx_range p [] with h | h
  · omega
  · exfalso
    have hm : [] ∈ varsOf p := idxS_some (i := 0) (by omega) h.1
    have hs := vars_sorted p nil_sorted
    have : ∀ (p : Prog) {o : List Bs8}, [] ∉ o → [] ∉ p.foldl blkVars o := by
      have h1 : ∀ (vs : List Bs8) {o : List Bs8}, [] ∉ o → [] ∉ putAll vs o := by
        intro vs
        induction vs with
        | nil => exact fun h => h
        | cons v r ih =>
          intro o h
          refine ih (o := putS v o) ?_
          by_cases hv : v = []
          · rw [hv, putS_nil]; exact h
          · intro hm
            rcases putS_mem hm with hm | hm
            · exact h hm
            · exact hv hm.symm
      have h2 : ∀ (l : List Stmt) {o : List Bs8}, [] ∉ o → [] ∉ bVars o l := by
        intro l
        induction l with
        | nil => exact fun h => h
        | cons v r ih => exact fun h => ih (h1 _ h)
      intro p
      induction p with
      | nil => exact fun h => h
      | cons b r ih => exact fun h => ih (h1 _ (h2 _ h))
    exact this p (by simp) hm
theorem stmtB_var {s : Stmt} (h : stmtB s = true) : (s.1 = 1 ∧ 0 ≤ s.2.2.1 ∧ s.2.2.1 ≤ 4 ∧ s.2.1.l ≠ []) ∨ (s.1 = 2 ∧ s.2.1.l ≠ []) ∨ (s.1 = 3 ∧ s.2.1.l = []) := by
  have hn : ∀ t : Bs8, nmB t = true → t ≠ [] := fun t ht e => by rw [e] at ht; exact absurd ht (by decide)
  unfold stmtB at h
  split at h
  · rename_i h1
    rw [Bool.and_eq_true] at h
    have := exprB_op h.2
    exact .inl ⟨h1, this.1, this.2, hn _ h.1⟩
  · split at h
    · rename_i h1
      rw [Bool.and_eq_true] at h
      exact .inr (.inl ⟨h1, hn _ h.1⟩)
    · split at h
      · rename_i h1
        rw [Bool.and_eq_true, Bool.and_eq_true] at h
        exact .inr (.inr ⟨h1, dt h.1.1⟩)
      · cases h
theorem absV_do {p : Prog} {inn : List Nm} {k : Wd} {s : StE} {b : Block} {x : Stmt} (hk : okW (varsOf p).length k) (h : absV k s.2.1) (hb : b ∈ p) (hx : x ∈ b.2.1) (hs : stmtB x = true) : absV (doL k (codeOf p x)) (doS p inn s x).2.1 := by
  have hl : s.2.1.length = (varsOf p).length := by rw [← h.1, hk.1]
  have he := vIdx_nil p
  have hA : x.2.2.2.1.1.l ≠ [] → _ := fun h0 => vIdx_stmt (t := x.2.2.2.1.1.l) hb hx (by simp) h0
  have hB : x.2.2.2.2.1.l ≠ [] → _ := fun h0 => vIdx_stmt (t := x.2.2.2.2.1.l) hb hx (by simp) h0
  rcases stmtB_var hs with ⟨h1, h2, h3, h4⟩ | ⟨h1, h4⟩ | ⟨h1, h4⟩
  · have hv := vIdx_stmt hb hx (t := x.2.1.l) (by simp) h4
    rw [codeOf, if_neg (by omega), if_pos h1, doS, if_pos h1]
    show absV (doC k _) (setAt p s.2.1 _ _)
    rw [doC, if_neg (by dsimp only; omega)]
    exact absV_set (kOp_lt _ _ _) h (absW_op ⟨h2, h3⟩ (refN_is hk _) (refN_is hk _) (absV_val h hl hA he) (absV_val h hl hB he))
  · have hv := vIdx_stmt hb hx (t := x.2.1.l) (by simp) h4
    rw [codeOf, if_neg (by omega), if_neg (by omega), if_pos h1, doS, if_neg (by omega), if_pos h1]
    show absV (doC k _) (setAt p s.2.1 _ _)
    rw [doC, if_pos rfl]
    exact absV_set (w := 1) (by omega) h ⟨by decide, fun x hx => by rw [show kNum 1 = none from by decide] at hx; cases hx⟩
  · rw [codeOf, h4, if_pos (by omega), doS, if_neg (by omega), if_neg (by omega), if_pos h1]
    exact h
theorem absV_all {p : Prog} {inn : List Nm} {b : Block} (hb : b ∈ p) (hs : ∀ x ∈ b.2.1, stmtB x = true) : ∀ (l : List Stmt) {k : Wd} {s : StE}, (∀ x ∈ l, x ∈ b.2.1) → okW (varsOf p).length k → absV k s.2.1 → absV (doL k (codesOf p l)) (doAll p inn s l).2.1
  | [], _, _, _, _, h => h
  | x :: r, k, s, hl, hk, h => by
    have hx := hl x List.mem_cons_self
    have e : doL k (codesOf p (x :: r)) = doL (doL k (codeOf p x)) (codesOf p r) := by rw [codesOf, List.flatMap_cons, doL, List.foldl_append]; rfl
    rw [e]
    exact absV_all hb hs r (s := doS p inn s x) (fun y hy => hl y (List.mem_cons_of_mem _ hy)) (doL_ok _ hk) (absV_do hk h hb hx (hs x hx))
theorem absV_has0 {k : Wd} {e : List Nm} (h : absV k e) : has0 k = false := by
  cases h0 : has0 k with
  | false => rfl
  | true =>
    exfalso
    obtain ⟨i, hi, h1⟩ := has0_iff.1 h0
    exact (h.2 i _ (List.getElem?_eq_getElem (by rw [← h.1]; exact hi))).1 h1
theorem eAll_mem {p : Prog} : ∀ (l : List Block) (i : Nat) {j : Nat} {b : Block} {e : Edg}, l[j]? = some b → e ∈ eB p (i + j) b → e ∈ eAll p l i
  | [], _, _, _, _, h, _ => by simp at h
  | x :: r, i, 0, b, e, h, he => by
    simp only [List.getElem?_cons_zero, Option.some.injEq] at h
    subst h
    rw [eAll]
    exact List.mem_append_left _ he
  | x :: r, i, j + 1, b, e, h, he => by
    rw [List.getElem?_cons_succ] at h
    rw [eAll]
    exact List.mem_append_right _ (eAll_mem r (i + 1) h (by rw [show i + 1 + j = i + (j + 1) by omega]; exact he))
/-- What an end's names are. -/
theorem check_goes {p : Prog} (h : checkE p = 0) {b : Block} (hb : b ∈ p) {t : Bs8} (ht : t ∈ goes b.2.2) : t ∈ bnames p := by
  unfold checkE at h
  split at h
  · cases h
  · split at h
    · split at h
      · cases h
      · split at h
        · split at h
          · rename_i h5
            exact dt (List.all_eq_true.1 (List.all_eq_true.1 h5 b hb) t ht)
          · cases h
        · cases h
    · cases h
theorem term_kind {p : Prog} (h : checkE p = 0) {b : Block} (hb : b ∈ p) : b.2.2.1 = 1 ∨ b.2.2.1 = 2 ∨ b.2.2.1 = 3 := by
  have h1 := (check_facts h).2.2.2 b hb
  rw [blockB, Bool.and_eq_true, Bool.and_eq_true] at h1
  have h2 := h1.1.2
  unfold termB at h2
  split at h2
  · exact .inl (by assumption)
  · split at h2
    · exact .inr (.inl (by assumption))
    · split at h2
      · exact .inr (.inr (by assumption))
      · cases h2
theorem fol_edge {p : Prog} (h : checkE p = 0) {i : Int} {b : Block} (h0 : 0 ≤ i) (hb : p[i.toNat]? = some b) {s : StE} (h3 : b.2.2.1 ≠ 3) : (i, bIdx p (goTo p s b.2.2)) ∈ edgesOf p := by
  have hm := List.mem_of_getElem? hb
  have hg : ∀ t ∈ goes b.2.2, eN p i.toNat t = [(i, bIdx p t)] := fun t ht => by
    have h1 : t ∈ bnames p := check_goes h hm ht
    have h2 := idxS_at t (nms p) 0 (by omega) h1
    rw [eN, if_pos h2.1, bIdx, Int.max_eq_left h2.1, Int.toNat_of_nonneg h0]
  refine eAll_mem p 0 hb ?_
  rw [Nat.zero_add, eB]
  rcases term_kind h hm with h1 | h1 | h1
  · have e : goTo p s b.2.2 = b.2.2.2.2.1.l := by rw [goTo, if_neg (by omega)]
    rw [if_pos (.inl h1), e, hg _ (by rw [goes, if_pos h1]; simp)]
    simp
  · have hgo : goes b.2.2 = [b.2.2.2.2.1.l, b.2.2.2.2.2.l] := by rw [goes, if_neg (by omega), if_pos h1]
    rw [if_pos (.inr h1), if_pos h1, hg _ (by rw [hgo]; simp), hg _ (by rw [hgo]; simp), goTo]
    split <;> simp
  · exact absurd h1 h3
/-- Where a run stands, what is known is so. -/
def okSt (p : Prog) (s : StE) : Prop := (0 ≤ s.1 ∧ s.1 < (p.length : Nat)) ∧ s.2.1.length = (varsOf p).length ∧ absV (aAt (solveS (sysOf p)) s.1.toNat) s.2.1
theorem okSt_start {p : Prog} (h : checkE p = 0) : okSt p (start0 p) := by
  have hf := check_facts h
  have ho := sysOf_ok h
  have hm : (0 : Nat) < (sysOf p).m := by show 0 < p.length; omega
  refine ⟨⟨Int.le_refl _, by show (0 : Int) < _; omega⟩, by simp [start0], ?_⟩
  refine absV_le (sol_start ho (v := 0) hm) ?_
  have e : vStart (sysOf p) 0 = List.replicate (varsOf p).length two64 := by
    rw [vStart, if_pos (by show ((0 : Nat) : Int) ∈ [(0 : Int)]; simp)]; rfl
  rw [e]
  refine ⟨by simp [start0], fun i n hi => ?_⟩
  have hi : (List.replicate (varsOf p).length ((0, 0) : Nm))[i]? = some n := hi
  rw [List.getElem?_replicate] at hi
  split at hi
  · rename_i hlt
    have e : wAt (List.replicate (varsOf p).length two64) i = 2 := by rw [wAt, List.getElem?_replicate, if_pos hlt]; rfl
    rw [e, ← Option.some.inj hi, ← kOf_zero]
    exact absW_of (0, 0)
  · cases hi
theorem okSt_step {p : Prog} (h : checkE p = 0) {inn : List Nm} {s : StE} (hs : okSt p s) (hg : (folS p (runB p inn s)).2 = true) : okSt p (folS p (runB p inn s)).1 := by
  have hf := check_facts h
  have ho := sysOf_ok h
  obtain ⟨⟨h0, h1⟩, h2, h3⟩ := hs
  have hlt : s.1.toNat < p.length := by omega
  obtain ⟨b, hb⟩ : ∃ b, p[s.1.toNat]? = some b := ⟨_, List.getElem?_eq_getElem hlt⟩
  have hm := List.mem_of_getElem? hb
  have hst := block_stmts (hf.2.2.2 b hm)
  have er : runB p inn s = doAll p inn s b.2.1 := by rw [runB, blkN_get hb]
  have hd := doAll_blk p inn b.2.1 s
  have hw : okW (varsOf p).length (aAt (solveS (sysOf p)) s.1.toNat) := aAt_ok (solveS_ok ho) hlt
  have ha := absV_all (inn := inn) hm hst b.2.1 (fun x hx => hx) hw h3
  rw [er] at hg ⊢
  unfold folS at hg ⊢
  rw [hd.1, blkN_get hb] at hg ⊢
  split at hg
  · cases hg
  · rename_i h3'
    rw [if_neg h3']
    have hr := bIdx_range p (goTo p (doAll p inn s b.2.1) b.2.2) hf.1
    refine ⟨hr, by show (doAll p inn s b.2.1).2.1.length = _; rw [hd.2, h2], ?_⟩
    have he := fol_edge h h0 hb (s := doAll p inn s b.2.1) h3'
    have hle := sol_edge ho (e := (s.1, bIdx p (goTo p (doAll p inn s b.2.1) b.2.2))) ((gSort_mem _ _).2 he)
    refine absV_le hle ?_
    show absV (vApp (tAt (sysOf p) s.1.toNat) (aAt (solveS (sysOf p)) s.1.toNat)) _
    rw [sys_t hb, vApp, if_neg (by rw [absV_has0 h3]; decide)]
    exact ha
theorem okSt_all {p : Prog} (h : checkE p = 0) (inn : List Nm) (k : Nat) : ∀ s ∈ (itS p inn (start0 p) k).1, okSt p s :=
  (itS_inv (okSt p) (okSt_start h) (fun _ hs hg => okSt_step h hs hg) k).1
end Go.Proofs
end
section
namespace Go.Proofs
open Go.Sy
set_option maxRecDepth 20000
set_option maxHeartbeats 4000000
/-! FoldRuns: the law. What a program's variables that are left know. -/
theorem vIdx_at {q : Prog} {j : Nat} (hj : j < (varsOf q).length) : vIdx q (varsOf q)[j] = (j : Int) := by
  have hs : SortedS (varsOf q) := vars_sorted q nil_sorted
  have h := idxS_at (varsOf q)[j] (varsOf q) 0 (by omega) (List.getElem_mem hj)
  have h2 := h.2.2
  have hi : (idxS (varsOf q)[j] (varsOf q) 0 - 0).toNat < (varsOf q).length := (List.getElem?_eq_some_iff.1 h2).1
  have h3 := (List.getElem?_eq_some_iff.1 h2).2
  have hp := List.pairwise_iff_getElem.1 hs
  unfold vIdx
  rcases Nat.lt_trichotomy (idxS (varsOf q)[j] (varsOf q) 0 - 0).toNat j with h4 | h4 | h4
  · have := hp _ _ hi hj h4
    rw [h3] at this
    exact absurd this (slt_irrefl _)
  · omega
  · have := hp _ _ hj hi h4
    rw [h3] at this
    exact absurd this (slt_irrefl _)
theorem vIdx_get {p : Prog} {t : Bs8} (h : t ∈ varsOf p) : ∃ j, vIdx p t = (j : Nat) ∧ j < (varsOf p).length ∧ (varsOf p)[j]? = some t := by
  have h1 := idxS_at t (varsOf p) 0 (by omega) h
  refine ⟨(idxS t (varsOf p) 0 - 0).toNat, by unfold vIdx; omega, by omega, h1.2.2⟩
theorem vIdx_inj {p : Prog} {t u : Bs8} (ht : t ∈ varsOf p) (hu : u ∈ varsOf p) (h : vIdx p t = vIdx p u) : t = u := by
  obtain ⟨j, h1, _, h2⟩ := vIdx_get ht
  obtain ⟨k, h3, _, h4⟩ := vIdx_get hu
  have e : j = k := by omega
  rw [e, h4] at h2
  exact (Option.some.inj h2).symm
theorem wd_ext {x y : Wd} (hl : x.length = y.length) (h : ∀ i < x.length, wAt x i = wAt y i) : x = y := by
  refine list_eq_take hl fun i hi => ?_
  have h1 := h i hi
  have e1 := List.getElem?_eq_getElem hi
  have e2 := List.getElem?_eq_getElem (show i < y.length by omega)
  rw [wAt_in e1, wAt_in e2] at h1
  rw [e1, e2, UInt64.toNat_inj.1 h1]
def rest (p q : Prog) (k : Wd) : Wd := (varsOf q).map fun t => k[(vIdx p t).toNat]?.getD 0
theorem rest_len (p q : Prog) (k : Wd) : (rest p q k).length = (varsOf q).length := List.length_map _
theorem rest_at {p q : Prog} {k : Wd} {j : Nat} (hj : j < (varsOf q).length) : wAt (rest p q k) j = wAt k (vIdx p (varsOf q)[j]).toNat := by
  rw [wAt, rest, List.getElem?_map, List.getElem?_eq_getElem hj]; rfl
theorem rest_idx {p q : Prog} {k : Wd} {t : Bs8} (h : t ∈ varsOf q) : wAt (rest p q k) (vIdx q t).toNat = wAt k (vIdx p t).toNat := by
  obtain ⟨j, h1, h2, h3⟩ := vIdx_get h
  rw [h1, Int.toNat_natCast, rest_at h2]
  have e : (varsOf q)[j] = t := by rw [List.getElem?_eq_getElem h2] at h3; exact Option.some.inj h3
  rw [e]
theorem rest_ok {p q : Prog} {k : Wd} (h : okW (varsOf p).length k) : okW (varsOf q).length (rest p q k) := by
  refine ⟨rest_len p q k, fun w hw => ?_⟩
  obtain ⟨t, _, rfl⟩ := List.mem_map.1 hw
  exact wAt_is h _
theorem rest_set {p q : Prog} (hs : ∀ t ∈ varsOf q, t ∈ varsOf p) {k : Wd} (hk : k.length = (varsOf p).length) {t : Bs8} (ht : t ∈ varsOf q) (w : UInt64) : rest p q (k.set (vIdx p t).toNat w) = (rest p q k).set (vIdx q t).toNat w := by
  refine wd_ext (by rw [rest_len, List.length_set, rest_len]) fun i hi => ?_
  rw [rest_len] at hi
  have hm : (varsOf q)[i] ∈ varsOf q := List.getElem_mem hi
  rw [rest_at hi, wAt_set, wAt_set, rest_at hi, rest_len, hk]
  obtain ⟨j1, e1, l1, _⟩ := vIdx_get (hs t ht)
  obtain ⟨j2, e2, l2, g2⟩ := vIdx_get ht
  obtain ⟨j3, e3, l3, _⟩ := vIdx_get (hs _ hm)
  have hj := vIdx_at hi
  by_cases h : t = (varsOf q)[i]
  · rw [← h] at hj e3
    rw [← h, if_pos ⟨rfl, by omega⟩, if_pos ⟨by omega, by omega⟩]
  · have n1 : ¬ (vIdx p t).toNat = (vIdx p (varsOf q)[i]).toNat := fun e => h (vIdx_inj (hs t ht) (hs _ hm) (by omega))
    have n2 : ¬ (vIdx q t).toNat = i := fun e => h (vIdx_inj ht hm (by omega))
    rw [if_neg (fun hh => n1 hh.1), if_neg (fun hh => n2 hh.1)]
theorem rest_join {p q : Prog} {x y : Wd} (hl : x.length = y.length) : rest p q (vJoin x y) = vJoin (rest p q x) (rest p q y) := by
  have e : (rest p q x).length = (rest p q y).length := by rw [rest_len, rest_len]
  refine wd_ext (by rw [vJoin_len e, rest_len, rest_len]) fun i hi => ?_
  rw [rest_len] at hi
  rw [rest_at hi, wAt_join hl, wAt_join e, rest_at hi, rest_at hi]
theorem rest_bot (p q : Prog) : rest p q (vBot (varsOf p).length) = vBot (varsOf q).length := by
  refine wd_ext (by rw [rest_len, vBot, List.length_replicate]) fun i hi => ?_
  rw [rest_len] at hi
  rw [rest_at hi, wAt_bot, wAt_bot]
theorem kOf_num {w : Nat} {n : Nm} (h : kNum w = some n) : kOf n = w := by
  unfold kNum at h
  split at h
  · rename_i hh
    rw [← Option.some.inj h]
    unfold kOf wordN wrp
    dsimp only
    omega
  · cases h
theorem kOf_wrp (n : Nm) : kOf (wrp n.1, wrp n.2) = kOf n := by
  unfold kOf wordN
  simp only [wrp_wrp]
/-- An atom with its number put in, and the atom. -/
theorem foldA_nil {p : Prog} {kn : Wd} {a : Atm} (h : a.1.l = []) : foldA p kn a = a := by
  have := vIdx_nil p
  unfold vIdx at this
  simp only [foldA]
  rw [h, if_neg (by omega)]
theorem foldA_var {p : Prog} {kn : Wd} {a : Atm} (h : a.1.l ∈ varsOf p) (hk : kn.length = (varsOf p).length) : foldA p kn a = match kNum (wAt kn (vIdx p a.1.l).toNat) with
    | some n => (⟨[]⟩, n)
    | none => a := by
  have h1 := vIdx_mem h
  simp only [foldA]
  rw [if_pos (by unfold vIdx at h1; omega)]; rfl
theorem no0 {u : Wd} (h : ¬ has0 u = true) {i : Nat} (hi : i < u.length) : wAt u i ≠ 0 := fun e => h (has0_iff.2 ⟨i, hi, e⟩)
theorem rest_ref {p q : Prog} {u kn : Wd} (hu : u.length = (varsOf p).length) (hle : vLe u kn) (hz : ¬ has0 u = true) {a : Atm} (ha : a.1.l ≠ [] → a.1.l ∈ varsOf p) (hm : (foldA p kn a).1.l ≠ [] → (foldA p kn a).1.l ∈ varsOf q) :
    refN (rest p q u) (refOf q (foldA p kn a)) = refN u (refOf p a) := by
  have hp0 := vIdx_nil p
  have hq0 := vIdx_nil q
  by_cases h0 : a.1.l = []
  · rw [foldA_nil h0, refOf, refOf, h0, if_neg (by omega), if_neg (by omega), refN, refN, if_pos rfl, if_pos rfl]
  · have h1 := ha h0
    have h2 := vIdx_mem h1
    have hf := foldA_var h1 (kn := kn) (by rw [← hle.1, hu])
    have eR : refN u (refOf p a) = wAt u (vIdx p a.1.l).toNat := by
      rw [refOf, if_pos h2.1, refN, if_neg (by dsimp only; omega)]; rfl
    rw [eR]
    cases hk : kNum (wAt kn (vIdx p a.1.l).toNat) with
    | some n =>
      have hf : foldA p kn a = (⟨[]⟩, n) := by rw [hk] at hf; exact hf
      rw [hf, refOf, if_neg (by dsimp only; omega), refN, if_pos rfl]
      have hw := hle.2 (vIdx p a.1.l).toNat
      have hnz := no0 hz (i := (vIdx p a.1.l).toNat) (by have h5 := h2.1; have h6 := h2.2; rw [hu]; omega)
      have e2 := kOf_num hk
      rcases hw with hw | hw | hw
      · exact absurd hw hnz
      · rw [hw, ← e2]; exact kOf_wrp n
      · rw [hw, show kNum 1 = none from by decide] at hk; cases hk
    | none =>
      have hf : foldA p kn a = a := by rw [hk] at hf; exact hf
      rw [hf] at hm ⊢
      have h3 := hm h0
      have h4 := vIdx_mem h3
      rw [refOf, if_pos h4.1, refN, if_neg (by dsimp only; omega)]
      exact rest_idx h3
end Go.Proofs
end
section
namespace Go.Proofs
open Go.Sy
set_option maxRecDepth 20000
set_option maxHeartbeats 4000000
/-! FoldRuns: the law. Expressions and statements with numbers put in. -/
theorem op1_nAt {op : Int} (h : op = 0 ∨ op = 4) : nAt op = 1 := if_pos h
theorem op2_nAt {op : Int} (h : op = 1 ∨ op = 2 ∨ op = 3) : nAt op = 2 := by rw [nAt, if_neg (by omega), if_pos h]
abbrev nAtm (n : Nm) : Atm := (⟨[]⟩, n)
/-- What becomes of an expression: of one atom, of two. -/
theorem foldE_cases {p : Prog} {kn : Wd} {x : Expr} (h : exprB x = true) :
    ((x.1 = 0 ∨ x.1 = 4) ∧ x.2.2 = za ∧ (((foldA p kn x.2.1).1.l = [] ∧ foldE p kn x = (0, nAtm (nOp x.1 (foldA p kn x.2.1).2 (0, 0)), za)) ∨ ((foldA p kn x.2.1).1.l ≠ [] ∧ foldE p kn x = (x.1, foldA p kn x.2.1, za)))) ∨
    ((x.1 = 1 ∨ x.1 = 2 ∨ x.1 = 3) ∧ (((foldA p kn x.2.1).1.l = [] ∧ (foldA p kn x.2.2).1.l = [] ∧ foldE p kn x = (0, nAtm (nOp x.1 (foldA p kn x.2.1).2 (foldA p kn x.2.2).2), za)) ∨
      (¬ ((foldA p kn x.2.1).1.l = [] ∧ (foldA p kn x.2.2).1.l = []) ∧ foldE p kn x = (x.1, foldA p kn x.2.1, foldA p kn x.2.2)))) := by
  unfold exprB at h
  split at h
  · rename_i h1
    have h1 : x.1 = 0 ∨ x.1 = 4 := by simpa [op1] using h1
    rw [Bool.and_eq_true] at h
    have hb : x.2.2 = za := dt h.2
    have hn := op1_nAt h1
    refine .inl ⟨h1, hb, ?_⟩
    by_cases hy : (foldA p kn x.2.1).1.l = []
    · refine .inl ⟨hy, ?_⟩
      simp only [foldE, hn]
      rw [if_pos (show 0 < 1 by omega), if_neg (show ¬ 1 < 1 by omega), if_pos ⟨by omega, hy, by simp⟩, hb]; rfl
    · refine .inr ⟨hy, ?_⟩
      simp only [foldE, hn]
      rw [if_pos (show 0 < 1 by omega), if_neg (show ¬ 1 < 1 by omega), if_neg (fun hh => hy hh.2.1), hb]
  · split at h
    · rename_i h1
      have h1 : x.1 = 1 ∨ x.1 = 2 ∨ x.1 = 3 := by simpa [op2, or_assoc] using h1
      have hn := op2_nAt h1
      refine .inr ⟨h1, ?_⟩
      by_cases hy : (foldA p kn x.2.1).1.l = [] ∧ (foldA p kn x.2.2).1.l = []
      · refine .inl ⟨hy.1, hy.2, ?_⟩
        simp only [foldE, hn]
        rw [if_pos (show 0 < 2 by omega), if_pos (show 1 < 2 by omega), if_pos ⟨by omega, hy.1, .inr hy.2⟩]; rfl
      · refine .inr ⟨hy, ?_⟩
        simp only [foldE, hn]
        rw [if_pos (show 0 < 2 by omega), if_pos (show 1 < 2 by omega), if_neg (fun hh => hy ⟨hh.2.1, by rcases hh.2.2 with e | e; exact absurd e (by omega); exact e⟩)]
    · cases h
theorem nOf_nOf (a : Nm) : nOf (nOf a) = nOf a := by simp only [nOf, wrp_wrp]
theorem nOp_in_of {op : Int} (h : op = 0 ∨ op = 4 ∨ op = 1 ∨ op = 2 ∨ op = 3) (a b : Nm) : nOp op (nOf a) (nOf b) = nOp op a b := by
  unfold nOp
  rcases h with rfl | rfl | rfl | rfl | rfl <;> simp only [nOf_nOf] <;> rfl
theorem kOf_ne (a : Nm) : kOf a ≠ 0 ∧ kOf a ≠ 1 := by unfold kOf; omega
theorem numOf_kOf (a : Nm) : numOf (kOf a) = nOf a := by rw [numOf, kNum_of]; rfl
theorem kOp_of1 {op : Int} (h : op = 0 ∨ op = 4) (a : Nm) (b : Nat) : kOp op (kOf a) b = kOf (nOp op a (0, 0)) := by
  have h1 := kOf_ne a
  rw [kOp, if_pos h, kNorm_is (kIs_of a), if_neg h1.1, if_neg h1.2, numOf_kOf, nOp_one h _ _ (nOf (0, 0)), nOp_in_of (by omega)]
theorem kOp_of2 {op : Int} (h : op = 1 ∨ op = 2 ∨ op = 3) (a b : Nm) : kOp op (kOf a) (kOf b) = kOf (nOp op a b) := by
  have h1 := kOf_ne a
  have h2 := kOf_ne b
  rw [kOp, if_neg (by omega), kNorm_is (kIs_of a), kNorm_is (kIs_of b), if_neg (by omega), if_neg (by omega), if_pos (show opIs op = true from decide_eq_true (by omega)), numOf_kOf, numOf_kOf, nOp_in_of (by omega)]
theorem nOp_zero (a b : Nm) : nOp 0 a b = nOf a := rfl
theorem ref_nAtm {q : Prog} {v : Wd} (n : Nm) : refN v (refOf q (nAtm n)) = kOf n := by
  have := vIdx_nil q
  rw [refOf, if_neg (by dsimp only; omega), refN, if_pos rfl]
  exact kOf_wrp n
theorem atm_nil {a : Atm} (h : a.1.l = []) : a = nAtm a.2 := by
  obtain ⟨⟨l⟩, n⟩ := a
  dsimp only at h
  rw [h]
/-- What an expression is known to be: the same, with numbers put in. -/
theorem rest_expr {p q : Prog} {u kn : Wd} (hu : u.length = (varsOf p).length) (hle : vLe u kn) (hz : ¬ has0 u = true) {x : Expr} (hx : exprB x = true) (hA : ∀ a ∈ [x.2.1, x.2.2], a.1.l ≠ [] → a.1.l ∈ varsOf p)
    (hm : ∀ a ∈ [(foldE p kn x).2.1, (foldE p kn x).2.2], a.1.l ≠ [] → a.1.l ∈ varsOf q) :
    kOp (foldE p kn x).1 (refN (rest p q u) (refOf q (foldE p kn x).2.1)) (refN (rest p q u) (refOf q (foldE p kn x).2.2)) = kOp x.1 (refN u (refOf p x.2.1)) (refN u (refOf p x.2.2)) := by
  have hA1 := hA x.2.1 (by simp)
  have hA2 := hA x.2.2 (by simp)
  rcases foldE_cases (p := p) (kn := kn) hx with ⟨ho, hb, h⟩ | ⟨ho, h⟩
  · rcases h with ⟨hy, e⟩ | ⟨hy, e⟩
    · have h1 := rest_ref (q := q) hu hle hz hA1 (fun hh => absurd hy hh)
      rw [atm_nil hy, ref_nAtm] at h1
      rw [e]
      dsimp only
      rw [ref_nAtm, kOp_of1 (.inl rfl), ← h1, kOp_of1 ho, nOp_zero, nOp_nOf]
    · rw [e] at hm ⊢
      have h1 := rest_ref (q := q) hu hle hz hA1 (hm _ (by simp))
      dsimp only
      rw [h1, hb, show za = nAtm (0, 0) from rfl, ref_nAtm, ref_nAtm]
  · rcases h with ⟨hy, hy2, e⟩ | ⟨hy, e⟩
    · have h1 := rest_ref (q := q) hu hle hz hA1 (fun hh => absurd hy hh)
      have h2 := rest_ref (q := q) hu hle hz hA2 (fun hh => absurd hy2 hh)
      rw [atm_nil hy, ref_nAtm] at h1
      rw [atm_nil hy2, ref_nAtm] at h2
      rw [e]
      dsimp only
      rw [ref_nAtm, kOp_of1 (.inl rfl), ← h1, ← h2, kOp_of2 ho, nOp_zero, nOp_nOf]
    · rw [e] at hm ⊢
      have h1 := rest_ref (q := q) hu hle hz hA1 (hm _ (by simp))
      have h2 := rest_ref (q := q) hu hle hz hA2 (hm _ (by simp))
      dsimp only
      rw [h1, h2]
theorem stmtB_expr {x : Stmt} (h : stmtB x = true) (h1 : x.1 = 1 ∨ x.1 = 3) : exprB x.2.2 = true := by
  unfold stmtB at h
  split at h
  · rw [Bool.and_eq_true] at h; exact h.2
  · rw [if_neg (by omega)] at h
    split at h
    · rw [Bool.and_eq_true] at h; exact h.2
    · cases h
theorem rest_code {p q : Prog} (hs : ∀ t ∈ varsOf q, t ∈ varsOf p) {u kn : Wd} (hu : u.length = (varsOf p).length) (hle : vLe u kn) (hz : ¬ has0 u = true) {x : Stmt} (hx : stmtB x = true) (hp : ∀ t ∈ sVars x, t ≠ [] → t ∈ varsOf p) (hm : ∀ t ∈ sVars (foldS p kn x), t ≠ [] → t ∈ varsOf q) :
    doL (rest p q u) (codeOf q (foldS p kn x)) = rest p q (doL u (codeOf p x)) := by
  rcases stmtB_var hx with ⟨h1, h2, h3, h4⟩ | ⟨h1, h4⟩ | ⟨h1, h4⟩
  · have hf : foldS p kn x = (x.1, x.2.1, foldE p kn x.2.2) := by rw [foldS, if_pos (.inl h1)]
    rw [hf] at hm ⊢
    have hv : x.2.1.l ∈ varsOf q := hm _ (by simp) h4
    have v1 := vIdx_mem hv
    have v2 := vIdx_mem (hs _ hv)
    have hE := rest_expr (q := q) hu hle hz (stmtB_expr hx (.inl h1)) (fun a ha => hp _ (by simp at ha ⊢; rcases ha with rfl | rfl <;> simp)) (fun a ha => hm _ (by simp at ha ⊢; rcases ha with rfl | rfl <;> simp))
    have ho : 0 ≤ (foldE p kn x.2.2).1 := by
      rcases foldE_cases (p := p) (kn := kn) (stmtB_expr hx (.inl h1)) with ⟨ho, _, h⟩ | ⟨ho, h⟩
      · rcases h with ⟨_, e⟩ | ⟨_, e⟩ <;> rw [e] <;> dsimp only <;> omega
      · rcases h with ⟨_, _, e⟩ | ⟨_, e⟩ <;> rw [e] <;> dsimp only <;> omega
    have c1 : codeOf q (x.1, x.2.1, foldE p kn x.2.2) = [(vIdx q x.2.1.l, (foldE p kn x.2.2).1, refOf q (foldE p kn x.2.2).2.1, refOf q (foldE p kn x.2.2).2.2)] := by rw [codeOf, if_neg (by dsimp only; omega), if_pos h1]
    have c2 : codeOf p x = [(vIdx p x.2.1.l, x.2.2.1, refOf p x.2.2.2.1, refOf p x.2.2.2.2)] := by rw [codeOf, if_neg (by omega), if_pos h1]
    rw [c1, c2]
    show doC _ _ = rest p q (doC _ _)
    have d1 : ∀ v : Wd, doC v (vIdx q x.2.1.l, (foldE p kn x.2.2).1, refOf q (foldE p kn x.2.2).2.1, refOf q (foldE p kn x.2.2).2.2) = v.set (vIdx q x.2.1.l).toNat (UInt64.ofNat (kOp (foldE p kn x.2.2).1 (refN v (refOf q (foldE p kn x.2.2).2.1)) (refN v (refOf q (foldE p kn x.2.2).2.2)))) := fun v => by rw [doC, if_neg (by dsimp only; omega)]
    have d2 : ∀ v : Wd, doC v (vIdx p x.2.1.l, x.2.2.1, refOf p x.2.2.2.1, refOf p x.2.2.2.2) = v.set (vIdx p x.2.1.l).toNat (UInt64.ofNat (kOp x.2.2.1 (refN v (refOf p x.2.2.2.1)) (refN v (refOf p x.2.2.2.2)))) := fun v => by rw [doC, if_neg (by dsimp only; omega)]
    rw [d1, d2]
    rw [hE, rest_set hs hu hv]
  · have hf : foldS p kn x = x := by rw [foldS, if_neg (by omega)]
    rw [hf] at hm ⊢
    have hv : x.2.1.l ∈ varsOf q := hm _ (by simp) h4
    have v1 := vIdx_mem hv
    have v2 := vIdx_mem (hs _ hv)
    have c1 : codeOf q x = [(vIdx q x.2.1.l, -1, (0, (0, 0)), (0, (0, 0)))] := by rw [codeOf, if_neg (by omega), if_neg (by omega), if_pos h1]
    have c2 : codeOf p x = [(vIdx p x.2.1.l, -1, (0, (0, 0)), (0, (0, 0)))] := by rw [codeOf, if_neg (by omega), if_neg (by omega), if_pos h1]
    rw [c1, c2]
    show (rest p q u).set (vIdx q x.2.1.l).toNat 1 = rest p q (u.set (vIdx p x.2.1.l).toNat 1)
    rw [rest_set hs hu hv]
  · have hf : (foldS p kn x).2.1 = x.2.1 ∧ (foldS p kn x).1 = x.1 := by rw [foldS, if_pos (.inr h1)]; exact ⟨rfl, rfl⟩
    have n1 := vIdx_nil p
    have n2 := vIdx_nil q
    rw [codeOf, codeOf, hf.1, h4, if_pos n1, if_pos n2]
    rfl
end Go.Proofs
end
section
namespace Go.Proofs
open Go.Sy
set_option maxRecDepth 20000
set_option maxHeartbeats 4000000
/-! FoldRuns: the law. A program with numbers put in may be. -/
theorem kNum_n {w : Nat} {n : Nm} (h : kNum w = some n) : nOf n = n := by
  unfold kNum at h
  split at h
  · rw [← Option.some.inj h]; simp only [nOf, wrp_wrp]
  · cases h
theorem foldA_or (p : Prog) (kn : Wd) (a : Atm) : foldA p kn a = a ∨ ∃ n, foldA p kn a = nAtm n ∧ nOf n = n := by
  simp only [foldA]
  split
  · cases h : kNum (kn[(idxS a.1.l (varsOf p) 0).toNat]?.getD 0).toNat with
    | none => exact .inl rfl
    | some n => exact .inr ⟨n, rfl, kNum_n h⟩
  · exact .inl rfl
theorem isN_of {n : Nm} (h : nOf n = n) : isN n = true := decide_eq_true h.symm
theorem atmB_nAtm {n : Nm} (h : nOf n = n) : atmB (nAtm n) = true := by rw [atmB, if_pos rfl]; exact isN_of h
theorem atmB_fold {p : Prog} {kn : Wd} {a : Atm} (h : atmB a = true) : atmB (foldA p kn a) = true := by
  rcases foldA_or p kn a with e | ⟨n, e, hn⟩
  · rw [e]; exact h
  · rw [e]; exact atmB_nAtm hn
theorem exprB_one {op : Int} {a : Atm} (h : op = 0 ∨ op = 4) (ha : atmB a = true) : exprB (op, a, za) = true := by
  rw [exprB, if_pos (by simpa [op1] using h)]
  dsimp only
  rw [ha]; simp
theorem exprB_two {op : Int} {a b : Atm} (h : op = 1 ∨ op = 2 ∨ op = 3) (ha : atmB a = true) (hb : atmB b = true) : exprB (op, a, b) = true := by
  rw [exprB, if_neg (by simp [op1]; omega), if_pos (by simpa [op2, or_assoc] using h)]
  dsimp only
  rw [ha, hb]; rfl
theorem exprB_atms {x : Expr} (h : exprB x = true) : atmB x.2.1 = true ∧ ((x.1 = 1 ∨ x.1 = 2 ∨ x.1 = 3) → atmB x.2.2 = true) := by
  unfold exprB at h
  split at h
  · rename_i h1
    rw [Bool.and_eq_true] at h
    have h1 : x.1 = 0 ∨ x.1 = 4 := by simpa [op1] using h1
    exact ⟨h.1, fun h2 => by omega⟩
  · split at h
    · rw [Bool.and_eq_true] at h
      exact ⟨h.1, fun _ => h.2⟩
    · cases h
theorem exprB_fold {p : Prog} {kn : Wd} {x : Expr} (h : exprB x = true) : exprB (foldE p kn x) = true := by
  have h2 := exprB_atms h
  rcases foldE_cases (p := p) (kn := kn) h with ⟨ho, hb, h3⟩ | ⟨ho, h3⟩
  · rcases h3 with ⟨_, e⟩ | ⟨_, e⟩
    · rw [e]; exact exprB_one (.inl rfl) (atmB_nAtm (nOp_nOf _ _ _))
    · rw [e]; exact exprB_one ho (atmB_fold h2.1)
  · rcases h3 with ⟨_, _, e⟩ | ⟨_, e⟩
    · rw [e]; exact exprB_one (.inl rfl) (atmB_nAtm (nOp_nOf _ _ _))
    · rw [e]; exact exprB_two ho (atmB_fold h2.1) (atmB_fold (h2.2 ho))
theorem foldE_op0 {p : Prog} {kn : Wd} {x : Expr} (h : exprB x = true) (h0 : x.1 = 0) : (foldE p kn x).1 = 0 := by
  rcases foldE_cases (p := p) (kn := kn) h with ⟨ho, hb, h3⟩ | ⟨ho, h3⟩
  · rcases h3 with ⟨_, e⟩ | ⟨_, e⟩
    · rw [e]
    · rw [e]; exact h0
  · omega
theorem stmtB_fold {p : Prog} {kn : Wd} {x : Stmt} (h : stmtB x = true) : stmtB (foldS p kn x) = true := by
  by_cases h1 : x.1 = 1 ∨ x.1 = 3
  · have hE := stmtB_expr h h1
    rw [foldS, if_pos h1]
    rcases h1 with h1 | h1
    · rw [stmtB, if_pos h1] at h ⊢
      rw [Bool.and_eq_true] at h ⊢
      exact ⟨h.1, exprB_fold hE⟩
    · rw [stmtB, if_neg (by omega), if_neg (by omega), if_pos h1] at h
      rw [stmtB, if_neg (by dsimp only; omega), if_neg (by dsimp only; omega), if_pos h1]
      rw [Bool.and_eq_true, Bool.and_eq_true] at h ⊢
      exact ⟨⟨h.1.1, decide_eq_true (foldE_op0 hE (dt h.1.2))⟩, exprB_fold hE⟩
  · rw [foldS, if_neg h1]; exact h
theorem foldT_parts (p : Prog) (i : Nat) (b : Block) : (foldT p i b).1 = b.2.2.1 ∧ (foldT p i b).2.2 = b.2.2.2.2 := by
  unfold foldT
  split <;> exact ⟨rfl, rfl⟩
theorem termB_fold {p : Prog} {i : Nat} {b : Block} (h : termB b.2.2 = true) : termB (foldT p i b) = true := by
  unfold foldT
  split
  · rename_i h2
    rw [termB, if_neg (by omega), if_pos h2] at h
    rw [termB, if_neg (by dsimp only; omega), if_pos h2]
    rw [Bool.and_eq_true, Bool.and_eq_true] at h ⊢
    exact ⟨h.1, atmB_fold h.2⟩
  · exact h
theorem foldB_parts (p : Prog) (i : Nat) (b : Block) : (foldB p i b).1 = b.1 ∧ (foldB p i b).2.2.1 = b.2.2.1 ∧ (foldB p i b).2.2.2.2 = b.2.2.2.2 := by
  unfold foldB
  split
  · exact ⟨rfl, rfl, rfl⟩
  · exact ⟨rfl, (foldT_parts p i b).1, (foldT_parts p i b).2⟩
theorem foldP_get {p : Prog} {i : Nat} {b : Block} (h : p[i]? = some b) : (foldP p)[i]? = some (foldB p i b) := by rw [foldP, List.getElem?_mapIdx, h]; rfl
theorem foldP_mem {p : Prog} {b' : Block} (h : b' ∈ foldP p) : ∃ i b, p[i]? = some b ∧ b' = foldB p i b := by
  obtain ⟨i, hi⟩ := List.getElem?_of_mem h
  have hlt := (List.getElem?_eq_some_iff.1 hi).1
  rw [foldP_len] at hlt
  have hb := List.getElem?_eq_getElem hlt
  rw [foldP_get hb] at hi
  exact ⟨i, p[i], hb, (Option.some.inj hi).symm⟩
theorem foldL_mem {p : Prog} {i : Nat} {b : Block} {x' : Stmt} (h : x' ∈ foldL p i b) : ∃ k x, b.2.1[k]? = some x ∧ x' = foldS p (knownAt p i b k) x := by
  obtain ⟨k, hk⟩ := List.getElem?_of_mem h
  have hlt := (List.getElem?_eq_some_iff.1 hk).1
  rw [foldL_len] at hlt
  have hb := List.getElem?_eq_getElem hlt
  rw [foldL, List.getElem?_mapIdx, hb] at hk
  exact ⟨k, b.2.1[k], hb, (Option.some.inj hk).symm⟩
theorem foldB_stmt {p : Prog} {i : Nat} {b : Block} {x' : Stmt} (h : x' ∈ (foldB p i b).2.1) : ∃ x ∈ b.2.1, x' = x ∨ ∃ kn, x' = foldS p kn x := by
  unfold foldB at h
  split at h
  · exact ⟨x', h, .inl rfl⟩
  · obtain ⟨k, x, hx, e⟩ := foldL_mem h
    exact ⟨x, List.mem_of_getElem? hx, .inr ⟨_, e⟩⟩
theorem foldA_names (p : Prog) (kn : Wd) (a : Atm) : (foldA p kn a).1.l = a.1.l ∨ (foldA p kn a).1.l = [] := by
  rcases foldA_or p kn a with e | ⟨n, e, _⟩
  · exact .inl (by rw [e])
  · exact .inr (by rw [e])
theorem foldE_names (p : Prog) (kn : Wd) (x : Expr) : ∀ a ∈ [(foldE p kn x).2.1, (foldE p kn x).2.2], a.1.l ≠ [] → a.1.l = x.2.1.1.l ∨ a.1.l = x.2.2.1.l := by
  intro a ha h0
  obtain ⟨y1, hy1⟩ : ∃ y1, y1 = if 0 < nAt x.1 then foldA p kn x.2.1 else x.2.1 := ⟨_, rfl⟩
  obtain ⟨y2, hy2⟩ : ∃ y2, y2 = if 1 < nAt x.1 then foldA p kn x.2.2 else x.2.2 := ⟨_, rfl⟩
  have e : foldE p kn x = if 0 < nAt x.1 ∧ y1.1.l = [] ∧ (nAt x.1 = 1 ∨ y2.1.l = []) then (0, (⟨[]⟩, nOp x.1 y1.2 y2.2), (⟨[]⟩, (0, 0))) else (x.1, y1, y2) := by rw [hy1, hy2]; rfl
  have n1 : y1.1.l = x.2.1.1.l ∨ y1.1.l = [] := by
    rw [hy1]
    split
    · exact foldA_names _ _ _
    · exact .inl rfl
  have n2 : y2.1.l = x.2.2.1.l ∨ y2.1.l = [] := by
    rw [hy2]
    split
    · exact foldA_names _ _ _
    · exact .inl rfl
  rw [e] at ha
  split at ha
  · simp only [List.mem_cons, List.not_mem_nil, or_false] at ha
    rcases ha with rfl | rfl <;> exact absurd rfl h0
  · simp only [List.mem_cons, List.not_mem_nil, or_false] at ha
    rcases ha with rfl | rfl
    · rcases n1 with n1 | n1
      · exact .inl n1
      · exact absurd n1 h0
    · rcases n2 with n2 | n2
      · exact .inr n2
      · exact absurd n2 h0
theorem foldS_names {p : Prog} {kn : Wd} {x : Stmt} : ∀ t ∈ sVars (foldS p kn x), t ≠ [] → t ∈ sVars x := by
  intro t ht h0
  unfold foldS at ht
  split at ht
  · simp only [List.mem_cons, List.not_mem_nil, or_false] at ht ⊢
    rcases ht with rfl | rfl | rfl
    · exact .inl rfl
    · exact .inr (foldE_names p kn x.2.2 (foldE p kn x.2.2).2.1 (by simp) h0)
    · exact .inr (foldE_names p kn x.2.2 (foldE p kn x.2.2).2.2 (by simp) h0)
  · exact ht
theorem vars_fold {p : Prog} : ∀ t ∈ varsOf (foldP p), t ∈ varsOf p := by
  intro t ht
  have h0 : t ≠ [] := fun e => by
    have := vIdx_mem ht
    rw [e] at this
    have := vIdx_nil (foldP p)
    omega
  rcases vars_mem (foldP p) ht with h | ⟨b', hb', h⟩
  · cases h
  · obtain ⟨i, b, hb, rfl⟩ := foldP_mem hb'
    have hm := List.mem_of_getElem? hb
    have hv := (vars_has p nil_sorted).1 b hm
    rcases h with h | ⟨x', hx', h⟩
    · unfold foldB at h
      split at h
      · rw [h] at h0 ⊢; exact hv.2 h0
      · unfold foldT at h
        split at h
        · rcases foldA_names p (knownAt p i b b.2.1.length) b.2.2.2.1 with e | e
          · rw [h] at h0 ⊢
            dsimp only at h0 ⊢
            rw [e] at h0 ⊢
            exact hv.2 h0
          · rw [h] at h0
            exact absurd e h0
        · rw [h] at h0 ⊢; exact hv.2 h0
    · obtain ⟨x, hx, e | ⟨kn, e⟩⟩ := foldB_stmt hx'
      · rw [e] at h; exact hv.1 x hx t h h0
      · rw [e] at h; exact hv.1 x hx t (foldS_names t h h0) h0
theorem vars_nodup (p : Prog) : (varsOf p).Nodup := by
  have hs : SortedS (varsOf p) := vars_sorted p nil_sorted
  exact List.Pairwise.imp (fun {a b} (h : a < b) (e : a = b) => slt_irrefl b (by rw [e] at h; exact h)) hs
theorem vars_fold_len (p : Prog) : (varsOf (foldP p)).length ≤ (varsOf p).length := List.Nodup.length_le_of_subset (vars_nodup _) (fun t ht => vars_fold t ht)
theorem foldP_names (p : Prog) : nms (foldP p) = nms p := by
  apply List.ext_getElem?
  intro i
  rw [List.getElem?_map, List.getElem?_map]
  cases h : p[i]? with
  | none =>
    rw [List.getElem?_eq_none (by rw [foldP_len]; exact List.getElem?_eq_none_iff.1 h)]
  | some b => rw [foldP_get h, Option.map_some, Option.map_some, (foldB_parts p i b).1]
theorem sum_map_eq {α β : Type} (f : α → Nat) (g : β → Nat) : ∀ (l : List α) (m : List β), l.length = m.length → (∀ (i : Nat) (a : α) (b : β), l[i]? = some a → m[i]? = some b → f a = g b) → (l.map f).sum = (m.map g).sum
  | [], [], _, _ => rfl
  | [], b :: m, h, _ => by cases h
  | a :: l, [], h, _ => by cases h
  | a :: l, b :: m, h, h1 => by
    rw [List.map_cons, List.map_cons, List.sum_cons, List.sum_cons, h1 0 a b rfl rfl, sum_map_eq f g l m (by simpa using h) (fun i a b => h1 (i + 1) a b)]
theorem foldP_stmts (p : Prog) : stmtsN (foldP p) = stmtsN p := by
  unfold stmtsN
  refine sum_map_eq _ _ _ _ (foldP_len p) fun i a b h1 h2 => ?_
  rw [foldP_get h2] at h1
  rw [← Option.some.inj h1, foldB_len]
theorem stmts_512' {p : Prog} (h : checkE p = 0) : stmtsN p ≤ 512 := by
  unfold checkE at h
  split at h
  · cases h
  · omega
theorem check_nodup {p : Prog} (h : checkE p = 0) : (bnames p).Nodup := by
  unfold checkE at h
  split at h
  · cases h
  · split at h
    · split at h
      · cases h
      · split at h
        · assumption
        · cases h
    · cases h
theorem fold_check {p : Prog} (h : checkE p = 0) : checkE (foldP p) = 0 := by
  have hf := check_facts h
  have h5 := stmts_512' h
  have hb : ∀ b' ∈ foldP p, blockB b' = true := fun b' hb' => by
    obtain ⟨i, b, hb, rfl⟩ := foldP_mem hb'
    have hm := List.mem_of_getElem? hb
    have h1 := hf.2.2.2 b hm
    have h2 := block_stmts h1
    rw [blockB, Bool.and_eq_true, Bool.and_eq_true] at h1
    rw [blockB, Bool.and_eq_true, Bool.and_eq_true]
    refine ⟨⟨by rw [(foldB_parts p i b).1]; exact h1.1.1, ?_⟩, List.all_eq_true.2 fun x' hx' => ?_⟩
    · unfold foldB
      split
      · exact h1.1.2
      · exact termB_fold h1.1.2
    · obtain ⟨x, hx, e | ⟨kn, e⟩⟩ := foldB_stmt hx'
      · rw [e]; exact h2 x hx
      · rw [e]; exact stmtB_fold (h2 x hx)
  have hn : bnames (foldP p) = bnames p := foldP_names p
  have hg : ∀ b' ∈ foldP p, ∀ t ∈ goes b'.2.2, t ∈ bnames (foldP p) := fun b' hb' t ht => by
    obtain ⟨i, b, hb, rfl⟩ := foldP_mem hb'
    have hp := foldB_parts p i b
    rw [hn]
    refine check_goes h (List.mem_of_getElem? hb) ?_
    unfold goes at ht ⊢
    rw [hp.2.1, hp.2.2] at ht
    exact ht
  have hd : (bnames p).Nodup := check_nodup h
  have hv := vars_fold_len p
  unfold checkE
  rw [if_neg (by rw [foldP_len, foldP_stmts]; omega), if_pos (List.all_eq_true.2 hb), if_neg (by omega), if_pos (by rw [hn]; exact hd), if_pos (List.all_eq_true.2 fun b hb => List.all_eq_true.2 fun t ht => decide_eq_true (hg b hb t ht))]
end Go.Proofs
end
section
namespace Go.Proofs
open Go.Sy
set_option maxRecDepth 20000
set_option maxHeartbeats 4000000
/-! FoldRuns: the law. What is known of a program with numbers put in. -/
def AON (v : Wd) : Prop := has0 v = true → ∀ i, wAt v i = 0
theorem aon_no {v : Wd} (h : ¬ has0 v = true) : AON v := fun h0 => absurd h0 h
theorem aon_bot (n : Nat) : AON (vBot n) := fun _ i => wAt_bot n i
theorem kJoin_zero {a b : Nat} (ha : kIs a = true) (hb : kIs b = true) : kJoin a b = 0 ↔ a = 0 ∧ b = 0 := by
  rw [kJoin_is ha hb]
  split
  · omega
  · split <;> omega
theorem aon_join {n : Nat} {x y : Wd} (hx : okW n x) (hy : okW n y) (h1 : AON x) (h2 : AON y) : AON (vJoin x y) := by
  have e : x.length = y.length := by rw [hx.1, hy.1]
  intro h i
  obtain ⟨j, hj, h3⟩ := has0_iff.1 h
  rw [vJoin_len e] at hj
  rw [wAt_join e, kJoin_zero (wAt_is hx j) (wAt_is hy j)] at h3
  rw [wAt_join e, kJoin_zero (wAt_is hx i) (wAt_is hy i)]
  exact ⟨h1 (has0_iff.2 ⟨j, hj, h3.1⟩) i, h2 (has0_iff.2 ⟨j, by omega, h3.2⟩) i⟩
theorem kOp_ne0 {op : Int} {a b : Nat} (ha : kIs a = true) (hb : kIs b = true) (h1 : a ≠ 0) (h2 : b ≠ 0) : kOp op a b ≠ 0 := by
  unfold kOp
  rw [kNorm_is ha, kNorm_is hb]
  split
  · split
    · decide
    · exact (kOf_ne _).1
  · rw [if_neg (by omega)]
    split
    · decide
    · split
      · exact (kOf_ne _).1
      · decide
theorem refN_ne0 {n : Nat} {u : Wd} (hu : u.length = n) (hz : ¬ has0 u = true) {r : Rf} (hr : okR n r) : refN u r ≠ 0 := by
  unfold refN
  split
  · exact (kOf_ne _).1
  · rename_i h
    rcases hr with hr | hr
    · exact absurd hr.1 h
    · exact no0 hz (i := r.1.toNat) (by have h5 := hr.1; have h6 := hr.2.1; omega)
theorem no0_doC {n : Nat} {u : Wd} (hu : okW n u) (hz : ¬ has0 u = true) {c : Cd} (hc : okC n c) : ¬ has0 (doC u c) = true := by
  intro h
  obtain ⟨i, hi, h1⟩ := has0_iff.1 h
  rw [doC, List.length_set] at hi
  rw [doC, wAt_set] at h1
  split at h1
  · split at h1
    · exact absurd h1 (by decide)
    · rename_i hne
      rw [u64_of (kOp_lt _ _ _)] at h1
      rcases hc.2.2 with h2 | h2
      · exact hne h2.1
      · exact kOp_ne0 (refN_is hu _) (refN_is hu _) (refN_ne0 hu.1 hz h2.2.2.1) (refN_ne0 hu.1 hz h2.2.2.2) h1
  · exact no0 hz hi h1
theorem no0_doL {n : Nat} : ∀ (l : List Cd) {u : Wd}, okW n u → ¬ has0 u = true → okL n l → ¬ has0 (doL u l) = true
  | [], _, _, hz, _ => hz
  | c :: r, _, hu, hz, hl => no0_doL r (doC_ok hu c) (no0_doC hu hz (hl c List.mem_cons_self)) (fun c hc => hl c (List.mem_cons_of_mem _ hc))
theorem aon_app {n : Nat} {u : Wd} (hu : okW n u) {l : List Cd} (hl : okL n l) : AON (vApp l u) := by
  unfold vApp
  split
  · exact aon_bot _
  · rename_i h
    exact aon_no (no0_doL l hu h hl)
theorem aon_start (p : Prog) (v : Nat) : AON (vStart (sysOf p) v) := by
  unfold vStart
  split
  · refine aon_no fun h => ?_
    obtain ⟨i, hi, h1⟩ := has0_iff.1 h
    have hi : i < (List.replicate (varsOf p).length two64).length := hi
    have h1 : wAt (List.replicate (varsOf p).length two64) i = 0 := h1
    rw [List.length_replicate] at hi
    rw [wAt, List.getElem?_replicate, if_pos hi] at h1
    exact absurd h1 (by decide)
  · exact aon_bot _
def AonA (s : Sy3) (A : List Wd) : Prop := ∀ v < s.m, AON (aAt A v)
theorem aon_fold {p : Prog} (he : checkE p = 0) {A : List Wd} (hA : OkA (sysOf p) A) {v : Nat} : ∀ (l : List Edg) {x : Wd}, (∀ e ∈ l, 0 ≤ e.1 ∧ e.1 < ((sysOf p).m : Nat)) → okW (sysOf p).w x → AON x → AON (l.foldl (joinE (sysOf p) A v) x)
  | [], _, _, _, h => h
  | e :: r, x, hl, hx, h => by
    have h1 := hl e List.mem_cons_self
    refine aon_fold he hA r (x := joinE (sysOf p) A v x e) (fun e he => hl e (List.mem_cons_of_mem _ he)) (joinE_ok1 hA h1 hx) ?_
    unfold joinE
    split
    · exact aon_join hx (appE_ok hA h1) h (aon_app (aAt_ok hA (by omega)) (tAt_ok (sysOf_ok he) _))
    · exact h
theorem aon_step {p : Prog} (he : checkE p = 0) {A : List Wd} (hA : OkA (sysOf p) A) : AonA (sysOf p) (stepS (sysOf p) A) := fun v hv => by
  have ho := sysOf_ok he
  rw [step_at ho hv]
  exact aon_fold he hA _ (fun e he => (ho.En e he).1) (vStart_ok ho v) (aon_start p v)
/-- So many Steps. -/
def itN (s : Sy3) : Nat → List Wd → List Wd
  | 0, A => A
  | k + 1, A => itN s k (stepS s A)
theorem itN_fix {s : Sy3} {A : List Wd} (h : stepS s A = A) : ∀ k, itN s k A = A
  | 0 => rfl
  | k + 1 => by rw [itN, h]; exact itN_fix h k
theorem iterN_itN {s : Sy3} : ∀ (k : Nat) (A : List Wd), iterN s k A = itN s k A
  | 0, _ => rfl
  | k + 1, A => by
    rw [iterN, itN]
    split
    · rename_i h
      rw [← h, itN_fix h.symm]
    · exact iterN_itN k _
theorem itN_add (s : Sy3) : ∀ (j k : Nat) (A : List Wd), itN s (j + k) A = itN s k (itN s j A)
  | 0, k, A => by rw [Nat.zero_add]; rfl
  | j + 1, k, A => by rw [show j + 1 + k = (j + k) + 1 by omega, itN, itN_add s j k, itN]
theorem itN_solve {s : Sy3} (ho : OkS s) {k : Nat} (h : enoughS s ≤ k) : itN s k (bots s) = solveS s := by
  rw [show k = enoughS s + (k - enoughS s) by omega, itN_add, ← iterN_itN (enoughS s)]
  exact itN_fix (solve_fix ho) _
def rA (p q : Prog) (A : List Wd) : List Wd := A.map (rest p q)
theorem rA_at {p q : Prog} {A : List Wd} {v : Nat} (h : v < A.length) : aAt (rA p q A) v = rest p q (aAt A v) := by
  rw [aAt, aAt, rA, List.getElem?_map, List.getElem?_eq_getElem h]; rfl
theorem rA_ok {p : Prog} {A : List Wd} (hA : OkA (sysOf p) A) : OkA (sysOf (foldP p)) (rA p (foldP p) A) := by
  refine ⟨by rw [rA, List.length_map, hA.len]; exact (foldP_len p).symm, fun x hx => ?_⟩
  obtain ⟨y, hy, rfl⟩ := List.mem_map.1 hx
  exact rest_ok (hA.ok y hy)
theorem fold_edges (p : Prog) : edgesOf (foldP p) = edgesOf p := by
  have hN : ∀ (i : Nat) (t : Bs8), eN (foldP p) i t = eN p i t := fun i t => by unfold eN; rw [foldP_names]
  have h : ∀ (l m : List Block) (i : Nat), l.length = m.length → (∀ (j : Nat) (a b : Block), l[j]? = some a → m[j]? = some b → a.2.2.1 = b.2.2.1 ∧ a.2.2.2.2 = b.2.2.2.2) → eAll (foldP p) l i = eAll p m i := by
    intro l
    induction l with
    | nil => intro m i hl _; cases m with
      | nil => rfl
      | cons b m => cases hl
    | cons a l ih =>
      intro m i hl h1
      cases m with
      | nil => cases hl
      | cons b m =>
        have h2 := h1 0 a b rfl rfl
        rw [eAll, eAll, ih m (i + 1) (by simpa using hl) (fun j a b => h1 (j + 1) a b), eB, eB, h2.1, h2.2, hN, hN]
  refine h (foldP p) p 0 (foldP_len p) fun j a b ha hb => ?_
  rw [foldP_get hb] at ha
  rw [← Option.some.inj ha]
  exact (foldB_parts p j b).2
theorem rest_no0 {p q : Prog} (hs : ∀ t ∈ varsOf q, t ∈ varsOf p) {u : Wd} (hu : u.length = (varsOf p).length) (hz : ¬ has0 u = true) : ¬ has0 (rest p q u) = true := fun h => by
  obtain ⟨i, hi, h1⟩ := has0_iff.1 h
  rw [rest_len] at hi
  rw [rest_at hi] at h1
  have hv := vIdx_mem (hs _ (List.getElem_mem hi))
  exact no0 hz (by omega) h1
theorem doL_app (v : Wd) (l m : List Cd) : doL v (l ++ m) = doL (doL v l) m := by rw [doL, List.foldl_append]; rfl
theorem known_no0 {p : Prog} {i : Nat} {b : Block} {k : Nat} (h : ¬ has0 (aAt (solveS (sysOf p)) i) = true) : knownAt p i b k = doL (aAt (solveS (sysOf p)) i) (codesOf p (b.2.1.take k)) := by rw [knownAt, vApp, if_neg h]
theorem foldB_no0 {p : Prog} {i : Nat} {b : Block} (h : ¬ has0 (aAt (solveS (sysOf p)) i) = true) : foldB p i b = (b.1, foldL p i b, foldT p i b) := by rw [foldB, if_neg (by rw [nev]; exact h)]
/-- Along a block's statements. -/
theorem lock_pre {p : Prog} (he : checkE p = 0) {i : Nat} {b : Block} (hb : p[i]? = some b) {u : Wd} (hu : okW (varsOf p).length u) (hle : vLe u (aAt (solveS (sysOf p)) i)) (hz : ¬ has0 u = true) :
    ∀ k, k ≤ b.2.1.length → doL (rest p (foldP p) u) (codesOf (foldP p) ((foldL p i b).take k)) = rest p (foldP p) (doL u (codesOf p (b.2.1.take k)))
  | 0, _ => rfl
  | k + 1, hk => by
    have hf := check_facts he
    have hm := List.mem_of_getElem? hb
    have hlt : i < p.length := (List.getElem?_eq_some_iff.1 hb).1
    have ih := lock_pre he hb hu hle hz k (by omega)
    have hx : b.2.1[k]? = some b.2.1[k] := List.getElem?_eq_getElem (by omega)
    have hxm := List.getElem_mem (show k < b.2.1.length by omega)
    have hst := block_stmts (hf.2.2.2 b hm)
    have hkz : ¬ has0 (aAt (solveS (sysOf p)) i) = true := fun h => by
      obtain ⟨j, hj, h1⟩ := has0_iff.1 h
      have h2 := hle.2 j
      rw [h1] at h2
      exact no0 hz (i := j) (by rw [hle.1]; exact hj) (by unfold kLe at h2; omega)
    have hL : (foldL p i b)[k]? = some (foldS p (knownAt p i b k) b.2.1[k]) := by rw [foldL, List.getElem?_mapIdx, hx]; rfl
    have hcl : okL (varsOf p).length (codesOf p (b.2.1.take k)) := codesOf_ok fun s hs => hst s (List.mem_of_mem_take hs)
    have hkw : okW (varsOf p).length (aAt (solveS (sysOf p)) i) := aAt_ok (solveS_ok (sysOf_ok he)) hlt
    rw [codesOf_take hx, codesOf_take hL, doL_app, doL_app, ih]
    have hqm : (b.1, foldL p i b, foldT p i b) ∈ foldP p := by rw [← foldB_no0 hkz]; exact List.mem_of_getElem? (foldP_get hb)
    refine rest_code vars_fold (doL_ok _ hu).1 ?_ (no0_doL _ hu hz hcl) (hst _ hxm) (fun t ht h0 => ((vars_has p nil_sorted).1 b hm).1 _ hxm t ht h0) (fun t ht h0 => ((vars_has (foldP p) nil_sorted).1 _ hqm).1 _ (List.mem_of_getElem? hL) t ht h0)
    rw [known_no0 hkz]
    exact doL_mono _ hu hkw hle
theorem lock_app {p : Prog} (he : checkE p = 0) {A : List Wd} (hA : OkA (sysOf p) A) (hn : AonA (sysOf p) A) (hle : aLe (sysOf p) A (solveS (sysOf p))) {e : Edg} (h1 : 0 ≤ e.1 ∧ e.1 < (p.length : Nat)) :
    appE (sysOf (foldP p)) (rA p (foldP p) A) e = rest p (foldP p) (appE (sysOf p) A e) := by
  have hlt : e.1.toNat < p.length := by omega
  have hb : p[e.1.toNat]? = some p[e.1.toNat] := List.getElem?_eq_getElem hlt
  have hAl : e.1.toNat < A.length := by rw [hA.len]; exact hlt
  have hu : okW (varsOf p).length (aAt A e.1.toNat) := aAt_ok hA hlt
  rw [appE, appE, sys_t hb, sys_t (foldP_get hb), rA_at hAl]
  by_cases hz : has0 (aAt A e.1.toNat) = true
  · have h0 := hn _ hlt hz
    have e1 : vApp (codesOf p p[e.1.toNat].2.1) (aAt A e.1.toNat) = vBot (varsOf p).length := by rw [vApp, if_pos hz, hu.1]
    rw [e1, rest_bot]
    by_cases hq : (varsOf (foldP p)).length = 0
    · refine wd_ext ?_ fun i hi => ?_
      · rw [(vApp_ok (rest_ok hu) _).1, vBot, List.length_replicate]
      · rw [(vApp_ok (rest_ok hu) _).1] at hi; omega
    · have h2 : has0 (rest p (foldP p) (aAt A e.1.toNat)) = true := has0_iff.2 ⟨0, by rw [rest_len]; omega, by rw [rest_at (show 0 < (varsOf (foldP p)).length by omega)]; exact h0 _⟩
      rw [vApp, if_pos h2, rest_len]
  · have hz2 := rest_no0 vars_fold hu.1 hz
    have hkz : ¬ has0 (aAt (solveS (sysOf p)) e.1.toNat) = true := fun h => by
      obtain ⟨j, hj, h1⟩ := has0_iff.1 h
      have h2 := (hle _ hlt).2 j
      rw [h1] at h2
      exact no0 hz (i := j) (by rw [(hle _ hlt).1]; exact hj) (by unfold kLe at h2; omega)
    rw [vApp, if_neg hz2, vApp, if_neg hz, foldB_no0 hkz]
    have h3 := lock_pre he hb hu (hle _ hlt) hz p[e.1.toNat].2.1.length (Nat.le_refl _)
    rw [List.take_length, List.take_of_length_le (by rw [foldL_len]; exact Nat.le_refl _)] at h3
    exact h3
theorem lock_fold {p : Prog} (he : checkE p = 0) {A : List Wd} (hA : OkA (sysOf p) A) (hn : AonA (sysOf p) A) (hle : aLe (sysOf p) A (solveS (sysOf p))) {v : Nat} : ∀ (l : List Edg) {x : Wd}, (∀ e ∈ l, 0 ≤ e.1 ∧ e.1 < (p.length : Nat)) → okW (varsOf p).length x →
    l.foldl (joinE (sysOf (foldP p)) (rA p (foldP p) A) v) (rest p (foldP p) x) = rest p (foldP p) (l.foldl (joinE (sysOf p) A v) x)
  | [], _, _, _ => rfl
  | e :: r, x, hl, hx => by
    have h1 := hl e List.mem_cons_self
    have h2 : joinE (sysOf (foldP p)) (rA p (foldP p) A) v (rest p (foldP p) x) e = rest p (foldP p) (joinE (sysOf p) A v x e) := by
      unfold joinE
      split
      · rw [lock_app he hA hn hle h1, rest_join]
        rw [hx.1]; exact (appE_ok hA h1).1.symm
      · rfl
    rw [List.foldl_cons, List.foldl_cons, h2]
    exact lock_fold he hA hn hle r (fun e he => hl e (List.mem_cons_of_mem _ he)) (joinE_ok1 hA h1 hx)
theorem rest_start {p : Prog} (v : Nat) : rest p (foldP p) (vStart (sysOf p) v) = vStart (sysOf (foldP p)) v := by
  unfold vStart
  by_cases hv : (v : Int) ∈ [(0 : Int)]
  · rw [if_pos (show (v : Int) ∈ (sysOf p).ent from hv), if_pos (show (v : Int) ∈ (sysOf (foldP p)).ent from hv)]
    show rest p (foldP p) (List.replicate (varsOf p).length two64) = List.replicate (varsOf (foldP p)).length two64
    refine wd_ext (by rw [rest_len, List.length_replicate]) fun i hi => ?_
    rw [rest_len] at hi
    have hm := vIdx_mem (vars_fold _ (List.getElem_mem hi))
    rw [rest_at hi, wAt, wAt, List.getElem?_replicate, List.getElem?_replicate, if_pos (by omega), if_pos hi]
  · rw [if_neg (show ¬ (v : Int) ∈ (sysOf p).ent from hv), if_neg (show ¬ (v : Int) ∈ (sysOf (foldP p)).ent from hv)]
    exact rest_bot _ _
theorem lock_step {p : Prog} (he : checkE p = 0) {A : List Wd} (hA : OkA (sysOf p) A) (hn : AonA (sysOf p) A) (hle : aLe (sysOf p) A (solveS (sysOf p))) : stepS (sysOf (foldP p)) (rA p (foldP p) A) = rA p (foldP p) (stepS (sysOf p) A) := by
  have ho := sysOf_ok he
  have hq := sysOf_ok (fold_check he)
  have h1 := stepS_ok hq (rA_ok hA)
  have h2 := stepS_ok ho hA
  have h3 := rA_ok h2
  have hm : (sysOf (foldP p)).m = p.length := foldP_len p
  refine list_eq_take (by rw [h1.len, h3.len]) fun v hv => ?_
  rw [h1.len, hm] at hv
  rw [aAt_get h1 (by rw [hm]; exact hv), aAt_get h3 (by rw [hm]; exact hv), step_at hq (by rw [hm]; exact hv), rA_at (by rw [h2.len]; exact hv), step_at ho hv, ← rest_start]
  have hE : (sysOf (foldP p)).E = (sysOf p).E := by show gSort (edgesOf (foldP p)) = gSort (edgesOf p); rw [fold_edges]
  rw [hE, lock_fold he hA hn hle _ (fun e he => (ho.En e he).1) (vStart_ok ho v)]
theorem lock_it {p : Prog} (he : checkE p = 0) : ∀ (k : Nat) {A : List Wd}, OkA (sysOf p) A → AonA (sysOf p) A → aLe (sysOf p) A (solveS (sysOf p)) → itN (sysOf (foldP p)) k (rA p (foldP p) A) = rA p (foldP p) (itN (sysOf p) k A)
  | 0, _, _, _, _ => rfl
  | k + 1, A, hA, hn, hle => by
    have ho := sysOf_ok he
    have h1 := step_mono ho hA (solveS_ok ho) hle
    rw [solve_fix ho] at h1
    rw [itN, itN, lock_step he hA hn hle]
    exact lock_it he k (stepS_ok ho hA) (aon_step he hA) h1
/-- What is known of the one is what is known of the other, of what is left. -/
theorem lock_solve {p : Prog} (he : checkE p = 0) : solveS (sysOf (foldP p)) = rA p (foldP p) (solveS (sysOf p)) := by
  have ho := sysOf_ok he
  have hq := sysOf_ok (fold_check he)
  have h1 := lock_it he (max (enoughS (sysOf p)) (enoughS (sysOf (foldP p)))) (bots_ok (sysOf p)) (fun v hv => by
    have e : aAt (bots (sysOf p)) v = vBot (sysOf p).w := by rw [aAt, bots, List.getElem?_replicate, if_pos hv]; rfl
    rw [e]; exact aon_bot _) (aLe_bots (solveS_ok ho))
  have e : rA p (foldP p) (bots (sysOf p)) = bots (sysOf (foldP p)) := by
    show (List.replicate p.length (vBot (varsOf p).length)).map (rest p (foldP p)) = List.replicate (foldP p).length (vBot (varsOf (foldP p)).length)
    rw [List.map_replicate, rest_bot, foldP_len]
  rw [e, itN_solve hq (Nat.le_max_right _ _), itN_solve ho (Nat.le_max_left _ _)] at h1
  exact h1
theorem solve_aon {p : Prog} (he : checkE p = 0) : AonA (sysOf p) (solveS (sysOf p)) := by
  have ho := sysOf_ok he
  rw [← solve_fix ho]
  exact aon_step he (solveS_ok ho)
end Go.Proofs
end
section
namespace Go.Proofs
open Go.Sy
set_option maxRecDepth 20000
set_option maxHeartbeats 4000000
/-! FoldRuns: the law. What was folded stays. -/
theorem foldA_idem {p : Prog} {kn : Wd} (hk : kn.length = (varsOf p).length) {a : Atm} (ha : a.1.l ≠ [] → a.1.l ∈ varsOf p) (hm : (foldA p kn a).1.l ≠ [] → (foldA p kn a).1.l ∈ varsOf (foldP p)) :
    foldA (foldP p) (rest p (foldP p) kn) (foldA p kn a) = foldA p kn a := by
  by_cases h0 : (foldA p kn a).1.l = []
  · exact foldA_nil h0
  · have hv := hm h0
    have h1 := foldA_var (kn := rest p (foldP p) kn) hv (rest_len _ _ _)
    by_cases ha0 : a.1.l = []
    · rw [foldA_nil ha0] at h0; exact absurd ha0 h0
    · have h2 := foldA_var (ha ha0) hk
      rw [rest_idx hv] at h1
      cases hn : kNum (wAt kn (vIdx p a.1.l).toNat) with
      | some n =>
        have h2 : foldA p kn a = (⟨[]⟩, n) := by rw [hn] at h2; exact h2
        rw [h2] at h0
        exact absurd rfl h0
      | none =>
        have h2 : foldA p kn a = a := by rw [hn] at h2; exact h2
        rw [h2] at h1 ⊢
        rw [hn] at h1
        exact h1
theorem foldE_num {q : Prog} {kn : Wd} {n : Nm} (h : nOf n = n) : foldE q kn (0, nAtm n, za) = (0, nAtm n, za) := by
  rcases foldE_cases (p := q) (kn := kn) (x := (0, nAtm n, za)) (exprB_one (.inl rfl) (atmB_nAtm h)) with ⟨_, _, h3⟩ | ⟨ho, _⟩
  · have e : foldA q kn (nAtm n) = nAtm n := foldA_nil rfl
    rcases h3 with ⟨_, e2⟩ | ⟨hy, _⟩
    · rw [e2]
      dsimp only
      rw [e, nOp_zero, h]
    · dsimp only at hy
      rw [e] at hy
      exact absurd rfl hy
  · dsimp only at ho; omega
theorem foldE_idem {p : Prog} {kn : Wd} (hk : kn.length = (varsOf p).length) {x : Expr} (hx : exprB x = true) (hA : ∀ a ∈ [x.2.1, x.2.2], a.1.l ≠ [] → a.1.l ∈ varsOf p)
    (hm : ∀ a ∈ [(foldE p kn x).2.1, (foldE p kn x).2.2], a.1.l ≠ [] → a.1.l ∈ varsOf (foldP p)) : foldE (foldP p) (rest p (foldP p) kn) (foldE p kn x) = foldE p kn x := by
  have hx2 := exprB_fold (p := p) (kn := kn) hx
  rcases foldE_cases (p := p) (kn := kn) hx with ⟨ho, hb, h⟩ | ⟨ho, h⟩
  · rcases h with ⟨hy, e⟩ | ⟨hy, e⟩
    · rw [e]; exact foldE_num (nOp_nOf _ _ _)
    · rw [e] at hm hx2 ⊢
      have h1 := foldA_idem hk (hA x.2.1 (by simp)) (hm _ (by simp))
      rcases foldE_cases (p := foldP p) (kn := rest p (foldP p) kn) hx2 with ⟨_, _, h3⟩ | ⟨ho2, _⟩
      · dsimp only at h3
        rw [h1] at h3
        rcases h3 with ⟨hy2, _⟩ | ⟨_, e2⟩
        · exact absurd hy2 hy
        · exact e2
      · dsimp only at ho2; omega
  · rcases h with ⟨hy, hy2, e⟩ | ⟨hy, e⟩
    · rw [e]; exact foldE_num (nOp_nOf _ _ _)
    · rw [e] at hm hx2 ⊢
      have h1 := foldA_idem hk (hA x.2.1 (by simp)) (hm _ (by simp))
      have h2 := foldA_idem hk (hA x.2.2 (by simp)) (hm _ (by simp))
      rcases foldE_cases (p := foldP p) (kn := rest p (foldP p) kn) hx2 with ⟨ho2, _, _⟩ | ⟨_, h3⟩
      · dsimp only at ho2; omega
      · dsimp only at h3
        rw [h1, h2] at h3
        rcases h3 with ⟨g1, g2, _⟩ | ⟨_, e2⟩
        · exact absurd ⟨g1, g2⟩ hy
        · exact e2
theorem foldS_idem {p : Prog} {kn : Wd} (hk : kn.length = (varsOf p).length) {x : Stmt} (hx : stmtB x = true) (hp : ∀ t ∈ sVars x, t ≠ [] → t ∈ varsOf p) (hm : ∀ t ∈ sVars (foldS p kn x), t ≠ [] → t ∈ varsOf (foldP p)) :
    foldS (foldP p) (rest p (foldP p) kn) (foldS p kn x) = foldS p kn x := by
  by_cases h1 : x.1 = 1 ∨ x.1 = 3
  · have hf : foldS p kn x = (x.1, x.2.1, foldE p kn x.2.2) := by rw [foldS, if_pos h1]
    rw [hf] at hm ⊢
    rw [foldS, if_pos h1]
    dsimp only
    rw [foldE_idem hk (stmtB_expr hx h1) (fun a ha => hp _ (by simp at ha ⊢; rcases ha with rfl | rfl <;> simp)) (fun a ha => hm _ (by simp at ha ⊢; rcases ha with rfl | rfl <;> simp))]
  · have hf : foldS p kn x = x := by rw [foldS, if_neg h1]
    rw [hf, foldS, if_neg h1]
/-- A statement without variables. -/
theorem foldS_plain {q : Prog} {kn : Wd} {x : Stmt} (hx : stmtB x = true) (h0 : ∀ t ∈ sVars x, t = []) : foldS q kn x = x := by
  rcases stmtB_var hx with ⟨h1, _, _, h4⟩ | ⟨h1, h4⟩ | ⟨h1, h4⟩
  · exact absurd (h0 _ (by simp)) h4
  · exact absurd (h0 _ (by simp)) h4
  · have hE := stmtB_expr hx (.inr h1)
    have hA : x.2.2.2.1.1.l = [] := h0 _ (by simp)
    rw [stmtB, if_neg (by omega), if_neg (by omega), if_pos h1, Bool.and_eq_true, Bool.and_eq_true] at hx
    have hop : x.2.2.1 = 0 := dt hx.1.2
    have ha := (exprB_atms hE).1
    rw [atmB, if_pos hA] at ha
    have hn : x.2.2.2.1.2 = nOf x.2.2.2.1.2 := dt ha
    have hb : x.2.2.2.2 = za := by
      rcases foldE_cases (p := q) (kn := kn) hE with ⟨_, hb, _⟩ | ⟨ho, _⟩
      · exact hb
      · omega
    have e : x.2.2 = (0, nAtm x.2.2.2.1.2, za) := by
      rw [← hb, ← hop, ← atm_nil hA]
    rw [foldS, if_pos (.inr h1)]
    have e2 : foldE q kn x.2.2 = x.2.2 := by rw [e]; exact foldE_num hn.symm
    rw [e2]
theorem fold_idem {p : Prog} (he : checkE p = 0) : foldP (foldP p) = foldP p := by
  have hf := check_facts he
  have ho := sysOf_ok he
  have hA := solveS_ok ho
  apply List.ext_getElem?
  intro i
  cases hb : p[i]? with
  | none =>
    have hl := List.getElem?_eq_none_iff.1 hb
    rw [List.getElem?_eq_none (by rw [foldP_len, foldP_len]; exact hl), List.getElem?_eq_none (by rw [foldP_len]; exact hl)]
  | some b =>
    have hlt : i < p.length := (List.getElem?_eq_some_iff.1 hb).1
    have hm := List.mem_of_getElem? hb
    have hbB := hf.2.2.2 b hm
    have hst := block_stmts hbB
    have hq := foldP_get hb
    rw [foldP_get hq, hq]
    refine congrArg some ?_
    have hk : aAt (solveS (sysOf (foldP p))) i = rest p (foldP p) (aAt (solveS (sysOf p)) i) := by rw [lock_solve he, rA_at (by rw [hA.len]; exact hlt)]
    have hu : okW (varsOf p).length (aAt (solveS (sysOf p)) i) := aAt_ok hA hlt
    have hqm := List.mem_of_getElem? hq
    have hvq := (vars_has (foldP p) nil_sorted).1 _ hqm
    by_cases hn : nev (foldP p) i = true
    · rw [foldB, if_pos hn]
    · rw [foldB, if_neg hn]
      have hn2 : ¬ has0 (rest p (foldP p) (aAt (solveS (sysOf p)) i)) = true := by rw [nev, hk] at hn; exact hn
      by_cases hz : has0 (aAt (solveS (sysOf p)) i) = true
      · have h0 := solve_aon he i hlt hz
        have hq0 : (varsOf (foldP p)).length = 0 := Nat.eq_zero_of_not_pos fun hpos => hn2 (has0_iff.2 ⟨0, by rw [rest_len]; exact hpos, by rw [rest_at hpos]; exact h0 _⟩)
        have hnil : varsOf (foldP p) = [] := List.eq_nil_of_length_eq_zero hq0
        have hfb : foldB p i b = b := by rw [foldB, if_pos (by rw [nev]; exact hz)]
        rw [hfb] at hvq ⊢
        have hno : ∀ t : Bs8, (t ≠ [] → t ∈ varsOf (foldP p)) → t = [] := fun t h => by
          by_cases ht : t = []
          · exact ht
          · have := h ht
            rw [hnil] at this
            cases this
        have hL : foldL (foldP p) i b = b.2.1 := by
          apply List.ext_getElem?
          intro k
          rw [foldL, List.getElem?_mapIdx]
          cases hx : b.2.1[k]? with
          | none => rfl
          | some x =>
            rw [Option.map_some]
            refine congrArg some (foldS_plain (hst x (List.mem_of_getElem? hx)) fun t ht => hno t fun h => hvq.1 x (List.mem_of_getElem? hx) t ht h)
        have hT : foldT (foldP p) i b = b.2.2 := by
          rw [foldT]
          split
          · rw [foldA_nil (hno _ fun h => hvq.2 h)]
          · rfl
        rw [hL, hT]
      · have hfb := foldB_no0 (b := b) hz
        rw [hfb] at hvq ⊢
        have hkn : ∀ k, k ≤ b.2.1.length → knownAt (foldP p) i (b.1, foldL p i b, foldT p i b) k = rest p (foldP p) (knownAt p i b k) := fun k hk2 => by
          rw [knownAt, hk, vApp, if_neg hn2, known_no0 hz]
          exact lock_pre he hb hu (vLe_refl _) hz k hk2
        have hlen : ∀ k, (knownAt p i b k).length = (varsOf p).length := fun k => by
          rw [known_no0 hz]; exact (doL_ok _ hu).1
        have hvp := (vars_has p nil_sorted).1 b hm
        have hL : foldL (foldP p) i (b.1, foldL p i b, foldT p i b) = foldL p i b := by
          apply List.ext_getElem?
          intro k
          rw [foldL, List.getElem?_mapIdx]
          dsimp only
          cases hx : b.2.1[k]? with
          | none =>
            have := List.getElem?_eq_none_iff.1 hx
            rw [List.getElem?_eq_none (by rw [foldL_len]; exact this)]; rfl
          | some x =>
            have hkl := (List.getElem?_eq_some_iff.1 hx).1
            have hL0 : (foldL p i b)[k]? = some (foldS p (knownAt p i b k) x) := by rw [foldL, List.getElem?_mapIdx, hx]; rfl
            rw [hL0, Option.map_some, hkn k (by omega)]
            refine congrArg some (foldS_idem (hlen k) (hst x (List.mem_of_getElem? hx)) (fun t ht h => hvp.1 x (List.mem_of_getElem? hx) t ht h) (fun t ht h => hvq.1 _ (List.mem_of_getElem? hL0) t ht h))
        have hT : foldT (foldP p) i (b.1, foldL p i b, foldT p i b) = foldT p i b := by
          have h1 := foldT_parts p i b
          by_cases h2 : b.2.2.1 = 2
          · have e : foldT p i b = (b.2.2.1, foldA p (knownAt p i b b.2.1.length) b.2.2.2.1, b.2.2.2.2) := by rw [foldT, if_pos h2]
            rw [foldT]
            dsimp only
            rw [if_pos (by rw [h1.1]; exact h2), foldL_len, hkn _ (Nat.le_refl _)]
            rw [e] at hvq ⊢
            dsimp only
            rw [foldA_idem (hlen _) (fun h => hvp.2 h) (fun h => hvq.2 h)]
          · rw [foldT]
            dsimp only
            rw [if_neg (by rw [h1.1]; exact h2)]
        rw [hL, hT]
end Go.Proofs
end
section
namespace Go.Proofs
open Go.Sy
set_option maxRecDepth 20000
set_option maxHeartbeats 4000000
/-! FoldRuns: the law. Runs. -/
def restE (p q : Prog) (e : List Nm) : List Nm := (varsOf q).map fun t => e[(vIdx p t).toNat]?.getD (0, 0)
theorem restE_len (p q : Prog) (e : List Nm) : (restE p q e).length = (varsOf q).length := List.length_map _
theorem restE_at {p q : Prog} {e : List Nm} {j : Nat} (hj : j < (varsOf q).length) : (restE p q e)[j]? = some (e[(vIdx p (varsOf q)[j]).toNat]?.getD (0, 0)) := by
  rw [restE, List.getElem?_map, List.getElem?_eq_getElem hj]; rfl
theorem restE_idx {p q : Prog} {e : List Nm} {t : Bs8} (h : t ∈ varsOf q) : (restE p q e)[(vIdx q t).toNat]? = some (e[(vIdx p t).toNat]?.getD (0, 0)) := by
  obtain ⟨j, h1, h2, h3⟩ := vIdx_get h
  rw [h1, Int.toNat_natCast, restE_at h2]
  have e2 : (varsOf q)[j] = t := by rw [List.getElem?_eq_getElem h2] at h3; exact Option.some.inj h3
  rw [e2]
theorem restE_set {p q : Prog} (hs : ∀ t ∈ varsOf q, t ∈ varsOf p) {e : List Nm} (he : e.length = (varsOf p).length) {t : Bs8} (ht : t ∈ varsOf q) (n : Nm) : restE p q (setAt p e t n) = setAt q (restE p q e) t n := by
  apply List.ext_getElem?
  intro i
  by_cases hi : i < (varsOf q).length
  · have hm : (varsOf q)[i] ∈ varsOf q := List.getElem_mem hi
    obtain ⟨j1, e1, l1, _⟩ := vIdx_get (hs t ht)
    obtain ⟨j2, e2, l2, g2⟩ := vIdx_get ht
    obtain ⟨j3, e3, l3, _⟩ := vIdx_get (hs _ hm)
    have hj := vIdx_at hi
    rw [restE_at hi, setAt, setAt, List.getElem?_set, List.getElem?_set, restE_at hi, restE_len, he]
    by_cases h : t = (varsOf q)[i]
    · rw [← h] at hj e3
      rw [← h, if_pos rfl, if_pos (by omega), if_pos (by omega), if_pos (by omega)]; rfl
    · have n1 : ¬ (vIdx p t).toNat = (vIdx p (varsOf q)[i]).toNat := fun e => h (vIdx_inj (hs t ht) (hs _ hm) (by omega))
      have n2 : ¬ (vIdx q t).toNat = i := fun e => h (vIdx_inj ht hm (by omega))
      rw [if_neg n1, if_neg n2]
  · rw [List.getElem?_eq_none (by rw [restE_len]; omega), List.getElem?_eq_none (by rw [setAt, List.length_set, restE_len]; omega)]
theorem fold_val {p q : Prog} {kn : Wd} {e : List Nm} (hk : kn.length = (varsOf p).length) (hab : absV kn e) {a : Atm} (ha : a.1.l ≠ [] → a.1.l ∈ varsOf p) (hm : (foldA p kn a).1.l ≠ [] → (foldA p kn a).1.l ∈ varsOf q) :
    valA q (restE p q e) (foldA p kn a) = valA p e a := by
  by_cases h0 : a.1.l = []
  · rw [foldA_nil h0, valA, valA, if_pos h0, if_pos h0]
  · have h1 := ha h0
    have h2 := vIdx_mem h1
    have hf := foldA_var h1 (kn := kn) hk
    have hlt : (vIdx p a.1.l).toNat < e.length := by rw [← hab.1, hk]; omega
    have hg := List.getElem?_eq_getElem hlt
    have eR : valA p e a = e[(vIdx p a.1.l).toNat] := by rw [valA, if_neg h0, if_pos h2.1, hg]; rfl
    rw [eR]
    cases hn : kNum (wAt kn (vIdx p a.1.l).toNat) with
    | some n =>
      have hf : foldA p kn a = (⟨[]⟩, n) := by rw [hn] at hf; exact hf
      rw [hf, valA, if_pos rfl]
      have h3 := (hab.2 _ _ hg).2 n hn
      rw [← h3]
      exact kNum_n hn
    | none =>
      have hf : foldA p kn a = a := by rw [hn] at hf; exact hf
      rw [hf] at hm ⊢
      have h3 := hm h0
      have h4 := vIdx_mem h3
      rw [valA, if_neg h0, if_pos h4.1, restE_idx h3, hg]; rfl
theorem val_nAtm {q : Prog} {e : List Nm} (n : Nm) : valA q e (nAtm n) = nOf n := by rw [valA, if_pos rfl]
theorem fold_eval {p q : Prog} {kn : Wd} {e : List Nm} (hk : kn.length = (varsOf p).length) (hab : absV kn e) {x : Expr} (hx : exprB x = true) (hA : ∀ a ∈ [x.2.1, x.2.2], a.1.l ≠ [] → a.1.l ∈ varsOf p)
    (hm : ∀ a ∈ [(foldE p kn x).2.1, (foldE p kn x).2.2], a.1.l ≠ [] → a.1.l ∈ varsOf q) :
    nOp (foldE p kn x).1 (valA q (restE p q e) (foldE p kn x).2.1) (valA q (restE p q e) (foldE p kn x).2.2) = nOp x.1 (valA p e x.2.1) (valA p e x.2.2) := by
  have hA1 := hA x.2.1 (by simp)
  have hA2 := hA x.2.2 (by simp)
  rcases foldE_cases (p := p) (kn := kn) hx with ⟨ho, hb, h⟩ | ⟨ho, h⟩
  · rcases h with ⟨hy, e1⟩ | ⟨hy, e1⟩
    · have h1 := fold_val (q := q) hk hab hA1 (fun hh => absurd hy hh)
      rw [atm_nil hy, val_nAtm] at h1
      rw [e1]
      dsimp only
      rw [val_nAtm, nOp_zero, nOp_nOf, nOp_nOf, ← h1, nOp_one ho _ (valA p e x.2.2) (nOf (0, 0)), nOp_in_of (by omega)]
    · rw [e1] at hm ⊢
      have h1 := fold_val (q := q) hk hab hA1 (hm _ (by simp))
      dsimp only
      rw [h1, hb, show za = nAtm (0, 0) from rfl, val_nAtm, val_nAtm]
  · rcases h with ⟨hy, hy2, e1⟩ | ⟨hy, e1⟩
    · have h1 := fold_val (q := q) hk hab hA1 (fun hh => absurd hy hh)
      have h2 := fold_val (q := q) hk hab hA2 (fun hh => absurd hy2 hh)
      rw [atm_nil hy, val_nAtm] at h1
      rw [atm_nil hy2, val_nAtm] at h2
      rw [e1]
      dsimp only
      rw [val_nAtm, nOp_zero, nOp_nOf, nOp_nOf, ← h1, ← h2, nOp_in_of (by omega)]
    · rw [e1] at hm ⊢
      have h1 := fold_val (q := q) hk hab hA1 (hm _ (by simp))
      have h2 := fold_val (q := q) hk hab hA2 (hm _ (by simp))
      dsimp only
      rw [h1, h2]
def restS (p q : Prog) (s : StE) : StE := (s.1, restE p q s.2.1, s.2.2)
theorem fold_do {p q : Prog} (hs : ∀ t ∈ varsOf q, t ∈ varsOf p) {inn : List Nm} {kn : Wd} {s : StE} (hk : kn.length = (varsOf p).length) (hab : absV kn s.2.1) {x : Stmt} (hx : stmtB x = true) (hp : ∀ t ∈ sVars x, t ≠ [] → t ∈ varsOf p) (hm : ∀ t ∈ sVars (foldS p kn x), t ≠ [] → t ∈ varsOf q) :
    doS q inn (restS p q s) (foldS p kn x) = restS p q (doS p inn s x) := by
  have hl : s.2.1.length = (varsOf p).length := by rw [← hab.1, hk]
  rcases stmtB_var hx with ⟨h1, h2, h3, h4⟩ | ⟨h1, h4⟩ | ⟨h1, h4⟩
  · have hf : foldS p kn x = (x.1, x.2.1, foldE p kn x.2.2) := by rw [foldS, if_pos (.inl h1)]
    rw [hf] at hm ⊢
    have hv : x.2.1.l ∈ varsOf q := hm _ (by simp) h4
    have hE := fold_eval (q := q) hk hab (stmtB_expr hx (.inl h1)) (fun a ha => hp _ (by simp at ha ⊢; rcases ha with rfl | rfl <;> simp)) (fun a ha => hm _ (by simp at ha ⊢; rcases ha with rfl | rfl <;> simp))
    rw [doS, doS, if_pos h1, if_pos h1]
    simp only [restS]
    rw [hE, restE_set hs hl hv]
  · have hf : foldS p kn x = x := by rw [foldS, if_neg (by omega)]
    rw [hf] at hm ⊢
    have hv : x.2.1.l ∈ varsOf q := hm _ (by simp) h4
    rw [doS, doS, if_neg (by omega), if_pos h1, if_neg (by omega), if_pos h1]
    simp only [restS]
    rw [restE_set hs hl hv]
  · have hf : foldS p kn x = (x.1, x.2.1, foldE p kn x.2.2) := by rw [foldS, if_pos (.inr h1)]
    rw [hf] at hm ⊢
    have hE := stmtB_expr hx (.inr h1)
    have hop : x.2.2.1 = 0 := by
      rw [stmtB, if_neg (by omega), if_neg (by omega), if_pos h1, Bool.and_eq_true, Bool.and_eq_true] at hx
      exact dt hx.1.2
    have hA1 : x.2.2.2.1.1.l ≠ [] → _ := hp x.2.2.2.1.1.l (by simp)
    have hval : valA q (restE p q s.2.1) (foldE p kn x.2.2).2.1 = valA p s.2.1 x.2.2.2.1 := by
      rcases foldE_cases (p := p) (kn := kn) hE with ⟨ho, hb, h⟩ | ⟨ho, h⟩
      · rcases h with ⟨hy, e1⟩ | ⟨hy, e1⟩
        · have h5 := fold_val (q := q) hk hab hA1 (fun hh => absurd hy hh)
          rw [atm_nil hy, val_nAtm] at h5
          rw [e1]
          dsimp only
          rw [val_nAtm, nOp_nOf, hop, nOp_zero, h5]
        · rw [e1] at hm ⊢
          exact fold_val (q := q) hk hab hA1 (hm _ (by simp))
      · omega
    rw [doS, doS, if_neg (by dsimp only; omega), if_neg (by dsimp only; omega), if_pos h1, if_neg (by omega), if_neg (by omega), if_pos h1]
    simp only [restS]
    rw [hval]
theorem doAll_snoc' (p : Prog) (inn : List Nm) (s : StE) {l : List Stmt} {k : Nat} {x : Stmt} (h : l[k]? = some x) : doAll p inn s (l.take (k + 1)) = doS p inn (doAll p inn s (l.take k)) x := by
  rw [doAll, List.take_add_one, h, Option.toList_some, List.foldl_append]; rfl
theorem fold_pre {p : Prog} (he : checkE p = 0) {inn : List Nm} {s : StE} (hok : okSt p s) {b : Block} (hb : p[s.1.toNat]? = some b) :
    ∀ k, k ≤ b.2.1.length → doAll (foldP p) inn (restS p (foldP p) s) ((foldL p s.1.toNat b).take k) = restS p (foldP p) (doAll p inn s (b.2.1.take k)) ∧ absV (knownAt p s.1.toNat b k) (doAll p inn s (b.2.1.take k)).2.1
  | 0, _ => by
    have hz := absV_has0 hok.2.2
    refine ⟨rfl, ?_⟩
    rw [known_no0 (by rw [hz]; decide)]
    exact hok.2.2
  | k + 1, hk => by
    have hf := check_facts he
    have hm := List.mem_of_getElem? hb
    have hlt : s.1.toNat < p.length := (List.getElem?_eq_some_iff.1 hb).1
    obtain ⟨ih, ih2⟩ := fold_pre he (inn := inn) hok hb k (by omega)
    have hx : b.2.1[k]? = some b.2.1[k] := List.getElem?_eq_getElem (by omega)
    have hxm := List.getElem_mem (show k < b.2.1.length by omega)
    have hst := block_stmts (hf.2.2.2 b hm)
    have hz : ¬ has0 (aAt (solveS (sysOf p)) s.1.toNat) = true := by rw [absV_has0 hok.2.2]; decide
    have hL : (foldL p s.1.toNat b)[k]? = some (foldS p (knownAt p s.1.toNat b k) b.2.1[k]) := by rw [foldL, List.getElem?_mapIdx, hx]; rfl
    have hqm : (b.1, foldL p s.1.toNat b, foldT p s.1.toNat b) ∈ foldP p := by rw [← foldB_no0 hz]; exact List.mem_of_getElem? (foldP_get hb)
    have hkw : okW (varsOf p).length (aAt (solveS (sysOf p)) s.1.toNat) := aAt_ok (solveS_ok (sysOf_ok he)) hlt
    have hkl : okW (varsOf p).length (knownAt p s.1.toNat b k) := by rw [known_no0 hz]; exact doL_ok _ hkw
    have hsn := doAll_snoc' p inn s hx
    refine ⟨?_, ?_⟩
    · rw [doAll_snoc' (foldP p) inn _ hL, ih, hsn]
      exact fold_do vars_fold hkl.1 ih2 (hst _ hxm) (fun t ht h0 => ((vars_has p nil_sorted).1 b hm).1 _ hxm t ht h0) (fun t ht h0 => ((vars_has (foldP p) nil_sorted).1 _ hqm).1 _ (List.mem_of_getElem? hL) t ht h0)
    · rw [hsn, known_no0 hz, codesOf_take hx, doL_app, ← known_no0 hz]
      exact absV_do hkl ih2 hm hxm (hst _ hxm)
theorem fold_round {p : Prog} (he : checkE p = 0) {inn : List Nm} {s : StE} (hok : okSt p s) : folS (foldP p) (runB (foldP p) inn (restS p (foldP p) s)) = (restS p (foldP p) (folS p (runB p inn s)).1, (folS p (runB p inn s)).2) := by
  have hf := check_facts he
  have h1 := hok.1
  have hlt : s.1.toNat < p.length := by omega
  obtain ⟨b, hb⟩ : ∃ b, p[s.1.toNat]? = some b := ⟨_, List.getElem?_eq_getElem hlt⟩
  have hm := List.mem_of_getElem? hb
  have hz : ¬ has0 (aAt (solveS (sysOf p)) s.1.toNat) = true := by rw [absV_has0 hok.2.2]; decide
  have hq := foldP_get hb
  rw [foldB_no0 hz] at hq
  have hqm := List.mem_of_getElem? hq
  obtain ⟨h2, h3⟩ := fold_pre he (inn := inn) hok hb b.2.1.length (Nat.le_refl _)
  rw [List.take_length] at h2 h3
  rw [List.take_of_length_le (by rw [foldL_len]; exact Nat.le_refl _)] at h2
  have er : runB p inn s = doAll p inn s b.2.1 := by rw [runB, blkN_get hb]
  have eq : runB (foldP p) inn (restS p (foldP p) s) = restS p (foldP p) (doAll p inn s b.2.1) := by
    rw [runB, show (restS p (foldP p) s).1 = s.1 from rfl, blkN_get hq]; exact h2
  have hd := doAll_blk p inn b.2.1 s
  rw [eq, er]
  generalize doAll p inn s b.2.1 = t at h3 hd ⊢
  have hkw : okW (varsOf p).length (aAt (solveS (sysOf p)) s.1.toNat) := aAt_ok (solveS_ok (sysOf_ok he)) hlt
  have hkl : (knownAt p s.1.toNat b b.2.1.length).length = (varsOf p).length := by rw [known_no0 hz]; exact (doL_ok _ hkw).1
  have ht1 : (restS p (foldP p) t).1 = s.1 := hd.1
  have hT := foldT_parts p s.1.toNat b
  unfold folS
  rw [ht1, hd.1, blkN_get hb, blkN_get hq]
  dsimp only
  rw [hT.1]
  split
  · rfl
  · have hg : goTo (foldP p) (restS p (foldP p) t) (foldT p s.1.toNat b) = goTo p t b.2.2 := by
      rw [goTo, goTo, hT.1, hT.2]
      by_cases h2 : b.2.2.1 = 2
      · have e : (foldT p s.1.toNat b).2.1 = foldA p (knownAt p s.1.toNat b b.2.1.length) b.2.2.2.1 := by rw [foldT, if_pos h2]
        have hv : valA (foldP p) (restS p (foldP p) t).2.1 (foldT p s.1.toNat b).2.1 = valA p t.2.1 b.2.2.2.1 := by
          have h5 := ((vars_has (foldP p) nil_sorted).1 _ hqm).2
          rw [e] at h5 ⊢
          exact fold_val hkl h3 (fun h => ((vars_has p nil_sorted).1 b hm).2 h) (fun h => h5 h)
        rw [hv]
      · rw [if_neg (fun h => h2 h.1), if_neg (fun h => h2 h.1)]
    rw [hg, bIdx, bIdx, foldP_names]
    rfl
theorem fold_start (p : Prog) (_he : checkE p = 0) : start0 (foldP p) = restS p (foldP p) (start0 p) := by
  have e : List.replicate (varsOf (foldP p)).length ((0, 0) : Nm) = restE p (foldP p) (List.replicate (varsOf p).length (0, 0)) := by
    apply List.ext_getElem?
    intro i
    by_cases hi : i < (varsOf (foldP p)).length
    · have hm := vIdx_mem (vars_fold _ (List.getElem_mem hi))
      rw [restE_at hi, List.getElem?_replicate, List.getElem?_replicate, if_pos hi, if_pos (by omega)]; rfl
    · rw [List.getElem?_eq_none (by rw [List.length_replicate]; omega), List.getElem?_eq_none (by rw [restE_len]; omega)]
  rw [start0, start0, restS]
  dsimp only
  rw [e]
/-- The one run is the other, of what is left. -/
theorem fold_it {p : Prog} (he : checkE p = 0) (inn : List Nm) : ∀ k, itS (foldP p) inn (start0 (foldP p)) k = ((itS p inn (start0 p) k).1.map (restS p (foldP p)), restS p (foldP p) (itS p inn (start0 p) k).2.1, (itS p inn (start0 p) k).2.2)
  | 0 => by rw [itS, itS, fold_start p he]; rfl
  | k + 1 => by
    have ih := fold_it he inn k
    have hok := (itS_inv (inn := inn) (okSt p) (okSt_start he) (fun _ hs hg => okSt_step he hs hg) k).2
    by_cases hg : (itS p inn (start0 p) k).2.2 = true
    · rw [itS_step hg, itS_step (by rw [ih]; exact hg), ih]
      dsimp only
      rw [fold_round he (hok hg), List.map_append]; rfl
    · have hg' : (itS p inn (start0 p) k).2.2 = false := by simpa using hg
      rw [itS_stop hg', itS_stop (by rw [ih]; exact hg')]
      exact ih
end Go.Proofs
end
section
namespace Go.Proofs
open Go.Sy
set_option maxRecDepth 20000
set_option maxHeartbeats 4000000
/-! proper.Clone with the rows of its blocks taken over. -/
abbrev stV (s : Stmt) : List Value := .int .i64 s.1 :: .string (bs s.2.1.l) :: .int .i64 s.2.2.1 :: (atmV s.2.2.2.1 ++ atmV s.2.2.2.2)
abbrev blkV (v : Value) (b : Block) : List Value := .string (bs b.1.l) :: v :: termV b.2.2
theorem stRows_of {H : Hp} {css : List (List Value)} {l : List Stmt} (h : RC (α := Stmt) H css l) : css = l.map stV := by
  apply List.ext_getElem?
  intro i
  rw [List.getElem?_map]
  have hl : css.length = l.length := h.1
  by_cases hi : i < l.length
  · have h1 : css[i]? = some (css[i]'(by omega)) := List.getElem?_eq_getElem _
    have h2 := List.getElem?_eq_getElem hi
    have h3 := (stmt_open (h.2 i _ _ h1 h2)).1
    rw [h1, h2, h3]; rfl
  · rw [List.getElem?_eq_none (by omega), List.getElem?_eq_none (by omega)]; rfl
theorem stRows_rc {H : Hp} {l : List Stmt} (h : ∀ s ∈ l, stmtR s) : RC (α := Stmt) H (l.map stV) l := by
  refine ⟨by simp, fun i cs x h1 h2 => ?_⟩
  rw [List.getElem?_map, h2] at h1
  cases h1
  exact stmt_mk (h x (List.mem_of_getElem? h2))
theorem newAt_k {P : Prop} {e : TypeId} {sz : Nat} {xs : List (List Value)} {H H2 : Hp} {x : Value} (h : NewAt e sz xs H x H2) (k : ∀ a n c, x = .slice a n c → P) : P := by
  rcases h with ⟨h1, _⟩ | ⟨g, cap, c, h1, _⟩
  · exact k _ _ _ h1
  · exact k _ _ _ h1
theorem cloneS2_spec {l : List Stmt} (hl : l.length ≤ 1000000) {a : Option Addr} {n c : Nat} {H : Hp} {K : Value → Hp → Prop} (ha : RL H a n c l) (hK : ∀ a1 n1 c1 H', LeN 65 9 (l.map stV) H (.slice a1 n1 c1) H' → (∀ s ∈ l, stmtR s) → K (.slice a1 n1 c1) H') : Does Tryz.prog 97 [.slice a n c] H K := by
  have hn := ha.n_eq
  have hR : ∀ s ∈ l, stmtR s := fun s hs => by
    obtain ⟨i, hi⟩ := List.getElem?_of_mem hs
    exact stmt_k ha hi fun _ _ _ h => h
  refine spec_of cx_ok cx_mix rfl Tryz.func97 Tryz.call97 Tryz.ntmps97 Tryz.results97 rfl rfl ?_
  refine ⟨fun h => ?_, fun h => ?_⟩
  · have hno : a = none := by
      cases a with
      | none => rfl
      | some x => cases h
    rw [hno] at ha
    have h0 := RL_nil ha
    refine hK none 0 0 H ⟨Le.refl H, .inl ⟨rfl, by rw [h0]; rfl⟩⟩ hR
  · obtain ⟨css, hrow, hrc⟩ := ha.row
    have hcl : css.length = l.length := hrc.1
    have hcs := stRows_of hrc
    refine ⟨css, hrow, ?_⟩
    refine ⟨⟨by show (0 + css.length) * 96 ≤ 140737488355328; omega, by show 0 + css.length ≤ 9223372036854775807; omega⟩, ?_⟩
    intro v H' hle hv
    rw [hcs] at hle
    refine newAt_k hle.new fun a1 n1 c1 e => ?_
    subst e
    exact hK _ _ _ H' hle hR
structure FamI (H H' : Hp) (vs : List Value) (p : Prog) : Prop where
  len : vs.length = p.length
  new : ∀ (i : Nat) (v : Value) (b : Block), vs[i]? = some v → p[i]? = some b → NewAt 65 9 (b.2.1.map stV) H v H'
  dis : vs.Pairwise fun v u => ∀ g, v.ownBlock = some g → u.ownBlock ≠ some g
theorem newAt_up {e : TypeId} {sz : Nat} {xs : List (List Value)} {H H2 H3 : Hp} {x : Value} (h : NewAt e sz xs H x H2) (hle : Le H2 H3) : NewAt e sz xs H x H3 := by
  rcases h with h1 | ⟨g, cap, c, h1, h2, h3, h4⟩
  · exact .inl h1
  · exact .inr ⟨g, cap, c, h1, h2, hle _ _ h3, h4⟩
theorem newAt_down {e : TypeId} {sz : Nat} {xs : List (List Value)} {H H1 H2 : Hp} {x : Value} (h : NewAt e sz xs H1 x H2) (hle : Le H H1) : NewAt e sz xs H x H2 := by
  rcases h with h1 | ⟨g, cap, c, h1, h2, h3⟩
  · exact .inl h1
  · refine .inr ⟨g, cap, c, h1, ?_, h3⟩
    cases hg : H g with
    | none => rfl
    | some o => rw [hle _ _ hg] at h2; cases h2
theorem FamI.up {H H' H2 : Hp} {vs : List Value} {p : Prog} (h : FamI H H' vs p) (hle : Le H' H2) : FamI H H2 vs p := ⟨h.len, fun i v b h1 h2 => newAt_up (h.new i v b h1 h2) hle, h.dis⟩
theorem FamI.snoc {H H1 H2 : Hp} {vs : List Value} {p : Prog} (h : FamI H H1 vs p) (hle0 : Le H H1) {v : Value} {b : Block} (hv : LeN 65 9 (b.2.1.map stV) H1 v H2) : FamI H H2 (vs ++ [v]) (p ++ [b]) := by
  refine ⟨by rw [List.length_append, List.length_append, h.len]; rfl, fun i u c h1 h2 => ?_, ?_⟩
  · rw [List.getElem?_append] at h1 h2
    have hl := h.len
    split at h1
    · rename_i hi
      rw [if_pos (by omega)] at h2
      exact newAt_up (h.new i u c h1 h2) hv.le
    · rename_i hi
      rw [if_neg (by omega)] at h2
      have e1 : i - vs.length = 0 := by
        have := (List.getElem?_eq_some_iff.1 h1).1
        simp at this; omega
      rw [e1] at h1
      rw [← hl, e1] at h2
      cases h1
      cases h2
      exact newAt_down hv.new hle0
  · rw [List.pairwise_append]
    refine ⟨h.dis, List.pairwise_singleton _ _, fun u hu w hw g hg hg' => ?_⟩
    rw [List.mem_singleton] at hw
    subst hw
    obtain ⟨i, hi⟩ := List.getElem?_of_mem hu
    have hlt := (List.getElem?_eq_some_iff.1 hi).1
    have hb : p[i]? = some (p[i]'(by have := h.len; omega)) := List.getElem?_eq_getElem _
    obtain ⟨_, o, ho⟩ := (h.new i u _ hi hb).fresh hg
    have := (hv.new.fresh hg').1
    rw [ho] at this
    cases this
theorem zipBlk_snoc {vs : List Value} {p : Prog} (hl : vs.length = p.length) (v : Value) (b : Block) : List.zipWith blkV (vs ++ [v]) (p ++ [b]) = List.zipWith blkV vs p ++ [blkV v b] := by
  rw [List.zipWith_append hl]; rfl
theorem blkR_mk {H : Hp} {v : Value} {b : Block} (hv : RowAt H v 9 (b.2.1.map stV)) (hst : ∀ s ∈ b.2.1, stmtR s) (hs : sR b.1) (ht : termR b.2.2) : Enc.R H (blkV v b) b :=
  of_row_k (α := Stmt) hv (stRows_rc hst) fun a n c e hr => by subst e; exact block_mk hr hs ht
theorem pclone2_spec {p : Prog} (hp : p.length ≤ 1000000) (hl : ∀ b ∈ p, b.2.1.length ≤ 1000000) {a : Option Addr} {n c : Nat} {H : Hp} {K : Value → Hp → Prop} (ha : RL H a n c p)
    (hK : ∀ v vs H3 H', Le H H3 → FamI H H3 vs p → LeN 70 8 (List.zipWith blkV vs p) H3 v H' → K (.agg #[v]) H') : Does Tryz.prog 52 [.agg #[.slice a n c]] H K := by
  have hn := ha.n_eq
  have hmx := ha.le
  refine spec_of cx_ok cx_mix rfl Tryz.func52 Tryz.call52 Tryz.ntmps52 Tryz.results52 rfl rfl ?_
  refine ⟨Nat × List Value, fun q => ⟨[(2, .ptr 0 0), (3, .ptr 1 0), (7, .v (.slice a n c)), (8, .v (.int .i64 n)), (9, .v (.int .i64 q.1))],
      [(0, .cells 24 [.v (.slice none 0 0)]), (1, .cells 24 [.own 2]), (2, .row 70 8 (List.zipWith blkV q.2 (p.take q.1)))], 3⟩,
    fun q H' => Le H H' ∧ q.1 ≤ p.length ∧ FamI H H' q.2 (p.take q.1), fun q => p.length - q.1, ⟨(0, []), [(0, 1), (1, 2)], ?_, Le.refl _, Nat.zero_le _, ⟨rfl, fun i v b h1 => (by cases h1), List.Pairwise.nil⟩⟩, ?_⟩
  · (repeat' (first | exact trivial | refine ⟨?_, ?_⟩ | exact rfl | assumption))
  rintro ⟨i, vs⟩ H1 hle1 ⟨_, hi, hf⟩
  dsimp only at hi hf
  have hvl : vs.length = i := by rw [hf.len, List.length_take]; omega
  have hcl : (List.zipWith blkV vs (p.take i)).length = i := by rw [List.length_zipWith, List.length_take]; omega
  refine ⟨fun h => ?_, fun h => ?_⟩
  · have hlt : i < p.length := by have := dt h; dsimp only at this; omega
    refine name_k p[i] fun b hbe => ?_
    have hbb : p[i]? = some b := by rw [hbe]; exact List.getElem?_eq_getElem hlt
    refine block_k (ha.up hle1) hbb fun ad a1 n1 c1 q1 hh hr1 hs1 ht1 => ?_
    refine ⟨ad, ⟨by dsimp only; omega, by dsimp only; omega, q1⟩, ?_⟩
    refine ⟨_, hh, ?_⟩
    refine cloneS2_spec (hl b (List.mem_of_getElem? hbb)) hr1 fun a5 n5 c5 H5 hle5 hst => ?_
    have htk : p.take (i + 1) = p.take i ++ [b] := by rw [List.take_add_one, hbb, Option.toList_some]
    have hz : List.zipWith blkV (vs ++ [.slice a5 n5 c5]) (p.take (i + 1)) = List.zipWith blkV vs (p.take i) ++ [blkV (.slice a5 n5 c5) b] := by rw [htk, zipBlk_snoc hf.len]
    refine ⟨⟨by show ((List.zipWith blkV vs (p.take i)).length + 1) * 112 ≤ 140737488355328; omega, by show (List.zipWith blkV vs (p.take i)).length + 1 ≤ 9223372036854775807; omega⟩, ?_⟩
    refine ⟨⟨by dsimp only; omega, by dsimp only; omega⟩, (i + 1, vs ++ [.slice a5 n5 c5]), [(0, 0), (1, 1), (2, 5)], ?_, ⟨hle1.trans hle5.le, hlt, by dsimp only; rw [htk]; exact hf.snoc hle1 hle5⟩, by dsimp only; omega⟩
    have hz := hz.symm
    (repeat' (first | exact trivial | refine ⟨?_, ?_⟩ | exact rfl | assumption))
  · have hil : i = p.length := by have := df h; dsimp only at this; omega
    rw [hil, List.take_length] at hf
    intro v H' hle hv
    have hle : LeN 70 8 (List.zipWith blkV vs (p.take i)) H1 v H' := hle
    rw [hil, List.take_length] at hle
    exact hK v vs H1 H' hle1 hf hle
abbrev famL (vs : List Value) (p : Prog) : List (Value × List (List Value)) := List.zip vs (p.map fun b => b.2.1.map stV)
theorem famL_mem {vs : List Value} {p : Prog} {q : Value × List (List Value)} (h : q ∈ famL vs p) : ∃ (i : Nat) (b : Block), vs[i]? = some q.1 ∧ p[i]? = some b ∧ q.2 = b.2.1.map stV := by
  obtain ⟨i, hi⟩ := List.getElem?_of_mem h
  rw [famL, List.getElem?_zip_eq_some, List.getElem?_map] at hi
  obtain ⟨h1, h2⟩ := hi
  cases hb : p[i]? with
  | none => rw [hb] at h2; cases h2
  | some b =>
    rw [hb] at h2
    simp only [Option.map_some, Option.some.injEq] at h2
    exact ⟨i, b, h1, hb, h2.symm⟩
theorem stV_ok (l : List Stmt) : ∀ y ∈ l.map stV, y.length = 9 ∧ ∀ u ∈ y, u.oneCell' = true := by
  intro y hy
  obtain ⟨s, _, rfl⟩ := List.mem_map.1 hy
  have h : (stV s).all (·.oneCell') = true := rfl
  exact ⟨rfl, fun u hu => List.all_eq_true.1 h u hu⟩
theorem cloneF_spec {p : Prog} (hp : p.length ≤ 1000000) (hl : ∀ b ∈ p, b.2.1.length ≤ 1000000) {a : Option Addr} {n c : Nat} {H : Hp} {K : SV → St → Hp → Prop} (ha : RL H a n c p)
    (hK : ∀ vs H', Le H H' → vs.length = p.length → (∀ (i : Nat) (v : Value) (b : Block), vs[i]? = some v → p[i]? = some b → ∃ a c, v = .slice a b.2.1.length c ∧ (a = none → b.2.1 = [])) → K (.agg [.own 0]) ⟨[], [(0, .row 70 8 (List.zipWith blkV vs p)), (1, .fam 65 9 (famL vs p))], 2⟩ H') : DoesG Tryz.prog 52 [.agg [.v (.slice a n c)]] [] 0 H K := by
  refine doesG_thawB (args := [.agg #[.slice a n c]]) (fun _ => rfl) (pclone2_spec hp hl ha (K := fun v H' => ∃ x vs H3, v = .agg #[x] ∧ Le H H3 ∧ FamI H H3 vs p ∧ LeN 70 8 (List.zipWith blkV vs p) H3 x H') (fun v vs H3 H' h1 h2 h3 => ⟨v, vs, H3, rfl, h1, h2, h3⟩)) ?_
  rintro v H2 hle ⟨x, vs, H3, rfl, h1, h2, h3⟩
  have hsl : ∀ (i : Nat) (v : Value) (b : Block), vs[i]? = some v → p[i]? = some b → ∃ a c, v = .slice a b.2.1.length c ∧ (a = none → b.2.1 = []) := fun i v b h4 h5 => by
    rcases h2.new i v b h4 h5 with ⟨h6, h7⟩ | ⟨g, cap, cc, h6, _⟩
    · have h8 : b.2.1 = [] := List.map_eq_nil_iff.1 h7
      exact ⟨none, 0, by rw [h6, h8]; rfl, fun _ => h8⟩
    · rw [List.length_map] at h6
      exact ⟨_, _, h6, fun h => by cases h⟩
  refine ⟨70, 8, List.zipWith blkV vs p, x, 65, 9, famL vs p, .agg [.own 0], fun ρ hρ => ?_, rfl, (LeN.base h1 h3).new, fun y hy => ?_, fun q hq => ?_, ?_, fun q hq g hg hg' => ?_, fun H' hle2 _ => hK vs H' hle2 h2.len hsl⟩
  · show Value.agg #[ρ.val 0] = _
    rw [hρ]
  · obtain ⟨i, hi⟩ := List.getElem?_of_mem hy
    rw [List.getElem?_zipWith_eq_some] at hi
    obtain ⟨v, b, h4, h5, rfl⟩ := hi
    obtain ⟨a1, c1, rfl, _⟩ := hsl i v b h4 h5
    have h : (blkV (.slice a1 b.2.1.length c1) b).all (·.oneCell') = true := rfl
    exact ⟨rfl, fun u hu => List.all_eq_true.1 h u hu⟩
  · obtain ⟨i, b, h4, h5, h6⟩ := famL_mem hq
    rw [h6]
    exact ⟨newAt_up (h2.new i _ b h4 h5) h3.le, stV_ok _⟩
  · have e : (famL vs p).map Prod.fst = vs := List.map_fst_zip (by rw [List.length_map]; exact Nat.le_of_eq h2.len)
    have hd := h2.dis
    rw [← e, List.pairwise_map] at hd
    exact hd
  · obtain ⟨i, b, h4, h5, _⟩ := famL_mem hq
    obtain ⟨_, o, ho⟩ := (h2.new i _ b h4 h5).fresh hg'
    have := (h3.new.fresh hg).1
    rw [ho] at this
    cases this
end Go.Proofs
end
section
namespace Go.Proofs
open Go.Sy
set_option maxRecDepth 20000
set_option maxHeartbeats 4000000
/-! fold.Program. -/
def mixP (p : Prog) (i : Nat) : Prog := (foldP p).take i ++ p.drop i
theorem mixP_len {p : Prog} {i : Nat} (h : i ≤ p.length) : (mixP p i).length = p.length := by rw [mixP, List.length_append, List.length_take, List.length_drop, foldP_len]; omega
theorem mixP_get {p : Prog} {i : Nat} {b : Block} (h : p[i]? = some b) : (mixP p i)[i]? = some b := by
  have hlt := (List.getElem?_eq_some_iff.1 h).1
  have hl : ((foldP p).take i).length = i := by rw [List.length_take, foldP_len]; omega
  rw [mixP, List.getElem?_append_right (by omega), hl, Nat.sub_self, List.getElem?_drop, Nat.add_zero]; exact h
theorem mixP_set {p : Prog} {i : Nat} {b : Block} (h : p[i]? = some b) : (mixP p i).set i (foldB p i b) = mixP p (i + 1) := by
  have hlt := (List.getElem?_eq_some_iff.1 h).1
  have hl : ((foldP p).take i).length = i := by rw [List.length_take, foldP_len]; omega
  have hd : p.drop i = b :: p.drop (i + 1) := by
    rw [List.drop_eq_getElem_cons hlt]
    rw [List.getElem?_eq_getElem hlt] at h
    simp only [Option.some.injEq] at h
    rw [h]
  rw [mixP, List.set_append_right _ _ (by omega), hl, Nat.sub_self, hd, List.set_cons_zero, mixP, foldP, mapIdx_take h, List.append_assoc]; rfl
def mixL (p : Prog) (i : Nat) (b : Block) (k : Nat) : List Stmt := (foldL p i b).take k ++ b.2.1.drop k
theorem mixL_zero (p : Prog) (i : Nat) (b : Block) : mixL p i b 0 = b.2.1 := rfl
theorem mixL_full (p : Prog) (i : Nat) (b : Block) : mixL p i b b.2.1.length = foldL p i b := by rw [mixL, List.drop_length, List.append_nil, List.take_of_length_le (by rw [foldL_len]; exact Nat.le_refl _)]
theorem mixL_len {p : Prog} {i : Nat} {b : Block} {k : Nat} (h : k ≤ b.2.1.length) : (mixL p i b k).length = b.2.1.length := by rw [mixL, List.length_append, List.length_take, List.length_drop, foldL_len]; omega
theorem mixL_set {p : Prog} {i : Nat} {b : Block} {k : Nat} {s : Stmt} (h : b.2.1[k]? = some s) : (mixL p i b k).set k (foldS p (knownAt p i b k) s) = mixL p i b (k + 1) := by
  have hlt := (List.getElem?_eq_some_iff.1 h).1
  have hl : ((foldL p i b).take k).length = k := by rw [List.length_take, foldL_len]; omega
  have hd : b.2.1.drop k = s :: b.2.1.drop (k + 1) := by
    rw [List.drop_eq_getElem_cons hlt]
    rw [List.getElem?_eq_getElem hlt] at h
    simp only [Option.some.injEq] at h
    rw [h]
  rw [mixL, List.set_append_right _ _ (by omega), hl, Nat.sub_self, hd, List.set_cons_zero, mixL, foldL, mapIdx_take h, List.append_assoc]; rfl
theorem split_set {α : Type} : ∀ (l : List α) (i : Nat) (x : α), l[i]? = some x → l = l.take i ++ x :: l.drop (i + 1) ∧ ∀ y, l.take i ++ y :: l.drop (i + 1) = l.set i y
  | [], i, x, h => by simp at h
  | a :: r, 0, x, h => by
    simp only [List.getElem?_cons_zero, Option.some.injEq] at h
    subst h
    exact ⟨rfl, fun y => rfl⟩
  | a :: r, i + 1, x, h => by
    have ih := split_set r i x (by simpa using h)
    refine ⟨?_, fun y => ?_⟩
    · rw [List.take_succ_cons, List.drop_succ_cons, List.cons_append, ← ih.1]
    · rw [List.take_succ_cons, List.drop_succ_cons, List.cons_append, ih.2 y]; rfl
theorem zipW_set {α β γ : Type} (f : α → β → γ) : ∀ (vs : List α) (q : List β) (i : Nat) (v : α), vs[i]? = some v → ∀ y, (List.zipWith f vs q).set i (f v y) = List.zipWith f vs (q.set i y)
  | [], q, i, v, h, y => by simp at h
  | a :: r, [], i, v, h, y => by simp
  | a :: r, b :: q, 0, v, h, y => by
    simp only [List.getElem?_cons_zero, Option.some.injEq] at h
    subst h
    rfl
  | a :: r, b :: q, i + 1, v, h, y => by
    have ih := zipW_set f r q i v (by simpa using h) y
    rw [List.set_cons_succ, List.zipWith_cons_cons, List.zipWith_cons_cons, List.set_cons_succ, ih]
theorem famL_split {vs : List Value} {q : Prog} {i : Nat} {v : Value} {b : Block} (hv : vs[i]? = some v) (hb : q[i]? = some b) :
    famL vs q = (famL vs q).take i ++ (v, b.2.1.map stV) :: (famL vs q).drop (i + 1) ∧ ∀ b' : Block, (famL vs q).take i ++ (v, b'.2.1.map stV) :: (famL vs q).drop (i + 1) = famL vs (q.set i b') := by
  have h1 : (famL vs q)[i]? = some (v, b.2.1.map stV) := by
    rw [famL, List.getElem?_zip_eq_some, List.getElem?_map, hb]; exact ⟨hv, rfl⟩
  have h2 := split_set _ _ _ h1
  refine ⟨h2.1, fun b' => ?_⟩
  rw [h2.2, famL, famL, List.map_set]
  exact zipW_set Prod.mk vs _ i v hv _
theorem zipBlk_set {vs : List Value} {q : Prog} {i : Nat} {v : Value} (hv : vs[i]? = some v) (b' : Block) : (List.zipWith blkV vs q).set i (blkV v b') = List.zipWith blkV vs (q.set i b') := zipW_set blkV vs q i v hv b'
theorem zipBlk_get {vs : List Value} {q : Prog} {i : Nat} {v : Value} {b : Block} (hv : vs[i]? = some v) (hb : q[i]? = some b) : (List.zipWith blkV vs q)[i]? = some (blkV v b) := by
  rw [List.getElem?_zipWith, hv, hb]
theorem pfoldG_spec {p : Prog} (hp : p.length ≤ 12) (hl : ∀ b ∈ p, b.2.1.length ≤ 1000000) (hc : stmtsN p ≤ 1000000) (hv : cnt p < 400000) {a : Option Addr} {n c : Nat} {H : Hp} {K : SV → St → Hp → Prop} (ha : RL H a n c p)
    (hbad : checkE p ≠ 0 → ∀ H', Le H H' → K (.tup [.agg [.v (.slice none 0 0)], .v (.int .i64 (checkE p))]) ⟨[], [], 0⟩ H')
    (hK : checkE p = 0 → ∀ vs H', Le H H' → vs.length = p.length → (∀ (i : Nat) (v : Value) (b : Block), vs[i]? = some v → p[i]? = some b → ∃ a c, v = .slice a b.2.1.length c ∧ (a = none → b.2.1 = [])) → K (.tup [.agg [.own 2], .v (.int .i64 0)]) ⟨[], [(2, .row 70 8 (List.zipWith blkV vs (foldP p))), (3, .fam 65 9 (famL vs (foldP p)))], 5⟩ H') :
    DoesG Tryz.prog 21 [.agg [.v (.slice a n c)]] [] 0 H K := by
  refine spec_ofG cxE_ok cx_mix Tryz.func21 Tryz.call21 Tryz.ntmps21 Tryz.results21 rfl rfl ?_
  refine sets_spec hp hl hc hv ha (fun he H1 hle1 => ?_) (fun he a4 n4 c4 a2 n2 c2 H1 hle1 hr4 hr2 => ?_)
  · refine ⟨fun _ => ?_, fun h => absurd (nf h) he⟩
    exact ⟨.tup [.agg [.v (.slice none 0 0)], .v (.int .i64 (checkE p))], [], 0, [], by (repeat' (first | exact trivial | refine ⟨?_, ?_⟩ | exact rfl | assumption)), hbad he _ hle1⟩
  have hK := hK he
  refine ⟨(fun h => absurd rfl (nt h)), fun _ => ?_⟩
  refine ⟨[], rfl, cloneF_spec (by omega) hl (ha.up hle1) fun vs H2 hle2 hvl hsl => ?_⟩
  have hK := fun H' h => hK vs H' h hvl hsl
  have hle := hle1.trans hle2
  have ho := sysOf_ok he
  have hA := solveS_ok ho
  have hm : (sysOf p).m = p.length := rfl
  have hn := ha.n_eq
  have hn4 := hr4.n_eq
  rw [hA.len] at hn4
  have hok := check_facts he
  have hzl : ∀ q : Prog, q.length = p.length → (List.zipWith blkV vs q).length = p.length := fun q hq => by rw [List.length_zipWith, hvl, hq, Nat.min_self]
  refine ⟨Nat, fun i => ⟨[(1, .ptr 0 0), (2, .ptr 1 0), (4, .v (.slice a4 n4 c4)), (7, .ptr 4 0), (28, .own 2), (29, .v (.int .i64 (p.length : Nat))), (30, .v (.int .i64 i))],
      [(0, .cells 24 [.v (.slice a n c)]), (1, .cells 24 [.v (.slice none 0 0)]), (4, .cells 24 [.own 2]), (2, .row 70 8 (List.zipWith blkV vs (mixP p i))), (3, .fam 65 9 (famL vs (mixP p i)))], 5⟩,
    fun i H' => Le H2 H' ∧ i ≤ p.length, fun i => p.length - i, ⟨0, [(0, 0), (1, 1), (2, 2), (3, 3), (4, 4)], ?_, Le.refl _, Nat.zero_le _⟩, ?_⟩
  · have e0 : SV.v (.int .i64 ((List.zipWith blkV vs p).length : Nat)) = SV.v (.int .i64 (p.length : Nat)) := by rw [hzl p rfl]
    (repeat' (first | exact trivial | refine ⟨?_, ?_⟩ | exact rfl | assumption))
  rintro i H3 hle3 ⟨_, hi⟩
  have hml := hzl _ (mixP_len hi)
  refine ⟨fun h => ?_, fun h => ?_⟩
  · have hlt : i < p.length := by have := dt h; omega
    refine name_k p[i] fun b hbe => ?_
    have hbb : p[i]? = some b := by rw [hbe]; exact List.getElem?_eq_getElem hlt
    have hvi : vs[i]? = some (vs[i]'(by omega)) := List.getElem?_eq_getElem _
    obtain ⟨av, cv, hve, hav⟩ := hsl i _ b hvi hbb
    rw [hve] at hvi
    have hg : (List.zipWith blkV vs (mixP p i))[(i : Int).toNat]? = some (blkV (.slice av b.2.1.length cv) b) := zipBlk_get hvi (mixP_get hbb)
    refine ⟨⟨by omega, by omega⟩, ?_⟩
    refine ⟨_, hg, ?_⟩
    have hAg := aAt_get hA (v := i) (by rw [hm]; exact hlt)
    have hAo := aAt_ok hA (v := i) (by rw [hm]; exact hlt)
    have hle4 := hle2.trans hle3
    have hleH := hle.trans hle3
    refine list_k (hr4.up hle4) hAg fun ad2 a6 n6 c6 q2 hh2 hr6 => ?_
    refine ⟨ad2, ⟨by omega, by omega, q2⟩, ?_⟩
    refine ⟨_, hh2, ?_⟩
    have hsp := split_set _ _ _ (mixP_get hbb)
    have hsame : (mixP p i).set i b = mixP p i := (hsp.2 b).symm.trans hsp.1.symm
    have hnext := mixP_set hbb
    refine never_spec hr6 ?_
    refine ⟨fun h => ?_, fun h => ?_⟩
    · have hnt : nev p i = true := h
      have hfb : foldB p i b = b := by rw [foldB, hnt]; rfl
      rw [hfb, hsame] at hnext
      refine ⟨⟨by omega, by omega⟩, i + 1, [(0, 0), (1, 1), (2, 2), (3, 3), (4, 4)], ?_, ⟨hle3, hlt⟩, by dsimp only; omega⟩
      have e1 : List.zipWith blkV vs (mixP p i) = List.zipWith blkV vs (mixP p (i + 1)) := by rw [hnext]
      have e2 : famL vs (mixP p (i + 1)) = famL vs (mixP p i) := by rw [hnext]
      have e3 := e1.symm
      have e4 := e2.symm
      (repeat' (first | exact trivial | refine ⟨?_, ?_⟩ | exact rfl | assumption))
    have hnf : nev p i = false := h
    have hbl := hl b (List.mem_of_getElem? hbb)
    have hf0 : famL vs (mixP p i) = famL vs ((mixP p i).set i (b.1, mixL p i b 0, b.2.2)) := by
      rw [mixL_zero]; exact congrArg (famL vs) hsame.symm
    refine ⟨Nat, fun k => ⟨[(1, .ptr 0 0), (2, .ptr 1 0), (4, .v (.slice a4 n4 c4)), (7, .ptr 4 0), (8, .v (.int .i64 i)), (9, .ptr 5 0), (28, .own 2), (29, .v (.int .i64 (p.length : Nat))), (30, .v (.int .i64 i)), (41, .v (.slice av b.2.1.length cv)), (42, .v (.int .i64 (b.2.1.length : Nat))), (43, .v (.int .i64 k))],
        [(0, .cells 24 [.v (.slice a n c)]), (1, .cells 24 [.v (.slice none 0 0)]), (4, .cells 24 [.own 2]), (2, .row 70 8 (List.zipWith blkV vs (mixP p i))), (3, .fam 65 9 (famL vs ((mixP p i).set i (b.1, mixL p i b k, b.2.2)))), (5, .cells 70 (vL (blkV (.slice av b.2.1.length cv) b)))], 6⟩,
      fun k H' => Le H3 H' ∧ k ≤ b.2.1.length, fun k => b.2.1.length - k, ⟨0, [(0, 0), (1, 1), (2, 2), (3, 3), (4, 4), (5, 5)], ?_, Le.refl _, Nat.zero_le _⟩, ?_⟩
    · have hf1 := hf0.symm
      (repeat' (first | exact trivial | refine ⟨?_, ?_⟩ | exact rfl | assumption))
    rintro k H4 hle5 ⟨_, hk⟩
    have hleK := hleH.trans hle5
    refine ⟨fun h => ?_, fun h => ?_⟩
    · have hkl : k < b.2.1.length := by have := dt h; omega
      refine name_k b.2.1[k] fun s hse => ?_
      have hss : b.2.1[k]? = some s := by rw [hse]; exact List.getElem?_eq_getElem hkl
      refine at_spec (i := (i : Nat)) (j := (k : Nat)) hp hl hc hv (ha.up hleK) (fun he2 => absurd he he2) (fun _ hno => absurd ⟨by omega, by omega, b, by rw [Int.toNat_natCast]; exact hbb, by omega, by omega⟩ hno) (fun _ b' hb' _ _ _ _ a8 n8 c8 H5 hle6 hr8 => ?_)
      rw [Int.toNat_natCast, hbb] at hb'
      cases hb'
      rw [Int.toNat_natCast, Int.toNat_natCast] at hr8
      have hr8 : RL H5 a8 n8 c8 (knownAt p i b k) := hr8
      have hleM := hleK.trans hle6
      refine block_k (ha.up hleM) hbb fun ad a5 n5 c5 q1 hh hr5 hs5 ht5 => ?_
      have hn5 := hr5.n_eq
      refine stmt_k hr5 hss fun ad3 q3 hh3 hsr => ?_
      refine ⟨some ([3], [0, 1, 2, 3, 4, 5, 6, 7, 8, 9, 10, 11, 12, 13, 14, 15, 16]), by kernel_rfl, ?_⟩
      refine ⟨ad, ⟨by omega, by omega, q1⟩, ?_⟩
      refine ⟨_, hh, ?_⟩
      refine ⟨ad3, ⟨by omega, by omega, q3⟩, ?_⟩
      refine ⟨_, hh3, ?_⟩
      refine fstmt_spec hsr (ha.up hleM) hr8 hv fun _ _ => ?_
      cases av with
      | none => exact absurd (hav rfl) (fun h => by rw [h] at hkl; cases hkl)
      | some adv =>
        refine ⟨adv, ⟨by omega, by omega, rfl⟩, ?_⟩
        have hqb : ((mixP p i).set i (b.1, mixL p i b k, b.2.2))[i]? = some (b.1, mixL p i b k, b.2.2) := List.getElem?_set_self (by rw [mixP_len hi]; exact hlt)
        have hspl := famL_split (b := (b.1, mixL p i b k, b.2.2)) hvi hqb
        have hml2 : (mixL p i b k)[k]? = some s := by
          have hl9 : ((foldL p i b).take k).length = k := by rw [List.length_take, foldL_len]; omega
          rw [mixL, List.getElem?_append_right (by omega), hl9, Nat.sub_self, List.getElem?_drop, Nat.add_zero]; exact hss
        refine ⟨3, 65, _, _, _, _, _, _, stV s, rfl, hspl.1, by dsimp only; rw [Int.toNat_natCast, List.getElem?_map, hml2]; rfl, by decide, ?_⟩
        have e5 : (famL vs ((mixP p i).set i (b.1, mixL p i b k, b.2.2))).take i ++ ((.slice (some adv) b.2.1.length cv, ((mixL p i b k).map stV).set k (stV (foldS p (knownAt p i b k) s))) : Value × List (List Value)) :: (famL vs ((mixP p i).set i (b.1, mixL p i b k, b.2.2))).drop (i + 1) = famL vs ((mixP p i).set i (b.1, mixL p i b (k + 1), b.2.2)) := by
          have e7 := hspl.2 (b.1, mixL p i b (k + 1), b.2.2)
          rw [List.set_set] at e7
          rw [← e7, ← List.map_set, mixL_set hss]
        have e6 := e5.symm
        refine ⟨⟨by omega, by omega⟩, k + 1, [(0, 0), (1, 1), (2, 2), (3, 3), (4, 4), (5, 5)], ?_, ⟨hle5.trans hle6, hkl⟩, by dsimp only; omega⟩
        (repeat' (first | exact trivial | refine ⟨?_, ?_⟩ | exact rfl | assumption))
    have hkn : k = b.2.1.length := by have := df h; omega
    have hfb : foldB p i b = (b.1, foldL p i b, foldT p i b) := by rw [foldB, hnf]; rfl
    rw [hfb] at hnext
    have hF : famL vs ((mixP p i).set i (b.1, mixL p i b k, b.2.2)) = famL vs (mixP p (i + 1)) := by
      rw [← hnext, hkn, mixL_full, famL, famL, List.map_set, List.map_set]
    have hF2 := hF.symm
    refine at_spec (i := (i : Nat)) (j := (b.2.1.length : Nat)) hp hl hc hv (ha.up hleK) (fun he2 => absurd he he2) (fun _ hno => absurd ⟨by omega, by omega, b, by rw [Int.toNat_natCast]; exact hbb, by omega, by omega⟩ hno) (fun _ b' hb' _ _ _ _ a8 n8 c8 H5 hle6 hr8 => ?_)
    rw [Int.toNat_natCast, hbb] at hb'
    cases hb'
    rw [Int.toNat_natCast, Int.toNat_natCast] at hr8
    have hr8 : RL H5 a8 n8 c8 (knownAt p i b b.2.1.length) := hr8
    have hleM := hleK.trans hle6
    have hZ : (List.zipWith blkV vs (mixP p i)).set i (blkV (.slice av b.2.1.length cv) (b.1, foldL p i b, foldT p i b)) = List.zipWith blkV vs (mixP p (i + 1)) := by
      rw [← hnext]; exact zipBlk_set hvi _
    refine ⟨fun h2 => ?_, fun h2 => ?_⟩
    · have h2 : b.2.2.1 = 2 := dt h2
      have hft : foldT p i b = (b.2.2.1, foldA p (knownAt p i b b.2.1.length) b.2.2.2.1, b.2.2.2.2) := if_pos h2
      rw [hft] at hZ
      have hZ2 := hZ.symm
      refine ⟨some ([2], [0, 1, 2, 3, 4, 5, 6, 7, 8, 9, 10, 11, 12]), by kernel_rfl, ?_⟩
      refine vatom_spec (ha.up hleM) hr8 hv fun _ _ => ?_
      refine ⟨⟨by omega, by omega⟩, ?_⟩
      refine ⟨_, hg, ?_⟩
      refine ⟨⟨by omega, by omega⟩, i + 1, [(0, 0), (1, 1), (2, 2), (3, 3), (4, 4)], ?_, ⟨(hle3.trans hle5).trans hle6, hlt⟩, by dsimp only; omega⟩
      (repeat' (first | exact trivial | refine ⟨?_, ?_⟩ | exact rfl | assumption))
    · have h2 : ¬ b.2.2.1 = 2 := df h2
      have hft : foldT p i b = b.2.2 := if_neg h2
      rw [hft] at hZ
      have hsz := split_set _ _ _ (zipBlk_get hvi (mixP_get hbb))
      have hZ3 : List.zipWith blkV vs (mixP p i) = List.zipWith blkV vs (mixP p (i + 1)) := hsz.1.trans ((hsz.2 _).trans hZ)
      have hZ4 := hZ3.symm
      refine ⟨⟨by omega, by omega⟩, i + 1, [(0, 0), (1, 1), (2, 2), (3, 3), (4, 4)], ?_, ⟨(hle3.trans hle5).trans hle6, hlt⟩, by dsimp only; omega⟩
      (repeat' (first | exact trivial | refine ⟨?_, ?_⟩ | exact rfl | assumption))
  · have hil : i = p.length := by have := df h; omega
    have e : mixP p p.length = foldP p := by rw [mixP, List.drop_length, List.append_nil, List.take_of_length_le (by rw [foldP_len]; exact Nat.le_refl _)]
    rw [hil, e]
    exact ⟨.tup [.agg [.own 2], .v (.int .i64 0)], [(2, .row 70 8 (List.zipWith blkV vs (foldP p))), (3, .fam 65 9 (famL vs (foldP p)))], 5, [(2, 2), (3, 3)], by (repeat' (first | exact trivial | refine ⟨?_, ?_⟩ | exact rfl | assumption)), hK _ (hle.trans hle3)⟩
end Go.Proofs
end
section
namespace Go.Proofs
open Go.Sy
set_option maxRecDepth 20000
set_option maxHeartbeats 4000000
theorem prog_R {p : Prog} {a : Option Addr} {n c : Nat} {H : Hp} (ha : RL H a n c p) {i : Nat} {b : Block} (hb : p[i]? = some b) : sR b.1 ∧ termR b.2.2 ∧ ∀ s ∈ b.2.1, stmtR s :=
  block_k ha hb fun _ _ _ _ _ _ hr hs ht => ⟨hs, ht, fun s hs2 => by
    obtain ⟨j, hj⟩ := List.getElem?_of_mem hs2
    exact stmt_k hr hj fun _ _ _ h => h⟩
theorem foldB_R {p : Prog} {i : Nat} {b : Block} (h : sR b.1 ∧ termR b.2.2 ∧ ∀ s ∈ b.2.1, stmtR s) : sR (foldB p i b).1 ∧ termR (foldB p i b).2.2 ∧ ∀ s ∈ (foldB p i b).2.1, stmtR s := by
  unfold foldB
  split
  · exact h
  · refine ⟨h.1, foldT_R h.2.1, fun s hs => ?_⟩
    obtain ⟨k, hk, rfl⟩ := List.mem_mapIdx.1 hs
    exact foldS_R (h.2.2 _ (List.getElem_mem _))
theorem pfold_spec {p : Prog} (hp : p.length ≤ 12) (hl : ∀ b ∈ p, b.2.1.length ≤ 1000000) (hc : stmtsN p ≤ 1000000) (hv : cnt p < 400000) {a : Option Addr} {n c : Nat} {H : Hp} {K : Value → Hp → Prop} (ha : RL H a n c p)
    (hbad : checkE p ≠ 0 → ∀ H', Le H H' → K (.tuple #[.agg #[.slice none 0 0], .int .i64 (checkE p)]) H')
    (hK : checkE p = 0 → ∀ a1 n1 c1 H', Le H H' → RL H' a1 n1 c1 (foldP p) → K (.tuple #[.agg #[.slice a1 n1 c1], .int .i64 0]) H') : Does Tryz.prog 21 [.agg #[.slice a n c]] H K := by
  refine does_frzB (svs := [.agg [.v (.slice a n c)]]) (fun _ => rfl) rfl (pfoldG_spec hp hl hc hv ha (K := fun x t H1 => (checkE p ≠ 0 ∧ Le H H1 ∧ x = .tup [.agg [.v (.slice none 0 0)], .v (.int .i64 (checkE p))]) ∨ (checkE p = 0 ∧ Le H H1 ∧ ∃ vs, vs.length = p.length ∧ x = .tup [.agg [.own 2], .v (.int .i64 0)] ∧ t = ⟨[], [(2, .row 70 8 (List.zipWith blkV vs (foldP p))), (3, .fam 65 9 (famL vs (foldP p)))], 5⟩))
    (fun he H1 h1 => .inl ⟨he, h1, rfl⟩) (fun he vs H1 h1 h2 _ => .inr ⟨he, h1, vs, h2, rfl, rfl⟩)) ?_
  rintro x t H1 (⟨he, h1, rfl⟩ | ⟨he, h1, vs, h2, rfl, rfl⟩) hle
  · exact .inl ⟨_, fun _ => rfl, hbad he _ h1⟩
  · refine .inr ⟨2, 3, 70, 8, _, 65, 9, _, fun v => .tuple #[.agg #[v], .int .i64 0], fun _ => rfl, rfl, rfl, by decide, fun v H' hle2 hr hf => ?_⟩
    have hrc : RC (α := Block) H' (List.zipWith blkV vs (foldP p)) (foldP p) := by
      refine ⟨by rw [List.length_zipWith, h2, foldP_len, Nat.min_self], fun i cs b h3 h4 => ?_⟩
      rw [List.getElem?_zipWith_eq_some] at h3
      obtain ⟨u, b', h5, h6, rfl⟩ := h3
      rw [h4] at h6
      cases h6
      have hpi : ∃ b0, p[i]? = some b0 ∧ b = foldB p i b0 := by
        rw [foldP, List.getElem?_mapIdx] at h4
        cases hb : p[i]? with
        | none => rw [hb] at h4; cases h4
        | some b0 =>
          rw [hb] at h4
          simp only [Option.map_some, Option.some.injEq] at h4
          exact ⟨b0, rfl, h4.symm⟩
      obtain ⟨b0, hb0, hbe⟩ := hpi
      have hR := foldB_R (p := p) (i := i) (prog_R ha hb0)
      rw [← hbe] at hR
      have hm : (u, b.2.1.map stV) ∈ famL vs (foldP p) := by
        apply List.mem_of_getElem? (i := i)
        rw [famL, List.getElem?_zip_eq_some, List.getElem?_map, h4]; exact ⟨h5, rfl⟩
      exact blkR_mk (hf _ hm) hR.2.2 hR.1 hR.2.1
    refine of_row_k (α := Block) hr hrc fun a1 n1 c1 e hr1 => ?_
    subst e
    exact hK he _ _ _ _ (h1.trans hle2) hr1
end Go.Proofs
end
section
namespace Go.Proofs
open Go.Sy
set_option maxRecDepth 20000
set_option maxHeartbeats 4000000
/-! Running: values, environments. -/
abbrev nRows (l : List Nm) : List (List Value) := eRows l
theorem nRows_of {H : Hp} {css : List (List Value)} {l : List Nm} (h : RC (α := Nm) H css l) : css = nRows l := by
  apply List.ext_getElem?
  intro i
  rw [List.getElem?_map]
  have hl : css.length = l.length := h.1
  by_cases hi : i < l.length
  · have h1 : css[i]? = some (css[i]'(by omega)) := List.getElem?_eq_getElem _
    have h2 := List.getElem?_eq_getElem hi
    have h3 := (edge_open (h.2 i _ _ h1 h2)).1
    rw [h1, h2, h3]; rfl
  · rw [List.getElem?_eq_none (by omega), List.getElem?_eq_none (by omega)]; rfl
theorem nRows_ok (l : List Nm) : ∀ y ∈ nRows l, y.length = 2 ∧ ∀ u ∈ y, u.oneCell' = true := by
  intro y hy
  obtain ⟨w, _, rfl⟩ := List.mem_map.1 hy
  exact ⟨rfl, fun u hu => by simp at hu; rcases hu with rfl | rfl <;> rfl⟩
theorem nRL_all {H : Hp} {a : Option Addr} {n c : Nat} {l : List Nm} (h : RL H a n c l) : ∀ e ∈ l, inI e.1 ∧ inI e.2 := RLe_all h
theorem cloneV_spec {l : List Nm} (hl : l.length ≤ 1000000) {a : Option Addr} {n c : Nat} {H : Hp} {K : Value → Hp → Prop} (ha : RL H a n c l) (hK : ∀ a1 n1 c1 H', LeN 42 2 (nRows l) H (.slice a1 n1 c1) H' → RL H' a1 n1 c1 l → K (.slice a1 n1 c1) H') : Does Tryz.prog 102 [.slice a n c] H K := by
    have hn := ha.n_eq
    have hall := nRL_all ha
    refine spec_of cx_ok cx_mix rfl Tryz.func102 Tryz.call102 Tryz.ntmps102 Tryz.results102 rfl rfl ?_
    refine ⟨fun h => ?_, fun h => ?_⟩
    · have hno : a = none := by
        cases a with
        | none => rfl
        | some x => cases h
      rw [hno] at ha
      have h0 := RL_nil ha
      refine hK none 0 0 H ⟨Le.refl H, .inl ⟨rfl, by rw [h0]; rfl⟩⟩ ?_
      rw [h0]; exact rl_nil
    · obtain ⟨css, hrow, hrc⟩ := ha.row
      have hcl : css.length = l.length := hrc.1
      have e := nRows_of hrc
      refine ⟨css, hrow, ?_⟩
      refine ⟨⟨by show (0 + css.length) * 16 ≤ 140737488355328; omega, by show 0 + css.length ≤ 9223372036854775807; omega⟩, ?_⟩
      intro v H' hle hv
      rw [e] at hle hv
      refine of_row_k (α := Nm) hv (rc_eRows hall) fun a1 n1 c1 ev hr => ?_
      subst ev
      exact hK _ _ _ H' hle hr
theorem cloneN_spec {l : List Nm} (hl : l.length ≤ 1000000) {a : Option Addr} {n c : Nat} {H : Hp} {K : Value → Hp → Prop} (ha : RL H a n c l) (hK : ∀ a1 n1 c1 H', LeN 42 2 (nRows l) H (.slice a1 n1 c1) H' → RL H' a1 n1 c1 l → K (.slice a1 n1 c1) H') : Does Tryz.prog 103 [.slice a n c] H K := by
    have hn := ha.n_eq
    have hall := nRL_all ha
    refine spec_of cx_ok cx_mix rfl Tryz.func103 Tryz.call103 Tryz.ntmps103 Tryz.results103 rfl rfl ?_
    refine ⟨fun h => ?_, fun h => ?_⟩
    · have hno : a = none := by
        cases a with
        | none => rfl
        | some x => cases h
      rw [hno] at ha
      have h0 := RL_nil ha
      refine hK none 0 0 H ⟨Le.refl H, .inl ⟨rfl, by rw [h0]; rfl⟩⟩ ?_
      rw [h0]; exact rl_nil
    · obtain ⟨css, hrow, hrc⟩ := ha.row
      have hcl : css.length = l.length := hrc.1
      have e := nRows_of hrc
      refine ⟨css, hrow, ?_⟩
      refine ⟨⟨by show (0 + css.length) * 16 ≤ 140737488355328; omega, by show 0 + css.length ≤ 9223372036854775807; omega⟩, ?_⟩
      intro v H' hle hv
      rw [e] at hle hv
      refine of_row_k (α := Nm) hv (rc_eRows hall) fun a1 n1 c1 ev hr => ?_
      subst ev
      exact hK _ _ _ H' hle hr
theorem cloneVG_spec {l : List Nm} (hl : l.length ≤ 1000000) {a : Option Addr} {n c : Nat} {H : Hp} {K : SV → St → Hp → Prop} (ha : RL H a n c l)
    (hK : ∀ H', Le H H' → K (.own 0) ⟨[], [(0, .row 42 2 (nRows l))], 1⟩ H') : DoesG Tryz.prog 102 [.v (.slice a n c)] [] 0 H K := by
  refine doesG_thawR (args := [.slice a n c]) (fun _ => rfl) (cloneV_spec hl ha (K := fun v H' => LeN 42 2 (nRows l) H v H') (fun _ _ _ H' h _ => h)) ?_
  intro v H2 hle h
  exact .inr ⟨42, 2, nRows l, v, .own 0, fun ρ hρ => hρ, rfl, h.new, nRows_ok l, fun H' hle2 _ => hK H' hle2⟩
noncomputable def cxW : Cx := { P := Tryz.prog, tt := tt, n := 0, wrap := false, base := 0, gf := 102 :: cx.gf, eqs := cx.eqs, xf := [] }
theorem cxW_ok : TOK cxW := ⟨cx_ok.tt, cx_ok.eqs⟩
theorem nm_k {P : Prop} {H : Hp} {a : Option Addr} {n c : Nat} {xs : List Nm} (h : RL H a n c xs) {i : Int} (h0 : 0 ≤ i) {x : Nm} (hi : xs[i.toNat]? = some x) (k : ∀ ad, a = some ad → ElemH H ad i 2 [.int .i64 x.1, .int .i64 x.2] → P) : P :=
  edge_k h hi fun ad e he => k ad e (by rwa [Int.toNat_of_nonneg h0] at he)
theorem eat_spec {l : List Nm} {i : Int} {a : Option Addr} {n c : Nat} {H : Hp} {K : Value → Hp → Prop} (ha : RL H a n c l) (hK : K (numV (inAt l i)) H) : Does Tryz.prog 149 [.slice a n c, .int .i64 i] H K := by
  have hn := ha.n_eq
  have hmx := ha.le
  refine spec_of cx_ok cx_mix rfl Tryz.func149 Tryz.call149 Tryz.ntmps149 Tryz.results149 rfl rfl ?_
  have hlow : i < 0 → inAt l i = (0, 0) := fun h => if_pos h
  have hhigh : ¬ i < 0 → (l.length : Int) ≤ i → inAt l i = (0, 0) := fun h0 h => by rw [inAt, if_neg h0, List.getElem?_eq_none (by omega)]; rfl
  refine ⟨fun h => ?_, fun h => ?_⟩
  · have h0 : ¬ i < 0 := df h
    refine ⟨fun h => ?_, fun h => ?_⟩
    · have h1 := dt h
      rw [hhigh h0 (by omega)] at hK
      exact hK
    · have h1 := df h
      have hlt : i.toNat < l.length := by omega
      have e : inAt l i = l[i.toNat] := by rw [inAt, if_neg h0, List.getElem?_eq_getElem hlt]; rfl
      rw [e] at hK
      refine nm_k ha (by omega) (List.getElem?_eq_getElem hlt) fun ad q1 hh => ?_
      refine ⟨ad, ⟨by omega, by omega, q1⟩, ?_⟩
      refine ⟨_, hh, ?_⟩
      exact hK
  · have h0 : i < 0 := dt h
    rw [hlow h0] at hK
    exact hK
theorem with_spec {l : List Nm} (hl : l.length ≤ 1000000) {i : Int} (hi : 0 ≤ i ∧ i < (l.length : Nat)) {x : Nm} {a : Option Addr} {n c : Nat} {H : Hp} {K : Value → Hp → Prop} (ha : RL H a n c l) (hx : inI x.1 ∧ inI x.2) (hK : ∀ a1 n1 c1 H', Le H H' → RL H' a1 n1 c1 (l.set i.toNat x) → K (.slice a1 n1 c1) H') : Does Tryz.prog 150 [.slice a n c, .int .i64 i, numV x] H K := by
  have hn := ha.n_eq
  have hmx := ha.le
  have hall := nRL_all ha
  refine spec_of cxW_ok cx_mix rfl Tryz.func150 Tryz.call150 Tryz.ntmps150 Tryz.results150 rfl rfl ?_
  refine ⟨[], rfl, cloneVG_spec hl ha fun H1 hle1 => ?_⟩
  have hll : (nRows l).length = l.length := List.length_map _
  have hlt : i.toNat < l.length := by omega
  have hg : (nRows l)[i.toNat]? = some [.int .i64 l[i.toNat].1, .int .i64 l[i.toNat].2] := by rw [List.getElem?_map, List.getElem?_eq_getElem hlt]; rfl
  have e : (nRows l).set i.toNat [.int .i64 x.1, .int .i64 x.2] = nRows (l.set i.toNat x) := List.map_set.symm
  refine ⟨⟨hi.1, by rw [hll]; exact hi.2⟩, ?_⟩
  refine ⟨_, hg, ?_⟩
  intro v H' hle hv
  have hv : RowAt H' v 2 ((nRows l).set i.toNat [.int .i64 x.1, .int .i64 x.2]) := hv
  rw [e] at hv
  refine of_row_k (α := Nm) hv (rc_eRows fun y hy => ?_) fun a1 n1 c1 ev hr => ?_
  · rcases List.mem_or_eq_of_mem_set hy with hy | hy
    · exact hall y hy
    · rw [hy]; exact hx
  · subst ev
    exact hK _ _ _ _ (hle1.trans hle.le) hr
theorem value_spec {p : Prog} (hc : cnt p < 400000) {l : List Nm} {x : Atm} {a a2 : Option Addr} {n c n2 c2 : Nat} {H : Hp} {K : Value → Hp → Prop} (ha : RL H a n c p) (hb : RL H a2 n2 c2 l) (hK : K (numV (valA p l x)) H) : Does Tryz.prog 104 [.agg #[.slice a n c], .slice a2 n2 c2, .agg (atmV x).toArray] H K := by
  refine spec_of cx_ok cx_mix rfl Tryz.func104 Tryz.call104 Tryz.ntmps104 Tryz.results104 rfl rfl ?_
  refine ⟨fun h => ?_, fun h => ?_⟩
  · have h0 : x.1.l = [] := dt h
    have e : valA p l x = nOf x.2 := by rw [valA, if_pos h0]
    rw [e] at hK
    refine gof_spec ?_
    exact hK
  · have h0 : ¬ x.1.l = [] := df h
    refine var_spec ha hc fun _ _ => ?_
    have hr := vIdx_range p x.1.l
    refine ⟨fun h => ?_, fun h => ?_⟩
    · have h1 : ¬ 0 ≤ vIdx p x.1.l := nt h
      have e : valA p l x = (0, 0) := by rw [valA, if_neg h0, if_neg h1]
      rw [e] at hK
      exact hK
    · have h1 : 0 ≤ vIdx p x.1.l := nf h
      have e : valA p l x = inAt l (vIdx p x.1.l) := by rw [valA, if_neg h0, if_pos h1, inAt, if_neg (by omega)]
      have e2 : max (idxS x.1.l (varsOf p) 0) 0 = vIdx p x.1.l := by rw [vIdx] at h1 ⊢; omega
      rw [e] at hK
      rw [e2]
      refine eat_spec hb ?_
      exact hK
theorem eval_spec {p : Prog} (hc : cnt p < 400000) {l : List Nm} {x : Expr} {a a2 : Option Addr} {n c n2 c2 : Nat} {H : Hp} {K : Value → Hp → Prop} (ha : RL H a n c p) (hb : RL H a2 n2 c2 l) (hK : K (.tuple #[numV (nOp x.1 (valA p l x.2.1) (valA p l x.2.2)), .int .i64 (if opIs x.1 then 0 else 10)]) H) : Does Tryz.prog 151 [.agg #[.slice a n c], .slice a2 n2 c2, .agg (exprV x).toArray] H K := by
  refine spec_of cx_ok cx_mix rfl Tryz.func151 Tryz.call151 Tryz.ntmps151 Tryz.results151 rfl rfl ?_
  refine ⟨some ([2], [0, 1, 2, 3, 4, 5, 7, 8, 9, 10, 6, 11, 12, 13, 14, 15, 16]), by kernel_rfl, ?_⟩
  refine value_spec hc ha hb ?_
  refine value_spec hc ha hb ?_
  refine gop_spec ?_
  exact hK
end Go.Proofs
end
section
namespace Go.Proofs
open Go.Sy
set_option maxRecDepth 20000
set_option maxHeartbeats 4000000
/-! Running: statements. -/
abbrev staV (b : Int) (ae : Option Addr) (ne ce : Nat) (i : Int) (x : Value) : Value := .agg #[.int .i64 b, .slice ae ne ce, .int .i64 i, x]
theorem wrp_in (n : Int) : inI (wrp n) := by have := wrp_le n; exact ⟨by omega, by omega⟩
theorem nOf_in (a : Nm) : inI (nOf a).1 ∧ inI (nOf a).2 := ⟨wrp_in _, wrp_in _⟩
theorem nOp_in (op : Int) (a b : Nm) : inI (nOp op a b).1 ∧ inI (nOp op a b).2 := by rw [← nOp_nOf]; exact nOf_in _
theorem xcheck_spec {p : Prog} (he : checkE p = 0) (hc : stmtsN p ≤ 1000000) (hv : cnt p < 400000) {b i : Int} {l : List Nm} (hb : 0 ≤ b ∧ b < (p.length : Nat)) (hl : l.length = (varsOf p).length) (hi : 0 ≤ i) {a ae ao : Option Addr} {n c ne ce no co : Nat} {H : Hp} {K : Value → Hp → Prop}
    (ha : RL H a n c p) (hE : RL H ae ne ce l) (hK : ∀ H', Le H H' → K (.int .i64 0) H') : Does Tryz.prog 64 [.agg #[.slice a n c], staV b ae ne ce i (.slice ao no co)] H K := by
  have hn := ha.n_eq
  have hne := hE.n_eq
  refine spec_of cx_ok cx_mix rfl Tryz.func64 Tryz.call64 Tryz.ntmps64 Tryz.results64 rfl rfl ?_
  refine pcheck_spec ha hc hv fun H0 hle0 => ?_
  refine ⟨fun h => absurd he (nt h), fun _ => ?_⟩
  refine ⟨some ([], [0, 1, 2, 3, 4, 5, 6, 7, 8, 9, 10, 11, 12, 13, 14, 15, 16, 17, 18, 19, 20, 21, 22, 23, 24]), by kernel_rfl, ?_⟩
  refine ⟨fun _ => ?_, fun h => absurd (dt h) (by omega)⟩
  refine ⟨fun _ => ?_, fun h => absurd (dt h) (by omega)⟩
  refine pvars_spec ha hv fun av nv cv H1 hle1 hrv => ?_
  have hnv := hrv.n_eq
  rw [List.length_map] at hnv
  refine ⟨fun _ => ?_, fun h => absurd (show (ne : Int) = nv by omega) (nt h)⟩
  refine ⟨fun h => absurd (dt h) (by omega), fun _ => ?_⟩
  exact hK _ hle1
theorem xclone_spec {b i : Int} {l o : List Nm} (hl : l.length ≤ 1000000) (ho : o.length ≤ 1000000) {ae ao : Option Addr} {ne ce no co : Nat} {H : Hp} {K : Value → Hp → Prop} (hE : RL H ae ne ce l) (hO : RL H ao no co o)
    (hK : ∀ a1 n1 c1 a2 n2 c2 H1 H', Le H H1 → RL H1 a1 n1 c1 l → LeN 42 2 (nRows o) H1 (.slice a2 n2 c2) H' → RL H' a2 n2 c2 o → K (staV b a1 n1 c1 i (.slice a2 n2 c2)) H') : Does Tryz.prog 65 [staV b ae ne ce i (.slice ao no co)] H K := by
  refine spec_of cx_ok cx_mix rfl Tryz.func65 Tryz.call65 Tryz.ntmps65 Tryz.results65 rfl rfl ?_
  refine ⟨some ([1000000, 0], [0, 1, 3, 4, 2, 6, 5, 7, 8, 9]), by kernel_rfl, ?_⟩
  refine cloneV_spec hl hE fun a1 n1 c1 H1 hle1 hr1 => ?_
  refine cloneN_spec ho (hO.up hle1.le) fun a2 n2 c2 H2 hle2 hr2 => ?_
  exact hK _ _ _ _ _ _ _ _ hle1.le hr1 hle2 hr2
theorem xdo_spec {p : Prog} (hc : cnt p < 400000) {inn l o : List Nm} {b i : Int} {x : Stmt} (hx : stmtB x = true) (hvx : x.2.1.l ≠ [] → 0 ≤ vIdx p x.2.1.l ∧ vIdx p x.2.1.l < (l.length : Nat)) (hl : l.length ≤ 1000000) (ho : o.length ≤ 1000000) (hi : 0 ≤ i) {a ae ai : Option Addr} {n c ne ce ni ci : Nat} {H : Hp} {K : SV → St → Hp → Prop}
    (ha : RL H a n c p) (hE : RL H ae ne ce l) (hI : RL H ai ni ci inn)
    (hK : ∀ a1 n1 c1 H', Le H H' → RL H' a1 n1 c1 (doS p inn (b, l, i, o) x).2.1 → x.1 ≠ 3 → K (.agg [.v (.int .i64 b), .v (.slice a1 n1 c1), .v (.int .i64 (doS p inn (b, l, i, o) x).2.2.1), .own 0]) ⟨[], [(0, .row 42 2 (nRows o))], 1⟩ H')
    (hK3 : x.1 = 3 → K (.agg [.v (.int .i64 b), .v (.slice ae ne ce), .v (.int .i64 i), .own 6]) ⟨[], [(6, .row 42 2 (nRows (o ++ [valA p l x.2.2.2.1])))], 7⟩ H) :
    DoesG Tryz.prog 105 [.agg [.v (.slice a n c)], .agg [.v (.int .i64 b), .v (.slice ae ne ce), .v (.int .i64 i), .own 0], .agg (vL (stmtV x)), .v (.slice ai ni ci)] [(0, .row 42 2 (nRows o))] 1 H K := by
  refine spec_ofG cx_ok cx_mix Tryz.func105 Tryz.call105 Tryz.ntmps105 Tryz.results105 rfl rfl ?_
  refine var_spec ha hc fun _ _ => ?_
  rcases stmtB_var hx with ⟨h1, h2, h3, h4⟩ | ⟨h1, h4⟩ | ⟨h1, h4⟩
  · refine ⟨fun _ => ?_, fun h => absurd h1 (df h)⟩
    have hv := hvx h4
    have e2 : max (idxS x.2.1.l (varsOf p) 0) 0 = vIdx p x.2.1.l := by rw [vIdx] at hv ⊢; omega
    refine eval_spec hc ha hE ?_
    rw [e2]
    refine with_spec hl hv hE (nOp_in _ _ _) fun a1 n1 c1 H1 hle1 hr1 => ?_
    have e : doS p inn (b, l, i, o) x = (b, setAt p l x.2.1.l (nOp x.2.2.1 (valA p l x.2.2.2.1) (valA p l x.2.2.2.2)), i, o) := by rw [doS, if_pos h1]
    rw [e] at hK
    exact ⟨.agg [.v (.int .i64 b), .v (.slice a1 n1 c1), .v (.int .i64 i), .own 0], [(0, .row 42 2 (nRows o))], 1, [(0, 0)], by (repeat' (first | exact trivial | refine ⟨?_, ?_⟩ | exact rfl | assumption)), hK a1 n1 c1 H1 hle1 hr1 (by omega)⟩
  · refine ⟨fun h => absurd (dt h) (by omega), fun _ => ?_⟩
    refine ⟨fun _ => ?_, fun h => absurd h1 (df h)⟩
    have hv := hvx h4
    have e2 : max (idxS x.2.1.l (varsOf p) 0) 0 = vIdx p x.2.1.l := by rw [vIdx] at hv ⊢; omega
    refine eat_spec hI ?_
    refine ⟨some ([1000000, 2], [0, 1, 2, 3, 4, 5, 6, 7, 8, 9, 10, 11]), by kernel_rfl, ?_⟩
    refine gof_spec ?_
    rw [e2]
    refine with_spec hl hv hE (nOf_in _) fun a1 n1 c1 H1 hle1 hr1 => ?_
    have e : doS p inn (b, l, i, o) x = (b, setAt p l x.2.1.l (nOf (inAt inn i)), inNext i, o) := by rw [doS, if_neg (by omega), if_pos h1]
    rw [e] at hK
    refine ⟨⟨by omega, by omega⟩, ?_⟩
    exact ⟨.agg [.v (.int .i64 b), .v (.slice a1 n1 c1), .v (.int .i64 (inNext i)), .own 0], [(0, .row 42 2 (nRows o))], 1, [(0, 0)], by (repeat' (first | exact trivial | refine ⟨?_, ?_⟩ | exact rfl | assumption)), hK a1 n1 c1 H1 hle1 hr1 (by omega)⟩
  · refine ⟨fun h => absurd (dt h) (by omega), fun _ => ?_⟩
    refine ⟨fun h => absurd (dt h) (by omega), fun _ => ?_⟩
    refine ⟨fun _ => ?_, fun h => absurd h1 (df h)⟩
    refine ⟨some ([1000000, 0, 2], [0, 1, 2, 3, 4, 5, 6, 7, 8, 9, 10, 11, 12]), by kernel_rfl, ?_⟩
    refine value_spec hc ha hE ?_
    have hll : (nRows o).length = o.length := List.length_map _
    have e : nRows o ++ [[.int .i64 (valA p l x.2.2.2.1).1, .int .i64 (valA p l x.2.2.2.1).2]] = nRows (o ++ [valA p l x.2.2.2.1]) := by show List.map _ _ ++ [_] = List.map _ (_ ++ [_]); rw [List.map_append]; rfl
    refine ⟨⟨by show (_ + 1) * 16 ≤ 140737488355328; rw [hll]; omega, by show _ + 1 ≤ 9223372036854775807; rw [hll]; omega⟩, ?_⟩
    exact ⟨.agg [.v (.int .i64 b), .v (.slice ae ne ce), .v (.int .i64 i), .own 6], [(6, .row 42 2 (nRows (o ++ [valA p l x.2.2.2.1])))], 7, [(6, 6)], by (repeat' (first | exact trivial | refine ⟨?_, ?_⟩ | exact rfl | assumption)), hK3 h1⟩
end Go.Proofs
end
section
namespace Go.Proofs
open Go.Sy
set_option maxRecDepth 20000
set_option maxHeartbeats 4000000
/-! Running: blocks. -/
theorem xcloneG_spec {b i : Int} {l o : List Nm} (hl : l.length ≤ 1000000) (ho : o.length ≤ 1000000) {ae ao : Option Addr} {ne ce no co : Nat} {H : Hp} {K : SV → St → Hp → Prop} (hE : RL H ae ne ce l) (hO : RL H ao no co o)
    (hK : ∀ a1 n1 c1 H', Le H H' → RL H' a1 n1 c1 l → K (.agg [.v (.int .i64 b), .v (.slice a1 n1 c1), .v (.int .i64 i), .own 0]) ⟨[], [(0, .row 42 2 (nRows o))], 1⟩ H') : DoesG Tryz.prog 65 [.agg [.v (.int .i64 b), .v (.slice ae ne ce), .v (.int .i64 i), .v (.slice ao no co)]] [] 0 H K := by
  refine doesG_thawR (args := [staV b ae ne ce i (.slice ao no co)]) (fun _ => rfl) (xclone_spec hl ho hE hO (K := fun v H' => ∃ a1 n1 c1 x H1, v = staV b a1 n1 c1 i x ∧ Le H H1 ∧ RL H1 a1 n1 c1 l ∧ LeN 42 2 (nRows o) H1 x H')
    (fun a1 n1 c1 a2 n2 c2 H1 H' h1 h2 h3 _ => ⟨a1, n1, c1, _, H1, rfl, h1, h2, h3⟩)) ?_
  rintro v H2 hle ⟨a1, n1, c1, x, H1, rfl, h1, h2, h3⟩
  refine .inr ⟨42, 2, nRows o, x, .agg [.v (.int .i64 b), .v (.slice a1 n1 c1), .v (.int .i64 i), .own 0], fun ρ hρ => ?_, rfl, (LeN.base h1 h3).new, nRows_ok o, fun H' hle2 hkeep => hK a1 n1 c1 H' hle2 (h2.up fun b o hb => hkeep b o (h3.le b o hb) fun e => ?_)⟩
  · show Value.agg #[.int .i64 b, .slice a1 n1 c1, .int .i64 i, ρ.val 0] = _
    rw [hρ]
  · rcases h3.new with ⟨h4, _⟩ | ⟨g, cap, cc, h4, h5, _⟩
    · rw [h4] at e; cases e
    · rw [h4] at e
      simp only [Value.ownBlock, Option.some.injEq] at e
      subst e
      rw [h5] at hb
      cases hb
noncomputable def cxR : Cx := { P := Tryz.prog, tt := tt, n := 0, wrap := false, base := 0, gf := 65 :: 105 :: cx.gf, eqs := cx.eqs, xf := [] }
theorem cxR_ok : TOK cxR := ⟨cx_ok.tt, cx_ok.eqs⟩
theorem doAll_snoc (p : Prog) (inn : List Nm) (s : StE) {l : List Stmt} {k : Nat} {x : Stmt} (h : l[k]? = some x) : doAll p inn s (l.take (k + 1)) = doS p inn (doAll p inn s (l.take k)) x := by
  rw [doAll, List.take_add_one, h, Option.toList_some, List.foldl_append]; rfl
theorem doS_out (p : Prog) (inn : List Nm) (s : StE) (x : Stmt) : (doS p inn s x).2.2.2.length ≤ s.2.2.2.length + 1 ∧ (0 ≤ s.2.2.1 → 0 ≤ (doS p inn s x).2.2.1) := by
  unfold doS inNext
  repeat' split
  all_goals simp
  all_goals omega
theorem doAll_out (p : Prog) (inn : List Nm) : ∀ (l : List Stmt) (s : StE), (doAll p inn s l).2.2.2.length ≤ s.2.2.2.length + l.length ∧ (0 ≤ s.2.2.1 → 0 ≤ (doAll p inn s l).2.2.1)
  | [], _ => ⟨Nat.le_refl _, fun h => h⟩
  | x :: r, s => by
    have h1 := doS_out p inn s x
    have h2 := doAll_out p inn r (doS p inn s x)
    rw [doAll, List.foldl_cons, List.length_cons]
    exact ⟨by have := h2.1; unfold doAll at this; omega, fun h => h2.2 (h1.2 h)⟩
theorem doS_keep {p : Prog} {inn : List Nm} {s : StE} {x : Stmt} (h : x.1 ≠ 3) : (doS p inn s x).2.2.2 = s.2.2.2 := by
  unfold doS
  repeat' split
  all_goals first | rfl | contradiction
theorem valA_in (p : Prog) {e : List Nm} (h : ∀ y ∈ e, inI y.1 ∧ inI y.2) (a : Atm) : inI (valA p e a).1 ∧ inI (valA p e a).2 := by
  have z : inI ((0 : Int)) := ⟨by decide, by decide⟩
  unfold valA
  split
  · exact nOf_in _
  · split
    · cases hg : e[(vIdx p a.1.l).toNat]? with
      | none => exact ⟨z, z⟩
      | some y => exact h y (List.mem_of_getElem? hg)
    · exact ⟨z, z⟩
theorem doS_in (p : Prog) (inn : List Nm) (s : StE) (hE : ∀ y ∈ s.2.1, inI y.1 ∧ inI y.2) (hO : ∀ y ∈ s.2.2.2, inI y.1 ∧ inI y.2) (x : Stmt) : (∀ y ∈ (doS p inn s x).2.1, inI y.1 ∧ inI y.2) ∧ ∀ y ∈ (doS p inn s x).2.2.2, inI y.1 ∧ inI y.2 := by
  unfold doS setAt
  split
  · refine ⟨fun y hy => ?_, hO⟩
    rcases List.mem_or_eq_of_mem_set hy with hy | hy
    · exact hE y hy
    · rw [hy]; exact nOp_in _ _ _
  · split
    · refine ⟨fun y hy => ?_, hO⟩
      rcases List.mem_or_eq_of_mem_set hy with hy | hy
      · exact hE y hy
      · rw [hy]; exact nOf_in _
    · split
      · refine ⟨hE, fun y hy => ?_⟩
        rcases List.mem_append.1 hy with hy | hy
        · exact hO y hy
        · rw [List.mem_singleton.1 hy]; exact valA_in p hE _
      · exact ⟨hE, hO⟩
theorem doAll_in (p : Prog) (inn : List Nm) : ∀ (l : List Stmt) (s : StE), (∀ y ∈ s.2.1, inI y.1 ∧ inI y.2) → (∀ y ∈ s.2.2.2, inI y.1 ∧ inI y.2) → ∀ y ∈ (doAll p inn s l).2.2.2, inI y.1 ∧ inI y.2
  | [], _, _, h => h
  | x :: r, s, h1, h2 => by
    have h3 := doS_in p inn s h1 h2 x
    exact doAll_in p inn r (doS p inn s x) h3.1 h3.2
theorem run_spec {p : Prog} (hc : cnt p < 400000) {inn : List Nm} {s : StE} {q : Block} (h0 : 0 ≤ s.1) (hq : p[s.1.toNat]? = some q) (hst : ∀ x ∈ q.2.1, stmtB x = true) (hl : s.2.1.length = (varsOf p).length) (hvl : (varsOf p).length ≤ 1000) (ho : s.2.2.2.length + q.2.1.length ≤ 1000000) (hi : 0 ≤ s.2.2.1)
    {a ae ao ai : Option Addr} {n c ne ce no co ni ci : Nat} {H : Hp} {K : Value → Hp → Prop} (ha : RL H a n c p) (hE : RL H ae ne ce s.2.1) (hO : RL H ao no co s.2.2.2) (hI : RL H ai ni ci inn)
    (hK : ∀ a1 n1 c1 a2 n2 c2 H', Le H H' → RL H' a1 n1 c1 (runB p inn s).2.1 → RL H' a2 n2 c2 (runB p inn s).2.2.2 → K (staV s.1 a1 n1 c1 (runB p inn s).2.2.1 (.slice a2 n2 c2)) H') :
    Does Tryz.prog 67 [.agg #[.slice a n c], staV s.1 ae ne ce s.2.2.1 (.slice ao no co), .slice ai ni ci] H K := by
  obtain ⟨b, l, i, o⟩ := s
  dsimp only at h0 hl ho hi hE hO ⊢
  have hn := ha.n_eq
  have hmx := ha.le
  have hblt := (List.getElem?_eq_some_iff.1 hq).1
  refine spec_of cxR_ok cx_mix rfl Tryz.func67 Tryz.call67 Tryz.ntmps67 Tryz.results67 rfl rfl ?_
  refine ⟨[], rfl, xcloneG_spec (by omega) (by omega) hE hO fun a1 n1 c1 H1 hle1 hr1 => ?_⟩
  refine block_kI (ha.up hle1) h0 hq fun ad a5 n5 c5 q1 hh hr5 _ _ => ?_
  refine ⟨ad, ⟨by omega, by omega, q1⟩, ?_⟩
  refine ⟨_, hh, ?_⟩
  have hn5 := hr5.n_eq
  have hmx5 := hr5.le
  have hqm := List.mem_of_getElem? hq
  have hrb : runB p inn (b, l, i, o) = doAll p inn (b, l, i, o) q.2.1 := by rw [runB, blkN_get hq]
  rw [hrb] at hK
  refine ⟨Nat × StE × (Option Addr × Nat × Nat), fun z => ⟨[(2, .v (.slice ai ni ci)), (3, .ptr 0 0), (4, .ptr 1 0), (6, .ptr 2 0), (17, .v (.slice a5 n5 c5)), (18, .v (.int .i64 n5)), (19, .v (.int .i64 z.1))],
      [(0, .cells 24 [.v (.slice a n c)]), (1, .cells 40 [.v (.int .i64 b), .v (.slice z.2.2.1 z.2.2.2.1 z.2.2.2.2), .v (.int .i64 z.2.1.2.2.1), .own 3]), (2, .cells 40 [.v (.int .i64 0), .v (.slice none 0 0), .v (.int .i64 0), .v (.slice none 0 0)]), (3, .row 42 2 (nRows z.2.1.2.2.2))], 4⟩,
    fun z H' => Le H H' ∧ z.1 ≤ q.2.1.length ∧ z.2.1 = doAll p inn (b, l, i, o) (q.2.1.take z.1) ∧ RL H' z.2.2.1 z.2.2.2.1 z.2.2.2.2 z.2.1.2.1, fun z => q.2.1.length - z.1, ⟨(0, (b, l, i, o), (a1, n1, c1)), [(0, 0), (1, 1), (2, 2), (3, 3)], ?_, hle1, Nat.zero_le _, rfl, hr1⟩, ?_⟩
  · (repeat' (first | exact trivial | refine ⟨?_, ?_⟩ | exact rfl | assumption))
  rintro ⟨k, st, a6, n6, c6⟩ H2 _ ⟨hle2, hk, hst2, hr6⟩
  dsimp only at hk hst2 hr6
  have hz := doAll_blk p inn (q.2.1.take k) (b, l, i, o)
  have hz2 := doAll_out p inn (q.2.1.take k) (b, l, i, o)
  rw [← hst2] at hz hz2
  obtain ⟨b', l', i', o'⟩ := st
  dsimp only at hr6 hz hz2 hst2 ⊢
  have hb' : b' = b := hz.1
  refine ⟨fun h => ?_, fun h => ?_⟩
  · have hlt : k < q.2.1.length := by have := dt h; omega
    refine name_k q.2.1[k] fun x hxe => ?_
    have hxx : q.2.1[k]? = some x := by rw [hxe]; exact List.getElem?_eq_getElem hlt
    have hxm := List.mem_of_getElem? hxx
    have hstep := doAll_snoc p inn (b, l, i, o) hxx
    rw [← hst2, hb'] at hstep
    have hz3 := hz2.1
    rw [List.length_take] at hz3
    have hvx : x.2.1.l ≠ [] → 0 ≤ vIdx p x.2.1.l ∧ vIdx p x.2.1.l < (l'.length : Nat) := fun hne => by
      rw [hz.2, hl]
      exact vIdx_stmt hqm hxm (by simp) hne
    have h12 : Le H1 H2 := by assumption
    refine stmt_k (hr5.up h12) hxx fun ad e1 hh1 hR => ?_
    refine ⟨ad, ⟨by omega, by omega, e1⟩, ?_⟩
    refine ⟨_, hh1, ?_⟩
    refine ⟨[3], rfl, xdo_spec hc (inn := inn) (o := o') (hst x hxm) hvx (by rw [hz.2, hl]; omega) (by omega) (hz2.2 hi) (ha.up hle2) hr6 (hI.up hle2) (fun a7 n7 c7 H3 hle3 hr7 h3 => ?_) (fun h3 => ?_)⟩
    · have ho3 : (doS p inn (b, l', i', o') x).2.2.2 = o' := doS_keep h3
      have hb3 := (doS_blk p inn (b, l', i', o') x).1
      refine ⟨⟨by omega, by omega⟩, (k + 1, doS p inn (b, l', i', o') x, (a7, n7, c7)), [(0, 0), (1, 1), (2, 2), (3, 3)], ?_, ⟨hle2.trans hle3, hlt, hstep.symm, hr7⟩, by dsimp only; omega⟩
      dsimp only
      rw [ho3]
      (repeat' (first | exact trivial | refine ⟨?_, ?_⟩ | exact rfl | assumption))
    · have e3 : doS p inn (b, l', i', o') x = (b, l', i', o' ++ [valA p l' x.2.2.2.1]) := by rw [doS, if_neg (by omega), if_neg (by omega), if_pos h3]
      rw [e3] at hstep
      refine ⟨⟨by omega, by omega⟩, (k + 1, (b, l', i', o' ++ [valA p l' x.2.2.2.1]), (a6, n6, c6)), [(0, 0), (1, 1), (2, 2), (3, 10)], ?_, ⟨hle2, hlt, hstep.symm, hr6⟩, by dsimp only; omega⟩
      (repeat' (first | exact trivial | refine ⟨?_, ?_⟩ | exact rfl | assumption))
  · have hkl : k = q.2.1.length := by have := df h; omega
    rw [hkl, List.take_length] at hst2
    rw [← hst2] at hK
    intro v H' hle hv
    refine of_row_k (α := Nm) hv (rc_eRows fun y hy => ?_) fun a8 n8 c8 ev hr => ?_
    · have := doAll_in p inn q.2.1 (b, l, i, o) (nRL_all hE) (nRL_all hO)
      rw [← hst2] at this
      exact this y hy
    · subst ev
      exact hK _ _ _ _ _ _ _ (hle2.trans hle.le) (hr6.up hle.le) hr
theorem nm_zero {a : Nm} : (decide (a.1 = 0) && (decide (a.2 = 0) && true)) = true ↔ a = (0, 0) := by
  obtain ⟨x, y⟩ := a
  simp
theorem follow_spec {p : Prog} (hc : cnt p < 400000) (hp : p.length ≤ 12) {s : StE} {q : Block} (h0 : 0 ≤ s.1) (hq : p[s.1.toNat]? = some q)
    {a ae ao : Option Addr} {n c ne ce no co : Nat} {H : Hp} {K : Value → Hp → Prop} (ha : RL H a n c p) (hE : RL H ae ne ce s.2.1)
    (hK : K (.tuple #[staV (folS p s).1.1 ae ne ce s.2.2.1 (.slice ao no co), .bool (folS p s).2]) H) :
    Does Tryz.prog 66 [.agg #[.slice a n c], staV s.1 ae ne ce s.2.2.1 (.slice ao no co)] H K := by
  obtain ⟨b, l, i, o⟩ := s
  dsimp only at h0 hq hE ⊢
  have hn := ha.n_eq
  have hmx := ha.le
  have hblt := (List.getElem?_eq_some_iff.1 hq).1
  have hbk := blkN_get hq
  have hkind : ∀ t : Term, t = q.2.2 → (q.2.2.1 = 3 → folS p (b, l, i, o) = ((b, l, i, o), false)) ∧ (q.2.2.1 ≠ 3 → folS p (b, l, i, o) = ((bIdx p (goTo p (b, l, i, o) q.2.2), l, i, o), true)) := fun _ _ =>
    ⟨fun h => by rw [folS]; dsimp only; rw [hbk, if_pos h], fun h => by rw [folS]; dsimp only; rw [hbk, if_neg h]⟩
  have hkind := hkind _ rfl
  refine spec_of cx_ok cx_mix rfl Tryz.func66 Tryz.call66 Tryz.ntmps66 Tryz.results66 rfl rfl ?_
  refine block_kI ha h0 hq fun ad a5 n5 c5 q1 hh _ _ _ => ?_
  refine ⟨ad, ⟨by omega, by omega, q1⟩, ?_⟩
  refine ⟨_, hh, ?_⟩
  refine ⟨fun h => ?_, fun h => ?_⟩
  · have h3 := dt h
    rw [hkind.1 h3] at hK
    exact hK
  have h3 := df h
  rw [hkind.2 h3] at hK
  refine ⟨fun h => ?_, fun h => ?_⟩
  · have h2 := dt h
    refine value_spec hc ha hE ?_
    refine ⟨fun h => ?_, fun h => ?_⟩
    · have hz : valA p l q.2.2.2.1 = (0, 0) := nm_zero.1 h
      have hgo : goTo p (b, l, i, o) q.2.2 = q.2.2.2.2.2.l := by rw [goTo, if_pos ⟨h2, hz⟩]
      rw [hgo, bIdx] at hK
      refine block_spec hp ha fun _ _ => ?_
      exact hK
    · have hz : ¬ valA p l q.2.2.2.1 = (0, 0) := fun e => by rw [nm_zero.2 e] at h; cases h
      have hgo : goTo p (b, l, i, o) q.2.2 = q.2.2.2.2.1.l := by rw [goTo, if_neg (fun hh => hz hh.2)]
      rw [hgo, bIdx] at hK
      refine block_spec hp ha fun _ _ => ?_
      exact hK
  · have h2 := df h
    have hgo : goTo p (b, l, i, o) q.2.2 = q.2.2.2.2.1.l := by rw [goTo, if_neg (fun hh => h2 hh.1)]
    rw [hgo, bIdx] at hK
    refine block_spec hp ha fun _ _ => ?_
    exact hK
end Go.Proofs
end
section
namespace Go.Proofs
open Go.Sy
set_option maxRecDepth 20000
set_option maxHeartbeats 4000000
/-! Running: whole runs. -/
def goodS (p : Prog) (s : StE) : Prop := (0 ≤ s.1 ∧ s.1 < (p.length : Nat)) ∧ s.2.1.length = (varsOf p).length ∧ 0 ≤ s.2.2.1 ∧ s.2.2.1 ≤ 9223372036854775807
theorem doS_in2 (p : Prog) (inn : List Nm) (s : StE) (x : Stmt) (h : s.2.2.1 ≤ 9223372036854775807) : (doS p inn s x).2.2.1 ≤ 9223372036854775807 := by
  unfold doS inNext
  repeat' split
  all_goals (first | omega | (dsimp only; omega))
theorem doAll_in2 (p : Prog) (inn : List Nm) : ∀ (l : List Stmt) (s : StE), s.2.2.1 ≤ 9223372036854775807 → (doAll p inn s l).2.2.1 ≤ 9223372036854775807
  | [], _, h => h
  | x :: r, s, h => doAll_in2 p inn r (doS p inn s x) (doS_in2 p inn s x h)
theorem goodS_run {p : Prog} {inn : List Nm} {s : StE} (h : goodS p s) : goodS p (runB p inn s) := by
  have h1 := doAll_blk p inn (blkN p s.1).2.1 s
  have h2 := doAll_out p inn (blkN p s.1).2.1 s
  have h3 := doAll_in2 p inn (blkN p s.1).2.1 s h.2.2.2
  rw [runB]
  exact ⟨by rw [h1.1]; exact h.1, by rw [h1.2]; exact h.2.1, h2.2 h.2.2.1, h3⟩
theorem goodS_step {p : Prog} {inn : List Nm} {s : StE} (h : goodS p s) : goodS p (folS p (runB p inn s)).1 := by
  have h1 := goodS_run (inn := inn) h
  unfold folS
  split
  · exact h1
  · exact ⟨bIdx_range p _ (by have := h.1; omega), h1.2⟩
theorem goodS_it {p : Prog} {inn : List Nm} {s : StE} (h : goodS p s) : ∀ k, goodS p (itS p inn s k).2.1
  | 0 => h
  | k + 1 => by
    have h1 := goodS_it (inn := inn) h k
    rw [itS]
    split
    · exact goodS_step h1
    · exact h1
theorem le_stmts : ∀ {p : Prog} {b : Block}, b ∈ p → b.2.1.length ≤ stmtsN p
  | [], _, h => by cases h
  | x :: r, b, h => by
    unfold stmtsN
    rw [List.map_cons, List.sum_cons]
    rcases List.mem_cons.1 h with rfl | h
    · omega
    · have := le_stmts h
      unfold stmtsN at this
      omega
theorem stmts_512 {p : Prog} (h : checkE p = 0) : stmtsN p ≤ 512 := by
  unfold checkE at h
  split at h
  · cases h
  · omega
theorem fol_out (p : Prog) (s : StE) : (folS p s).1.2.2.2 = s.2.2.2 ∧ (folS p s).1.2.1 = s.2.1 ∧ (folS p s).1.2.2.1 = s.2.2.1 := by
  unfold folS
  split <;> exact ⟨rfl, rfl, rfl⟩
theorem blkN_mem {p : Prog} {s : StE} (h : goodS p s) : ∃ q, p[s.1.toNat]? = some q ∧ blkN p s.1 = q ∧ q ∈ p := by
  have hlt : s.1.toNat < p.length := by have := h.1; omega
  exact ⟨p[s.1.toNat], List.getElem?_eq_getElem hlt, blkN_get (List.getElem?_eq_getElem hlt), List.getElem_mem hlt⟩
theorem out_run {p : Prog} {inn : List Nm} {s : StE} (h : goodS p s) : (runB p inn s).2.2.2.length ≤ s.2.2.2.length + stmtsN p := by
  obtain ⟨q, _, e, hm⟩ := blkN_mem h
  have h1 := (doAll_out p inn q.2.1 s).1
  have h2 := le_stmts hm
  rw [runB, e]
  omega
theorem out_it {p : Prog} {inn : List Nm} {s : StE} (h : goodS p s) : ∀ k, (itS p inn s k).2.1.2.2.2.length ≤ s.2.2.2.length + k * stmtsN p
  | 0 => by simp [itS]
  | k + 1 => by
    have h1 := out_it (inn := inn) h k
    have h2 := out_run (inn := inn) (goodS_it (inn := inn) h k)
    rw [itS, Nat.add_mul, Nat.one_mul]
    split
    · rw [(fol_out p _).1]; omega
    · omega
theorem sta_mk {H : Hp} {s : StE} {a1 a2 : Option Addr} {n1 c1 n2 c2 : Nat} (h1 : inI s.1) (h2 : inI s.2.2.1) (hE : RL H a1 n1 c1 s.2.1) (hO : RL H a2 n2 c2 s.2.2.2) : Enc.R H [.int .i64 s.1, .slice a1 n1 c1, .int .i64 s.2.2.1, .slice a2 n2 c2] s :=
  ⟨[_], [_, _, _], rfl, ⟨rfl, h1⟩, [_], [_, _], rfl, ⟨_, _, _, rfl, hE⟩, [_], [_], rfl, ⟨rfl, h2⟩, ⟨_, _, _, rfl, hO⟩⟩
theorem sta_k {P : Prop} {H : Hp} {a : Option Addr} {n c : Nat} {xs : List StE} (h : RL H a n c xs) {i : Nat} {x : StE} (hi : xs[i]? = some x) (k : ∀ ad a1 n1 c1 a2 n2 c2, a = some ad → ElemH H ad (i : Int) 4 [.int .i64 x.1, .slice a1 n1 c1, .int .i64 x.2.2.1, .slice a2 n2 c2] → RL H a1 n1 c1 x.2.1 → RL H a2 n2 c2 x.2.2.2 → P) : P :=
  elem_k h hi fun ad cs h1 h2 h3 => by
    obtain ⟨x1, x2, rfl, ⟨rfl, _⟩, y1, y2, rfl, ⟨a1, n1, c1, rfl, hE⟩, z1, z2, rfl, ⟨rfl, _⟩, ⟨a2, n2, c2, rfl, hO⟩⟩ := h3
    exact k ad a1 n1 c1 a2 n2 c2 h1 h2 hE hO
theorem from_spec {p : Prog} (he : checkE p = 0) (hp : p.length ≤ 12) (hc : stmtsN p ≤ 1000000) (hv : cnt p < 400000) {inn : List Nm} {s : StE} (hs : goodS p s) (ho : s.2.2.2.length ≤ 100000) {most : Int} (hm : most ≤ 40)
    {a ae ao ai : Option Addr} {n c ne ce no co ni ci : Nat} {H : Hp} {K : Value → Hp → Prop} (ha : RL H a n c p) (hE : RL H ae ne ce s.2.1) (hO : RL H ao no co s.2.2.2) (hI : RL H ai ni ci inn)
    (hK : ∀ a1 n1 c1 a2 n2 c2 H', Le H H' → RL H' a1 n1 c1 (itS p inn s most.toNat).1 → RL H' a2 n2 c2 (itS p inn s most.toNat).2.1.2.2.2 → K (.tuple #[.agg #[.slice a1 n1 c1, .slice a2 n2 c2, .bool (!(itS p inn s most.toNat).2.2)], .int .i64 0]) H') :
    Does Tryz.prog 30 [.agg #[.slice a n c], staV s.1 ae ne ce s.2.2.1 (.slice ao no co), .slice ai ni ci, .int .i64 most] H K := by
  have hn := ha.n_eq
  have hmx := ha.le
  have hf := check_facts he
  have hst5 := stmts_512 he
  refine spec_of cx_ok cx_mix rfl Tryz.func30 Tryz.call30 Tryz.ntmps30 Tryz.results30 rfl rfl ?_
  have hmm : min (max most 0) 4096 = (most.toNat : Int) := by omega
  refine .inr ⟨Nat × List (List Value) × StE × Bool × (Option Addr × Nat × Nat) × (Option Addr × Nat × Nat), fun _ => 0, fun z => ⟨[(2, .v (.slice ai ni ci)), (3, .v (.int .i64 (min (max most 0) 4096))), (4, .ptr 0 0), (5, .ptr 1 0), (8, .ptr 2 0), (11, .ptr 3 0), (12, .v (.bool z.2.2.2.1))],
      [(0, .cells 24 [.v (.slice a n c)]), (1, .cells 40 [.v (.int .i64 z.2.2.1.1), .v (.slice z.2.2.2.2.1.1 z.2.2.2.2.1.2.1 z.2.2.2.2.1.2.2), .v (.int .i64 z.2.2.1.2.2.1), .v (.slice z.2.2.2.2.2.1 z.2.2.2.2.2.2.1 z.2.2.2.2.2.2.2)]), (2, .cells 31 [.v (.slice none 0 0), .v (.slice none 0 0), .v (.bool false)]), (3, .cells 31 [.own 4, .v (.slice none 0 0), .v (.bool false)]), (4, .row 40 4 z.2.1)], 5⟩,
    fun z H' => Le H H' ∧ z.1 ≤ most.toNat ∧ itS p inn s z.1 = (((itS p inn s z.1).1), z.2.2.1, z.2.2.2.1) ∧ RC (α := StE) H' z.2.1 (itS p inn s z.1).1 ∧ RL H' z.2.2.2.2.1.1 z.2.2.2.2.1.2.1 z.2.2.2.2.1.2.2 z.2.2.1.2.1 ∧ RL H' z.2.2.2.2.2.1 z.2.2.2.2.2.2.1 z.2.2.2.2.2.2.2 z.2.2.1.2.2.2, fun z => most.toNat - z.1, ?_, ?_⟩
  · refine xcheck_spec he hc hv hs.1 hs.2.1 hs.2.2.1 ha hE fun _ _ => ?_
    refine ⟨fun h => absurd rfl (nt h), fun _ => ?_⟩
    have hE1 := hs.2.1
    refine xclone_spec (by omega) (by omega) hE hO fun a1 n1 c1 a2 n2 c2 H0 H1 hle0 hr0 hle1 hr2 => ?_
    have hle : Le H H1 := hle0.trans hle1.le
    have hr1 := hr0.up hle1.le
    have hgd := hs
    have hit : itS p inn s 0 = ([], s, true) := rfl
    have hrc : RC (α := StE) H1 [] ([] : List StE) := RC.nil
    have hcl : ([] : List (List Value)).length = 0 := rfl
    refine ⟨fun h => ?_, fun h => ?_⟩
    · have hlt : 0 < most.toNat := by have := dt h; omega
      refine ⟨some ([1000000, 3], [0, 1, 2, 3, 4, 5, 6, 7]), by kernel_rfl, ?_⟩
      obtain ⟨qq, hq, hbq, hqm⟩ := blkN_mem hgd
      have hst := block_stmts (hf.2.2.2 qq hqm)
      have hqs := le_stmts hqm
      refine xclone_spec (l := s.2.1) (o := s.2.2.2) (by omega) (by omega) hr1 hr2 fun a3 n3 c3 a4 n4 c4 H2 H3 hle2 hr3 hle3 hr4 => ?_
      have h13 : Le H1 H3 := hle2.trans hle3.le
      refine ⟨⟨by show ([].length + 1) * 64 ≤ 140737488355328; omega, by show [].length + 1 ≤ 9223372036854775807; omega⟩, ?_⟩
      refine ⟨some ([1000000, 1], [0, 1, 2, 3, 4, 5, 6, 7, 8, 9, 10]), by kernel_rfl, ?_⟩
      refine run_spec (s := s) hv hgd.1.1 hq hst hE1 (by omega) (by omega) hgd.2.2.1 (ha.up (hle.trans h13)) (hr1.up h13) (hr2.up h13) (hI.up (hle.trans h13)) fun a5 n5 c5 a6 n6 c6 H4 hle4 hr5 hr6 => ?_
      have hgr := goodS_run (inn := inn) hgd
      have hb1 : (runB p inn s).1 = s.1 := (doAll_blk p inn _ s).1
      rw [← hb1]
      refine follow_spec (s := runB p inn s) hv hp hgr.1.1 (by rw [hb1]; exact hq) (ha.up ((hle.trans h13).trans hle4)) hr5 ?_
      have hfo := fol_out p (runB p inn s)
      have e : SV.v (.int .i64 (runB p inn s).2.2.1) = SV.v (.int .i64 (folS p (runB p inn s)).1.2.2.1) := by rw [hfo.2.2]
      have hstp := itS_step (p := p) (inn := inn) (s0 := s) (k := 0) (by rw [hit])
      have h14 := h13.trans hle4
      have hrow : RC (α := StE) H4 ([] ++ [[.int .i64 (runB p inn s).1, .slice a3 n3 c3, .int .i64 s.2.2.1, .slice a4 n4 c4]]) (itS p inn s (0 + 1)).1 := by
        rw [hstp, hit, hb1]
        have g1 := hgd.1
        have g2 := hgd.2.2
        exact (hrc.up h14).snoc (sta_mk ⟨by omega, by omega⟩ ⟨by omega, by omega⟩ (hr3.up (hle3.le.trans hle4)) (hr4.up hle4))
      refine ⟨(0 + 1, [] ++ [[.int .i64 (runB p inn s).1, .slice a3 n3 c3, .int .i64 s.2.2.1, .slice a4 n4 c4]], (folS p (runB p inn s)).1, (folS p (runB p inn s)).2, (a5, n5, c5), (a6, n6, c6)), [(0, 0), (1, 1), (2, 2), (3, 3), (4, 5)], rfl, ?_, ⟨hle.trans h14, hlt, ?_, hrow, ?_, ?_⟩⟩
      · (repeat' (first | exact trivial | refine ⟨?_, ?_⟩ | exact rfl | assumption))
      · rw [hstp, hit]
      · rw [hfo.2.1]; exact hr5
      · rw [hfo.1]; exact hr6
    · have hlt : most.toNat = 0 := by have := df h; omega
      rw [hlt] at hK
      exact hK none 0 0 a2 n2 c2 H1 hle rl_nil hr2
  · rintro ⟨k, css, st, g, ⟨a1, n1, c1⟩, ⟨a2, n2, c2⟩⟩ H1 _ ⟨hle, hk, hit, hrc, hr1, hr2⟩
    dsimp only at hk hit hrc hr1 hr2
    have hgd : goodS p st := by have := goodS_it (inn := inn) hs k; rw [hit] at this; exact this
    have hol : st.2.2.2.length ≤ 100000 + 40 * 512 := by
      have h1 := out_it (inn := inn) hs k
      rw [hit] at h1
      have h2 : k * stmtsN p ≤ 40 * 512 := Nat.mul_le_mul (by omega) hst5
      have h1 : st.2.2.2.length ≤ s.2.2.2.length + k * stmtsN p := h1
      omega
    have hcl : css.length = (itS p inn s k).1.length := hrc.1
    have hle4 := itS_le (p := p) (inn := inn) (s0 := s) k
    refine ⟨fun h => ?_, fun h => ?_⟩
    · have hgt : g = true := h
      subst hgt
      have hkl : (itS p inn s k).1.length = k := itS_len k (by rw [hit])
      have hE1 := hgd.2.1
      refine ⟨fun h => ?_, fun h => ?_⟩
      · have hlt : k < most.toNat := by have := dt h; dsimp only at this; omega
        refine ⟨some ([1000000, 3, 4], [0, 1, 2, 3, 4, 5, 6, 7]), by kernel_rfl, ?_⟩
        obtain ⟨qq, hq, hbq, hqm⟩ := blkN_mem hgd
        have hst := block_stmts (hf.2.2.2 qq hqm)
        have hqs := le_stmts hqm
        refine xclone_spec (l := st.2.1) (o := st.2.2.2) (by omega) (by omega) hr1 hr2 fun a3 n3 c3 a4 n4 c4 H2 H3 hle2 hr3 hle3 hr4 => ?_
        have h13 : Le H1 H3 := hle2.trans hle3.le
        refine ⟨⟨by show (css.length + 1) * 64 ≤ 140737488355328; omega, by show css.length + 1 ≤ 9223372036854775807; omega⟩, ?_⟩
        refine ⟨some ([1000000, 1], [0, 1, 2, 3, 4, 5, 6, 7, 8, 9, 10]), by kernel_rfl, ?_⟩
        refine run_spec (s := st) hv hgd.1.1 hq hst hE1 (by omega) (by omega) hgd.2.2.1 (ha.up (hle.trans h13)) (hr1.up h13) (hr2.up h13) (hI.up (hle.trans h13)) fun a5 n5 c5 a6 n6 c6 H4 hle4 hr5 hr6 => ?_
        have hgr := goodS_run (inn := inn) hgd
        have hb1 : (runB p inn st).1 = st.1 := (doAll_blk p inn _ st).1
        rw [← hb1]
        refine follow_spec (s := runB p inn st) hv hp hgr.1.1 (by rw [hb1]; exact hq) (ha.up ((hle.trans h13).trans hle4)) hr5 ?_
        have hfo := fol_out p (runB p inn st)
        have e : SV.v (.int .i64 (runB p inn st).2.2.1) = SV.v (.int .i64 (folS p (runB p inn st)).1.2.2.1) := by rw [hfo.2.2]
        have hstp := itS_step (p := p) (inn := inn) (s0 := s) (k := k) (by rw [hit])
        have h14 := h13.trans hle4
        have hrow : RC (α := StE) H4 (css ++ [[.int .i64 (runB p inn st).1, .slice a3 n3 c3, .int .i64 st.2.2.1, .slice a4 n4 c4]]) (itS p inn s (k + 1)).1 := by
          rw [hstp, hit, hb1]
          have g1 := hgd.1
          have g2 := hgd.2.2
          exact (hrc.up h14).snoc (sta_mk ⟨by omega, by omega⟩ ⟨by omega, by omega⟩ (hr3.up (hle3.le.trans hle4)) (hr4.up hle4))
        refine ⟨(k + 1, css ++ [[.int .i64 (runB p inn st).1, .slice a3 n3 c3, .int .i64 st.2.2.1, .slice a4 n4 c4]], (folS p (runB p inn st)).1, (folS p (runB p inn st)).2, (a5, n5, c5), (a6, n6, c6)), [(0, 0), (1, 1), (2, 2), (3, 3), (4, 6)], rfl, ?_, ⟨hle.trans h14, hlt, ?_, hrow, ?_, ?_⟩, by dsimp only; omega⟩
        · (repeat' (first | exact trivial | refine ⟨?_, ?_⟩ | exact rfl | assumption))
        · rw [hstp, hit]
        · rw [hfo.2.1]; exact hr5
        · rw [hfo.1]; exact hr6
      · have hge : most.toNat = k := by have := df h; dsimp only at this; omega
        rw [hge, hit] at hK
        intro v H5 hle5 hv5
        refine of_row_k (α := StE) hv5 (hrc.up hle5.le) fun a7 n7 c7 ev hr7 => ?_
        subst ev
        exact hK _ _ _ _ _ _ _ (hle.trans hle5.le) hr7 (hr2.up hle5.le)
    · have hgf : g = false := h
      subst hgf
      have hend := itS_end (p := p) (inn := inn) (s0 := s) (k := k) (by rw [hit]) (most.toNat - k)
      rw [show k + (most.toNat - k) = most.toNat by omega] at hend
      rw [hend, hit] at hK
      intro v H5 hle5 hv5
      refine of_row_k (α := StE) hv5 (hrc.up hle5.le) fun a7 n7 c7 ev hr7 => ?_
      subst ev
      exact hK _ _ _ _ _ _ _ (hle.trans hle5.le) hr7 (hr2.up hle5.le)
end Go.Proofs
end
section
namespace Go.Proofs
open Go.Sy
set_option maxRecDepth 20000
set_option maxHeartbeats 4000000
/-! Running from the start. -/
theorem start_spec {p : Prog} (he : checkE p = 0) (hv : cnt p < 400000) {a : Option Addr} {n c : Nat} {H : Hp} {K : Value → Hp → Prop} (ha : RL H a n c p)
    (hK : ∀ a1 n1 c1 H', Le H H' → RL H' a1 n1 c1 (start0 p).2.1 → K (staV 0 a1 n1 c1 0 (.slice none 0 0)) H') : Does Tryz.prog 31 [.agg #[.slice a n c]] H K := by
  have hf := check_facts he
  refine spec_of cx_ok cx_mix rfl Tryz.func31 Tryz.call31 Tryz.ntmps31 Tryz.results31 rfl rfl ?_
  refine pvars_spec ha hv fun av nv cv H1 hle1 hrv => ?_
  have hnv := hrv.n_eq
  rw [List.length_map] at hnv
  refine ⟨⟨rfl, by omega, by show (nv : Int) * 16 ≤ _; omega, by omega⟩, ?_⟩
  intro v H' hle hv2
  have e : List.replicate (nv : Int).toNat [Value.int .i64 0, Value.int .i64 0] = nRows (start0 p).2.1 := by
    show _ = List.map _ (List.replicate _ _)
    rw [List.map_replicate, Int.toNat_natCast, hnv]
  have hv2 : RowAt H' v 2 (List.replicate (nv : Int).toNat [Value.int .i64 0, Value.int .i64 0]) := hv2
  rw [e] at hv2
  refine of_row_k (α := Nm) hv2 (rc_eRows fun y hy => ?_) fun a1 n1 c1 ev hr => ?_
  · rw [(List.mem_replicate.1 hy).2]; exact ⟨⟨by decide, by decide⟩, ⟨by decide, by decide⟩⟩
  · subst ev
    exact hK _ _ _ _ (hle1.trans hle.le) hr
theorem goodS_start {p : Prog} (he : checkE p = 0) : goodS p (start0 p) := by
  have hf := check_facts he
  exact ⟨⟨Int.le_refl _, by show (0 : Int) < _; omega⟩, by simp [start0], Int.le_refl _, (by show (0 : Int) ≤ 9223372036854775807; decide)⟩
theorem all_spec {p : Prog} (he : checkE p = 0) (hp : p.length ≤ 12) (hc : stmtsN p ≤ 1000000) (hv : cnt p < 400000) {inn : List Nm} {most : Int} (hm : most ≤ 40)
    {a ai : Option Addr} {n c ni ci : Nat} {H : Hp} {K : Value → Hp → Prop} (ha : RL H a n c p) (hI : RL H ai ni ci inn)
    (hK : ∀ a1 n1 c1 a2 n2 c2 H', Le H H' → RL H' a1 n1 c1 (itS p inn (start0 p) most.toNat).1 → RL H' a2 n2 c2 (itS p inn (start0 p) most.toNat).2.1.2.2.2 → K (.tuple #[.agg #[.slice a1 n1 c1, .slice a2 n2 c2, .bool (!(itS p inn (start0 p) most.toNat).2.2)], .int .i64 0]) H') :
    Does Tryz.prog 9 [.agg #[.slice a n c], .slice ai ni ci, .int .i64 most] H K := by
  refine spec_of cx_ok cx_mix rfl Tryz.func9 Tryz.call9 Tryz.ntmps9 Tryz.results9 rfl rfl ?_
  refine ⟨some ([1], [0, 1, 3, 4, 2, 5, 6, 7, 8, 9]), by kernel_rfl, ?_⟩
  refine start_spec he hv ha fun a1 n1 c1 H1 hle1 hr1 => ?_
  refine from_spec he hp hc hv (s := start0 p) (goodS_start he) (by simp [start0]) hm (ha.up hle1) hr1 rl_nil (hI.up hle1) fun a2 n2 c2 a3 n3 c3 H2 hle2 hr2 hr3 => ?_
  exact hK _ _ _ _ _ _ _ (hle1.trans hle2) hr2 hr3
end Go.Proofs
end
section
namespace Go.Proofs
open Go.Sy
set_option maxRecDepth 20000
set_option maxHeartbeats 4000000
/-! PropRuns. -/
theorem PropRuns_spec {p : Prog} {inn : List Nm} {a ai : Option Addr} {n c ni ci : Nat} {H : Hp} {K : Value → Hp → Prop} (ha : RL H a n c p) (hI : RL H ai ni ci inn) (most : Int) (hK : ∀ H', Le H H' → K (.bool true) H') : Does Tryz.prog 3 [.agg #[.slice a n c], .slice ai ni ci, .int .i64 most] H K := by
  have hn := ha.n_eq
  have hmx := ha.le
  have hni := hI.n_eq
  refine spec_of cx_ok cx_mix rfl Tryz.func3 Tryz.call3 Tryz.ntmps3 Tryz.results3 rfl rfl ?_
  refine awake41_spec fun _ _ => ?_
  refine ⟨(fun h => by cases h), fun _ => ?_⟩
  refine small4_spec ha fun t ht => ?_
  refine ⟨fun h => ?f0, fun h => ?t0⟩
  case t0 => exact hK _ (Le.refl H)
  have hb4 := ht (by simpa using h)
  have hp := hb4.1
  have hl : ∀ b ∈ p, b.2.1.length ≤ 1000000 := fun b h => by have := (hb4.2 b h).1.1; omega
  have hc : stmtsN p ≤ 1000000 := small_stmts hb4
  have hv : cnt p < 400000 := small_cnt hb4
  refine ⟨fun h => ?f1, fun h => ?t1⟩
  case t1 => exact hK _ (Le.refl H)
  refine rcheck_spec ha hc hv fun _ _ => ?_
  refine ⟨fun h => ?t2, fun h => ?f2⟩
  case t2 => exact hK _ (Le.refl H)
  have he : checkE p = 0 := nf h
  have hf := check_facts he
  refine all_spec he hp hc hv (by omega) ha hI fun a1 n1 c1 a2 n2 c2 H1 hle1 hr1 hr2 => ?_
  have hok := okSt_all he inn (min most 25).toNat
  refine name_k (itS p inn (start0 p) (min most 25).toNat).1 fun V hV => ?_
  rw [← hV] at hr1 hok
  refine sets_spec hp hl hc hv (ha.up hle1) (fun hb => absurd he hb) (fun _ a3 n3 c3 a4 n4 c4 H2 hle2 hr3 hr4 => ?_)
  have ho := sysOf_ok he
  have hA := solveS_ok ho
  have hle := hle1.trans hle2
  refine ⟨fun _ => ?_, fun h => absurd rfl (nt h)⟩
  refine ⟨fun h => absurd rfl (nt h), fun _ => ?_⟩
  have hnv := hr1.n_eq
  have hmv := hr1.le
  refine ⟨Nat, fun j => ⟨[(9, .v (.slice a3 n3 c3)), (55, .v (.slice a1 n1 c1)), (56, .v (.int .i64 n1)), (57, .v (.int .i64 j))], [], 0⟩, fun j H' => H' = H2 ∧ j ≤ V.length, fun j => V.length - j, ⟨0, [], ?_, rfl, Nat.zero_le _⟩, ?_⟩
  · (repeat' (first | exact trivial | refine ⟨?_, ?_⟩ | exact rfl | assumption))
  rintro j H3 _ ⟨rfl, hj⟩
  refine ⟨fun h => ?_, fun h => ?_⟩
  · have hlt : j < V.length := by have := dt h; omega
    refine name_k V[j] fun s hse => ?_
    have hss : V[j]? = some s := by rw [hse]; exact List.getElem?_eq_getElem hlt
    have hsk := hok s (List.mem_of_getElem? hss)
    refine sta_k (hr1.up hle2) hss fun ad a5 n5 c5 a6 n6 c6 e1 hh hr5 hr6 => ?_
    refine ⟨ad, ⟨by omega, by omega, e1⟩, ?_⟩
    refine ⟨_, hh, ?_⟩
    have hn5 := hr5.n_eq
    have hm5 := hr5.le
    have hlt1 : s.1.toNat < (sysOf p).m := by have := hsk.1; show s.1.toNat < p.length; omega
    have hks := hsk.2.2
    refine ⟨Nat, fun i => ⟨[(9, .v (.slice a3 n3 c3)), (13, .ptr 0 0), (55, .v (.slice a1 n1 c1)), (56, .v (.int .i64 n1)), (57, .v (.int .i64 j)), (62, .v (.slice a5 n5 c5)), (63, .v (.int .i64 n5)), (64, .v (.int .i64 i))], [(0, .cells 40 [.v (.int .i64 s.1), .v (.slice a5 n5 c5), .v (.int .i64 s.2.2.1), .v (.slice a6 n6 c6)])], 1⟩, fun i H' => H' = H3 ∧ i ≤ s.2.1.length, fun i => s.2.1.length - i, ⟨0, [(0, 0)], ?_, rfl, Nat.zero_le _⟩, ?_⟩
    · (repeat' (first | exact trivial | refine ⟨?_, ?_⟩ | exact rfl | assumption))
    rintro i H4 _ ⟨rfl, hi⟩
    refine ⟨fun h => ?_, fun h => ?_⟩
    · have hlt2 : i < s.2.1.length := by have := dt h; omega
      refine name_k s.2.1[i] fun x hxe => ?_
      have hxx : s.2.1[i]? = some x := by rw [hxe]; exact List.getElem?_eq_getElem hlt2
      have hab := hks.2 i x hxx
      refine edge_k hr5 hxx fun ad2 e2 hh2 => ?_
      refine ⟨ad2, ⟨by omega, by omega, e2⟩, ?_⟩
      refine ⟨_, hh2, ?_⟩
      refine list_k hr3 (aAt_get hA hlt1) fun ad3 a7 n7 c7 e3 hh3 hr7 => ?_
      rw [show ((s.1.toNat : Nat) : Int) = s.1 from Int.toNat_of_nonneg hsk.1.1] at hh3
      have hn3 := hr3.n_eq
      rw [hA.len] at hn3
      have hs1 := hsk.1
      have hpm : (sysOf p).m = p.length := rfl
      refine ⟨ad3, ⟨by omega, by omega, e3⟩, ?_⟩
      refine ⟨_, hh3, ?_⟩
      have hn7 := hr7.n_eq
      have hkl := hks.1
      have hlt7 : i < (aAt (solveS (sysOf p)) s.1.toNat).length := by omega
      have hw7 := List.getElem?_eq_getElem hlt7
      refine word_k hr7 hw7 fun ad4 e4 hh4 _ => ?_
      refine ⟨ad4, ⟨by omega, by omega, e4⟩, ?_⟩
      refine ⟨_, hh4, ?_⟩
      rw [wAt_in hw7] at hab
      refine rnum_spec (UInt64.toNat_lt _) ?_
      refine ⟨fun h => ?_, fun h => absurd (by have := dt h; omega) hab.1⟩
      refine ⟨fun h => ?_, fun h => ?_⟩
      · have hx : (kNum (aAt (solveS (sysOf p)) s.1.toNat)[i].toNat).getD (0, 0) = x := by
          cases e : kNum (aAt (solveS (sysOf p)) s.1.toNat)[i].toNat with
          | none => rw [e] at h; cases h
          | some y => exact hab.2 y e
        refine ⟨fun h2 => ?_, fun _ => ?_⟩
        · rw [hx] at h2
          simp at h2
        · refine ⟨⟨by omega, by omega⟩, i + 1, [(0, 0)], ?_, ⟨rfl, hlt2⟩, by dsimp only; omega⟩
          (repeat' (first | exact trivial | refine ⟨?_, ?_⟩ | exact rfl | assumption))
      · refine ⟨⟨by omega, by omega⟩, i + 1, [(0, 0)], ?_, ⟨rfl, hlt2⟩, by dsimp only; omega⟩
        (repeat' (first | exact trivial | refine ⟨?_, ?_⟩ | exact rfl | assumption))
    · refine ⟨⟨by omega, by omega⟩, j + 1, [], ?_, ⟨rfl, hlt⟩, by dsimp only; omega⟩
      (repeat' (first | exact trivial | refine ⟨?_, ?_⟩ | exact rfl | assumption))
  · exact hK _ hle
end Go.Proofs
end
