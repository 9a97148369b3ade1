/- Part 'M34' of the proof (Av1, Av2, Av3, Av4, Av5, Av6, Av7, Ar1, Av8, Ar2, Ar3, Ar4, Av9, Av10, Av11, Ar5): lemmas, each with its own conditions in its own statement. -/
import Derived.Test.YtpcgdleccebjpaaGreatDoorM29
import Derived.Test.YtpcgdleccebjpaaGreatDoorM30
import Derived.Test.YtpcgdleccebjpaaGreatDoorM31
import Derived.Test.YtpcgdleccebjpaaGreatDoorM32
import Derived.Test.YtpcgdleccebjpaaGreatDoorM33
section
namespace Go.Proofs
open Go.Sy
set_option maxRecDepth 20000
set_option maxHeartbeats 4000000
/-! Expressions with variables; avail.has; soughref09.asks. -/
def namedA (a : Atm) : Bool := !decide (a.1.l = [])
theorem some1A_spec {a : Atm} {H : Hp} {K : Value → Hp → Prop} (hK : K (.bool (namedA a)) H) : Does Tryz.prog 112 [atmA a] H K := by
  refine spec_of cx_ok cx_mix rfl Tryz.func112 Tryz.call112 Tryz.ntmps112 Tryz.results112 rfl rfl ?_
  exact hK
theorem indexA_spec {l : List Atm} {a : Option Addr} {n c : Nat} {H : Hp} {K : SV → St → Hp → Prop} (ha : RL H a n c l) (hK : K (.v (.int .i64 (idxG namedA l 0))) ⟨[], [], 0⟩ H) : DoesG Tryz.prog 166 [.v (.slice a n c), .fn 112 []] [] 0 H K := by
  have hn1 := ha.n_eq
  have hmx := ha.le
  refine spec_ofG cx_ok cx_mix Tryz.func166 Tryz.call166 Tryz.ntmps166 Tryz.results166 rfl rfl ?_
  refine ⟨Nat, fun j => ⟨[(0, .v (.slice a n c)), (1, .fn 112 []), (7, .v (.int .i64 n)), (8, .v (.int .i64 j))], [], 0⟩,
    fun j H' => H' = H ∧ j ≤ l.length ∧ idxG namedA l 0 = idxG namedA (l.drop j) j, fun j => l.length - j, ⟨0, [], ?_, rfl, by omega, rfl⟩, ?_⟩
  · (repeat' (first | exact trivial | refine ⟨?_, ?_⟩ | exact rfl | assumption))
  rintro j H1 _ ⟨rfl, hi, hx⟩
  refine ⟨fun h => ?_, fun h => ?_⟩
  · have hlt : j < l.length := by have := dt h; omega
    rw [idxG_step hlt] at hx
    refine name_k l[j] fun x hxe => ?_
    have hxx : l[j]? = some x := by rw [hxe]; exact List.getElem?_eq_getElem hlt
    rw [← hxe] at hx
    refine atom_k ha hxx fun ad q1 hh hr => ?_
    refine ⟨ad, ⟨by omega, by omega, q1⟩, ?_⟩
    refine ⟨_, hh, ?_⟩
    refine some1A_spec (a := x) ?_
    refine ⟨fun h => ?_, fun h => ?_⟩
    · rw [if_pos h] at hx
      rw [hx] at hK
      exact ⟨.v (.int .i64 (j : Int)), [], 0, [], by (repeat' (first | exact trivial | refine ⟨?_, ?_⟩ | exact rfl | assumption)), hK⟩
    · rw [if_neg (by rw [h]; decide)] at hx
      refine ⟨⟨by omega, by omega⟩, j + 1, [], ?_, ⟨rfl, by omega, hx⟩, by dsimp only; omega⟩
      (repeat' (first | exact trivial | refine ⟨?_, ?_⟩ | exact rfl | assumption))
  · have hil : j = l.length := by have := df h; omega
    rw [hil, List.drop_length, idxG] at hx
    rw [hx] at hK
    exact ⟨.v (.int .i64 (-1)), [], 0, [], by (repeat' (first | exact trivial | refine ⟨?_, ?_⟩ | exact rfl | assumption)), hK⟩
theorem contA_spec {l : List Atm} {a : Option Addr} {n c : Nat} {H : Hp} {K : SV → St → Hp → Prop} (ha : RL H a n c l) (hK : K (.v (.bool (l.any namedA))) ⟨[], [], 0⟩ H) : DoesG Tryz.prog 111 [.v (.slice a n c), .fn 112 []] [] 0 H K := by
  rw [← idxG_any l 0 (Int.le_refl 0)] at hK
  refine spec_ofG cx_ok cx_mix Tryz.func111 Tryz.call111 Tryz.ntmps111 Tryz.results111 rfl rfl ?_
  refine ⟨[], rfl, indexA_spec ha ?_⟩
  exact ⟨.v (.bool (decide (0 ≤ idxG namedA l 0))), [], 0, [], by (repeat' (first | exact trivial | refine ⟨?_, ?_⟩ | exact rfl | assumption)), hK⟩
/-- Whether an expression has a variable. -/
def isA (v : Bs8) (a : Atm) : Bool := decide (a.1.l = v)
abbrev bN (v : Bs8) : List (Nat × Bx) := [(0, .cells 9 [.v (.string (bs v))])]
theorem has1_spec {a : Atm} {v : Bs8} {H : Hp} {K : SV → St → Hp → Prop} (hK : K (.v (.bool (isA v a))) ⟨[], bN v, 1⟩ H) : DoesG Tryz.prog 174 [.agg (vL (atmV a)), .ptr 0 0] (bN v) 1 H K := by
  refine spec_ofG cx_ok cx_mix Tryz.func174 Tryz.call174 Tryz.ntmps174 Tryz.results174 rfl rfl ?_
  exact ⟨.v (.bool (isA v a)), bN v, 1, [(0, 0)], by (repeat' (first | exact trivial | refine ⟨?_, ?_⟩ | exact rfl | assumption)), hK⟩
theorem indexH_spec {l : List Atm} {v : Bs8} {a : Option Addr} {n c : Nat} {H : Hp} {K : SV → St → Hp → Prop} (ha : RL H a n c l) (hK : K (.v (.int .i64 (idxG (isA v) l 0))) ⟨[], bN v, 1⟩ H) : DoesG Tryz.prog 166 [.v (.slice a n c), .fn 174 [.ptr 0 0]] (bN v) 1 H K := by
  have hn1 := ha.n_eq
  have hmx := ha.le
  refine spec_ofG cx_ok cx_mix Tryz.func166 Tryz.call166 Tryz.ntmps166 Tryz.results166 rfl rfl ?_
  refine ⟨Nat, fun j => ⟨[(0, .v (.slice a n c)), (1, .fn 174 [.ptr 0 0]), (7, .v (.int .i64 n)), (8, .v (.int .i64 j))], bN v, 1⟩,
    fun j H' => H' = H ∧ j ≤ l.length ∧ idxG (isA v) l 0 = idxG (isA v) (l.drop j) j, fun j => l.length - j, ⟨0, [(0, 0)], ?_, rfl, by omega, rfl⟩, ?_⟩
  · (repeat' (first | exact trivial | refine ⟨?_, ?_⟩ | exact rfl | assumption))
  rintro j H1 _ ⟨rfl, hi, hx⟩
  refine ⟨fun h => ?_, fun h => ?_⟩
  · have hlt : j < l.length := by have := dt h; omega
    rw [idxG_step hlt] at hx
    refine name_k l[j] fun x hxe => ?_
    have hxx : l[j]? = some x := by rw [hxe]; exact List.getElem?_eq_getElem hlt
    rw [← hxe] at hx
    refine atom_k ha hxx fun ad q1 hh hr => ?_
    refine ⟨ad, ⟨by omega, by omega, q1⟩, ?_⟩
    refine ⟨_, hh, ?_⟩
    refine ⟨[0], rfl, has1_spec (a := x) ?_⟩
    refine ⟨fun h => ?_, fun h => ?_⟩
    · rw [if_pos h] at hx
      rw [hx] at hK
      exact ⟨.v (.int .i64 (j : Int)), bN v, 1, [(0, 0)], by (repeat' (first | exact trivial | refine ⟨?_, ?_⟩ | exact rfl | assumption)), hK⟩
    · rw [if_neg (by rw [h]; decide)] at hx
      refine ⟨⟨by omega, by omega⟩, j + 1, [(0, 0)], ?_, ⟨rfl, by omega, hx⟩, by dsimp only; omega⟩
      (repeat' (first | exact trivial | refine ⟨?_, ?_⟩ | exact rfl | assumption))
  · have hil : j = l.length := by have := df h; omega
    rw [hil, List.drop_length, idxG] at hx
    rw [hx] at hK
    exact ⟨.v (.int .i64 (-1)), bN v, 1, [(0, 0)], by (repeat' (first | exact trivial | refine ⟨?_, ?_⟩ | exact rfl | assumption)), hK⟩
theorem contH_spec {l : List Atm} {v : Bs8} {a : Option Addr} {n c : Nat} {H : Hp} {K : SV → St → Hp → Prop} (ha : RL H a n c l) (hK : K (.v (.bool (l.any (isA v)))) ⟨[], bN v, 1⟩ H) : DoesG Tryz.prog 111 [.v (.slice a n c), .fn 174 [.ptr 0 0]] (bN v) 1 H K := by
  rw [← idxG_any l 0 (Int.le_refl 0)] at hK
  refine spec_ofG cx_ok cx_mix Tryz.func111 Tryz.call111 Tryz.ntmps111 Tryz.results111 rfl rfl ?_
  refine ⟨[0], rfl, indexH_spec ha ?_⟩
  exact ⟨.v (.bool (decide (0 ≤ idxG (isA v) l 0))), bN v, 1, [(0, 0)], by (repeat' (first | exact trivial | refine ⟨?_, ?_⟩ | exact rfl | assumption)), hK⟩
def asksE (x : Expr) (v : Bs8) : Bool := (atomsOf x).any (isA v)
theorem ahas_spec {x : Expr} {v : Bs8} (hx : exprR x) {H : Hp} {K : Value → Hp → Prop} (hK : ∀ H', Le H H' → K (.bool (!decide (v = []) && asksE x v)) H') : Does Tryz.prog 117 [exprA x, .string (bs v)] H K := by
  refine spec_of cx_ok cx_mix rfl Tryz.func117 Tryz.call117 Tryz.ntmps117 Tryz.results117 rfl rfl ?_
  refine ⟨fun h => ?_, fun h => ?_⟩
  · have hv : ¬ v = [] := nt h
    refine patoms_spec hx fun a n c H1 hle1 hr => ?_
    refine ⟨[1], rfl, contH_spec hr ?_⟩
    exact kbool (hK _ hle1) (by rw [decide_eq_false hv]; rfl)
  · have hv : v = [] := nf h
    exact kbool (hK _ (Le.refl H)) (by rw [decide_eq_true hv]; rfl)
end Go.Proofs
end
section
namespace Go.Proofs
open Go.Sy
set_option maxRecDepth 20000
set_option maxHeartbeats 4000000
/-! tables.Exprs, soughref06.Exprs. -/
def takesE (s : Stmt) : Bool := decide (s.1 = 1) && (!decide (s.2.2.1 = 0) && (atomsOf s.2.2).any namedA)
def addE (out : List Expr) (s : Stmt) : List Expr := if takesE s = true ∧ s.2.2 ∉ out then out ++ [s.2.2] else out
def exprsB (out : List Expr) (l : List Stmt) : List Expr := l.foldl addE out
def exprsOf (p : Prog) : List Expr := p.foldl (fun o b => exprsB o b.2.1) []
theorem addE_len (out : List Expr) (s : Stmt) : (addE out s).length ≤ out.length + 1 := by
  unfold addE
  split
  · simp
  · omega
theorem addE_R {out : List Expr} {s : Stmt} (h : ∀ y ∈ out, exprR y) (hs : exprR s.2.2) : ∀ y ∈ addE out s, exprR y := by
  unfold addE
  split
  · intro y hy
    rcases List.mem_append.1 hy with hy | hy
    · exact h y hy
    · rw [List.mem_singleton] at hy; rw [hy]; exact hs
  · exact h
theorem exprsB_len : ∀ (l : List Stmt) (out : List Expr), (exprsB out l).length ≤ out.length + l.length
  | [], _ => Nat.le_refl _
  | s :: r, out => by
    have h1 := addE_len out s
    have h2 := exprsB_len r (addE out s)
    rw [exprsB, List.foldl_cons, List.length_cons]
    rw [exprsB] at h2
    omega
theorem exprsB_R : ∀ (l : List Stmt) {out : List Expr}, (∀ y ∈ out, exprR y) → (∀ s ∈ l, exprR s.2.2) → ∀ y ∈ exprsB out l, exprR y
  | [], _, h, _ => h
  | s :: r, _, h, hl => exprsB_R r (addE_R h (hl s List.mem_cons_self)) (fun t ht => hl t (List.mem_cons_of_mem _ ht))
def exprsK (p : Prog) (i : Nat) : List Expr := (p.take i).foldl (fun o b => exprsB o b.2.1) []
structure FamE (p : Prog) (G : Nat → List Expr) (F : Nat → Nat → List Expr) : Prop where
  g0 : G 0 = []
  f0 : ∀ i, F i 0 = G i
  fs : ∀ i k b s, p[i]? = some b → b.2.1[k]? = some s → F i (k + 1) = addE (F i k) s
  gs : ∀ i b, p[i]? = some b → G (i + 1) = F i b.2.1.length
  ge : G p.length = exprsOf p
  lenG : ∀ i, (G i).length ≤ 100000 * i
  lenF : ∀ i k, (F i k).length ≤ 100000 * i + k
  R : ∀ i k, ∀ y ∈ F i k, exprR y
theorem famE_k {P : Prop} {p : Prog} (hl : ∀ b ∈ p, b.2.1.length ≤ 100000) (hR : ∀ b ∈ p, ∀ s ∈ b.2.1, stmtR s) (k : ∀ G F, FamE p G F → P) : P := by
  have hlen : ∀ i, (exprsK p i).length ≤ 100000 * i := fun i => by
    induction i with
    | zero => simp [exprsK]
    | succ i ih =>
      unfold exprsK at ih ⊢
      rw [List.take_add_one, List.foldl_append]
      cases hb : p[i]? with
      | none => simp only [Option.toList_none, List.foldl_nil]; omega
      | some b =>
        have h1 := exprsB_len b.2.1 ((p.take i).foldl (fun o b => exprsB o b.2.1) [])
        have h2 := hl b (List.mem_of_getElem? hb)
        simp only [Option.toList_some, List.foldl_cons, List.foldl_nil]
        omega
  have hRR : ∀ i, ∀ y ∈ exprsK p i, exprR y := fun i => by
    induction i with
    | zero => intro y hy; simp [exprsK] at hy
    | succ i ih =>
      unfold exprsK at ih ⊢
      rw [List.take_add_one, List.foldl_append]
      cases hb : p[i]? with
      | none => exact ih
      | some b =>
        exact exprsB_R b.2.1 ih (fun s hs => (hR b (List.mem_of_getElem? hb) s hs).2.2)
  refine k (exprsK p) (fun i k => exprsB (exprsK p i) (((p[i]?.map fun b => b.2.1).getD []).take k)) ⟨rfl, fun _ => rfl, fun i k b s hb hs => ?_, fun i b hb => ?_, ?_, hlen, fun i k => ?_, fun i k => ?_⟩
  · rw [hb]
    show exprsB (exprsK p i) (b.2.1.take (k + 1)) = addE (exprsB (exprsK p i) (b.2.1.take k)) s
    rw [List.take_add_one, hs, exprsB, List.foldl_append]; rfl
  · rw [hb]
    show exprsK p (i + 1) = exprsB (exprsK p i) (b.2.1.take b.2.1.length)
    rw [List.take_length, exprsK, List.take_add_one, hb, List.foldl_append]; rfl
  · rw [exprsK, List.take_length]; rfl
  · have h1 := exprsB_len (((p[i]?.map fun b => b.2.1).getD []).take k) (exprsK p i)
    have h2 := hlen i
    rw [List.length_take] at h1
    omega
  · refine exprsB_R _ (hRR i) fun s hs => ?_
    have hs := List.mem_of_mem_take hs
    cases hb : p[i]? with
    | none => rw [hb] at hs; cases hs
    | some b => rw [hb] at hs; exact (hR b (List.mem_of_getElem? hb) s hs).2.2
theorem stmts_R {H : Hp} {a : Option Addr} {n c : Nat} {l : List Stmt} (h : RL H a n c l) : ∀ s ∈ l, stmtR s := fun s hs => by
  obtain ⟨i, hi⟩ := List.getElem?_of_mem hs
  exact stmt_k h hi fun _ _ _ hr => hr
theorem prog_R {H : Hp} {a : Option Addr} {n c : Nat} {p : Prog} (h : RL H a n c p) : ∀ b ∈ p, ∀ s ∈ b.2.1, stmtR s := fun b hb => by
  obtain ⟨i, hi⟩ := List.getElem?_of_mem hb
  exact block_k h hi fun _ _ _ _ _ _ hr _ _ => stmts_R hr
open Classical in
noncomputable def metG (out : List Expr) : Lit → Int := fun kl => if ∃ x ∈ out, kl = keyE x then 1 else 0
theorem metG_at {out : List Expr} (ho : ∀ y ∈ out, exprR y) {x : Expr} (hx : exprR x) : metG out (keyE x) = if x ∈ out then 1 else 0 := by
  unfold metG
  by_cases h : x ∈ out
  · rw [if_pos ⟨x, h, rfl⟩, if_pos h]
  · rw [if_neg (fun ⟨y, hy, e⟩ => h (keyE_inj hx (ho y hy) e ▸ hy)), if_neg h]
theorem metG_nil : (fun _ => 0) = metG [] := by
  funext kl
  unfold metG
  rw [if_neg (fun ⟨_, h, _⟩ => by cases h)]
theorem metG_snoc (out : List Expr) (x : Expr) : updL (metG out) (keyE x) 1 = metG (out ++ [x]) := by
  funext kl
  unfold updL metG
  by_cases h : kl = keyE x
  · rw [if_pos h, if_pos ⟨x, by simp, h⟩]
  · rw [if_neg h]
    by_cases h2 : ∃ y ∈ out, kl = keyE y
    · obtain ⟨y, hy, e⟩ := h2
      rw [if_pos ⟨y, hy, e⟩, if_pos ⟨y, List.mem_append_left _ hy, e⟩]
    · rw [if_neg h2, if_neg]
      rintro ⟨y, hy, e⟩
      rcases List.mem_append.1 hy with hy | hy
      · exact h2 ⟨y, hy, e⟩
      · rw [List.mem_singleton] at hy; subst hy; exact h e
noncomputable abbrev metP (out : List Expr) : Obj → Prop := MapI Tryz.prog 82 3 out.length (metG out)
theorem metP_nil : MapI Tryz.prog 82 3 0 (fun _ => 0) = metP [] := by rw [metP, metG_nil]; rfl
theorem metP_snoc (out : List Expr) (x : Expr) : MapI Tryz.prog 82 3 (out.length + 1) (updL (metG out) (keyE x) 1) = metP (out ++ [x]) := by rw [metP, metG_snoc, List.length_append]; rfl
theorem expr_mk {H : Hp} {x : Expr} (h : exprR x) : Enc.R H (exprV x) x := ⟨[.int .i64 x.1], atmV x.2.1 ++ atmV x.2.2, rfl, ⟨rfl, h.1⟩, atmV x.2.1, atmV x.2.2, rfl, atm_mk h.2.1, atm_mk h.2.2⟩
abbrev xRows (l : List Expr) : List (List Value) := l.map exprV
theorem rc_xRows {H : Hp} : ∀ {l : List Expr}, (∀ x ∈ l, exprR x) → RC (α := Expr) H (xRows l) l := fun {l} h => by
  refine ⟨List.length_map _, fun i cs x h1 h2 => ?_⟩
  rw [List.getElem?_map, h2] at h1
  cases h1
  exact expr_mk (h x (List.mem_of_getElem? h2))
theorem texprs_spec {p : Prog} (hp : p.length ≤ 12) (hl : ∀ b ∈ p, b.2.1.length ≤ 100000) {a : Option Addr} {n c : Nat} {H : Hp} {K : Value → Hp → Prop} (ha : RL H a n c p) (hK : ∀ a1 n1 c1 H', Le H H' → RL H' a1 n1 c1 (exprsOf p) → K (.slice a1 n1 c1) H') : Does Tryz.prog 53 [.agg #[.slice a n c]] H K := by
  have hn := ha.n_eq
  refine famE_k hl (prog_R ha) fun G F hF => ?_
  refine fam_k (fun out => metP out) fun M hM => ?_
  refine spec_of cx_ok cx_mix rfl Tryz.func53 Tryz.call53 Tryz.ntmps53 Tryz.results53 rfl rfl ?_
  refine ⟨mapOKE, ?_⟩
  refine ⟨Nat, fun i => ⟨[(3, .own 2), (4, .mp 1), (13, .v (.slice a n c)), (14, .v (.int .i64 n)), (15, .v (.int .i64 i))], [(0, .cells 24 [.v (.slice a n c)]), (1, .obj (M (G i))), (2, .row 82 7 (xRows (G i)))], 3⟩,
    fun i H' => Le H H' ∧ i ≤ p.length, fun i => p.length - i, ⟨0, [(0, 0), (1, 1)], ?_, Le.refl H, Nat.zero_le _⟩, ?_⟩
  · have e0 : MapI Tryz.prog 82 3 0 (fun _ => 0) = M (G 0) := by rw [hF.g0, hM]; exact metP_nil
    have e1 : xRows (G 0) = [] := by rw [hF.g0]; rfl
    (repeat' (first | exact trivial | refine ⟨?_, ?_⟩ | exact rfl | assumption))
  rintro i H1 _ ⟨hle1, hi⟩
  refine ⟨fun h => ?_, fun h => ?_⟩
  · have hlt : i < p.length := by have := dt h; omega
    refine name_k p[i] fun b hbe => ?_
    have hbb : p[i]? = some b := by rw [hbe]; exact List.getElem?_eq_getElem hlt
    have hbl := hl b (List.mem_of_getElem? hbb)
    refine block_k (ha.up hle1) hbb fun ad a5 n5 c5 q1 hh hr5 hs5 ht5 => ?_
    have hn5 : n5 = b.2.1.length := hr5.n_eq
    refine ⟨ad, ⟨by omega, by omega, q1⟩, ?_⟩
    refine ⟨_, hh, ?_⟩
    refine ⟨Nat, fun k => ⟨[(3, .own 2), (4, .mp 1), (13, .v (.slice a n c)), (14, .v (.int .i64 n)), (15, .v (.int .i64 i)), (20, .v (.slice a5 n5 c5)), (21, .v (.int .i64 n5)), (22, .v (.int .i64 k))], [(0, .cells 24 [.v (.slice a n c)]), (1, .obj (M (F i k))), (2, .row 82 7 (xRows (F i k)))], 3⟩,
      fun k H' => Le H1 H' ∧ k ≤ b.2.1.length, fun k => b.2.1.length - k, ⟨0, [(0, 0), (1, 1), (2, 2)], ?_, Le.refl H1, Nat.zero_le _⟩, ?_⟩
    · have e0 := hF.f0 i
      have e1 : M (G i) = M (F i 0) := by rw [e0]
      have e2 : xRows (G i) = xRows (F i 0) := by rw [e0]
      (repeat' (first | exact trivial | refine ⟨?_, ?_⟩ | exact rfl | assumption))
    rintro k H2 _ ⟨hle2, hk⟩
    have hfl := hF.lenF i k
    have hxl : (xRows (F i k)).length = (F i k).length := List.length_map _
    refine ⟨fun h => ?_, fun h => ?_⟩
    · have hkl : k < b.2.1.length := by have := dt h; omega
      refine name_k b.2.1[k] fun s hse => ?_
      have hss : b.2.1[k]? = some s := by rw [hse]; exact List.getElem?_eq_getElem hkl
      have hst := hF.fs i k b s hbb hss
      refine stmt_k (hr5.up hle2) hss fun ad2 q2 hh2 hR => ?_
      refine ⟨ad2, ⟨by omega, by omega, q2⟩, ?_⟩
      refine ⟨_, hh2, ?_⟩
      refine patoms_spec hR.2.2 fun a6 n6 c6 H3 hle3 hr6 => ?_
      refine ⟨[], rfl, contA_spec hr6 ?_⟩
      refine ⟨fun h1 => ?_, fun h1 => ?_⟩
      case refine_2 =>
        have h1 : ¬ s.1 = 1 := nt h1
        have hno : ¬ (takesE s = true ∧ s.2.2 ∉ F i k) := fun h => by rw [takesE, decide_eq_false h1] at h; cases h.1
        have e0 : F i (k + 1) = F i k := by rw [hst, addE, if_neg hno]
        have e1 : M (F i k) = M (F i (k + 1)) := by rw [e0]
        have e2 : xRows (F i k) = xRows (F i (k + 1)) := by rw [e0]
        refine ⟨⟨by omega, by omega⟩, k + 1, [(0, 0), (1, 1), (2, 2)], ?_, ⟨hle2.trans hle3, hkl⟩, by dsimp only; omega⟩
        (repeat' (first | exact trivial | refine ⟨?_, ?_⟩ | exact rfl | assumption))
      have h1 : s.1 = 1 := nf h1
      refine ⟨fun h0 => ?_, fun h0 => ?_⟩
      case refine_2 =>
        have h0 : s.2.2.1 = 0 := dt h0
        have hno : ¬ (takesE s = true ∧ s.2.2 ∉ F i k) := fun h => by rw [takesE, decide_eq_true h1, decide_eq_true h0] at h; cases h.1
        have e0 : F i (k + 1) = F i k := by rw [hst, addE, if_neg hno]
        have e1 : M (F i k) = M (F i (k + 1)) := by rw [e0]
        have e2 : xRows (F i k) = xRows (F i (k + 1)) := by rw [e0]
        refine ⟨⟨by omega, by omega⟩, k + 1, [(0, 0), (1, 1), (2, 2)], ?_, ⟨hle2.trans hle3, hkl⟩, by dsimp only; omega⟩
        (repeat' (first | exact trivial | refine ⟨?_, ?_⟩ | exact rfl | assumption))
      have h0 : ¬ s.2.2.1 = 0 := df h0
      refine ⟨fun ha0 => ?_, fun ha0 => ?_⟩
      case refine_2 =>
        have ha0 : (atomsOf s.2.2).any namedA = false := by simpa using ha0
        have hno : ¬ (takesE s = true ∧ s.2.2 ∉ F i k) := fun h => by rw [takesE, decide_eq_true h1, decide_eq_false h0, ha0] at h; cases h.1
        have e0 : F i (k + 1) = F i k := by rw [hst, addE, if_neg hno]
        have e1 : M (F i k) = M (F i (k + 1)) := by rw [e0]
        have e2 : xRows (F i k) = xRows (F i (k + 1)) := by rw [e0]
        refine ⟨⟨by omega, by omega⟩, k + 1, [(0, 0), (1, 1), (2, 2)], ?_, ⟨hle2.trans hle3, hkl⟩, by dsimp only; omega⟩
        (repeat' (first | exact trivial | refine ⟨?_, ?_⟩ | exact rfl | assumption))
      have ha0 : (atomsOf s.2.2).any namedA = true := by simpa using ha0
      have htk : takesE s = true := by rw [takesE, decide_eq_true h1, decide_eq_false h0, ha0]; rfl
      have hm := metG_at (hF.R i k) hR.2.2
      refine ⟨_, _, keyE s.2.2, hM _, keyOfE hR.2.2, ?_⟩
      refine ⟨fun hin => ?_, fun hin => ?_⟩
      case refine_1 =>
        have hin := dt hin
        rw [hm] at hin
        have hin : s.2.2 ∈ F i k := Decidable.byContradiction fun h => by rw [if_neg h] at hin; omega
        have hno : ¬ (takesE s = true ∧ s.2.2 ∉ F i k) := fun h => h.2 hin
        have e0 : F i (k + 1) = F i k := by rw [hst, addE, if_neg hno]
        have e1 : M (F i k) = M (F i (k + 1)) := by rw [e0]
        have e2 : xRows (F i k) = xRows (F i (k + 1)) := by rw [e0]
        refine ⟨⟨by omega, by omega⟩, k + 1, [(0, 0), (1, 1), (2, 2)], ?_, ⟨hle2.trans hle3, hkl⟩, by dsimp only; omega⟩
        (repeat' (first | exact trivial | refine ⟨?_, ?_⟩ | exact rfl | assumption))
      have hin := df hin
      rw [hm] at hin
      have hin : s.2.2 ∉ F i k := fun h => by rw [if_pos h] at hin; omega
      have e0 : F i (k + 1) = F i k ++ [s.2.2] := by rw [hst, addE, if_pos ⟨htk, hin⟩]
      have e1 : MapI Tryz.prog 82 3 ((F i k).length + 1) (updL (metG (F i k)) (keyE s.2.2) 1) = M (F i (k + 1)) := by rw [e0, hM, metP_snoc]
      have e2 : xRows (F i k) ++ [exprV s.2.2] = xRows (F i (k + 1)) := by rw [e0, xRows, xRows, List.map_append]; rfl
      refine ⟨_, _, keyE s.2.2, hM _, keyOfE hR.2.2, ⟨by omega, by decide, by decide⟩, ?_⟩
      refine ⟨⟨by show ((xRows (F i k)).length + 1) * 72 ≤ 140737488355328; omega, by show (xRows (F i k)).length + 1 ≤ 9223372036854775807; omega⟩, ?_⟩
      refine ⟨⟨by omega, by omega⟩, k + 1, [(0, 0), (1, 1), (2, 6)], ?_, ⟨hle2.trans hle3, hkl⟩, by dsimp only; omega⟩
      (repeat' (first | exact trivial | refine ⟨?_, ?_⟩ | exact rfl | assumption))
    · have hil : k = b.2.1.length := by have := df h; omega
      subst hil
      have hg := hF.gs i b hbb
      have e1 : M (F i b.2.1.length) = M (G (i + 1)) := by rw [hg]
      have e2 : xRows (F i b.2.1.length) = xRows (G (i + 1)) := by rw [hg]
      refine ⟨⟨by omega, by omega⟩, i + 1, [(0, 0), (1, 1), (2, 2)], ?_, ⟨hle1.trans hle2, hlt⟩, by dsimp only; omega⟩
      (repeat' (first | exact trivial | refine ⟨?_, ?_⟩ | exact rfl | assumption))
  · have hil : i = p.length := by have := df h; omega
    subst hil
    rw [hF.ge]
    intro v H3 hle3 hv3
    have hR := hF.R p.length 0
    rw [hF.f0, hF.ge] at hR
    refine of_row_k (α := Expr) hv3 (rc_xRows hR) fun d1 d2 d3 ev hr => ?_
    subst ev
    exact hK _ _ _ _ (hle1.trans hle3.le) hr
end Go.Proofs
end
section
namespace Go.Proofs
open Go.Sy
set_option maxRecDepth 20000
set_option maxHeartbeats 4000000
/-! soughref06.Exprs. -/
theorem any_take {α : Type} {f : α → Bool} {l : List α} {j : Nat} {y : α} (h : l[j]? = some y) : (l.take (j + 1)).any f = ((l.take j).any f || f y) := by
  rw [List.take_add_one, h, List.any_append]; simp
theorem strX_vc (s t : Bs8) : decide (sl (bs s) = sl (bs t)) = decide (s = t) := rfl
theorem eqX_vc (x y : Expr) : (decide (x.1 = y.1) && (decide (sl (bs x.2.1.1.l) = sl (bs y.2.1.1.l)) && (decide (x.2.1.2.1 = y.2.1.2.1) && (decide (x.2.1.2.2 = y.2.1.2.2) && true) && true) && (decide (sl (bs x.2.2.1.l) = sl (bs y.2.2.1.l)) && (decide (x.2.2.2.1 = y.2.2.2.1) && (decide (x.2.2.2.2 = y.2.2.2.2) && true) && true) && true))) = decide (x = y) := by
  rw [strX_vc, strX_vc]
  obtain ⟨c, ⟨⟨d⟩, e, f⟩, ⟨g⟩, h, i⟩ := x
  obtain ⟨c', ⟨⟨d'⟩, e', f'⟩, ⟨g'⟩, h', i'⟩ := y
  rw [Bool.eq_iff_iff]
  simp [and_assoc]
end Go.Proofs
end
section
namespace Go.Proofs
open Go.Sy
set_option maxRecDepth 20000
set_option maxHeartbeats 4000000
/-! What is known behind a block. -/
def killE (s : Stmt) (x : Expr) : Bool := !decide (s.2.1.l = []) && asksE x s.2.1.l
def setsE (s : Stmt) (x : Expr) : Bool := decide (s.1 = 1) && decide (s.2.2 = x)
def kn1 (x : Expr) (k : Bool) (s : Stmt) : Bool := if killE s x then false else if setsE s x then true else k
def knB (x : Expr) (l : List Stmt) : Bool := l.foldl (kn1 x) false
def losB (x : Expr) (l : List Stmt) : Bool := l.any fun s => killE s x
open Classical in
noncomputable def mapF (f : Nat → Bool) : Lit → Int := fun kl => if ∃ i : Nat, kl = .int .i64 (i : Int) ∧ f i = true then 1 else 0
theorem mapF_at (f : Nat → Bool) (i : Nat) : mapF f (.int .i64 (i : Int)) = if f i = true then 1 else 0 := by
  unfold mapF
  by_cases h : f i = true
  · rw [if_pos ⟨i, rfl, h⟩, if_pos h]
  · rw [if_neg (fun ⟨j, e, hj⟩ => h (by
      have : (i : Int) = (j : Int) := by injection e
      have : i = j := by omega
      rw [this]; exact hj)), if_neg h]
theorem mapF_nil : (fun _ => 0) = mapF fun _ => false := by
  funext kl
  unfold mapF
  rw [if_neg (fun ⟨_, _, h⟩ => by cases h)]
theorem mapF_upd {f g : Nat → Bool} {i : Nat} {b : Bool} (hg : ∀ j, g j = if j = i then b else f j) : updL (mapF f) (.int .i64 (i : Int)) (if b = true then 1 else 0) = mapF g := by
  funext kl
  unfold updL mapF
  by_cases h : kl = .int .i64 (i : Int)
  · rw [if_pos h]
    by_cases hb : b = true
    · rw [if_pos hb, if_pos ⟨i, h, by rw [hg, if_pos rfl]; exact hb⟩]
    · rw [if_neg hb, if_neg]
      rintro ⟨j, e, hj⟩
      have : (i : Int) = (j : Int) := by rw [h] at e; injection e
      have : j = i := by omega
      rw [hg, if_pos this] at hj
      exact hb hj
  · rw [if_neg h]
    have e : (∃ j : Nat, kl = .int .i64 (j : Int) ∧ f j = true) ↔ ∃ j : Nat, kl = .int .i64 (j : Int) ∧ g j = true := by
      constructor
      · rintro ⟨j, e, hj⟩
        exact ⟨j, e, by rw [hg, if_neg (fun h2 => h (by rw [e, h2]))]; exact hj⟩
      · rintro ⟨j, e, hj⟩
        rw [hg, if_neg (fun h2 => h (by rw [e, h2]))] at hj
        exact ⟨j, e, hj⟩
    by_cases h2 : ∃ j : Nat, kl = .int .i64 (j : Int) ∧ f j = true
    · rw [if_pos h2, if_pos (e.1 h2)]
    · rw [if_neg h2, if_neg (fun h3 => h2 (e.2 h3))]
noncomputable def mP (n : Nat) (f : Nat → Bool) : Obj → Prop := MapI Tryz.prog 3 3 n (mapF f)
theorem keyOfI {i : Nat} (h : i ≤ 1000000) : keyOf Tryz.prog 3 (.int .i64 (i : Int)) = some (.int .i64 (i : Int)) :=
  Maps.keyOf_int_mk (tt_ok 3 _ _ rfl).2 (litI ⟨by omega, by omega⟩)
/-- What stands in the maps: so many statements done, and of the next one so many expressions. -/
def knM (X : List Expr) (l : List Stmt) (k m : Nat) (i : Nat) : Bool := match X[i]? with
  | some x => knB x (l.take (if i < m then k + 1 else k))
  | none => false
def losM (X : List Expr) (l : List Stmt) (k m : Nat) (i : Nat) : Bool := match X[i]? with
  | some x => losB x (l.take (if i < m then k + 1 else k))
  | none => false
theorem knB_take {x : Expr} {l : List Stmt} {k : Nat} {s : Stmt} (h : l[k]? = some s) : knB x (l.take (k + 1)) = kn1 x (knB x (l.take k)) s := by
  rw [knB, List.take_add_one, h, List.foldl_append]; rfl
theorem losB_take {x : Expr} {l : List Stmt} {k : Nat} {s : Stmt} (h : l[k]? = some s) : losB x (l.take (k + 1)) = (losB x (l.take k) || killE s x) := any_take h
structure FamM (X : List Expr) (l : List Stmt) (K L : Nat → Nat → Nat → Bool) : Prop where
  k0 : K 0 0 = fun _ => false
  l0 : L 0 0 = fun _ => false
  kn : ∀ k, K k X.length = K (k + 1) 0
  ln : ∀ k, L k X.length = L (k + 1) 0
  ks : ∀ k m s x, l[k]? = some s → X[m]? = some x → ∀ i, K k (m + 1) i = if i = m then kn1 x (K k m m) s else K k m i
  ls : ∀ k m s x, l[k]? = some s → X[m]? = some x → ∀ i, L k (m + 1) i = if i = m then (L k m m || killE s x) else L k m i
  ke : ∀ i x, X[i]? = some x → K l.length 0 i = knB x l
  le : ∀ i x, X[i]? = some x → L l.length 0 i = losB x l
theorem famM_k {P : Prop} (X : List Expr) (l : List Stmt) (k : ∀ K L, FamM X l K L → P) : P := by
  refine k (knM X l) (losM X l) ⟨?_, ?_, fun k => ?_, fun k => ?_, fun k m s x hs hx i => ?_, fun k m s x hs hx i => ?_, fun i x hx => ?_, fun i x hx => ?_⟩
  · funext i
    unfold knM
    split
    · rw [if_neg (by omega)]; rfl
    · rfl
  · funext i
    unfold losM
    split
    · rw [if_neg (by omega)]; rfl
    · rfl
  · funext i
    unfold knM
    split
    · rename_i x hx
      rw [if_pos (List.getElem?_eq_some_iff.1 hx).1, if_neg (by omega)]
    · rfl
  · funext i
    unfold losM
    split
    · rename_i x hx
      rw [if_pos (List.getElem?_eq_some_iff.1 hx).1, if_neg (by omega)]
    · rfl
  · unfold knM
    by_cases h : i = m
    · subst h
      rw [if_pos rfl, hx]
      dsimp only
      rw [if_pos (by omega), if_neg (by omega), knB_take hs]
    · rw [if_neg h]
      have e : (i < m + 1) = (i < m) := by rw [eq_iff_iff]; omega
      simp only [e]
  · unfold losM
    by_cases h : i = m
    · subst h
      rw [if_pos rfl, hx]
      dsimp only
      rw [if_pos (by omega), if_neg (by omega), losB_take hs]
    · rw [if_neg h]
      have e : (i < m + 1) = (i < m) := by rw [eq_iff_iff]; omega
      simp only [e]
  · unfold knM
    rw [hx]
    dsimp only
    rw [if_neg (by omega), List.take_length]
  · unfold losM
    rw [hx]
    dsimp only
    rw [if_neg (by omega), List.take_length]
/-- What a block does. -/
def agen (X : List Expr) (l : List Stmt) (i : Nat) : List Int := ((List.range i).filter fun k => knB (X[k]?.getD (0, za, za)) l).map fun k : Nat => (k : Int)
def akil (X : List Expr) (l : List Stmt) (i : Nat) : List Int := ((List.range i).filter fun k => !knB (X[k]?.getD (0, za, za)) l && losB (X[k]?.getD (0, za, za)) l).map fun k : Nat => (k : Int)
def atrF (X : List Expr) (b : Block) : Wd × Wd := (ofB X.length (agen X b.2.1 X.length), ofB X.length (akil X b.2.1 X.length))
theorem sel_succ (f : Nat → Bool) (i : Nat) : ((List.range (i + 1)).filter f).map (fun k : Nat => (k : Int)) = ((List.range i).filter f).map (fun k : Nat => (k : Int)) ++ (if f i = true then [(i : Int)] else []) := by
  rw [List.range_succ, List.filter_append, List.map_append]
  by_cases h : f i = true
  · simp [h]
  · simp [h]
theorem sel_len (f : Nat → Bool) (i : Nat) : (((List.range i).filter f).map (fun k : Nat => (k : Int))).length ≤ i := by
  rw [List.length_map]
  exact Nat.le_trans (List.length_filter_le _ _) (by rw [List.length_range]; exact Nat.le_refl _)
theorem sel_in {f : Nat → Bool} {i : Nat} (hi : i ≤ 1000000) : ∀ x ∈ ((List.range i).filter f).map (fun k : Nat => (k : Int)), inI x := fun x hx => by
  obtain ⟨k, hk, rfl⟩ := List.mem_map.1 hx
  have := List.mem_range.1 (List.mem_filter.1 hk).1
  exact ⟨by omega, by omega⟩
structure FamS (X : List Expr) (l : List Stmt) (A B : Nat → List Int) : Prop where
  a0 : A 0 = []
  b0 : B 0 = []
  a1 : ∀ i x, X[i]? = some x → A (i + 1) = A i ++ (if knB x l = true then [(i : Int)] else [])
  b1 : ∀ i x, X[i]? = some x → B (i + 1) = B i ++ (if (!knB x l && losB x l) = true then [(i : Int)] else [])
  al : ∀ i, (A i).length ≤ i
  bl : ∀ i, (B i).length ≤ i
  ai : ∀ i, i ≤ 1000000 → ∀ x ∈ A i, inI x
  bi : ∀ i, i ≤ 1000000 → ∀ x ∈ B i, inI x
  ae : A X.length = agen X l X.length
  be : B X.length = akil X l X.length
theorem famS_k {P : Prop} (X : List Expr) (l : List Stmt) (k : ∀ A B, FamS X l A B → P) : P := by
  refine k (agen X l) (akil X l) ⟨rfl, rfl, fun i x hx => ?_, fun i x hx => ?_, sel_len _, sel_len _, fun i hi => sel_in hi, fun i hi => sel_in hi, rfl, rfl⟩
  · have := sel_succ (fun k => knB (X[k]?.getD (0, za, za)) l) i
    rw [hx] at this
    exact this
  · have := sel_succ (fun k => !knB (X[k]?.getD (0, za, za)) l && losB (X[k]?.getD (0, za, za)) l) i
    rw [hx] at this
    exact this
theorem atrF_ok (X : List Expr) (b : Block) : okB X.length (atrF X b).1 ∧ okB X.length (atrF X b).2 := ⟨ofB_ok _ _, ofB_ok _ _⟩
end Go.Proofs
end
section
namespace Go.Proofs
open Go.Sy
set_option maxRecDepth 20000
set_option maxHeartbeats 4000000
/-! avail.trans. -/
theorem expr_k {P : Prop} {H : Hp} {a : Option Addr} {n c : Nat} {xs : List Expr} (h : RL H a n c xs) {i : Nat} {x : Expr} (hi : xs[i]? = some x) (k : ∀ ad, a = some ad → ElemH H ad (i : Int) 7 (exprV x) → exprR x → P) : P :=
  elem_k h hi fun ad cs h1 h2 h3 => by
    obtain ⟨rfl, h4⟩ := expr_open h3
    exact k ad h1 h2 h4
theorem mP_nil : MapI Tryz.prog 3 3 0 (fun _ => 0) = mP 0 fun _ => false := by rw [mP, mapF_nil]
theorem mP_upd1 {n : Nat} {f g : Nat → Bool} {i : Nat} (hg : ∀ j, g j = if j = i then true else f j) : MapI Tryz.prog 3 3 (n + 1) (updL (mapF f) (.int .i64 (i : Int)) 1) = mP (n + 1) g := by
  rw [mP, ← mapF_upd (b := true) hg, if_pos rfl]
theorem mP_upd0 {n : Nat} {f g : Nat → Bool} {i : Nat} (hg : ∀ j, g j = if j = i then false else f j) : MapI Tryz.prog 3 3 (n + 1) (updL (mapF f) (.int .i64 (i : Int)) 0) = mP (n + 1) g := by
  rw [mP, ← mapF_upd (b := false) hg, if_neg (by decide)]
theorem mP_upd10 {n : Nat} {f g : Nat → Bool} {i : Nat} (hg : ∀ j, g j = if j = i then false else f j) : MapI Tryz.prog 3 3 (n + 1 + 1) (updL (updL (mapF f) (.int .i64 (i : Int)) 1) (.int .i64 (i : Int)) 0) = mP (n + 1 + 1) g := by
  have h1 := mapF_upd (f := f) (g := fun j => if j = i then true else f j) (i := i) (b := true) (fun j => rfl)
  rw [if_pos rfl] at h1
  rw [h1]
  refine mP_upd0 (f := fun j => if j = i then true else f j) fun j => ?_
  rw [hg]
  by_cases e : j = i
  · rw [if_pos e, if_pos e]
  · rw [if_neg e, if_neg e, if_neg e]
theorem atrans_spec {X : List Expr} (hX : X.length ≤ 1024) {b : Block} (hb : b.2.1.length ≤ 100000) {a la : Option Addr} {n c ln lc : Nat} {H : Hp} {K : Value → Hp → Prop} (ha : RL H a n c X) (hl : RL H la ln lc b.2.1) (hK : ∀ z H', Le H H' → Bt.TrR H' (atrF X b) z → K (Bt.trA z) H') :
    Does Tryz.prog 56 [.slice a n c, blkA (.slice la ln lc) b] H K := by
  have hn := ha.n_eq
  have hln := hl.n_eq
  refine famM_k X b.2.1 fun Kn Ls hM => ?_
  refine spec_of cx_ok cx_mix rfl Tryz.func56 Tryz.call56 Tryz.ntmps56 Tryz.results56 rfl rfl ?_
  refine ⟨mapOK3, ?_⟩
  refine ⟨mapOK3, ?_⟩
  refine ⟨Nat × Nat × Nat, fun q => ⟨[(0, .v (.slice a n c)), (4, .ptr 1 0), (5, .mp 2), (6, .mp 3), (17, .v (.slice la ln lc)), (18, .v (.int .i64 ln)), (19, .v (.int .i64 q.1))], [(1, .cells 110 (vL [.slice none 0 0, .slice none 0 0, .slice none 0 0])), (2, .obj (mP q.2.1 (Kn q.1 0))), (3, .obj (mP q.2.2 (Ls q.1 0)))], 4⟩,
    fun q H' => Le H H' ∧ q.1 ≤ b.2.1.length ∧ q.2.1 ≤ 2100 * q.1 ∧ q.2.2 ≤ 1100 * q.1, fun q => b.2.1.length - q.1, ⟨(0, 0, 0), [(1, 1), (2, 2), (3, 3)], ?_, Le.refl H, Nat.zero_le _, Nat.zero_le _, Nat.zero_le _⟩, ?_⟩
  · have e1 : MapI Tryz.prog 3 3 0 (fun _ => 0) = mP 0 (Kn 0 0) := by rw [hM.k0]; exact mP_nil
    have e2 : MapI Tryz.prog 3 3 0 (fun _ => 0) = mP 0 (Ls 0 0) := by rw [hM.l0]; exact mP_nil
    (repeat' (first | exact trivial | refine ⟨?_, ?_⟩ | exact rfl | assumption))
  rintro ⟨k, u, v⟩ H1 _ ⟨hle1, hk, hu, hv⟩
  dsimp only at hk hu hv
  refine ⟨fun h => ?_, fun h => ?_⟩
  · have hlt : k < b.2.1.length := by have := dt h; dsimp only at this; omega
    refine name_k b.2.1[k] fun s hse => ?_
    have hss : b.2.1[k]? = some s := by rw [hse]; exact List.getElem?_eq_getElem hlt
    refine stmt_k (hl.up hle1) hss fun ad q1 hh hR => ?_
    refine ⟨ad, ⟨by dsimp only; omega, by dsimp only; omega, q1⟩, ?_⟩
    refine ⟨_, hh, ?_⟩
    refine ⟨Nat × Nat × Nat, fun q => ⟨[(0, .v (.slice a n c)), (4, .ptr 1 0), (5, .mp 2), (6, .mp 3), (8, .ptr 4 0), (17, .v (.slice la ln lc)), (18, .v (.int .i64 ln)), (19, .v (.int .i64 k)), (23, .v (.slice a n c)), (24, .v (.int .i64 n)), (25, .v (.int .i64 q.1))], [(1, .cells 110 (vL [.slice none 0 0, .slice none 0 0, .slice none 0 0])), (2, .obj (mP q.2.1 (Kn k q.1))), (3, .obj (mP q.2.2 (Ls k q.1))), (4, .cells 84 (vL (stmtV s)))], 5⟩,
      fun q H' => Le H1 H' ∧ q.1 ≤ X.length ∧ q.2.1 ≤ u + 2 * q.1 ∧ q.2.2 ≤ v + q.1, fun q => X.length - q.1, ⟨(0, u, v), [(1, 1), (2, 2), (3, 3), (4, 4)], ?_, Le.refl H1, Nat.zero_le _, Nat.le_refl _, Nat.le_refl _⟩, ?_⟩
    · (repeat' (first | exact trivial | refine ⟨?_, ?_⟩ | exact rfl | assumption))
    rintro ⟨m, u2, v2⟩ H2 _ ⟨hle2, hm, hu2, hv2⟩
    dsimp only at hm hu2 hv2
    refine ⟨fun h => ?_, fun h => ?_⟩
    · have hml : m < X.length := by have := dt h; dsimp only at this; omega
      refine name_k X[m] fun x hxe => ?_
      have hxx : X[m]? = some x := by rw [hxe]; exact List.getElem?_eq_getElem hml
      have hks := hM.ks k m s x hss hxx
      have hls := hM.ls k m s x hss hxx
      refine expr_k (ha.up (hle1.trans hle2)) hxx fun ad2 q2 hh2 hRx => ?_
      refine ⟨ad2, ⟨by dsimp only; omega, by dsimp only; omega, q2⟩, ?_⟩
      refine ⟨_, hh2, ?_⟩
      refine ⟨fun h1 => ?_, fun h1 => ?_⟩
      · have h1 : s.1 = 1 := dt h1
        refine ⟨fun hx => ?_, fun hx => ?_⟩
        · have hx : s.2.2 = x := of_decide_eq_true ((eqX_vc s.2.2 x).symm.trans hx)
          have hset : setsE s x = true := by rw [setsE, decide_eq_true h1, decide_eq_true hx]; rfl
          refine ⟨_, _, .int .i64 (m : Int), rfl, keyOfI (by omega), ⟨by first | omega | (dsimp only; omega), by decide, by decide⟩, ?_⟩
          refine ahas_spec hRx fun _ _ => ?_
          refine ⟨fun hkill => ?_, fun hkill => ?_⟩
          · have hkill : killE s x = true := hkill
            have e2 : MapI Tryz.prog 3 3 (v2 + 1) (updL (mapF (Ls k m)) (.int .i64 (m : Int)) 1) = mP (v2 + 1) (Ls k (m + 1)) := mP_upd1 fun j => by rw [hls, hkill, Bool.or_true]
            have e1 : MapI Tryz.prog 3 3 (u2 + 1 + 1) (updL (updL (mapF (Kn k m)) (.int .i64 (m : Int)) 1) (.int .i64 (m : Int)) 0) = mP (u2 + 1 + 1) (Kn k (m + 1)) := mP_upd10 fun j => by rw [hks, show kn1 x (Kn k m m) s = false by rw [kn1, if_pos hkill]]
            refine ⟨_, _, .int .i64 (m : Int), rfl, keyOfI (by omega), ⟨by first | omega | (dsimp only; omega), by decide, by decide⟩, ?_⟩
            refine ⟨_, _, .int .i64 (m : Int), rfl, keyOfI (by omega), ⟨by first | omega | (dsimp only; omega), by decide, by decide⟩, ?_⟩
            refine ⟨⟨by dsimp only; omega, by dsimp only; omega⟩, (m + 1, u2 + 1 + 1, v2 + 1), [(1, 1), (2, 2), (3, 3), (4, 4)], ?_, ⟨hle2, hml, by dsimp only; omega, by dsimp only; omega⟩, by dsimp only; omega⟩
            (repeat' (first | exact trivial | refine ⟨?_, ?_⟩ | exact rfl | assumption))
          · have hkill : killE s x = false := hkill
            have hls2 : Ls k (m + 1) = Ls k m := funext fun j => by
              rw [hls, hkill, Bool.or_false]
              split
              · rename_i e; rw [e]
              · rfl
            have e2 : mP v2 (Ls k m) = mP v2 (Ls k (m + 1)) := by rw [hls2]
            have e1 : MapI Tryz.prog 3 3 (u2 + 1) (updL (mapF (Kn k m)) (.int .i64 (m : Int)) 1) = mP (u2 + 1) (Kn k (m + 1)) := mP_upd1 fun j => by rw [hks, show kn1 x (Kn k m m) s = true by rw [kn1, if_neg (by rw [hkill]; decide), if_pos hset]]
            refine ⟨⟨by dsimp only; omega, by dsimp only; omega⟩, (m + 1, u2 + 1, v2), [(1, 1), (2, 2), (3, 3), (4, 4)], ?_, ⟨hle2, hml, by dsimp only; omega, by dsimp only; omega⟩, by dsimp only; omega⟩
            (repeat' (first | exact trivial | refine ⟨?_, ?_⟩ | exact rfl | assumption))
        · have hx : ¬ s.2.2 = x := of_decide_eq_false ((eqX_vc s.2.2 x).symm.trans hx)
          have hset : setsE s x = false := by rw [setsE, decide_eq_false hx, Bool.and_false]
          refine ahas_spec hRx fun _ _ => ?_
          refine ⟨fun hkill => ?_, fun hkill => ?_⟩
          · have hkill : killE s x = true := hkill
            have e2 : MapI Tryz.prog 3 3 (v2 + 1) (updL (mapF (Ls k m)) (.int .i64 (m : Int)) 1) = mP (v2 + 1) (Ls k (m + 1)) := mP_upd1 fun j => by rw [hls, hkill, Bool.or_true]
            have e1 : MapI Tryz.prog 3 3 (u2 + 1) (updL (mapF (Kn k m)) (.int .i64 (m : Int)) 0) = mP (u2 + 1) (Kn k (m + 1)) := mP_upd0 fun j => by rw [hks, show kn1 x (Kn k m m) s = false by rw [kn1, if_pos hkill]]
            refine ⟨_, _, .int .i64 (m : Int), rfl, keyOfI (by omega), ⟨by first | omega | (dsimp only; omega), by decide, by decide⟩, ?_⟩
            refine ⟨_, _, .int .i64 (m : Int), rfl, keyOfI (by omega), ⟨by first | omega | (dsimp only; omega), by decide, by decide⟩, ?_⟩
            refine ⟨⟨by dsimp only; omega, by dsimp only; omega⟩, (m + 1, u2 + 1, v2 + 1), [(1, 1), (2, 2), (3, 3), (4, 4)], ?_, ⟨hle2, hml, by dsimp only; omega, by dsimp only; omega⟩, by dsimp only; omega⟩
            (repeat' (first | exact trivial | refine ⟨?_, ?_⟩ | exact rfl | assumption))
          · have hkill : killE s x = false := hkill
            have hls2 : Ls k (m + 1) = Ls k m := funext fun j => by
              rw [hls, hkill, Bool.or_false]
              split
              · rename_i e; rw [e]
              · rfl
            have e2 : mP v2 (Ls k m) = mP v2 (Ls k (m + 1)) := by rw [hls2]
            have hks2 : Kn k (m + 1) = Kn k m := funext fun j => by
              rw [hks, show kn1 x (Kn k m m) s = Kn k m m by rw [kn1, if_neg (by rw [hkill]; decide), if_neg (by rw [hset]; decide)]]
              split
              · rename_i e; rw [e]
              · rfl
            have e1 : mP u2 (Kn k m) = mP u2 (Kn k (m + 1)) := by rw [hks2]
            refine ⟨⟨by dsimp only; omega, by dsimp only; omega⟩, (m + 1, u2, v2), [(1, 1), (2, 2), (3, 3), (4, 4)], ?_, ⟨hle2, hml, by dsimp only; omega, by dsimp only; omega⟩, by dsimp only; omega⟩
            (repeat' (first | exact trivial | refine ⟨?_, ?_⟩ | exact rfl | assumption))
      · have h1 : ¬ s.1 = 1 := df h1
        have hset : setsE s x = false := by rw [setsE, decide_eq_false h1, Bool.false_and]
        refine ahas_spec hRx fun _ _ => ?_
        refine ⟨fun hkill => ?_, fun hkill => ?_⟩
        · have hkill : killE s x = true := hkill
          have e2 : MapI Tryz.prog 3 3 (v2 + 1) (updL (mapF (Ls k m)) (.int .i64 (m : Int)) 1) = mP (v2 + 1) (Ls k (m + 1)) := mP_upd1 fun j => by rw [hls, hkill, Bool.or_true]
          have e1 : MapI Tryz.prog 3 3 (u2 + 1) (updL (mapF (Kn k m)) (.int .i64 (m : Int)) 0) = mP (u2 + 1) (Kn k (m + 1)) := mP_upd0 fun j => by rw [hks, show kn1 x (Kn k m m) s = false by rw [kn1, if_pos hkill]]
          refine ⟨_, _, .int .i64 (m : Int), rfl, keyOfI (by omega), ⟨by first | omega | (dsimp only; omega), by decide, by decide⟩, ?_⟩
          refine ⟨_, _, .int .i64 (m : Int), rfl, keyOfI (by omega), ⟨by first | omega | (dsimp only; omega), by decide, by decide⟩, ?_⟩
          refine ⟨⟨by dsimp only; omega, by dsimp only; omega⟩, (m + 1, u2 + 1, v2 + 1), [(1, 1), (2, 2), (3, 3), (4, 4)], ?_, ⟨hle2, hml, by dsimp only; omega, by dsimp only; omega⟩, by dsimp only; omega⟩
          (repeat' (first | exact trivial | refine ⟨?_, ?_⟩ | exact rfl | assumption))
        · have hkill : killE s x = false := hkill
          have hls2 : Ls k (m + 1) = Ls k m := funext fun j => by
            rw [hls, hkill, Bool.or_false]
            split
            · rename_i e; rw [e]
            · rfl
          have e2 : mP v2 (Ls k m) = mP v2 (Ls k (m + 1)) := by rw [hls2]
          have hks2 : Kn k (m + 1) = Kn k m := funext fun j => by
            rw [hks, show kn1 x (Kn k m m) s = Kn k m m by rw [kn1, if_neg (by rw [hkill]; decide), if_neg (by rw [hset]; decide)]]
            split
            · rename_i e; rw [e]
            · rfl
          have e1 : mP u2 (Kn k m) = mP u2 (Kn k (m + 1)) := by rw [hks2]
          refine ⟨⟨by dsimp only; omega, by dsimp only; omega⟩, (m + 1, u2, v2), [(1, 1), (2, 2), (3, 3), (4, 4)], ?_, ⟨hle2, hml, by dsimp only; omega, by dsimp only; omega⟩, by dsimp only; omega⟩
          (repeat' (first | exact trivial | refine ⟨?_, ?_⟩ | exact rfl | assumption))
    · have hml : m = X.length := by have := df h; dsimp only at this; omega
      subst hml
      have e1 : mP u2 (Kn k X.length) = mP u2 (Kn (k + 1) 0) := by rw [hM.kn]
      have e2 : mP v2 (Ls k X.length) = mP v2 (Ls (k + 1) 0) := by rw [hM.ln]
      refine ⟨⟨by first | omega | (dsimp only; omega), by first | omega | (dsimp only; omega)⟩, (k + 1, u2, v2), [(1, 1), (2, 2), (3, 3)], ?_, ⟨hle1.trans hle2, hlt, by dsimp only; omega, by dsimp only; omega⟩, by dsimp only; omega⟩
      (repeat' (first | exact trivial | refine ⟨?_, ?_⟩ | exact rfl | assumption))
  · have hkl : k = b.2.1.length := by have := df h; dsimp only at this; omega
    refine famS_k X b.2.1 fun A B hS => ?_
    have hKe := hM.ke
    have hLe := hM.le
    rw [← hkl] at hKe hLe
    refine ⟨Nat, fun i => ⟨[(0, .v (.slice a n c)), (4, .ptr 1 0), (5, .mp 2), (6, .mp 3), (11, .own 4), (12, .own 5), (51, .v (.slice a n c)), (52, .v (.int .i64 n)), (53, .v (.int .i64 i))], [(1, .cells 110 (vL [.slice none 0 0, .slice none 0 0, .slice none 0 0])), (2, .obj (mP u (Kn k 0))), (3, .obj (mP v (Ls k 0))), (4, .row 3 1 (iRows (A i))), (5, .row 3 1 (iRows (B i)))], 6⟩,
      fun i H' => Le H1 H' ∧ i ≤ X.length, fun i => X.length - i, ⟨0, [(1, 1), (2, 2), (3, 3)], ?_, Le.refl H1, Nat.zero_le _⟩, ?_⟩
    · have e1 : iRows (A 0) = [] := by rw [hS.a0]; rfl
      have e2 : iRows (B 0) = [] := by rw [hS.b0]; rfl
      (repeat' (first | exact trivial | refine ⟨?_, ?_⟩ | exact rfl | assumption))
    rintro i H2 _ ⟨hle2, hi⟩
    have hal := hS.al i
    have hbl := hS.bl i
    have hail : (iRows (A i)).length = (A i).length := List.length_map _
    have hbil : (iRows (B i)).length = (B i).length := List.length_map _
    refine ⟨fun h => ?_, fun h => ?_⟩
    · have hil : i < X.length := by have := dt h; omega
      refine name_k X[i] fun x hxe => ?_
      have hxx : X[i]? = some x := by rw [hxe]; exact List.getElem?_eq_getElem hil
      have hA1 := hS.a1 i x hxx
      have hB1 := hS.b1 i x hxx
      have hk1 := mapF_at (Kn k 0) i
      rw [hKe i x hxx] at hk1
      have hl1 := mapF_at (Ls k 0) i
      rw [hLe i x hxx] at hl1
      refine ⟨_, _, .int .i64 (i : Int), rfl, keyOfI (by omega), ?_⟩
      refine ⟨fun h1 => ?_, fun h1 => ?_⟩
      · have h1 := dt h1
        rw [hk1] at h1
        have h1 : knB x b.2.1 = true := Decidable.byContradiction fun h2 => by rw [if_neg h2] at h1; omega
        have e1 : iRows (A i) ++ [[.int .i64 (i : Nat)]] = iRows (A (i + 1)) := by rw [hA1, if_pos h1, iRows, iRows, List.map_append]; rfl
        have e2 : iRows (B i) = iRows (B (i + 1)) := by rw [hB1, h1, if_neg (by simp), List.append_nil]
        refine ⟨⟨by show (_ + 1) * 8 ≤ 140737488355328; omega, by show _ + 1 ≤ 9223372036854775807; omega⟩, ?_⟩
        refine ⟨⟨by omega, by omega⟩, i + 1, [(1, 1), (2, 2), (3, 3), (4, 7), (5, 5)], ?_, ⟨hle2, hil⟩, by dsimp only; omega⟩
        (repeat' (first | exact trivial | refine ⟨?_, ?_⟩ | exact rfl | assumption))
      · have h1 := df h1
        rw [hk1] at h1
        have h1 : knB x b.2.1 = false := by
          cases hc : knB x b.2.1 with
          | false => rfl
          | true => rw [hc, if_pos rfl] at h1; exact absurd rfl h1
        have e1 : iRows (A i) = iRows (A (i + 1)) := by rw [hA1, h1, if_neg (by decide), List.append_nil]
        refine ⟨_, _, .int .i64 (i : Int), rfl, keyOfI (by omega), ?_⟩
        refine ⟨fun h2 => ?_, fun h2 => ?_⟩
        · have h2 := dt h2
          rw [hl1] at h2
          have h2 : losB x b.2.1 = true := Decidable.byContradiction fun h3 => by rw [if_neg h3] at h2; omega
          have e2 : iRows (B i) ++ [[.int .i64 (i : Nat)]] = iRows (B (i + 1)) := by rw [hB1, h1, h2, if_pos (by decide), iRows, iRows, List.map_append]; rfl
          refine ⟨⟨by show (_ + 1) * 8 ≤ 140737488355328; omega, by show _ + 1 ≤ 9223372036854775807; omega⟩, ?_⟩
          refine ⟨⟨by omega, by omega⟩, i + 1, [(1, 1), (2, 2), (3, 3), (4, 4), (5, 7)], ?_, ⟨hle2, hil⟩, by dsimp only; omega⟩
          (repeat' (first | exact trivial | refine ⟨?_, ?_⟩ | exact rfl | assumption))
        · have h2 := df h2
          rw [hl1] at h2
          have h2 : losB x b.2.1 = false := by
            cases hc : losB x b.2.1 with
            | false => rfl
            | true => rw [hc, if_pos rfl] at h2; exact absurd rfl h2
          have e2 : iRows (B i) = iRows (B (i + 1)) := by rw [hB1, h1, h2, if_neg (by decide), List.append_nil]
          refine ⟨⟨by omega, by omega⟩, i + 1, [(1, 1), (2, 2), (3, 3), (4, 4), (5, 5)], ?_, ⟨hle2, hil⟩, by dsimp only; omega⟩
          (repeat' (first | exact trivial | refine ⟨?_, ?_⟩ | exact rfl | assumption))
    · have hil : i = X.length := by have := df h; omega
      subst hil
      rw [hS.ae, hS.be]
      have hAi := hS.ai X.length (by omega)
      have hBi := hS.bi X.length (by omega)
      rw [hS.ae] at hAi
      rw [hS.be] at hBi
      intro y1 H3 hle3 hy1
      refine of_row_k (α := Int) hy1 (rc_iRows hAi) fun d1 d2 d3 ev1 hr1 => ?_
      subst ev1
      have hnn : (n : Int) = ((X.length : Nat) : Int) := by omega
      rw [hnn]
      refine wof_spec hX hr1 fun g1 g2 g3 H4 hle4 hg => ?_
      intro y2 H5 hle5 hy2
      refine of_row_k (α := Int) hy2 (rc_iRows hBi) fun f1 f2 f3 ev2 hr2 => ?_
      subst ev2
      rw [hnn]
      refine wof_spec hX hr2 fun k1 k2 k3 H6 hle6 hk6 => ?_
      exact hK ⟨g1, g2, g3, k1, k2, k3⟩ H6 ((((hle1.trans hle2).trans hle3.le).trans hle4).trans (hle5.le.trans hle6)) ⟨hg.up (hle5.le.trans hle6), hk6⟩
end Go.Proofs
end
section
namespace Go.Proofs
open Go.Sy
set_option maxRecDepth 20000
set_option maxHeartbeats 4000000
/-! The equations of avail. -/
theorem exprsK_len : ∀ (p : Prog) (o : List Expr), (p.foldl (fun o b => exprsB o b.2.1) o).length ≤ o.length + stmtsN p
  | [], o => by simp [stmtsN]
  | b :: r, o => by
    have h1 := exprsK_len r (exprsB o b.2.1)
    have h2 := exprsB_len b.2.1 o
    have e : stmtsN (b :: r) = b.2.1.length + stmtsN r := by simp [stmtsN]
    rw [List.foldl_cons, e]
    omega
theorem stmts512 {p : Prog} (h : checkE p = 0) : stmtsN p ≤ 512 := by
  unfold checkE at h
  split at h
  · cases h
  · omega
theorem exprs512 {p : Prog} (h : checkE p = 0) : (exprsOf p).length ≤ 512 := by
  have h1 := exprsK_len p []
  have h2 := stmts512 h
  rw [List.length_nil] at h1
  rw [exprsOf]
  omega
def asysOf (p : Prog) : Bt.SyB := ⟨2, (exprsOf p).length, p.length, gSort (edgesOf p), [0], nilB (exprsOf p).length, p.map (atrF (exprsOf p))⟩
theorem asysT_take {p : Prog} {i : Nat} {b : Block} (h : p[i]? = some b) : ((asysOf p).T.map Bt.TrB.mk).take (i + 1) = ((asysOf p).T.map Bt.TrB.mk).take i ++ [Bt.TrB.mk (atrF (exprsOf p) b)] := by
  have e : ((asysOf p).T.map Bt.TrB.mk)[i]? = some (Bt.TrB.mk (atrF (exprsOf p) b)) := by
    show ((p.map (atrF (exprsOf p))).map Bt.TrB.mk)[i]? = _
    rw [List.getElem?_map, List.getElem?_map, h]; rfl
  rw [List.take_add_one, e, Option.toList_some]
theorem asysOf_ok {p : Prog} (h : checkE p = 0) : Bt.OkS (asysOf p) := by
  have hf := check_facts h
  have hx := exprs512 h
  refine ⟨.inr rfl, ?_, ?_, ?_, ?_, ?_, ?_, ?_, ?_⟩
  · show (exprsOf p).length ≤ 1024
    omega
  · show 1 ≤ p.length ∧ p.length ≤ 256
    omega
  · show (gSort (edgesOf p)).length ≤ 1024
    have h1 := gSort_len (edgesOf p)
    have h2 := eAll_len p p 0
    rw [edgesOf] at h1 ⊢
    omega
  · intro e he
    have he' : e ∈ edgesOf p := (gSort_mem _ _).1 he
    have h1 := eAll_lt p 0 e he'
    show (0 ≤ e.1 ∧ e.1 < (p.length : Nat)) ∧ 0 ≤ e.2 ∧ e.2 < (p.length : Nat)
    omega
  · intro v hv
    have hv : v ∈ [(0 : Int)] := hv
    rw [List.mem_singleton] at hv
    show 0 ≤ v ∧ v < (p.length : Nat)
    omega
  · exact nilB_ok _
  · exact List.length_map _
  · intro t ht
    have ht : t ∈ p.map (atrF (exprsOf p)) := ht
    obtain ⟨b, hb, rfl⟩ := List.mem_map.1 ht
    exact atrF_ok _ b
theorem asys_spec {p : Prog} (hp : p.length ≤ 12) (hl : ∀ b ∈ p, b.2.1.length ≤ 100000) (hc : stmtsN p ≤ 1000000) (hv : cnt p < 400000) {a : Option Addr} {n c : Nat} {H : Hp} {K : Value → Hp → Prop} (ha : RL H a n c p)
    (hbad : checkE p ≠ 0 → ∀ H', Le H H' → K (.tuple #[.agg zSys.toArray, .int .i64 (checkE p)]) H')
    (hK : checkE p = 0 → ∀ z H', Le H H' → Bt.SysR H' (asysOf p) z → K (.tuple #[Bt.sysA (asysOf p) z, .int .i64 0]) H') : Does Tryz.prog 14 [.agg #[.slice a n c]] H K := by
  have hn := ha.n_eq
  have hmx := ha.le
  refine spec_of cx_ok cx_mix rfl Tryz.func14 Tryz.call14 Tryz.ntmps14 Tryz.results14 rfl rfl ?_
  refine pcheck_spec ha hc hv fun H0 hle0 => ?_
  refine ⟨fun h => ?_, fun h => ?_⟩
  · exact hbad (nt h) _ (Le.refl H)
  have he : checkE p = 0 := nf h
  have hK := hK he
  have hx5 := exprs512 he
  refine texprs_spec hp hl ha fun ax nx cx H1 hle1 hrx => ?_
  have hnx := hrx.n_eq
  subst hnx
  refine ⟨none, ?_⟩
  refine region_plan (α := SA) ?_ ?_
    (.two 6 7 (.two 6 12 (.two 7 10 (.two 7 12 (.two 10 12 (.one [2, 3] [0, 1, 2, 3, 4, 5, 8, 9, 6, 7, 10, 11, 12, 13]) (.one [2, 3] [0, 1, 2, 3, 4, 5, 8, 9, 6, 7, 12, 10, 11, 13])) (.one [2, 3] [0, 1, 2, 3, 4, 5, 8, 9, 6, 12, 7, 10, 11, 13])) (.two 7 12 (.one [2, 3] [0, 1, 2, 3, 4, 5, 8, 9, 6, 10, 7, 11, 12, 13]) (.two 10 12 (.one [2, 3] [0, 1, 2, 3, 4, 5, 8, 9, 6, 10, 12, 7, 11, 13]) (.one [2, 3] [0, 1, 2, 3, 4, 5, 8, 9, 6, 12, 10, 7, 11, 13])))) (.two 7 10 (.one [2, 3] [0, 1, 2, 3, 4, 5, 8, 9, 12, 6, 7, 10, 11, 13]) (.one [2, 3] [0, 1, 2, 3, 4, 5, 8, 9, 12, 6, 10, 7, 11, 13]))) (.two 6 12 (.two 10 12 (.one [2, 3] [0, 1, 2, 3, 4, 5, 8, 9, 7, 6, 10, 11, 12, 13]) (.one [2, 3] [0, 1, 2, 3, 4, 5, 8, 9, 7, 6, 12, 10, 11, 13])) (.two 7 12 (.one [2, 3] [0, 1, 2, 3, 4, 5, 8, 9, 7, 12, 6, 10, 11, 13]) (.one [2, 3] [0, 1, 2, 3, 4, 5, 8, 9, 12, 7, 6, 10, 11, 13]))))
    (fun z => ⟨[(1, .ptr 0 0), (2, .ptr 1 0), (5, .v (.slice ax (exprsOf p).length cx)), (6, .ptr 2 0)],
      [(0, .cells 24 [.v (.slice a n c)]), (1, .cells 32 (vL zSys)), (2, .cells 32 [.v (.int .i64 (2 : Nat)), .v (.int .i64 ((exprsOf p).length : Nat)), .v (.int .i64 n), .v (.slice z.ea z.en z.ec), .own 3, .v (.slice z.ia z.ni z.ic), .v (.slice none 0 0)]), (3, .row 3 1 iRow0)], 4⟩)
    (fun z H' => Le H1 H' ∧ RL H' z.ea z.en z.ec (gSort (edgesOf p)) ∧ RL H' z.ia z.ni z.ic (nilB (exprsOf p).length)) (by kernel_rfl) ⟨⟨⟨⟨⟨?_, ?_⟩, ?_⟩, ⟨?_, ⟨?_, ?_⟩⟩⟩, ⟨?_, ?_⟩⟩, ⟨⟨?_, ?_⟩, ⟨?_, ?_⟩⟩⟩ ?_
  · exact ⟨cx_ok.tt, cx_ok.eqs⟩
  · exact cx_mix
  · refine edges_spec hp (ha.up hle1) fun e1 e2 e3 H2 hle2 hr2 => ?_
    refine wof_spec (w := (exprsOf p).length) (l := []) (by omega) rl_nil fun w1 w2 w3 H5 hle5 hr5 => ?_
    exact ⟨⟨e1, e2, e3, none, 0, 0, w1, w2, w3, none, 0, 0⟩, [(0, 0), (1, 1), (2, 3), (3, 2)], by (repeat' (first | exact trivial | refine ⟨?_, ?_⟩ | exact rfl | assumption)), hle2.trans hle5, hr2.up hle5, hr5⟩
  · refine edges_spec hp (ha.up hle1) fun e1 e2 e3 H2 hle2 hr2 => ?_
    refine wof_spec (w := (exprsOf p).length) (l := []) (by omega) rl_nil fun w1 w2 w3 H5 hle5 hr5 => ?_
    exact ⟨⟨e1, e2, e3, none, 0, 0, w1, w2, w3, none, 0, 0⟩, [(0, 0), (1, 1), (2, 3), (3, 2)], by (repeat' (first | exact trivial | refine ⟨?_, ?_⟩ | exact rfl | assumption)), hle2.trans hle5, hr2.up hle5, hr5⟩
  · refine edges_spec hp (ha.up hle1) fun e1 e2 e3 H2 hle2 hr2 => ?_
    refine wof_spec (w := (exprsOf p).length) (l := []) (by omega) rl_nil fun w1 w2 w3 H5 hle5 hr5 => ?_
    exact ⟨⟨e1, e2, e3, none, 0, 0, w1, w2, w3, none, 0, 0⟩, [(0, 0), (1, 1), (2, 2), (3, 3)], by (repeat' (first | exact trivial | refine ⟨?_, ?_⟩ | exact rfl | assumption)), hle2.trans hle5, hr2.up hle5, hr5⟩
  · refine edges_spec hp (ha.up hle1) fun e1 e2 e3 H2 hle2 hr2 => ?_
    refine wof_spec (w := (exprsOf p).length) (l := []) (by omega) rl_nil fun w1 w2 w3 H5 hle5 hr5 => ?_
    exact ⟨⟨e1, e2, e3, none, 0, 0, w1, w2, w3, none, 0, 0⟩, [(0, 0), (1, 1), (2, 3), (3, 2)], by (repeat' (first | exact trivial | refine ⟨?_, ?_⟩ | exact rfl | assumption)), hle2.trans hle5, hr2.up hle5, hr5⟩
  · refine edges_spec hp (ha.up hle1) fun e1 e2 e3 H2 hle2 hr2 => ?_
    refine wof_spec (w := (exprsOf p).length) (l := []) (by omega) rl_nil fun w1 w2 w3 H5 hle5 hr5 => ?_
    exact ⟨⟨e1, e2, e3, none, 0, 0, w1, w2, w3, none, 0, 0⟩, [(0, 0), (1, 1), (2, 2), (3, 3)], by (repeat' (first | exact trivial | refine ⟨?_, ?_⟩ | exact rfl | assumption)), hle2.trans hle5, hr2.up hle5, hr5⟩
  · refine edges_spec hp (ha.up hle1) fun e1 e2 e3 H2 hle2 hr2 => ?_
    refine wof_spec (w := (exprsOf p).length) (l := []) (by omega) rl_nil fun w1 w2 w3 H5 hle5 hr5 => ?_
    exact ⟨⟨e1, e2, e3, none, 0, 0, w1, w2, w3, none, 0, 0⟩, [(0, 0), (1, 1), (2, 2), (3, 3)], by (repeat' (first | exact trivial | refine ⟨?_, ?_⟩ | exact rfl | assumption)), hle2.trans hle5, hr2.up hle5, hr5⟩
  · refine edges_spec hp (ha.up hle1) fun e1 e2 e3 H2 hle2 hr2 => ?_
    refine wof_spec (w := (exprsOf p).length) (l := []) (by omega) rl_nil fun w1 w2 w3 H5 hle5 hr5 => ?_
    exact ⟨⟨e1, e2, e3, none, 0, 0, w1, w2, w3, none, 0, 0⟩, [(0, 0), (1, 1), (2, 2), (3, 3)], by (repeat' (first | exact trivial | refine ⟨?_, ?_⟩ | exact rfl | assumption)), hle2.trans hle5, hr2.up hle5, hr5⟩
  · refine edges_spec hp (ha.up hle1) fun e1 e2 e3 H2 hle2 hr2 => ?_
    refine wof_spec (w := (exprsOf p).length) (l := []) (by omega) rl_nil fun w1 w2 w3 H5 hle5 hr5 => ?_
    exact ⟨⟨e1, e2, e3, none, 0, 0, w1, w2, w3, none, 0, 0⟩, [(0, 0), (1, 1), (2, 2), (3, 3)], by (repeat' (first | exact trivial | refine ⟨?_, ?_⟩ | exact rfl | assumption)), hle2.trans hle5, hr2.up hle5, hr5⟩
  · refine edges_spec hp (ha.up hle1) fun e1 e2 e3 H2 hle2 hr2 => ?_
    refine wof_spec (w := (exprsOf p).length) (l := []) (by omega) rl_nil fun w1 w2 w3 H5 hle5 hr5 => ?_
    exact ⟨⟨e1, e2, e3, none, 0, 0, w1, w2, w3, none, 0, 0⟩, [(0, 0), (1, 1), (2, 3), (3, 2)], by (repeat' (first | exact trivial | refine ⟨?_, ?_⟩ | exact rfl | assumption)), hle2.trans hle5, hr2.up hle5, hr5⟩
  · refine edges_spec hp (ha.up hle1) fun e1 e2 e3 H2 hle2 hr2 => ?_
    refine wof_spec (w := (exprsOf p).length) (l := []) (by omega) rl_nil fun w1 w2 w3 H5 hle5 hr5 => ?_
    exact ⟨⟨e1, e2, e3, none, 0, 0, w1, w2, w3, none, 0, 0⟩, [(0, 0), (1, 1), (2, 3), (3, 2)], by (repeat' (first | exact trivial | refine ⟨?_, ?_⟩ | exact rfl | assumption)), hle2.trans hle5, hr2.up hle5, hr5⟩
  · refine edges_spec hp (ha.up hle1) fun e1 e2 e3 H2 hle2 hr2 => ?_
    refine wof_spec (w := (exprsOf p).length) (l := []) (by omega) rl_nil fun w1 w2 w3 H5 hle5 hr5 => ?_
    exact ⟨⟨e1, e2, e3, none, 0, 0, w1, w2, w3, none, 0, 0⟩, [(0, 0), (1, 1), (2, 3), (3, 2)], by (repeat' (first | exact trivial | refine ⟨?_, ?_⟩ | exact rfl | assumption)), hle2.trans hle5, hr2.up hle5, hr5⟩
  · refine edges_spec hp (ha.up hle1) fun e1 e2 e3 H2 hle2 hr2 => ?_
    refine wof_spec (w := (exprsOf p).length) (l := []) (by omega) rl_nil fun w1 w2 w3 H5 hle5 hr5 => ?_
    exact ⟨⟨e1, e2, e3, none, 0, 0, w1, w2, w3, none, 0, 0⟩, [(0, 0), (1, 1), (2, 2), (3, 3)], by (repeat' (first | exact trivial | refine ⟨?_, ?_⟩ | exact rfl | assumption)), hle2.trans hle5, hr2.up hle5, hr5⟩
  rintro ⟨ea, en, ec, na, nn, nc, ia, ni, ic, ta, tn, tc⟩ H2 _ ⟨hle2, hze, hzi⟩
  dsimp only at hze hzi
  refine ⟨Nat × List (List Value), fun q => ⟨[(1, .ptr 0 0), (2, .ptr 1 0), (5, .v (.slice ax (exprsOf p).length cx)), (6, .ptr 2 0), (30, .v (.slice a n c)), (31, .v (.int .i64 n)), (32, .v (.int .i64 q.1))],
      [(0, .cells 24 [.v (.slice a n c)]), (1, .cells 32 (vL zSys)), (2, .cells 32 [.v (.int .i64 (2 : Nat)), .v (.int .i64 ((exprsOf p).length : Nat)), .v (.int .i64 n), .v (.slice ea en ec), .own 3, .v (.slice ia ni ic), .own 4]), (3, .row 3 1 iRow0), (4, .row 110 3 q.2)], 5⟩,
    fun q H' => Le H2 H' ∧ q.1 ≤ p.length ∧ RC (α := Bt.TrB) H' q.2 (((asysOf p).T.map Bt.TrB.mk).take q.1), fun q => p.length - q.1, ⟨(0, []), [(0, 0), (1, 1), (2, 2), (3, 3)], ?_, Le.refl _, Nat.zero_le _, RC.nil⟩, ?_⟩
  · (repeat' (first | exact trivial | refine ⟨?_, ?_⟩ | exact rfl | assumption))
  rintro ⟨j, css⟩ H4 _ ⟨hle4, hj, hrc⟩
  dsimp only at hj hrc
  have hle : Le H H4 := (hle1.trans hle2).trans hle4
  have hTl : ((asysOf p).T.map Bt.TrB.mk).length = p.length := by simp [asysOf]
  have hcl : css.length = j := by have h1 := hrc.1; rw [List.length_take] at h1; omega
  refine ⟨fun h => ?_, fun h => ?_⟩
  · have hlt : j < p.length := by have := dt h; dsimp only at this; omega
    refine name_k p[j] fun b hbe => ?_
    have hbb : p[j]? = some b := by rw [hbe]; exact List.getElem?_eq_getElem hlt
    refine block_k (ha.up hle) hbb fun ad a5 n5 c5 q1 hh hr5 hs5 ht5 => ?_
    refine ⟨ad, ⟨by dsimp only; omega, by dsimp only; omega, q1⟩, ?_⟩
    refine ⟨_, hh, ?_⟩
    refine ⟨some ([1000000, 2, 4, 6], [0, 1, 2, 3, 4, 5, 6, 7, 8]), by kernel_rfl, ?_⟩
    refine atrans_spec (X := exprsOf p) (by omega) (hl b (by rw [hbe]; exact List.getElem_mem hlt)) (hrx.up (hle2.trans hle4)) hr5 fun zt H5 hle5 hr6 => ?_
    refine ⟨⟨by show (css.length + 1) * 72 ≤ 140737488355328; omega, by show css.length + 1 ≤ 9223372036854775807; omega⟩, ?_⟩
    have hrc2 : RC (α := Bt.TrB) H5 (css ++ [Bt.trV zt]) (((asysOf p).T.map Bt.TrB.mk).take (j + 1)) := by
      rw [asysT_take hbb]; exact trb_snoc (RC.up hrc hle5) hr6
    refine ⟨⟨by omega, by omega⟩, (j + 1, css ++ [Bt.trV zt]), [(0, 0), (1, 1), (2, 2), (3, 3), (4, 7)], ?_, ⟨hle4.trans hle5, hlt, hrc2⟩, by dsimp only; omega⟩
    (repeat' (first | exact trivial | refine ⟨?_, ?_⟩ | exact rfl | assumption))
  · have hjl : j = p.length := by have := df h; dsimp only at this; omega
    rw [hjl, List.take_of_length_le (by omega)] at hrc
    intro v1 H5 hle5 hv1
    refine ints_k hv1 fun na nn nc ev1 hr1 => ?_
    subst ev1
    intro v3 H7 hle7 hv3
    refine of_row_k (α := Bt.TrB) hv3 (RC.up hrc (hle5.le.trans hle7.le)) fun ta tn tc ev3 hr3 => ?_
    subst ev3
    have h57 := hle5.le.trans hle7.le
    have hsys : Bt.SysR H7 (asysOf p) ⟨ea, en, ec, na, nn, nc, ia, ni, ic, ta, tn, tc⟩ :=
      ⟨hze.up (hle4.trans h57), hr1.up hle7.le, hzi.up (hle4.trans h57), hr3⟩
    have hK := hK ⟨ea, en, ec, na, nn, nc, ia, ni, ic, ta, tn, tc⟩ H7 (hle.trans h57) hsys
    have e2 : (asysOf p).m = n := hn.symm
    rw [Bt.sysA, Bt.sysV, e2] at hK
    exact hK
end Go.Proofs
end
section
namespace Go.Proofs
open Go.Sy
set_option maxRecDepth 20000
set_option maxHeartbeats 4000000
/-! avail.Sets. -/
/-- What is available at the beginnings, and at the ends. -/
def availI (p : Prog) : List (List Int) := (Bt.solveS (asysOf p)).map numB
def availO (p : Prog) : List (List Int) := (Bt.outsS (asysOf p) (Bt.solveS (asysOf p))).map numB
theorem rc_snocI {H : Hp} {css : List (List Value)} {X : List (List Int)} (h : RC (α := List Int) H css X) {a : Option Addr} {n c : Nat} {x : List Int} (hx : RL H a n c x) : RC (α := List Int) H (css ++ [[.slice a n c]]) (X ++ [x]) :=
  RC.snoc h (show Enc.R (α := List Int) H [.slice a n c] x from ⟨a, n, c, rfl, hx⟩)
theorem asets_spec {p : Prog} (hp : p.length ≤ 12) (hl : ∀ b ∈ p, b.2.1.length ≤ 100000) (hc : stmtsN p ≤ 1000000) (hv : cnt p < 400000) {a : Option Addr} {n c : Nat} {H : Hp} {K : Value → Hp → Prop} (ha : RL H a n c p) (hT : TabH H)
    (hbad : checkE p ≠ 0 → ∀ H', Le H H' → K (.tuple #[.slice none 0 0, .slice none 0 0, .int .i64 (checkE p)]) H')
    (hK : checkE p = 0 → ∀ a1 n1 c1 a2 n2 c2 H', Le H H' → RL (α := List Int) H' a1 n1 c1 (availI p) → RL (α := List Int) H' a2 n2 c2 (availO p) → K (.tuple #[.slice a1 n1 c1, .slice a2 n2 c2, .int .i64 0]) H') :
    Does Tryz.prog 18 [.agg #[.slice a n c]] H K := by
  have hn := ha.n_eq
  refine spec_of cx_ok cx_mix rfl Tryz.func18 Tryz.call18 Tryz.ntmps18 Tryz.results18 rfl rfl ?_
  refine asys_spec hp hl hc hv ha (fun he H1 hle1 => ?_) (fun he z H1 hle1 hs => ?_)
  · refine ⟨fun _ => ?_, (fun h => absurd (nf h) he)⟩
    exact hbad he _ hle1
  · have ho := asysOf_ok he
    have hA := Bt.solveS_ok ho
    refine ⟨fun h => absurd rfl (nt h), fun _ => ?_⟩
    refine Bt.lsolve_spec ho hs fun a1 n1 c1 k H2 hle2 hr2 => ?_
    refine Bt.louts_spec ho hA (hs.up hle2) hr2 fun a2 n2 c2 H3 hle3 hr3 => ?_
    have hle := (hle1.trans hle2).trans hle3
    have hm : (Bt.solveS (asysOf p)).length = p.length := hA.len
    have hn1 := hr2.n_eq
    rw [hm] at hn1
    have hn2 := hr3.n_eq
    rw [Bt.outsS, List.length_map, List.length_range] at hn2
    have hn2 : n2 = p.length := hn2
    have hr23 := hr2.up hle3
    have hlI : (availI p).length = p.length := by rw [availI, List.length_map, hm]
    have hlO : (availO p).length = p.length := by rw [availO, List.length_map, Bt.outsS, List.length_map, List.length_range]; rfl
    refine ⟨Nat × List (List Value) × List (List Value), fun q => ⟨[(7, .v (.slice a1 n1 c1)), (10, .v (.slice a2 n2 c2)), (12, .own 2), (13, .own 3), (36, .v (.int .i64 n1)), (37, .v (.int .i64 q.1))],
        [(0, .cells 24 [.v (.slice a n c)]), (1, .cells 32 (vL (Bt.sysV (asysOf p) z))), (2, .row 28 1 q.2.1), (3, .row 28 1 q.2.2)], 4⟩,
      fun q H' => Le H3 H' ∧ q.1 ≤ p.length ∧ RC (α := List Int) H' q.2.1 ((availI p).take q.1) ∧ RC (α := List Int) H' q.2.2 ((availO p).take q.1), fun q => p.length - q.1, ⟨(0, [], []), [(0, 0), (1, 1)], ?_, Le.refl H3, Nat.zero_le _, RC.nil, RC.nil⟩, ?_⟩
    · (repeat' (first | exact trivial | refine ⟨?_, ?_⟩ | exact rfl | assumption))
    rintro ⟨i, cs1, cs2⟩ H4 _ ⟨hle4, hi, hrc1, hrc2⟩
    dsimp only at hi hrc1 hrc2
    have hc1 : cs1.length = i := by have h1 := hrc1.1; rw [List.length_take] at h1; omega
    have hc2 : cs2.length = i := by have h1 := hrc2.1; rw [List.length_take] at h1; omega
    refine ⟨fun h => ?_, fun h => ?_⟩
    · have hlt : i < p.length := by have := dt h; dsimp only at this; omega
      refine name_k (Bt.aAt (Bt.solveS (asysOf p)) i) fun x hxe => ?_
      have hxx : (Bt.solveS (asysOf p))[i]? = some x := by rw [hxe]; exact Bt.aAt_get hA hlt
      have hok := hA.ok x (List.mem_of_getElem? hxx)
      have hokT := Bt.tAt_ok ho i
      have hokA := Bt.bApp_ok hokT.1 hokT.2 hok
      refine name_k (Bt.bApp (Bt.tAt (asysOf p) i) x) fun y hye => ?_
      rw [← hye] at hokA
      have hyy : (Bt.outsS (asysOf p) (Bt.solveS (asysOf p)))[i]? = some y := by
        rw [Bt.outsS, List.getElem?_map, List.getElem?_range (show i < (asysOf p).m from hlt), hye, hxe]; rfl
      have gI : (availI p)[i]? = some (numB x) := by rw [availI, List.getElem?_map, hxx]; rfl
      have gO : (availO p)[i]? = some (numB y) := by rw [availO, List.getElem?_map, hyy]; rfl
      have hx5 := exprs512 he
      have hs1 : x.length ≤ 100000 := by have h1 := hok.1; rw [sizeB] at h1; have h2 : (asysOf p).w = (exprsOf p).length := rfl; omega
      have hs2 : y.length ≤ 100000 := by have h1 := hokA.1; rw [sizeB] at h1; have h2 : (asysOf p).w = (exprsOf p).length := rfl; omega
      refine ⟨some ([1000000, 2, 3, 4, 6], [0, 1, 2, 3, 4, 8, 9, 10, 11, 12, 5, 6, 7, 13, 14, 15, 16, 17]), by kernel_rfl, ?_⟩
      refine list_k (hr23.up hle4) hxx fun ad a5 n5 c5 q1 hh hr5 => ?_
      refine ⟨ad, ⟨by dsimp only; omega, by dsimp only; omega, q1⟩, ?_⟩
      refine ⟨_, hh, ?_⟩
      refine list_k (hr3.up hle4) hyy fun ad2 a6 n6 c6 q2 hh2 hr6 => ?_
      refine ⟨ad2, ⟨by dsimp only; omega, by dsimp only; omega, q2⟩, ?_⟩
      refine ⟨_, hh2, ?_⟩
      have hT4 := hT.up (hle.trans hle4)
      refine list_spec hs1 hr5 hT4 fun d1 d2 d3 H5 hle5 hr7 => ?_
      refine ⟨⟨by show (cs1.length + 1) * 24 ≤ 140737488355328; omega, by show cs1.length + 1 ≤ 9223372036854775807; omega⟩, ?_⟩
      refine list_spec hs2 (hr6.up hle5) (hT4.up hle5) fun f1 f2 f3 H6 hle6 hr8 => ?_
      refine ⟨⟨by show (cs2.length + 1) * 24 ≤ 140737488355328; omega, by show cs2.length + 1 ≤ 9223372036854775807; omega⟩, ?_⟩
      have h46 := hle5.trans hle6
      have k1 : RC (α := List Int) H6 (cs1 ++ [[.slice d1 d2 d3]]) ((availI p).take (i + 1)) := by
        rw [List.take_add_one, gI]
        exact rc_snocI (RC.up hrc1 h46) (hr7.up hle6)
      have k2 : RC (α := List Int) H6 (cs2 ++ [[.slice f1 f2 f3]]) ((availO p).take (i + 1)) := by
        rw [List.take_add_one, gO]
        exact rc_snocI (RC.up hrc2 h46) hr8
      refine ⟨⟨by dsimp only; omega, by dsimp only; omega⟩, (i + 1, cs1 ++ [[.slice d1 d2 d3]], cs2 ++ [[.slice f1 f2 f3]]), [(0, 0), (1, 1), (2, 5), (3, 7)], ?_, ⟨hle4.trans h46, hlt, k1, k2⟩, by dsimp only; omega⟩
      (repeat' (first | exact trivial | refine ⟨?_, ?_⟩ | exact rfl | assumption))
    · have hil : i = p.length := by have := df h; dsimp only at this; omega
      rw [hil, List.take_of_length_le (by omega)] at hrc1
      rw [hil, List.take_of_length_le (by omega)] at hrc2
      intro v1 H5 hle5 hv1
      refine of_row_k (α := List Int) hv1 (RC.up hrc1 hle5.le) fun d1 d2 d3 e1 hr1 => ?_
      subst e1
      intro v3 H7 hle7 hv3
      refine of_row_k (α := List Int) hv3 (RC.up hrc2 (hle5.le.trans hle7.le)) fun f1 f2 f3 e3 hr2 => ?_
      subst e3
      exact hK he _ _ _ _ _ _ H7 ((hle.trans hle4).trans (hle5.le.trans hle7.le)) (hr1.up hle7.le) hr2
end Go.Proofs
end
section
namespace Go.Proofs
open Go.Sy
set_option maxRecDepth 20000
set_option maxHeartbeats 4000000
/-! AvailRuns: the law. -/
def knF (x : Expr) (k : Bool) (l : List Stmt) : Bool := l.foldl (kn1 x) k
theorem knF_up (x : Expr) : ∀ (l : List Stmt) {k : Bool}, knF x false l = true → knF x k l = true
  | [], _, h => by cases h
  | s :: r, k, h => by
    rw [knF, List.foldl_cons] at h ⊢
    by_cases hk : kn1 x false s = true
    · have h1 : kn1 x k s = true := by
        unfold kn1 at hk ⊢
        split at hk
        · cases hk
        · rename_i h2
          rw [if_neg h2]
          split
          · rfl
          · rename_i h3
            rw [if_neg h3] at hk
            cases hk
      rw [hk] at h
      rw [h1]; exact h
    · have hk : kn1 x false s = false := by simpa using hk
      rw [hk] at h
      exact knF_up x r h
theorem knF_keep (x : Expr) : ∀ (l : List Stmt), losB x l = false → knF x true l = true
  | [], _ => rfl
  | s :: r, h => by
    rw [losB, List.any_cons, Bool.or_eq_false_iff] at h
    have h1 : kn1 x true s = true := by
      unfold kn1
      rw [if_neg (by rw [h.1]; decide)]
      split <;> rfl
    rw [knF, List.foldl_cons, h1]
    exact knF_keep x r h.2
def nowL (p : Prog) (V : List StE) : Nat → Bool := V.foldl (fun f s m => knF ((exprsOf p)[m]?.getD (0, za, za)) (f m) (blkN p s.1).2.1) fun _ => false
theorem nowL_snoc (p : Prog) (V : List StE) (s : StE) : nowL p (V ++ [s]) = fun m => knF ((exprsOf p)[m]?.getD (0, za, za)) (nowL p V m) (blkN p s.1).2.1 := by
  rw [nowL, List.foldl_append]; rfl
def avA (p : Prog) : List Wd := Bt.solveS (asysOf p)
theorem asys_tAt {p : Prog} {i : Nat} {b : Block} (h : p[i]? = some b) : Bt.tAt (asysOf p) i = atrF (exprsOf p) b := by
  have e : (asysOf p).T[i]? = some (atrF (exprsOf p) b) := by
    show (p.map (atrF (exprsOf p)))[i]? = _
    rw [List.getElem?_map, h]; rfl
  rw [Bt.tAt, e]; rfl
theorem sel_mem {f : Nat → Bool} {w m : Nat} : (m : Int) ∈ ((List.range w).filter f).map (fun k : Nat => (k : Int)) ↔ m < w ∧ f m = true := by
  constructor
  · intro h
    obtain ⟨k, hk, e⟩ := List.mem_map.1 h
    obtain ⟨h1, h2⟩ := List.mem_filter.1 hk
    have e : k = m := by omega
    subst e
    exact ⟨List.mem_range.1 h1, h2⟩
  · rintro ⟨h1, h2⟩
    exact List.mem_map.2 ⟨m, List.mem_filter.2 ⟨List.mem_range.2 h1, h2⟩, rfl⟩
theorem avail_step {p : Prog} {b : Block} {x : Wd} (hx : okB (exprsOf p).length x) {m : Nat} (h : bitAt (Bt.bApp (atrF (exprsOf p) b) x) m = true) {k : Bool} (hk : bitAt x m = true → k = true) : knF ((exprsOf p)[m]?.getD (0, za, za)) k b.2.1 = true := by
  rw [Bt.bit_app (atrF_ok _ b).1 (atrF_ok _ b).2 hx] at h
  rw [atrF] at h
  dsimp only at h
  rw [bit_of, bit_of, agen, akil] at h
  by_cases hg : knB ((exprsOf p)[m]?.getD (0, za, za)) b.2.1 = true
  · exact knF_up _ _ hg
  · have hgen : decide (m < (exprsOf p).length ∧ (m : Int) ∈ ((List.range (exprsOf p).length).filter fun k => knB ((exprsOf p)[k]?.getD (0, za, za)) b.2.1).map fun k : Nat => (k : Int)) = false := decide_eq_false fun h2 => hg (sel_mem (f := fun k => knB ((exprsOf p)[k]?.getD (0, za, za)) b.2.1).1 h2.2).2
    rw [hgen, Bool.or_false, Bool.and_eq_true] at h
    have hk := hk h.1
    subst hk
    refine knF_keep _ _ ?_
    cases hlo : losB ((exprsOf p)[m]?.getD (0, za, za)) b.2.1 with
    | false => rfl
    | true =>
      exfalso
      have hml : m < (exprsOf p).length := by
        by_cases hml : m < (exprsOf p).length
        · exact hml
        · have := hx.2 m (by omega)
          rw [this] at h; cases h.1
      have h2 := h.2
      rw [decide_eq_true (show m < (exprsOf p).length ∧ _ from ⟨hml, sel_mem.2 ⟨hml, by simp [hg, hlo]⟩⟩)] at h2
      cases h2
theorem asys_le {p : Prog} (he : checkE p = 0) {e : Edg} (h : e ∈ edgesOf p) {m : Nat} (hb : bitAt (Bt.aAt (avA p) e.2.toNat) m = true) : bitAt (Bt.bApp (Bt.tAt (asysOf p) e.1.toNat) (Bt.aAt (avA p) e.1.toNat)) m = true := by
  have h1 := Bt.sol_edge (asysOf_ok he) (show e ∈ (asysOf p).E from (gSort_mem _ _).2 h)
  have h2 := h1.2 m
  unfold Bt.lb at h2
  rw [if_neg (show ¬ (asysOf p).wh = 1 from (by decide : ¬ (2 : Nat) = 1))] at h2
  exact h2 hb
theorem avail_start {p : Prog} (he : checkE p = 0) (m : Nat) : bitAt (Bt.aAt (avA p) 0) m = false := by
  have hf := check_facts he
  have h1 := Bt.sol_start (asysOf_ok he) (v := 0) (by show 0 < p.length; omega)
  have h2 := h1.2 m
  unfold Bt.lb at h2
  rw [if_neg (show ¬ (asysOf p).wh = 1 from (by decide : ¬ (2 : Nat) = 1))] at h2
  cases hb : bitAt (Bt.aAt (avA p) 0) m with
  | false => rfl
  | true =>
    have h3 := h2 hb
    have e : Bt.vStart (asysOf p) 0 = nilB (exprsOf p).length := if_pos (show ((0 : Nat) : Int) ∈ [(0 : Int)] from List.mem_singleton.2 rfl)
    rw [e, nilB, bit_nil] at h3
    cases h3
theorem fol_goes2 {p : Prog} (he : checkE p = 0) {inn : List Nm} {s : StE} (hs : goodS p s) (hg : (folS p (runB p inn s)).2 = true) : (s.1, (folS p (runB p inn s)).1.1) ∈ edgesOf p := by
  have hlt : s.1.toNat < p.length := by have := hs.1; omega
  have hb : p[s.1.toNat]? = some p[s.1.toNat] := List.getElem?_eq_getElem hlt
  have h1 : (runB p inn s).1 = s.1 := (doAll_blk p inn _ s).1
  generalize p[s.1.toNat] = b at hb
  have hN : blkN p (runB p inn s).1 = b := by rw [h1]; exact blkN_get hb
  unfold folS at hg ⊢
  rw [hN] at hg ⊢
  by_cases h3 : b.2.2.1 = 3
  · rw [if_pos h3] at hg; cases hg
  · rw [if_neg h3]
    exact fol_edge he hs.1.1 hb h3
theorem avail_it {p : Prog} (he : checkE p = 0) (inn : List Nm) : ∀ k, (∀ i s, (itS p inn (start0 p) k).1[i]? = some s → ∀ m, bitAt (Bt.aAt (avA p) s.1.toNat) m = true → nowL p ((itS p inn (start0 p) k).1.take i) m = true) ∧
    ((itS p inn (start0 p) k).2.2 = true → ∀ m, bitAt (Bt.aAt (avA p) (itS p inn (start0 p) k).2.1.1.toNat) m = true → nowL p (itS p inn (start0 p) k).1 m = true)
  | 0 => ⟨fun i s h => by simp [itS] at h, fun _ m hm => by
      have h0 : Bt.aAt (avA p) (itS p inn (start0 p) 0).2.1.1.toNat = Bt.aAt (avA p) 0 := rfl
      rw [h0, avail_start he] at hm; cases hm⟩
  | k + 1 => by
    obtain ⟨h1, h2⟩ := avail_it he inn k
    by_cases hg : (itS p inn (start0 p) k).2.2 = true
    · have hgs : goodS p (itS p inn (start0 p) k).2.1 := goodS_it (goodS_start he) k
      rw [itS_step hg]
      have h2 := h2 hg
      generalize (itS p inn (start0 p) k).1 = V at h1 h2 ⊢
      generalize (itS p inn (start0 p) k).2.1 = s at h2 hgs ⊢
      refine ⟨fun i t hi m hm => ?_, fun hgo m hm => ?_⟩
      · dsimp only at hi ⊢
        by_cases hiv : i < V.length
        · rw [List.getElem?_append_left hiv] at hi
          rw [List.take_append_of_le_length (by omega)]
          exact h1 i t hi m hm
        · have hil : i = V.length := by
            have := (List.getElem?_eq_some_iff.1 hi).1
            simp at this
            omega
          subst hil
          rw [List.getElem?_append_right (by omega), Nat.sub_self] at hi
          cases hi
          rw [List.take_append_of_le_length (by omega), List.take_length]
          exact h2 m hm
      · dsimp only at hgo hm ⊢
        rw [nowL_snoc]
        have hed := fol_goes2 he hgs hgo
        have hb := asys_le he hed hm
        have hlt : s.1.toNat < p.length := by have := hgs.1; omega
        have hbb : p[s.1.toNat]? = some p[s.1.toNat] := List.getElem?_eq_getElem hlt
        generalize p[s.1.toNat] = b at hbb
        have hN : blkN p s.1 = b := blkN_get hbb
        rw [hN]
        rw [asys_tAt hbb] at hb
        exact avail_step (Bt.aAt_ok (Bt.solveS_ok (asysOf_ok he)) hlt) hb (h2 m)
    · have hg : (itS p inn (start0 p) k).2.2 = false := by simpa using hg
      rw [itS_stop hg]
      exact ⟨h1, h2⟩
end Go.Proofs
end
section
namespace Go.Proofs
open Go.Sy
set_option maxRecDepth 20000
set_option maxHeartbeats 4000000
/-! soughref09.After. -/
def bRow (n : Nat) (f : Nat → Bool) : List (List Value) := (List.range n).map fun j => [Value.bool (f j)]
theorem bRow_len (n : Nat) (f : Nat → Bool) : (bRow n f).length = n := by rw [bRow, List.length_map, List.length_range]
theorem bRow_get {n : Nat} (f : Nat → Bool) {i : Nat} (h : i < n) : (bRow n f)[i]? = some [.bool (f i)] := by
  rw [bRow, List.getElem?_map, List.getElem?_range h]; rfl
theorem bRow_set {n : Nat} {f g : Nat → Bool} {i : Nat} {b : Bool} (h : ∀ j, g j = if j = i then b else f j) : (bRow n f).set i [.bool b] = bRow n g := by
  refine List.ext_getElem? fun j => ?_
  rw [List.getElem?_set, bRow_len]
  by_cases hj : i = j
  · subst hj
    rw [if_pos rfl]
    by_cases hn : i < n
    · rw [if_pos hn, bRow_get g hn, h, if_pos rfl]
    · rw [if_neg hn, List.getElem?_eq_none (by rw [bRow_len]; omega)]
  · rw [if_neg hj]
    by_cases hn : j < n
    · rw [bRow_get f hn, bRow_get g hn, h, if_neg (fun e => hj e.symm)]
    · rw [List.getElem?_eq_none (by rw [bRow_len]; omega), List.getElem?_eq_none (by rw [bRow_len]; omega)]
theorem bRow_zero (n : Nat) : List.replicate n [Value.bool false] = bRow n fun _ => false := by
  refine List.ext_getElem? fun j => ?_
  by_cases hn : j < n
  · rw [bRow_get _ hn, List.getElem?_replicate, if_pos hn]
  · rw [List.getElem?_eq_none (by rw [List.length_replicate]; omega), List.getElem?_eq_none (by rw [bRow_len]; omega)]
end Go.Proofs
end
section
namespace Go.Proofs
open Go.Sy
set_option maxRecDepth 20000
set_option maxHeartbeats 4000000
/-! trips.Known: the closures. -/
noncomputable def cxT : Cx := { P := Tryz.prog, tt := tt, n := 0, wrap := false, base := 0, gf := 85 :: 87 :: 148 :: 86 :: cx.gf, eqs := cx.eqs, xf := [] }
theorem cxT_ok : TOK cxT := ⟨cx_ok.tt, cx_ok.eqs⟩
def idxN (f : Nat → Bool) (n : Nat) : List Int := ((List.range n).filter f).map fun k : Nat => (k : Int)
abbrev bCm (n : Nat) (f : Nat → Bool) (css : List (List Value)) : List (Nat × Bx) :=
  [(0, .cells 119 [.own 1]), (1, .row 4 1 (bRow n f)), (2, .cells 39 [.own 3]), (3, .row 28 1 css)]
abbrev bCm2 (n : Nat) (f : Nat → Bool) (css : List (List Value)) : List (Nat × Bx) :=
  [(0, .cells 119 [.own 1]), (1, .row 4 1 (bRow n f)), (2, .cells 39 [.own 4]), (3, .dead), (4, .row 28 1 css)]
theorem come_spec {n : Nat} (hn : n ≤ 1024) {f : Nat → Bool} {css : List (List Value)} (hcs : css.length ≤ 10000) {H : Hp} {K : SV → St → Hp → Prop}
    (hK : ∀ a1 n1 c1 H', Le H H' → RL H' a1 n1 c1 (idxN f n) → K (.tup []) ⟨[], bCm2 n f (css ++ [[.slice a1 n1 c1]]), 5⟩ H') :
    DoesG Tryz.prog 85 [.ptr 0 0, .ptr 2 0] (bCm n f css) 4 H K := by
  refine spec_ofG cxT_ok cx_mix Tryz.func85 Tryz.call85 Tryz.ntmps85 Tryz.results85 rfl rfl ?_
  have hbl := bRow_len n f
  refine ⟨Nat, fun i => ⟨[(0, .ptr 0 0), (1, .ptr 2 0), (2, .own 4), (5, .own 1), (6, .v (.int .i64 n)), (7, .v (.int .i64 i))],
      [(0, .cells 119 [.own 1]), (1, .row 4 1 (bRow n f)), (2, .cells 39 [.own 3]), (3, .row 28 1 css), (4, .row 3 1 (iRows (idxN f i)))], 5⟩,
    fun i H' => H' = H ∧ i ≤ n, fun i => n - i, ⟨0, [(0, 0), (1, 1), (2, 2), (3, 3)], ?_, rfl, Nat.zero_le _⟩, ?_⟩
  · have e1 : SV.v (.int .i64 ((bRow n f).length : Nat)) = SV.v (.int .i64 (n : Nat)) := by rw [hbl]
    (repeat' (first | exact trivial | refine ⟨?_, ?_⟩ | exact rfl | assumption))
  rintro i H1 _ ⟨rfl, hi⟩
  have hil : (iRows (idxN f i)).length = (idxN f i).length := List.length_map _
  have hel := sel_len f i
  have hel : (idxN f i).length ≤ i := hel
  refine ⟨fun h => ?_, fun h => ?_⟩
  · have hlt : i < n := by have := dt h; omega
    have hst := sel_succ f i
    refine ⟨⟨by omega, by rw [bRow_len]; omega⟩, ?_⟩
    refine ⟨_, bRow_get f hlt, ?_⟩
    refine ⟨fun h => ?_, fun h => ?_⟩
    · have hb : f i = true := h
      have e : iRows (idxN f i) ++ [[.int .i64 (i : Nat)]] = iRows (idxN f (i + 1)) := by
        rw [idxN, idxN, hst, if_pos hb, iRows, iRows, List.map_append]; rfl
      refine ⟨⟨by show (_ + 1) * 8 ≤ 140737488355328; omega, by show _ + 1 ≤ 9223372036854775807; omega⟩, ?_⟩
      refine ⟨⟨by omega, by omega⟩, i + 1, [(0, 0), (1, 1), (2, 2), (3, 3), (4, 6)], ?_, ⟨rfl, hlt⟩, by dsimp only; omega⟩
      (repeat' (first | exact trivial | refine ⟨?_, ?_⟩ | exact rfl | assumption))
    · have hb : f i = false := h
      have e : iRows (idxN f i) = iRows (idxN f (i + 1)) := by
        rw [idxN, idxN, hst, hb, if_neg (by decide), List.append_nil]
      refine ⟨⟨by omega, by omega⟩, i + 1, [(0, 0), (1, 1), (2, 2), (3, 3), (4, 4)], ?_, ⟨rfl, hlt⟩, by dsimp only; omega⟩
      (repeat' (first | exact trivial | refine ⟨?_, ?_⟩ | exact rfl | assumption))
  · have hin : i = n := by have := df h; omega
    subst hin
    intro v H6 hle6 hv6
    refine of_row_k (α := Int) hv6 (rc_iRows (sel_in (by omega))) fun d1 d2 d3 e1 hr1 => ?_
    subst e1
    refine ⟨⟨by show (css.length + 1) * 24 ≤ 140737488355328; omega, by show css.length + 1 ≤ 9223372036854775807; omega⟩, ?_⟩
    exact ⟨.tup [], bCm2 i f (css ++ [[.slice d1 d2 d3]]), 5, [(0, 0), (1, 1), (2, 2), (3, 3), (4, 6)], by (repeat' (first | exact trivial | refine ⟨?_, ?_⟩ | exact rfl | assumption)), hK _ _ _ _ hle6.le hr1⟩
end Go.Proofs
end
section
namespace Go.Proofs
open Go.Sy
set_option maxRecDepth 20000
set_option maxHeartbeats 4000000
/-! trips.Known: what a statement does. -/
theorem thas1_spec {a : Atm} {v : Bs8} {H : Hp} {K : SV → St → Hp → Prop} (hK : K (.v (.bool (isA v a))) ⟨[], bN v, 1⟩ H) : DoesG Tryz.prog 148 [.agg (vL (atmV a)), .ptr 0 0] (bN v) 1 H K := by
  refine spec_ofG cxT_ok cx_mix Tryz.func148 Tryz.call148 Tryz.ntmps148 Tryz.results148 rfl rfl ?_
  exact ⟨.v (.bool (isA v a)), bN v, 1, [(0, 0)], by (repeat' (first | exact trivial | refine ⟨?_, ?_⟩ | exact rfl | assumption)), hK⟩
theorem tindexH_spec {l : List Atm} {v : Bs8} {a : Option Addr} {n c : Nat} {H : Hp} {K : SV → St → Hp → Prop} (ha : RL H a n c l) (hK : K (.v (.int .i64 (idxG (isA v) l 0))) ⟨[], bN v, 1⟩ H) : DoesG Tryz.prog 166 [.v (.slice a n c), .fn 148 [.ptr 0 0]] (bN v) 1 H K := by
  have hn1 := ha.n_eq
  have hmx := ha.le
  refine spec_ofG cxT_ok cx_mix Tryz.func166 Tryz.call166 Tryz.ntmps166 Tryz.results166 rfl rfl ?_
  refine ⟨Nat, fun j => ⟨[(0, .v (.slice a n c)), (1, .fn 148 [.ptr 0 0]), (7, .v (.int .i64 n)), (8, .v (.int .i64 j))], bN v, 1⟩,
    fun j H' => H' = H ∧ j ≤ l.length ∧ idxG (isA v) l 0 = idxG (isA v) (l.drop j) j, fun j => l.length - j, ⟨0, [(0, 0)], ?_, rfl, by omega, rfl⟩, ?_⟩
  · (repeat' (first | exact trivial | refine ⟨?_, ?_⟩ | exact rfl | assumption))
  rintro j H1 _ ⟨rfl, hi, hx⟩
  refine ⟨fun h => ?_, fun h => ?_⟩
  · have hlt : j < l.length := by have := dt h; omega
    rw [idxG_step hlt] at hx
    refine name_k l[j] fun x hxe => ?_
    have hxx : l[j]? = some x := by rw [hxe]; exact List.getElem?_eq_getElem hlt
    rw [← hxe] at hx
    refine atom_k ha hxx fun ad q1 hh hr => ?_
    refine ⟨ad, ⟨by omega, by omega, q1⟩, ?_⟩
    refine ⟨_, hh, ?_⟩
    refine ⟨[0], rfl, thas1_spec (a := x) ?_⟩
    refine ⟨fun h => ?_, fun h => ?_⟩
    · rw [if_pos h] at hx
      rw [hx] at hK
      exact ⟨.v (.int .i64 (j : Int)), bN v, 1, [(0, 0)], by (repeat' (first | exact trivial | refine ⟨?_, ?_⟩ | exact rfl | assumption)), hK⟩
    · rw [if_neg (by rw [h]; decide)] at hx
      refine ⟨⟨by omega, by omega⟩, j + 1, [(0, 0)], ?_, ⟨rfl, by omega, hx⟩, by dsimp only; omega⟩
      (repeat' (first | exact trivial | refine ⟨?_, ?_⟩ | exact rfl | assumption))
  · have hil : j = l.length := by have := df h; omega
    rw [hil, List.drop_length, idxG] at hx
    rw [hx] at hK
    exact ⟨.v (.int .i64 (-1)), bN v, 1, [(0, 0)], by (repeat' (first | exact trivial | refine ⟨?_, ?_⟩ | exact rfl | assumption)), hK⟩
theorem tcontH_spec {l : List Atm} {v : Bs8} {a : Option Addr} {n c : Nat} {H : Hp} {K : SV → St → Hp → Prop} (ha : RL H a n c l) (hK : K (.v (.bool (l.any (isA v)))) ⟨[], bN v, 1⟩ H) : DoesG Tryz.prog 111 [.v (.slice a n c), .fn 148 [.ptr 0 0]] (bN v) 1 H K := by
  rw [← idxG_any l 0 (Int.le_refl 0)] at hK
  refine spec_ofG cxT_ok cx_mix Tryz.func111 Tryz.call111 Tryz.ntmps111 Tryz.results111 rfl rfl ?_
  refine ⟨[0], rfl, tindexH_spec ha ?_⟩
  exact ⟨.v (.bool (decide (0 ≤ idxG (isA v) l 0))), bN v, 1, [(0, 0)], by (repeat' (first | exact trivial | refine ⟨?_, ?_⟩ | exact rfl | assumption)), hK⟩
theorem thas_spec {x : Expr} {v : Bs8} (hx : exprR x) {H : Hp} {K : Value → Hp → Prop} (hK : ∀ H', Le H H' → K (.bool (asksE x v)) H') : Does Tryz.prog 88 [exprA x, .string (bs v)] H K := by
  refine spec_of cxT_ok cx_mix rfl Tryz.func88 Tryz.call88 Tryz.ntmps88 Tryz.results88 rfl rfl ?_
  refine patoms_spec hx fun a n c H1 hle1 hr => ?_
  refine ⟨[1], rfl, tcontH_spec hr ?_⟩
  exact hK _ hle1
def knX (X : List Expr) (f : Nat → Bool) (s : Stmt) (m : Nat) : Bool := kn1 (X[m]?.getD (0, za, za)) (f m) s
structure FamD (X : List Expr) (f : Nat → Bool) (s : Stmt) (g : Nat → Nat → Bool) : Prop where
  z : g 0 = f
  st : ∀ i x, X[i]? = some x → ∀ j, g (i + 1) j = if j = i then kn1 x (f i) s else g i j
  at' : ∀ i, g i i = f i
  e : ∀ m i, m < i → i ≤ X.length → g i m = knX X f s m
theorem famD_k {P : Prop} (X : List Expr) (f : Nat → Bool) (s : Stmt) (k : ∀ g, FamD X f s g → P) (hk : True) : P := by
  refine k (fun i j => if j < i then knX X f s j else f j) ⟨funext fun j => by simp, fun i x hx j => ?_, fun i => by simp, fun m i h _ => by rw [if_pos h]⟩
  by_cases e : j = i
  · subst e
    rw [if_pos (by omega), if_pos rfl, knX, hx]; rfl
  · rw [if_neg e]
    by_cases h : j < i
    · rw [if_pos h, if_pos (by omega)]
    · rw [if_neg h, if_neg (by omega)]
abbrev bD (a : Option Addr) (n c : Nat) (f : Nat → Bool) : List (Nat × Bx) :=
  [(0, .cells 104 [.v (.slice a n c)]), (1, .cells 119 [.own 2]), (2, .row 4 1 (bRow n f))]
theorem hdest {s : Stmt} (h : decide (sl (bs s.2.1.l) = sl ⟨#[]⟩) = false) : ¬ s.2.1.l = [] := fun e => by
  have h := df h
  rw [sl_bs, e] at h
  exact h rfl
theorem hdest2 {s : Stmt} (h : decide (sl (bs s.2.1.l) = sl ⟨#[]⟩) = true) : s.2.1.l = [] := by
  have h := dt h
  rw [sl_bs] at h
  exact h
theorem tdo_spec {X : List Expr} (hX : X.length ≤ 1024) {f : Nat → Bool} {s : Stmt} (hs : stmtR s) {i1 i2 : Int} {a : Option Addr} {n c : Nat} {H : Hp} {K : SV → St → Hp → Prop} (ha : RL H a n c X)
    (hK : ∀ H' g, Le H H' → (∀ m, m < n → g m = knX X f s m) → K (.tup []) ⟨[], bD a n c g, 3⟩ H') :
    DoesG Tryz.prog 87 [.v (.int .i64 i1), .v (.int .i64 i2), .agg (vL (stmtV s)), .ptr 0 0, .ptr 1 0] (bD a n c f) 3 H K := by
  have hn := ha.n_eq
  refine spec_ofG cxT_ok cx_mix Tryz.func87 Tryz.call87 Tryz.ntmps87 Tryz.results87 rfl rfl ?_
  refine famD_k X f s (fun g hg => ?_) trivial
  refine ⟨Nat, fun i => ⟨[(3, .ptr 0 0), (4, .ptr 1 0), (7, .ptr 3 0), (10, .v (.slice a n c)), (11, .v (.int .i64 n)), (12, .v (.int .i64 i))],
      [(0, .cells 104 [.v (.slice a n c)]), (1, .cells 119 [.own 2]), (2, .row 4 1 (bRow n (g i))), (3, .cells 84 (vL (stmtV s)))], 4⟩,
    fun i H' => H' = H ∧ i ≤ n, fun i => n - i, ⟨0, [(0, 0), (1, 1), (2, 2), (3, 3)], ?_, rfl, Nat.zero_le _⟩, ?_⟩
  · have e1 : bRow n f = bRow n (g 0) := by rw [hg.z]
    (repeat' (first | exact trivial | refine ⟨?_, ?_⟩ | exact rfl | assumption))
  rintro i H1 _ ⟨rfl, hi⟩
  refine ⟨fun h => ?_, fun h => ?_⟩
  · have hlt : i < n := by have := dt h; omega
    have hil : i < X.length := by omega
    refine name_k X[i] fun x hxe => ?_
    have hxx : X[i]? = some x := by rw [hxe]; exact List.getElem?_eq_getElem hil
    have hst := hg.st i x hxx
    have hat := hg.at' i
    refine expr_k ha hxx fun ad q1 hh hRx => ?_
    refine ⟨ad, ⟨by omega, by omega, q1⟩, ?_⟩
    refine ⟨_, hh, ?_⟩
    refine ⟨some ([1000000, 2], [0, 1, 2, 3, 4, 5, 6, 7, 8, 9, 10, 11, 12, 13, 14, 15, 16, 17, 18, 19, 20, 21, 22, 23, 24, 25, 26, 27, 28, 29, 30]), by kernel_rfl, ?_⟩
    refine ⟨⟨by omega, by rw [bRow_len]; omega⟩, ?_⟩
    refine ⟨_, bRow_get (g i) hlt, ?_⟩
    refine ⟨fun h0 => ?_, fun h0 => ?_⟩
    · have h0 : f i = false := hat.symm.trans h0
      refine ⟨fun h1 => ?_, fun h1 => ?_⟩
      · have h1 : s.1 = 1 := dt h1
        refine ⟨fun hx => ?_, fun hx => ?_⟩
        · have hx : s.2.2 = x := of_decide_eq_true ((eqX_vc s.2.2 x).symm.trans hx)
          have hor : (if setsE s x = true then true else f i) = true := by rw [setsE, decide_eq_true h1, decide_eq_true hx]; rfl
          refine ⟨fun hd => ?_, fun hd => ?_⟩
          · have hd : ¬ s.2.1.l = [] := hdest hd
            refine thas_spec hRx fun _ _ => ?_
            have e1 : (bRow n (g i)).set i [.bool (!(asksE x s.2.1.l))] = bRow n (g (i + 1)) := bRow_set fun j => by
              rw [hst, kn1, killE, decide_eq_false hd, hor]
              cases asksE x s.2.1.l <;> rfl
            refine ⟨⟨by omega, by rw [bRow_len]; omega⟩, ?_⟩
            refine ⟨_, bRow_get (g i) (by omega), ?_⟩
            refine ⟨⟨by omega, by omega⟩, i + 1, [(0, 0), (1, 1), (2, 2), (3, 3)], ?_, ⟨rfl, hlt⟩, by dsimp only; omega⟩
            (repeat' (first | exact trivial | refine ⟨?_, ?_⟩ | exact rfl | assumption))
          · have hd : s.2.1.l = [] := hdest2 hd
            have e1 : (bRow n (g i)).set i [.bool true] = bRow n (g (i + 1)) := bRow_set fun j => by
              rw [hst, kn1, killE, decide_eq_true hd, hor]
              rfl
            refine ⟨⟨by omega, by rw [bRow_len]; omega⟩, ?_⟩
            refine ⟨_, bRow_get (g i) (by omega), ?_⟩
            refine ⟨⟨by omega, by omega⟩, i + 1, [(0, 0), (1, 1), (2, 2), (3, 3)], ?_, ⟨rfl, hlt⟩, by dsimp only; omega⟩
            (repeat' (first | exact trivial | refine ⟨?_, ?_⟩ | exact rfl | assumption))
        · have hx : ¬ s.2.2 = x := of_decide_eq_false ((eqX_vc s.2.2 x).symm.trans hx)
          have hset : setsE s x = false := by rw [setsE, decide_eq_false hx, Bool.and_false]
          have e1 : (bRow n (g i)).set i [.bool false] = bRow n (g (i + 1)) := bRow_set fun j => by
            rw [hst, kn1, hset, h0]
            cases killE s x <;> rfl
          refine ⟨⟨by omega, by rw [bRow_len]; omega⟩, ?_⟩
          refine ⟨_, bRow_get (g i) (by omega), ?_⟩
          refine ⟨⟨by omega, by omega⟩, i + 1, [(0, 0), (1, 1), (2, 2), (3, 3)], ?_, ⟨rfl, hlt⟩, by dsimp only; omega⟩
          (repeat' (first | exact trivial | refine ⟨?_, ?_⟩ | exact rfl | assumption))
      · have h1 : ¬ s.1 = 1 := df h1
        have hset : setsE s x = false := by rw [setsE, decide_eq_false h1, Bool.false_and]
        have e1 : (bRow n (g i)).set i [.bool false] = bRow n (g (i + 1)) := bRow_set fun j => by
          rw [hst, kn1, hset, h0]
          cases killE s x <;> rfl
        refine ⟨⟨by omega, by rw [bRow_len]; omega⟩, ?_⟩
        refine ⟨_, bRow_get (g i) (by omega), ?_⟩
        refine ⟨⟨by omega, by omega⟩, i + 1, [(0, 0), (1, 1), (2, 2), (3, 3)], ?_, ⟨rfl, hlt⟩, by dsimp only; omega⟩
        (repeat' (first | exact trivial | refine ⟨?_, ?_⟩ | exact rfl | assumption))
    · have h0 : f i = true := hat.symm.trans h0
      have hor : (if setsE s x = true then true else f i) = true := by rw [h0]; split <;> rfl
      refine ⟨fun hd => ?_, fun hd => ?_⟩
      · have hd : ¬ s.2.1.l = [] := hdest hd
        refine thas_spec hRx fun _ _ => ?_
        have e1 : (bRow n (g i)).set i [.bool (!(asksE x s.2.1.l))] = bRow n (g (i + 1)) := bRow_set fun j => by
          rw [hst, kn1, killE, decide_eq_false hd, hor]
          cases asksE x s.2.1.l <;> rfl
        refine ⟨⟨by omega, by rw [bRow_len]; omega⟩, ?_⟩
        refine ⟨_, bRow_get (g i) (by omega), ?_⟩
        refine ⟨⟨by omega, by omega⟩, i + 1, [(0, 0), (1, 1), (2, 2), (3, 3)], ?_, ⟨rfl, hlt⟩, by dsimp only; omega⟩
        (repeat' (first | exact trivial | refine ⟨?_, ?_⟩ | exact rfl | assumption))
      · have hd : s.2.1.l = [] := hdest2 hd
        have e1 : (bRow n (g i)).set i [.bool true] = bRow n (g (i + 1)) := bRow_set fun j => by
          rw [hst, kn1, killE, decide_eq_true hd, hor]
          rfl
        refine ⟨⟨by omega, by rw [bRow_len]; omega⟩, ?_⟩
        refine ⟨_, bRow_get (g i) (by omega), ?_⟩
        refine ⟨⟨by omega, by omega⟩, i + 1, [(0, 0), (1, 1), (2, 2), (3, 3)], ?_, ⟨rfl, hlt⟩, by dsimp only; omega⟩
        (repeat' (first | exact trivial | refine ⟨?_, ?_⟩ | exact rfl | assumption))
  · have hin : i = n := by have := df h; omega
    subst hin
    refine ⟨.tup [], bD a i c (g i), 3, [(0, 0), (1, 1), (2, 2)], by (repeat' (first | exact trivial | refine ⟨?_, ?_⟩ | exact rfl | assumption)), hK _ (g i) (Le.refl _) fun m hm => ?_⟩
    exact hg.e m i hm (by omega)
end Go.Proofs
end
section
namespace Go.Proofs
open Go.Sy
set_option maxRecDepth 20000
set_option maxHeartbeats 4000000
/-! trips.walk, trips.Known. -/
def rowK (p : Prog) (V : List StE) (i : Nat) : List Int := idxN (nowL p (V.take i)) (exprsOf p).length
def rowsK (p : Prog) (V : List StE) (i : Nat) : List (List Int) := (List.range i).map (rowK p V)
abbrev bWk (a : Option Addr) (n c : Nat) (rows : List (List Value)) : List (Nat × Bx) :=
  [(0, .cells 104 [.v (.slice a n c)]), (1, .cells 119 [.own 2]), (2, .row 4 1 rows), (3, .cells 39 [.v (.slice none 0 0)])]
abbrev bWk2 (a : Option Addr) (n c : Nat) (f : Nat → Bool) (css : List (List Value)) : List (Nat × Bx) :=
  [(0, .cells 104 [.v (.slice a n c)]), (1, .cells 119 [.own 2]), (2, .row 4 1 (bRow n f)), (3, .cells 39 [.own 4]), (4, .row 28 1 css)]
theorem its_len (p : Prog) (inn : List Nm) : ∀ k, (itS p inn (start0 p) k).1.length ≤ k
  | 0 => Nat.le_refl _
  | k + 1 => by
    have h1 := its_len p inn k
    by_cases hg : (itS p inn (start0 p) k).2.2 = true
    · rw [itS_step hg]
      simp only [List.length_append, List.length_singleton]
      omega
    · have hg : (itS p inn (start0 p) k).2.2 = false := by simpa using hg
      rw [itS_stop hg]
      omega
theorem walk_spec {p : Prog} (he : checkE p = 0) (hp : p.length ≤ 12) (hc : stmtsN p ≤ 1000000) (hv : cnt p < 400000) {inn : List Nm} {most : Int} (hm : most ≤ 40) {V : List StE} (hV : V = (itS p inn (start0 p) most.toNat).1)
    {a ai ax : Option Addr} {n c ni ci nx cx' : Nat} {H : Hp} {K : SV → St → Hp → Prop} (ha : RL H a n c p) (hI : RL H ai ni ci inn) (hX : RL H ax nx cx' (exprsOf p)) {rows : List (List Value)} (hrw : rows = bRow nx fun _ => false)
    (hK : ∀ H' f css, Le H H' → RC (α := List Int) H' css (rowsK p V V.length) → K (.v (.int .i64 0)) ⟨[], bWk2 ax nx cx' f css, 5⟩ H') :
    DoesG Tryz.prog 86 [.agg [.v (.slice a n c)], .v (.slice ai ni ci), .v (.int .i64 most), .fn 85 [.ptr 1 0, .ptr 3 0], .fn 87 [.ptr 0 0, .ptr 1 0]] (bWk ax nx cx' rows) 4 H K := by
  subst hrw
  have hn := ha.n_eq
  have hnx := hX.n_eq
  have hx5 := exprs512 he
  refine spec_ofG cxT_ok cx_mix Tryz.func86 Tryz.call86 Tryz.ntmps86 Tryz.results86 rfl rfl ?_
  refine all_spec he hp hc hv hm ha hI fun a1 n1 c1 a2 n2 c2 H1 hle1 hr1 hr2 => ?_
  rw [← hV] at hr1
  refine ⟨fun h => absurd rfl (nt h), fun _ => ?_⟩
  have hn1 := hr1.n_eq
  have hm1 := hr1.le
  have hnV : V.length ≤ 41 := by have h1 := its_len p inn most.toNat; rw [hV]; omega
  refine ⟨Nat × (Nat → Bool) × List (List Value), fun q => ⟨[(3, .fn 85 [.ptr 1 0, .ptr 3 0]), (4, .fn 87 [.ptr 0 0, .ptr 1 0]), (5, .ptr 4 0), (11, .ptr 5 0), (28, .v (.slice a1 n1 c1)), (29, .v (.int .i64 n1)), (30, .v (.int .i64 q.1))],
      [(0, .cells 104 [.v (.slice ax nx cx')]), (1, .cells 119 [.own 2]), (2, .row 4 1 (bRow nx q.2.1)), (3, .cells 39 [.own 6]), (4, .cells 24 [.v (.slice a n c)]), (5, .cells 67 [.v (.slice a1 n1 c1), .v (.slice a2 n2 c2), .v (.bool (!(itS p inn (start0 p) most.toNat).2.2))]), (6, .row 28 1 q.2.2)], 7⟩,
    fun q H' => Le H1 H' ∧ q.1 ≤ V.length ∧ (∀ m, m < nx → q.2.1 m = nowL p (V.take q.1) m) ∧ RC (α := List Int) H' q.2.2 (rowsK p V q.1), fun q => V.length - q.1, ⟨(0, (fun _ => false), []), [(0, 0), (1, 1), (2, 2), (3, 3), (4, 4), (5, 5)], ?_, Le.refl H1, Nat.zero_le _, fun _ _ => rfl, RC.nil⟩, ?_⟩
  · (repeat' (first | exact trivial | refine ⟨?_, ?_⟩ | exact rfl | assumption))
  rintro ⟨i, f, css⟩ H2 _ ⟨hle2, hi, hf, hrc⟩
  dsimp only at hi hf hrc
  have hcl : css.length = i := by have h1 := hrc.1; rw [rowsK, List.length_map, List.length_range] at h1; exact h1
  refine ⟨fun h => ?_, fun h => ?_⟩
  · have hlt : i < V.length := by have := dt h; dsimp only at this; omega
    refine name_k V[i] fun s hse => ?_
    have hss : V[i]? = some s := by rw [hse]; exact List.getElem?_eq_getElem hlt
    have hgs : goodS p s := by rw [hV] at hss; exact goodV2 he inn most.toNat s (List.mem_of_getElem? hss)
    refine sta_k (hr1.up hle2) hss fun ad a5 n5 c5 a6 n6 c6 q1 hh hr5 hr6 => ?_
    refine ⟨ad, ⟨by dsimp only; omega, by dsimp only; omega, q1⟩, ?_⟩
    refine ⟨_, hh, ?_⟩
    refine ⟨[1, 2, 3, 6], rfl, come_spec (n := nx) (f := f) (css := css) (by omega) (by omega) fun d1 d2 d3 H3 hle3 hr3 => ?_⟩
    have hrow : idxN f nx = rowK p V i := by
      rw [rowK, ← hnx, idxN, idxN]
      congr 1
      exact List.filter_congr fun m hm => hf m (List.mem_range.1 hm)
    have hst : rowsK p V (i + 1) = rowsK p V i ++ [rowK p V i] := by rw [rowsK, List.range_succ, List.map_append]; rfl
    have hrc3 : RC (α := List Int) H3 (css ++ [[.slice d1 d2 d3]]) (rowsK p V (i + 1)) := by
      rw [hst]; rw [hrow] at hr3; exact rc_snocI (RC.up hrc hle3) hr3
    obtain ⟨b, hb, hN, hbm⟩ := blkN_mem hgs
    have hbB := block_stmts ((check_facts he).2.2.2 b hbm)
    have hgr := hgs.1
    refine block_kI (ha.up ((hle1.trans hle2).trans hle3)) hgr.1 hb fun ad2 a7 n7 c7 q2 hh2 hr7 _ _ => ?_
    have hn7 := hr7.n_eq
    have hm7 := hr7.le
    refine ⟨ad2, ⟨by omega, by omega, q2⟩, ?_⟩
    refine ⟨_, hh2, ?_⟩
    refine ⟨Nat × (Nat → Bool), fun q => ⟨[(3, .fn 85 [.ptr 1 0, .ptr 3 0]), (4, .fn 87 [.ptr 0 0, .ptr 1 0]), (5, .ptr 4 0), (11, .ptr 5 0), (14, .ptr 7 0), (28, .v (.slice a1 n1 c1)), (29, .v (.int .i64 n1)), (30, .v (.int .i64 i)), (42, .v (.slice a7 n7 c7)), (43, .v (.int .i64 n7)), (44, .v (.int .i64 q.1))],
        [(0, .cells 104 [.v (.slice ax nx cx')]), (1, .cells 119 [.own 2]), (2, .row 4 1 (bRow nx q.2)), (3, .cells 39 [.own 6]), (4, .cells 24 [.v (.slice a n c)]), (5, .cells 67 [.v (.slice a1 n1 c1), .v (.slice a2 n2 c2), .v (.bool (!(itS p inn (start0 p) most.toNat).2.2))]), (6, .row 28 1 (css ++ [[.slice d1 d2 d3]])), (7, .cells 72 [.v (.int .i64 s.1), .v (.slice a5 n5 c5), .v (.int .i64 s.2.2.1), .v (.slice a6 n6 c6)])], 8⟩,
      fun q H' => Le H3 H' ∧ q.1 ≤ b.2.1.length ∧ ∀ m, m < nx → q.2 m = knF ((exprsOf p)[m]?.getD (0, za, za)) (nowL p (V.take i) m) (b.2.1.take q.1), fun q => b.2.1.length - q.1, ⟨(0, f), [(0, 0), (1, 1), (2, 2), (3, 3), (4, 4), (5, 5), (6, 8), (7, 7)], ?_, Le.refl H3, Nat.zero_le _, fun m hm => hf m hm⟩, ?_⟩
    · (repeat' (first | exact trivial | refine ⟨?_, ?_⟩ | exact rfl | assumption))
    rintro ⟨k, g⟩ H4 _ ⟨hle4, hk, hg⟩
    dsimp only at hk hg
    refine ⟨fun h => ?_, fun h => ?_⟩
    · have hkl : k < b.2.1.length := by have := dt h; dsimp only at this; omega
      refine name_k b.2.1[k] fun t hte => ?_
      have htt : b.2.1[k]? = some t := by rw [hte]; exact List.getElem?_eq_getElem hkl
      refine stmt_k (hr7.up hle4) htt fun ad3 q3 hh3 hR => ?_
      refine ⟨ad3, ⟨by dsimp only; omega, by dsimp only; omega, q3⟩, ?_⟩
      refine ⟨_, hh3, ?_⟩
      refine ⟨[0, 1, 2], rfl, tdo_spec (X := exprsOf p) (f := g) (s := t) (by omega) hR (hX.up (((hle1.trans hle2).trans hle3).trans hle4)) fun H5 g' hle5 hg' => ?_⟩
      have hgk : ∀ m, m < nx → g' m = knF ((exprsOf p)[m]?.getD (0, za, za)) (nowL p (V.take i) m) (b.2.1.take (k + 1)) := fun m hm => by
        rw [hg' m hm, knX, hg m hm, knF, knF, List.take_add_one, htt, Option.toList_some, List.foldl_append]; rfl
      refine ⟨⟨by dsimp only; omega, by dsimp only; omega⟩, (k + 1, g'), [(0, 0), (1, 1), (2, 2), (3, 3), (4, 4), (5, 5), (6, 6), (7, 7)], ?_, ⟨hle4.trans hle5, hkl, hgk⟩, by dsimp only; omega⟩
      (repeat' (first | exact trivial | refine ⟨?_, ?_⟩ | exact rfl | assumption))
    · have hkl : k = b.2.1.length := by have := df h; dsimp only at this; omega
      subst hkl
      rw [List.take_length] at hg
      have hfi : ∀ m, m < nx → g m = nowL p (V.take (i + 1)) m := fun m hm => by
        rw [hg m hm, List.take_add_one, hss, Option.toList_some, nowL_snoc, hN]
      refine ⟨⟨by omega, by omega⟩, (i + 1, g, css ++ [[.slice d1 d2 d3]]), [(0, 0), (1, 1), (2, 2), (3, 3), (4, 4), (5, 5), (6, 6)], ?_, ⟨(hle2.trans hle3).trans hle4, hlt, hfi, RC.up hrc3 hle4⟩, by dsimp only; omega⟩
      (repeat' (first | exact trivial | refine ⟨?_, ?_⟩ | exact rfl | assumption))
  · have hiV : i = V.length := by have := df h; dsimp only at this; omega
    rw [hiV] at hrc
    exact ⟨.v (.int .i64 0), bWk2 ax nx cx' f css, 5, [(0, 0), (1, 1), (2, 2), (3, 3), (4, 6)], by (repeat' (first | exact trivial | refine ⟨?_, ?_⟩ | exact rfl | assumption)), hK _ f css (hle1.trans hle2) hrc⟩
end Go.Proofs
end
section
namespace Go.Proofs
open Go.Sy
set_option maxRecDepth 20000
set_option maxHeartbeats 4000000
/-! soughref40.System. -/
end Go.Proofs
end
section
namespace Go.Proofs
open Go.Sy
set_option maxRecDepth 20000
set_option maxHeartbeats 4000000
/-! soughref10.List, soughref09.Same. -/
def exY : Expr := (4, (⟨[120]⟩, 0, 0), (⟨[]⟩, 0, 0))
def stAy : Stmt := (1, ⟨[121]⟩, exY)
def blAa : Block := (⟨[97]⟩, [], (3, za, ⟨[]⟩, ⟨[]⟩))
def blAb : Block := (⟨[98]⟩, [stAy], (3, za, ⟨[]⟩, ⟨[]⟩))
def progA : Prog := [blAa, blAb]
theorem avail_A : (availI progA).map List.length = [0, 1] := by decide +kernel
theorem check_A : checkE progA = 0 := by decide +kernel
end Go.Proofs
end
section
namespace Go.Proofs
open Go.Sy
set_option maxRecDepth 20000
set_option maxHeartbeats 4000000
/-! The example of avail; AvailSystems, AvailSets. -/
theorem zero_RA : i64R 0 := ⟨by decide, by decide⟩
theorem two_len {L : List (List Int)} (h : L.map List.length = [0, 1]) : ∃ l0 l1 : List Int, L = [l0, l1] ∧ l0.length = 0 ∧ l1.length = 1 := by
  cases L with
  | nil => simp at h
  | cons l0 r => cases r with
    | nil => simp at h
    | cons l1 r => cases r with
      | cons _ _ => simp at h
      | nil =>
        rw [List.map_cons, List.map_cons, List.map_nil] at h
        have h1 := List.cons.inj h
        have h2 := List.cons.inj h1.2
        exact ⟨l0, l1, rfl, h1.1, h2.1⟩
theorem stAy_R : stmtR stAy := ⟨⟨by decide, by decide⟩, Nat.le_of_lt_succ (by decide), ⟨by decide, by decide⟩, ⟨Nat.le_of_lt_succ (by decide), zero_RA, zero_RA⟩, ⟨Nat.zero_le _, zero_RA, zero_RA⟩⟩
theorem availI_len : (availI progA).length = 2 := by decide +kernel
theorem awake40_spec {H : Hp} {K : Value → Hp → Prop} (hT : TabH H) (hK : ∀ H', Le H H' → K (.bool true) H') : Does Tryz.prog 12 [] H K := by
  refine spec_of cx_ok cx_mix rfl Tryz.func12 Tryz.call12 Tryz.ntmps12 Tryz.results12 rfl rfl ?_
  intro x2 H2 hle2 hx2
  refine of_row_k (α := Stmt) hx2 (show RC (α := Stmt) H2 _ [stAy] from RC.nil.snoc (stmt_mk2 stAy_R)) fun sb sm sd ex2 hr2 => ?_
  subst ex2
  intro y H3 hle3 hy
  refine of_row_k (α := Block) hy (show RC (α := Block) H3 _ progA from (RC.nil.snoc (block_mk (b := blAa) rl_nil (Nat.le_of_lt_succ (by decide)) ⟨⟨by decide, by decide⟩, za_R, Nat.zero_le _, Nat.zero_le _⟩)).snoc (block_mk (b := blAb) (hr2.up hle3.le) (Nat.le_of_lt_succ (by decide)) ⟨⟨by decide, by decide⟩, za_R, Nat.zero_le _, Nat.zero_le _⟩)) fun a n c ey hr => ?_
  subst ey
  have hle := hle2.le.trans hle3.le
  refine asets_spec (p := progA) (by decide) (by decide) (by decide) (by decide) hr (hT.up hle) (fun he => absurd check_A he) fun he a1 n1 c1 a2 n2 c2 H4 hle4 hr4 hr5 => ?_
  have hn1 := hr4.n_eq
  rw [availI_len] at hn1
  subst hn1
  obtain ⟨l0, l1, eA, hl0, hl1⟩ := two_len avail_A
  rw [eA] at hr4
  refine ⟨fun _ => ?_, fun h => absurd rfl (df h)⟩
  refine ⟨fun _ => ?_, fun h => absurd rfl (df h)⟩
  refine list_k hr4 (i := 0) (x := l0) rfl fun ad a5 n5 c5 q1 hh hr6 => ?_
  have hn5 := hr6.n_eq
  rw [hl0] at hn5
  subst hn5
  refine ⟨ad, ⟨by omega, by omega, q1⟩, ?_⟩
  refine ⟨_, hh, ?_⟩
  refine ⟨fun _ => ?_, fun h => absurd rfl (df h)⟩
  refine list_k hr4 (i := 1) (x := l1) rfl fun ad2 a6 n6 c6 q2 hh2 hr7 => ?_
  have hn6 := hr7.n_eq
  rw [hl1] at hn6
  subst hn6
  refine ⟨ad2, ⟨by omega, by omega, q2⟩, ?_⟩
  refine ⟨_, hh2, ?_⟩
  exact hK _ (hle.trans hle4)
end Go.Proofs
end
section
namespace Go.Proofs
open Go.Sy
set_option maxRecDepth 20000
set_option maxHeartbeats 4000000
/-! trips.Known; AvailRuns. -/
theorem known_spec {p : Prog} (he : checkE p = 0) (hp : p.length ≤ 12) (hl : ∀ b ∈ p, b.2.1.length ≤ 100000) (hc : stmtsN p ≤ 1000000) (hv : cnt p < 400000) {inn : List Nm} {most : Int} (hm : most ≤ 40) {V : List StE} (hV : V = (itS p inn (start0 p) most.toNat).1)
    {a ai : Option Addr} {n c ni ci : Nat} {H : Hp} {K : Value → Hp → Prop} (ha : RL H a n c p) (hI : RL H ai ni ci inn)
    (hK : ∀ a1 n1 c1 H', Le H H' → RL (α := List Int) H' a1 n1 c1 (rowsK p V V.length) → K (.tuple #[.slice a1 n1 c1, .int .i64 0]) H') : Does Tryz.prog 31 [.agg #[.slice a n c], .slice ai ni ci, .int .i64 most] H K := by
  have hx5 := exprs512 he
  refine spec_of cxT_ok cx_mix rfl Tryz.func31 Tryz.call31 Tryz.ntmps31 Tryz.results31 rfl rfl ?_
  refine texprs_spec hp hl ha fun ax nx cx' H1 hle1 hrx => ?_
  have hnx := hrx.n_eq
  refine ⟨⟨rfl, by omega, by show (nx : Int) * 1 ≤ _; omega, by omega⟩, ?_⟩
  refine ⟨[1, 3, 2, 4], rfl, walk_spec he hp hc hv hm hV (ha.up hle1) (hI.up hle1) hrx (by rw [← bRow_zero]; rfl) fun H2 f css hle2 hrc => ?_⟩
  intro v H3 hle3 hv3
  refine of_row_k (α := List Int) hv3 (RC.up hrc hle3.le) fun d1 d2 d3 e1 hr5 => ?_
  subst e1
  exact hK _ _ _ _ ((hle1.trans hle2).trans hle3.le) hr5
theorem AvailRuns_spec {p : Prog} {inn : List Nm} {most : Int} {a ai : Option Addr} {n c ni ci : Nat} {H : Hp} {K : Value → Hp → Prop} (ha : RL H a n c p) (hI : RL H ai ni ci inn) (hT : TabH H) (hK : ∀ H', Le H H' → K (.bool true) H') :
    Does Tryz.prog 7 [.agg #[.slice a n c], .slice ai ni ci, .int .i64 most] H K := by
  have hn := ha.n_eq
  refine spec_of cx_ok cx_mix rfl Tryz.func7 Tryz.call7 Tryz.ntmps7 Tryz.results7 rfl rfl ?_
  refine awake40_spec hT fun _ _ => ?_
  refine ⟨(fun h => by cases h), fun _ => ?_⟩
  refine small4_spec ha fun t ht => ?_
  refine ⟨fun h => ?f0, fun h => ?t0⟩
  case t0 => exact hK _ (Le.refl H)
  have hb4 := ht (by simpa using h)
  have hp := hb4.1
  have hl : ∀ b ∈ p, b.2.1.length ≤ 100000 := fun b h => by have := (hb4.2 b h).1.1; omega
  have hc : stmtsN p ≤ 1000000 := small_stmts hb4
  have hv : cnt p < 400000 := small_cnt hb4
  refine ⟨fun h => ?g0, fun h => ?u0⟩
  case u0 => exact hK _ (Le.refl H)
  refine rcheck_spec ha hc hv fun _ _ => ?_
  refine ⟨fun h => ?t2, fun h => ?f2⟩
  case t2 => exact hK _ (Le.refl H)
  have he : checkE p = 0 := nf h
  refine name_k (itS p inn (start0 p) (min most 25).toNat).1 fun V hV => ?_
  refine asets_spec hp hl hc hv ha hT (fun hb => absurd he hb) fun _ a3 n3 c3 a4 n4 c4 H1 hle1 hr3 hr4 => ?_
  refine known_spec (V := V) he hp hl hc hv (most := min most 25) (by omega) hV (ha.up hle1) (hI.up hle1) fun a5 n5 c5 H2 hle2 hr5 => ?_
  have hle12 := hle1.trans hle2
  refine all_spec he hp hc hv (most := min most 25) (by omega) (ha.up hle12) (hI.up hle12) fun a1 n1 c1 a2 n2 c2 H3 hle3 hr1 hr2 => ?_
  rw [← hV] at hr1
  have hn5 := hr5.n_eq
  rw [rowsK, List.length_map, List.length_range] at hn5
  have hn1 := hr1.n_eq
  have hm1 := hr1.le
  have hle := hle12.trans hle3
  refine ⟨fun _ => ?_, fun h => absurd rfl (nt h)⟩
  refine ⟨fun _ => ?_, fun h => absurd rfl (nt h)⟩
  refine ⟨fun _ => ?_, fun h => absurd rfl (nt h)⟩
  refine ⟨fun h => absurd (show (n5 : Int) = (n1 : Int) by omega) (nt h), fun _ => ?_⟩
  have hlaw := (avail_it he inn (min most 25).toNat).1
  rw [← hV] at hlaw
  have hgV := goodV2 he inn (min most 25).toNat
  rw [← hV] at hgV
  have ho := asysOf_ok he
  have hA := Bt.solveS_ok ho
  have hmA : (Bt.solveS (asysOf p)).length = p.length := hA.len
  have hn3 := hr3.n_eq
  rw [availI, List.length_map, hmA] at hn3
  refine ⟨Nat, fun i => ⟨[(7, .v (.slice a3 n3 c3)), (10, .v (.slice a5 n5 c5)), (74, .v (.slice a1 n1 c1)), (75, .v (.int .i64 n1)), (76, .v (.int .i64 i))], [], 0⟩, fun i H' => H' = H3 ∧ i ≤ V.length, fun i => V.length - i, ⟨0, [], ?_, rfl, Nat.zero_le _⟩, ?_⟩
  · (repeat' (first | exact trivial | refine ⟨?_, ?_⟩ | exact rfl | assumption))
  rintro i H4 _ ⟨rfl, hi⟩
  refine ⟨fun h => ?_, fun h => ?_⟩
  · have hlt : i < V.length := by have := dt h; omega
    refine name_k V[i] fun s hse => ?_
    have hss : V[i]? = some s := by rw [hse]; exact List.getElem?_eq_getElem hlt
    have hgs := hgV s (List.mem_of_getElem? hss)
    have hb := hgs.1
    have hlt1 : s.1.toNat < p.length := by omega
    have hlw := hlaw i s hss
    refine name_k (Bt.aAt (avA p) s.1.toNat) fun x hxe => ?_
    rw [← hxe] at hlw
    have hxx : (Bt.solveS (asysOf p))[s.1.toNat]? = some x := by rw [hxe]; exact Bt.aAt_get hA hlt1
    have hok := hA.ok x (List.mem_of_getElem? hxx)
    have gI : (availI p)[s.1.toNat]? = some (numB x) := by rw [availI, List.getElem?_map, hxx]; rfl
    have gK : (rowsK p V V.length)[i]? = some (rowK p V i) := by rw [rowsK, List.getElem?_map, List.getElem?_range hlt]; rfl
    refine sta_k hr1 hss fun ad d1 d2 d3 e1 e2 e3 q1 hh _ _ => ?_
    refine ⟨ad, ⟨by omega, by omega, q1⟩, ?_⟩
    refine ⟨_, hh, ?_⟩
    refine list_k (hr3.up (hle2.trans hle3)) gI fun ad2 b1 m1 k1 q2 hh2 hr6 => ?_
    rw [Int.toNat_of_nonneg hb.1] at hh2
    refine ⟨ad2, ⟨by omega, by omega, q2⟩, ?_⟩
    refine ⟨_, hh2, ?_⟩
    have hm1' := hr6.n_eq
    have hmx := hr6.le
    refine ⟨Nat, fun j => ⟨[(7, .v (.slice a3 n3 c3)), (10, .v (.slice a5 n5 c5)), (14, .v (.int .i64 i)), (74, .v (.slice a1 n1 c1)), (75, .v (.int .i64 n1)), (76, .v (.int .i64 i)), (85, .v (.slice b1 m1 k1)), (86, .v (.int .i64 m1)), (87, .v (.int .i64 j))], [], 0⟩, fun j H' => H' = H4 ∧ j ≤ (numB x).length, fun j => (numB x).length - j, ⟨0, [], ?_, rfl, Nat.zero_le _⟩, ?_⟩
    · (repeat' (first | exact trivial | refine ⟨?_, ?_⟩ | exact rfl | assumption))
    rintro j H5 _ ⟨rfl, hj⟩
    refine ⟨fun h => ?_, fun h => ?_⟩
    · have hlj : j < (numB x).length := by have := dt h; omega
      refine name_k (numB x)[j] fun k hke => ?_
      have hkk : (numB x)[j]? = some k := by rw [hke]; exact List.getElem?_eq_getElem hlj
      have hkm := List.mem_of_getElem? hkk
      have hkin := num_in hok k hkm
      have hbit := (allL_has x 0 k.toNat).1 (by rw [Int.toNat_of_nonneg hkin.1]; exact hkm)
      have hbit2 : bitAt x k.toNat = true := by have := hbit.2; rwa [Nat.mul_zero, Nat.sub_zero] at this
      have hin : k ∈ rowK p V i := by
        have hw : (asysOf p).w = (exprsOf p).length := rfl
        have h2 := hlw k.toNat hbit2
        have h3 : ((k.toNat : Nat) : Int) ∈ rowK p V i := sel_mem.2 ⟨by omega, h2⟩
        rwa [Int.toNat_of_nonneg hkin.1] at h3
      refine int_k hr6 hkk fun ad3 q3 hh3 => ?_
      refine ⟨ad3, ⟨by omega, by omega, q3⟩, ?_⟩
      refine ⟨_, hh3, ?_⟩
      refine list_k (hr5.up hle3) gK fun ad4 f1 f2 f3 q4 hh4 hr7 => ?_
      refine ⟨ad4, ⟨by omega, by omega, q4⟩, ?_⟩
      refine ⟨_, hh4, ?_⟩
      refine in_spec hr7 ?_
      refine ⟨(fun h => absurd (h.symm.trans (by rw [decide_eq_true hin])) (by decide)), fun _ => ?_⟩
      refine ⟨⟨by omega, by omega⟩, j + 1, [], ?_, ⟨rfl, hlj⟩, by dsimp only; omega⟩
      (repeat' (first | exact trivial | refine ⟨?_, ?_⟩ | exact rfl | assumption))
    · refine ⟨⟨by omega, by omega⟩, i + 1, [], ?_, ⟨rfl, hlt⟩, by dsimp only; omega⟩
      (repeat' (first | exact trivial | refine ⟨?_, ?_⟩ | exact rfl | assumption))
  · exact hK _ hle
end Go.Proofs
end
