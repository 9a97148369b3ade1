/- Part 'M34' of the proof (Av1, Av2, Av3, Av4, Av5, Av6, Av7, Av8, Av9, Av10, Av11): lemmas, each with its own conditions in its own statement. -/
import Derived.Test.YtpcgdleccebjpaaGreatDoorM29
import Derived.Test.YtpcgdleccebjpaaGreatDoorM30
import Derived.Test.YtpcgdleccebjpaaGreatDoorM31
import Derived.Test.YtpcgdleccebjpaaGreatDoorM32
import Derived.Test.YtpcgdleccebjpaaGreatDoorM33
section
namespace Go.Proofs
open Go.Sy
set_option maxRecDepth 20000
set_option maxHeartbeats 4000000
/-! Expressions with variables; avail.has; soughref09.asks. -/
def namedA (a : Atm) : Bool := !decide (a.1.l = [])
theorem some1A_spec {a : Atm} {H : Hp} {K : Value → Hp → Prop} (hK : K (.bool (namedA a)) H) : Does Tryz.prog 112 [atmA a] H K := by
  refine spec_of cx_ok cx_mix rfl Tryz.func112 Tryz.call112 Tryz.ntmps112 Tryz.results112 rfl rfl ?_
  exact hK
theorem indexA_spec {l : List Atm} {a : Option Addr} {n c : Nat} {H : Hp} {K : SV → St → Hp → Prop} (ha : RL H a n c l) (hK : K (.v (.int .i64 (idxG namedA l 0))) ⟨[], [], 0⟩ H) : DoesG Tryz.prog 166 [.v (.slice a n c), .fn 112 []] [] 0 H K := by
  have hn1 := ha.n_eq
  have hmx := ha.le
  refine spec_ofG cx_ok cx_mix Tryz.func166 Tryz.call166 Tryz.ntmps166 Tryz.results166 rfl rfl ?_
  refine ⟨Nat, fun j => ⟨[(0, .v (.slice a n c)), (1, .fn 112 []), (7, .v (.int .i64 n)), (8, .v (.int .i64 j))], [], 0⟩,
    fun j H' => H' = H ∧ j ≤ l.length ∧ idxG namedA l 0 = idxG namedA (l.drop j) j, fun j => l.length - j, ⟨0, [], ?_, rfl, by omega, rfl⟩, ?_⟩
  · (repeat' (first | exact trivial | refine ⟨?_, ?_⟩ | exact rfl | assumption))
  rintro j H1 _ ⟨rfl, hi, hx⟩
  refine ⟨fun h => ?_, fun h => ?_⟩
  · have hlt : j < l.length := by have := dt h; omega
    rw [idxG_step hlt] at hx
    refine name_k l[j] fun x hxe => ?_
    have hxx : l[j]? = some x := by rw [hxe]; exact List.getElem?_eq_getElem hlt
    rw [← hxe] at hx
    refine atom_k ha hxx fun ad q1 hh hr => ?_
    refine ⟨ad, ⟨by omega, by omega, q1⟩, ?_⟩
    refine ⟨_, hh, ?_⟩
    refine some1A_spec (a := x) ?_
    refine ⟨fun h => ?_, fun h => ?_⟩
    · rw [if_pos h] at hx
      rw [hx] at hK
      exact ⟨.v (.int .i64 (j : Int)), [], 0, [], by (repeat' (first | exact trivial | refine ⟨?_, ?_⟩ | exact rfl | assumption)), hK⟩
    · rw [if_neg (by rw [h]; decide)] at hx
      refine ⟨⟨by omega, by omega⟩, j + 1, [], ?_, ⟨rfl, by omega, hx⟩, by dsimp only; omega⟩
      (repeat' (first | exact trivial | refine ⟨?_, ?_⟩ | exact rfl | assumption))
  · have hil : j = l.length := by have := df h; omega
    rw [hil, List.drop_length, idxG] at hx
    rw [hx] at hK
    exact ⟨.v (.int .i64 (-1)), [], 0, [], by (repeat' (first | exact trivial | refine ⟨?_, ?_⟩ | exact rfl | assumption)), hK⟩
theorem contA_spec {l : List Atm} {a : Option Addr} {n c : Nat} {H : Hp} {K : SV → St → Hp → Prop} (ha : RL H a n c l) (hK : K (.v (.bool (l.any namedA))) ⟨[], [], 0⟩ H) : DoesG Tryz.prog 111 [.v (.slice a n c), .fn 112 []] [] 0 H K := by
  rw [← idxG_any l 0 (Int.le_refl 0)] at hK
  refine spec_ofG cx_ok cx_mix Tryz.func111 Tryz.call111 Tryz.ntmps111 Tryz.results111 rfl rfl ?_
  refine ⟨[], rfl, indexA_spec ha ?_⟩
  exact ⟨.v (.bool (decide (0 ≤ idxG namedA l 0))), [], 0, [], by (repeat' (first | exact trivial | refine ⟨?_, ?_⟩ | exact rfl | assumption)), hK⟩
/-- Whether an expression has a variable. -/
def isA (v : Bs8) (a : Atm) : Bool := decide (a.1.l = v)
abbrev bN (v : Bs8) : List (Nat × Bx) := [(0, .cells 9 [.v (.string (bs v))])]
theorem has1_spec {a : Atm} {v : Bs8} {H : Hp} {K : SV → St → Hp → Prop} (hK : K (.v (.bool (isA v a))) ⟨[], bN v, 1⟩ H) : DoesG Tryz.prog 174 [.agg (vL (atmV a)), .ptr 0 0] (bN v) 1 H K := by
  refine spec_ofG cx_ok cx_mix Tryz.func174 Tryz.call174 Tryz.ntmps174 Tryz.results174 rfl rfl ?_
  exact ⟨.v (.bool (isA v a)), bN v, 1, [(0, 0)], by (repeat' (first | exact trivial | refine ⟨?_, ?_⟩ | exact rfl | assumption)), hK⟩
theorem indexH_spec {l : List Atm} {v : Bs8} {a : Option Addr} {n c : Nat} {H : Hp} {K : SV → St → Hp → Prop} (ha : RL H a n c l) (hK : K (.v (.int .i64 (idxG (isA v) l 0))) ⟨[], bN v, 1⟩ H) : DoesG Tryz.prog 166 [.v (.slice a n c), .fn 174 [.ptr 0 0]] (bN v) 1 H K := by
  have hn1 := ha.n_eq
  have hmx := ha.le
  refine spec_ofG cx_ok cx_mix Tryz.func166 Tryz.call166 Tryz.ntmps166 Tryz.results166 rfl rfl ?_
  refine ⟨Nat, fun j => ⟨[(0, .v (.slice a n c)), (1, .fn 174 [.ptr 0 0]), (7, .v (.int .i64 n)), (8, .v (.int .i64 j))], bN v, 1⟩,
    fun j H' => H' = H ∧ j ≤ l.length ∧ idxG (isA v) l 0 = idxG (isA v) (l.drop j) j, fun j => l.length - j, ⟨0, [(0, 0)], ?_, rfl, by omega, rfl⟩, ?_⟩
  · (repeat' (first | exact trivial | refine ⟨?_, ?_⟩ | exact rfl | assumption))
  rintro j H1 _ ⟨rfl, hi, hx⟩
  refine ⟨fun h => ?_, fun h => ?_⟩
  · have hlt : j < l.length := by have := dt h; omega
    rw [idxG_step hlt] at hx
    refine name_k l[j] fun x hxe => ?_
    have hxx : l[j]? = some x := by rw [hxe]; exact List.getElem?_eq_getElem hlt
    rw [← hxe] at hx
    refine atom_k ha hxx fun ad q1 hh hr => ?_
    refine ⟨ad, ⟨by omega, by omega, q1⟩, ?_⟩
    refine ⟨_, hh, ?_⟩
    refine ⟨[0], rfl, has1_spec (a := x) ?_⟩
    refine ⟨fun h => ?_, fun h => ?_⟩
    · rw [if_pos h] at hx
      rw [hx] at hK
      exact ⟨.v (.int .i64 (j : Int)), bN v, 1, [(0, 0)], by (repeat' (first | exact trivial | refine ⟨?_, ?_⟩ | exact rfl | assumption)), hK⟩
    · rw [if_neg (by rw [h]; decide)] at hx
      refine ⟨⟨by omega, by omega⟩, j + 1, [(0, 0)], ?_, ⟨rfl, by omega, hx⟩, by dsimp only; omega⟩
      (repeat' (first | exact trivial | refine ⟨?_, ?_⟩ | exact rfl | assumption))
  · have hil : j = l.length := by have := df h; omega
    rw [hil, List.drop_length, idxG] at hx
    rw [hx] at hK
    exact ⟨.v (.int .i64 (-1)), bN v, 1, [(0, 0)], by (repeat' (first | exact trivial | refine ⟨?_, ?_⟩ | exact rfl | assumption)), hK⟩
theorem contH_spec {l : List Atm} {v : Bs8} {a : Option Addr} {n c : Nat} {H : Hp} {K : SV → St → Hp → Prop} (ha : RL H a n c l) (hK : K (.v (.bool (l.any (isA v)))) ⟨[], bN v, 1⟩ H) : DoesG Tryz.prog 111 [.v (.slice a n c), .fn 174 [.ptr 0 0]] (bN v) 1 H K := by
  rw [← idxG_any l 0 (Int.le_refl 0)] at hK
  refine spec_ofG cx_ok cx_mix Tryz.func111 Tryz.call111 Tryz.ntmps111 Tryz.results111 rfl rfl ?_
  refine ⟨[0], rfl, indexH_spec ha ?_⟩
  exact ⟨.v (.bool (decide (0 ≤ idxG (isA v) l 0))), bN v, 1, [(0, 0)], by (repeat' (first | exact trivial | refine ⟨?_, ?_⟩ | exact rfl | assumption)), hK⟩
def asksE (x : Expr) (v : Bs8) : Bool := (atomsOf x).any (isA v)
theorem ahas_spec {x : Expr} {v : Bs8} (hx : exprR x) {H : Hp} {K : Value → Hp → Prop} (hK : ∀ H', Le H H' → K (.bool (!decide (v = []) && asksE x v)) H') : Does Tryz.prog 117 [exprA x, .string (bs v)] H K := by
  refine spec_of cx_ok cx_mix rfl Tryz.func117 Tryz.call117 Tryz.ntmps117 Tryz.results117 rfl rfl ?_
  refine ⟨fun h => ?_, fun h => ?_⟩
  · have hv : ¬ v = [] := nt h
    refine patoms_spec hx fun a n c H1 hle1 hr => ?_
    refine ⟨[1], rfl, contH_spec hr ?_⟩
    exact kbool (hK _ hle1) (by rw [decide_eq_false hv]; rfl)
  · have hv : v = [] := nf h
    exact kbool (hK _ (Le.refl H)) (by rw [decide_eq_true hv]; rfl)
theorem rasks_spec {x : Expr} {v : Bs8} (hx : exprR x) {H : Hp} {K : Value → Hp → Prop} (hK : ∀ H', Le H H' → K (.bool (asksE x v)) H') : Does Tryz.prog 128 [exprA x, .string (bs v)] H K := by
  refine spec_of cx_ok cx_mix rfl Tryz.func128 Tryz.call128 Tryz.ntmps128 Tryz.results128 rfl rfl ?_
  refine ratoms_spec hx fun a n c H1 hle1 hr => ?_
  have hn := hr.n_eq
  have hmx := hr.le
  refine ⟨Nat, fun i => ⟨[(1, .v (.string (bs v))), (8, .v (.slice a n c)), (9, .v (.int .i64 n)), (10, .v (.int .i64 i))], [], 0⟩,
    fun i H' => H' = H1 ∧ i ≤ (atomsOf x).length ∧ ∀ y ∈ (atomsOf x).take i, isA v y = false, fun i => (atomsOf x).length - i, ⟨0, [], ?_, rfl, Nat.zero_le _, fun y hy => by cases hy⟩, ?_⟩
  · (repeat' (first | exact trivial | refine ⟨?_, ?_⟩ | exact rfl | assumption))
  rintro i H2 _ ⟨rfl, hi, hno⟩
  refine ⟨fun h => ?_, fun h => ?_⟩
  · have hlt : i < (atomsOf x).length := by have := dt h; omega
    refine name_k (atomsOf x)[i] fun y hye => ?_
    have hyy : (atomsOf x)[i]? = some y := by rw [hye]; exact List.getElem?_eq_getElem hlt
    refine atom_k hr hyy fun ad q1 hh hR => ?_
    refine ⟨ad, ⟨by omega, by omega, q1⟩, ?_⟩
    refine ⟨_, hh, ?_⟩
    refine ⟨fun h => ?_, fun h => ?_⟩
    · have h1 : y.1.l = v := dt h
      exact kbool (hK _ hle1) (List.any_eq_true.2 ⟨y, List.mem_of_getElem? hyy, decide_eq_true h1⟩)
    · have h1 : ¬ y.1.l = v := df h
      refine ⟨⟨by omega, by omega⟩, i + 1, [], ?_, ⟨rfl, hlt, mem_take_succ hyy hno (decide_eq_false h1)⟩, by dsimp only; omega⟩
      (repeat' (first | exact trivial | refine ⟨?_, ?_⟩ | exact rfl | assumption))
  · have hil : i = (atomsOf x).length := by have := df h; omega
    rw [hil, List.take_length] at hno
    have e : asksE x v = false := List.any_eq_false.2 fun y hy => by rw [hno y hy]; decide
    rw [e] at hK
    exact hK _ hle1
end Go.Proofs
end
section
namespace Go.Proofs
open Go.Sy
set_option maxRecDepth 20000
set_option maxHeartbeats 4000000
/-! tables.Exprs, soughref06.Exprs. -/
def takesE (s : Stmt) : Bool := decide (s.1 = 1) && (!decide (s.2.2.1 = 0) && (atomsOf s.2.2).any namedA)
def addE (out : List Expr) (s : Stmt) : List Expr := if takesE s = true ∧ s.2.2 ∉ out then out ++ [s.2.2] else out
def exprsB (out : List Expr) (l : List Stmt) : List Expr := l.foldl addE out
def exprsOf (p : Prog) : List Expr := p.foldl (fun o b => exprsB o b.2.1) []
theorem addE_len (out : List Expr) (s : Stmt) : (addE out s).length ≤ out.length + 1 := by
  unfold addE
  split
  · simp
  · omega
theorem addE_R {out : List Expr} {s : Stmt} (h : ∀ y ∈ out, exprR y) (hs : exprR s.2.2) : ∀ y ∈ addE out s, exprR y := by
  unfold addE
  split
  · intro y hy
    rcases List.mem_append.1 hy with hy | hy
    · exact h y hy
    · rw [List.mem_singleton] at hy; rw [hy]; exact hs
  · exact h
theorem exprsB_len : ∀ (l : List Stmt) (out : List Expr), (exprsB out l).length ≤ out.length + l.length
  | [], _ => Nat.le_refl _
  | s :: r, out => by
    have h1 := addE_len out s
    have h2 := exprsB_len r (addE out s)
    rw [exprsB, List.foldl_cons, List.length_cons]
    rw [exprsB] at h2
    omega
theorem exprsB_R : ∀ (l : List Stmt) {out : List Expr}, (∀ y ∈ out, exprR y) → (∀ s ∈ l, exprR s.2.2) → ∀ y ∈ exprsB out l, exprR y
  | [], _, h, _ => h
  | s :: r, _, h, hl => exprsB_R r (addE_R h (hl s List.mem_cons_self)) (fun t ht => hl t (List.mem_cons_of_mem _ ht))
def exprsK (p : Prog) (i : Nat) : List Expr := (p.take i).foldl (fun o b => exprsB o b.2.1) []
structure FamE (p : Prog) (G : Nat → List Expr) (F : Nat → Nat → List Expr) : Prop where
  g0 : G 0 = []
  f0 : ∀ i, F i 0 = G i
  fs : ∀ i k b s, p[i]? = some b → b.2.1[k]? = some s → F i (k + 1) = addE (F i k) s
  gs : ∀ i b, p[i]? = some b → G (i + 1) = F i b.2.1.length
  ge : G p.length = exprsOf p
  lenG : ∀ i, (G i).length ≤ 100000 * i
  lenF : ∀ i k, (F i k).length ≤ 100000 * i + k
  R : ∀ i k, ∀ y ∈ F i k, exprR y
theorem famE_k {P : Prop} {p : Prog} (hl : ∀ b ∈ p, b.2.1.length ≤ 100000) (hR : ∀ b ∈ p, ∀ s ∈ b.2.1, stmtR s) (k : ∀ G F, FamE p G F → P) : P := by
  have hlen : ∀ i, (exprsK p i).length ≤ 100000 * i := fun i => by
    induction i with
    | zero => simp [exprsK]
    | succ i ih =>
      unfold exprsK at ih ⊢
      rw [List.take_add_one, List.foldl_append]
      cases hb : p[i]? with
      | none => simp only [Option.toList_none, List.foldl_nil]; omega
      | some b =>
        have h1 := exprsB_len b.2.1 ((p.take i).foldl (fun o b => exprsB o b.2.1) [])
        have h2 := hl b (List.mem_of_getElem? hb)
        simp only [Option.toList_some, List.foldl_cons, List.foldl_nil]
        omega
  have hRR : ∀ i, ∀ y ∈ exprsK p i, exprR y := fun i => by
    induction i with
    | zero => intro y hy; simp [exprsK] at hy
    | succ i ih =>
      unfold exprsK at ih ⊢
      rw [List.take_add_one, List.foldl_append]
      cases hb : p[i]? with
      | none => exact ih
      | some b =>
        exact exprsB_R b.2.1 ih (fun s hs => (hR b (List.mem_of_getElem? hb) s hs).2.2)
  refine k (exprsK p) (fun i k => exprsB (exprsK p i) (((p[i]?.map fun b => b.2.1).getD []).take k)) ⟨rfl, fun _ => rfl, fun i k b s hb hs => ?_, fun i b hb => ?_, ?_, hlen, fun i k => ?_, fun i k => ?_⟩
  · rw [hb]
    show exprsB (exprsK p i) (b.2.1.take (k + 1)) = addE (exprsB (exprsK p i) (b.2.1.take k)) s
    rw [List.take_add_one, hs, exprsB, List.foldl_append]; rfl
  · rw [hb]
    show exprsK p (i + 1) = exprsB (exprsK p i) (b.2.1.take b.2.1.length)
    rw [List.take_length, exprsK, List.take_add_one, hb, List.foldl_append]; rfl
  · rw [exprsK, List.take_length]; rfl
  · have h1 := exprsB_len (((p[i]?.map fun b => b.2.1).getD []).take k) (exprsK p i)
    have h2 := hlen i
    rw [List.length_take] at h1
    omega
  · refine exprsB_R _ (hRR i) fun s hs => ?_
    have hs := List.mem_of_mem_take hs
    cases hb : p[i]? with
    | none => rw [hb] at hs; cases hs
    | some b => rw [hb] at hs; exact (hR b (List.mem_of_getElem? hb) s hs).2.2
theorem stmts_R {H : Hp} {a : Option Addr} {n c : Nat} {l : List Stmt} (h : RL H a n c l) : ∀ s ∈ l, stmtR s := fun s hs => by
  obtain ⟨i, hi⟩ := List.getElem?_of_mem hs
  exact stmt_k h hi fun _ _ _ hr => hr
theorem prog_R {H : Hp} {a : Option Addr} {n c : Nat} {p : Prog} (h : RL H a n c p) : ∀ b ∈ p, ∀ s ∈ b.2.1, stmtR s := fun b hb => by
  obtain ⟨i, hi⟩ := List.getElem?_of_mem hb
  exact block_k h hi fun _ _ _ _ _ _ hr _ _ => stmts_R hr
open Classical in
noncomputable def metG (out : List Expr) : Lit → Int := fun kl => if ∃ x ∈ out, kl = keyE x then 1 else 0
theorem metG_at {out : List Expr} (ho : ∀ y ∈ out, exprR y) {x : Expr} (hx : exprR x) : metG out (keyE x) = if x ∈ out then 1 else 0 := by
  unfold metG
  by_cases h : x ∈ out
  · rw [if_pos ⟨x, h, rfl⟩, if_pos h]
  · rw [if_neg (fun ⟨y, hy, e⟩ => h (keyE_inj hx (ho y hy) e ▸ hy)), if_neg h]
theorem metG_nil : (fun _ => 0) = metG [] := by
  funext kl
  unfold metG
  rw [if_neg (fun ⟨_, h, _⟩ => by cases h)]
theorem metG_snoc (out : List Expr) (x : Expr) : updL (metG out) (keyE x) 1 = metG (out ++ [x]) := by
  funext kl
  unfold updL metG
  by_cases h : kl = keyE x
  · rw [if_pos h, if_pos ⟨x, by simp, h⟩]
  · rw [if_neg h]
    by_cases h2 : ∃ y ∈ out, kl = keyE y
    · obtain ⟨y, hy, e⟩ := h2
      rw [if_pos ⟨y, hy, e⟩, if_pos ⟨y, List.mem_append_left _ hy, e⟩]
    · rw [if_neg h2, if_neg]
      rintro ⟨y, hy, e⟩
      rcases List.mem_append.1 hy with hy | hy
      · exact h2 ⟨y, hy, e⟩
      · rw [List.mem_singleton] at hy; subst hy; exact h e
noncomputable abbrev metP (out : List Expr) : Obj → Prop := MapI Tryz.prog 82 3 out.length (metG out)
theorem metP_nil : MapI Tryz.prog 82 3 0 (fun _ => 0) = metP [] := by rw [metP, metG_nil]; rfl
theorem metP_snoc (out : List Expr) (x : Expr) : MapI Tryz.prog 82 3 (out.length + 1) (updL (metG out) (keyE x) 1) = metP (out ++ [x]) := by rw [metP, metG_snoc, List.length_append]; rfl
theorem expr_mk {H : Hp} {x : Expr} (h : exprR x) : Enc.R H (exprV x) x := ⟨[.int .i64 x.1], atmV x.2.1 ++ atmV x.2.2, rfl, ⟨rfl, h.1⟩, atmV x.2.1, atmV x.2.2, rfl, atm_mk h.2.1, atm_mk h.2.2⟩
abbrev xRows (l : List Expr) : List (List Value) := l.map exprV
theorem rc_xRows {H : Hp} : ∀ {l : List Expr}, (∀ x ∈ l, exprR x) → RC (α := Expr) H (xRows l) l := fun {l} h => by
  refine ⟨List.length_map _, fun i cs x h1 h2 => ?_⟩
  rw [List.getElem?_map, h2] at h1
  cases h1
  exact expr_mk (h x (List.mem_of_getElem? h2))
theorem texprs_spec {p : Prog} (hp : p.length ≤ 12) (hl : ∀ b ∈ p, b.2.1.length ≤ 100000) {a : Option Addr} {n c : Nat} {H : Hp} {K : Value → Hp → Prop} (ha : RL H a n c p) (hK : ∀ a1 n1 c1 H', Le H H' → RL H' a1 n1 c1 (exprsOf p) → K (.slice a1 n1 c1) H') : Does Tryz.prog 53 [.agg #[.slice a n c]] H K := by
  have hn := ha.n_eq
  refine famE_k hl (prog_R ha) fun G F hF => ?_
  refine fam_k (fun out => metP out) fun M hM => ?_
  refine spec_of cx_ok cx_mix rfl Tryz.func53 Tryz.call53 Tryz.ntmps53 Tryz.results53 rfl rfl ?_
  refine ⟨mapOKE, ?_⟩
  refine ⟨Nat, fun i => ⟨[(3, .own 2), (4, .mp 1), (13, .v (.slice a n c)), (14, .v (.int .i64 n)), (15, .v (.int .i64 i))], [(0, .cells 24 [.v (.slice a n c)]), (1, .obj (M (G i))), (2, .row 82 7 (xRows (G i)))], 3⟩,
    fun i H' => Le H H' ∧ i ≤ p.length, fun i => p.length - i, ⟨0, [(0, 0), (1, 1)], ?_, Le.refl H, Nat.zero_le _⟩, ?_⟩
  · have e0 : MapI Tryz.prog 82 3 0 (fun _ => 0) = M (G 0) := by rw [hF.g0, hM]; exact metP_nil
    have e1 : xRows (G 0) = [] := by rw [hF.g0]; rfl
    (repeat' (first | exact trivial | refine ⟨?_, ?_⟩ | exact rfl | assumption))
  rintro i H1 _ ⟨hle1, hi⟩
  refine ⟨fun h => ?_, fun h => ?_⟩
  · have hlt : i < p.length := by have := dt h; omega
    refine name_k p[i] fun b hbe => ?_
    have hbb : p[i]? = some b := by rw [hbe]; exact List.getElem?_eq_getElem hlt
    have hbl := hl b (List.mem_of_getElem? hbb)
    refine block_k (ha.up hle1) hbb fun ad a5 n5 c5 q1 hh hr5 hs5 ht5 => ?_
    have hn5 : n5 = b.2.1.length := hr5.n_eq
    refine ⟨ad, ⟨by omega, by omega, q1⟩, ?_⟩
    refine ⟨_, hh, ?_⟩
    refine ⟨Nat, fun k => ⟨[(3, .own 2), (4, .mp 1), (13, .v (.slice a n c)), (14, .v (.int .i64 n)), (15, .v (.int .i64 i)), (20, .v (.slice a5 n5 c5)), (21, .v (.int .i64 n5)), (22, .v (.int .i64 k))], [(0, .cells 24 [.v (.slice a n c)]), (1, .obj (M (F i k))), (2, .row 82 7 (xRows (F i k)))], 3⟩,
      fun k H' => Le H1 H' ∧ k ≤ b.2.1.length, fun k => b.2.1.length - k, ⟨0, [(0, 0), (1, 1), (2, 2)], ?_, Le.refl H1, Nat.zero_le _⟩, ?_⟩
    · have e0 := hF.f0 i
      have e1 : M (G i) = M (F i 0) := by rw [e0]
      have e2 : xRows (G i) = xRows (F i 0) := by rw [e0]
      (repeat' (first | exact trivial | refine ⟨?_, ?_⟩ | exact rfl | assumption))
    rintro k H2 _ ⟨hle2, hk⟩
    have hfl := hF.lenF i k
    have hxl : (xRows (F i k)).length = (F i k).length := List.length_map _
    refine ⟨fun h => ?_, fun h => ?_⟩
    · have hkl : k < b.2.1.length := by have := dt h; omega
      refine name_k b.2.1[k] fun s hse => ?_
      have hss : b.2.1[k]? = some s := by rw [hse]; exact List.getElem?_eq_getElem hkl
      have hst := hF.fs i k b s hbb hss
      refine stmt_k (hr5.up hle2) hss fun ad2 q2 hh2 hR => ?_
      refine ⟨ad2, ⟨by omega, by omega, q2⟩, ?_⟩
      refine ⟨_, hh2, ?_⟩
      refine patoms_spec hR.2.2 fun a6 n6 c6 H3 hle3 hr6 => ?_
      refine ⟨[], rfl, contA_spec hr6 ?_⟩
      refine ⟨fun h1 => ?_, fun h1 => ?_⟩
      case refine_2 =>
        have h1 : ¬ s.1 = 1 := nt h1
        have hno : ¬ (takesE s = true ∧ s.2.2 ∉ F i k) := fun h => by rw [takesE, decide_eq_false h1] at h; cases h.1
        have e0 : F i (k + 1) = F i k := by rw [hst, addE, if_neg hno]
        have e1 : M (F i k) = M (F i (k + 1)) := by rw [e0]
        have e2 : xRows (F i k) = xRows (F i (k + 1)) := by rw [e0]
        refine ⟨⟨by omega, by omega⟩, k + 1, [(0, 0), (1, 1), (2, 2)], ?_, ⟨hle2.trans hle3, hkl⟩, by dsimp only; omega⟩
        (repeat' (first | exact trivial | refine ⟨?_, ?_⟩ | exact rfl | assumption))
      have h1 : s.1 = 1 := nf h1
      refine ⟨fun h0 => ?_, fun h0 => ?_⟩
      case refine_2 =>
        have h0 : s.2.2.1 = 0 := dt h0
        have hno : ¬ (takesE s = true ∧ s.2.2 ∉ F i k) := fun h => by rw [takesE, decide_eq_true h1, decide_eq_true h0] at h; cases h.1
        have e0 : F i (k + 1) = F i k := by rw [hst, addE, if_neg hno]
        have e1 : M (F i k) = M (F i (k + 1)) := by rw [e0]
        have e2 : xRows (F i k) = xRows (F i (k + 1)) := by rw [e0]
        refine ⟨⟨by omega, by omega⟩, k + 1, [(0, 0), (1, 1), (2, 2)], ?_, ⟨hle2.trans hle3, hkl⟩, by dsimp only; omega⟩
        (repeat' (first | exact trivial | refine ⟨?_, ?_⟩ | exact rfl | assumption))
      have h0 : ¬ s.2.2.1 = 0 := df h0
      refine ⟨fun ha0 => ?_, fun ha0 => ?_⟩
      case refine_2 =>
        have ha0 : (atomsOf s.2.2).any namedA = false := by simpa using ha0
        have hno : ¬ (takesE s = true ∧ s.2.2 ∉ F i k) := fun h => by rw [takesE, decide_eq_true h1, decide_eq_false h0, ha0] at h; cases h.1
        have e0 : F i (k + 1) = F i k := by rw [hst, addE, if_neg hno]
        have e1 : M (F i k) = M (F i (k + 1)) := by rw [e0]
        have e2 : xRows (F i k) = xRows (F i (k + 1)) := by rw [e0]
        refine ⟨⟨by omega, by omega⟩, k + 1, [(0, 0), (1, 1), (2, 2)], ?_, ⟨hle2.trans hle3, hkl⟩, by dsimp only; omega⟩
        (repeat' (first | exact trivial | refine ⟨?_, ?_⟩ | exact rfl | assumption))
      have ha0 : (atomsOf s.2.2).any namedA = true := by simpa using ha0
      have htk : takesE s = true := by rw [takesE, decide_eq_true h1, decide_eq_false h0, ha0]; rfl
      have hm := metG_at (hF.R i k) hR.2.2
      refine ⟨_, _, keyE s.2.2, hM _, keyOfE hR.2.2, ?_⟩
      refine ⟨fun hin => ?_, fun hin => ?_⟩
      case refine_1 =>
        have hin := dt hin
        rw [hm] at hin
        have hin : s.2.2 ∈ F i k := Decidable.byContradiction fun h => by rw [if_neg h] at hin; omega
        have hno : ¬ (takesE s = true ∧ s.2.2 ∉ F i k) := fun h => h.2 hin
        have e0 : F i (k + 1) = F i k := by rw [hst, addE, if_neg hno]
        have e1 : M (F i k) = M (F i (k + 1)) := by rw [e0]
        have e2 : xRows (F i k) = xRows (F i (k + 1)) := by rw [e0]
        refine ⟨⟨by omega, by omega⟩, k + 1, [(0, 0), (1, 1), (2, 2)], ?_, ⟨hle2.trans hle3, hkl⟩, by dsimp only; omega⟩
        (repeat' (first | exact trivial | refine ⟨?_, ?_⟩ | exact rfl | assumption))
      have hin := df hin
      rw [hm] at hin
      have hin : s.2.2 ∉ F i k := fun h => by rw [if_pos h] at hin; omega
      have e0 : F i (k + 1) = F i k ++ [s.2.2] := by rw [hst, addE, if_pos ⟨htk, hin⟩]
      have e1 : MapI Tryz.prog 82 3 ((F i k).length + 1) (updL (metG (F i k)) (keyE s.2.2) 1) = M (F i (k + 1)) := by rw [e0, hM, metP_snoc]
      have e2 : xRows (F i k) ++ [exprV s.2.2] = xRows (F i (k + 1)) := by rw [e0, xRows, xRows, List.map_append]; rfl
      refine ⟨_, _, keyE s.2.2, hM _, keyOfE hR.2.2, ⟨by omega, by decide, by decide⟩, ?_⟩
      refine ⟨⟨by show ((xRows (F i k)).length + 1) * 72 ≤ 140737488355328; omega, by show (xRows (F i k)).length + 1 ≤ 9223372036854775807; omega⟩, ?_⟩
      refine ⟨⟨by omega, by omega⟩, k + 1, [(0, 0), (1, 1), (2, 6)], ?_, ⟨hle2.trans hle3, hkl⟩, by dsimp only; omega⟩
      (repeat' (first | exact trivial | refine ⟨?_, ?_⟩ | exact rfl | assumption))
    · have hil : k = b.2.1.length := by have := df h; omega
      subst hil
      have hg := hF.gs i b hbb
      have e1 : M (F i b.2.1.length) = M (G (i + 1)) := by rw [hg]
      have e2 : xRows (F i b.2.1.length) = xRows (G (i + 1)) := by rw [hg]
      refine ⟨⟨by omega, by omega⟩, i + 1, [(0, 0), (1, 1), (2, 2)], ?_, ⟨hle1.trans hle2, hlt⟩, by dsimp only; omega⟩
      (repeat' (first | exact trivial | refine ⟨?_, ?_⟩ | exact rfl | assumption))
  · have hil : i = p.length := by have := df h; omega
    subst hil
    rw [hF.ge]
    intro v H3 hle3 hv3
    have hR := hF.R p.length 0
    rw [hF.f0, hF.ge] at hR
    refine of_row_k (α := Expr) hv3 (rc_xRows hR) fun d1 d2 d3 ev hr => ?_
    subst ev
    exact hK _ _ _ _ (hle1.trans hle3.le) hr
end Go.Proofs
end
section
namespace Go.Proofs
open Go.Sy
set_option maxRecDepth 20000
set_option maxHeartbeats 4000000
/-! soughref06.Exprs. -/
theorem any_take {α : Type} {f : α → Bool} {l : List α} {j : Nat} {y : α} (h : l[j]? = some y) : (l.take (j + 1)).any f = ((l.take j).any f || f y) := by
  rw [List.take_add_one, h, List.any_append]; simp
theorem strX_vc (s t : Bs8) : decide (sl (bs s) = sl (bs t)) = decide (s = t) := rfl
theorem eqX_vc (x y : Expr) : (decide (x.1 = y.1) && (decide (sl (bs x.2.1.1.l) = sl (bs y.2.1.1.l)) && (decide (x.2.1.2.1 = y.2.1.2.1) && (decide (x.2.1.2.2 = y.2.1.2.2) && true) && true) && (decide (sl (bs x.2.2.1.l) = sl (bs y.2.2.1.l)) && (decide (x.2.2.2.1 = y.2.2.2.1) && (decide (x.2.2.2.2 = y.2.2.2.2) && true) && true) && true))) = decide (x = y) := by
  rw [strX_vc, strX_vc]
  obtain ⟨c, ⟨⟨d⟩, e, f⟩, ⟨g⟩, h, i⟩ := x
  obtain ⟨c', ⟨⟨d'⟩, e', f'⟩, ⟨g'⟩, h', i'⟩ := y
  rw [Bool.eq_iff_iff]
  simp [and_assoc]
theorem rexprs_spec {p : Prog} (hp : p.length ≤ 12) (hl : ∀ b ∈ p, b.2.1.length ≤ 100000) {a : Option Addr} {n c : Nat} {H : Hp} {K : Value → Hp → Prop} (ha : RL H a n c p) (hK : ∀ a1 n1 c1 H', Le H H' → RL H' a1 n1 c1 (exprsOf p) → K (.slice a1 n1 c1) H') : Does Tryz.prog 65 [.agg #[.slice a n c]] H K := by
  have hn := ha.n_eq
  refine famE_k hl (prog_R ha) fun G F hF => ?_
  refine spec_of cx_ok cx_mix rfl Tryz.func65 Tryz.call65 Tryz.ntmps65 Tryz.results65 rfl rfl ?_
  refine ⟨Nat, fun i => ⟨[(3, .own 1), (14, .v (.slice a n c)), (15, .v (.int .i64 n)), (16, .v (.int .i64 i))], [(0, .cells 24 [.v (.slice a n c)]), (1, .row 82 7 (xRows (G i)))], 2⟩,
    fun i H' => Le H H' ∧ i ≤ p.length, fun i => p.length - i, ⟨0, [(0, 0)], ?_, Le.refl H, Nat.zero_le _⟩, ?_⟩
  · have e1 : xRows (G 0) = [] := by rw [hF.g0]; rfl
    (repeat' (first | exact trivial | refine ⟨?_, ?_⟩ | exact rfl | assumption))
  rintro i H1 _ ⟨hle1, hi⟩
  refine ⟨fun h => ?_, fun h => ?_⟩
  · have hlt : i < p.length := by have := dt h; omega
    refine name_k p[i] fun b hbe => ?_
    have hbb : p[i]? = some b := by rw [hbe]; exact List.getElem?_eq_getElem hlt
    have hbl := hl b (List.mem_of_getElem? hbb)
    refine block_k (ha.up hle1) hbb fun ad a5 n5 c5 q1 hh hr5 hs5 ht5 => ?_
    have hn5 : n5 = b.2.1.length := hr5.n_eq
    refine ⟨ad, ⟨by omega, by omega, q1⟩, ?_⟩
    refine ⟨_, hh, ?_⟩
    refine ⟨Nat, fun k => ⟨[(3, .own 1), (14, .v (.slice a n c)), (15, .v (.int .i64 n)), (16, .v (.int .i64 i)), (21, .v (.slice a5 n5 c5)), (22, .v (.int .i64 n5)), (23, .v (.int .i64 k))], [(0, .cells 24 [.v (.slice a n c)]), (1, .row 82 7 (xRows (F i k)))], 2⟩,
      fun k H' => Le H1 H' ∧ k ≤ b.2.1.length, fun k => b.2.1.length - k, ⟨0, [(0, 0), (1, 1)], ?_, Le.refl H1, Nat.zero_le _⟩, ?_⟩
    · have e0 := hF.f0 i
      have e2 : xRows (G i) = xRows (F i 0) := by rw [e0]
      (repeat' (first | exact trivial | refine ⟨?_, ?_⟩ | exact rfl | assumption))
    rintro k H2 _ ⟨hle2, hk⟩
    have hfl := hF.lenF i k
    have hxl : (xRows (F i k)).length = (F i k).length := List.length_map _
    refine ⟨fun h => ?_, fun h => ?_⟩
    · have hkl : k < b.2.1.length := by have := dt h; omega
      refine name_k b.2.1[k] fun s hse => ?_
      have hss : b.2.1[k]? = some s := by rw [hse]; exact List.getElem?_eq_getElem hkl
      have hst := hF.fs i k b s hbb hss
      refine stmt_k (hr5.up hle2) hss fun ad2 q2 hh2 hR => ?_
      refine ⟨ad2, ⟨by omega, by omega, q2⟩, ?_⟩
      refine ⟨_, hh2, ?_⟩
      refine ratoms_spec hR.2.2 fun a6 n6 c6 H3 hle3 hr6 => ?_
      have hn6 := hr6.n_eq
      have hm6 := hr6.le
      refine fam_k (fun j => ((atomsOf s.2.2).take j).any namedA) fun B hB => ?_
      refine ⟨Nat, fun j => ⟨[(3, .own 1), (7, .ptr 2 0), (8, .v (.bool (B j))), (14, .v (.slice a n c)), (15, .v (.int .i64 n)), (16, .v (.int .i64 i)), (21, .v (.slice a5 n5 c5)), (22, .v (.int .i64 n5)), (23, .v (.int .i64 k)), (29, .v (.slice a6 n6 c6)), (30, .v (.int .i64 n6)), (31, .v (.int .i64 j))], [(0, .cells 24 [.v (.slice a n c)]), (1, .row 82 7 (xRows (F i k))), (2, .cells 84 (vL (stmtV s)))], 3⟩,
        fun j H' => H' = H3 ∧ j ≤ (atomsOf s.2.2).length, fun j => (atomsOf s.2.2).length - j, ⟨0, [(0, 0), (1, 1), (2, 2)], ?_, rfl, Nat.zero_le _⟩, ?_⟩
      · have e3 : B 0 = false := by rw [hB]; rfl
        have e4 : Value.bool (B 0) = Value.bool false := by rw [e3]
        have e5 : Value.bool false = Value.bool (B 0) := by rw [e3]
        have e6 := e3.symm
        (repeat' (first | exact trivial | refine ⟨?_, ?_⟩ | exact rfl | assumption))
      rintro j H4 _ ⟨rfl, hj⟩
      refine ⟨fun h => ?_, fun h => ?_⟩
      · have hjl : j < (atomsOf s.2.2).length := by have := dt h; omega
        refine name_k (atomsOf s.2.2)[j] fun y hye => ?_
        have hyy : (atomsOf s.2.2)[j]? = some y := by rw [hye]; exact List.getElem?_eq_getElem hjl
        have hBs : B (j + 1) = (B j || namedA y) := by rw [hB, hB]; exact any_take hyy
        refine atom_k hr6 hyy fun ad3 q3 hh3 hRy => ?_
        refine ⟨ad3, ⟨by omega, by omega, q3⟩, ?_⟩
        refine ⟨_, hh3, ?_⟩
        refine ⟨fun hb => ?_, fun hb => ?_⟩
        · have e3 : (SV.v (.bool (namedA y)) : SV) = .v (.bool (B (j + 1))) := by rw [hBs, hb]; rfl
          refine ⟨⟨by omega, by omega⟩, j + 1, [(0, 0), (1, 1), (2, 2)], ?_, ⟨rfl, hjl⟩, by dsimp only; omega⟩
          (repeat' (first | exact trivial | refine ⟨?_, ?_⟩ | exact rfl | assumption))
        · have e3 : B (j + 1) = true := by rw [hBs, hb]; rfl
          have e5 : Value.bool (B (j + 1)) = Value.bool true := by rw [e3]
          have e6 : Value.bool true = Value.bool (B (j + 1)) := by rw [e3]
          have e7 := e3.symm
          have e4 : (SV.v (.bool (B j)) : SV) = .v (.bool (B (j + 1))) := by rw [hBs, hb]; rfl
          refine ⟨⟨by omega, by omega⟩, j + 1, [(0, 0), (1, 1), (2, 2)], ?_, ⟨rfl, hjl⟩, by dsimp only; omega⟩
          (repeat' (first | exact trivial | refine ⟨?_, ?_⟩ | exact rfl | assumption))
      · have hjl : j = (atomsOf s.2.2).length := by have := df h; omega
        have hA : B j = (atomsOf s.2.2).any namedA := by rw [hB, hjl, List.take_length]
        refine fam_k (fun m => (atomsOf s.2.2).any namedA && decide (s.2.2 ∉ (F i k).take m)) fun C hC => ?_
        refine ⟨Nat, fun m => ⟨[(3, .own 1), (7, .ptr 2 0), (8, .v (.bool (C m))), (14, .v (.slice a n c)), (15, .v (.int .i64 n)), (16, .v (.int .i64 i)), (21, .v (.slice a5 n5 c5)), (22, .v (.int .i64 n5)), (23, .v (.int .i64 k)), (42, .own 1), (43, .v (.int .i64 (xRows (F i k)).length)), (44, .v (.int .i64 m))], [(0, .cells 24 [.v (.slice a n c)]), (1, .row 82 7 (xRows (F i k))), (2, .cells 84 (vL (stmtV s)))], 3⟩,
          fun m H' => H' = H4 ∧ m ≤ (F i k).length, fun m => (F i k).length - m, ⟨0, [(0, 0), (1, 1), (2, 2)], ?_, rfl, Nat.zero_le _⟩, ?_⟩
        · have e3 : (SV.v (.bool (B j)) : SV) = .v (.bool (C 0)) := by rw [hC, hA]; simp
          (repeat' (first | exact trivial | refine ⟨?_, ?_⟩ | exact rfl | assumption))
        rintro m H5 _ ⟨rfl, hm⟩
        refine ⟨fun h => ?_, fun h => ?_⟩
        · have hml : m < (F i k).length := by have := dt h; omega
          refine name_k (F i k)[m] fun y hye => ?_
          have hyy : (F i k)[m]? = some y := by rw [hye]; exact List.getElem?_eq_getElem hml
          have hg : (xRows (F i k))[m]? = some (exprV y) := by rw [List.getElem?_map, hyy]; rfl
          refine ⟨⟨by omega, by omega⟩, ?_⟩
          refine ⟨_, hg, ?_⟩
          have hCs : C (m + 1) = (C m && !decide (s.2.2 = y)) := by
            rw [hC, hC, List.take_add_one, hyy, Bool.and_assoc]
            congr 1
            rw [Bool.eq_iff_iff]
            simp
          refine ⟨fun h => ?_, fun h => ?_⟩
          · have hxy : decide (y = s.2.2) = true := (eqX_vc y s.2.2).symm.trans h
            have hxy : s.2.2 = y := (of_decide_eq_true hxy).symm
            have e3 : C (m + 1) = false := by rw [hCs, decide_eq_true hxy]; simp
            have e6 : Value.bool false = Value.bool (C (m + 1)) := by rw [e3]
            have e5 : Value.bool (C (m + 1)) = Value.bool false := by rw [e3]
            refine ⟨⟨by omega, by omega⟩, m + 1, [(0, 0), (1, 1), (2, 2)], ?_, ⟨rfl, hml⟩, by dsimp only; omega⟩
            (repeat' (first | exact trivial | refine ⟨?_, ?_⟩ | exact rfl | assumption))
          · have hxy : decide (y = s.2.2) = false := (eqX_vc y s.2.2).symm.trans h
            have hxy : ¬ s.2.2 = y := fun e => (of_decide_eq_false hxy) e.symm
            have e3 : (SV.v (.bool (C m)) : SV) = .v (.bool (C (m + 1))) := by rw [hCs, decide_eq_false hxy]; simp
            refine ⟨⟨by omega, by omega⟩, m + 1, [(0, 0), (1, 1), (2, 2)], ?_, ⟨rfl, hml⟩, by dsimp only; omega⟩
            (repeat' (first | exact trivial | refine ⟨?_, ?_⟩ | exact rfl | assumption))
        · have hml : m = (F i k).length := by have := df h; omega
          have hCm : C m = ((atomsOf s.2.2).any namedA && decide (s.2.2 ∉ F i k)) := by rw [hC, hml, List.take_length]
          refine ⟨fun h1 => ?_, fun h1 => ?_⟩
          case refine_2 =>
            have h1 : ¬ s.1 = 1 := df h1
            have hno : ¬ (takesE s = true ∧ s.2.2 ∉ F i k) := fun h => by rw [takesE, decide_eq_false h1] at h; cases h.1
            have e0 : F i (k + 1) = F i k := by rw [hst, addE, if_neg hno]
            have e2 : xRows (F i k) = xRows (F i (k + 1)) := by rw [e0]
            refine ⟨⟨by omega, by omega⟩, k + 1, [(0, 0), (1, 1)], ?_, ⟨hle2.trans hle3, hkl⟩, by dsimp only; omega⟩
            (repeat' (first | exact trivial | refine ⟨?_, ?_⟩ | exact rfl | assumption))
          have h1 : s.1 = 1 := dt h1
          refine ⟨fun h0 => ?_, fun h0 => ?_⟩
          case refine_2 =>
            have h0 : s.2.2.1 = 0 := nf h0
            have hno : ¬ (takesE s = true ∧ s.2.2 ∉ F i k) := fun h => by rw [takesE, decide_eq_true h1, decide_eq_true h0] at h; cases h.1
            have e0 : F i (k + 1) = F i k := by rw [hst, addE, if_neg hno]
            have e2 : xRows (F i k) = xRows (F i (k + 1)) := by rw [e0]
            refine ⟨⟨by omega, by omega⟩, k + 1, [(0, 0), (1, 1)], ?_, ⟨hle2.trans hle3, hkl⟩, by dsimp only; omega⟩
            (repeat' (first | exact trivial | refine ⟨?_, ?_⟩ | exact rfl | assumption))
          have h0 : ¬ s.2.2.1 = 0 := nt h0
          refine ⟨fun hc => ?_, fun hc => ?_⟩
          case refine_2 =>
            have hc : C m = false := hc
            have hno : ¬ (takesE s = true ∧ s.2.2 ∉ F i k) := fun h => by
              have h3 := h.1
              rw [takesE, decide_eq_true h1, decide_eq_false h0] at h3
              have h3 : (atomsOf s.2.2).any namedA = true := by simpa using h3
              rw [hCm, h3, decide_eq_true h.2] at hc
              cases hc
            have e0 : F i (k + 1) = F i k := by rw [hst, addE, if_neg hno]
            have e2 : xRows (F i k) = xRows (F i (k + 1)) := by rw [e0]
            refine ⟨⟨by omega, by omega⟩, k + 1, [(0, 0), (1, 1)], ?_, ⟨hle2.trans hle3, hkl⟩, by dsimp only; omega⟩
            (repeat' (first | exact trivial | refine ⟨?_, ?_⟩ | exact rfl | assumption))
          have hc : C m = true := hc
          rw [hCm, Bool.and_eq_true] at hc
          have hin : s.2.2 ∉ F i k := of_decide_eq_true hc.2
          have htk : takesE s = true := by rw [takesE, decide_eq_true h1, decide_eq_false h0, hc.1]; rfl
          have e0 : F i (k + 1) = F i k ++ [s.2.2] := by rw [hst, addE, if_pos ⟨htk, hin⟩]
          have e2 : xRows (F i k) ++ [exprV s.2.2] = xRows (F i (k + 1)) := by rw [e0, xRows, xRows, List.map_append]; rfl
          refine ⟨⟨by show ((xRows (F i k)).length + 1) * 72 ≤ 140737488355328; omega, by show (xRows (F i k)).length + 1 ≤ 9223372036854775807; omega⟩, ?_⟩
          refine ⟨⟨by omega, by omega⟩, k + 1, [(0, 0), (1, 4)], ?_, ⟨hle2.trans hle3, hkl⟩, by dsimp only; omega⟩
          (repeat' (first | exact trivial | refine ⟨?_, ?_⟩ | exact rfl | assumption))
    · have hil : k = b.2.1.length := by have := df h; omega
      subst hil
      have hg := hF.gs i b hbb
      have e2 : xRows (F i b.2.1.length) = xRows (G (i + 1)) := by rw [hg]
      refine ⟨⟨by omega, by omega⟩, i + 1, [(0, 0), (1, 1)], ?_, ⟨hle1.trans hle2, hlt⟩, by dsimp only; omega⟩
      (repeat' (first | exact trivial | refine ⟨?_, ?_⟩ | exact rfl | assumption))
  · have hil : i = p.length := by have := df h; omega
    subst hil
    rw [hF.ge]
    intro v H3 hle3 hv3
    have hR := hF.R p.length 0
    rw [hF.f0, hF.ge] at hR
    refine of_row_k (α := Expr) hv3 (rc_xRows hR) fun d1 d2 d3 ev hr => ?_
    subst ev
    exact hK _ _ _ _ (hle1.trans hle3.le) hr
end Go.Proofs
end
section
namespace Go.Proofs
open Go.Sy
set_option maxRecDepth 20000
set_option maxHeartbeats 4000000
/-! What is known behind a block. -/
def killE (s : Stmt) (x : Expr) : Bool := !decide (s.2.1.l = []) && asksE x s.2.1.l
def setsE (s : Stmt) (x : Expr) : Bool := decide (s.1 = 1) && decide (s.2.2 = x)
def kn1 (x : Expr) (k : Bool) (s : Stmt) : Bool := if killE s x then false else if setsE s x then true else k
def knB (x : Expr) (l : List Stmt) : Bool := l.foldl (kn1 x) false
def losB (x : Expr) (l : List Stmt) : Bool := l.any fun s => killE s x
open Classical in
noncomputable def mapF (f : Nat → Bool) : Lit → Int := fun kl => if ∃ i : Nat, kl = .int .i64 (i : Int) ∧ f i = true then 1 else 0
theorem mapF_at (f : Nat → Bool) (i : Nat) : mapF f (.int .i64 (i : Int)) = if f i = true then 1 else 0 := by
  unfold mapF
  by_cases h : f i = true
  · rw [if_pos ⟨i, rfl, h⟩, if_pos h]
  · rw [if_neg (fun ⟨j, e, hj⟩ => h (by
      have : (i : Int) = (j : Int) := by injection e
      have : i = j := by omega
      rw [this]; exact hj)), if_neg h]
theorem mapF_nil : (fun _ => 0) = mapF fun _ => false := by
  funext kl
  unfold mapF
  rw [if_neg (fun ⟨_, _, h⟩ => by cases h)]
theorem mapF_upd {f g : Nat → Bool} {i : Nat} {b : Bool} (hg : ∀ j, g j = if j = i then b else f j) : updL (mapF f) (.int .i64 (i : Int)) (if b = true then 1 else 0) = mapF g := by
  funext kl
  unfold updL mapF
  by_cases h : kl = .int .i64 (i : Int)
  · rw [if_pos h]
    by_cases hb : b = true
    · rw [if_pos hb, if_pos ⟨i, h, by rw [hg, if_pos rfl]; exact hb⟩]
    · rw [if_neg hb, if_neg]
      rintro ⟨j, e, hj⟩
      have : (i : Int) = (j : Int) := by rw [h] at e; injection e
      have : j = i := by omega
      rw [hg, if_pos this] at hj
      exact hb hj
  · rw [if_neg h]
    have e : (∃ j : Nat, kl = .int .i64 (j : Int) ∧ f j = true) ↔ ∃ j : Nat, kl = .int .i64 (j : Int) ∧ g j = true := by
      constructor
      · rintro ⟨j, e, hj⟩
        exact ⟨j, e, by rw [hg, if_neg (fun h2 => h (by rw [e, h2]))]; exact hj⟩
      · rintro ⟨j, e, hj⟩
        rw [hg, if_neg (fun h2 => h (by rw [e, h2]))] at hj
        exact ⟨j, e, hj⟩
    by_cases h2 : ∃ j : Nat, kl = .int .i64 (j : Int) ∧ f j = true
    · rw [if_pos h2, if_pos (e.1 h2)]
    · rw [if_neg h2, if_neg (fun h3 => h2 (e.2 h3))]
noncomputable def mP (n : Nat) (f : Nat → Bool) : Obj → Prop := MapI Tryz.prog 3 3 n (mapF f)
theorem keyOfI {i : Nat} (h : i ≤ 1000000) : keyOf Tryz.prog 3 (.int .i64 (i : Int)) = some (.int .i64 (i : Int)) :=
  Maps.keyOf_int_mk (tt_ok 3 _ _ rfl).2 (litI ⟨by omega, by omega⟩)
/-- What stands in the maps: so many statements done, and of the next one so many expressions. -/
def knM (X : List Expr) (l : List Stmt) (k m : Nat) (i : Nat) : Bool := match X[i]? with
  | some x => knB x (l.take (if i < m then k + 1 else k))
  | none => false
def losM (X : List Expr) (l : List Stmt) (k m : Nat) (i : Nat) : Bool := match X[i]? with
  | some x => losB x (l.take (if i < m then k + 1 else k))
  | none => false
theorem knB_take {x : Expr} {l : List Stmt} {k : Nat} {s : Stmt} (h : l[k]? = some s) : knB x (l.take (k + 1)) = kn1 x (knB x (l.take k)) s := by
  rw [knB, List.take_add_one, h, List.foldl_append]; rfl
theorem losB_take {x : Expr} {l : List Stmt} {k : Nat} {s : Stmt} (h : l[k]? = some s) : losB x (l.take (k + 1)) = (losB x (l.take k) || killE s x) := any_take h
structure FamM (X : List Expr) (l : List Stmt) (K L : Nat → Nat → Nat → Bool) : Prop where
  k0 : K 0 0 = fun _ => false
  l0 : L 0 0 = fun _ => false
  kn : ∀ k, K k X.length = K (k + 1) 0
  ln : ∀ k, L k X.length = L (k + 1) 0
  ks : ∀ k m s x, l[k]? = some s → X[m]? = some x → ∀ i, K k (m + 1) i = if i = m then kn1 x (K k m m) s else K k m i
  ls : ∀ k m s x, l[k]? = some s → X[m]? = some x → ∀ i, L k (m + 1) i = if i = m then (L k m m || killE s x) else L k m i
  ke : ∀ i x, X[i]? = some x → K l.length 0 i = knB x l
  le : ∀ i x, X[i]? = some x → L l.length 0 i = losB x l
theorem famM_k {P : Prop} (X : List Expr) (l : List Stmt) (k : ∀ K L, FamM X l K L → P) : P := by
  refine k (knM X l) (losM X l) ⟨?_, ?_, fun k => ?_, fun k => ?_, fun k m s x hs hx i => ?_, fun k m s x hs hx i => ?_, fun i x hx => ?_, fun i x hx => ?_⟩
  · funext i
    unfold knM
    split
    · rw [if_neg (by omega)]; rfl
    · rfl
  · funext i
    unfold losM
    split
    · rw [if_neg (by omega)]; rfl
    · rfl
  · funext i
    unfold knM
    split
    · rename_i x hx
      rw [if_pos (List.getElem?_eq_some_iff.1 hx).1, if_neg (by omega)]
    · rfl
  · funext i
    unfold losM
    split
    · rename_i x hx
      rw [if_pos (List.getElem?_eq_some_iff.1 hx).1, if_neg (by omega)]
    · rfl
  · unfold knM
    by_cases h : i = m
    · subst h
      rw [if_pos rfl, hx]
      dsimp only
      rw [if_pos (by omega), if_neg (by omega), knB_take hs]
    · rw [if_neg h]
      have e : (i < m + 1) = (i < m) := by rw [eq_iff_iff]; omega
      simp only [e]
  · unfold losM
    by_cases h : i = m
    · subst h
      rw [if_pos rfl, hx]
      dsimp only
      rw [if_pos (by omega), if_neg (by omega), losB_take hs]
    · rw [if_neg h]
      have e : (i < m + 1) = (i < m) := by rw [eq_iff_iff]; omega
      simp only [e]
  · unfold knM
    rw [hx]
    dsimp only
    rw [if_neg (by omega), List.take_length]
  · unfold losM
    rw [hx]
    dsimp only
    rw [if_neg (by omega), List.take_length]
/-- What a block does. -/
def agen (X : List Expr) (l : List Stmt) (i : Nat) : List Int := ((List.range i).filter fun k => knB (X[k]?.getD (0, za, za)) l).map fun k : Nat => (k : Int)
def akil (X : List Expr) (l : List Stmt) (i : Nat) : List Int := ((List.range i).filter fun k => !knB (X[k]?.getD (0, za, za)) l && losB (X[k]?.getD (0, za, za)) l).map fun k : Nat => (k : Int)
def atrF (X : List Expr) (b : Block) : Wd × Wd := (ofB X.length (agen X b.2.1 X.length), ofB X.length (akil X b.2.1 X.length))
theorem sel_succ (f : Nat → Bool) (i : Nat) : ((List.range (i + 1)).filter f).map (fun k : Nat => (k : Int)) = ((List.range i).filter f).map (fun k : Nat => (k : Int)) ++ (if f i = true then [(i : Int)] else []) := by
  rw [List.range_succ, List.filter_append, List.map_append]
  by_cases h : f i = true
  · simp [h]
  · simp [h]
theorem sel_len (f : Nat → Bool) (i : Nat) : (((List.range i).filter f).map (fun k : Nat => (k : Int))).length ≤ i := by
  rw [List.length_map]
  exact Nat.le_trans (List.length_filter_le _ _) (by rw [List.length_range]; exact Nat.le_refl _)
theorem sel_in {f : Nat → Bool} {i : Nat} (hi : i ≤ 1000000) : ∀ x ∈ ((List.range i).filter f).map (fun k : Nat => (k : Int)), inI x := fun x hx => by
  obtain ⟨k, hk, rfl⟩ := List.mem_map.1 hx
  have := List.mem_range.1 (List.mem_filter.1 hk).1
  exact ⟨by omega, by omega⟩
structure FamS (X : List Expr) (l : List Stmt) (A B : Nat → List Int) : Prop where
  a0 : A 0 = []
  b0 : B 0 = []
  a1 : ∀ i x, X[i]? = some x → A (i + 1) = A i ++ (if knB x l = true then [(i : Int)] else [])
  b1 : ∀ i x, X[i]? = some x → B (i + 1) = B i ++ (if (!knB x l && losB x l) = true then [(i : Int)] else [])
  al : ∀ i, (A i).length ≤ i
  bl : ∀ i, (B i).length ≤ i
  ai : ∀ i, i ≤ 1000000 → ∀ x ∈ A i, inI x
  bi : ∀ i, i ≤ 1000000 → ∀ x ∈ B i, inI x
  ae : A X.length = agen X l X.length
  be : B X.length = akil X l X.length
theorem famS_k {P : Prop} (X : List Expr) (l : List Stmt) (k : ∀ A B, FamS X l A B → P) : P := by
  refine k (agen X l) (akil X l) ⟨rfl, rfl, fun i x hx => ?_, fun i x hx => ?_, sel_len _, sel_len _, fun i hi => sel_in hi, fun i hi => sel_in hi, rfl, rfl⟩
  · have := sel_succ (fun k => knB (X[k]?.getD (0, za, za)) l) i
    rw [hx] at this
    exact this
  · have := sel_succ (fun k => !knB (X[k]?.getD (0, za, za)) l && losB (X[k]?.getD (0, za, za)) l) i
    rw [hx] at this
    exact this
theorem atrF_ok (X : List Expr) (b : Block) : okB X.length (atrF X b).1 ∧ okB X.length (atrF X b).2 := ⟨ofB_ok _ _, ofB_ok _ _⟩
end Go.Proofs
end
section
namespace Go.Proofs
open Go.Sy
set_option maxRecDepth 20000
set_option maxHeartbeats 4000000
/-! avail.trans. -/
theorem expr_k {P : Prop} {H : Hp} {a : Option Addr} {n c : Nat} {xs : List Expr} (h : RL H a n c xs) {i : Nat} {x : Expr} (hi : xs[i]? = some x) (k : ∀ ad, a = some ad → ElemH H ad (i : Int) 7 (exprV x) → exprR x → P) : P :=
  elem_k h hi fun ad cs h1 h2 h3 => by
    obtain ⟨rfl, h4⟩ := expr_open h3
    exact k ad h1 h2 h4
theorem mP_nil : MapI Tryz.prog 3 3 0 (fun _ => 0) = mP 0 fun _ => false := by rw [mP, mapF_nil]
theorem mP_upd1 {n : Nat} {f g : Nat → Bool} {i : Nat} (hg : ∀ j, g j = if j = i then true else f j) : MapI Tryz.prog 3 3 (n + 1) (updL (mapF f) (.int .i64 (i : Int)) 1) = mP (n + 1) g := by
  rw [mP, ← mapF_upd (b := true) hg, if_pos rfl]
theorem mP_upd0 {n : Nat} {f g : Nat → Bool} {i : Nat} (hg : ∀ j, g j = if j = i then false else f j) : MapI Tryz.prog 3 3 (n + 1) (updL (mapF f) (.int .i64 (i : Int)) 0) = mP (n + 1) g := by
  rw [mP, ← mapF_upd (b := false) hg, if_neg (by decide)]
theorem mP_upd10 {n : Nat} {f g : Nat → Bool} {i : Nat} (hg : ∀ j, g j = if j = i then false else f j) : MapI Tryz.prog 3 3 (n + 1 + 1) (updL (updL (mapF f) (.int .i64 (i : Int)) 1) (.int .i64 (i : Int)) 0) = mP (n + 1 + 1) g := by
  have h1 := mapF_upd (f := f) (g := fun j => if j = i then true else f j) (i := i) (b := true) (fun j => rfl)
  rw [if_pos rfl] at h1
  rw [h1]
  refine mP_upd0 (f := fun j => if j = i then true else f j) fun j => ?_
  rw [hg]
  by_cases e : j = i
  · rw [if_pos e, if_pos e]
  · rw [if_neg e, if_neg e, if_neg e]
theorem atrans_spec {X : List Expr} (hX : X.length ≤ 1024) {b : Block} (hb : b.2.1.length ≤ 100000) {a la : Option Addr} {n c ln lc : Nat} {H : Hp} {K : Value → Hp → Prop} (ha : RL H a n c X) (hl : RL H la ln lc b.2.1) (hK : ∀ z H', Le H H' → Bt.TrR H' (atrF X b) z → K (Bt.trA z) H') :
    Does Tryz.prog 56 [.slice a n c, blkA (.slice la ln lc) b] H K := by
  have hn := ha.n_eq
  have hln := hl.n_eq
  refine famM_k X b.2.1 fun Kn Ls hM => ?_
  refine spec_of cx_ok cx_mix rfl Tryz.func56 Tryz.call56 Tryz.ntmps56 Tryz.results56 rfl rfl ?_
  refine ⟨mapOK3, ?_⟩
  refine ⟨mapOK3, ?_⟩
  refine ⟨Nat × Nat × Nat, fun q => ⟨[(0, .v (.slice a n c)), (4, .ptr 1 0), (5, .mp 2), (6, .mp 3), (17, .v (.slice la ln lc)), (18, .v (.int .i64 ln)), (19, .v (.int .i64 q.1))], [(1, .cells 110 (vL [.slice none 0 0, .slice none 0 0, .slice none 0 0])), (2, .obj (mP q.2.1 (Kn q.1 0))), (3, .obj (mP q.2.2 (Ls q.1 0)))], 4⟩,
    fun q H' => Le H H' ∧ q.1 ≤ b.2.1.length ∧ q.2.1 ≤ 2100 * q.1 ∧ q.2.2 ≤ 1100 * q.1, fun q => b.2.1.length - q.1, ⟨(0, 0, 0), [(1, 1), (2, 2), (3, 3)], ?_, Le.refl H, Nat.zero_le _, Nat.zero_le _, Nat.zero_le _⟩, ?_⟩
  · have e1 : MapI Tryz.prog 3 3 0 (fun _ => 0) = mP 0 (Kn 0 0) := by rw [hM.k0]; exact mP_nil
    have e2 : MapI Tryz.prog 3 3 0 (fun _ => 0) = mP 0 (Ls 0 0) := by rw [hM.l0]; exact mP_nil
    (repeat' (first | exact trivial | refine ⟨?_, ?_⟩ | exact rfl | assumption))
  rintro ⟨k, u, v⟩ H1 _ ⟨hle1, hk, hu, hv⟩
  dsimp only at hk hu hv
  refine ⟨fun h => ?_, fun h => ?_⟩
  · have hlt : k < b.2.1.length := by have := dt h; dsimp only at this; omega
    refine name_k b.2.1[k] fun s hse => ?_
    have hss : b.2.1[k]? = some s := by rw [hse]; exact List.getElem?_eq_getElem hlt
    refine stmt_k (hl.up hle1) hss fun ad q1 hh hR => ?_
    refine ⟨ad, ⟨by dsimp only; omega, by dsimp only; omega, q1⟩, ?_⟩
    refine ⟨_, hh, ?_⟩
    refine ⟨Nat × Nat × Nat, fun q => ⟨[(0, .v (.slice a n c)), (4, .ptr 1 0), (5, .mp 2), (6, .mp 3), (8, .ptr 4 0), (17, .v (.slice la ln lc)), (18, .v (.int .i64 ln)), (19, .v (.int .i64 k)), (23, .v (.slice a n c)), (24, .v (.int .i64 n)), (25, .v (.int .i64 q.1))], [(1, .cells 110 (vL [.slice none 0 0, .slice none 0 0, .slice none 0 0])), (2, .obj (mP q.2.1 (Kn k q.1))), (3, .obj (mP q.2.2 (Ls k q.1))), (4, .cells 84 (vL (stmtV s)))], 5⟩,
      fun q H' => Le H1 H' ∧ q.1 ≤ X.length ∧ q.2.1 ≤ u + 2 * q.1 ∧ q.2.2 ≤ v + q.1, fun q => X.length - q.1, ⟨(0, u, v), [(1, 1), (2, 2), (3, 3), (4, 4)], ?_, Le.refl H1, Nat.zero_le _, Nat.le_refl _, Nat.le_refl _⟩, ?_⟩
    · (repeat' (first | exact trivial | refine ⟨?_, ?_⟩ | exact rfl | assumption))
    rintro ⟨m, u2, v2⟩ H2 _ ⟨hle2, hm, hu2, hv2⟩
    dsimp only at hm hu2 hv2
    refine ⟨fun h => ?_, fun h => ?_⟩
    · have hml : m < X.length := by have := dt h; dsimp only at this; omega
      refine name_k X[m] fun x hxe => ?_
      have hxx : X[m]? = some x := by rw [hxe]; exact List.getElem?_eq_getElem hml
      have hks := hM.ks k m s x hss hxx
      have hls := hM.ls k m s x hss hxx
      refine expr_k (ha.up (hle1.trans hle2)) hxx fun ad2 q2 hh2 hRx => ?_
      refine ⟨ad2, ⟨by dsimp only; omega, by dsimp only; omega, q2⟩, ?_⟩
      refine ⟨_, hh2, ?_⟩
      refine ⟨fun h1 => ?_, fun h1 => ?_⟩
      · have h1 : s.1 = 1 := dt h1
        refine ⟨fun hx => ?_, fun hx => ?_⟩
        · have hx : s.2.2 = x := of_decide_eq_true ((eqX_vc s.2.2 x).symm.trans hx)
          have hset : setsE s x = true := by rw [setsE, decide_eq_true h1, decide_eq_true hx]; rfl
          refine ⟨_, _, .int .i64 (m : Int), rfl, keyOfI (by omega), ⟨by first | omega | (dsimp only; omega), by decide, by decide⟩, ?_⟩
          refine ahas_spec hRx fun _ _ => ?_
          refine ⟨fun hkill => ?_, fun hkill => ?_⟩
          · have hkill : killE s x = true := hkill
            have e2 : MapI Tryz.prog 3 3 (v2 + 1) (updL (mapF (Ls k m)) (.int .i64 (m : Int)) 1) = mP (v2 + 1) (Ls k (m + 1)) := mP_upd1 fun j => by rw [hls, hkill, Bool.or_true]
            have e1 : MapI Tryz.prog 3 3 (u2 + 1 + 1) (updL (updL (mapF (Kn k m)) (.int .i64 (m : Int)) 1) (.int .i64 (m : Int)) 0) = mP (u2 + 1 + 1) (Kn k (m + 1)) := mP_upd10 fun j => by rw [hks, show kn1 x (Kn k m m) s = false by rw [kn1, if_pos hkill]]
            refine ⟨_, _, .int .i64 (m : Int), rfl, keyOfI (by omega), ⟨by first | omega | (dsimp only; omega), by decide, by decide⟩, ?_⟩
            refine ⟨_, _, .int .i64 (m : Int), rfl, keyOfI (by omega), ⟨by first | omega | (dsimp only; omega), by decide, by decide⟩, ?_⟩
            refine ⟨⟨by dsimp only; omega, by dsimp only; omega⟩, (m + 1, u2 + 1 + 1, v2 + 1), [(1, 1), (2, 2), (3, 3), (4, 4)], ?_, ⟨hle2, hml, by dsimp only; omega, by dsimp only; omega⟩, by dsimp only; omega⟩
            (repeat' (first | exact trivial | refine ⟨?_, ?_⟩ | exact rfl | assumption))
          · have hkill : killE s x = false := hkill
            have hls2 : Ls k (m + 1) = Ls k m := funext fun j => by
              rw [hls, hkill, Bool.or_false]
              split
              · rename_i e; rw [e]
              · rfl
            have e2 : mP v2 (Ls k m) = mP v2 (Ls k (m + 1)) := by rw [hls2]
            have e1 : MapI Tryz.prog 3 3 (u2 + 1) (updL (mapF (Kn k m)) (.int .i64 (m : Int)) 1) = mP (u2 + 1) (Kn k (m + 1)) := mP_upd1 fun j => by rw [hks, show kn1 x (Kn k m m) s = true by rw [kn1, if_neg (by rw [hkill]; decide), if_pos hset]]
            refine ⟨⟨by dsimp only; omega, by dsimp only; omega⟩, (m + 1, u2 + 1, v2), [(1, 1), (2, 2), (3, 3), (4, 4)], ?_, ⟨hle2, hml, by dsimp only; omega, by dsimp only; omega⟩, by dsimp only; omega⟩
            (repeat' (first | exact trivial | refine ⟨?_, ?_⟩ | exact rfl | assumption))
        · have hx : ¬ s.2.2 = x := of_decide_eq_false ((eqX_vc s.2.2 x).symm.trans hx)
          have hset : setsE s x = false := by rw [setsE, decide_eq_false hx, Bool.and_false]
          refine ahas_spec hRx fun _ _ => ?_
          refine ⟨fun hkill => ?_, fun hkill => ?_⟩
          · have hkill : killE s x = true := hkill
            have e2 : MapI Tryz.prog 3 3 (v2 + 1) (updL (mapF (Ls k m)) (.int .i64 (m : Int)) 1) = mP (v2 + 1) (Ls k (m + 1)) := mP_upd1 fun j => by rw [hls, hkill, Bool.or_true]
            have e1 : MapI Tryz.prog 3 3 (u2 + 1) (updL (mapF (Kn k m)) (.int .i64 (m : Int)) 0) = mP (u2 + 1) (Kn k (m + 1)) := mP_upd0 fun j => by rw [hks, show kn1 x (Kn k m m) s = false by rw [kn1, if_pos hkill]]
            refine ⟨_, _, .int .i64 (m : Int), rfl, keyOfI (by omega), ⟨by first | omega | (dsimp only; omega), by decide, by decide⟩, ?_⟩
            refine ⟨_, _, .int .i64 (m : Int), rfl, keyOfI (by omega), ⟨by first | omega | (dsimp only; omega), by decide, by decide⟩, ?_⟩
            refine ⟨⟨by dsimp only; omega, by dsimp only; omega⟩, (m + 1, u2 + 1, v2 + 1), [(1, 1), (2, 2), (3, 3), (4, 4)], ?_, ⟨hle2, hml, by dsimp only; omega, by dsimp only; omega⟩, by dsimp only; omega⟩
            (repeat' (first | exact trivial | refine ⟨?_, ?_⟩ | exact rfl | assumption))
          · have hkill : killE s x = false := hkill
            have hls2 : Ls k (m + 1) = Ls k m := funext fun j => by
              rw [hls, hkill, Bool.or_false]
              split
              · rename_i e; rw [e]
              · rfl
            have e2 : mP v2 (Ls k m) = mP v2 (Ls k (m + 1)) := by rw [hls2]
            have hks2 : Kn k (m + 1) = Kn k m := funext fun j => by
              rw [hks, show kn1 x (Kn k m m) s = Kn k m m by rw [kn1, if_neg (by rw [hkill]; decide), if_neg (by rw [hset]; decide)]]
              split
              · rename_i e; rw [e]
              · rfl
            have e1 : mP u2 (Kn k m) = mP u2 (Kn k (m + 1)) := by rw [hks2]
            refine ⟨⟨by dsimp only; omega, by dsimp only; omega⟩, (m + 1, u2, v2), [(1, 1), (2, 2), (3, 3), (4, 4)], ?_, ⟨hle2, hml, by dsimp only; omega, by dsimp only; omega⟩, by dsimp only; omega⟩
            (repeat' (first | exact trivial | refine ⟨?_, ?_⟩ | exact rfl | assumption))
      · have h1 : ¬ s.1 = 1 := df h1
        have hset : setsE s x = false := by rw [setsE, decide_eq_false h1, Bool.false_and]
        refine ahas_spec hRx fun _ _ => ?_
        refine ⟨fun hkill => ?_, fun hkill => ?_⟩
        · have hkill : killE s x = true := hkill
          have e2 : MapI Tryz.prog 3 3 (v2 + 1) (updL (mapF (Ls k m)) (.int .i64 (m : Int)) 1) = mP (v2 + 1) (Ls k (m + 1)) := mP_upd1 fun j => by rw [hls, hkill, Bool.or_true]
          have e1 : MapI Tryz.prog 3 3 (u2 + 1) (updL (mapF (Kn k m)) (.int .i64 (m : Int)) 0) = mP (u2 + 1) (Kn k (m + 1)) := mP_upd0 fun j => by rw [hks, show kn1 x (Kn k m m) s = false by rw [kn1, if_pos hkill]]
          refine ⟨_, _, .int .i64 (m : Int), rfl, keyOfI (by omega), ⟨by first | omega | (dsimp only; omega), by decide, by decide⟩, ?_⟩
          refine ⟨_, _, .int .i64 (m : Int), rfl, keyOfI (by omega), ⟨by first | omega | (dsimp only; omega), by decide, by decide⟩, ?_⟩
          refine ⟨⟨by dsimp only; omega, by dsimp only; omega⟩, (m + 1, u2 + 1, v2 + 1), [(1, 1), (2, 2), (3, 3), (4, 4)], ?_, ⟨hle2, hml, by dsimp only; omega, by dsimp only; omega⟩, by dsimp only; omega⟩
          (repeat' (first | exact trivial | refine ⟨?_, ?_⟩ | exact rfl | assumption))
        · have hkill : killE s x = false := hkill
          have hls2 : Ls k (m + 1) = Ls k m := funext fun j => by
            rw [hls, hkill, Bool.or_false]
            split
            · rename_i e; rw [e]
            · rfl
          have e2 : mP v2 (Ls k m) = mP v2 (Ls k (m + 1)) := by rw [hls2]
          have hks2 : Kn k (m + 1) = Kn k m := funext fun j => by
            rw [hks, show kn1 x (Kn k m m) s = Kn k m m by rw [kn1, if_neg (by rw [hkill]; decide), if_neg (by rw [hset]; decide)]]
            split
            · rename_i e; rw [e]
            · rfl
          have e1 : mP u2 (Kn k m) = mP u2 (Kn k (m + 1)) := by rw [hks2]
          refine ⟨⟨by dsimp only; omega, by dsimp only; omega⟩, (m + 1, u2, v2), [(1, 1), (2, 2), (3, 3), (4, 4)], ?_, ⟨hle2, hml, by dsimp only; omega, by dsimp only; omega⟩, by dsimp only; omega⟩
          (repeat' (first | exact trivial | refine ⟨?_, ?_⟩ | exact rfl | assumption))
    · have hml : m = X.length := by have := df h; dsimp only at this; omega
      subst hml
      have e1 : mP u2 (Kn k X.length) = mP u2 (Kn (k + 1) 0) := by rw [hM.kn]
      have e2 : mP v2 (Ls k X.length) = mP v2 (Ls (k + 1) 0) := by rw [hM.ln]
      refine ⟨⟨by first | omega | (dsimp only; omega), by first | omega | (dsimp only; omega)⟩, (k + 1, u2, v2), [(1, 1), (2, 2), (3, 3)], ?_, ⟨hle1.trans hle2, hlt, by dsimp only; omega, by dsimp only; omega⟩, by dsimp only; omega⟩
      (repeat' (first | exact trivial | refine ⟨?_, ?_⟩ | exact rfl | assumption))
  · have hkl : k = b.2.1.length := by have := df h; dsimp only at this; omega
    refine famS_k X b.2.1 fun A B hS => ?_
    have hKe := hM.ke
    have hLe := hM.le
    rw [← hkl] at hKe hLe
    refine ⟨Nat, fun i => ⟨[(0, .v (.slice a n c)), (4, .ptr 1 0), (5, .mp 2), (6, .mp 3), (11, .own 4), (12, .own 5), (51, .v (.slice a n c)), (52, .v (.int .i64 n)), (53, .v (.int .i64 i))], [(1, .cells 110 (vL [.slice none 0 0, .slice none 0 0, .slice none 0 0])), (2, .obj (mP u (Kn k 0))), (3, .obj (mP v (Ls k 0))), (4, .row 3 1 (iRows (A i))), (5, .row 3 1 (iRows (B i)))], 6⟩,
      fun i H' => Le H1 H' ∧ i ≤ X.length, fun i => X.length - i, ⟨0, [(1, 1), (2, 2), (3, 3)], ?_, Le.refl H1, Nat.zero_le _⟩, ?_⟩
    · have e1 : iRows (A 0) = [] := by rw [hS.a0]; rfl
      have e2 : iRows (B 0) = [] := by rw [hS.b0]; rfl
      (repeat' (first | exact trivial | refine ⟨?_, ?_⟩ | exact rfl | assumption))
    rintro i H2 _ ⟨hle2, hi⟩
    have hal := hS.al i
    have hbl := hS.bl i
    have hail : (iRows (A i)).length = (A i).length := List.length_map _
    have hbil : (iRows (B i)).length = (B i).length := List.length_map _
    refine ⟨fun h => ?_, fun h => ?_⟩
    · have hil : i < X.length := by have := dt h; omega
      refine name_k X[i] fun x hxe => ?_
      have hxx : X[i]? = some x := by rw [hxe]; exact List.getElem?_eq_getElem hil
      have hA1 := hS.a1 i x hxx
      have hB1 := hS.b1 i x hxx
      have hk1 := mapF_at (Kn k 0) i
      rw [hKe i x hxx] at hk1
      have hl1 := mapF_at (Ls k 0) i
      rw [hLe i x hxx] at hl1
      refine ⟨_, _, .int .i64 (i : Int), rfl, keyOfI (by omega), ?_⟩
      refine ⟨fun h1 => ?_, fun h1 => ?_⟩
      · have h1 := dt h1
        rw [hk1] at h1
        have h1 : knB x b.2.1 = true := Decidable.byContradiction fun h2 => by rw [if_neg h2] at h1; omega
        have e1 : iRows (A i) ++ [[.int .i64 (i : Nat)]] = iRows (A (i + 1)) := by rw [hA1, if_pos h1, iRows, iRows, List.map_append]; rfl
        have e2 : iRows (B i) = iRows (B (i + 1)) := by rw [hB1, h1, if_neg (by simp), List.append_nil]
        refine ⟨⟨by show (_ + 1) * 8 ≤ 140737488355328; omega, by show _ + 1 ≤ 9223372036854775807; omega⟩, ?_⟩
        refine ⟨⟨by omega, by omega⟩, i + 1, [(1, 1), (2, 2), (3, 3), (4, 7), (5, 5)], ?_, ⟨hle2, hil⟩, by dsimp only; omega⟩
        (repeat' (first | exact trivial | refine ⟨?_, ?_⟩ | exact rfl | assumption))
      · have h1 := df h1
        rw [hk1] at h1
        have h1 : knB x b.2.1 = false := by
          cases hc : knB x b.2.1 with
          | false => rfl
          | true => rw [hc, if_pos rfl] at h1; exact absurd rfl h1
        have e1 : iRows (A i) = iRows (A (i + 1)) := by rw [hA1, h1, if_neg (by decide), List.append_nil]
        refine ⟨_, _, .int .i64 (i : Int), rfl, keyOfI (by omega), ?_⟩
        refine ⟨fun h2 => ?_, fun h2 => ?_⟩
        · have h2 := dt h2
          rw [hl1] at h2
          have h2 : losB x b.2.1 = true := Decidable.byContradiction fun h3 => by rw [if_neg h3] at h2; omega
          have e2 : iRows (B i) ++ [[.int .i64 (i : Nat)]] = iRows (B (i + 1)) := by rw [hB1, h1, h2, if_pos (by decide), iRows, iRows, List.map_append]; rfl
          refine ⟨⟨by show (_ + 1) * 8 ≤ 140737488355328; omega, by show _ + 1 ≤ 9223372036854775807; omega⟩, ?_⟩
          refine ⟨⟨by omega, by omega⟩, i + 1, [(1, 1), (2, 2), (3, 3), (4, 4), (5, 7)], ?_, ⟨hle2, hil⟩, by dsimp only; omega⟩
          (repeat' (first | exact trivial | refine ⟨?_, ?_⟩ | exact rfl | assumption))
        · have h2 := df h2
          rw [hl1] at h2
          have h2 : losB x b.2.1 = false := by
            cases hc : losB x b.2.1 with
            | false => rfl
            | true => rw [hc, if_pos rfl] at h2; exact absurd rfl h2
          have e2 : iRows (B i) = iRows (B (i + 1)) := by rw [hB1, h1, h2, if_neg (by decide), List.append_nil]
          refine ⟨⟨by omega, by omega⟩, i + 1, [(1, 1), (2, 2), (3, 3), (4, 4), (5, 5)], ?_, ⟨hle2, hil⟩, by dsimp only; omega⟩
          (repeat' (first | exact trivial | refine ⟨?_, ?_⟩ | exact rfl | assumption))
    · have hil : i = X.length := by have := df h; omega
      subst hil
      rw [hS.ae, hS.be]
      have hAi := hS.ai X.length (by omega)
      have hBi := hS.bi X.length (by omega)
      rw [hS.ae] at hAi
      rw [hS.be] at hBi
      intro y1 H3 hle3 hy1
      refine of_row_k (α := Int) hy1 (rc_iRows hAi) fun d1 d2 d3 ev1 hr1 => ?_
      subst ev1
      have hnn : (n : Int) = ((X.length : Nat) : Int) := by omega
      rw [hnn]
      refine wof_spec hX hr1 fun g1 g2 g3 H4 hle4 hg => ?_
      intro y2 H5 hle5 hy2
      refine of_row_k (α := Int) hy2 (rc_iRows hBi) fun f1 f2 f3 ev2 hr2 => ?_
      subst ev2
      rw [hnn]
      refine wof_spec hX hr2 fun k1 k2 k3 H6 hle6 hk6 => ?_
      exact hK ⟨g1, g2, g3, k1, k2, k3⟩ H6 ((((hle1.trans hle2).trans hle3.le).trans hle4).trans (hle5.le.trans hle6)) ⟨hg.up (hle5.le.trans hle6), hk6⟩
end Go.Proofs
end
section
namespace Go.Proofs
open Go.Sy
set_option maxRecDepth 20000
set_option maxHeartbeats 4000000
/-! The equations of avail. -/
theorem exprsK_len : ∀ (p : Prog) (o : List Expr), (p.foldl (fun o b => exprsB o b.2.1) o).length ≤ o.length + stmtsN p
  | [], o => by simp [stmtsN]
  | b :: r, o => by
    have h1 := exprsK_len r (exprsB o b.2.1)
    have h2 := exprsB_len b.2.1 o
    have e : stmtsN (b :: r) = b.2.1.length + stmtsN r := by simp [stmtsN]
    rw [List.foldl_cons, e]
    omega
theorem stmts512 {p : Prog} (h : checkE p = 0) : stmtsN p ≤ 512 := by
  unfold checkE at h
  split at h
  · cases h
  · omega
theorem exprs512 {p : Prog} (h : checkE p = 0) : (exprsOf p).length ≤ 512 := by
  have h1 := exprsK_len p []
  have h2 := stmts512 h
  rw [List.length_nil] at h1
  rw [exprsOf]
  omega
def asysOf (p : Prog) : Bt.SyB := ⟨2, (exprsOf p).length, p.length, gSort (edgesOf p), [0], nilB (exprsOf p).length, p.map (atrF (exprsOf p))⟩
theorem asysT_take {p : Prog} {i : Nat} {b : Block} (h : p[i]? = some b) : ((asysOf p).T.map Bt.TrB.mk).take (i + 1) = ((asysOf p).T.map Bt.TrB.mk).take i ++ [Bt.TrB.mk (atrF (exprsOf p) b)] := by
  have e : ((asysOf p).T.map Bt.TrB.mk)[i]? = some (Bt.TrB.mk (atrF (exprsOf p) b)) := by
    show ((p.map (atrF (exprsOf p))).map Bt.TrB.mk)[i]? = _
    rw [List.getElem?_map, List.getElem?_map, h]; rfl
  rw [List.take_add_one, e, Option.toList_some]
theorem asysOf_ok {p : Prog} (h : checkE p = 0) : Bt.OkS (asysOf p) := by
  have hf := check_facts h
  have hx := exprs512 h
  refine ⟨.inr rfl, ?_, ?_, ?_, ?_, ?_, ?_, ?_, ?_⟩
  · show (exprsOf p).length ≤ 1024
    omega
  · show 1 ≤ p.length ∧ p.length ≤ 256
    omega
  · show (gSort (edgesOf p)).length ≤ 1024
    have h1 := gSort_len (edgesOf p)
    have h2 := eAll_len p p 0
    rw [edgesOf] at h1 ⊢
    omega
  · intro e he
    have he' : e ∈ edgesOf p := (gSort_mem _ _).1 he
    have h1 := eAll_lt p 0 e he'
    show (0 ≤ e.1 ∧ e.1 < (p.length : Nat)) ∧ 0 ≤ e.2 ∧ e.2 < (p.length : Nat)
    omega
  · intro v hv
    have hv : v ∈ [(0 : Int)] := hv
    rw [List.mem_singleton] at hv
    show 0 ≤ v ∧ v < (p.length : Nat)
    omega
  · exact nilB_ok _
  · exact List.length_map _
  · intro t ht
    have ht : t ∈ p.map (atrF (exprsOf p)) := ht
    obtain ⟨b, hb, rfl⟩ := List.mem_map.1 ht
    exact atrF_ok _ b
theorem asys_spec {p : Prog} (hp : p.length ≤ 12) (hl : ∀ b ∈ p, b.2.1.length ≤ 100000) (hc : stmtsN p ≤ 1000000) (hv : cnt p < 400000) {a : Option Addr} {n c : Nat} {H : Hp} {K : Value → Hp → Prop} (ha : RL H a n c p)
    (hbad : checkE p ≠ 0 → ∀ H', Le H H' → K (.tuple #[.agg zSys.toArray, .int .i64 (checkE p)]) H')
    (hK : checkE p = 0 → ∀ z H', Le H H' → Bt.SysR H' (asysOf p) z → K (.tuple #[Bt.sysA (asysOf p) z, .int .i64 0]) H') : Does Tryz.prog 14 [.agg #[.slice a n c]] H K := by
  have hn := ha.n_eq
  have hmx := ha.le
  refine spec_of cx_ok cx_mix rfl Tryz.func14 Tryz.call14 Tryz.ntmps14 Tryz.results14 rfl rfl ?_
  refine pcheck_spec ha hc hv fun H0 hle0 => ?_
  refine ⟨fun h => ?_, fun h => ?_⟩
  · exact hbad (nt h) _ (Le.refl H)
  have he : checkE p = 0 := nf h
  have hK := hK he
  have hx5 := exprs512 he
  refine texprs_spec hp hl ha fun ax nx cx H1 hle1 hrx => ?_
  have hnx := hrx.n_eq
  subst hnx
  refine ⟨none, ?_⟩
  refine region_plan (α := SA) ?_ ?_
    (.two 6 7 (.two 6 12 (.two 7 10 (.two 7 12 (.two 10 12 (.one [2, 3] [0, 1, 2, 3, 4, 5, 8, 9, 6, 7, 10, 11, 12, 13]) (.one [2, 3] [0, 1, 2, 3, 4, 5, 8, 9, 6, 7, 12, 10, 11, 13])) (.one [2, 3] [0, 1, 2, 3, 4, 5, 8, 9, 6, 12, 7, 10, 11, 13])) (.two 7 12 (.one [2, 3] [0, 1, 2, 3, 4, 5, 8, 9, 6, 10, 7, 11, 12, 13]) (.two 10 12 (.one [2, 3] [0, 1, 2, 3, 4, 5, 8, 9, 6, 10, 12, 7, 11, 13]) (.one [2, 3] [0, 1, 2, 3, 4, 5, 8, 9, 6, 12, 10, 7, 11, 13])))) (.two 7 10 (.one [2, 3] [0, 1, 2, 3, 4, 5, 8, 9, 12, 6, 7, 10, 11, 13]) (.one [2, 3] [0, 1, 2, 3, 4, 5, 8, 9, 12, 6, 10, 7, 11, 13]))) (.two 6 12 (.two 10 12 (.one [2, 3] [0, 1, 2, 3, 4, 5, 8, 9, 7, 6, 10, 11, 12, 13]) (.one [2, 3] [0, 1, 2, 3, 4, 5, 8, 9, 7, 6, 12, 10, 11, 13])) (.two 7 12 (.one [2, 3] [0, 1, 2, 3, 4, 5, 8, 9, 7, 12, 6, 10, 11, 13]) (.one [2, 3] [0, 1, 2, 3, 4, 5, 8, 9, 12, 7, 6, 10, 11, 13]))))
    (fun z => ⟨[(1, .ptr 0 0), (2, .ptr 1 0), (5, .v (.slice ax (exprsOf p).length cx)), (6, .ptr 2 0)],
      [(0, .cells 24 [.v (.slice a n c)]), (1, .cells 32 (vL zSys)), (2, .cells 32 [.v (.int .i64 (2 : Nat)), .v (.int .i64 ((exprsOf p).length : Nat)), .v (.int .i64 n), .v (.slice z.ea z.en z.ec), .own 3, .v (.slice z.ia z.ni z.ic), .v (.slice none 0 0)]), (3, .row 3 1 iRow0)], 4⟩)
    (fun z H' => Le H1 H' ∧ RL H' z.ea z.en z.ec (gSort (edgesOf p)) ∧ RL H' z.ia z.ni z.ic (nilB (exprsOf p).length)) (by kernel_rfl) ⟨⟨⟨⟨⟨?_, ?_⟩, ?_⟩, ⟨?_, ⟨?_, ?_⟩⟩⟩, ⟨?_, ?_⟩⟩, ⟨⟨?_, ?_⟩, ⟨?_, ?_⟩⟩⟩ ?_
  · exact ⟨cx_ok.tt, cx_ok.eqs⟩
  · exact cx_mix
  · refine edges_spec hp (ha.up hle1) fun e1 e2 e3 H2 hle2 hr2 => ?_
    refine wof_spec (w := (exprsOf p).length) (l := []) (by omega) rl_nil fun w1 w2 w3 H5 hle5 hr5 => ?_
    exact ⟨⟨e1, e2, e3, none, 0, 0, w1, w2, w3, none, 0, 0⟩, [(0, 0), (1, 1), (2, 3), (3, 2)], by (repeat' (first | exact trivial | refine ⟨?_, ?_⟩ | exact rfl | assumption)), hle2.trans hle5, hr2.up hle5, hr5⟩
  · refine edges_spec hp (ha.up hle1) fun e1 e2 e3 H2 hle2 hr2 => ?_
    refine wof_spec (w := (exprsOf p).length) (l := []) (by omega) rl_nil fun w1 w2 w3 H5 hle5 hr5 => ?_
    exact ⟨⟨e1, e2, e3, none, 0, 0, w1, w2, w3, none, 0, 0⟩, [(0, 0), (1, 1), (2, 3), (3, 2)], by (repeat' (first | exact trivial | refine ⟨?_, ?_⟩ | exact rfl | assumption)), hle2.trans hle5, hr2.up hle5, hr5⟩
  · refine edges_spec hp (ha.up hle1) fun e1 e2 e3 H2 hle2 hr2 => ?_
    refine wof_spec (w := (exprsOf p).length) (l := []) (by omega) rl_nil fun w1 w2 w3 H5 hle5 hr5 => ?_
    exact ⟨⟨e1, e2, e3, none, 0, 0, w1, w2, w3, none, 0, 0⟩, [(0, 0), (1, 1), (2, 2), (3, 3)], by (repeat' (first | exact trivial | refine ⟨?_, ?_⟩ | exact rfl | assumption)), hle2.trans hle5, hr2.up hle5, hr5⟩
  · refine edges_spec hp (ha.up hle1) fun e1 e2 e3 H2 hle2 hr2 => ?_
    refine wof_spec (w := (exprsOf p).length) (l := []) (by omega) rl_nil fun w1 w2 w3 H5 hle5 hr5 => ?_
    exact ⟨⟨e1, e2, e3, none, 0, 0, w1, w2, w3, none, 0, 0⟩, [(0, 0), (1, 1), (2, 3), (3, 2)], by (repeat' (first | exact trivial | refine ⟨?_, ?_⟩ | exact rfl | assumption)), hle2.trans hle5, hr2.up hle5, hr5⟩
  · refine edges_spec hp (ha.up hle1) fun e1 e2 e3 H2 hle2 hr2 => ?_
    refine wof_spec (w := (exprsOf p).length) (l := []) (by omega) rl_nil fun w1 w2 w3 H5 hle5 hr5 => ?_
    exact ⟨⟨e1, e2, e3, none, 0, 0, w1, w2, w3, none, 0, 0⟩, [(0, 0), (1, 1), (2, 2), (3, 3)], by (repeat' (first | exact trivial | refine ⟨?_, ?_⟩ | exact rfl | assumption)), hle2.trans hle5, hr2.up hle5, hr5⟩
  · refine edges_spec hp (ha.up hle1) fun e1 e2 e3 H2 hle2 hr2 => ?_
    refine wof_spec (w := (exprsOf p).length) (l := []) (by omega) rl_nil fun w1 w2 w3 H5 hle5 hr5 => ?_
    exact ⟨⟨e1, e2, e3, none, 0, 0, w1, w2, w3, none, 0, 0⟩, [(0, 0), (1, 1), (2, 2), (3, 3)], by (repeat' (first | exact trivial | refine ⟨?_, ?_⟩ | exact rfl | assumption)), hle2.trans hle5, hr2.up hle5, hr5⟩
  · refine edges_spec hp (ha.up hle1) fun e1 e2 e3 H2 hle2 hr2 => ?_
    refine wof_spec (w := (exprsOf p).length) (l := []) (by omega) rl_nil fun w1 w2 w3 H5 hle5 hr5 => ?_
    exact ⟨⟨e1, e2, e3, none, 0, 0, w1, w2, w3, none, 0, 0⟩, [(0, 0), (1, 1), (2, 2), (3, 3)], by (repeat' (first | exact trivial | refine ⟨?_, ?_⟩ | exact rfl | assumption)), hle2.trans hle5, hr2.up hle5, hr5⟩
  · refine edges_spec hp (ha.up hle1) fun e1 e2 e3 H2 hle2 hr2 => ?_
    refine wof_spec (w := (exprsOf p).length) (l := []) (by omega) rl_nil fun w1 w2 w3 H5 hle5 hr5 => ?_
    exact ⟨⟨e1, e2, e3, none, 0, 0, w1, w2, w3, none, 0, 0⟩, [(0, 0), (1, 1), (2, 2), (3, 3)], by (repeat' (first | exact trivial | refine ⟨?_, ?_⟩ | exact rfl | assumption)), hle2.trans hle5, hr2.up hle5, hr5⟩
  · refine edges_spec hp (ha.up hle1) fun e1 e2 e3 H2 hle2 hr2 => ?_
    refine wof_spec (w := (exprsOf p).length) (l := []) (by omega) rl_nil fun w1 w2 w3 H5 hle5 hr5 => ?_
    exact ⟨⟨e1, e2, e3, none, 0, 0, w1, w2, w3, none, 0, 0⟩, [(0, 0), (1, 1), (2, 3), (3, 2)], by (repeat' (first | exact trivial | refine ⟨?_, ?_⟩ | exact rfl | assumption)), hle2.trans hle5, hr2.up hle5, hr5⟩
  · refine edges_spec hp (ha.up hle1) fun e1 e2 e3 H2 hle2 hr2 => ?_
    refine wof_spec (w := (exprsOf p).length) (l := []) (by omega) rl_nil fun w1 w2 w3 H5 hle5 hr5 => ?_
    exact ⟨⟨e1, e2, e3, none, 0, 0, w1, w2, w3, none, 0, 0⟩, [(0, 0), (1, 1), (2, 3), (3, 2)], by (repeat' (first | exact trivial | refine ⟨?_, ?_⟩ | exact rfl | assumption)), hle2.trans hle5, hr2.up hle5, hr5⟩
  · refine edges_spec hp (ha.up hle1) fun e1 e2 e3 H2 hle2 hr2 => ?_
    refine wof_spec (w := (exprsOf p).length) (l := []) (by omega) rl_nil fun w1 w2 w3 H5 hle5 hr5 => ?_
    exact ⟨⟨e1, e2, e3, none, 0, 0, w1, w2, w3, none, 0, 0⟩, [(0, 0), (1, 1), (2, 3), (3, 2)], by (repeat' (first | exact trivial | refine ⟨?_, ?_⟩ | exact rfl | assumption)), hle2.trans hle5, hr2.up hle5, hr5⟩
  · refine edges_spec hp (ha.up hle1) fun e1 e2 e3 H2 hle2 hr2 => ?_
    refine wof_spec (w := (exprsOf p).length) (l := []) (by omega) rl_nil fun w1 w2 w3 H5 hle5 hr5 => ?_
    exact ⟨⟨e1, e2, e3, none, 0, 0, w1, w2, w3, none, 0, 0⟩, [(0, 0), (1, 1), (2, 2), (3, 3)], by (repeat' (first | exact trivial | refine ⟨?_, ?_⟩ | exact rfl | assumption)), hle2.trans hle5, hr2.up hle5, hr5⟩
  rintro ⟨ea, en, ec, na, nn, nc, ia, ni, ic, ta, tn, tc⟩ H2 _ ⟨hle2, hze, hzi⟩
  dsimp only at hze hzi
  refine ⟨Nat × List (List Value), fun q => ⟨[(1, .ptr 0 0), (2, .ptr 1 0), (5, .v (.slice ax (exprsOf p).length cx)), (6, .ptr 2 0), (30, .v (.slice a n c)), (31, .v (.int .i64 n)), (32, .v (.int .i64 q.1))],
      [(0, .cells 24 [.v (.slice a n c)]), (1, .cells 32 (vL zSys)), (2, .cells 32 [.v (.int .i64 (2 : Nat)), .v (.int .i64 ((exprsOf p).length : Nat)), .v (.int .i64 n), .v (.slice ea en ec), .own 3, .v (.slice ia ni ic), .own 4]), (3, .row 3 1 iRow0), (4, .row 110 3 q.2)], 5⟩,
    fun q H' => Le H2 H' ∧ q.1 ≤ p.length ∧ RC (α := Bt.TrB) H' q.2 (((asysOf p).T.map Bt.TrB.mk).take q.1), fun q => p.length - q.1, ⟨(0, []), [(0, 0), (1, 1), (2, 2), (3, 3)], ?_, Le.refl _, Nat.zero_le _, RC.nil⟩, ?_⟩
  · (repeat' (first | exact trivial | refine ⟨?_, ?_⟩ | exact rfl | assumption))
  rintro ⟨j, css⟩ H4 _ ⟨hle4, hj, hrc⟩
  dsimp only at hj hrc
  have hle : Le H H4 := (hle1.trans hle2).trans hle4
  have hTl : ((asysOf p).T.map Bt.TrB.mk).length = p.length := by simp [asysOf]
  have hcl : css.length = j := by have h1 := hrc.1; rw [List.length_take] at h1; omega
  refine ⟨fun h => ?_, fun h => ?_⟩
  · have hlt : j < p.length := by have := dt h; dsimp only at this; omega
    refine name_k p[j] fun b hbe => ?_
    have hbb : p[j]? = some b := by rw [hbe]; exact List.getElem?_eq_getElem hlt
    refine block_k (ha.up hle) hbb fun ad a5 n5 c5 q1 hh hr5 hs5 ht5 => ?_
    refine ⟨ad, ⟨by dsimp only; omega, by dsimp only; omega, q1⟩, ?_⟩
    refine ⟨_, hh, ?_⟩
    refine ⟨some ([1000000, 2, 4, 6], [0, 1, 2, 3, 4, 5, 6, 7, 8]), by kernel_rfl, ?_⟩
    refine atrans_spec (X := exprsOf p) (by omega) (hl b (by rw [hbe]; exact List.getElem_mem hlt)) (hrx.up (hle2.trans hle4)) hr5 fun zt H5 hle5 hr6 => ?_
    refine ⟨⟨by show (css.length + 1) * 72 ≤ 140737488355328; omega, by show css.length + 1 ≤ 9223372036854775807; omega⟩, ?_⟩
    have hrc2 : RC (α := Bt.TrB) H5 (css ++ [Bt.trV zt]) (((asysOf p).T.map Bt.TrB.mk).take (j + 1)) := by
      rw [asysT_take hbb]; exact trb_snoc (RC.up hrc hle5) hr6
    refine ⟨⟨by omega, by omega⟩, (j + 1, css ++ [Bt.trV zt]), [(0, 0), (1, 1), (2, 2), (3, 3), (4, 7)], ?_, ⟨hle4.trans hle5, hlt, hrc2⟩, by dsimp only; omega⟩
    (repeat' (first | exact trivial | refine ⟨?_, ?_⟩ | exact rfl | assumption))
  · have hjl : j = p.length := by have := df h; dsimp only at this; omega
    rw [hjl, List.take_of_length_le (by omega)] at hrc
    intro v1 H5 hle5 hv1
    refine ints_k hv1 fun na nn nc ev1 hr1 => ?_
    subst ev1
    intro v3 H7 hle7 hv3
    refine of_row_k (α := Bt.TrB) hv3 (RC.up hrc (hle5.le.trans hle7.le)) fun ta tn tc ev3 hr3 => ?_
    subst ev3
    have h57 := hle5.le.trans hle7.le
    have hsys : Bt.SysR H7 (asysOf p) ⟨ea, en, ec, na, nn, nc, ia, ni, ic, ta, tn, tc⟩ :=
      ⟨hze.up (hle4.trans h57), hr1.up hle7.le, hzi.up (hle4.trans h57), hr3⟩
    have hK := hK ⟨ea, en, ec, na, nn, nc, ia, ni, ic, ta, tn, tc⟩ H7 (hle.trans h57) hsys
    have e2 : (asysOf p).m = n := hn.symm
    rw [Bt.sysA, Bt.sysV, e2] at hK
    exact hK
end Go.Proofs
end
section
namespace Go.Proofs
open Go.Sy
set_option maxRecDepth 20000
set_option maxHeartbeats 4000000
/-! avail.Sets. -/
/-- What is available at the beginnings, and at the ends. -/
def availI (p : Prog) : List (List Int) := (Bt.solveS (asysOf p)).map numB
def availO (p : Prog) : List (List Int) := (Bt.outsS (asysOf p) (Bt.solveS (asysOf p))).map numB
theorem rc_snocI {H : Hp} {css : List (List Value)} {X : List (List Int)} (h : RC (α := List Int) H css X) {a : Option Addr} {n c : Nat} {x : List Int} (hx : RL H a n c x) : RC (α := List Int) H (css ++ [[.slice a n c]]) (X ++ [x]) :=
  RC.snoc h (show Enc.R (α := List Int) H [.slice a n c] x from ⟨a, n, c, rfl, hx⟩)
theorem asets_spec {p : Prog} (hp : p.length ≤ 12) (hl : ∀ b ∈ p, b.2.1.length ≤ 100000) (hc : stmtsN p ≤ 1000000) (hv : cnt p < 400000) {a : Option Addr} {n c : Nat} {H : Hp} {K : Value → Hp → Prop} (ha : RL H a n c p) (hT : TabH H)
    (hbad : checkE p ≠ 0 → ∀ H', Le H H' → K (.tuple #[.slice none 0 0, .slice none 0 0, .int .i64 (checkE p)]) H')
    (hK : checkE p = 0 → ∀ a1 n1 c1 a2 n2 c2 H', Le H H' → RL (α := List Int) H' a1 n1 c1 (availI p) → RL (α := List Int) H' a2 n2 c2 (availO p) → K (.tuple #[.slice a1 n1 c1, .slice a2 n2 c2, .int .i64 0]) H') :
    Does Tryz.prog 18 [.agg #[.slice a n c]] H K := by
  have hn := ha.n_eq
  refine spec_of cx_ok cx_mix rfl Tryz.func18 Tryz.call18 Tryz.ntmps18 Tryz.results18 rfl rfl ?_
  refine asys_spec hp hl hc hv ha (fun he H1 hle1 => ?_) (fun he z H1 hle1 hs => ?_)
  · refine ⟨fun _ => ?_, (fun h => absurd (nf h) he)⟩
    exact hbad he _ hle1
  · have ho := asysOf_ok he
    have hA := Bt.solveS_ok ho
    refine ⟨fun h => absurd rfl (nt h), fun _ => ?_⟩
    refine Bt.lsolve_spec ho hs fun a1 n1 c1 k H2 hle2 hr2 => ?_
    refine Bt.louts_spec ho hA (hs.up hle2) hr2 fun a2 n2 c2 H3 hle3 hr3 => ?_
    have hle := (hle1.trans hle2).trans hle3
    have hm : (Bt.solveS (asysOf p)).length = p.length := hA.len
    have hn1 := hr2.n_eq
    rw [hm] at hn1
    have hn2 := hr3.n_eq
    rw [Bt.outsS, List.length_map, List.length_range] at hn2
    have hn2 : n2 = p.length := hn2
    have hr23 := hr2.up hle3
    have hlI : (availI p).length = p.length := by rw [availI, List.length_map, hm]
    have hlO : (availO p).length = p.length := by rw [availO, List.length_map, Bt.outsS, List.length_map, List.length_range]; rfl
    refine ⟨Nat × List (List Value) × List (List Value), fun q => ⟨[(7, .v (.slice a1 n1 c1)), (10, .v (.slice a2 n2 c2)), (12, .own 2), (13, .own 3), (36, .v (.int .i64 n1)), (37, .v (.int .i64 q.1))],
        [(0, .cells 24 [.v (.slice a n c)]), (1, .cells 32 (vL (Bt.sysV (asysOf p) z))), (2, .row 28 1 q.2.1), (3, .row 28 1 q.2.2)], 4⟩,
      fun q H' => Le H3 H' ∧ q.1 ≤ p.length ∧ RC (α := List Int) H' q.2.1 ((availI p).take q.1) ∧ RC (α := List Int) H' q.2.2 ((availO p).take q.1), fun q => p.length - q.1, ⟨(0, [], []), [(0, 0), (1, 1)], ?_, Le.refl H3, Nat.zero_le _, RC.nil, RC.nil⟩, ?_⟩
    · (repeat' (first | exact trivial | refine ⟨?_, ?_⟩ | exact rfl | assumption))
    rintro ⟨i, cs1, cs2⟩ H4 _ ⟨hle4, hi, hrc1, hrc2⟩
    dsimp only at hi hrc1 hrc2
    have hc1 : cs1.length = i := by have h1 := hrc1.1; rw [List.length_take] at h1; omega
    have hc2 : cs2.length = i := by have h1 := hrc2.1; rw [List.length_take] at h1; omega
    refine ⟨fun h => ?_, fun h => ?_⟩
    · have hlt : i < p.length := by have := dt h; dsimp only at this; omega
      refine name_k (Bt.aAt (Bt.solveS (asysOf p)) i) fun x hxe => ?_
      have hxx : (Bt.solveS (asysOf p))[i]? = some x := by rw [hxe]; exact Bt.aAt_get hA hlt
      have hok := hA.ok x (List.mem_of_getElem? hxx)
      have hokT := Bt.tAt_ok ho i
      have hokA := Bt.bApp_ok hokT.1 hokT.2 hok
      refine name_k (Bt.bApp (Bt.tAt (asysOf p) i) x) fun y hye => ?_
      rw [← hye] at hokA
      have hyy : (Bt.outsS (asysOf p) (Bt.solveS (asysOf p)))[i]? = some y := by
        rw [Bt.outsS, List.getElem?_map, List.getElem?_range (show i < (asysOf p).m from hlt), hye, hxe]; rfl
      have gI : (availI p)[i]? = some (numB x) := by rw [availI, List.getElem?_map, hxx]; rfl
      have gO : (availO p)[i]? = some (numB y) := by rw [availO, List.getElem?_map, hyy]; rfl
      have hx5 := exprs512 he
      have hs1 : x.length ≤ 100000 := by have h1 := hok.1; rw [sizeB] at h1; have h2 : (asysOf p).w = (exprsOf p).length := rfl; omega
      have hs2 : y.length ≤ 100000 := by have h1 := hokA.1; rw [sizeB] at h1; have h2 : (asysOf p).w = (exprsOf p).length := rfl; omega
      refine ⟨some ([1000000, 2, 3, 4, 6], [0, 1, 2, 3, 4, 8, 9, 10, 11, 12, 5, 6, 7, 13, 14, 15, 16, 17]), by kernel_rfl, ?_⟩
      refine list_k (hr23.up hle4) hxx fun ad a5 n5 c5 q1 hh hr5 => ?_
      refine ⟨ad, ⟨by dsimp only; omega, by dsimp only; omega, q1⟩, ?_⟩
      refine ⟨_, hh, ?_⟩
      refine list_k (hr3.up hle4) hyy fun ad2 a6 n6 c6 q2 hh2 hr6 => ?_
      refine ⟨ad2, ⟨by dsimp only; omega, by dsimp only; omega, q2⟩, ?_⟩
      refine ⟨_, hh2, ?_⟩
      have hT4 := hT.up (hle.trans hle4)
      refine list_spec hs1 hr5 hT4 fun d1 d2 d3 H5 hle5 hr7 => ?_
      refine ⟨⟨by show (cs1.length + 1) * 24 ≤ 140737488355328; omega, by show cs1.length + 1 ≤ 9223372036854775807; omega⟩, ?_⟩
      refine list_spec hs2 (hr6.up hle5) (hT4.up hle5) fun f1 f2 f3 H6 hle6 hr8 => ?_
      refine ⟨⟨by show (cs2.length + 1) * 24 ≤ 140737488355328; omega, by show cs2.length + 1 ≤ 9223372036854775807; omega⟩, ?_⟩
      have h46 := hle5.trans hle6
      have k1 : RC (α := List Int) H6 (cs1 ++ [[.slice d1 d2 d3]]) ((availI p).take (i + 1)) := by
        rw [List.take_add_one, gI]
        exact rc_snocI (RC.up hrc1 h46) (hr7.up hle6)
      have k2 : RC (α := List Int) H6 (cs2 ++ [[.slice f1 f2 f3]]) ((availO p).take (i + 1)) := by
        rw [List.take_add_one, gO]
        exact rc_snocI (RC.up hrc2 h46) hr8
      refine ⟨⟨by dsimp only; omega, by dsimp only; omega⟩, (i + 1, cs1 ++ [[.slice d1 d2 d3]], cs2 ++ [[.slice f1 f2 f3]]), [(0, 0), (1, 1), (2, 5), (3, 7)], ?_, ⟨hle4.trans h46, hlt, k1, k2⟩, by dsimp only; omega⟩
      (repeat' (first | exact trivial | refine ⟨?_, ?_⟩ | exact rfl | assumption))
    · have hil : i = p.length := by have := df h; dsimp only at this; omega
      rw [hil, List.take_of_length_le (by omega)] at hrc1
      rw [hil, List.take_of_length_le (by omega)] at hrc2
      intro v1 H5 hle5 hv1
      refine of_row_k (α := List Int) hv1 (RC.up hrc1 hle5.le) fun d1 d2 d3 e1 hr1 => ?_
      subst e1
      intro v3 H7 hle7 hv3
      refine of_row_k (α := List Int) hv3 (RC.up hrc2 (hle5.le.trans hle7.le)) fun f1 f2 f3 e3 hr2 => ?_
      subst e3
      exact hK he _ _ _ _ _ _ H7 ((hle.trans hle4).trans (hle5.le.trans hle7.le)) (hr1.up hle7.le) hr2
end Go.Proofs
end
section
namespace Go.Proofs
open Go.Sy
set_option maxRecDepth 20000
set_option maxHeartbeats 4000000
/-! soughref09.After. -/
def bRow (n : Nat) (f : Nat → Bool) : List (List Value) := (List.range n).map fun j => [Value.bool (f j)]
theorem bRow_len (n : Nat) (f : Nat → Bool) : (bRow n f).length = n := by rw [bRow, List.length_map, List.length_range]
theorem bRow_get {n : Nat} (f : Nat → Bool) {i : Nat} (h : i < n) : (bRow n f)[i]? = some [.bool (f i)] := by
  rw [bRow, List.getElem?_map, List.getElem?_range h]; rfl
theorem bRow_set {n : Nat} {f g : Nat → Bool} {i : Nat} {b : Bool} (h : ∀ j, g j = if j = i then b else f j) : (bRow n f).set i [.bool b] = bRow n g := by
  refine List.ext_getElem? fun j => ?_
  rw [List.getElem?_set, bRow_len]
  by_cases hj : i = j
  · subst hj
    rw [if_pos rfl]
    by_cases hn : i < n
    · rw [if_pos hn, bRow_get g hn, h, if_pos rfl]
    · rw [if_neg hn, List.getElem?_eq_none (by rw [bRow_len]; omega)]
  · rw [if_neg hj]
    by_cases hn : j < n
    · rw [bRow_get f hn, bRow_get g hn, h, if_neg (fun e => hj e.symm)]
    · rw [List.getElem?_eq_none (by rw [bRow_len]; omega), List.getElem?_eq_none (by rw [bRow_len]; omega)]
theorem bRow_zero (n : Nat) : List.replicate n [Value.bool false] = bRow n fun _ => false := by
  refine List.ext_getElem? fun j => ?_
  by_cases hn : j < n
  · rw [bRow_get _ hn, List.getElem?_replicate, if_pos hn]
  · rw [List.getElem?_eq_none (by rw [List.length_replicate]; omega), List.getElem?_eq_none (by rw [bRow_len]; omega)]
theorem rc_bRow {H : Hp} {n : Nat} {f : Nat → Bool} {l : List Bool} (hl : l.length = n) (h : ∀ i b, l[i]? = some b → f i = b) : RC (α := Bool) H (bRow n f) l := by
  refine ⟨by rw [bRow_len, hl], fun i cs x h1 h2 => ?_⟩
  have hi : i < n := by
    rw [← hl]; exact (List.getElem?_eq_some_iff.1 h2).1
  rw [bRow_get f hi, h i x h2] at h1
  cases h1
  rfl
/-- A statement that stands as it should. -/
theorem kill_as {s : Stmt} (h : stmtB s = true) (x : Expr) : (decide (s.1 ≠ 3) && asksE x s.2.1.l) = killE s x := by
  have nm : ∀ l : Bs8, nmB l = true → (!decide (l = [])) = true := fun l h => by
    cases l with
    | nil => cases h
    | cons _ _ => rfl
  unfold stmtB at h
  rw [killE]
  split at h
  · rename_i h1
    rw [Bool.and_eq_true] at h
    rw [nm _ h.1, decide_eq_true (show s.1 ≠ 3 by omega)]
  · split at h
    · rename_i h1 h2
      rw [Bool.and_eq_true] at h
      rw [nm _ h.1, decide_eq_true (show s.1 ≠ 3 by omega)]
    · split at h
      · rename_i h1 h2 h3
        rw [Bool.and_eq_true, Bool.and_eq_true, decide_eq_true_eq] at h
        rw [decide_eq_false (show ¬ s.1 ≠ 3 by omega), decide_eq_true h.1.1]
        rfl
      · cases h
theorem kn_same {Kn : Nat → Nat → Nat → Bool} {k m : Nat} {x : Expr} {s : Stmt} (hks : ∀ i, Kn k (m + 1) i = if i = m then kn1 x (Kn k m m) s else Kn k m i) (hkill : killE s x = false) (hset : setsE s x = false) : Kn k m = Kn k (m + 1) := funext fun j => by
  rw [hks, show kn1 x (Kn k m m) s = Kn k m m by rw [kn1, if_neg (by rw [hkill]; decide), if_neg (by rw [hset]; decide)]]
  split
  · rename_i e; rw [e]
  · rfl
theorem rafter_spec {X : List Expr} (hX : X.length ≤ 1024) {l : List Stmt} (hb : l.length ≤ 100000) (hB : ∀ s ∈ l, stmtB s = true) {a b la : Option Addr} {n c kn kc ln lc : Nat} {H : Hp} {K : Value → Hp → Prop} (ha : RL H a n c X) (hkv : RowAt H (.slice b kn kc) 1 (bRow X.length fun _ => false)) (hl : RL H la ln lc l)
    (hK : ∀ a1 n1 c1 H', Le H H' → RL (α := Bool) H' a1 n1 c1 (X.map fun x => knB x l) → K (.slice a1 n1 c1) H') : Does Tryz.prog 68 [.slice a n c, .slice b kn kc, .slice la ln lc] H K := by
  have hn := ha.n_eq
  have hln := hl.n_eq
  refine famM_k X l fun Kn Ls hM => ?_
  have hbl : ∀ f : Nat → Bool, (bRow X.length f).length = X.length := fun f => bRow_len _ _
  refine spec_of cx_ok cx_mix rfl Tryz.func68 Tryz.call68 Tryz.ntmps68 Tryz.results68 rfl rfl ?_
  refine ⟨bRow X.length fun _ => false, hkv, ?_⟩
  refine ⟨⟨by show (0 + _) * 1 ≤ 140737488355328; rw [hbl]; omega, by show 0 + _ ≤ 9223372036854775807; rw [hbl]; omega⟩, ?_⟩
  refine ⟨Nat, fun k => ⟨[(0, .v (.slice a n c)), (7, .own 0), (15, .v (.slice la ln lc)), (16, .v (.int .i64 ln)), (17, .v (.int .i64 k))], [(0, .row 4 1 (bRow X.length (Kn k 0)))], 1⟩,
    fun k H' => Le H H' ∧ k ≤ l.length, fun k => l.length - k, ⟨0, [(0, 1)], ?_, Le.refl H, Nat.zero_le _⟩, ?_⟩
  · have e1 : bRow X.length (fun _ => false) = bRow X.length (Kn 0 0) := by rw [hM.k0]
    (repeat' (first | exact trivial | refine ⟨?_, ?_⟩ | exact rfl | assumption))
  rintro k H1 _ ⟨hle1, hk⟩
  refine ⟨fun h => ?_, fun h => ?_⟩
  · have hlt : k < l.length := by have := dt h; omega
    refine name_k l[k] fun s hse => ?_
    have hss : l[k]? = some s := by rw [hse]; exact List.getElem?_eq_getElem hlt
    have hBs := hB s (List.mem_of_getElem? hss)
    refine stmt_k (hl.up hle1) hss fun ad q1 hh hR => ?_
    refine ⟨ad, ⟨by omega, by omega, q1⟩, ?_⟩
    refine ⟨_, hh, ?_⟩
    refine ⟨Nat, fun m => ⟨[(0, .v (.slice a n c)), (7, .own 0), (9, .ptr 1 0), (15, .v (.slice la ln lc)), (16, .v (.int .i64 ln)), (17, .v (.int .i64 k)), (21, .v (.slice a n c)), (22, .v (.int .i64 n)), (23, .v (.int .i64 m))], [(0, .row 4 1 (bRow X.length (Kn k m))), (1, .cells 84 (vL (stmtV s)))], 2⟩,
      fun m H' => Le H1 H' ∧ m ≤ X.length, fun m => X.length - m, ⟨0, [(0, 0), (1, 1)], ?_, Le.refl H1, Nat.zero_le _⟩, ?_⟩
    · (repeat' (first | exact trivial | refine ⟨?_, ?_⟩ | exact rfl | assumption))
    rintro m H2 _ ⟨hle2, hm⟩
    refine ⟨fun h => ?_, fun h => ?_⟩
    · have hml : m < X.length := by have := dt h; omega
      refine name_k X[m] fun x hxe => ?_
      have hxx : X[m]? = some x := by rw [hxe]; exact List.getElem?_eq_getElem hml
      have hks := hM.ks k m s x hss hxx
      have hka := kill_as hBs x
      refine expr_k (ha.up (hle1.trans hle2)) hxx fun ad2 q2 hh2 hRx => ?_
      refine ⟨ad2, ⟨by omega, by omega, q2⟩, ?_⟩
      refine ⟨_, hh2, ?_⟩
      refine ⟨fun h1 => ?_, fun h1 => ?_⟩
      · have h1 : s.1 = 1 := dt h1
        refine ⟨fun hx => ?_, fun hx => ?_⟩
        · have hx : s.2.2 = x := of_decide_eq_true ((eqX_vc s.2.2 x).symm.trans hx)
          have hset : setsE s x = true := by rw [setsE, decide_eq_true h1, decide_eq_true hx]; rfl
          have e0 : (bRow X.length (Kn k m)).set m [.bool true] = bRow X.length fun j => if j = m then true else Kn k m j := bRow_set fun j => rfl
          have h3 : ¬ s.1 = 3 := by omega
          rw [decide_eq_true (show s.1 ≠ 3 from h3), Bool.true_and] at hka
          refine ⟨⟨by omega, by rw [bRow_len]; omega⟩, ?_⟩
          refine ⟨_, bRow_get _ hml, ?_⟩
          refine ⟨fun _ => ?_, fun h => absurd (nf h) h3⟩
          refine rasks_spec hRx fun _ _ => ?_
          refine ⟨fun hkill => ?_, fun hkill => ?_⟩
          · have hkill : killE s x = true := hka.symm.trans hkill
            have e1 : ((bRow X.length (Kn k m)).set m [.bool true]).set m [.bool false] = bRow X.length (Kn k (m + 1)) := by
              rw [e0]
              refine bRow_set fun j => ?_
              rw [hks, show kn1 x (Kn k m m) s = false by rw [kn1, if_pos hkill]]
              by_cases hj : j = m
              · rw [if_pos hj, if_pos hj]
              · rw [if_neg hj, if_neg hj, if_neg hj]
            refine ⟨⟨by omega, by rw [List.length_set, bRow_len]; omega⟩, ?_⟩
            refine ⟨[.bool true], (show ((bRow X.length (Kn k m)).set m [.bool true])[m]? = some [.bool true] by rw [e0, bRow_get _ hml, if_pos rfl]), ?_⟩
            refine ⟨⟨by omega, by omega⟩, m + 1, [(0, 0), (1, 1)], ?_, ⟨hle2, hml⟩, by dsimp only; omega⟩
            (repeat' (first | exact trivial | refine ⟨?_, ?_⟩ | exact rfl | assumption))
          · have hkill : killE s x = false := hka.symm.trans hkill
            have e1 : (bRow X.length (Kn k m)).set m [.bool true] = bRow X.length (Kn k (m + 1)) := bRow_set fun j => by rw [hks, show kn1 x (Kn k m m) s = true by rw [kn1, if_neg (by rw [hkill]; decide), if_pos hset]]
            refine ⟨⟨by omega, by omega⟩, m + 1, [(0, 0), (1, 1)], ?_, ⟨hle2, hml⟩, by dsimp only; omega⟩
            (repeat' (first | exact trivial | refine ⟨?_, ?_⟩ | exact rfl | assumption))
        · have hx : ¬ s.2.2 = x := of_decide_eq_false ((eqX_vc s.2.2 x).symm.trans hx)
          have hset : setsE s x = false := by rw [setsE, decide_eq_false hx, Bool.and_false]
          refine ⟨fun h3 => ?_, fun h3 => ?_⟩
          · have h3 : ¬ s.1 = 3 := nt h3
            rw [decide_eq_true (show s.1 ≠ 3 from h3), Bool.true_and] at hka
            refine rasks_spec hRx fun _ _ => ?_
            refine ⟨fun hkill => ?_, fun hkill => ?_⟩
            · have hkill : killE s x = true := hka.symm.trans hkill
              have e1 : (bRow X.length (Kn k m)).set m [.bool false] = bRow X.length (Kn k (m + 1)) := bRow_set fun j => by rw [hks, show kn1 x (Kn k m m) s = false by rw [kn1, if_pos hkill]]
              refine ⟨⟨by omega, by rw [bRow_len]; omega⟩, ?_⟩
              refine ⟨_, bRow_get _ hml, ?_⟩
              refine ⟨⟨by omega, by omega⟩, m + 1, [(0, 0), (1, 1)], ?_, ⟨hle2, hml⟩, by dsimp only; omega⟩
              (repeat' (first | exact trivial | refine ⟨?_, ?_⟩ | exact rfl | assumption))
            · have hkill : killE s x = false := hka.symm.trans hkill
              have e1 : bRow X.length (Kn k m) = bRow X.length (Kn k (m + 1)) := by rw [kn_same hks hkill hset]
              refine ⟨⟨by omega, by omega⟩, m + 1, [(0, 0), (1, 1)], ?_, ⟨hle2, hml⟩, by dsimp only; omega⟩
              (repeat' (first | exact trivial | refine ⟨?_, ?_⟩ | exact rfl | assumption))
          · have h3 : s.1 = 3 := nf h3
            have hkill : killE s x = false := by rw [← hka, decide_eq_false (show ¬ s.1 ≠ 3 from fun h => h h3)]; rfl
            have e1 : bRow X.length (Kn k m) = bRow X.length (Kn k (m + 1)) := by rw [kn_same hks hkill hset]
            refine ⟨⟨by omega, by omega⟩, m + 1, [(0, 0), (1, 1)], ?_, ⟨hle2, hml⟩, by dsimp only; omega⟩
            (repeat' (first | exact trivial | refine ⟨?_, ?_⟩ | exact rfl | assumption))
      · have h1 : ¬ s.1 = 1 := df h1
        have hset : setsE s x = false := by rw [setsE, decide_eq_false h1, Bool.false_and]
        refine ⟨fun h3 => ?_, fun h3 => ?_⟩
        · have h3 : ¬ s.1 = 3 := nt h3
          rw [decide_eq_true (show s.1 ≠ 3 from h3), Bool.true_and] at hka
          refine rasks_spec hRx fun _ _ => ?_
          refine ⟨fun hkill => ?_, fun hkill => ?_⟩
          · have hkill : killE s x = true := hka.symm.trans hkill
            have e1 : (bRow X.length (Kn k m)).set m [.bool false] = bRow X.length (Kn k (m + 1)) := bRow_set fun j => by rw [hks, show kn1 x (Kn k m m) s = false by rw [kn1, if_pos hkill]]
            refine ⟨⟨by omega, by rw [bRow_len]; omega⟩, ?_⟩
            refine ⟨_, bRow_get _ hml, ?_⟩
            refine ⟨⟨by omega, by omega⟩, m + 1, [(0, 0), (1, 1)], ?_, ⟨hle2, hml⟩, by dsimp only; omega⟩
            (repeat' (first | exact trivial | refine ⟨?_, ?_⟩ | exact rfl | assumption))
          · have hkill : killE s x = false := hka.symm.trans hkill
            have e1 : bRow X.length (Kn k m) = bRow X.length (Kn k (m + 1)) := by rw [kn_same hks hkill hset]
            refine ⟨⟨by omega, by omega⟩, m + 1, [(0, 0), (1, 1)], ?_, ⟨hle2, hml⟩, by dsimp only; omega⟩
            (repeat' (first | exact trivial | refine ⟨?_, ?_⟩ | exact rfl | assumption))
        · have h3 : s.1 = 3 := nf h3
          have hkill : killE s x = false := by rw [← hka, decide_eq_false (show ¬ s.1 ≠ 3 from fun h => h h3)]; rfl
          have e1 : bRow X.length (Kn k m) = bRow X.length (Kn k (m + 1)) := by rw [kn_same hks hkill hset]
          refine ⟨⟨by omega, by omega⟩, m + 1, [(0, 0), (1, 1)], ?_, ⟨hle2, hml⟩, by dsimp only; omega⟩
          (repeat' (first | exact trivial | refine ⟨?_, ?_⟩ | exact rfl | assumption))
    · have hml : m = X.length := by have := df h; omega
      subst hml
      have e1 : bRow X.length (Kn k X.length) = bRow X.length (Kn (k + 1) 0) := by rw [hM.kn]
      refine ⟨⟨by omega, by omega⟩, k + 1, [(0, 0)], ?_, ⟨hle1.trans hle2, hlt⟩, by dsimp only; omega⟩
      (repeat' (first | exact trivial | refine ⟨?_, ?_⟩ | exact rfl | assumption))
  · have hkl : k = l.length := by have := df h; omega
    subst hkl
    intro v3 H7 hle7 hv3
    refine of_row_k (α := Bool) (xs := X.map fun x => knB x l) hv3 (rc_bRow (List.length_map _) fun i b hb => ?_) fun ta tn tc ev3 hr3 => ?_
    · rw [List.getElem?_map] at hb
      cases hx : X[i]? with
      | none => rw [hx] at hb; cases hb
      | some x => rw [hx] at hb; cases hb; exact hM.ke i x hx
    · subst ev3
      exact hK _ _ _ _ (hle1.trans hle7.le) hr3
end Go.Proofs
end
section
namespace Go.Proofs
open Go.Sy
set_option maxRecDepth 20000
set_option maxHeartbeats 4000000
/-! soughref40.System. -/
theorem boolE_k {P : Prop} {H : Hp} {a : Option Addr} {n c : Nat} {xs : List Bool} (h : RL H a n c xs) {i : Nat} {x : Bool} (hi : xs[i]? = some x) (k : ∀ ad, a = some ad → ElemH H ad (i : Int) 1 [.bool x] → P) : P :=
  elem_k h hi fun ad cs h1 h2 h3 => by
    have h3 : cs = [.bool x] := h3
    rw [h3] at h2
    exact k ad h1 h2
structure FamL (x : Expr) (l : List Stmt) (L : Nat → Bool) : Prop where
  z : L 0 = false
  st : ∀ k s, l[k]? = some s → L (k + 1) = (L k || killE s x)
  e : L l.length = losB x l
theorem famL_k {P : Prop} (x : Expr) (l : List Stmt) (k : ∀ L, FamL x l L → P) : P :=
  k (fun k => losB x (l.take k)) ⟨rfl, fun k s hs => losB_take hs, by rw [List.take_length]⟩
structure FamA (x : Expr) (s : Stmt) (b : Bool) (L : Nat → Bool) : Prop where
  z : L 0 = b
  st : ∀ q a, (atomsOf x)[q]? = some a → L (q + 1) = (L q || (!decide (s.1 = 3) && isA s.2.1.l a))
  e : stmtB s = true → L (atomsOf x).length = (b || killE s x)
theorem famA_k {P : Prop} (x : Expr) (s : Stmt) (b : Bool) (k : ∀ L, FamA x s b L → P) : P := by
  refine k (fun q => b || (!decide (s.1 = 3) && ((atomsOf x).take q).any (isA s.2.1.l))) ⟨?_, fun q a ha => ?_, fun hs => ?_⟩
  · simp
  · show (b || (!decide (s.1 = 3) && ((atomsOf x).take (q + 1)).any (isA s.2.1.l))) = _
    rw [any_take ha]
    cases b <;> cases decide (s.1 = 3) <;> cases ((atomsOf x).take q).any (isA s.2.1.l) <;> rfl
  · show (b || (!decide (s.1 = 3) && ((atomsOf x).take (atomsOf x).length).any (isA s.2.1.l))) = _
    rw [List.take_length, ← kill_as hs x, asksE]
    congr 2
    by_cases h3 : s.1 = 3
    · rw [decide_eq_true h3, decide_eq_false (show ¬ s.1 ≠ 3 from fun h => h h3)]; rfl
    · rw [decide_eq_false h3, decide_eq_true (show s.1 ≠ 3 from h3)]; rfl
theorem rasys_spec {p : Prog} (he : checkE p = 0) (hp : p.length ≤ 12) (hl : ∀ b ∈ p, b.2.1.length ≤ 100000) {a : Option Addr} {n c : Nat} {H : Hp} {K : Value → Hp → Prop} (ha : RL H a n c p)
    (hK : ∀ z H', Le H H' → Bt.SysR H' (asysOf p) z → K (Bt.sysA (asysOf p) z) H') : Does Tryz.prog 17 [.agg #[.slice a n c]] H K := by
  have hn := ha.n_eq
  have hmx := ha.le
  have hx5 := exprs512 he
  refine spec_of cx_ok cx_mix rfl Tryz.func17 Tryz.call17 Tryz.ntmps17 Tryz.results17 rfl rfl ?_
  refine rexprs_spec hp hl ha fun ax nx cx H1 hle1 hrx => ?_
  have hnx := hrx.n_eq
  subst hnx
  refine ⟨none, ?_⟩
  refine region_plan (α := SA) ?_ ?_
    (.two 5 6 (.two 5 10 (.two 6 8 (.two 6 10 (.two 8 10 (.one [2, 3] [0, 1, 2, 3, 4, 7, 5, 6, 8, 9, 10, 11]) (.one [2, 3] [0, 1, 2, 3, 4, 7, 5, 6, 10, 8, 9, 11])) (.one [2, 3] [0, 1, 2, 3, 4, 7, 5, 10, 6, 8, 9, 11])) (.two 6 10 (.one [2, 3] [0, 1, 2, 3, 4, 7, 5, 8, 6, 9, 10, 11]) (.two 8 10 (.one [2, 3] [0, 1, 2, 3, 4, 7, 5, 8, 10, 6, 9, 11]) (.one [2, 3] [0, 1, 2, 3, 4, 7, 5, 10, 8, 6, 9, 11])))) (.two 6 8 (.one [2, 3] [0, 1, 2, 3, 4, 7, 10, 5, 6, 8, 9, 11]) (.one [2, 3] [0, 1, 2, 3, 4, 7, 10, 5, 8, 6, 9, 11]))) (.two 5 10 (.two 8 10 (.one [2, 3] [0, 1, 2, 3, 4, 7, 6, 5, 8, 9, 10, 11]) (.one [2, 3] [0, 1, 2, 3, 4, 7, 6, 5, 10, 8, 9, 11])) (.two 6 10 (.one [2, 3] [0, 1, 2, 3, 4, 7, 6, 10, 5, 8, 9, 11]) (.one [2, 3] [0, 1, 2, 3, 4, 7, 10, 6, 5, 8, 9, 11]))))
    (fun z => ⟨[(1, .ptr 0 0), (2, .ptr 1 0), (3, .v (.slice ax (exprsOf p).length cx)), (4, .v (.int .i64 ((exprsOf p).length : Nat))), (5, .ptr 2 0)],
      [(0, .cells 24 [.v (.slice a n c)]), (1, .cells 32 (vL zSys)), (2, .cells 32 [.v (.int .i64 (2 : Nat)), .v (.int .i64 ((exprsOf p).length : Nat)), .v (.int .i64 n), .v (.slice z.ea z.en z.ec), .own 3, .v (.slice z.ia z.ni z.ic), .v (.slice none 0 0)]), (3, .row 3 1 iRow0)], 4⟩)
    (fun z H' => Le H1 H' ∧ RL H' z.ea z.en z.ec (gSort (edgesOf p)) ∧ RL H' z.ia z.ni z.ic (nilB (exprsOf p).length)) (by kernel_rfl) ⟨⟨⟨⟨⟨?_, ?_⟩, ?_⟩, ⟨?_, ⟨?_, ?_⟩⟩⟩, ⟨?_, ?_⟩⟩, ⟨⟨?_, ?_⟩, ⟨?_, ?_⟩⟩⟩ ?_
  · exact ⟨cx_ok.tt, cx_ok.eqs⟩
  · exact cx_mix
  · refine redges_spec hp (ha.up hle1) fun e1 e2 e3 H2 hle2 hr2 => ?_
    refine r10of_spec (w := (exprsOf p).length) (l := []) (by omega) rl_nil fun w1 w2 w3 H5 hle5 hr5 => ?_
    exact ⟨⟨e1, e2, e3, none, 0, 0, w1, w2, w3, none, 0, 0⟩, [(0, 0), (1, 1), (2, 3), (3, 2)], by (repeat' (first | exact trivial | refine ⟨?_, ?_⟩ | exact rfl | assumption)), hle2.trans hle5, hr2.up hle5, hr5⟩
  · refine redges_spec hp (ha.up hle1) fun e1 e2 e3 H2 hle2 hr2 => ?_
    refine r10of_spec (w := (exprsOf p).length) (l := []) (by omega) rl_nil fun w1 w2 w3 H5 hle5 hr5 => ?_
    exact ⟨⟨e1, e2, e3, none, 0, 0, w1, w2, w3, none, 0, 0⟩, [(0, 0), (1, 1), (2, 3), (3, 2)], by (repeat' (first | exact trivial | refine ⟨?_, ?_⟩ | exact rfl | assumption)), hle2.trans hle5, hr2.up hle5, hr5⟩
  · refine redges_spec hp (ha.up hle1) fun e1 e2 e3 H2 hle2 hr2 => ?_
    refine r10of_spec (w := (exprsOf p).length) (l := []) (by omega) rl_nil fun w1 w2 w3 H5 hle5 hr5 => ?_
    exact ⟨⟨e1, e2, e3, none, 0, 0, w1, w2, w3, none, 0, 0⟩, [(0, 0), (1, 1), (2, 2), (3, 3)], by (repeat' (first | exact trivial | refine ⟨?_, ?_⟩ | exact rfl | assumption)), hle2.trans hle5, hr2.up hle5, hr5⟩
  · refine redges_spec hp (ha.up hle1) fun e1 e2 e3 H2 hle2 hr2 => ?_
    refine r10of_spec (w := (exprsOf p).length) (l := []) (by omega) rl_nil fun w1 w2 w3 H5 hle5 hr5 => ?_
    exact ⟨⟨e1, e2, e3, none, 0, 0, w1, w2, w3, none, 0, 0⟩, [(0, 0), (1, 1), (2, 3), (3, 2)], by (repeat' (first | exact trivial | refine ⟨?_, ?_⟩ | exact rfl | assumption)), hle2.trans hle5, hr2.up hle5, hr5⟩
  · refine redges_spec hp (ha.up hle1) fun e1 e2 e3 H2 hle2 hr2 => ?_
    refine r10of_spec (w := (exprsOf p).length) (l := []) (by omega) rl_nil fun w1 w2 w3 H5 hle5 hr5 => ?_
    exact ⟨⟨e1, e2, e3, none, 0, 0, w1, w2, w3, none, 0, 0⟩, [(0, 0), (1, 1), (2, 2), (3, 3)], by (repeat' (first | exact trivial | refine ⟨?_, ?_⟩ | exact rfl | assumption)), hle2.trans hle5, hr2.up hle5, hr5⟩
  · refine redges_spec hp (ha.up hle1) fun e1 e2 e3 H2 hle2 hr2 => ?_
    refine r10of_spec (w := (exprsOf p).length) (l := []) (by omega) rl_nil fun w1 w2 w3 H5 hle5 hr5 => ?_
    exact ⟨⟨e1, e2, e3, none, 0, 0, w1, w2, w3, none, 0, 0⟩, [(0, 0), (1, 1), (2, 2), (3, 3)], by (repeat' (first | exact trivial | refine ⟨?_, ?_⟩ | exact rfl | assumption)), hle2.trans hle5, hr2.up hle5, hr5⟩
  · refine redges_spec hp (ha.up hle1) fun e1 e2 e3 H2 hle2 hr2 => ?_
    refine r10of_spec (w := (exprsOf p).length) (l := []) (by omega) rl_nil fun w1 w2 w3 H5 hle5 hr5 => ?_
    exact ⟨⟨e1, e2, e3, none, 0, 0, w1, w2, w3, none, 0, 0⟩, [(0, 0), (1, 1), (2, 2), (3, 3)], by (repeat' (first | exact trivial | refine ⟨?_, ?_⟩ | exact rfl | assumption)), hle2.trans hle5, hr2.up hle5, hr5⟩
  · refine redges_spec hp (ha.up hle1) fun e1 e2 e3 H2 hle2 hr2 => ?_
    refine r10of_spec (w := (exprsOf p).length) (l := []) (by omega) rl_nil fun w1 w2 w3 H5 hle5 hr5 => ?_
    exact ⟨⟨e1, e2, e3, none, 0, 0, w1, w2, w3, none, 0, 0⟩, [(0, 0), (1, 1), (2, 2), (3, 3)], by (repeat' (first | exact trivial | refine ⟨?_, ?_⟩ | exact rfl | assumption)), hle2.trans hle5, hr2.up hle5, hr5⟩
  · refine redges_spec hp (ha.up hle1) fun e1 e2 e3 H2 hle2 hr2 => ?_
    refine r10of_spec (w := (exprsOf p).length) (l := []) (by omega) rl_nil fun w1 w2 w3 H5 hle5 hr5 => ?_
    exact ⟨⟨e1, e2, e3, none, 0, 0, w1, w2, w3, none, 0, 0⟩, [(0, 0), (1, 1), (2, 3), (3, 2)], by (repeat' (first | exact trivial | refine ⟨?_, ?_⟩ | exact rfl | assumption)), hle2.trans hle5, hr2.up hle5, hr5⟩
  · refine redges_spec hp (ha.up hle1) fun e1 e2 e3 H2 hle2 hr2 => ?_
    refine r10of_spec (w := (exprsOf p).length) (l := []) (by omega) rl_nil fun w1 w2 w3 H5 hle5 hr5 => ?_
    exact ⟨⟨e1, e2, e3, none, 0, 0, w1, w2, w3, none, 0, 0⟩, [(0, 0), (1, 1), (2, 3), (3, 2)], by (repeat' (first | exact trivial | refine ⟨?_, ?_⟩ | exact rfl | assumption)), hle2.trans hle5, hr2.up hle5, hr5⟩
  · refine redges_spec hp (ha.up hle1) fun e1 e2 e3 H2 hle2 hr2 => ?_
    refine r10of_spec (w := (exprsOf p).length) (l := []) (by omega) rl_nil fun w1 w2 w3 H5 hle5 hr5 => ?_
    exact ⟨⟨e1, e2, e3, none, 0, 0, w1, w2, w3, none, 0, 0⟩, [(0, 0), (1, 1), (2, 3), (3, 2)], by (repeat' (first | exact trivial | refine ⟨?_, ?_⟩ | exact rfl | assumption)), hle2.trans hle5, hr2.up hle5, hr5⟩
  · refine redges_spec hp (ha.up hle1) fun e1 e2 e3 H2 hle2 hr2 => ?_
    refine r10of_spec (w := (exprsOf p).length) (l := []) (by omega) rl_nil fun w1 w2 w3 H5 hle5 hr5 => ?_
    exact ⟨⟨e1, e2, e3, none, 0, 0, w1, w2, w3, none, 0, 0⟩, [(0, 0), (1, 1), (2, 2), (3, 3)], by (repeat' (first | exact trivial | refine ⟨?_, ?_⟩ | exact rfl | assumption)), hle2.trans hle5, hr2.up hle5, hr5⟩
  rintro ⟨ea, en, ec, na, nn, nc, ia, ni, ic, ta, tn, tc⟩ H2 _ ⟨hle2, hze, hzi⟩
  dsimp only at hze hzi
  refine ⟨Nat × List (List Value), fun q => ⟨[(1, .ptr 0 0), (2, .ptr 1 0), (3, .v (.slice ax (exprsOf p).length cx)), (4, .v (.int .i64 ((exprsOf p).length : Nat))), (5, .ptr 2 0), (33, .v (.slice a n c)), (34, .v (.int .i64 n)), (35, .v (.int .i64 q.1))],
      [(0, .cells 24 [.v (.slice a n c)]), (1, .cells 32 (vL zSys)), (2, .cells 32 [.v (.int .i64 (2 : Nat)), .v (.int .i64 ((exprsOf p).length : Nat)), .v (.int .i64 n), .v (.slice ea en ec), .own 3, .v (.slice ia ni ic), .own 4]), (3, .row 3 1 iRow0), (4, .row 110 3 q.2)], 5⟩,
    fun q H' => Le H2 H' ∧ q.1 ≤ p.length ∧ RC (α := Bt.TrB) H' q.2 (((asysOf p).T.map Bt.TrB.mk).take q.1), fun q => p.length - q.1, ⟨(0, []), [(0, 0), (1, 1), (2, 2), (3, 3)], ?_, Le.refl _, Nat.zero_le _, RC.nil⟩, ?_⟩
  · (repeat' (first | exact trivial | refine ⟨?_, ?_⟩ | exact rfl | assumption))
  rintro ⟨j, css⟩ H4 _ ⟨hle4, hj, hrc⟩
  dsimp only at hj hrc
  have hle : Le H H4 := (hle1.trans hle2).trans hle4
  have hTl : ((asysOf p).T.map Bt.TrB.mk).length = p.length := by simp [asysOf]
  have hcl : css.length = j := by have h1 := hrc.1; rw [List.length_take] at h1; omega
  refine ⟨fun h => ?_, fun h => ?_⟩
  · have hlt : j < p.length := by have := dt h; dsimp only at this; omega
    refine name_k p[j] fun b hbe => ?_
    have hbb : p[j]? = some b := by rw [hbe]; exact List.getElem?_eq_getElem hlt
    have hbl := hl b (by rw [hbe]; exact List.getElem_mem hlt)
    have hBB := block_stmts ((check_facts he).2.2.2 b (List.mem_of_getElem? hbb))
    refine famS_k (exprsOf p) b.2.1 fun A B hS => ?_
    refine block_k (ha.up hle) hbb fun ad a5 n5 c5 q1 hh hr5 hs5 ht5 => ?_
    have hn5 : n5 = b.2.1.length := hr5.n_eq
    refine ⟨ad, ⟨by dsimp only; omega, by dsimp only; omega, q1⟩, ?_⟩
    refine ⟨_, hh, ?_⟩
    refine ⟨some ([6], [0, 1, 3, 4, 2, 5, 6]), by kernel_rfl, ?_⟩
    refine ⟨⟨rfl, by omega, by show ((exprsOf p).length : Int) * 1 ≤ _; omega, by omega⟩, ?_⟩
    intro kv H5 hle5 hkv
    have hkv : RowAt H5 kv 1 (bRow (exprsOf p).length fun _ => false) := by rw [← bRow_zero]; exact hkv
    refine name_k kv fun kv2 hke => ?_
    obtain ⟨ka, kc, ekv, _⟩ := id hkv
    subst ekv
    refine rafter_spec (X := exprsOf p) (l := b.2.1) (by omega) hbl hBB (hrx.up (hle2.trans (hle4.trans hle5.le))) hkv (hr5.up hle5.le) fun a6 n6 c6 H6 hle6 hr6 => ?_
    have hn6 := hr6.n_eq
    rw [List.length_map] at hn6
    have hle46 := hle5.le.trans hle6
    have hle06 := hle.trans hle46
    have hle16 := (hle2.trans hle4).trans hle46
    refine ⟨Nat, fun i => ⟨[(1, .ptr 0 0), (2, .ptr 1 0), (3, .v (.slice ax (exprsOf p).length cx)), (4, .v (.int .i64 ((exprsOf p).length : Nat))), (5, .ptr 2 0), (7, .ptr 5 0), (8, .v (.slice a6 n6 c6)), (9, .own 6), (10, .own 7), (33, .v (.slice a n c)), (34, .v (.int .i64 n)), (35, .v (.int .i64 j)), (45, .v (.slice ax (exprsOf p).length cx)), (46, .v (.int .i64 ((exprsOf p).length : Nat))), (47, .v (.int .i64 i))],
      [(0, .cells 24 [.v (.slice a n c)]), (1, .cells 32 (vL zSys)), (2, .cells 32 [.v (.int .i64 (2 : Nat)), .v (.int .i64 ((exprsOf p).length : Nat)), .v (.int .i64 n), .v (.slice ea en ec), .own 3, .v (.slice ia ni ic), .own 4]), (3, .row 3 1 iRow0), (4, .row 110 3 css), (5, .cells 57 (vL (blkL (.slice a5 n5 c5) b))), (6, .row 3 1 (iRows (A i))), (7, .row 3 1 (iRows (B i)))], 8⟩,
      fun i H' => Le H6 H' ∧ i ≤ (exprsOf p).length, fun i => (exprsOf p).length - i, ⟨0, [(0, 0), (1, 1), (2, 2), (3, 3), (4, 4), (5, 5)], ?_, Le.refl H6, Nat.zero_le _⟩, ?_⟩
    · have e1 : iRows (A 0) = [] := by rw [hS.a0]; rfl
      have e2 : iRows (B 0) = [] := by rw [hS.b0]; rfl
      (repeat' (first | exact trivial | refine ⟨?_, ?_⟩ | exact rfl | assumption))
    rintro i H7 _ ⟨hle7, hi⟩
    have hal := hS.al i
    have hbl2 := hS.bl i
    have hail : (iRows (A i)).length = (A i).length := List.length_map _
    have hbil : (iRows (B i)).length = (B i).length := List.length_map _
    refine ⟨fun h => ?_, fun h => ?_⟩
    · have hil : i < (exprsOf p).length := by have := dt h; omega
      refine name_k (exprsOf p)[i] fun x hxe => ?_
      have hxx : (exprsOf p)[i]? = some x := by rw [hxe]; exact List.getElem?_eq_getElem hil
      have hA1 := hS.a1 i x hxx
      have hB1 := hS.b1 i x hxx
      refine expr_k (hrx.up (hle16.trans hle7)) hxx fun ad2 q2 hh2 hRx => ?_
      refine ⟨ad2, ⟨by omega, by omega, q2⟩, ?_⟩
      refine ⟨_, hh2, ?_⟩
      refine famL_k x b.2.1 fun L hL => ?_
      refine ⟨Nat, fun k => ⟨[(1, .ptr 0 0), (2, .ptr 1 0), (3, .v (.slice ax (exprsOf p).length cx)), (4, .v (.int .i64 ((exprsOf p).length : Nat))), (5, .ptr 2 0), (7, .ptr 5 0), (8, .v (.slice a6 n6 c6)), (9, .own 6), (10, .own 7), (11, .v (.int .i64 i)), (12, .ptr 8 0), (13, .v (.bool (L k))), (33, .v (.slice a n c)), (34, .v (.int .i64 n)), (35, .v (.int .i64 j)), (45, .v (.slice ax (exprsOf p).length cx)), (46, .v (.int .i64 ((exprsOf p).length : Nat))), (47, .v (.int .i64 i)), (53, .v (.slice a5 n5 c5)), (54, .v (.int .i64 n5)), (55, .v (.int .i64 k))],
      [(0, .cells 24 [.v (.slice a n c)]), (1, .cells 32 (vL zSys)), (2, .cells 32 [.v (.int .i64 (2 : Nat)), .v (.int .i64 ((exprsOf p).length : Nat)), .v (.int .i64 n), .v (.slice ea en ec), .own 3, .v (.slice ia ni ic), .own 4]), (3, .row 3 1 iRow0), (4, .row 110 3 css), (5, .cells 57 (vL (blkL (.slice a5 n5 c5) b))), (6, .row 3 1 (iRows (A i))), (7, .row 3 1 (iRows (B i))), (8, .cells 82 (vL (exprV x)))], 9⟩,
        fun k H' => Le H7 H' ∧ k ≤ b.2.1.length, fun k => b.2.1.length - k, ⟨0, [(0, 0), (1, 1), (2, 2), (3, 3), (4, 4), (5, 5), (6, 6), (7, 7), (8, 8)], ?_, Le.refl H7, Nat.zero_le _⟩, ?_⟩
      · have e1 : Value.bool false = Value.bool (L 0) := by rw [hL.z]
        have e1' : Value.bool (L 0) = Value.bool false := e1.symm
        (repeat' (first | exact trivial | refine ⟨?_, ?_⟩ | exact rfl | assumption))
      rintro k H8 _ ⟨hle8, hk⟩
      refine ⟨fun h => ?_, fun h => ?_⟩
      · have hlk : k < b.2.1.length := by have := dt h; omega
        refine name_k b.2.1[k] fun s hse => ?_
        have hss : b.2.1[k]? = some s := by rw [hse]; exact List.getElem?_eq_getElem hlk
        have hBs := hBB s (List.mem_of_getElem? hss)
        refine stmt_k (hr5.up (((hle46.trans hle7).trans hle8))) hss fun ad3 q3 hh3 hR => ?_
        refine ⟨ad3, ⟨by omega, by omega, q3⟩, ?_⟩
        refine ⟨_, hh3, ?_⟩
        refine ratoms_spec hRx fun a8 n8 c8 H9 hle9 hr8 => ?_
        have hn8 := hr8.n_eq
        have hm8 := hr8.le
        refine famA_k x s (L k) fun M hM => ?_
        refine ⟨Nat, fun q => ⟨[(1, .ptr 0 0), (2, .ptr 1 0), (3, .v (.slice ax (exprsOf p).length cx)), (4, .v (.int .i64 ((exprsOf p).length : Nat))), (5, .ptr 2 0), (7, .ptr 5 0), (8, .v (.slice a6 n6 c6)), (9, .own 6), (10, .own 7), (11, .v (.int .i64 i)), (12, .ptr 8 0), (13, .v (.bool (M q))), (15, .ptr 9 0), (33, .v (.slice a n c)), (34, .v (.int .i64 n)), (35, .v (.int .i64 j)), (45, .v (.slice ax (exprsOf p).length cx)), (46, .v (.int .i64 ((exprsOf p).length : Nat))), (47, .v (.int .i64 i)), (53, .v (.slice a5 n5 c5)), (54, .v (.int .i64 n5)), (55, .v (.int .i64 k)), (60, .v (.slice a8 n8 c8)), (61, .v (.int .i64 n8)), (62, .v (.int .i64 q))],
      [(0, .cells 24 [.v (.slice a n c)]), (1, .cells 32 (vL zSys)), (2, .cells 32 [.v (.int .i64 (2 : Nat)), .v (.int .i64 ((exprsOf p).length : Nat)), .v (.int .i64 n), .v (.slice ea en ec), .own 3, .v (.slice ia ni ic), .own 4]), (3, .row 3 1 iRow0), (4, .row 110 3 css), (5, .cells 57 (vL (blkL (.slice a5 n5 c5) b))), (6, .row 3 1 (iRows (A i))), (7, .row 3 1 (iRows (B i))), (8, .cells 82 (vL (exprV x))), (9, .cells 84 (vL (stmtV s)))], 10⟩,
          fun q H' => Le H9 H' ∧ q ≤ (atomsOf x).length, fun q => (atomsOf x).length - q, ⟨0, [(0, 0), (1, 1), (2, 2), (3, 3), (4, 4), (5, 5), (6, 6), (7, 7), (8, 8), (9, 9)], ?_, Le.refl H9, Nat.zero_le _⟩, ?_⟩
        · have e1 : SV.v (Value.bool (L k)) = SV.v (Value.bool (M 0)) := by rw [hM.z]
          (repeat' (first | exact trivial | refine ⟨?_, ?_⟩ | exact rfl | assumption))
        rintro q H10 _ ⟨hle10, hq⟩
        refine ⟨fun h => ?_, fun h => ?_⟩
        · have hlq : q < (atomsOf x).length := by have := dt h; omega
          refine name_k (atomsOf x)[q] fun y hye => ?_
          have hyy : (atomsOf x)[q]? = some y := by rw [hye]; exact List.getElem?_eq_getElem hlq
          have hM1 := hM.st q y hyy
          refine atom_k (hr8.up hle10) hyy fun ad4 q4 hh4 hRy => ?_
          refine ⟨ad4, ⟨by omega, by omega, q4⟩, ?_⟩
          refine ⟨_, hh4, ?_⟩
          refine ⟨fun h1 => ?_, fun h1 => ?_⟩
          · have h1 : M q = false := h1
            rw [h1, Bool.false_or] at hM1
            refine ⟨fun h2 => ?_, fun h2 => ?_⟩
            · have h2 : ¬ s.1 = 3 := by simpa using h2
              have e2 : SV.v (Value.bool (decide (y.1.l = s.2.1.l))) = SV.v (Value.bool (M (q + 1))) := by rw [hM1, decide_eq_false h2]; rfl
              refine ⟨⟨by omega, by omega⟩, q + 1, [(0, 0), (1, 1), (2, 2), (3, 3), (4, 4), (5, 5), (6, 6), (7, 7), (8, 8), (9, 9)], ?_, ⟨hle10, hlq⟩, by dsimp only; omega⟩
              (repeat' (first | exact trivial | refine ⟨?_, ?_⟩ | exact rfl | assumption))
            · have h2 : s.1 = 3 := by simpa using h2
              have e2 : Value.bool false = Value.bool (M (q + 1)) := by rw [hM1, decide_eq_true h2]; rfl
              have e3 : Value.bool (M (q + 1)) = Value.bool false := e2.symm
              refine ⟨⟨by omega, by omega⟩, q + 1, [(0, 0), (1, 1), (2, 2), (3, 3), (4, 4), (5, 5), (6, 6), (7, 7), (8, 8), (9, 9)], ?_, ⟨hle10, hlq⟩, by dsimp only; omega⟩
              (repeat' (first | exact trivial | refine ⟨?_, ?_⟩ | exact rfl | assumption))
          · have h1 : M q = true := h1
            rw [h1, Bool.true_or] at hM1
            have e1 : Value.bool true = Value.bool (M (q + 1)) := by rw [hM1]
            have e1' : Value.bool (M (q + 1)) = Value.bool true := e1.symm
            refine ⟨⟨by omega, by omega⟩, q + 1, [(0, 0), (1, 1), (2, 2), (3, 3), (4, 4), (5, 5), (6, 6), (7, 7), (8, 8), (9, 9)], ?_, ⟨hle10, hlq⟩, by dsimp only; omega⟩
            (repeat' (first | exact trivial | refine ⟨?_, ?_⟩ | exact rfl | assumption))
        · have hlq : q = (atomsOf x).length := by have := df h; omega
          subst hlq
          have e1 : SV.v (Value.bool (M (atomsOf x).length)) = SV.v (Value.bool (L (k + 1))) := by rw [hM.e hBs, hL.st k s hss]
          refine ⟨⟨by omega, by omega⟩, k + 1, [(0, 0), (1, 1), (2, 2), (3, 3), (4, 4), (5, 5), (6, 6), (7, 7), (8, 8)], ?_, ⟨hle8.trans (hle9.trans hle10), hlk⟩, by dsimp only; omega⟩
          (repeat' (first | exact trivial | refine ⟨?_, ?_⟩ | exact rfl | assumption))
      · have hlk : k = b.2.1.length := by have := df h; omega
        subst hlk
        have hbk : ((exprsOf p).map fun x => knB x b.2.1)[i]? = some (knB x b.2.1) := by rw [List.getElem?_map, hxx]; rfl
        refine boolE_k (hr6.up (hle7.trans hle8)) hbk fun ad5 q5 hh5 => ?_
        refine ⟨ad5, ⟨by omega, by omega, q5⟩, ?_⟩
        refine ⟨_, hh5, ?_⟩
        have hLe := hL.e
        refine ⟨fun h1 => ?_, fun h1 => ?_⟩
        · have h1 : knB x b.2.1 = true := h1
          have e1 : iRows (A i) ++ [[.int .i64 (i : Nat)]] = iRows (A (i + 1)) := by rw [hA1, if_pos h1, iRows, iRows, List.map_append]; rfl
          have e2 : iRows (B i) = iRows (B (i + 1)) := by rw [hB1, h1, if_neg (by simp), List.append_nil]
          refine ⟨⟨by show (_ + 1) * 8 ≤ 140737488355328; omega, by show _ + 1 ≤ 9223372036854775807; omega⟩, ?_⟩
          refine ⟨⟨by omega, by omega⟩, i + 1, [(0, 0), (1, 1), (2, 2), (3, 3), (4, 4), (5, 5), (6, 10), (7, 7)], ?_, ⟨hle7.trans hle8, hil⟩, by dsimp only; omega⟩
          (repeat' (first | exact trivial | refine ⟨?_, ?_⟩ | exact rfl | assumption))
        · have h1 : knB x b.2.1 = false := h1
          have e1 : iRows (A i) = iRows (A (i + 1)) := by rw [hA1, h1, if_neg (by decide), List.append_nil]
          refine ⟨fun h2 => ?_, fun h2 => ?_⟩
          · have h2 : losB x b.2.1 = true := hLe.symm.trans h2
            have e2 : iRows (B i) ++ [[.int .i64 (i : Nat)]] = iRows (B (i + 1)) := by rw [hB1, h1, h2, if_pos (by decide), iRows, iRows, List.map_append]; rfl
            refine ⟨⟨by show (_ + 1) * 8 ≤ 140737488355328; omega, by show _ + 1 ≤ 9223372036854775807; omega⟩, ?_⟩
            refine ⟨⟨by omega, by omega⟩, i + 1, [(0, 0), (1, 1), (2, 2), (3, 3), (4, 4), (5, 5), (6, 6), (7, 10)], ?_, ⟨hle7.trans hle8, hil⟩, by dsimp only; omega⟩
            (repeat' (first | exact trivial | refine ⟨?_, ?_⟩ | exact rfl | assumption))
          · have h2 : losB x b.2.1 = false := hLe.symm.trans h2
            have e2 : iRows (B i) = iRows (B (i + 1)) := by rw [hB1, h1, h2, if_neg (by decide), List.append_nil]
            refine ⟨⟨by omega, by omega⟩, i + 1, [(0, 0), (1, 1), (2, 2), (3, 3), (4, 4), (5, 5), (6, 6), (7, 7)], ?_, ⟨hle7.trans hle8, hil⟩, by dsimp only; omega⟩
            (repeat' (first | exact trivial | refine ⟨?_, ?_⟩ | exact rfl | assumption))
    · have hil : i = (exprsOf p).length := by have := df h; omega
      subst hil
      have hAi := hS.ai (exprsOf p).length (by omega)
      have hBi := hS.bi (exprsOf p).length (by omega)
      refine ⟨none, ?_⟩
      refine region_plan (α := List (List Value)) ?_ ?_
        (.two 1 4 (.one [2, 4, 6, 7, 8, 9] [0, 2, 3, 5, 6, 1, 4, 7, 8, 9, 10, 11, 12]) (.two 1 7 (.one [2, 4, 6, 7, 8, 9] [0, 2, 3, 5, 6, 4, 1, 7, 8, 9, 10, 11, 12]) (.two 1 9 (.one [2, 4, 6, 7, 8, 9] [0, 2, 3, 5, 6, 4, 7, 8, 1, 9, 10, 11, 12]) (.one [2, 4, 6, 7, 8, 9] [0, 2, 3, 5, 6, 4, 7, 8, 9, 1, 10, 11, 12]))))
        (fun c' => ⟨[(1, .ptr 0 0), (2, .ptr 1 0), (3, .v (.slice ax (exprsOf p).length cx)), (4, .v (.int .i64 ((exprsOf p).length : Nat))), (5, .ptr 2 0), (33, .v (.slice a n c)), (34, .v (.int .i64 n)), (35, .v (.int .i64 j))],
          [(0, .cells 24 [.v (.slice a n c)]), (1, .cells 32 (vL zSys)), (2, .cells 32 [.v (.int .i64 (2 : Nat)), .v (.int .i64 ((exprsOf p).length : Nat)), .v (.int .i64 n), .v (.slice ea en ec), .own 3, .v (.slice ia ni ic), .own 4]), (3, .row 3 1 iRow0), (4, .row 110 3 c')], 5⟩)
        (fun c' H' => Le H7 H' ∧ RC (α := Bt.TrB) H' c' (((asysOf p).T.map Bt.TrB.mk).take (j + 1))) (by kernel_rfl) ⟨?_, ⟨?_, ⟨?_, ?_⟩⟩⟩ ?_
      · exact ⟨cx_ok.tt, cx_ok.eqs⟩
      · exact cx_mix
      · intro y1 H8 hle8 hy1
        refine of_row_k (α := Int) hy1 (rc_iRows hAi) fun d1 d2 d3 ev1 hr1 => ?_
        subst ev1
        refine r10of_spec (w := (exprsOf p).length) (by omega) hr1 fun g1 g2 g3 H9 hle9 hg => ?_
        intro y2 H10 hle10 hy2
        refine of_row_k (α := Int) hy2 (rc_iRows hBi) fun f1 f2 f3 ev2 hr2 => ?_
        subst ev2
        refine r10of_spec (w := (exprsOf p).length) (by omega) hr2 fun k1 k2 k3 H11 hle11 hk11 => ?_
        refine ⟨⟨by show (css.length + 1) * 72 ≤ 140737488355328; omega, by show css.length + 1 ≤ 9223372036854775807; omega⟩, ?_⟩
        have hle7' := ((hle8.le.trans hle9).trans hle10.le).trans hle11
        have htr : Bt.TrR H11 (atrF (exprsOf p) b) ⟨g1, g2, g3, k1, k2, k3⟩ := by
          rw [atrF, ← hS.ae, ← hS.be]
          exact ⟨hg.up (hle10.le.trans hle11), hk11⟩
        have hrc2 : RC (α := Bt.TrB) H11 (css ++ [Bt.trV ⟨g1, g2, g3, k1, k2, k3⟩]) (((asysOf p).T.map Bt.TrB.mk).take (j + 1)) := by
          rw [asysT_take hbb]; exact trb_snoc (RC.up hrc ((hle46.trans hle7).trans hle7')) htr
        exact ⟨css ++ [Bt.trV ⟨g1, g2, g3, k1, k2, k3⟩], [(0, 0), (1, 1), (2, 2), (3, 3), (4, 9)], by (repeat' (first | exact trivial | refine ⟨?_, ?_⟩ | exact rfl | assumption)), hle7', hrc2⟩
      · intro y1 H8 hle8 hy1
        refine of_row_k (α := Int) hy1 (rc_iRows hAi) fun d1 d2 d3 ev1 hr1 => ?_
        subst ev1
        refine r10of_spec (w := (exprsOf p).length) (by omega) hr1 fun g1 g2 g3 H9 hle9 hg => ?_
        intro y2 H10 hle10 hy2
        refine of_row_k (α := Int) hy2 (rc_iRows hBi) fun f1 f2 f3 ev2 hr2 => ?_
        subst ev2
        refine r10of_spec (w := (exprsOf p).length) (by omega) hr2 fun k1 k2 k3 H11 hle11 hk11 => ?_
        refine ⟨⟨by show (css.length + 1) * 72 ≤ 140737488355328; omega, by show css.length + 1 ≤ 9223372036854775807; omega⟩, ?_⟩
        have hle7' := ((hle8.le.trans hle9).trans hle10.le).trans hle11
        have htr : Bt.TrR H11 (atrF (exprsOf p) b) ⟨g1, g2, g3, k1, k2, k3⟩ := by
          rw [atrF, ← hS.ae, ← hS.be]
          exact ⟨hg.up (hle10.le.trans hle11), hk11⟩
        have hrc2 : RC (α := Bt.TrB) H11 (css ++ [Bt.trV ⟨g1, g2, g3, k1, k2, k3⟩]) (((asysOf p).T.map Bt.TrB.mk).take (j + 1)) := by
          rw [asysT_take hbb]; exact trb_snoc (RC.up hrc ((hle46.trans hle7).trans hle7')) htr
        exact ⟨css ++ [Bt.trV ⟨g1, g2, g3, k1, k2, k3⟩], [(0, 0), (1, 1), (2, 2), (3, 3), (4, 9)], by (repeat' (first | exact trivial | refine ⟨?_, ?_⟩ | exact rfl | assumption)), hle7', hrc2⟩
      · intro y1 H8 hle8 hy1
        refine of_row_k (α := Int) hy1 (rc_iRows hAi) fun d1 d2 d3 ev1 hr1 => ?_
        subst ev1
        refine r10of_spec (w := (exprsOf p).length) (by omega) hr1 fun g1 g2 g3 H9 hle9 hg => ?_
        intro y2 H10 hle10 hy2
        refine of_row_k (α := Int) hy2 (rc_iRows hBi) fun f1 f2 f3 ev2 hr2 => ?_
        subst ev2
        refine r10of_spec (w := (exprsOf p).length) (by omega) hr2 fun k1 k2 k3 H11 hle11 hk11 => ?_
        refine ⟨⟨by show (css.length + 1) * 72 ≤ 140737488355328; omega, by show css.length + 1 ≤ 9223372036854775807; omega⟩, ?_⟩
        have hle7' := ((hle8.le.trans hle9).trans hle10.le).trans hle11
        have htr : Bt.TrR H11 (atrF (exprsOf p) b) ⟨g1, g2, g3, k1, k2, k3⟩ := by
          rw [atrF, ← hS.ae, ← hS.be]
          exact ⟨hg.up (hle10.le.trans hle11), hk11⟩
        have hrc2 : RC (α := Bt.TrB) H11 (css ++ [Bt.trV ⟨g1, g2, g3, k1, k2, k3⟩]) (((asysOf p).T.map Bt.TrB.mk).take (j + 1)) := by
          rw [asysT_take hbb]; exact trb_snoc (RC.up hrc ((hle46.trans hle7).trans hle7')) htr
        exact ⟨css ++ [Bt.trV ⟨g1, g2, g3, k1, k2, k3⟩], [(0, 0), (1, 1), (2, 2), (3, 3), (4, 9)], by (repeat' (first | exact trivial | refine ⟨?_, ?_⟩ | exact rfl | assumption)), hle7', hrc2⟩
      · intro y1 H8 hle8 hy1
        refine of_row_k (α := Int) hy1 (rc_iRows hAi) fun d1 d2 d3 ev1 hr1 => ?_
        subst ev1
        refine r10of_spec (w := (exprsOf p).length) (by omega) hr1 fun g1 g2 g3 H9 hle9 hg => ?_
        intro y2 H10 hle10 hy2
        refine of_row_k (α := Int) hy2 (rc_iRows hBi) fun f1 f2 f3 ev2 hr2 => ?_
        subst ev2
        refine r10of_spec (w := (exprsOf p).length) (by omega) hr2 fun k1 k2 k3 H11 hle11 hk11 => ?_
        refine ⟨⟨by show (css.length + 1) * 72 ≤ 140737488355328; omega, by show css.length + 1 ≤ 9223372036854775807; omega⟩, ?_⟩
        have hle7' := ((hle8.le.trans hle9).trans hle10.le).trans hle11
        have htr : Bt.TrR H11 (atrF (exprsOf p) b) ⟨g1, g2, g3, k1, k2, k3⟩ := by
          rw [atrF, ← hS.ae, ← hS.be]
          exact ⟨hg.up (hle10.le.trans hle11), hk11⟩
        have hrc2 : RC (α := Bt.TrB) H11 (css ++ [Bt.trV ⟨g1, g2, g3, k1, k2, k3⟩]) (((asysOf p).T.map Bt.TrB.mk).take (j + 1)) := by
          rw [asysT_take hbb]; exact trb_snoc (RC.up hrc ((hle46.trans hle7).trans hle7')) htr
        exact ⟨css ++ [Bt.trV ⟨g1, g2, g3, k1, k2, k3⟩], [(0, 0), (1, 1), (2, 2), (3, 3), (4, 9)], by (repeat' (first | exact trivial | refine ⟨?_, ?_⟩ | exact rfl | assumption)), hle7', hrc2⟩
      rintro c' H9 _ ⟨hle9, hrc9⟩
      refine ⟨⟨by omega, by omega⟩, (j + 1, c'), [(0, 0), (1, 1), (2, 2), (3, 3), (4, 4)], ?_, ⟨((hle4.trans hle46).trans hle7).trans hle9, hlt, hrc9⟩, by dsimp only; omega⟩
      (repeat' (first | exact trivial | refine ⟨?_, ?_⟩ | exact rfl | assumption))
  · have hjl : j = p.length := by have := df h; dsimp only at this; omega
    rw [hjl, List.take_of_length_le (by omega)] at hrc
    intro v1 H5 hle5 hv1
    refine ints_k hv1 fun na nn nc ev1 hr1 => ?_
    subst ev1
    intro v3 H7 hle7 hv3
    refine of_row_k (α := Bt.TrB) hv3 (RC.up hrc (hle5.le.trans hle7.le)) fun ta tn tc ev3 hr3 => ?_
    subst ev3
    have h57 := hle5.le.trans hle7.le
    have hsys : Bt.SysR H7 (asysOf p) ⟨ea, en, ec, na, nn, nc, ia, ni, ic, ta, tn, tc⟩ :=
      ⟨hze.up (hle4.trans h57), hr1.up hle7.le, hzi.up (hle4.trans h57), hr3⟩
    have hK := hK ⟨ea, en, ec, na, nn, nc, ia, ni, ic, ta, tn, tc⟩ H7 (hle.trans h57) hsys
    have e2 : (asysOf p).m = n := hn.symm
    rw [Bt.sysA, Bt.sysV, e2] at hK
    exact hK
end Go.Proofs
end
section
namespace Go.Proofs
open Go.Sy
set_option maxRecDepth 20000
set_option maxHeartbeats 4000000
/-! soughref10.List, soughref09.Same. -/
def exY : Expr := (4, (⟨[120]⟩, 0, 0), (⟨[]⟩, 0, 0))
def stAy : Stmt := (1, ⟨[121]⟩, exY)
def blAa : Block := (⟨[97]⟩, [], (3, za, ⟨[]⟩, ⟨[]⟩))
def blAb : Block := (⟨[98]⟩, [stAy], (3, za, ⟨[]⟩, ⟨[]⟩))
def progA : Prog := [blAa, blAb]
theorem avail_A : (availI progA).map List.length = [0, 1] := by decide +kernel
theorem check_A : checkE progA = 0 := by decide +kernel
end Go.Proofs
end
section
namespace Go.Proofs
open Go.Sy
set_option maxRecDepth 20000
set_option maxHeartbeats 4000000
/-! The example of avail; AvailSystems, AvailSets. -/
theorem zero_RA : i64R 0 := ⟨by decide, by decide⟩
theorem two_len {L : List (List Int)} (h : L.map List.length = [0, 1]) : ∃ l0 l1 : List Int, L = [l0, l1] ∧ l0.length = 0 ∧ l1.length = 1 := by
  cases L with
  | nil => simp at h
  | cons l0 r => cases r with
    | nil => simp at h
    | cons l1 r => cases r with
      | cons _ _ => simp at h
      | nil =>
        rw [List.map_cons, List.map_cons, List.map_nil] at h
        have h1 := List.cons.inj h
        have h2 := List.cons.inj h1.2
        exact ⟨l0, l1, rfl, h1.1, h2.1⟩
theorem stAy_R : stmtR stAy := ⟨⟨by decide, by decide⟩, Nat.le_of_lt_succ (by decide), ⟨by decide, by decide⟩, ⟨Nat.le_of_lt_succ (by decide), zero_RA, zero_RA⟩, ⟨Nat.zero_le _, zero_RA, zero_RA⟩⟩
theorem availI_len : (availI progA).length = 2 := by decide +kernel
theorem awake40_spec {H : Hp} {K : Value → Hp → Prop} (hT : TabH H) (hK : ∀ H', Le H H' → K (.bool true) H') : Does Tryz.prog 12 [] H K := by
  refine spec_of cx_ok cx_mix rfl Tryz.func12 Tryz.call12 Tryz.ntmps12 Tryz.results12 rfl rfl ?_
  intro x2 H2 hle2 hx2
  refine of_row_k (α := Stmt) hx2 (show RC (α := Stmt) H2 _ [stAy] from RC.nil.snoc (stmt_mk2 stAy_R)) fun sb sm sd ex2 hr2 => ?_
  subst ex2
  intro y H3 hle3 hy
  refine of_row_k (α := Block) hy (show RC (α := Block) H3 _ progA from (RC.nil.snoc (block_mk (b := blAa) rl_nil (Nat.le_of_lt_succ (by decide)) ⟨⟨by decide, by decide⟩, za_R, Nat.zero_le _, Nat.zero_le _⟩)).snoc (block_mk (b := blAb) (hr2.up hle3.le) (Nat.le_of_lt_succ (by decide)) ⟨⟨by decide, by decide⟩, za_R, Nat.zero_le _, Nat.zero_le _⟩)) fun a n c ey hr => ?_
  subst ey
  have hle := hle2.le.trans hle3.le
  refine asets_spec (p := progA) (by decide) (by decide) (by decide) (by decide) hr (hT.up hle) (fun he => absurd check_A he) fun he a1 n1 c1 a2 n2 c2 H4 hle4 hr4 hr5 => ?_
  have hn1 := hr4.n_eq
  rw [availI_len] at hn1
  subst hn1
  obtain ⟨l0, l1, eA, hl0, hl1⟩ := two_len avail_A
  rw [eA] at hr4
  refine ⟨fun _ => ?_, fun h => absurd rfl (df h)⟩
  refine ⟨fun _ => ?_, fun h => absurd rfl (df h)⟩
  refine list_k hr4 (i := 0) (x := l0) rfl fun ad a5 n5 c5 q1 hh hr6 => ?_
  have hn5 := hr6.n_eq
  rw [hl0] at hn5
  subst hn5
  refine ⟨ad, ⟨by omega, by omega, q1⟩, ?_⟩
  refine ⟨_, hh, ?_⟩
  refine ⟨fun _ => ?_, fun h => absurd rfl (df h)⟩
  refine list_k hr4 (i := 1) (x := l1) rfl fun ad2 a6 n6 c6 q2 hh2 hr7 => ?_
  have hn6 := hr7.n_eq
  rw [hl1] at hn6
  subst hn6
  refine ⟨ad2, ⟨by omega, by omega, q2⟩, ?_⟩
  refine ⟨_, hh2, ?_⟩
  exact hK _ (hle.trans hle4)
theorem AvailSystems_spec {p : Prog} {a : Option Addr} {n c : Nat} {H : Hp} {K : Value → Hp → Prop} (ha : RL H a n c p) (hT : TabH H) (hK : ∀ H', Le H H' → K (.bool true) H') : Does Tryz.prog 3 [.agg #[.slice a n c]] H K := by
  refine spec_of cx_ok cx_mix rfl Tryz.func3 Tryz.call3 Tryz.ntmps3 Tryz.results3 rfl rfl ?_
  refine awake40_spec hT fun _ _ => ?_
  refine ⟨(fun h => by cases h), fun _ => ?_⟩
  refine small4_spec ha fun t ht => ?_
  refine ⟨fun ht0 => ?_, fun ht1 => ?_⟩
  · exact hK _ (Le.refl H)
  have hb4 := ht (by simpa using ht1)
  have hp := hb4.1
  have hl : ∀ b ∈ p, b.2.1.length ≤ 100000 := fun b h => by have := (hb4.2 b h).1.1; omega
  have hc : stmtsN p ≤ 1000000 := small_stmts hb4
  have hv : cnt p < 400000 := small_cnt hb4
  refine asys_spec hp hl hc hv ha (fun he H2 hle2 => ?_) (fun he z H2 hle2 hs => ?_)
  · refine rcheck_spec (ha.up hle2) hc hv fun _ _ => ?_
    refine ⟨fun _ => ?_, fun h => absurd (nf h) he⟩
    refine ⟨fun _ => ?_, fun h => absurd rfl (df h)⟩
    refine alike0_spec ?_
    exact hK _ hle2
  · refine rcheck_spec (ha.up hle2) hc hv fun _ _ => ?_
    refine ⟨fun h => absurd he (nt h), fun _ => ?_⟩
    refine ⟨some ([], [0, 1, 2, 3, 4, 5, 6, 7, 8]), by kernel_rfl, ?_⟩
    refine ⟨fun _ => ?_, fun h => absurd rfl (df h)⟩
    refine rasys_spec he hp hl (ha.up hle2) fun y H6 hle6 hs6 => ?_
    refine Bt.alike_spec (hs.up hle6) hs6 ?_
    exact hK _ (hle2.trans hle6)
end Go.Proofs
end
