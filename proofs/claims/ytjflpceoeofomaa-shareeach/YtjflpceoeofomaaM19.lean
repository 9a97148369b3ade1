/- Part 'M19' of the proof (U7a, U7b, U7, U8, U9, V1, V2, V3, W1, X1, X2, Y1, Y3): lemmas, each with its own conditions in its own statement. -/
import Derived.Test.YtjflpceoeofomaaM18
import Derived.Test.YtjflpceoeofomaaM7
section
/- A region of scc.Of whose order is open: four blocks are made in whatever order. -/
namespace Go.Proofs
open Go.Sy
set_option maxRecDepth 20000
set_option maxHeartbeats 4000000
inductive Ch
  | z | m | d
def chE (t u k : Nat) (m : Int) : Ch → List (Nat × SV)
  | .z => []
  | .m => [(t, .v (.int .i64 m))]
  | .d => [(u, .own k)]
def chB (k : Nat) (b : Bx) : Ch → List (Nat × Bx)
  | .d => [(k, b)]
  | _ => []
abbrev X3 := (Ch × Ch × Ch × Bool) ⊕ Option Bool
def bz (m : Int) : Bx := .row 3 1 (List.replicate m.toNat [.int .i64 0])
def bf (m : Int) : Bx := .row 4 1 (List.replicate m.toNat [.bool false])
def z84 : Bx := .cells 84 [.v (.slice none 0 0), .v (.slice none 0 0), .v (.slice none 0 0), .v (.slice none 0 0), .v (.slice none 0 0), .v (.int .i64 0), .v (.slice none 0 0)]
def a84 : List SV := [.v (.slice none 0 0), .own 0, .own 1, .own 2, .v (.slice none 0 0), .v (.int .i64 0), .v (.slice none 0 0)]
def alE : Bool → List (Nat × SV)
  | true => [(6, .ptr 3 0)]
  | false => []
def alB : Bool → List (Nat × Bx)
  | true => [(3, z84)]
  | false => []
def T3 (m : Int) (v : Value) : X3 → St
  | .inl (p, q, r, a) => ⟨[(0, .v (.int .i64 m)), (1, .v v)] ++ chE 13 14 0 m p ++ chE 15 16 1 m q ++ chE 17 18 2 m r ++ alE a, chB 0 (bz m) p ++ chB 1 (bz m) q ++ chB 2 (bf m) r ++ alB a, 4⟩
  | .inr (some a) => ⟨[(0, .v (.int .i64 m)), (1, .v v), (19, .agg a84)] ++ alE a, [(0, bz m), (1, bz m), (2, bf m)] ++ alB a, 4⟩
  | .inr none => ⟨[(0, .v (.int .i64 m)), (1, .v v), (6, .ptr 3 0)], [(0, bz m), (1, bz m), (2, bf m), (3, .cells 84 a84)], 4⟩
def chA : Ch → Bool
  | .z => false
  | _ => true
def chD : Ch → Bool
  | .d => true
  | _ => false
def L3 : X3 → Array Bool
  | .inl (p, q, r, a) => #[chA p, chD p, chA q, chD q, chA r, chD r, false, a, false]
  | .inr (some a) => #[true, true, true, true, true, true, true, a, false]
  | .inr none => #[true, true, true, true, true, true, true, true, true]
def ops3 : Array Oper := #[
  { dst := some 13, op := .move (.tmp 0), type := 3, pos := "scc.go:107", after := #[], guard := none },
  { dst := some 14, op := .makeSlice 27 (.tmp 13) (.tmp 13), type := 27, pos := "scc.go:107", after := #[{ on := 0, ground := .data }, { on := 0, ground := .data }], guard := none },
  { dst := some 15, op := .move (.tmp 0), type := 3, pos := "scc.go:107", after := #[], guard := none },
  { dst := some 16, op := .makeSlice 27 (.tmp 15) (.tmp 15), type := 27, pos := "scc.go:107", after := #[{ on := 2, ground := .data }, { on := 2, ground := .data }], guard := none },
  { dst := some 17, op := .move (.tmp 0), type := 3, pos := "scc.go:107", after := #[], guard := none },
  { dst := some 18, op := .makeSlice 82 (.tmp 17) (.tmp 17), type := 82, pos := "scc.go:107", after := #[{ on := 4, ground := .data }, { on := 4, ground := .data }], guard := none },
  { dst := some 19, op := .build 84 #[(1, .tmp 14), (2, .tmp 16), (3, .tmp 18)], type := 84, pos := "scc.go:107", after := #[{ on := 1, ground := .data }, { on := 3, ground := .data }, { on := 5, ground := .data }], guard := none },
  { dst := some 6, op := .alloc 84, type := 0, pos := "scc.go:107", after := #[], guard := none },
  { dst := none, op := .store 84 (.tmp 6) (.tmp 19), type := 0, pos := "scc.go:107", after := #[{ on := 7, ground := .data }, { on := 6, ground := .data }, { on := 0, ground := .phase }, { on := 1, ground := .phase }, { on := 2, ground := .phase }, { on := 3, ground := .phase }, { on := 4, ground := .phase }, { on := 5, ground := .phase }, { on := 6, ground := .phase }, { on := 7, ground := .phase }], guard := none }]
noncomputable abbrev cx27 : Cx := { P := cx.P, tt := cx.tt, n := 52, wrap := cx.wrap, base := cx.base, gf := cx.gf, eqs := cx.eqs, xf := cx.xf }
theorem ready_lt {x : X3} {i : Nat} (hi : i ∈ Region.ready .any ops3 (L3 x)) : i < 9 := by
  obtain ⟨_, o, ho, _⟩ := mem_ready.1 hi
  exact (Array.getElem?_eq_some_iff.1 ho).1
def Next3 (m : Int) (v : Value) (H : Hp) (x : X3) (i : Nat) : Prop := ∃ o, ops3[i]? = some o ∧ o.guard = none ∧ opE cx27 (T3 m v x) o.op o.type H fun v' s' H' => H' = H ∧ ∃ y mm, L3 y = (L3 x).setIfInBounds i true ∧ Sub cx27 mm (s'.put cx27.n o.dst v') (T3 m v y)
theorem n3_0_0 {m : Int}  (v : Value) (H : Hp) : Next3 m v H (.inl (.z, .z, .z, false)) 0 := by
  refine ⟨_, rfl, rfl, ?_⟩
  refine ⟨rfl, .inl (.m, .z, .z, false), [(0, 0), (1, 1), (2, 2), (3, 3)], rfl, ?_⟩
  (repeat' (first | exact trivial | refine ⟨?_, ?_⟩ | exact rfl | assumption))
theorem n3_0_1 {m : Int}  (v : Value) (H : Hp) : Next3 m v H (.inl (.z, .z, .z, true)) 0 := by
  refine ⟨_, rfl, rfl, ?_⟩
  refine ⟨rfl, .inl (.m, .z, .z, true), [(0, 0), (1, 1), (2, 2), (3, 3)], rfl, ?_⟩
  (repeat' (first | exact trivial | refine ⟨?_, ?_⟩ | exact rfl | assumption))
theorem n3_0_2 {m : Int}  (v : Value) (H : Hp) : Next3 m v H (.inl (.z, .z, .m, false)) 0 := by
  refine ⟨_, rfl, rfl, ?_⟩
  refine ⟨rfl, .inl (.m, .z, .m, false), [(0, 0), (1, 1), (2, 2), (3, 3)], rfl, ?_⟩
  (repeat' (first | exact trivial | refine ⟨?_, ?_⟩ | exact rfl | assumption))
theorem n3_0_3 {m : Int}  (v : Value) (H : Hp) : Next3 m v H (.inl (.z, .z, .m, true)) 0 := by
  refine ⟨_, rfl, rfl, ?_⟩
  refine ⟨rfl, .inl (.m, .z, .m, true), [(0, 0), (1, 1), (2, 2), (3, 3)], rfl, ?_⟩
  (repeat' (first | exact trivial | refine ⟨?_, ?_⟩ | exact rfl | assumption))
theorem n3_0_4 {m : Int}  (v : Value) (H : Hp) : Next3 m v H (.inl (.z, .z, .d, false)) 0 := by
  refine ⟨_, rfl, rfl, ?_⟩
  refine ⟨rfl, .inl (.m, .z, .d, false), [(0, 0), (1, 1), (2, 2), (3, 3)], rfl, ?_⟩
  (repeat' (first | exact trivial | refine ⟨?_, ?_⟩ | exact rfl | assumption))
theorem n3_0_5 {m : Int}  (v : Value) (H : Hp) : Next3 m v H (.inl (.z, .z, .d, true)) 0 := by
  refine ⟨_, rfl, rfl, ?_⟩
  refine ⟨rfl, .inl (.m, .z, .d, true), [(0, 0), (1, 1), (2, 2), (3, 3)], rfl, ?_⟩
  (repeat' (first | exact trivial | refine ⟨?_, ?_⟩ | exact rfl | assumption))
theorem n3_0_6 {m : Int}  (v : Value) (H : Hp) : Next3 m v H (.inl (.z, .m, .z, false)) 0 := by
  refine ⟨_, rfl, rfl, ?_⟩
  refine ⟨rfl, .inl (.m, .m, .z, false), [(0, 0), (1, 1), (2, 2), (3, 3)], rfl, ?_⟩
  (repeat' (first | exact trivial | refine ⟨?_, ?_⟩ | exact rfl | assumption))
theorem n3_0_7 {m : Int}  (v : Value) (H : Hp) : Next3 m v H (.inl (.z, .m, .z, true)) 0 := by
  refine ⟨_, rfl, rfl, ?_⟩
  refine ⟨rfl, .inl (.m, .m, .z, true), [(0, 0), (1, 1), (2, 2), (3, 3)], rfl, ?_⟩
  (repeat' (first | exact trivial | refine ⟨?_, ?_⟩ | exact rfl | assumption))
theorem n3_0_8 {m : Int}  (v : Value) (H : Hp) : Next3 m v H (.inl (.z, .m, .m, false)) 0 := by
  refine ⟨_, rfl, rfl, ?_⟩
  refine ⟨rfl, .inl (.m, .m, .m, false), [(0, 0), (1, 1), (2, 2), (3, 3)], rfl, ?_⟩
  (repeat' (first | exact trivial | refine ⟨?_, ?_⟩ | exact rfl | assumption))
theorem n3_0_9 {m : Int}  (v : Value) (H : Hp) : Next3 m v H (.inl (.z, .m, .m, true)) 0 := by
  refine ⟨_, rfl, rfl, ?_⟩
  refine ⟨rfl, .inl (.m, .m, .m, true), [(0, 0), (1, 1), (2, 2), (3, 3)], rfl, ?_⟩
  (repeat' (first | exact trivial | refine ⟨?_, ?_⟩ | exact rfl | assumption))
theorem n3_0_10 {m : Int}  (v : Value) (H : Hp) : Next3 m v H (.inl (.z, .m, .d, false)) 0 := by
  refine ⟨_, rfl, rfl, ?_⟩
  refine ⟨rfl, .inl (.m, .m, .d, false), [(0, 0), (1, 1), (2, 2), (3, 3)], rfl, ?_⟩
  (repeat' (first | exact trivial | refine ⟨?_, ?_⟩ | exact rfl | assumption))
theorem n3_0_11 {m : Int}  (v : Value) (H : Hp) : Next3 m v H (.inl (.z, .m, .d, true)) 0 := by
  refine ⟨_, rfl, rfl, ?_⟩
  refine ⟨rfl, .inl (.m, .m, .d, true), [(0, 0), (1, 1), (2, 2), (3, 3)], rfl, ?_⟩
  (repeat' (first | exact trivial | refine ⟨?_, ?_⟩ | exact rfl | assumption))
theorem n3_0_12 {m : Int}  (v : Value) (H : Hp) : Next3 m v H (.inl (.z, .d, .z, false)) 0 := by
  refine ⟨_, rfl, rfl, ?_⟩
  refine ⟨rfl, .inl (.m, .d, .z, false), [(0, 0), (1, 1), (2, 2), (3, 3)], rfl, ?_⟩
  (repeat' (first | exact trivial | refine ⟨?_, ?_⟩ | exact rfl | assumption))
theorem n3_0_13 {m : Int}  (v : Value) (H : Hp) : Next3 m v H (.inl (.z, .d, .z, true)) 0 := by
  refine ⟨_, rfl, rfl, ?_⟩
  refine ⟨rfl, .inl (.m, .d, .z, true), [(0, 0), (1, 1), (2, 2), (3, 3)], rfl, ?_⟩
  (repeat' (first | exact trivial | refine ⟨?_, ?_⟩ | exact rfl | assumption))
theorem n3_0_14 {m : Int}  (v : Value) (H : Hp) : Next3 m v H (.inl (.z, .d, .m, false)) 0 := by
  refine ⟨_, rfl, rfl, ?_⟩
  refine ⟨rfl, .inl (.m, .d, .m, false), [(0, 0), (1, 1), (2, 2), (3, 3)], rfl, ?_⟩
  (repeat' (first | exact trivial | refine ⟨?_, ?_⟩ | exact rfl | assumption))
theorem n3_0_15 {m : Int}  (v : Value) (H : Hp) : Next3 m v H (.inl (.z, .d, .m, true)) 0 := by
  refine ⟨_, rfl, rfl, ?_⟩
  refine ⟨rfl, .inl (.m, .d, .m, true), [(0, 0), (1, 1), (2, 2), (3, 3)], rfl, ?_⟩
  (repeat' (first | exact trivial | refine ⟨?_, ?_⟩ | exact rfl | assumption))
theorem n3_0_16 {m : Int}  (v : Value) (H : Hp) : Next3 m v H (.inl (.z, .d, .d, false)) 0 := by
  refine ⟨_, rfl, rfl, ?_⟩
  refine ⟨rfl, .inl (.m, .d, .d, false), [(0, 0), (1, 1), (2, 2), (3, 3)], rfl, ?_⟩
  (repeat' (first | exact trivial | refine ⟨?_, ?_⟩ | exact rfl | assumption))
theorem n3_0_17 {m : Int}  (v : Value) (H : Hp) : Next3 m v H (.inl (.z, .d, .d, true)) 0 := by
  refine ⟨_, rfl, rfl, ?_⟩
  refine ⟨rfl, .inl (.m, .d, .d, true), [(0, 0), (1, 1), (2, 2), (3, 3)], rfl, ?_⟩
  (repeat' (first | exact trivial | refine ⟨?_, ?_⟩ | exact rfl | assumption))
theorem n3_1_0 {m : Int} (h0 : 0 ≤ m) (h1 : m ≤ 1000) (v : Value) (H : Hp) : Next3 m v H (.inl (.m, .z, .z, false)) 1 := by
  refine ⟨_, rfl, rfl, ?_⟩
  refine ⟨⟨rfl, by omega, by show m * 8 ≤ _; omega, by omega⟩, rfl, .inl (.d, .z, .z, false), [(0, 4), (1, 1), (2, 2), (3, 3)], rfl, ?_⟩
  (repeat' (first | exact trivial | refine ⟨?_, ?_⟩ | exact rfl | assumption))
theorem n3_1_1 {m : Int} (h0 : 0 ≤ m) (h1 : m ≤ 1000) (v : Value) (H : Hp) : Next3 m v H (.inl (.m, .z, .z, true)) 1 := by
  refine ⟨_, rfl, rfl, ?_⟩
  refine ⟨⟨rfl, by omega, by show m * 8 ≤ _; omega, by omega⟩, rfl, .inl (.d, .z, .z, true), [(0, 4), (1, 1), (2, 2), (3, 3)], rfl, ?_⟩
  (repeat' (first | exact trivial | refine ⟨?_, ?_⟩ | exact rfl | assumption))
theorem n3_1_2 {m : Int} (h0 : 0 ≤ m) (h1 : m ≤ 1000) (v : Value) (H : Hp) : Next3 m v H (.inl (.m, .z, .m, false)) 1 := by
  refine ⟨_, rfl, rfl, ?_⟩
  refine ⟨⟨rfl, by omega, by show m * 8 ≤ _; omega, by omega⟩, rfl, .inl (.d, .z, .m, false), [(0, 4), (1, 1), (2, 2), (3, 3)], rfl, ?_⟩
  (repeat' (first | exact trivial | refine ⟨?_, ?_⟩ | exact rfl | assumption))
theorem n3_1_3 {m : Int} (h0 : 0 ≤ m) (h1 : m ≤ 1000) (v : Value) (H : Hp) : Next3 m v H (.inl (.m, .z, .m, true)) 1 := by
  refine ⟨_, rfl, rfl, ?_⟩
  refine ⟨⟨rfl, by omega, by show m * 8 ≤ _; omega, by omega⟩, rfl, .inl (.d, .z, .m, true), [(0, 4), (1, 1), (2, 2), (3, 3)], rfl, ?_⟩
  (repeat' (first | exact trivial | refine ⟨?_, ?_⟩ | exact rfl | assumption))
theorem n3_1_4 {m : Int} (h0 : 0 ≤ m) (h1 : m ≤ 1000) (v : Value) (H : Hp) : Next3 m v H (.inl (.m, .z, .d, false)) 1 := by
  refine ⟨_, rfl, rfl, ?_⟩
  refine ⟨⟨rfl, by omega, by show m * 8 ≤ _; omega, by omega⟩, rfl, .inl (.d, .z, .d, false), [(0, 4), (1, 1), (2, 2), (3, 3)], rfl, ?_⟩
  (repeat' (first | exact trivial | refine ⟨?_, ?_⟩ | exact rfl | assumption))
theorem n3_1_5 {m : Int} (h0 : 0 ≤ m) (h1 : m ≤ 1000) (v : Value) (H : Hp) : Next3 m v H (.inl (.m, .z, .d, true)) 1 := by
  refine ⟨_, rfl, rfl, ?_⟩
  refine ⟨⟨rfl, by omega, by show m * 8 ≤ _; omega, by omega⟩, rfl, .inl (.d, .z, .d, true), [(0, 4), (1, 1), (2, 2), (3, 3)], rfl, ?_⟩
  (repeat' (first | exact trivial | refine ⟨?_, ?_⟩ | exact rfl | assumption))
theorem n3_1_6 {m : Int} (h0 : 0 ≤ m) (h1 : m ≤ 1000) (v : Value) (H : Hp) : Next3 m v H (.inl (.m, .m, .z, false)) 1 := by
  refine ⟨_, rfl, rfl, ?_⟩
  refine ⟨⟨rfl, by omega, by show m * 8 ≤ _; omega, by omega⟩, rfl, .inl (.d, .m, .z, false), [(0, 4), (1, 1), (2, 2), (3, 3)], rfl, ?_⟩
  (repeat' (first | exact trivial | refine ⟨?_, ?_⟩ | exact rfl | assumption))
theorem n3_1_7 {m : Int} (h0 : 0 ≤ m) (h1 : m ≤ 1000) (v : Value) (H : Hp) : Next3 m v H (.inl (.m, .m, .z, true)) 1 := by
  refine ⟨_, rfl, rfl, ?_⟩
  refine ⟨⟨rfl, by omega, by show m * 8 ≤ _; omega, by omega⟩, rfl, .inl (.d, .m, .z, true), [(0, 4), (1, 1), (2, 2), (3, 3)], rfl, ?_⟩
  (repeat' (first | exact trivial | refine ⟨?_, ?_⟩ | exact rfl | assumption))
theorem n3_1_8 {m : Int} (h0 : 0 ≤ m) (h1 : m ≤ 1000) (v : Value) (H : Hp) : Next3 m v H (.inl (.m, .m, .m, false)) 1 := by
  refine ⟨_, rfl, rfl, ?_⟩
  refine ⟨⟨rfl, by omega, by show m * 8 ≤ _; omega, by omega⟩, rfl, .inl (.d, .m, .m, false), [(0, 4), (1, 1), (2, 2), (3, 3)], rfl, ?_⟩
  (repeat' (first | exact trivial | refine ⟨?_, ?_⟩ | exact rfl | assumption))
theorem n3_1_9 {m : Int} (h0 : 0 ≤ m) (h1 : m ≤ 1000) (v : Value) (H : Hp) : Next3 m v H (.inl (.m, .m, .m, true)) 1 := by
  refine ⟨_, rfl, rfl, ?_⟩
  refine ⟨⟨rfl, by omega, by show m * 8 ≤ _; omega, by omega⟩, rfl, .inl (.d, .m, .m, true), [(0, 4), (1, 1), (2, 2), (3, 3)], rfl, ?_⟩
  (repeat' (first | exact trivial | refine ⟨?_, ?_⟩ | exact rfl | assumption))
theorem n3_1_10 {m : Int} (h0 : 0 ≤ m) (h1 : m ≤ 1000) (v : Value) (H : Hp) : Next3 m v H (.inl (.m, .m, .d, false)) 1 := by
  refine ⟨_, rfl, rfl, ?_⟩
  refine ⟨⟨rfl, by omega, by show m * 8 ≤ _; omega, by omega⟩, rfl, .inl (.d, .m, .d, false), [(0, 4), (1, 1), (2, 2), (3, 3)], rfl, ?_⟩
  (repeat' (first | exact trivial | refine ⟨?_, ?_⟩ | exact rfl | assumption))
theorem n3_1_11 {m : Int} (h0 : 0 ≤ m) (h1 : m ≤ 1000) (v : Value) (H : Hp) : Next3 m v H (.inl (.m, .m, .d, true)) 1 := by
  refine ⟨_, rfl, rfl, ?_⟩
  refine ⟨⟨rfl, by omega, by show m * 8 ≤ _; omega, by omega⟩, rfl, .inl (.d, .m, .d, true), [(0, 4), (1, 1), (2, 2), (3, 3)], rfl, ?_⟩
  (repeat' (first | exact trivial | refine ⟨?_, ?_⟩ | exact rfl | assumption))
theorem n3_1_12 {m : Int} (h0 : 0 ≤ m) (h1 : m ≤ 1000) (v : Value) (H : Hp) : Next3 m v H (.inl (.m, .d, .z, false)) 1 := by
  refine ⟨_, rfl, rfl, ?_⟩
  refine ⟨⟨rfl, by omega, by show m * 8 ≤ _; omega, by omega⟩, rfl, .inl (.d, .d, .z, false), [(0, 4), (1, 1), (2, 2), (3, 3)], rfl, ?_⟩
  (repeat' (first | exact trivial | refine ⟨?_, ?_⟩ | exact rfl | assumption))
theorem n3_1_13 {m : Int} (h0 : 0 ≤ m) (h1 : m ≤ 1000) (v : Value) (H : Hp) : Next3 m v H (.inl (.m, .d, .z, true)) 1 := by
  refine ⟨_, rfl, rfl, ?_⟩
  refine ⟨⟨rfl, by omega, by show m * 8 ≤ _; omega, by omega⟩, rfl, .inl (.d, .d, .z, true), [(0, 4), (1, 1), (2, 2), (3, 3)], rfl, ?_⟩
  (repeat' (first | exact trivial | refine ⟨?_, ?_⟩ | exact rfl | assumption))
theorem n3_1_14 {m : Int} (h0 : 0 ≤ m) (h1 : m ≤ 1000) (v : Value) (H : Hp) : Next3 m v H (.inl (.m, .d, .m, false)) 1 := by
  refine ⟨_, rfl, rfl, ?_⟩
  refine ⟨⟨rfl, by omega, by show m * 8 ≤ _; omega, by omega⟩, rfl, .inl (.d, .d, .m, false), [(0, 4), (1, 1), (2, 2), (3, 3)], rfl, ?_⟩
  (repeat' (first | exact trivial | refine ⟨?_, ?_⟩ | exact rfl | assumption))
theorem n3_1_15 {m : Int} (h0 : 0 ≤ m) (h1 : m ≤ 1000) (v : Value) (H : Hp) : Next3 m v H (.inl (.m, .d, .m, true)) 1 := by
  refine ⟨_, rfl, rfl, ?_⟩
  refine ⟨⟨rfl, by omega, by show m * 8 ≤ _; omega, by omega⟩, rfl, .inl (.d, .d, .m, true), [(0, 4), (1, 1), (2, 2), (3, 3)], rfl, ?_⟩
  (repeat' (first | exact trivial | refine ⟨?_, ?_⟩ | exact rfl | assumption))
theorem n3_1_16 {m : Int} (h0 : 0 ≤ m) (h1 : m ≤ 1000) (v : Value) (H : Hp) : Next3 m v H (.inl (.m, .d, .d, false)) 1 := by
  refine ⟨_, rfl, rfl, ?_⟩
  refine ⟨⟨rfl, by omega, by show m * 8 ≤ _; omega, by omega⟩, rfl, .inl (.d, .d, .d, false), [(0, 4), (1, 1), (2, 2), (3, 3)], rfl, ?_⟩
  (repeat' (first | exact trivial | refine ⟨?_, ?_⟩ | exact rfl | assumption))
theorem n3_1_17 {m : Int} (h0 : 0 ≤ m) (h1 : m ≤ 1000) (v : Value) (H : Hp) : Next3 m v H (.inl (.m, .d, .d, true)) 1 := by
  refine ⟨_, rfl, rfl, ?_⟩
  refine ⟨⟨rfl, by omega, by show m * 8 ≤ _; omega, by omega⟩, rfl, .inl (.d, .d, .d, true), [(0, 4), (1, 1), (2, 2), (3, 3)], rfl, ?_⟩
  (repeat' (first | exact trivial | refine ⟨?_, ?_⟩ | exact rfl | assumption))
theorem n3_2_0 {m : Int}  (v : Value) (H : Hp) : Next3 m v H (.inl (.z, .z, .z, false)) 2 := by
  refine ⟨_, rfl, rfl, ?_⟩
  refine ⟨rfl, .inl (.z, .m, .z, false), [(0, 0), (1, 1), (2, 2), (3, 3)], rfl, ?_⟩
  (repeat' (first | exact trivial | refine ⟨?_, ?_⟩ | exact rfl | assumption))
theorem n3_2_1 {m : Int}  (v : Value) (H : Hp) : Next3 m v H (.inl (.z, .z, .z, true)) 2 := by
  refine ⟨_, rfl, rfl, ?_⟩
  refine ⟨rfl, .inl (.z, .m, .z, true), [(0, 0), (1, 1), (2, 2), (3, 3)], rfl, ?_⟩
  (repeat' (first | exact trivial | refine ⟨?_, ?_⟩ | exact rfl | assumption))
theorem n3_2_2 {m : Int}  (v : Value) (H : Hp) : Next3 m v H (.inl (.z, .z, .m, false)) 2 := by
  refine ⟨_, rfl, rfl, ?_⟩
  refine ⟨rfl, .inl (.z, .m, .m, false), [(0, 0), (1, 1), (2, 2), (3, 3)], rfl, ?_⟩
  (repeat' (first | exact trivial | refine ⟨?_, ?_⟩ | exact rfl | assumption))
theorem n3_2_3 {m : Int}  (v : Value) (H : Hp) : Next3 m v H (.inl (.z, .z, .m, true)) 2 := by
  refine ⟨_, rfl, rfl, ?_⟩
  refine ⟨rfl, .inl (.z, .m, .m, true), [(0, 0), (1, 1), (2, 2), (3, 3)], rfl, ?_⟩
  (repeat' (first | exact trivial | refine ⟨?_, ?_⟩ | exact rfl | assumption))
theorem n3_2_4 {m : Int}  (v : Value) (H : Hp) : Next3 m v H (.inl (.z, .z, .d, false)) 2 := by
  refine ⟨_, rfl, rfl, ?_⟩
  refine ⟨rfl, .inl (.z, .m, .d, false), [(0, 0), (1, 1), (2, 2), (3, 3)], rfl, ?_⟩
  (repeat' (first | exact trivial | refine ⟨?_, ?_⟩ | exact rfl | assumption))
theorem n3_2_5 {m : Int}  (v : Value) (H : Hp) : Next3 m v H (.inl (.z, .z, .d, true)) 2 := by
  refine ⟨_, rfl, rfl, ?_⟩
  refine ⟨rfl, .inl (.z, .m, .d, true), [(0, 0), (1, 1), (2, 2), (3, 3)], rfl, ?_⟩
  (repeat' (first | exact trivial | refine ⟨?_, ?_⟩ | exact rfl | assumption))
theorem n3_2_6 {m : Int}  (v : Value) (H : Hp) : Next3 m v H (.inl (.m, .z, .z, false)) 2 := by
  refine ⟨_, rfl, rfl, ?_⟩
  refine ⟨rfl, .inl (.m, .m, .z, false), [(0, 0), (1, 1), (2, 2), (3, 3)], rfl, ?_⟩
  (repeat' (first | exact trivial | refine ⟨?_, ?_⟩ | exact rfl | assumption))
theorem n3_2_7 {m : Int}  (v : Value) (H : Hp) : Next3 m v H (.inl (.m, .z, .z, true)) 2 := by
  refine ⟨_, rfl, rfl, ?_⟩
  refine ⟨rfl, .inl (.m, .m, .z, true), [(0, 0), (1, 1), (2, 2), (3, 3)], rfl, ?_⟩
  (repeat' (first | exact trivial | refine ⟨?_, ?_⟩ | exact rfl | assumption))
theorem n3_2_8 {m : Int}  (v : Value) (H : Hp) : Next3 m v H (.inl (.m, .z, .m, false)) 2 := by
  refine ⟨_, rfl, rfl, ?_⟩
  refine ⟨rfl, .inl (.m, .m, .m, false), [(0, 0), (1, 1), (2, 2), (3, 3)], rfl, ?_⟩
  (repeat' (first | exact trivial | refine ⟨?_, ?_⟩ | exact rfl | assumption))
theorem n3_2_9 {m : Int}  (v : Value) (H : Hp) : Next3 m v H (.inl (.m, .z, .m, true)) 2 := by
  refine ⟨_, rfl, rfl, ?_⟩
  refine ⟨rfl, .inl (.m, .m, .m, true), [(0, 0), (1, 1), (2, 2), (3, 3)], rfl, ?_⟩
  (repeat' (first | exact trivial | refine ⟨?_, ?_⟩ | exact rfl | assumption))
theorem n3_2_10 {m : Int}  (v : Value) (H : Hp) : Next3 m v H (.inl (.m, .z, .d, false)) 2 := by
  refine ⟨_, rfl, rfl, ?_⟩
  refine ⟨rfl, .inl (.m, .m, .d, false), [(0, 0), (1, 1), (2, 2), (3, 3)], rfl, ?_⟩
  (repeat' (first | exact trivial | refine ⟨?_, ?_⟩ | exact rfl | assumption))
theorem n3_2_11 {m : Int}  (v : Value) (H : Hp) : Next3 m v H (.inl (.m, .z, .d, true)) 2 := by
  refine ⟨_, rfl, rfl, ?_⟩
  refine ⟨rfl, .inl (.m, .m, .d, true), [(0, 0), (1, 1), (2, 2), (3, 3)], rfl, ?_⟩
  (repeat' (first | exact trivial | refine ⟨?_, ?_⟩ | exact rfl | assumption))
theorem n3_2_12 {m : Int}  (v : Value) (H : Hp) : Next3 m v H (.inl (.d, .z, .z, false)) 2 := by
  refine ⟨_, rfl, rfl, ?_⟩
  refine ⟨rfl, .inl (.d, .m, .z, false), [(0, 0), (1, 1), (2, 2), (3, 3)], rfl, ?_⟩
  (repeat' (first | exact trivial | refine ⟨?_, ?_⟩ | exact rfl | assumption))
theorem n3_2_13 {m : Int}  (v : Value) (H : Hp) : Next3 m v H (.inl (.d, .z, .z, true)) 2 := by
  refine ⟨_, rfl, rfl, ?_⟩
  refine ⟨rfl, .inl (.d, .m, .z, true), [(0, 0), (1, 1), (2, 2), (3, 3)], rfl, ?_⟩
  (repeat' (first | exact trivial | refine ⟨?_, ?_⟩ | exact rfl | assumption))
theorem n3_2_14 {m : Int}  (v : Value) (H : Hp) : Next3 m v H (.inl (.d, .z, .m, false)) 2 := by
  refine ⟨_, rfl, rfl, ?_⟩
  refine ⟨rfl, .inl (.d, .m, .m, false), [(0, 0), (1, 1), (2, 2), (3, 3)], rfl, ?_⟩
  (repeat' (first | exact trivial | refine ⟨?_, ?_⟩ | exact rfl | assumption))
theorem n3_2_15 {m : Int}  (v : Value) (H : Hp) : Next3 m v H (.inl (.d, .z, .m, true)) 2 := by
  refine ⟨_, rfl, rfl, ?_⟩
  refine ⟨rfl, .inl (.d, .m, .m, true), [(0, 0), (1, 1), (2, 2), (3, 3)], rfl, ?_⟩
  (repeat' (first | exact trivial | refine ⟨?_, ?_⟩ | exact rfl | assumption))
theorem n3_2_16 {m : Int}  (v : Value) (H : Hp) : Next3 m v H (.inl (.d, .z, .d, false)) 2 := by
  refine ⟨_, rfl, rfl, ?_⟩
  refine ⟨rfl, .inl (.d, .m, .d, false), [(0, 0), (1, 1), (2, 2), (3, 3)], rfl, ?_⟩
  (repeat' (first | exact trivial | refine ⟨?_, ?_⟩ | exact rfl | assumption))
theorem n3_2_17 {m : Int}  (v : Value) (H : Hp) : Next3 m v H (.inl (.d, .z, .d, true)) 2 := by
  refine ⟨_, rfl, rfl, ?_⟩
  refine ⟨rfl, .inl (.d, .m, .d, true), [(0, 0), (1, 1), (2, 2), (3, 3)], rfl, ?_⟩
  (repeat' (first | exact trivial | refine ⟨?_, ?_⟩ | exact rfl | assumption))
theorem n3_3_0 {m : Int} (h0 : 0 ≤ m) (h1 : m ≤ 1000) (v : Value) (H : Hp) : Next3 m v H (.inl (.z, .m, .z, false)) 3 := by
  refine ⟨_, rfl, rfl, ?_⟩
  refine ⟨⟨rfl, by omega, by show m * 8 ≤ _; omega, by omega⟩, rfl, .inl (.z, .d, .z, false), [(0, 0), (1, 4), (2, 2), (3, 3)], rfl, ?_⟩
  (repeat' (first | exact trivial | refine ⟨?_, ?_⟩ | exact rfl | assumption))
theorem n3_3_1 {m : Int} (h0 : 0 ≤ m) (h1 : m ≤ 1000) (v : Value) (H : Hp) : Next3 m v H (.inl (.z, .m, .z, true)) 3 := by
  refine ⟨_, rfl, rfl, ?_⟩
  refine ⟨⟨rfl, by omega, by show m * 8 ≤ _; omega, by omega⟩, rfl, .inl (.z, .d, .z, true), [(0, 0), (1, 4), (2, 2), (3, 3)], rfl, ?_⟩
  (repeat' (first | exact trivial | refine ⟨?_, ?_⟩ | exact rfl | assumption))
theorem n3_3_2 {m : Int} (h0 : 0 ≤ m) (h1 : m ≤ 1000) (v : Value) (H : Hp) : Next3 m v H (.inl (.z, .m, .m, false)) 3 := by
  refine ⟨_, rfl, rfl, ?_⟩
  refine ⟨⟨rfl, by omega, by show m * 8 ≤ _; omega, by omega⟩, rfl, .inl (.z, .d, .m, false), [(0, 0), (1, 4), (2, 2), (3, 3)], rfl, ?_⟩
  (repeat' (first | exact trivial | refine ⟨?_, ?_⟩ | exact rfl | assumption))
theorem n3_3_3 {m : Int} (h0 : 0 ≤ m) (h1 : m ≤ 1000) (v : Value) (H : Hp) : Next3 m v H (.inl (.z, .m, .m, true)) 3 := by
  refine ⟨_, rfl, rfl, ?_⟩
  refine ⟨⟨rfl, by omega, by show m * 8 ≤ _; omega, by omega⟩, rfl, .inl (.z, .d, .m, true), [(0, 0), (1, 4), (2, 2), (3, 3)], rfl, ?_⟩
  (repeat' (first | exact trivial | refine ⟨?_, ?_⟩ | exact rfl | assumption))
theorem n3_3_4 {m : Int} (h0 : 0 ≤ m) (h1 : m ≤ 1000) (v : Value) (H : Hp) : Next3 m v H (.inl (.z, .m, .d, false)) 3 := by
  refine ⟨_, rfl, rfl, ?_⟩
  refine ⟨⟨rfl, by omega, by show m * 8 ≤ _; omega, by omega⟩, rfl, .inl (.z, .d, .d, false), [(0, 0), (1, 4), (2, 2), (3, 3)], rfl, ?_⟩
  (repeat' (first | exact trivial | refine ⟨?_, ?_⟩ | exact rfl | assumption))
theorem n3_3_5 {m : Int} (h0 : 0 ≤ m) (h1 : m ≤ 1000) (v : Value) (H : Hp) : Next3 m v H (.inl (.z, .m, .d, true)) 3 := by
  refine ⟨_, rfl, rfl, ?_⟩
  refine ⟨⟨rfl, by omega, by show m * 8 ≤ _; omega, by omega⟩, rfl, .inl (.z, .d, .d, true), [(0, 0), (1, 4), (2, 2), (3, 3)], rfl, ?_⟩
  (repeat' (first | exact trivial | refine ⟨?_, ?_⟩ | exact rfl | assumption))
theorem n3_3_6 {m : Int} (h0 : 0 ≤ m) (h1 : m ≤ 1000) (v : Value) (H : Hp) : Next3 m v H (.inl (.m, .m, .z, false)) 3 := by
  refine ⟨_, rfl, rfl, ?_⟩
  refine ⟨⟨rfl, by omega, by show m * 8 ≤ _; omega, by omega⟩, rfl, .inl (.m, .d, .z, false), [(0, 0), (1, 4), (2, 2), (3, 3)], rfl, ?_⟩
  (repeat' (first | exact trivial | refine ⟨?_, ?_⟩ | exact rfl | assumption))
theorem n3_3_7 {m : Int} (h0 : 0 ≤ m) (h1 : m ≤ 1000) (v : Value) (H : Hp) : Next3 m v H (.inl (.m, .m, .z, true)) 3 := by
  refine ⟨_, rfl, rfl, ?_⟩
  refine ⟨⟨rfl, by omega, by show m * 8 ≤ _; omega, by omega⟩, rfl, .inl (.m, .d, .z, true), [(0, 0), (1, 4), (2, 2), (3, 3)], rfl, ?_⟩
  (repeat' (first | exact trivial | refine ⟨?_, ?_⟩ | exact rfl | assumption))
theorem n3_3_8 {m : Int} (h0 : 0 ≤ m) (h1 : m ≤ 1000) (v : Value) (H : Hp) : Next3 m v H (.inl (.m, .m, .m, false)) 3 := by
  refine ⟨_, rfl, rfl, ?_⟩
  refine ⟨⟨rfl, by omega, by show m * 8 ≤ _; omega, by omega⟩, rfl, .inl (.m, .d, .m, false), [(0, 0), (1, 4), (2, 2), (3, 3)], rfl, ?_⟩
  (repeat' (first | exact trivial | refine ⟨?_, ?_⟩ | exact rfl | assumption))
theorem n3_3_9 {m : Int} (h0 : 0 ≤ m) (h1 : m ≤ 1000) (v : Value) (H : Hp) : Next3 m v H (.inl (.m, .m, .m, true)) 3 := by
  refine ⟨_, rfl, rfl, ?_⟩
  refine ⟨⟨rfl, by omega, by show m * 8 ≤ _; omega, by omega⟩, rfl, .inl (.m, .d, .m, true), [(0, 0), (1, 4), (2, 2), (3, 3)], rfl, ?_⟩
  (repeat' (first | exact trivial | refine ⟨?_, ?_⟩ | exact rfl | assumption))
theorem n3_3_10 {m : Int} (h0 : 0 ≤ m) (h1 : m ≤ 1000) (v : Value) (H : Hp) : Next3 m v H (.inl (.m, .m, .d, false)) 3 := by
  refine ⟨_, rfl, rfl, ?_⟩
  refine ⟨⟨rfl, by omega, by show m * 8 ≤ _; omega, by omega⟩, rfl, .inl (.m, .d, .d, false), [(0, 0), (1, 4), (2, 2), (3, 3)], rfl, ?_⟩
  (repeat' (first | exact trivial | refine ⟨?_, ?_⟩ | exact rfl | assumption))
theorem n3_3_11 {m : Int} (h0 : 0 ≤ m) (h1 : m ≤ 1000) (v : Value) (H : Hp) : Next3 m v H (.inl (.m, .m, .d, true)) 3 := by
  refine ⟨_, rfl, rfl, ?_⟩
  refine ⟨⟨rfl, by omega, by show m * 8 ≤ _; omega, by omega⟩, rfl, .inl (.m, .d, .d, true), [(0, 0), (1, 4), (2, 2), (3, 3)], rfl, ?_⟩
  (repeat' (first | exact trivial | refine ⟨?_, ?_⟩ | exact rfl | assumption))
theorem n3_3_12 {m : Int} (h0 : 0 ≤ m) (h1 : m ≤ 1000) (v : Value) (H : Hp) : Next3 m v H (.inl (.d, .m, .z, false)) 3 := by
  refine ⟨_, rfl, rfl, ?_⟩
  refine ⟨⟨rfl, by omega, by show m * 8 ≤ _; omega, by omega⟩, rfl, .inl (.d, .d, .z, false), [(0, 0), (1, 4), (2, 2), (3, 3)], rfl, ?_⟩
  (repeat' (first | exact trivial | refine ⟨?_, ?_⟩ | exact rfl | assumption))
theorem n3_3_13 {m : Int} (h0 : 0 ≤ m) (h1 : m ≤ 1000) (v : Value) (H : Hp) : Next3 m v H (.inl (.d, .m, .z, true)) 3 := by
  refine ⟨_, rfl, rfl, ?_⟩
  refine ⟨⟨rfl, by omega, by show m * 8 ≤ _; omega, by omega⟩, rfl, .inl (.d, .d, .z, true), [(0, 0), (1, 4), (2, 2), (3, 3)], rfl, ?_⟩
  (repeat' (first | exact trivial | refine ⟨?_, ?_⟩ | exact rfl | assumption))
theorem n3_3_14 {m : Int} (h0 : 0 ≤ m) (h1 : m ≤ 1000) (v : Value) (H : Hp) : Next3 m v H (.inl (.d, .m, .m, false)) 3 := by
  refine ⟨_, rfl, rfl, ?_⟩
  refine ⟨⟨rfl, by omega, by show m * 8 ≤ _; omega, by omega⟩, rfl, .inl (.d, .d, .m, false), [(0, 0), (1, 4), (2, 2), (3, 3)], rfl, ?_⟩
  (repeat' (first | exact trivial | refine ⟨?_, ?_⟩ | exact rfl | assumption))
theorem n3_3_15 {m : Int} (h0 : 0 ≤ m) (h1 : m ≤ 1000) (v : Value) (H : Hp) : Next3 m v H (.inl (.d, .m, .m, true)) 3 := by
  refine ⟨_, rfl, rfl, ?_⟩
  refine ⟨⟨rfl, by omega, by show m * 8 ≤ _; omega, by omega⟩, rfl, .inl (.d, .d, .m, true), [(0, 0), (1, 4), (2, 2), (3, 3)], rfl, ?_⟩
  (repeat' (first | exact trivial | refine ⟨?_, ?_⟩ | exact rfl | assumption))
theorem n3_3_16 {m : Int} (h0 : 0 ≤ m) (h1 : m ≤ 1000) (v : Value) (H : Hp) : Next3 m v H (.inl (.d, .m, .d, false)) 3 := by
  refine ⟨_, rfl, rfl, ?_⟩
  refine ⟨⟨rfl, by omega, by show m * 8 ≤ _; omega, by omega⟩, rfl, .inl (.d, .d, .d, false), [(0, 0), (1, 4), (2, 2), (3, 3)], rfl, ?_⟩
  (repeat' (first | exact trivial | refine ⟨?_, ?_⟩ | exact rfl | assumption))
theorem n3_3_17 {m : Int} (h0 : 0 ≤ m) (h1 : m ≤ 1000) (v : Value) (H : Hp) : Next3 m v H (.inl (.d, .m, .d, true)) 3 := by
  refine ⟨_, rfl, rfl, ?_⟩
  refine ⟨⟨rfl, by omega, by show m * 8 ≤ _; omega, by omega⟩, rfl, .inl (.d, .d, .d, true), [(0, 0), (1, 4), (2, 2), (3, 3)], rfl, ?_⟩
  (repeat' (first | exact trivial | refine ⟨?_, ?_⟩ | exact rfl | assumption))
theorem n3_4_0 {m : Int}  (v : Value) (H : Hp) : Next3 m v H (.inl (.z, .z, .z, false)) 4 := by
  refine ⟨_, rfl, rfl, ?_⟩
  refine ⟨rfl, .inl (.z, .z, .m, false), [(0, 0), (1, 1), (2, 2), (3, 3)], rfl, ?_⟩
  (repeat' (first | exact trivial | refine ⟨?_, ?_⟩ | exact rfl | assumption))
theorem n3_4_1 {m : Int}  (v : Value) (H : Hp) : Next3 m v H (.inl (.z, .z, .z, true)) 4 := by
  refine ⟨_, rfl, rfl, ?_⟩
  refine ⟨rfl, .inl (.z, .z, .m, true), [(0, 0), (1, 1), (2, 2), (3, 3)], rfl, ?_⟩
  (repeat' (first | exact trivial | refine ⟨?_, ?_⟩ | exact rfl | assumption))
theorem n3_4_2 {m : Int}  (v : Value) (H : Hp) : Next3 m v H (.inl (.z, .m, .z, false)) 4 := by
  refine ⟨_, rfl, rfl, ?_⟩
  refine ⟨rfl, .inl (.z, .m, .m, false), [(0, 0), (1, 1), (2, 2), (3, 3)], rfl, ?_⟩
  (repeat' (first | exact trivial | refine ⟨?_, ?_⟩ | exact rfl | assumption))
theorem n3_4_3 {m : Int}  (v : Value) (H : Hp) : Next3 m v H (.inl (.z, .m, .z, true)) 4 := by
  refine ⟨_, rfl, rfl, ?_⟩
  refine ⟨rfl, .inl (.z, .m, .m, true), [(0, 0), (1, 1), (2, 2), (3, 3)], rfl, ?_⟩
  (repeat' (first | exact trivial | refine ⟨?_, ?_⟩ | exact rfl | assumption))
theorem n3_4_4 {m : Int}  (v : Value) (H : Hp) : Next3 m v H (.inl (.z, .d, .z, false)) 4 := by
  refine ⟨_, rfl, rfl, ?_⟩
  refine ⟨rfl, .inl (.z, .d, .m, false), [(0, 0), (1, 1), (2, 2), (3, 3)], rfl, ?_⟩
  (repeat' (first | exact trivial | refine ⟨?_, ?_⟩ | exact rfl | assumption))
theorem n3_4_5 {m : Int}  (v : Value) (H : Hp) : Next3 m v H (.inl (.z, .d, .z, true)) 4 := by
  refine ⟨_, rfl, rfl, ?_⟩
  refine ⟨rfl, .inl (.z, .d, .m, true), [(0, 0), (1, 1), (2, 2), (3, 3)], rfl, ?_⟩
  (repeat' (first | exact trivial | refine ⟨?_, ?_⟩ | exact rfl | assumption))
theorem n3_4_6 {m : Int}  (v : Value) (H : Hp) : Next3 m v H (.inl (.m, .z, .z, false)) 4 := by
  refine ⟨_, rfl, rfl, ?_⟩
  refine ⟨rfl, .inl (.m, .z, .m, false), [(0, 0), (1, 1), (2, 2), (3, 3)], rfl, ?_⟩
  (repeat' (first | exact trivial | refine ⟨?_, ?_⟩ | exact rfl | assumption))
theorem n3_4_7 {m : Int}  (v : Value) (H : Hp) : Next3 m v H (.inl (.m, .z, .z, true)) 4 := by
  refine ⟨_, rfl, rfl, ?_⟩
  refine ⟨rfl, .inl (.m, .z, .m, true), [(0, 0), (1, 1), (2, 2), (3, 3)], rfl, ?_⟩
  (repeat' (first | exact trivial | refine ⟨?_, ?_⟩ | exact rfl | assumption))
theorem n3_4_8 {m : Int}  (v : Value) (H : Hp) : Next3 m v H (.inl (.m, .m, .z, false)) 4 := by
  refine ⟨_, rfl, rfl, ?_⟩
  refine ⟨rfl, .inl (.m, .m, .m, false), [(0, 0), (1, 1), (2, 2), (3, 3)], rfl, ?_⟩
  (repeat' (first | exact trivial | refine ⟨?_, ?_⟩ | exact rfl | assumption))
theorem n3_4_9 {m : Int}  (v : Value) (H : Hp) : Next3 m v H (.inl (.m, .m, .z, true)) 4 := by
  refine ⟨_, rfl, rfl, ?_⟩
  refine ⟨rfl, .inl (.m, .m, .m, true), [(0, 0), (1, 1), (2, 2), (3, 3)], rfl, ?_⟩
  (repeat' (first | exact trivial | refine ⟨?_, ?_⟩ | exact rfl | assumption))
theorem n3_4_10 {m : Int}  (v : Value) (H : Hp) : Next3 m v H (.inl (.m, .d, .z, false)) 4 := by
  refine ⟨_, rfl, rfl, ?_⟩
  refine ⟨rfl, .inl (.m, .d, .m, false), [(0, 0), (1, 1), (2, 2), (3, 3)], rfl, ?_⟩
  (repeat' (first | exact trivial | refine ⟨?_, ?_⟩ | exact rfl | assumption))
theorem n3_4_11 {m : Int}  (v : Value) (H : Hp) : Next3 m v H (.inl (.m, .d, .z, true)) 4 := by
  refine ⟨_, rfl, rfl, ?_⟩
  refine ⟨rfl, .inl (.m, .d, .m, true), [(0, 0), (1, 1), (2, 2), (3, 3)], rfl, ?_⟩
  (repeat' (first | exact trivial | refine ⟨?_, ?_⟩ | exact rfl | assumption))
theorem n3_4_12 {m : Int}  (v : Value) (H : Hp) : Next3 m v H (.inl (.d, .z, .z, false)) 4 := by
  refine ⟨_, rfl, rfl, ?_⟩
  refine ⟨rfl, .inl (.d, .z, .m, false), [(0, 0), (1, 1), (2, 2), (3, 3)], rfl, ?_⟩
  (repeat' (first | exact trivial | refine ⟨?_, ?_⟩ | exact rfl | assumption))
theorem n3_4_13 {m : Int}  (v : Value) (H : Hp) : Next3 m v H (.inl (.d, .z, .z, true)) 4 := by
  refine ⟨_, rfl, rfl, ?_⟩
  refine ⟨rfl, .inl (.d, .z, .m, true), [(0, 0), (1, 1), (2, 2), (3, 3)], rfl, ?_⟩
  (repeat' (first | exact trivial | refine ⟨?_, ?_⟩ | exact rfl | assumption))
theorem n3_4_14 {m : Int}  (v : Value) (H : Hp) : Next3 m v H (.inl (.d, .m, .z, false)) 4 := by
  refine ⟨_, rfl, rfl, ?_⟩
  refine ⟨rfl, .inl (.d, .m, .m, false), [(0, 0), (1, 1), (2, 2), (3, 3)], rfl, ?_⟩
  (repeat' (first | exact trivial | refine ⟨?_, ?_⟩ | exact rfl | assumption))
theorem n3_4_15 {m : Int}  (v : Value) (H : Hp) : Next3 m v H (.inl (.d, .m, .z, true)) 4 := by
  refine ⟨_, rfl, rfl, ?_⟩
  refine ⟨rfl, .inl (.d, .m, .m, true), [(0, 0), (1, 1), (2, 2), (3, 3)], rfl, ?_⟩
  (repeat' (first | exact trivial | refine ⟨?_, ?_⟩ | exact rfl | assumption))
theorem n3_4_16 {m : Int}  (v : Value) (H : Hp) : Next3 m v H (.inl (.d, .d, .z, false)) 4 := by
  refine ⟨_, rfl, rfl, ?_⟩
  refine ⟨rfl, .inl (.d, .d, .m, false), [(0, 0), (1, 1), (2, 2), (3, 3)], rfl, ?_⟩
  (repeat' (first | exact trivial | refine ⟨?_, ?_⟩ | exact rfl | assumption))
theorem n3_4_17 {m : Int}  (v : Value) (H : Hp) : Next3 m v H (.inl (.d, .d, .z, true)) 4 := by
  refine ⟨_, rfl, rfl, ?_⟩
  refine ⟨rfl, .inl (.d, .d, .m, true), [(0, 0), (1, 1), (2, 2), (3, 3)], rfl, ?_⟩
  (repeat' (first | exact trivial | refine ⟨?_, ?_⟩ | exact rfl | assumption))
theorem n3_5_0 {m : Int} (h0 : 0 ≤ m) (h1 : m ≤ 1000) (v : Value) (H : Hp) : Next3 m v H (.inl (.z, .z, .m, false)) 5 := by
  refine ⟨_, rfl, rfl, ?_⟩
  refine ⟨⟨rfl, by omega, by show m * 1 ≤ _; omega, by omega⟩, rfl, .inl (.z, .z, .d, false), [(0, 0), (1, 1), (2, 4), (3, 3)], rfl, ?_⟩
  (repeat' (first | exact trivial | refine ⟨?_, ?_⟩ | exact rfl | assumption))
theorem n3_5_1 {m : Int} (h0 : 0 ≤ m) (h1 : m ≤ 1000) (v : Value) (H : Hp) : Next3 m v H (.inl (.z, .z, .m, true)) 5 := by
  refine ⟨_, rfl, rfl, ?_⟩
  refine ⟨⟨rfl, by omega, by show m * 1 ≤ _; omega, by omega⟩, rfl, .inl (.z, .z, .d, true), [(0, 0), (1, 1), (2, 4), (3, 3)], rfl, ?_⟩
  (repeat' (first | exact trivial | refine ⟨?_, ?_⟩ | exact rfl | assumption))
theorem n3_5_2 {m : Int} (h0 : 0 ≤ m) (h1 : m ≤ 1000) (v : Value) (H : Hp) : Next3 m v H (.inl (.z, .m, .m, false)) 5 := by
  refine ⟨_, rfl, rfl, ?_⟩
  refine ⟨⟨rfl, by omega, by show m * 1 ≤ _; omega, by omega⟩, rfl, .inl (.z, .m, .d, false), [(0, 0), (1, 1), (2, 4), (3, 3)], rfl, ?_⟩
  (repeat' (first | exact trivial | refine ⟨?_, ?_⟩ | exact rfl | assumption))
theorem n3_5_3 {m : Int} (h0 : 0 ≤ m) (h1 : m ≤ 1000) (v : Value) (H : Hp) : Next3 m v H (.inl (.z, .m, .m, true)) 5 := by
  refine ⟨_, rfl, rfl, ?_⟩
  refine ⟨⟨rfl, by omega, by show m * 1 ≤ _; omega, by omega⟩, rfl, .inl (.z, .m, .d, true), [(0, 0), (1, 1), (2, 4), (3, 3)], rfl, ?_⟩
  (repeat' (first | exact trivial | refine ⟨?_, ?_⟩ | exact rfl | assumption))
theorem n3_5_4 {m : Int} (h0 : 0 ≤ m) (h1 : m ≤ 1000) (v : Value) (H : Hp) : Next3 m v H (.inl (.z, .d, .m, false)) 5 := by
  refine ⟨_, rfl, rfl, ?_⟩
  refine ⟨⟨rfl, by omega, by show m * 1 ≤ _; omega, by omega⟩, rfl, .inl (.z, .d, .d, false), [(0, 0), (1, 1), (2, 4), (3, 3)], rfl, ?_⟩
  (repeat' (first | exact trivial | refine ⟨?_, ?_⟩ | exact rfl | assumption))
theorem n3_5_5 {m : Int} (h0 : 0 ≤ m) (h1 : m ≤ 1000) (v : Value) (H : Hp) : Next3 m v H (.inl (.z, .d, .m, true)) 5 := by
  refine ⟨_, rfl, rfl, ?_⟩
  refine ⟨⟨rfl, by omega, by show m * 1 ≤ _; omega, by omega⟩, rfl, .inl (.z, .d, .d, true), [(0, 0), (1, 1), (2, 4), (3, 3)], rfl, ?_⟩
  (repeat' (first | exact trivial | refine ⟨?_, ?_⟩ | exact rfl | assumption))
theorem n3_5_6 {m : Int} (h0 : 0 ≤ m) (h1 : m ≤ 1000) (v : Value) (H : Hp) : Next3 m v H (.inl (.m, .z, .m, false)) 5 := by
  refine ⟨_, rfl, rfl, ?_⟩
  refine ⟨⟨rfl, by omega, by show m * 1 ≤ _; omega, by omega⟩, rfl, .inl (.m, .z, .d, false), [(0, 0), (1, 1), (2, 4), (3, 3)], rfl, ?_⟩
  (repeat' (first | exact trivial | refine ⟨?_, ?_⟩ | exact rfl | assumption))
theorem n3_5_7 {m : Int} (h0 : 0 ≤ m) (h1 : m ≤ 1000) (v : Value) (H : Hp) : Next3 m v H (.inl (.m, .z, .m, true)) 5 := by
  refine ⟨_, rfl, rfl, ?_⟩
  refine ⟨⟨rfl, by omega, by show m * 1 ≤ _; omega, by omega⟩, rfl, .inl (.m, .z, .d, true), [(0, 0), (1, 1), (2, 4), (3, 3)], rfl, ?_⟩
  (repeat' (first | exact trivial | refine ⟨?_, ?_⟩ | exact rfl | assumption))
theorem n3_5_8 {m : Int} (h0 : 0 ≤ m) (h1 : m ≤ 1000) (v : Value) (H : Hp) : Next3 m v H (.inl (.m, .m, .m, false)) 5 := by
  refine ⟨_, rfl, rfl, ?_⟩
  refine ⟨⟨rfl, by omega, by show m * 1 ≤ _; omega, by omega⟩, rfl, .inl (.m, .m, .d, false), [(0, 0), (1, 1), (2, 4), (3, 3)], rfl, ?_⟩
  (repeat' (first | exact trivial | refine ⟨?_, ?_⟩ | exact rfl | assumption))
theorem n3_5_9 {m : Int} (h0 : 0 ≤ m) (h1 : m ≤ 1000) (v : Value) (H : Hp) : Next3 m v H (.inl (.m, .m, .m, true)) 5 := by
  refine ⟨_, rfl, rfl, ?_⟩
  refine ⟨⟨rfl, by omega, by show m * 1 ≤ _; omega, by omega⟩, rfl, .inl (.m, .m, .d, true), [(0, 0), (1, 1), (2, 4), (3, 3)], rfl, ?_⟩
  (repeat' (first | exact trivial | refine ⟨?_, ?_⟩ | exact rfl | assumption))
theorem n3_5_10 {m : Int} (h0 : 0 ≤ m) (h1 : m ≤ 1000) (v : Value) (H : Hp) : Next3 m v H (.inl (.m, .d, .m, false)) 5 := by
  refine ⟨_, rfl, rfl, ?_⟩
  refine ⟨⟨rfl, by omega, by show m * 1 ≤ _; omega, by omega⟩, rfl, .inl (.m, .d, .d, false), [(0, 0), (1, 1), (2, 4), (3, 3)], rfl, ?_⟩
  (repeat' (first | exact trivial | refine ⟨?_, ?_⟩ | exact rfl | assumption))
theorem n3_5_11 {m : Int} (h0 : 0 ≤ m) (h1 : m ≤ 1000) (v : Value) (H : Hp) : Next3 m v H (.inl (.m, .d, .m, true)) 5 := by
  refine ⟨_, rfl, rfl, ?_⟩
  refine ⟨⟨rfl, by omega, by show m * 1 ≤ _; omega, by omega⟩, rfl, .inl (.m, .d, .d, true), [(0, 0), (1, 1), (2, 4), (3, 3)], rfl, ?_⟩
  (repeat' (first | exact trivial | refine ⟨?_, ?_⟩ | exact rfl | assumption))
theorem n3_5_12 {m : Int} (h0 : 0 ≤ m) (h1 : m ≤ 1000) (v : Value) (H : Hp) : Next3 m v H (.inl (.d, .z, .m, false)) 5 := by
  refine ⟨_, rfl, rfl, ?_⟩
  refine ⟨⟨rfl, by omega, by show m * 1 ≤ _; omega, by omega⟩, rfl, .inl (.d, .z, .d, false), [(0, 0), (1, 1), (2, 4), (3, 3)], rfl, ?_⟩
  (repeat' (first | exact trivial | refine ⟨?_, ?_⟩ | exact rfl | assumption))
theorem n3_5_13 {m : Int} (h0 : 0 ≤ m) (h1 : m ≤ 1000) (v : Value) (H : Hp) : Next3 m v H (.inl (.d, .z, .m, true)) 5 := by
  refine ⟨_, rfl, rfl, ?_⟩
  refine ⟨⟨rfl, by omega, by show m * 1 ≤ _; omega, by omega⟩, rfl, .inl (.d, .z, .d, true), [(0, 0), (1, 1), (2, 4), (3, 3)], rfl, ?_⟩
  (repeat' (first | exact trivial | refine ⟨?_, ?_⟩ | exact rfl | assumption))
theorem n3_5_14 {m : Int} (h0 : 0 ≤ m) (h1 : m ≤ 1000) (v : Value) (H : Hp) : Next3 m v H (.inl (.d, .m, .m, false)) 5 := by
  refine ⟨_, rfl, rfl, ?_⟩
  refine ⟨⟨rfl, by omega, by show m * 1 ≤ _; omega, by omega⟩, rfl, .inl (.d, .m, .d, false), [(0, 0), (1, 1), (2, 4), (3, 3)], rfl, ?_⟩
  (repeat' (first | exact trivial | refine ⟨?_, ?_⟩ | exact rfl | assumption))
theorem n3_5_15 {m : Int} (h0 : 0 ≤ m) (h1 : m ≤ 1000) (v : Value) (H : Hp) : Next3 m v H (.inl (.d, .m, .m, true)) 5 := by
  refine ⟨_, rfl, rfl, ?_⟩
  refine ⟨⟨rfl, by omega, by show m * 1 ≤ _; omega, by omega⟩, rfl, .inl (.d, .m, .d, true), [(0, 0), (1, 1), (2, 4), (3, 3)], rfl, ?_⟩
  (repeat' (first | exact trivial | refine ⟨?_, ?_⟩ | exact rfl | assumption))
theorem n3_5_16 {m : Int} (h0 : 0 ≤ m) (h1 : m ≤ 1000) (v : Value) (H : Hp) : Next3 m v H (.inl (.d, .d, .m, false)) 5 := by
  refine ⟨_, rfl, rfl, ?_⟩
  refine ⟨⟨rfl, by omega, by show m * 1 ≤ _; omega, by omega⟩, rfl, .inl (.d, .d, .d, false), [(0, 0), (1, 1), (2, 4), (3, 3)], rfl, ?_⟩
  (repeat' (first | exact trivial | refine ⟨?_, ?_⟩ | exact rfl | assumption))
theorem n3_5_17 {m : Int} (h0 : 0 ≤ m) (h1 : m ≤ 1000) (v : Value) (H : Hp) : Next3 m v H (.inl (.d, .d, .m, true)) 5 := by
  refine ⟨_, rfl, rfl, ?_⟩
  refine ⟨⟨rfl, by omega, by show m * 1 ≤ _; omega, by omega⟩, rfl, .inl (.d, .d, .d, true), [(0, 0), (1, 1), (2, 4), (3, 3)], rfl, ?_⟩
  (repeat' (first | exact trivial | refine ⟨?_, ?_⟩ | exact rfl | assumption))
theorem n3_6_0 {m : Int}  (v : Value) (H : Hp) : Next3 m v H (.inl (.d, .d, .d, false)) 6 := by
  refine ⟨_, rfl, rfl, ?_⟩
  refine ⟨rfl, .inr (some false), [(0, 0), (1, 1), (2, 2), (3, 3)], rfl, ?_⟩
  (repeat' (first | exact trivial | refine ⟨?_, ?_⟩ | exact rfl | assumption))
theorem n3_6_1 {m : Int}  (v : Value) (H : Hp) : Next3 m v H (.inl (.d, .d, .d, true)) 6 := by
  refine ⟨_, rfl, rfl, ?_⟩
  refine ⟨rfl, .inr (some true), [(0, 0), (1, 1), (2, 2), (3, 3)], rfl, ?_⟩
  (repeat' (first | exact trivial | refine ⟨?_, ?_⟩ | exact rfl | assumption))
theorem n3_7_0 {m : Int}  (v : Value) (H : Hp) : Next3 m v H (.inl (.z, .z, .z, false)) 7 := by
  refine ⟨_, rfl, rfl, ?_⟩
  refine ⟨rfl, .inl (.z, .z, .z, true), [(0, 0), (1, 1), (2, 2), (3, 4)], rfl, ?_⟩
  (repeat' (first | exact trivial | refine ⟨?_, ?_⟩ | exact rfl | assumption))
theorem n3_7_1 {m : Int}  (v : Value) (H : Hp) : Next3 m v H (.inl (.z, .z, .m, false)) 7 := by
  refine ⟨_, rfl, rfl, ?_⟩
  refine ⟨rfl, .inl (.z, .z, .m, true), [(0, 0), (1, 1), (2, 2), (3, 4)], rfl, ?_⟩
  (repeat' (first | exact trivial | refine ⟨?_, ?_⟩ | exact rfl | assumption))
theorem n3_7_2 {m : Int}  (v : Value) (H : Hp) : Next3 m v H (.inl (.z, .z, .d, false)) 7 := by
  refine ⟨_, rfl, rfl, ?_⟩
  refine ⟨rfl, .inl (.z, .z, .d, true), [(0, 0), (1, 1), (2, 2), (3, 4)], rfl, ?_⟩
  (repeat' (first | exact trivial | refine ⟨?_, ?_⟩ | exact rfl | assumption))
theorem n3_7_3 {m : Int}  (v : Value) (H : Hp) : Next3 m v H (.inl (.z, .m, .z, false)) 7 := by
  refine ⟨_, rfl, rfl, ?_⟩
  refine ⟨rfl, .inl (.z, .m, .z, true), [(0, 0), (1, 1), (2, 2), (3, 4)], rfl, ?_⟩
  (repeat' (first | exact trivial | refine ⟨?_, ?_⟩ | exact rfl | assumption))
theorem n3_7_4 {m : Int}  (v : Value) (H : Hp) : Next3 m v H (.inl (.z, .m, .m, false)) 7 := by
  refine ⟨_, rfl, rfl, ?_⟩
  refine ⟨rfl, .inl (.z, .m, .m, true), [(0, 0), (1, 1), (2, 2), (3, 4)], rfl, ?_⟩
  (repeat' (first | exact trivial | refine ⟨?_, ?_⟩ | exact rfl | assumption))
theorem n3_7_5 {m : Int}  (v : Value) (H : Hp) : Next3 m v H (.inl (.z, .m, .d, false)) 7 := by
  refine ⟨_, rfl, rfl, ?_⟩
  refine ⟨rfl, .inl (.z, .m, .d, true), [(0, 0), (1, 1), (2, 2), (3, 4)], rfl, ?_⟩
  (repeat' (first | exact trivial | refine ⟨?_, ?_⟩ | exact rfl | assumption))
theorem n3_7_6 {m : Int}  (v : Value) (H : Hp) : Next3 m v H (.inl (.z, .d, .z, false)) 7 := by
  refine ⟨_, rfl, rfl, ?_⟩
  refine ⟨rfl, .inl (.z, .d, .z, true), [(0, 0), (1, 1), (2, 2), (3, 4)], rfl, ?_⟩
  (repeat' (first | exact trivial | refine ⟨?_, ?_⟩ | exact rfl | assumption))
theorem n3_7_7 {m : Int}  (v : Value) (H : Hp) : Next3 m v H (.inl (.z, .d, .m, false)) 7 := by
  refine ⟨_, rfl, rfl, ?_⟩
  refine ⟨rfl, .inl (.z, .d, .m, true), [(0, 0), (1, 1), (2, 2), (3, 4)], rfl, ?_⟩
  (repeat' (first | exact trivial | refine ⟨?_, ?_⟩ | exact rfl | assumption))
theorem n3_7_8 {m : Int}  (v : Value) (H : Hp) : Next3 m v H (.inl (.z, .d, .d, false)) 7 := by
  refine ⟨_, rfl, rfl, ?_⟩
  refine ⟨rfl, .inl (.z, .d, .d, true), [(0, 0), (1, 1), (2, 2), (3, 4)], rfl, ?_⟩
  (repeat' (first | exact trivial | refine ⟨?_, ?_⟩ | exact rfl | assumption))
theorem n3_7_9 {m : Int}  (v : Value) (H : Hp) : Next3 m v H (.inl (.m, .z, .z, false)) 7 := by
  refine ⟨_, rfl, rfl, ?_⟩
  refine ⟨rfl, .inl (.m, .z, .z, true), [(0, 0), (1, 1), (2, 2), (3, 4)], rfl, ?_⟩
  (repeat' (first | exact trivial | refine ⟨?_, ?_⟩ | exact rfl | assumption))
theorem n3_7_10 {m : Int}  (v : Value) (H : Hp) : Next3 m v H (.inl (.m, .z, .m, false)) 7 := by
  refine ⟨_, rfl, rfl, ?_⟩
  refine ⟨rfl, .inl (.m, .z, .m, true), [(0, 0), (1, 1), (2, 2), (3, 4)], rfl, ?_⟩
  (repeat' (first | exact trivial | refine ⟨?_, ?_⟩ | exact rfl | assumption))
theorem n3_7_11 {m : Int}  (v : Value) (H : Hp) : Next3 m v H (.inl (.m, .z, .d, false)) 7 := by
  refine ⟨_, rfl, rfl, ?_⟩
  refine ⟨rfl, .inl (.m, .z, .d, true), [(0, 0), (1, 1), (2, 2), (3, 4)], rfl, ?_⟩
  (repeat' (first | exact trivial | refine ⟨?_, ?_⟩ | exact rfl | assumption))
theorem n3_7_12 {m : Int}  (v : Value) (H : Hp) : Next3 m v H (.inl (.m, .m, .z, false)) 7 := by
  refine ⟨_, rfl, rfl, ?_⟩
  refine ⟨rfl, .inl (.m, .m, .z, true), [(0, 0), (1, 1), (2, 2), (3, 4)], rfl, ?_⟩
  (repeat' (first | exact trivial | refine ⟨?_, ?_⟩ | exact rfl | assumption))
theorem n3_7_13 {m : Int}  (v : Value) (H : Hp) : Next3 m v H (.inl (.m, .m, .m, false)) 7 := by
  refine ⟨_, rfl, rfl, ?_⟩
  refine ⟨rfl, .inl (.m, .m, .m, true), [(0, 0), (1, 1), (2, 2), (3, 4)], rfl, ?_⟩
  (repeat' (first | exact trivial | refine ⟨?_, ?_⟩ | exact rfl | assumption))
theorem n3_7_14 {m : Int}  (v : Value) (H : Hp) : Next3 m v H (.inl (.m, .m, .d, false)) 7 := by
  refine ⟨_, rfl, rfl, ?_⟩
  refine ⟨rfl, .inl (.m, .m, .d, true), [(0, 0), (1, 1), (2, 2), (3, 4)], rfl, ?_⟩
  (repeat' (first | exact trivial | refine ⟨?_, ?_⟩ | exact rfl | assumption))
theorem n3_7_15 {m : Int}  (v : Value) (H : Hp) : Next3 m v H (.inl (.m, .d, .z, false)) 7 := by
  refine ⟨_, rfl, rfl, ?_⟩
  refine ⟨rfl, .inl (.m, .d, .z, true), [(0, 0), (1, 1), (2, 2), (3, 4)], rfl, ?_⟩
  (repeat' (first | exact trivial | refine ⟨?_, ?_⟩ | exact rfl | assumption))
theorem n3_7_16 {m : Int}  (v : Value) (H : Hp) : Next3 m v H (.inl (.m, .d, .m, false)) 7 := by
  refine ⟨_, rfl, rfl, ?_⟩
  refine ⟨rfl, .inl (.m, .d, .m, true), [(0, 0), (1, 1), (2, 2), (3, 4)], rfl, ?_⟩
  (repeat' (first | exact trivial | refine ⟨?_, ?_⟩ | exact rfl | assumption))
theorem n3_7_17 {m : Int}  (v : Value) (H : Hp) : Next3 m v H (.inl (.m, .d, .d, false)) 7 := by
  refine ⟨_, rfl, rfl, ?_⟩
  refine ⟨rfl, .inl (.m, .d, .d, true), [(0, 0), (1, 1), (2, 2), (3, 4)], rfl, ?_⟩
  (repeat' (first | exact trivial | refine ⟨?_, ?_⟩ | exact rfl | assumption))
theorem n3_7_18 {m : Int}  (v : Value) (H : Hp) : Next3 m v H (.inl (.d, .z, .z, false)) 7 := by
  refine ⟨_, rfl, rfl, ?_⟩
  refine ⟨rfl, .inl (.d, .z, .z, true), [(0, 0), (1, 1), (2, 2), (3, 4)], rfl, ?_⟩
  (repeat' (first | exact trivial | refine ⟨?_, ?_⟩ | exact rfl | assumption))
theorem n3_7_19 {m : Int}  (v : Value) (H : Hp) : Next3 m v H (.inl (.d, .z, .m, false)) 7 := by
  refine ⟨_, rfl, rfl, ?_⟩
  refine ⟨rfl, .inl (.d, .z, .m, true), [(0, 0), (1, 1), (2, 2), (3, 4)], rfl, ?_⟩
  (repeat' (first | exact trivial | refine ⟨?_, ?_⟩ | exact rfl | assumption))
theorem n3_7_20 {m : Int}  (v : Value) (H : Hp) : Next3 m v H (.inl (.d, .z, .d, false)) 7 := by
  refine ⟨_, rfl, rfl, ?_⟩
  refine ⟨rfl, .inl (.d, .z, .d, true), [(0, 0), (1, 1), (2, 2), (3, 4)], rfl, ?_⟩
  (repeat' (first | exact trivial | refine ⟨?_, ?_⟩ | exact rfl | assumption))
theorem n3_7_21 {m : Int}  (v : Value) (H : Hp) : Next3 m v H (.inl (.d, .m, .z, false)) 7 := by
  refine ⟨_, rfl, rfl, ?_⟩
  refine ⟨rfl, .inl (.d, .m, .z, true), [(0, 0), (1, 1), (2, 2), (3, 4)], rfl, ?_⟩
  (repeat' (first | exact trivial | refine ⟨?_, ?_⟩ | exact rfl | assumption))
theorem n3_7_22 {m : Int}  (v : Value) (H : Hp) : Next3 m v H (.inl (.d, .m, .m, false)) 7 := by
  refine ⟨_, rfl, rfl, ?_⟩
  refine ⟨rfl, .inl (.d, .m, .m, true), [(0, 0), (1, 1), (2, 2), (3, 4)], rfl, ?_⟩
  (repeat' (first | exact trivial | refine ⟨?_, ?_⟩ | exact rfl | assumption))
theorem n3_7_23 {m : Int}  (v : Value) (H : Hp) : Next3 m v H (.inl (.d, .m, .d, false)) 7 := by
  refine ⟨_, rfl, rfl, ?_⟩
  refine ⟨rfl, .inl (.d, .m, .d, true), [(0, 0), (1, 1), (2, 2), (3, 4)], rfl, ?_⟩
  (repeat' (first | exact trivial | refine ⟨?_, ?_⟩ | exact rfl | assumption))
theorem n3_7_24 {m : Int}  (v : Value) (H : Hp) : Next3 m v H (.inl (.d, .d, .z, false)) 7 := by
  refine ⟨_, rfl, rfl, ?_⟩
  refine ⟨rfl, .inl (.d, .d, .z, true), [(0, 0), (1, 1), (2, 2), (3, 4)], rfl, ?_⟩
  (repeat' (first | exact trivial | refine ⟨?_, ?_⟩ | exact rfl | assumption))
theorem n3_7_25 {m : Int}  (v : Value) (H : Hp) : Next3 m v H (.inl (.d, .d, .m, false)) 7 := by
  refine ⟨_, rfl, rfl, ?_⟩
  refine ⟨rfl, .inl (.d, .d, .m, true), [(0, 0), (1, 1), (2, 2), (3, 4)], rfl, ?_⟩
  (repeat' (first | exact trivial | refine ⟨?_, ?_⟩ | exact rfl | assumption))
theorem n3_7_26 {m : Int}  (v : Value) (H : Hp) : Next3 m v H (.inl (.d, .d, .d, false)) 7 := by
  refine ⟨_, rfl, rfl, ?_⟩
  refine ⟨rfl, .inl (.d, .d, .d, true), [(0, 0), (1, 1), (2, 2), (3, 4)], rfl, ?_⟩
  (repeat' (first | exact trivial | refine ⟨?_, ?_⟩ | exact rfl | assumption))
theorem n3_7_27 {m : Int}  (v : Value) (H : Hp) : Next3 m v H (.inr (some false)) 7 := by
  refine ⟨_, rfl, rfl, ?_⟩
  refine ⟨rfl, .inr (some true), [(0, 0), (1, 1), (2, 2), (3, 4)], rfl, ?_⟩
  (repeat' (first | exact trivial | refine ⟨?_, ?_⟩ | exact rfl | assumption))
theorem n3_8_0 {m : Int}  (v : Value) (H : Hp) : Next3 m v H (.inr (some true)) 8 := by
  refine ⟨_, rfl, rfl, ?_⟩
  refine ⟨rfl, .inr none, [(0, 0), (1, 1), (2, 2), (3, 3)], rfl, ?_⟩
  (repeat' (first | exact trivial | refine ⟨?_, ?_⟩ | exact rfl | assumption))
theorem step3 {m : Int} (h0 : 0 ≤ m) (h1 : m ≤ 1000) (v : Value) (H : Hp) : ∀ x, ∀ i ∈ Region.ready .any ops3 (L3 x), Next3 m v H x i := by
  intro x i hi
  have hlt := ready_lt hi
  match x, i, hlt, hi with
  | .inl (.z, .z, .z, false), 0, _, _ => exact n3_0_0 v H
  | .inl (.z, .z, .z, false), 1, _, hi => exact absurd hi (by decide +kernel)
  | .inl (.z, .z, .z, false), 2, _, _ => exact n3_2_0 v H
  | .inl (.z, .z, .z, false), 3, _, hi => exact absurd hi (by decide +kernel)
  | .inl (.z, .z, .z, false), 4, _, _ => exact n3_4_0 v H
  | .inl (.z, .z, .z, false), 5, _, hi => exact absurd hi (by decide +kernel)
  | .inl (.z, .z, .z, false), 6, _, hi => exact absurd hi (by decide +kernel)
  | .inl (.z, .z, .z, false), 7, _, _ => exact n3_7_0 v H
  | .inl (.z, .z, .z, false), 8, _, hi => exact absurd hi (by decide +kernel)
  | .inl (.z, .z, .z, true), 0, _, _ => exact n3_0_1 v H
  | .inl (.z, .z, .z, true), 1, _, hi => exact absurd hi (by decide +kernel)
  | .inl (.z, .z, .z, true), 2, _, _ => exact n3_2_1 v H
  | .inl (.z, .z, .z, true), 3, _, hi => exact absurd hi (by decide +kernel)
  | .inl (.z, .z, .z, true), 4, _, _ => exact n3_4_1 v H
  | .inl (.z, .z, .z, true), 5, _, hi => exact absurd hi (by decide +kernel)
  | .inl (.z, .z, .z, true), 6, _, hi => exact absurd hi (by decide +kernel)
  | .inl (.z, .z, .z, true), 7, _, hi => exact absurd hi (by decide +kernel)
  | .inl (.z, .z, .z, true), 8, _, hi => exact absurd hi (by decide +kernel)
  | .inl (.z, .z, .m, false), 0, _, _ => exact n3_0_2 v H
  | .inl (.z, .z, .m, false), 1, _, hi => exact absurd hi (by decide +kernel)
  | .inl (.z, .z, .m, false), 2, _, _ => exact n3_2_2 v H
  | .inl (.z, .z, .m, false), 3, _, hi => exact absurd hi (by decide +kernel)
  | .inl (.z, .z, .m, false), 4, _, hi => exact absurd hi (by decide +kernel)
  | .inl (.z, .z, .m, false), 5, _, _ => exact n3_5_0 h0 h1 v H
  | .inl (.z, .z, .m, false), 6, _, hi => exact absurd hi (by decide +kernel)
  | .inl (.z, .z, .m, false), 7, _, _ => exact n3_7_1 v H
  | .inl (.z, .z, .m, false), 8, _, hi => exact absurd hi (by decide +kernel)
  | .inl (.z, .z, .m, true), 0, _, _ => exact n3_0_3 v H
  | .inl (.z, .z, .m, true), 1, _, hi => exact absurd hi (by decide +kernel)
  | .inl (.z, .z, .m, true), 2, _, _ => exact n3_2_3 v H
  | .inl (.z, .z, .m, true), 3, _, hi => exact absurd hi (by decide +kernel)
  | .inl (.z, .z, .m, true), 4, _, hi => exact absurd hi (by decide +kernel)
  | .inl (.z, .z, .m, true), 5, _, _ => exact n3_5_1 h0 h1 v H
  | .inl (.z, .z, .m, true), 6, _, hi => exact absurd hi (by decide +kernel)
  | .inl (.z, .z, .m, true), 7, _, hi => exact absurd hi (by decide +kernel)
  | .inl (.z, .z, .m, true), 8, _, hi => exact absurd hi (by decide +kernel)
  | .inl (.z, .z, .d, false), 0, _, _ => exact n3_0_4 v H
  | .inl (.z, .z, .d, false), 1, _, hi => exact absurd hi (by decide +kernel)
  | .inl (.z, .z, .d, false), 2, _, _ => exact n3_2_4 v H
  | .inl (.z, .z, .d, false), 3, _, hi => exact absurd hi (by decide +kernel)
  | .inl (.z, .z, .d, false), 4, _, hi => exact absurd hi (by decide +kernel)
  | .inl (.z, .z, .d, false), 5, _, hi => exact absurd hi (by decide +kernel)
  | .inl (.z, .z, .d, false), 6, _, hi => exact absurd hi (by decide +kernel)
  | .inl (.z, .z, .d, false), 7, _, _ => exact n3_7_2 v H
  | .inl (.z, .z, .d, false), 8, _, hi => exact absurd hi (by decide +kernel)
  | .inl (.z, .z, .d, true), 0, _, _ => exact n3_0_5 v H
  | .inl (.z, .z, .d, true), 1, _, hi => exact absurd hi (by decide +kernel)
  | .inl (.z, .z, .d, true), 2, _, _ => exact n3_2_5 v H
  | .inl (.z, .z, .d, true), 3, _, hi => exact absurd hi (by decide +kernel)
  | .inl (.z, .z, .d, true), 4, _, hi => exact absurd hi (by decide +kernel)
  | .inl (.z, .z, .d, true), 5, _, hi => exact absurd hi (by decide +kernel)
  | .inl (.z, .z, .d, true), 6, _, hi => exact absurd hi (by decide +kernel)
  | .inl (.z, .z, .d, true), 7, _, hi => exact absurd hi (by decide +kernel)
  | .inl (.z, .z, .d, true), 8, _, hi => exact absurd hi (by decide +kernel)
  | .inl (.z, .m, .z, false), 0, _, _ => exact n3_0_6 v H
  | .inl (.z, .m, .z, false), 1, _, hi => exact absurd hi (by decide +kernel)
  | .inl (.z, .m, .z, false), 2, _, hi => exact absurd hi (by decide +kernel)
  | .inl (.z, .m, .z, false), 3, _, _ => exact n3_3_0 h0 h1 v H
  | .inl (.z, .m, .z, false), 4, _, _ => exact n3_4_2 v H
  | .inl (.z, .m, .z, false), 5, _, hi => exact absurd hi (by decide +kernel)
  | .inl (.z, .m, .z, false), 6, _, hi => exact absurd hi (by decide +kernel)
  | .inl (.z, .m, .z, false), 7, _, _ => exact n3_7_3 v H
  | .inl (.z, .m, .z, false), 8, _, hi => exact absurd hi (by decide +kernel)
  | .inl (.z, .m, .z, true), 0, _, _ => exact n3_0_7 v H
  | .inl (.z, .m, .z, true), 1, _, hi => exact absurd hi (by decide +kernel)
  | .inl (.z, .m, .z, true), 2, _, hi => exact absurd hi (by decide +kernel)
  | .inl (.z, .m, .z, true), 3, _, _ => exact n3_3_1 h0 h1 v H
  | .inl (.z, .m, .z, true), 4, _, _ => exact n3_4_3 v H
  | .inl (.z, .m, .z, true), 5, _, hi => exact absurd hi (by decide +kernel)
  | .inl (.z, .m, .z, true), 6, _, hi => exact absurd hi (by decide +kernel)
  | .inl (.z, .m, .z, true), 7, _, hi => exact absurd hi (by decide +kernel)
  | .inl (.z, .m, .z, true), 8, _, hi => exact absurd hi (by decide +kernel)
  | .inl (.z, .m, .m, false), 0, _, _ => exact n3_0_8 v H
  | .inl (.z, .m, .m, false), 1, _, hi => exact absurd hi (by decide +kernel)
  | .inl (.z, .m, .m, false), 2, _, hi => exact absurd hi (by decide +kernel)
  | .inl (.z, .m, .m, false), 3, _, _ => exact n3_3_2 h0 h1 v H
  | .inl (.z, .m, .m, false), 4, _, hi => exact absurd hi (by decide +kernel)
  | .inl (.z, .m, .m, false), 5, _, _ => exact n3_5_2 h0 h1 v H
  | .inl (.z, .m, .m, false), 6, _, hi => exact absurd hi (by decide +kernel)
  | .inl (.z, .m, .m, false), 7, _, _ => exact n3_7_4 v H
  | .inl (.z, .m, .m, false), 8, _, hi => exact absurd hi (by decide +kernel)
  | .inl (.z, .m, .m, true), 0, _, _ => exact n3_0_9 v H
  | .inl (.z, .m, .m, true), 1, _, hi => exact absurd hi (by decide +kernel)
  | .inl (.z, .m, .m, true), 2, _, hi => exact absurd hi (by decide +kernel)
  | .inl (.z, .m, .m, true), 3, _, _ => exact n3_3_3 h0 h1 v H
  | .inl (.z, .m, .m, true), 4, _, hi => exact absurd hi (by decide +kernel)
  | .inl (.z, .m, .m, true), 5, _, _ => exact n3_5_3 h0 h1 v H
  | .inl (.z, .m, .m, true), 6, _, hi => exact absurd hi (by decide +kernel)
  | .inl (.z, .m, .m, true), 7, _, hi => exact absurd hi (by decide +kernel)
  | .inl (.z, .m, .m, true), 8, _, hi => exact absurd hi (by decide +kernel)
  | .inl (.z, .m, .d, false), 0, _, _ => exact n3_0_10 v H
  | .inl (.z, .m, .d, false), 1, _, hi => exact absurd hi (by decide +kernel)
  | .inl (.z, .m, .d, false), 2, _, hi => exact absurd hi (by decide +kernel)
  | .inl (.z, .m, .d, false), 3, _, _ => exact n3_3_4 h0 h1 v H
  | .inl (.z, .m, .d, false), 4, _, hi => exact absurd hi (by decide +kernel)
  | .inl (.z, .m, .d, false), 5, _, hi => exact absurd hi (by decide +kernel)
  | .inl (.z, .m, .d, false), 6, _, hi => exact absurd hi (by decide +kernel)
  | .inl (.z, .m, .d, false), 7, _, _ => exact n3_7_5 v H
  | .inl (.z, .m, .d, false), 8, _, hi => exact absurd hi (by decide +kernel)
  | .inl (.z, .m, .d, true), 0, _, _ => exact n3_0_11 v H
  | .inl (.z, .m, .d, true), 1, _, hi => exact absurd hi (by decide +kernel)
  | .inl (.z, .m, .d, true), 2, _, hi => exact absurd hi (by decide +kernel)
  | .inl (.z, .m, .d, true), 3, _, _ => exact n3_3_5 h0 h1 v H
  | .inl (.z, .m, .d, true), 4, _, hi => exact absurd hi (by decide +kernel)
  | .inl (.z, .m, .d, true), 5, _, hi => exact absurd hi (by decide +kernel)
  | .inl (.z, .m, .d, true), 6, _, hi => exact absurd hi (by decide +kernel)
  | .inl (.z, .m, .d, true), 7, _, hi => exact absurd hi (by decide +kernel)
  | .inl (.z, .m, .d, true), 8, _, hi => exact absurd hi (by decide +kernel)
  | .inl (.z, .d, .z, false), 0, _, _ => exact n3_0_12 v H
  | .inl (.z, .d, .z, false), 1, _, hi => exact absurd hi (by decide +kernel)
  | .inl (.z, .d, .z, false), 2, _, hi => exact absurd hi (by decide +kernel)
  | .inl (.z, .d, .z, false), 3, _, hi => exact absurd hi (by decide +kernel)
  | .inl (.z, .d, .z, false), 4, _, _ => exact n3_4_4 v H
  | .inl (.z, .d, .z, false), 5, _, hi => exact absurd hi (by decide +kernel)
  | .inl (.z, .d, .z, false), 6, _, hi => exact absurd hi (by decide +kernel)
  | .inl (.z, .d, .z, false), 7, _, _ => exact n3_7_6 v H
  | .inl (.z, .d, .z, false), 8, _, hi => exact absurd hi (by decide +kernel)
  | .inl (.z, .d, .z, true), 0, _, _ => exact n3_0_13 v H
  | .inl (.z, .d, .z, true), 1, _, hi => exact absurd hi (by decide +kernel)
  | .inl (.z, .d, .z, true), 2, _, hi => exact absurd hi (by decide +kernel)
  | .inl (.z, .d, .z, true), 3, _, hi => exact absurd hi (by decide +kernel)
  | .inl (.z, .d, .z, true), 4, _, _ => exact n3_4_5 v H
  | .inl (.z, .d, .z, true), 5, _, hi => exact absurd hi (by decide +kernel)
  | .inl (.z, .d, .z, true), 6, _, hi => exact absurd hi (by decide +kernel)
  | .inl (.z, .d, .z, true), 7, _, hi => exact absurd hi (by decide +kernel)
  | .inl (.z, .d, .z, true), 8, _, hi => exact absurd hi (by decide +kernel)
  | .inl (.z, .d, .m, false), 0, _, _ => exact n3_0_14 v H
  | .inl (.z, .d, .m, false), 1, _, hi => exact absurd hi (by decide +kernel)
  | .inl (.z, .d, .m, false), 2, _, hi => exact absurd hi (by decide +kernel)
  | .inl (.z, .d, .m, false), 3, _, hi => exact absurd hi (by decide +kernel)
  | .inl (.z, .d, .m, false), 4, _, hi => exact absurd hi (by decide +kernel)
  | .inl (.z, .d, .m, false), 5, _, _ => exact n3_5_4 h0 h1 v H
  | .inl (.z, .d, .m, false), 6, _, hi => exact absurd hi (by decide +kernel)
  | .inl (.z, .d, .m, false), 7, _, _ => exact n3_7_7 v H
  | .inl (.z, .d, .m, false), 8, _, hi => exact absurd hi (by decide +kernel)
  | .inl (.z, .d, .m, true), 0, _, _ => exact n3_0_15 v H
  | .inl (.z, .d, .m, true), 1, _, hi => exact absurd hi (by decide +kernel)
  | .inl (.z, .d, .m, true), 2, _, hi => exact absurd hi (by decide +kernel)
  | .inl (.z, .d, .m, true), 3, _, hi => exact absurd hi (by decide +kernel)
  | .inl (.z, .d, .m, true), 4, _, hi => exact absurd hi (by decide +kernel)
  | .inl (.z, .d, .m, true), 5, _, _ => exact n3_5_5 h0 h1 v H
  | .inl (.z, .d, .m, true), 6, _, hi => exact absurd hi (by decide +kernel)
  | .inl (.z, .d, .m, true), 7, _, hi => exact absurd hi (by decide +kernel)
  | .inl (.z, .d, .m, true), 8, _, hi => exact absurd hi (by decide +kernel)
  | .inl (.z, .d, .d, false), 0, _, _ => exact n3_0_16 v H
  | .inl (.z, .d, .d, false), 1, _, hi => exact absurd hi (by decide +kernel)
  | .inl (.z, .d, .d, false), 2, _, hi => exact absurd hi (by decide +kernel)
  | .inl (.z, .d, .d, false), 3, _, hi => exact absurd hi (by decide +kernel)
  | .inl (.z, .d, .d, false), 4, _, hi => exact absurd hi (by decide +kernel)
  | .inl (.z, .d, .d, false), 5, _, hi => exact absurd hi (by decide +kernel)
  | .inl (.z, .d, .d, false), 6, _, hi => exact absurd hi (by decide +kernel)
  | .inl (.z, .d, .d, false), 7, _, _ => exact n3_7_8 v H
  | .inl (.z, .d, .d, false), 8, _, hi => exact absurd hi (by decide +kernel)
  | .inl (.z, .d, .d, true), 0, _, _ => exact n3_0_17 v H
  | .inl (.z, .d, .d, true), 1, _, hi => exact absurd hi (by decide +kernel)
  | .inl (.z, .d, .d, true), 2, _, hi => exact absurd hi (by decide +kernel)
  | .inl (.z, .d, .d, true), 3, _, hi => exact absurd hi (by decide +kernel)
  | .inl (.z, .d, .d, true), 4, _, hi => exact absurd hi (by decide +kernel)
  | .inl (.z, .d, .d, true), 5, _, hi => exact absurd hi (by decide +kernel)
  | .inl (.z, .d, .d, true), 6, _, hi => exact absurd hi (by decide +kernel)
  | .inl (.z, .d, .d, true), 7, _, hi => exact absurd hi (by decide +kernel)
  | .inl (.z, .d, .d, true), 8, _, hi => exact absurd hi (by decide +kernel)
  | .inl (.m, .z, .z, false), 0, _, hi => exact absurd hi (by decide +kernel)
  | .inl (.m, .z, .z, false), 1, _, _ => exact n3_1_0 h0 h1 v H
  | .inl (.m, .z, .z, false), 2, _, _ => exact n3_2_6 v H
  | .inl (.m, .z, .z, false), 3, _, hi => exact absurd hi (by decide +kernel)
  | .inl (.m, .z, .z, false), 4, _, _ => exact n3_4_6 v H
  | .inl (.m, .z, .z, false), 5, _, hi => exact absurd hi (by decide +kernel)
  | .inl (.m, .z, .z, false), 6, _, hi => exact absurd hi (by decide +kernel)
  | .inl (.m, .z, .z, false), 7, _, _ => exact n3_7_9 v H
  | .inl (.m, .z, .z, false), 8, _, hi => exact absurd hi (by decide +kernel)
  | .inl (.m, .z, .z, true), 0, _, hi => exact absurd hi (by decide +kernel)
  | .inl (.m, .z, .z, true), 1, _, _ => exact n3_1_1 h0 h1 v H
  | .inl (.m, .z, .z, true), 2, _, _ => exact n3_2_7 v H
  | .inl (.m, .z, .z, true), 3, _, hi => exact absurd hi (by decide +kernel)
  | .inl (.m, .z, .z, true), 4, _, _ => exact n3_4_7 v H
  | .inl (.m, .z, .z, true), 5, _, hi => exact absurd hi (by decide +kernel)
  | .inl (.m, .z, .z, true), 6, _, hi => exact absurd hi (by decide +kernel)
  | .inl (.m, .z, .z, true), 7, _, hi => exact absurd hi (by decide +kernel)
  | .inl (.m, .z, .z, true), 8, _, hi => exact absurd hi (by decide +kernel)
  | .inl (.m, .z, .m, false), 0, _, hi => exact absurd hi (by decide +kernel)
  | .inl (.m, .z, .m, false), 1, _, _ => exact n3_1_2 h0 h1 v H
  | .inl (.m, .z, .m, false), 2, _, _ => exact n3_2_8 v H
  | .inl (.m, .z, .m, false), 3, _, hi => exact absurd hi (by decide +kernel)
  | .inl (.m, .z, .m, false), 4, _, hi => exact absurd hi (by decide +kernel)
  | .inl (.m, .z, .m, false), 5, _, _ => exact n3_5_6 h0 h1 v H
  | .inl (.m, .z, .m, false), 6, _, hi => exact absurd hi (by decide +kernel)
  | .inl (.m, .z, .m, false), 7, _, _ => exact n3_7_10 v H
  | .inl (.m, .z, .m, false), 8, _, hi => exact absurd hi (by decide +kernel)
  | .inl (.m, .z, .m, true), 0, _, hi => exact absurd hi (by decide +kernel)
  | .inl (.m, .z, .m, true), 1, _, _ => exact n3_1_3 h0 h1 v H
  | .inl (.m, .z, .m, true), 2, _, _ => exact n3_2_9 v H
  | .inl (.m, .z, .m, true), 3, _, hi => exact absurd hi (by decide +kernel)
  | .inl (.m, .z, .m, true), 4, _, hi => exact absurd hi (by decide +kernel)
  | .inl (.m, .z, .m, true), 5, _, _ => exact n3_5_7 h0 h1 v H
  | .inl (.m, .z, .m, true), 6, _, hi => exact absurd hi (by decide +kernel)
  | .inl (.m, .z, .m, true), 7, _, hi => exact absurd hi (by decide +kernel)
  | .inl (.m, .z, .m, true), 8, _, hi => exact absurd hi (by decide +kernel)
  | .inl (.m, .z, .d, false), 0, _, hi => exact absurd hi (by decide +kernel)
  | .inl (.m, .z, .d, false), 1, _, _ => exact n3_1_4 h0 h1 v H
  | .inl (.m, .z, .d, false), 2, _, _ => exact n3_2_10 v H
  | .inl (.m, .z, .d, false), 3, _, hi => exact absurd hi (by decide +kernel)
  | .inl (.m, .z, .d, false), 4, _, hi => exact absurd hi (by decide +kernel)
  | .inl (.m, .z, .d, false), 5, _, hi => exact absurd hi (by decide +kernel)
  | .inl (.m, .z, .d, false), 6, _, hi => exact absurd hi (by decide +kernel)
  | .inl (.m, .z, .d, false), 7, _, _ => exact n3_7_11 v H
  | .inl (.m, .z, .d, false), 8, _, hi => exact absurd hi (by decide +kernel)
  | .inl (.m, .z, .d, true), 0, _, hi => exact absurd hi (by decide +kernel)
  | .inl (.m, .z, .d, true), 1, _, _ => exact n3_1_5 h0 h1 v H
  | .inl (.m, .z, .d, true), 2, _, _ => exact n3_2_11 v H
  | .inl (.m, .z, .d, true), 3, _, hi => exact absurd hi (by decide +kernel)
  | .inl (.m, .z, .d, true), 4, _, hi => exact absurd hi (by decide +kernel)
  | .inl (.m, .z, .d, true), 5, _, hi => exact absurd hi (by decide +kernel)
  | .inl (.m, .z, .d, true), 6, _, hi => exact absurd hi (by decide +kernel)
  | .inl (.m, .z, .d, true), 7, _, hi => exact absurd hi (by decide +kernel)
  | .inl (.m, .z, .d, true), 8, _, hi => exact absurd hi (by decide +kernel)
  | .inl (.m, .m, .z, false), 0, _, hi => exact absurd hi (by decide +kernel)
  | .inl (.m, .m, .z, false), 1, _, _ => exact n3_1_6 h0 h1 v H
  | .inl (.m, .m, .z, false), 2, _, hi => exact absurd hi (by decide +kernel)
  | .inl (.m, .m, .z, false), 3, _, _ => exact n3_3_6 h0 h1 v H
  | .inl (.m, .m, .z, false), 4, _, _ => exact n3_4_8 v H
  | .inl (.m, .m, .z, false), 5, _, hi => exact absurd hi (by decide +kernel)
  | .inl (.m, .m, .z, false), 6, _, hi => exact absurd hi (by decide +kernel)
  | .inl (.m, .m, .z, false), 7, _, _ => exact n3_7_12 v H
  | .inl (.m, .m, .z, false), 8, _, hi => exact absurd hi (by decide +kernel)
  | .inl (.m, .m, .z, true), 0, _, hi => exact absurd hi (by decide +kernel)
  | .inl (.m, .m, .z, true), 1, _, _ => exact n3_1_7 h0 h1 v H
  | .inl (.m, .m, .z, true), 2, _, hi => exact absurd hi (by decide +kernel)
  | .inl (.m, .m, .z, true), 3, _, _ => exact n3_3_7 h0 h1 v H
  | .inl (.m, .m, .z, true), 4, _, _ => exact n3_4_9 v H
  | .inl (.m, .m, .z, true), 5, _, hi => exact absurd hi (by decide +kernel)
  | .inl (.m, .m, .z, true), 6, _, hi => exact absurd hi (by decide +kernel)
  | .inl (.m, .m, .z, true), 7, _, hi => exact absurd hi (by decide +kernel)
  | .inl (.m, .m, .z, true), 8, _, hi => exact absurd hi (by decide +kernel)
  | .inl (.m, .m, .m, false), 0, _, hi => exact absurd hi (by decide +kernel)
  | .inl (.m, .m, .m, false), 1, _, _ => exact n3_1_8 h0 h1 v H
  | .inl (.m, .m, .m, false), 2, _, hi => exact absurd hi (by decide +kernel)
  | .inl (.m, .m, .m, false), 3, _, _ => exact n3_3_8 h0 h1 v H
  | .inl (.m, .m, .m, false), 4, _, hi => exact absurd hi (by decide +kernel)
  | .inl (.m, .m, .m, false), 5, _, _ => exact n3_5_8 h0 h1 v H
  | .inl (.m, .m, .m, false), 6, _, hi => exact absurd hi (by decide +kernel)
  | .inl (.m, .m, .m, false), 7, _, _ => exact n3_7_13 v H
  | .inl (.m, .m, .m, false), 8, _, hi => exact absurd hi (by decide +kernel)
  | .inl (.m, .m, .m, true), 0, _, hi => exact absurd hi (by decide +kernel)
  | .inl (.m, .m, .m, true), 1, _, _ => exact n3_1_9 h0 h1 v H
  | .inl (.m, .m, .m, true), 2, _, hi => exact absurd hi (by decide +kernel)
  | .inl (.m, .m, .m, true), 3, _, _ => exact n3_3_9 h0 h1 v H
  | .inl (.m, .m, .m, true), 4, _, hi => exact absurd hi (by decide +kernel)
  | .inl (.m, .m, .m, true), 5, _, _ => exact n3_5_9 h0 h1 v H
  | .inl (.m, .m, .m, true), 6, _, hi => exact absurd hi (by decide +kernel)
  | .inl (.m, .m, .m, true), 7, _, hi => exact absurd hi (by decide +kernel)
  | .inl (.m, .m, .m, true), 8, _, hi => exact absurd hi (by decide +kernel)
  | .inl (.m, .m, .d, false), 0, _, hi => exact absurd hi (by decide +kernel)
  | .inl (.m, .m, .d, false), 1, _, _ => exact n3_1_10 h0 h1 v H
  | .inl (.m, .m, .d, false), 2, _, hi => exact absurd hi (by decide +kernel)
  | .inl (.m, .m, .d, false), 3, _, _ => exact n3_3_10 h0 h1 v H
  | .inl (.m, .m, .d, false), 4, _, hi => exact absurd hi (by decide +kernel)
  | .inl (.m, .m, .d, false), 5, _, hi => exact absurd hi (by decide +kernel)
  | .inl (.m, .m, .d, false), 6, _, hi => exact absurd hi (by decide +kernel)
  | .inl (.m, .m, .d, false), 7, _, _ => exact n3_7_14 v H
  | .inl (.m, .m, .d, false), 8, _, hi => exact absurd hi (by decide +kernel)
  | .inl (.m, .m, .d, true), 0, _, hi => exact absurd hi (by decide +kernel)
  | .inl (.m, .m, .d, true), 1, _, _ => exact n3_1_11 h0 h1 v H
  | .inl (.m, .m, .d, true), 2, _, hi => exact absurd hi (by decide +kernel)
  | .inl (.m, .m, .d, true), 3, _, _ => exact n3_3_11 h0 h1 v H
  | .inl (.m, .m, .d, true), 4, _, hi => exact absurd hi (by decide +kernel)
  | .inl (.m, .m, .d, true), 5, _, hi => exact absurd hi (by decide +kernel)
  | .inl (.m, .m, .d, true), 6, _, hi => exact absurd hi (by decide +kernel)
  | .inl (.m, .m, .d, true), 7, _, hi => exact absurd hi (by decide +kernel)
  | .inl (.m, .m, .d, true), 8, _, hi => exact absurd hi (by decide +kernel)
  | .inl (.m, .d, .z, false), 0, _, hi => exact absurd hi (by decide +kernel)
  | .inl (.m, .d, .z, false), 1, _, _ => exact n3_1_12 h0 h1 v H
  | .inl (.m, .d, .z, false), 2, _, hi => exact absurd hi (by decide +kernel)
  | .inl (.m, .d, .z, false), 3, _, hi => exact absurd hi (by decide +kernel)
  | .inl (.m, .d, .z, false), 4, _, _ => exact n3_4_10 v H
  | .inl (.m, .d, .z, false), 5, _, hi => exact absurd hi (by decide +kernel)
  | .inl (.m, .d, .z, false), 6, _, hi => exact absurd hi (by decide +kernel)
  | .inl (.m, .d, .z, false), 7, _, _ => exact n3_7_15 v H
  | .inl (.m, .d, .z, false), 8, _, hi => exact absurd hi (by decide +kernel)
  | .inl (.m, .d, .z, true), 0, _, hi => exact absurd hi (by decide +kernel)
  | .inl (.m, .d, .z, true), 1, _, _ => exact n3_1_13 h0 h1 v H
  | .inl (.m, .d, .z, true), 2, _, hi => exact absurd hi (by decide +kernel)
  | .inl (.m, .d, .z, true), 3, _, hi => exact absurd hi (by decide +kernel)
  | .inl (.m, .d, .z, true), 4, _, _ => exact n3_4_11 v H
  | .inl (.m, .d, .z, true), 5, _, hi => exact absurd hi (by decide +kernel)
  | .inl (.m, .d, .z, true), 6, _, hi => exact absurd hi (by decide +kernel)
  | .inl (.m, .d, .z, true), 7, _, hi => exact absurd hi (by decide +kernel)
  | .inl (.m, .d, .z, true), 8, _, hi => exact absurd hi (by decide +kernel)
  | .inl (.m, .d, .m, false), 0, _, hi => exact absurd hi (by decide +kernel)
  | .inl (.m, .d, .m, false), 1, _, _ => exact n3_1_14 h0 h1 v H
  | .inl (.m, .d, .m, false), 2, _, hi => exact absurd hi (by decide +kernel)
  | .inl (.m, .d, .m, false), 3, _, hi => exact absurd hi (by decide +kernel)
  | .inl (.m, .d, .m, false), 4, _, hi => exact absurd hi (by decide +kernel)
  | .inl (.m, .d, .m, false), 5, _, _ => exact n3_5_10 h0 h1 v H
  | .inl (.m, .d, .m, false), 6, _, hi => exact absurd hi (by decide +kernel)
  | .inl (.m, .d, .m, false), 7, _, _ => exact n3_7_16 v H
  | .inl (.m, .d, .m, false), 8, _, hi => exact absurd hi (by decide +kernel)
  | .inl (.m, .d, .m, true), 0, _, hi => exact absurd hi (by decide +kernel)
  | .inl (.m, .d, .m, true), 1, _, _ => exact n3_1_15 h0 h1 v H
  | .inl (.m, .d, .m, true), 2, _, hi => exact absurd hi (by decide +kernel)
  | .inl (.m, .d, .m, true), 3, _, hi => exact absurd hi (by decide +kernel)
  | .inl (.m, .d, .m, true), 4, _, hi => exact absurd hi (by decide +kernel)
  | .inl (.m, .d, .m, true), 5, _, _ => exact n3_5_11 h0 h1 v H
  | .inl (.m, .d, .m, true), 6, _, hi => exact absurd hi (by decide +kernel)
  | .inl (.m, .d, .m, true), 7, _, hi => exact absurd hi (by decide +kernel)
  | .inl (.m, .d, .m, true), 8, _, hi => exact absurd hi (by decide +kernel)
  | .inl (.m, .d, .d, false), 0, _, hi => exact absurd hi (by decide +kernel)
  | .inl (.m, .d, .d, false), 1, _, _ => exact n3_1_16 h0 h1 v H
  | .inl (.m, .d, .d, false), 2, _, hi => exact absurd hi (by decide +kernel)
  | .inl (.m, .d, .d, false), 3, _, hi => exact absurd hi (by decide +kernel)
  | .inl (.m, .d, .d, false), 4, _, hi => exact absurd hi (by decide +kernel)
  | .inl (.m, .d, .d, false), 5, _, hi => exact absurd hi (by decide +kernel)
  | .inl (.m, .d, .d, false), 6, _, hi => exact absurd hi (by decide +kernel)
  | .inl (.m, .d, .d, false), 7, _, _ => exact n3_7_17 v H
  | .inl (.m, .d, .d, false), 8, _, hi => exact absurd hi (by decide +kernel)
  | .inl (.m, .d, .d, true), 0, _, hi => exact absurd hi (by decide +kernel)
  | .inl (.m, .d, .d, true), 1, _, _ => exact n3_1_17 h0 h1 v H
  | .inl (.m, .d, .d, true), 2, _, hi => exact absurd hi (by decide +kernel)
  | .inl (.m, .d, .d, true), 3, _, hi => exact absurd hi (by decide +kernel)
  | .inl (.m, .d, .d, true), 4, _, hi => exact absurd hi (by decide +kernel)
  | .inl (.m, .d, .d, true), 5, _, hi => exact absurd hi (by decide +kernel)
  | .inl (.m, .d, .d, true), 6, _, hi => exact absurd hi (by decide +kernel)
  | .inl (.m, .d, .d, true), 7, _, hi => exact absurd hi (by decide +kernel)
  | .inl (.m, .d, .d, true), 8, _, hi => exact absurd hi (by decide +kernel)
  | .inl (.d, .z, .z, false), 0, _, hi => exact absurd hi (by decide +kernel)
  | .inl (.d, .z, .z, false), 1, _, hi => exact absurd hi (by decide +kernel)
  | .inl (.d, .z, .z, false), 2, _, _ => exact n3_2_12 v H
  | .inl (.d, .z, .z, false), 3, _, hi => exact absurd hi (by decide +kernel)
  | .inl (.d, .z, .z, false), 4, _, _ => exact n3_4_12 v H
  | .inl (.d, .z, .z, false), 5, _, hi => exact absurd hi (by decide +kernel)
  | .inl (.d, .z, .z, false), 6, _, hi => exact absurd hi (by decide +kernel)
  | .inl (.d, .z, .z, false), 7, _, _ => exact n3_7_18 v H
  | .inl (.d, .z, .z, false), 8, _, hi => exact absurd hi (by decide +kernel)
  | .inl (.d, .z, .z, true), 0, _, hi => exact absurd hi (by decide +kernel)
  | .inl (.d, .z, .z, true), 1, _, hi => exact absurd hi (by decide +kernel)
  | .inl (.d, .z, .z, true), 2, _, _ => exact n3_2_13 v H
  | .inl (.d, .z, .z, true), 3, _, hi => exact absurd hi (by decide +kernel)
  | .inl (.d, .z, .z, true), 4, _, _ => exact n3_4_13 v H
  | .inl (.d, .z, .z, true), 5, _, hi => exact absurd hi (by decide +kernel)
  | .inl (.d, .z, .z, true), 6, _, hi => exact absurd hi (by decide +kernel)
  | .inl (.d, .z, .z, true), 7, _, hi => exact absurd hi (by decide +kernel)
  | .inl (.d, .z, .z, true), 8, _, hi => exact absurd hi (by decide +kernel)
  | .inl (.d, .z, .m, false), 0, _, hi => exact absurd hi (by decide +kernel)
  | .inl (.d, .z, .m, false), 1, _, hi => exact absurd hi (by decide +kernel)
  | .inl (.d, .z, .m, false), 2, _, _ => exact n3_2_14 v H
  | .inl (.d, .z, .m, false), 3, _, hi => exact absurd hi (by decide +kernel)
  | .inl (.d, .z, .m, false), 4, _, hi => exact absurd hi (by decide +kernel)
  | .inl (.d, .z, .m, false), 5, _, _ => exact n3_5_12 h0 h1 v H
  | .inl (.d, .z, .m, false), 6, _, hi => exact absurd hi (by decide +kernel)
  | .inl (.d, .z, .m, false), 7, _, _ => exact n3_7_19 v H
  | .inl (.d, .z, .m, false), 8, _, hi => exact absurd hi (by decide +kernel)
  | .inl (.d, .z, .m, true), 0, _, hi => exact absurd hi (by decide +kernel)
  | .inl (.d, .z, .m, true), 1, _, hi => exact absurd hi (by decide +kernel)
  | .inl (.d, .z, .m, true), 2, _, _ => exact n3_2_15 v H
  | .inl (.d, .z, .m, true), 3, _, hi => exact absurd hi (by decide +kernel)
  | .inl (.d, .z, .m, true), 4, _, hi => exact absurd hi (by decide +kernel)
  | .inl (.d, .z, .m, true), 5, _, _ => exact n3_5_13 h0 h1 v H
  | .inl (.d, .z, .m, true), 6, _, hi => exact absurd hi (by decide +kernel)
  | .inl (.d, .z, .m, true), 7, _, hi => exact absurd hi (by decide +kernel)
  | .inl (.d, .z, .m, true), 8, _, hi => exact absurd hi (by decide +kernel)
  | .inl (.d, .z, .d, false), 0, _, hi => exact absurd hi (by decide +kernel)
  | .inl (.d, .z, .d, false), 1, _, hi => exact absurd hi (by decide +kernel)
  | .inl (.d, .z, .d, false), 2, _, _ => exact n3_2_16 v H
  | .inl (.d, .z, .d, false), 3, _, hi => exact absurd hi (by decide +kernel)
  | .inl (.d, .z, .d, false), 4, _, hi => exact absurd hi (by decide +kernel)
  | .inl (.d, .z, .d, false), 5, _, hi => exact absurd hi (by decide +kernel)
  | .inl (.d, .z, .d, false), 6, _, hi => exact absurd hi (by decide +kernel)
  | .inl (.d, .z, .d, false), 7, _, _ => exact n3_7_20 v H
  | .inl (.d, .z, .d, false), 8, _, hi => exact absurd hi (by decide +kernel)
  | .inl (.d, .z, .d, true), 0, _, hi => exact absurd hi (by decide +kernel)
  | .inl (.d, .z, .d, true), 1, _, hi => exact absurd hi (by decide +kernel)
  | .inl (.d, .z, .d, true), 2, _, _ => exact n3_2_17 v H
  | .inl (.d, .z, .d, true), 3, _, hi => exact absurd hi (by decide +kernel)
  | .inl (.d, .z, .d, true), 4, _, hi => exact absurd hi (by decide +kernel)
  | .inl (.d, .z, .d, true), 5, _, hi => exact absurd hi (by decide +kernel)
  | .inl (.d, .z, .d, true), 6, _, hi => exact absurd hi (by decide +kernel)
  | .inl (.d, .z, .d, true), 7, _, hi => exact absurd hi (by decide +kernel)
  | .inl (.d, .z, .d, true), 8, _, hi => exact absurd hi (by decide +kernel)
  | .inl (.d, .m, .z, false), 0, _, hi => exact absurd hi (by decide +kernel)
  | .inl (.d, .m, .z, false), 1, _, hi => exact absurd hi (by decide +kernel)
  | .inl (.d, .m, .z, false), 2, _, hi => exact absurd hi (by decide +kernel)
  | .inl (.d, .m, .z, false), 3, _, _ => exact n3_3_12 h0 h1 v H
  | .inl (.d, .m, .z, false), 4, _, _ => exact n3_4_14 v H
  | .inl (.d, .m, .z, false), 5, _, hi => exact absurd hi (by decide +kernel)
  | .inl (.d, .m, .z, false), 6, _, hi => exact absurd hi (by decide +kernel)
  | .inl (.d, .m, .z, false), 7, _, _ => exact n3_7_21 v H
  | .inl (.d, .m, .z, false), 8, _, hi => exact absurd hi (by decide +kernel)
  | .inl (.d, .m, .z, true), 0, _, hi => exact absurd hi (by decide +kernel)
  | .inl (.d, .m, .z, true), 1, _, hi => exact absurd hi (by decide +kernel)
  | .inl (.d, .m, .z, true), 2, _, hi => exact absurd hi (by decide +kernel)
  | .inl (.d, .m, .z, true), 3, _, _ => exact n3_3_13 h0 h1 v H
  | .inl (.d, .m, .z, true), 4, _, _ => exact n3_4_15 v H
  | .inl (.d, .m, .z, true), 5, _, hi => exact absurd hi (by decide +kernel)
  | .inl (.d, .m, .z, true), 6, _, hi => exact absurd hi (by decide +kernel)
  | .inl (.d, .m, .z, true), 7, _, hi => exact absurd hi (by decide +kernel)
  | .inl (.d, .m, .z, true), 8, _, hi => exact absurd hi (by decide +kernel)
  | .inl (.d, .m, .m, false), 0, _, hi => exact absurd hi (by decide +kernel)
  | .inl (.d, .m, .m, false), 1, _, hi => exact absurd hi (by decide +kernel)
  | .inl (.d, .m, .m, false), 2, _, hi => exact absurd hi (by decide +kernel)
  | .inl (.d, .m, .m, false), 3, _, _ => exact n3_3_14 h0 h1 v H
  | .inl (.d, .m, .m, false), 4, _, hi => exact absurd hi (by decide +kernel)
  | .inl (.d, .m, .m, false), 5, _, _ => exact n3_5_14 h0 h1 v H
  | .inl (.d, .m, .m, false), 6, _, hi => exact absurd hi (by decide +kernel)
  | .inl (.d, .m, .m, false), 7, _, _ => exact n3_7_22 v H
  | .inl (.d, .m, .m, false), 8, _, hi => exact absurd hi (by decide +kernel)
  | .inl (.d, .m, .m, true), 0, _, hi => exact absurd hi (by decide +kernel)
  | .inl (.d, .m, .m, true), 1, _, hi => exact absurd hi (by decide +kernel)
  | .inl (.d, .m, .m, true), 2, _, hi => exact absurd hi (by decide +kernel)
  | .inl (.d, .m, .m, true), 3, _, _ => exact n3_3_15 h0 h1 v H
  | .inl (.d, .m, .m, true), 4, _, hi => exact absurd hi (by decide +kernel)
  | .inl (.d, .m, .m, true), 5, _, _ => exact n3_5_15 h0 h1 v H
  | .inl (.d, .m, .m, true), 6, _, hi => exact absurd hi (by decide +kernel)
  | .inl (.d, .m, .m, true), 7, _, hi => exact absurd hi (by decide +kernel)
  | .inl (.d, .m, .m, true), 8, _, hi => exact absurd hi (by decide +kernel)
  | .inl (.d, .m, .d, false), 0, _, hi => exact absurd hi (by decide +kernel)
  | .inl (.d, .m, .d, false), 1, _, hi => exact absurd hi (by decide +kernel)
  | .inl (.d, .m, .d, false), 2, _, hi => exact absurd hi (by decide +kernel)
  | .inl (.d, .m, .d, false), 3, _, _ => exact n3_3_16 h0 h1 v H
  | .inl (.d, .m, .d, false), 4, _, hi => exact absurd hi (by decide +kernel)
  | .inl (.d, .m, .d, false), 5, _, hi => exact absurd hi (by decide +kernel)
  | .inl (.d, .m, .d, false), 6, _, hi => exact absurd hi (by decide +kernel)
  | .inl (.d, .m, .d, false), 7, _, _ => exact n3_7_23 v H
  | .inl (.d, .m, .d, false), 8, _, hi => exact absurd hi (by decide +kernel)
  | .inl (.d, .m, .d, true), 0, _, hi => exact absurd hi (by decide +kernel)
  | .inl (.d, .m, .d, true), 1, _, hi => exact absurd hi (by decide +kernel)
  | .inl (.d, .m, .d, true), 2, _, hi => exact absurd hi (by decide +kernel)
  | .inl (.d, .m, .d, true), 3, _, _ => exact n3_3_17 h0 h1 v H
  | .inl (.d, .m, .d, true), 4, _, hi => exact absurd hi (by decide +kernel)
  | .inl (.d, .m, .d, true), 5, _, hi => exact absurd hi (by decide +kernel)
  | .inl (.d, .m, .d, true), 6, _, hi => exact absurd hi (by decide +kernel)
  | .inl (.d, .m, .d, true), 7, _, hi => exact absurd hi (by decide +kernel)
  | .inl (.d, .m, .d, true), 8, _, hi => exact absurd hi (by decide +kernel)
  | .inl (.d, .d, .z, false), 0, _, hi => exact absurd hi (by decide +kernel)
  | .inl (.d, .d, .z, false), 1, _, hi => exact absurd hi (by decide +kernel)
  | .inl (.d, .d, .z, false), 2, _, hi => exact absurd hi (by decide +kernel)
  | .inl (.d, .d, .z, false), 3, _, hi => exact absurd hi (by decide +kernel)
  | .inl (.d, .d, .z, false), 4, _, _ => exact n3_4_16 v H
  | .inl (.d, .d, .z, false), 5, _, hi => exact absurd hi (by decide +kernel)
  | .inl (.d, .d, .z, false), 6, _, hi => exact absurd hi (by decide +kernel)
  | .inl (.d, .d, .z, false), 7, _, _ => exact n3_7_24 v H
  | .inl (.d, .d, .z, false), 8, _, hi => exact absurd hi (by decide +kernel)
  | .inl (.d, .d, .z, true), 0, _, hi => exact absurd hi (by decide +kernel)
  | .inl (.d, .d, .z, true), 1, _, hi => exact absurd hi (by decide +kernel)
  | .inl (.d, .d, .z, true), 2, _, hi => exact absurd hi (by decide +kernel)
  | .inl (.d, .d, .z, true), 3, _, hi => exact absurd hi (by decide +kernel)
  | .inl (.d, .d, .z, true), 4, _, _ => exact n3_4_17 v H
  | .inl (.d, .d, .z, true), 5, _, hi => exact absurd hi (by decide +kernel)
  | .inl (.d, .d, .z, true), 6, _, hi => exact absurd hi (by decide +kernel)
  | .inl (.d, .d, .z, true), 7, _, hi => exact absurd hi (by decide +kernel)
  | .inl (.d, .d, .z, true), 8, _, hi => exact absurd hi (by decide +kernel)
  | .inl (.d, .d, .m, false), 0, _, hi => exact absurd hi (by decide +kernel)
  | .inl (.d, .d, .m, false), 1, _, hi => exact absurd hi (by decide +kernel)
  | .inl (.d, .d, .m, false), 2, _, hi => exact absurd hi (by decide +kernel)
  | .inl (.d, .d, .m, false), 3, _, hi => exact absurd hi (by decide +kernel)
  | .inl (.d, .d, .m, false), 4, _, hi => exact absurd hi (by decide +kernel)
  | .inl (.d, .d, .m, false), 5, _, _ => exact n3_5_16 h0 h1 v H
  | .inl (.d, .d, .m, false), 6, _, hi => exact absurd hi (by decide +kernel)
  | .inl (.d, .d, .m, false), 7, _, _ => exact n3_7_25 v H
  | .inl (.d, .d, .m, false), 8, _, hi => exact absurd hi (by decide +kernel)
  | .inl (.d, .d, .m, true), 0, _, hi => exact absurd hi (by decide +kernel)
  | .inl (.d, .d, .m, true), 1, _, hi => exact absurd hi (by decide +kernel)
  | .inl (.d, .d, .m, true), 2, _, hi => exact absurd hi (by decide +kernel)
  | .inl (.d, .d, .m, true), 3, _, hi => exact absurd hi (by decide +kernel)
  | .inl (.d, .d, .m, true), 4, _, hi => exact absurd hi (by decide +kernel)
  | .inl (.d, .d, .m, true), 5, _, _ => exact n3_5_17 h0 h1 v H
  | .inl (.d, .d, .m, true), 6, _, hi => exact absurd hi (by decide +kernel)
  | .inl (.d, .d, .m, true), 7, _, hi => exact absurd hi (by decide +kernel)
  | .inl (.d, .d, .m, true), 8, _, hi => exact absurd hi (by decide +kernel)
  | .inl (.d, .d, .d, false), 0, _, hi => exact absurd hi (by decide +kernel)
  | .inl (.d, .d, .d, false), 1, _, hi => exact absurd hi (by decide +kernel)
  | .inl (.d, .d, .d, false), 2, _, hi => exact absurd hi (by decide +kernel)
  | .inl (.d, .d, .d, false), 3, _, hi => exact absurd hi (by decide +kernel)
  | .inl (.d, .d, .d, false), 4, _, hi => exact absurd hi (by decide +kernel)
  | .inl (.d, .d, .d, false), 5, _, hi => exact absurd hi (by decide +kernel)
  | .inl (.d, .d, .d, false), 6, _, _ => exact n3_6_0 v H
  | .inl (.d, .d, .d, false), 7, _, _ => exact n3_7_26 v H
  | .inl (.d, .d, .d, false), 8, _, hi => exact absurd hi (by decide +kernel)
  | .inl (.d, .d, .d, true), 0, _, hi => exact absurd hi (by decide +kernel)
  | .inl (.d, .d, .d, true), 1, _, hi => exact absurd hi (by decide +kernel)
  | .inl (.d, .d, .d, true), 2, _, hi => exact absurd hi (by decide +kernel)
  | .inl (.d, .d, .d, true), 3, _, hi => exact absurd hi (by decide +kernel)
  | .inl (.d, .d, .d, true), 4, _, hi => exact absurd hi (by decide +kernel)
  | .inl (.d, .d, .d, true), 5, _, hi => exact absurd hi (by decide +kernel)
  | .inl (.d, .d, .d, true), 6, _, _ => exact n3_6_1 v H
  | .inl (.d, .d, .d, true), 7, _, hi => exact absurd hi (by decide +kernel)
  | .inl (.d, .d, .d, true), 8, _, hi => exact absurd hi (by decide +kernel)
  | .inr (some false), 0, _, hi => exact absurd hi (by decide +kernel)
  | .inr (some false), 1, _, hi => exact absurd hi (by decide +kernel)
  | .inr (some false), 2, _, hi => exact absurd hi (by decide +kernel)
  | .inr (some false), 3, _, hi => exact absurd hi (by decide +kernel)
  | .inr (some false), 4, _, hi => exact absurd hi (by decide +kernel)
  | .inr (some false), 5, _, hi => exact absurd hi (by decide +kernel)
  | .inr (some false), 6, _, hi => exact absurd hi (by decide +kernel)
  | .inr (some false), 7, _, _ => exact n3_7_27 v H
  | .inr (some false), 8, _, hi => exact absurd hi (by decide +kernel)
  | .inr (some true), 0, _, hi => exact absurd hi (by decide +kernel)
  | .inr (some true), 1, _, hi => exact absurd hi (by decide +kernel)
  | .inr (some true), 2, _, hi => exact absurd hi (by decide +kernel)
  | .inr (some true), 3, _, hi => exact absurd hi (by decide +kernel)
  | .inr (some true), 4, _, hi => exact absurd hi (by decide +kernel)
  | .inr (some true), 5, _, hi => exact absurd hi (by decide +kernel)
  | .inr (some true), 6, _, hi => exact absurd hi (by decide +kernel)
  | .inr (some true), 7, _, hi => exact absurd hi (by decide +kernel)
  | .inr (some true), 8, _, _ => exact n3_8_0 v H
  | .inr none, 0, _, hi => exact absurd hi (by decide +kernel)
  | .inr none, 1, _, hi => exact absurd hi (by decide +kernel)
  | .inr none, 2, _, hi => exact absurd hi (by decide +kernel)
  | .inr none, 3, _, hi => exact absurd hi (by decide +kernel)
  | .inr none, 4, _, hi => exact absurd hi (by decide +kernel)
  | .inr none, 5, _, hi => exact absurd hi (by decide +kernel)
  | .inr none, 6, _, hi => exact absurd hi (by decide +kernel)
  | .inr none, 7, _, hi => exact absurd hi (by decide +kernel)
  | .inr none, 8, _, hi => exact absurd hi (by decide +kernel)
  | x, i + 9, hlt, _ => exact absurd hlt (by omega)
end Go.Proofs
end
section
namespace Go.Proofs
open Go.Sy
set_option maxRecDepth 20000
set_option maxHeartbeats 2000000
theorem end3 : ∀ x, Region.ready .any ops3 (L3 x) = [] → x = .inr none
  | .inr none, _ => rfl
  | .inr (some true), h => absurd h (by decide +kernel)
  | .inr (some false), h => absurd h (by decide +kernel)
  | .inl (p, q, r, a), h => by cases p <;> cases q <;> cases r <;> cases a <;> exact absurd h (by decide +kernel)
theorem cx27_ok : TOK cx27 := ⟨cx_ok.tt, cx_ok.eqs⟩
theorem region3_spec {m : Int} (h0 : 0 ≤ m) (h1 : m ≤ 1000) {v : Value} {H : Hp} {id : Nat} {Q : Ex → St → Hp → Prop} {s : St} (hs : ∃ mm, Sub cx27 mm s (T3 m v (.inl (.z, .z, .z, false)))) (hQ : Q .normal (T3 m v (.inr none)) H) : RawCode cx27 (.region id ops3 true) Q s H :=
  region_tree cx27_ok cx_mix (T3 m v) L3 (.inl (.z, .z, .z, false)) hs rfl (fun x => by match x with | .inl _ => rfl | .inr (some _) => rfl | .inr none => rfl) (fun x i hi => step3 h0 h1 v H x i hi) (fun x hx => by rw [end3 x hx]; exact hQ)
end Go.Proofs
end
section
namespace Go.Proofs
open Go.Sy
set_option maxRecDepth 20000
set_option maxHeartbeats 2000000
theorem right_edges {m : Int} {l : List Edg} (h : rightE m l = true) : ∀ e ∈ l, nodeI m e.1 = true ∧ nodeI m e.2 = true := fun e he => by
  rw [rightE] at h
  simp only [Bool.and_eq_true, Bool.not_eq_true', decide_eq_false_iff_not] at h
  have h2 := h.2
  rw [idxB_none (f := badE m) l 0 (by omega)] at h2
  have h3 : badE m e = false := by
    cases hb : badE m e with
    | false => rfl
    | true => exact absurd ⟨e, he, hb⟩ h2
  rw [badE] at h3
  rw [nodeI, nodeI]
  simpa using h3
theorem gnx_len {m : Int} (hm0 : 0 ≤ m) (hm : m ≤ 1000) {l : List Edg} : ∀ v, (gnx m l v).length ≤ 1000 := fun v => by
  have := nodes_len (s := gnx m l v) (m := m) (strict_nodup (gSort_strict _)) (gnx_node v)
  omega
/-- What holds between the walks. -/
structure OI (m : Int) (l : List Edg) (css pcss : List (List Value)) (a : Option Addr) (H0 H : Hp) (s : TS) (i : Nat) : Prop where
  le : Le H0 H
  ti : TI m.toNat (gnx m l) s
  rc : RC (α := List Int) H css (nexts m l m.toNat)
  rp : RX H0 H pcss s.pa
  ra : RowAt H (.slice a 0 0) 1 []
  seen : ∀ j : Nat, j < i → ig s.ix (j : Int) ≠ 0
theorem of_specX {m : Int} {l : List Edg} (hl : l.length ≤ 1000000) {a : Option Addr} {n c : Nat} {H : Hp} {K : Value → Hp → Prop} (ha : RL H a n c l)
    (hbad : rightE m l = false → K (.tuple #[.slice none 0 0, .int .i64 1]) H)
    (hK : rightE m l = true → ∀ a1 n1 c1 pa out ocss H', Le H H' → RL H' a1 n1 c1 out → RowAt H' (.slice a1 n1 c1) 1 ocss → RX H H' ocss out → TopApart a1 ocss → AllP m l pa → IsOrd l pa out → out.length = pa.length → K (.tuple #[.slice a1 n1 c1, .int .i64 0]) H') :
    Does Try.prog 27 [.int .i64 m, .slice a n c] H K := by
  refine spec_of cx_ok cx_mix rfl Try.func27 Try.call27 Try.ntmps27 Try.results27 rfl rfl ?_
  refine right_spec ha ?_
  refine ⟨fun h => ?_, fun h => ?_⟩
  · exact hbad (by simpa using h)
  · have h1 : rightE m l = true := by simpa using h
    have hK := hK h1
    obtain ⟨hm1, hm2, hl2⟩ := right_ok h1
    have hN : ((m.toNat : Nat) : Int) = m := toNat_nat m (by omega)
    have hNX := nexts_ok (m := m) (by omega) (by omega) (l := l)
    have hnl := nexts_len m l m.toNat
    have hnx := nxL_nexts (m := m) (by omega) l
    refine ⟨none, region3_spec (m := m) (v := .slice a n c) (by omega) (by omega) ⟨[], ?_⟩ ?_⟩
    · (repeat' (first | exact trivial | refine ⟨?_, ?_⟩ | exact rfl | assumption))
    have ezi : List.replicate m.toNat [Value.int .i64 0] = iRows (List.replicate m.toNat 0) := iRows_rep m.toNat
    have ezb : List.replicate m.toNat [Value.bool false] = bRows (List.replicate m.toNat false) := bRows_rep m.toNat
    obtain ⟨s0, hs0⟩ : ∃ s0, s0 = (⟨List.replicate m.toNat 0, List.replicate m.toNat 0, List.replicate m.toNat false, [], 0, []⟩ : TS) := ⟨_, rfl⟩
    have hgn : ∀ v, ∀ b ∈ gnx m l v, nodeI m.toNat b = true := by rw [hN]; exact gnx_node
    have hTI0 : TI m.toNat (gnx m l) s0 := by
      have hz : ∀ x, ig (List.replicate m.toNat 0) x = 0 := fun x => by rw [ig, List.getElem?_replicate]; split <;> rfl
      rw [hs0]
      exact ⟨List.length_replicate, List.length_replicate, List.length_replicate, rfl, fun x _ => by rw [hz]; simp, fun x _ => zero_get _ _, by simp, ⟨by simp, by simp, by simp, fun A B h x hx => by
        have := List.append_eq_nil_iff.1 h.symm
        rw [this.1] at hx
        cases hx⟩⟩
    refine ⟨Nat × List (List Value), fun q => ⟨[(0, .v (.int .i64 m)), (1, .v (.slice a n c)), (6, .ptr 3 0), (20, .v (.int .i64 m)), (21, .v (.int .i64 q.1))],
        [(0, .row 3 1 (iRows (List.replicate m.toNat 0))), (1, .row 3 1 (iRows (List.replicate m.toNat 0))), (2, .row 4 1 (bRows (List.replicate m.toNat false))), (3, .cells 84 [.own 4, .own 0, .own 1, .own 2, .v (.slice none 0 0), .v (.int .i64 0), .v (.slice none 0 0)]), (4, .row 27 1 q.2)], 5⟩,
      fun q H' => Le H H' ∧ q.1 ≤ m.toNat ∧ RC H' q.2 (nexts m l q.1), fun q => m.toNat - q.1, ⟨(0, []), [(0, 0), (1, 1), (2, 2), (3, 3)], ?_, Le.refl H, Nat.zero_le _, RC.nil⟩, ?_⟩
    · (repeat' (first | exact trivial | refine ⟨?_, ?_⟩ | exact rfl | assumption))
    rintro ⟨i, css⟩ H1 _ ⟨hle, hi, hrc⟩
    dsimp only at hle hi hrc
    refine ⟨fun h => ?_, fun h => ?_⟩
    · have hlt : (i : Int) < m := dt h
      have hcl : css.length = i := by rw [hrc.1, nexts_len]
      refine ⟨some ([3, 4, 1000000], [0, 1, 2, 3, 4, 5, 6, 7, 8, 9]), by kernel_rfl, ?_⟩
      refine next_spec hl (ha.up hle) fun a5 n5 c5 H2 hle2 hr5 => ?_
      refine ⟨room (n := css.length), ?_⟩
      have hrc2 : RC H2 (css ++ [[.slice a5 n5 c5]]) (nexts m l (i + 1)) := by rw [nexts_snoc]; exact (hrc.up hle2).snoc ⟨a5, n5, c5, rfl, hr5⟩
      refine ⟨⟨by omega, by omega⟩, (i + 1, css ++ [[.slice a5 n5 c5]]), [(0, 0), (1, 1), (2, 2), (3, 3), (4, 6)], ?_, ⟨hle.trans hle2, by dsimp only; omega, hrc2⟩, by dsimp only; omega⟩
      (repeat' (first | exact trivial | refine ⟨?_, ?_⟩ | exact rfl | assumption))
    · have him : i = m.toNat := by have := df h; dsimp only at this; omega
      subst him
      refine ⟨Option Addr × TS × List (List Value) × Nat, fun q => ⟨[(0, .v (.int .i64 m)), (1, .v (.slice a n c)), (6, .ptr 3 0), (34, .v (.int .i64 m)), (35, .v (.int .i64 q.2.2.2))],
          [(0, .row 3 1 (iRows q.2.1.ix)), (1, .row 3 1 (iRows q.2.1.lo)), (2, .row 4 1 (bRows q.2.1.on)), (3, .cells 84 [.own 4, .own 0, .own 1, .own 2, .v (.slice q.1 0 0), .v (.int .i64 q.2.1.ct), .own 5]), (4, .row 27 1 css), (5, .row 27 1 q.2.2.1)], 6⟩,
        fun q H' => OI m l css q.2.2.1 q.1 H H' q.2.1 q.2.2.2 ∧ q.2.2.2 ≤ m.toNat, fun q => m.toNat - q.2.2.2, ⟨(none, s0, [], 0), [(0, 0), (1, 1), (2, 2), (3, 3), (4, 4)], ?_, ⟨hle, hTI0, hrc, by rw [hs0]; exact RX.nil hle, ⟨none, 0, rfl, ⟨Nat.le_refl _, by omega⟩, by simp, .inl ⟨rfl, rfl⟩⟩, fun j hj => (by cases hj)⟩, Nat.zero_le _⟩, ?_⟩
      · have e1 : iRows (List.replicate m.toNat 0) = iRows s0.ix := by rw [hs0]
        have e2 : iRows (List.replicate m.toNat 0) = iRows s0.lo := by rw [hs0]
        have e3 : bRows (List.replicate m.toNat false) = bRows s0.on := by rw [hs0]
        have e4 : SV.v (.int .i64 0) = SV.v (.int .i64 (s0.ct : Int)) := by rw [hs0]; rfl
        (repeat' (first | exact trivial | refine ⟨?_, ?_⟩ | exact rfl | assumption))
      clear hrc hle
      rintro ⟨a6, s, pcss, i⟩ H2 _ ⟨hO, hi⟩
      dsimp only at hO hi
      have hlx := hO.ti.lx
      refine ⟨fun h => ?_, fun h => ?_⟩
      · have hlt : (i : Int) < m := dt h
        have hvn : nodeI m.toNat (i : Int) = true := decide_eq_true (by omega)
        refine ⟨⟨by (try dsimp only); omega, by (try dsimp only); rw [iRows_len]; (try dsimp only); omega⟩, ?_⟩
        refine ⟨_, iRows_at (L := s.ix) (x := (i : Int)) (by omega) (by omega), ?_⟩
        refine ⟨fun h => ?_, fun h => ?_⟩
        · have h0 : ig s.ix (i : Int) = 0 := dt h
          refine (walk_ends hgn (C := 1000) (gnx_len (by omega) (by omega)) _ ⟨enterT s i, [], i, 0⟩ (hO.ti.enter hgn hvn h0) (cc_enter hlx hvn h0 hO.ti.cc) (Nat.le_refl _)).elim fun n9 hn9 => hn9.elim fun r9 hr9 => ?_
          have hrun := hr9.1
          have hTI9 := hr9.2.1
          have hmono := hr9.2.2
          rw [← hnx] at hrun
          refine ⟨[3, 4, 0, 1, 2, 5], rfl, from_spec (NX := nexts m l m.toNat) hNX (css := css) (pcss := pcss) (s := s) (v := (i : Int)) (a := a6) (by rw [hnl, hnx]; exact hO.ti) (by rw [hnl]; exact hvn) h0 hrun hO.rc hO.rp hO.ra fun a' pcss' H' hle' hra' hrc' hrp' hTI' => ?_⟩
          refine ⟨⟨by (try dsimp only); omega, by (try dsimp only); omega⟩, (a', r9, pcss', i + 1), [(0, 0), (1, 1), (2, 2), (3, 3), (4, 4), (5, 6)], ?_, ⟨⟨hO.le.trans hle', hTI9, hrc', hrp', hra', fun j hj => ?_⟩, by dsimp only; omega⟩, by dsimp only; omega⟩
          · (repeat' (first | exact trivial | refine ⟨?_, ?_⟩ | exact rfl | assumption))
          · have hjn : nodeI m.toNat (j : Int) = true := decide_eq_true (by dsimp only at hj; omega)
            refine hmono j hjn ?_
            show ig (s.ix.set _ _) (j : Int) ≠ 0
            rw [ig_set hlx hvn _ hjn]
            split
            · omega
            · rename_i hne
              exact hO.seen j (by dsimp only at hj; omega)
        · have h0 : ¬ ig s.ix (i : Int) = 0 := df h
          refine ⟨⟨by (try dsimp only); omega, by (try dsimp only); omega⟩, (a6, s, pcss, i + 1), [(0, 0), (1, 1), (2, 2), (3, 3), (4, 4), (5, 5)], ?_, ⟨⟨hO.le, hO.ti, hO.rc, hO.rp, hO.ra, fun j hj => ?_⟩, by dsimp only; omega⟩, by dsimp only; omega⟩
          · (repeat' (first | exact trivial | refine ⟨?_, ?_⟩ | exact rfl | assumption))
          · by_cases e : j = i
            · rw [e]; exact h0
            · exact hO.seen j (by dsimp only at hj; omega)
      · have him : i = m.toNat := by have := df h; dsimp only at this; omega
        intro x H3 hle3 hrow
        obtain ⟨a7, n7, c7, rfl, hr7⟩ := RL.of_row (α := List Int) hrow (hO.rp.rc.up hle3)
        have hAll : AllP m l s.pa := ⟨hO.ti.pa, fun x hx => by
          have h1 := dt hx
          have hxn : nodeI m.toNat x = true := decide_eq_true (by omega)
          refine (hO.ti.seen x hxn).1 ?_
          have := hO.seen x.toNat (by omega)
          rwa [Int.toNat_of_nonneg h1.1] at this, right_edges h1⟩
        refine ordered_spec (by omega) (by omega) hl hAll ((ha.up hO.le).up hle3) hr7 hrow (hO.rp.up hle3) fun a1 n1 c1 out ocss H4 hle4 hr4 hy4 hx4 ht4 hord hlen => ?_
        exact hK a1 n1 c1 s.pa out ocss H4 ((hO.le.trans hle3).trans hle4) hr4 hy4 hx4 ht4 hAll hord hlen
theorem of_spec {m : Int} {l : List Edg} (hl : l.length ≤ 1000000) {a : Option Addr} {n c : Nat} {H : Hp} {K : Value → Hp → Prop} (ha : RL H a n c l)
    (hbad : rightE m l = false → K (.tuple #[.slice none 0 0, .int .i64 1]) H)
    (hK : rightE m l = true → ∀ a1 n1 c1 pa out H', Le H H' → RL H' a1 n1 c1 out → AllP m l pa → IsOrd l pa out → out.length = pa.length → K (.tuple #[.slice a1 n1 c1, .int .i64 0]) H') :
    Does Try.prog 27 [.int .i64 m, .slice a n c] H K :=
  of_specX hl ha hbad fun h a1 n1 c1 pa out _ H' h1 h2 _ _ _ h6 h7 h8 => hK h a1 n1 c1 pa out H' h1 h2 h6 h7 h8
end Go.Proofs
end
section
namespace Go.Proofs
open Go.Sy
theorem gnx_mem {m : Int} {l : List Edg} {x y : Int} : y ∈ gnx m l x ↔ y ∈ nxt m x l := gSort_mem _ _
/-- What is reached is what ways lead to. -/
theorem rch_reach {m : Int} {l : List Edg} {a : Int} (ha : nodeI m a = true) {R : List Int} (h : IsReach m l [a] R) (y : Int) : y ∈ R ↔ Rch (gnx m l) a y := by
  constructor
  · intro hy
    refine h.least (Rch (gnx m l) a) (fun x hx _ => ?_) (fun x hx z hz => .step hx (gnx_mem.2 hz)) y hy
    rw [List.mem_singleton] at hx
    rw [hx]
    exact .refl _
  · intro hr
    induction hr with
    | refl => exact h.from' a (by simp) ha
    | step _ hz ih => exact h.closed _ ih _ (gnx_mem.1 hz)
def reachD (m : Int) (l : List Edg) (a : Int) : List Int := told (rounds m l (marks m [a] (List.replicate m.toNat false)) m.toNat) m.toNat
theorem reachD_ok (m : Int) (l : List Edg) (a : Int) : IsReach m l [a] (reachD m l a) := told_reach m l [a]
theorem reachD_mem {m : Int} {l : List Edg} {a : Int} (ha : nodeI m a = true) (y : Int) : y ∈ reachD m l a ↔ Rch (gnx m l) a y := rch_reach ha (reachD_ok m l a) y
theorem Rch.node {m : Int} {l : List Edg} {a b : Int} (ha : nodeI m a = true) (h : Rch (gnx m l) a b) : nodeI m b = true := by
  induction h with
  | refl => exact ha
  | step _ hz _ => exact gnx_node _ _ hz
/-- The nodes below k that go round with one. -/
def partD (m : Int) (l : List Edg) (a : Int) (k : Nat) : List Int := (nodesL k).filter fun b => decide (b ∈ reachD m l a) && decide (a ∈ reachD m l b)
theorem partD_snoc (m : Int) (l : List Edg) (a : Int) (k : Nat) : partD m l a (k + 1) = partD m l a k ++ (if (k : Int) ∈ reachD m l a ∧ a ∈ reachD m l (k : Int) then [(k : Int)] else []) := by
  rw [partD, partD, nodesL_snoc, List.filter_append]
  congr 1
  by_cases h : (k : Int) ∈ reachD m l a ∧ a ∈ reachD m l (k : Int)
  · rw [if_pos h, List.filter_cons_of_pos (by simp [h.1, h.2])]; rfl
  · rw [if_neg h, List.filter_cons_of_neg (by simpa using h)]; rfl
theorem nodesL_len (k : Nat) : (nodesL k).length = k := by rw [nodesL, List.length_map, List.length_range]
theorem partD_len (m : Int) (l : List Edg) (a : Int) (k : Nat) : (partD m l a k).length ≤ k := by
  have := List.length_filter_le (fun b => decide (b ∈ reachD m l a) && decide (a ∈ reachD m l b)) (nodesL k)
  rw [nodesL_len] at this
  exact this
theorem nodesL_mem {m : Int} {x : Int} : x ∈ nodesL m.toNat ↔ nodeI m x = true := by
  simp only [nodesL, List.mem_map, List.mem_range]
  constructor
  · rintro ⟨j, hj, rfl⟩
    exact decide_eq_true (by omega)
  · intro h
    have := dt h
    exact ⟨x.toNat, by omega, by omega⟩
theorem nodesL_strict (k : Nat) : StrictL (nodesL k) := by
  rw [nodesL, StrictL, List.pairwise_map]
  refine List.pairwise_lt_range.imp fun {a b} h => ?_
  show (a : Int) < (b : Int)
  omega
theorem partD_eq {m : Int} {l : List Edg} {pa : List (List Int)} (h : AllP m l pa) {p : List Int} (hp : p ∈ pa) {a : Int} (ha : a ∈ p) : partD m l a m.toNat = p := by
  have han : nodeI m a = true := by
    have h1 := dt (h.tp.node a (List.mem_flatten.2 ⟨p, hp, ha⟩))
    exact decide_eq_true (by omega)
  have hok := h.tp.ok p hp
  refine strict_ext ((nodesL_strict _).filter _) hok.str fun x => ?_
  rw [partD, List.mem_filter, nodesL_mem, Bool.and_eq_true, decide_eq_true_eq, decide_eq_true_eq, reachD_mem han, hok.mem a ha x]
  constructor
  · rintro ⟨h1, h2, h3⟩
    exact ⟨h2, (reachD_mem h1 a).1 h3⟩
  · rintro ⟨h1, h2⟩
    have hx := h1.node han
    exact ⟨hx, h1, (reachD_mem hx a).2 h2⟩
/-- A list of parts that was looked through. -/
def checkP (m : Int) (l : List Edg) (pa : List (List Int)) : Bool :=
  decide (pa.flatten.Nodup) && pa.all (fun p => !p.isEmpty && p.all (fun a => decide (partD m l a m.toNat = p))) && (nodesL m.toNat).all (fun x => decide (x ∈ pa.flatten)) && pa.flatten.all (nodeI m) &&
    (List.range (pa.length + 1)).all (fun i => (pa.take i).flatten.all fun x => (gnx m l x).all fun y => decide (y ∈ (pa.take i).flatten)) && l.all (fun e => nodeI m e.1 && nodeI m e.2)
theorem checkP_ok {m : Int} {l : List Edg} {pa : List (List Int)} (hm : 0 ≤ m) (h : checkP m l pa = true) : AllP m l pa := by
  rw [checkP] at h
  simp only [Bool.and_eq_true, decide_eq_true_eq, List.all_eq_true, List.mem_range, Bool.not_eq_true', List.isEmpty_eq_false_iff] at h
  obtain ⟨⟨⟨⟨⟨h1, h2⟩, h3⟩, h4⟩, h5⟩, h6⟩ := h
  have hN : ∀ x, nodeI m x = true → nodeI m.toNat x = true := fun x hx => by
    have := dt hx
    exact decide_eq_true (by omega)
  refine ⟨⟨fun x hx => hN x (h4 x hx), h1, fun p hp => ?_, fun A B hAB x hx y hy => ?_⟩, fun x hx => h3 x (nodesL_mem.2 hx), h6⟩
  · obtain ⟨g1, g2⟩ := h2 p hp
    refine ⟨g1, ?_, fun x hx y => ?_⟩
    · obtain ⟨a, ha⟩ := List.exists_mem_of_ne_nil p g1
      rw [← g2 a ha]
      exact (nodesL_strict _).filter _
    · have hxn : nodeI m x = true := h4 x (List.mem_flatten.2 ⟨p, hp, hx⟩)
      have : y ∈ p ↔ y ∈ partD m l x m.toNat := by rw [g2 x hx]
      rw [this, partD, List.mem_filter, nodesL_mem, Bool.and_eq_true, decide_eq_true_eq, decide_eq_true_eq, reachD_mem hxn]
      constructor
      · rintro ⟨k1, k2, k3⟩
        exact ⟨k2, (reachD_mem k1 x).1 k3⟩
      · rintro ⟨k1, k2⟩
        have hy := k1.node hxn
        exact ⟨hy, k1, (reachD_mem hy x).2 k2⟩
  · have h7 := h5 A.length (by rw [hAB, List.length_append]; omega) x
    rw [hAB, List.take_left] at h7
    exact h7 hx y hy
/-- Two lists of all parts have the same ones. -/
theorem AllP.same {m : Int} {l : List Edg} {pa pa' : List (List Int)} (h : AllP m l pa) (h' : AllP m l pa') (p : List Int) : p ∈ pa ↔ p ∈ pa' := by
  have key : ∀ {pa pa' : List (List Int)}, AllP m l pa → AllP m l pa' → ∀ p ∈ pa, p ∈ pa' := fun {pa pa'} h h' p hp => by
    have hx := (h.tp.ok p hp).hd
    have hxn : nodeI m (hdL p) = true := by
      have h1 := dt (h.tp.node (hdL p) (List.mem_flatten.2 ⟨p, hp, hx⟩))
      exact decide_eq_true (by omega)
    obtain ⟨q, hq, hxq⟩ := List.mem_flatten.1 (h'.all _ hxn)
    rw [← partD_eq h hp hx, partD_eq h' hq hxq]
    exact hq
  exact ⟨key h h' p, key h' h p⟩
theorem AllP.len {m : Int} {l : List Edg} {pa pa' : List (List Int)} (h : AllP m l pa) (h' : AllP m l pa') : pa.length = pa'.length :=
  Nat.le_antisymm (nodup_sub h.tp.nodup fun p hp => (h.same h' p).1 hp) (nodup_sub h'.tp.nodup fun p hp => (h.same h' p).2 hp)
/-- The order is one. -/
theorem ord_one {m : Int} {l : List Edg} {pa pa' out out' : List (List Int)} (h : AllP m l pa) (h' : AllP m l pa') (ho : IsOrd l pa out) (ho' : IsOrd l pa' out') (hl : out.length = pa.length) (hl' : out'.length = pa'.length) : out = out' :=
  isOrd_uniq h.hinj ho (isOrd_congr (fun p => (h'.same h p)) ho') (by rw [hl, hl', h.len h'])
def ordB (l : List Edg) (pa out : List (List Int)) : Bool := (List.range out.length).all fun i => match out[i]? with
  | none => false
  | some p => decide (p ∈ pa) && !decide (p ∈ out.take i) && l.all (fun e => !decide (e.2 ∈ p) || decide (e.1 ∈ p) || decide (e.1 ∈ (out.take i).flatten)) &&
    pa.all fun q => decide (q ∈ out.take i) || !(l.all (fun e => !decide (e.2 ∈ q) || decide (e.1 ∈ q) || decide (e.1 ∈ (out.take i).flatten))) || decide (hdL p ≤ hdL q)
theorem freeP_iff (l : List Edg) (p T : List Int) : l.all (fun e => !decide (e.2 ∈ p) || decide (e.1 ∈ p) || decide (e.1 ∈ T)) = true ↔ freeP l p T := by
  simp only [List.all_eq_true, Bool.or_eq_true, Bool.not_eq_true', decide_eq_false_iff_not, decide_eq_true_eq, freeP]
  refine forall_congr' fun e => forall_congr' fun _ => ?_
  constructor
  · rintro ((h | h) | h) h2
    · exact absurd h2 h
    · exact .inl h
    · exact .inr h
  · intro h
    by_cases h2 : e.2 ∈ p
    · rcases h h2 with h | h
      · exact .inl (.inr h)
      · exact .inr h
    · exact .inl (.inl h2)
theorem ordB_ok {l : List Edg} {pa out : List (List Int)} (h : ordB l pa out = true) : IsOrd l pa out := fun i hi => by
  have h1 := List.all_eq_true.1 h i (List.mem_range.2 hi)
  rw [List.getElem?_eq_getElem hi] at h1
  simp only [Bool.and_eq_true, decide_eq_true_eq, Bool.not_eq_true', decide_eq_false_iff_not] at h1
  obtain ⟨⟨⟨g1, g2⟩, g3⟩, g4⟩ := h1
  refine ⟨g1, g2, (freeP_iff _ _ _).1 g3, fun q hq hqo hqf => ?_⟩
  have := List.all_eq_true.1 g4 q hq
  rw [(freeP_iff _ _ _).2 hqf] at this
  simpa [hqo] using this
end Go.Proofs
end
section
namespace Go.Proofs
open Go.Sy
set_option maxRecDepth 20000
set_option maxHeartbeats 2000000
theorem to_spec {m : Int} (hm0 : 0 ≤ m) (hm : m ≤ 1000) {l : List Edg} (hl : l.length ≤ 100000) {x y : Int} (hx : inI x) {a : Option Addr} {n c : Nat} {H : Hp} {K : Value → Hp → Prop} (ha : RL H a n c l) (hK : ∀ H', Le H H' → K (.bool (decide (y ∈ reachD m l x))) H') : Does Try.prog 55 [.int .i64 m, .slice a n c, .int .i64 x, .int .i64 y] H K := by
  refine spec_of cx_ok cx_mix rfl Try.func55 Try.call55 Try.ntmps55 Try.results55 rfl rfl ?_
  intro v H1 hle1 hv
  obtain ⟨a1, n1, c1, rfl, hr1⟩ := rI_all (l := [x]) hv (fun z hz => by rw [List.mem_singleton] at hz; rw [hz]; exact hx)
  refine rreached_spec hm0 hm hl (by simp) (ha.up hle1) hr1 fun a2 n2 c2 R H2 hle2 hr2 hS1 hS2 => ?_
  have e : R = reachD m l x := strict_ext hS1 (told_strict _ _) fun z => hS2.mem (reachD_ok m l x) z
  subst e
  refine in_spec hr2 ?_
  exact hK _ (hle1.trans hle2)
theorem part_spec {m : Int} (hm0 : 0 ≤ m) (hm : m ≤ 1000) {l : List Edg} (hl : l.length ≤ 100000) {x : Int} (hx : inI x) {a : Option Addr} {n c : Nat} {H : Hp} {K : Value → Hp → Prop} (ha : RL H a n c l) (hK : ∀ a1 n1 c1 H', Le H H' → RL H' a1 n1 c1 (partD m l x m.toNat) → K (.slice a1 n1 c1) H') :
    Does Try.prog 70 [.int .i64 m, .slice a n c, .int .i64 x] H K := by
  refine spec_of cx_ok cx_mix rfl Try.func70 Try.call70 Try.ntmps70 Try.results70 rfl rfl ?_
  refine ⟨Nat, fun i => ⟨[(0, .v (.int .i64 m)), (1, .v (.slice a n c)), (2, .v (.int .i64 x)), (7, .own 0), (8, .v (.int .i64 i))], [(0, .row 3 1 (iRows (partD m l x i)))], 1⟩,
    fun i H' => H' = H ∧ i ≤ m.toNat, fun i => m.toNat - i, ⟨0, [], ?_, rfl, Nat.zero_le _⟩, ?_⟩
  · (repeat' (first | exact trivial | refine ⟨?_, ?_⟩ | exact rfl | assumption))
  rintro i H1 _ ⟨rfl, hi⟩
  have hpl := partD_len m l x i
  have hel := iRows_len (partD m l x i)
  have hsn := partD_snoc m l x i
  refine ⟨fun h => ?_, fun h => ?_⟩
  · have h1 : (i : Int) < m := dt h
    refine to_spec hm0 hm hl hx ha fun _ _ => ?_
    refine ⟨fun h => ?_, fun h => ?_⟩
    · have g1 : (i : Int) ∈ reachD m l x := dt h
      refine to_spec hm0 hm hl (by exact ⟨by omega, by omega⟩) ha fun _ _ => ?_
      refine ⟨fun h => ?_, fun h => ?_⟩
      · have g2 : x ∈ reachD m l (i : Int) := dt h
        rw [if_pos ⟨g1, g2⟩] at hsn
        have e1 : iRows (partD m l x i) ++ [[.int .i64 (i : Int)]] = iRows (partD m l x (i + 1)) := by rw [hsn]; simp
        refine ⟨room, ?_⟩
        refine ⟨⟨by omega, by omega⟩, i + 1, [(0, 2)], ?_, ⟨rfl, by omega⟩, by dsimp only; omega⟩
        (repeat' (first | exact trivial | refine ⟨?_, ?_⟩ | exact rfl | assumption))
      · have g2 : ¬ x ∈ reachD m l (i : Int) := df h
        rw [if_neg (fun hh => g2 hh.2), List.append_nil] at hsn
        have e1 : iRows (partD m l x i) = iRows (partD m l x (i + 1)) := by rw [hsn]
        refine ⟨⟨by omega, by omega⟩, i + 1, [(0, 0)], ?_, ⟨rfl, by omega⟩, by dsimp only; omega⟩
        (repeat' (first | exact trivial | refine ⟨?_, ?_⟩ | exact rfl | assumption))
    · have g1 : ¬ (i : Int) ∈ reachD m l x := df h
      rw [if_neg (fun hh => g1 hh.1), List.append_nil] at hsn
      have e1 : iRows (partD m l x i) = iRows (partD m l x (i + 1)) := by rw [hsn]
      refine ⟨⟨by omega, by omega⟩, i + 1, [(0, 0)], ?_, ⟨rfl, by omega⟩, by dsimp only; omega⟩
      (repeat' (first | exact trivial | refine ⟨?_, ?_⟩ | exact rfl | assumption))
  · have him : i = m.toNat := by have := df h; omega
    intro y H2 hle2 hy
    have hin : ∀ z ∈ partD m l x i, inI z := fun z hz => by
      have h1 := (List.mem_filter.1 hz).1
      rw [him] at h1
      have := dt (nodesL_mem.1 h1)
      exact ⟨by omega, by omega⟩
    obtain ⟨a1, n1, c1, rfl, hr⟩ := rI_all hy hin
    rw [him] at hr
    exact hK _ _ _ _ hle2 hr
def frB (l : List Edg) (p T : List Int) : Bool := l.all fun e => !decide (e.2 ∈ p) || decide (e.1 ∈ p) || decide (e.1 ∈ T)
theorem free13_spec {l : List Edg} {p T : List Int} {a a2 a3 : Option Addr} {n c n2 c2 n3 c3 : Nat} {H : Hp} {K : Value → Hp → Prop} (ha : RL H a n c l) (hp : RL H a2 n2 c2 p) (ht : RL H a3 n3 c3 T) (hK : K (.bool (frB l p T)) H) :
    Does Try.prog 71 [.slice a n c, .slice a2 n2 c2, .slice a3 n3 c3] H K := by
  have hn1 := ha.n_eq
  have hmx := ha.le
  refine spec_of cx_ok cx_mix rfl Try.func71 Try.call71 Try.ntmps71 Try.results71 rfl rfl ?_
  refine ⟨Nat, fun i => ⟨[(1, .v (.slice a2 n2 c2)), (2, .v (.slice a3 n3 c3)), (9, .v (.slice a n c)), (10, .v (.int .i64 n)), (11, .v (.int .i64 i))], [], 0⟩,
    fun i H' => H' = H ∧ i ≤ l.length ∧ ∀ e ∈ l.take i, (!decide (e.2 ∈ p) || decide (e.1 ∈ p) || decide (e.1 ∈ T)) = true, fun i => l.length - i, ⟨0, [], ?_, rfl, Nat.zero_le _, by simp⟩, ?_⟩
  · (repeat' (first | exact trivial | refine ⟨?_, ?_⟩ | exact rfl | assumption))
  rintro i H1 _ ⟨rfl, hi, hx⟩
  refine ⟨fun h => ?_, fun h => ?_⟩
  · have hlt : i < l.length := by have := dt h; omega
    obtain ⟨ad, cs, q1, hh, r1⟩ := ha.elem (List.getElem?_eq_getElem hlt)
    obtain ⟨rfl, -⟩ := edge_open r1
    have hgo : (!decide (l[i].2 ∈ p) || decide (l[i].1 ∈ p) || decide (l[i].1 ∈ T)) = true → ∀ e ∈ l.take (i + 1), (!decide (e.2 ∈ p) || decide (e.1 ∈ p) || decide (e.1 ∈ T)) = true := fun h => mem_take_succ (List.getElem?_eq_getElem hlt) hx h
    refine ⟨ad, ⟨by omega, by omega, q1⟩, ?_⟩
    refine ⟨_, hh, ?_⟩
    refine in_spec hp ?_
    refine ⟨fun h => ?_, fun h => ?_⟩
    · have g1 : l[i].2 ∈ p := dt h
      refine in_spec hp ?_
      refine ⟨fun h => ?_, fun h => ?_⟩
      · have g2 : ¬ l[i].1 ∈ p := nt h
        refine in_spec ht ?_
        refine ⟨fun h => ?_, fun h => ?_⟩
        · have g3 : ¬ l[i].1 ∈ T := nt h
          refine kbool hK ?_
          rw [frB, List.all_eq_false]
          exact ⟨l[i], List.getElem_mem hlt, by simp [g1, g2, g3]⟩
        · have g3 : l[i].1 ∈ T := nf h
          refine ⟨⟨by omega, by omega⟩, i + 1, [], ?_, ⟨rfl, by omega, hgo (by simp [g3])⟩, by dsimp only; omega⟩
          (repeat' (first | exact trivial | refine ⟨?_, ?_⟩ | exact rfl | assumption))
      · have g2 : l[i].1 ∈ p := nf h
        refine ⟨⟨by omega, by omega⟩, i + 1, [], ?_, ⟨rfl, by omega, hgo (by simp [g2])⟩, by dsimp only; omega⟩
        (repeat' (first | exact trivial | refine ⟨?_, ?_⟩ | exact rfl | assumption))
    · have g1 : ¬ l[i].2 ∈ p := df h
      refine ⟨⟨by omega, by omega⟩, i + 1, [], ?_, ⟨rfl, by omega, hgo (by simp [g1])⟩, by dsimp only; omega⟩
      (repeat' (first | exact trivial | refine ⟨?_, ?_⟩ | exact rfl | assumption))
  · have hil : i = l.length := by have := df h; omega
    rw [hil, List.take_length] at hx
    refine kbool hK ?_
    exact List.all_eq_true.2 hx
/-! The document's Of. -/
theorem flat_nodup {out : List (List Int)} (h1 : ∀ p ∈ out, p.Nodup) (h2 : out.Pairwise fun p q => ∀ x ∈ p, x ∉ q) : out.flatten.Nodup := by
  induction out with
  | nil => exact List.nodup_nil
  | cons p r ih =>
    rw [List.pairwise_cons] at h2
    rw [List.flatten_cons, List.nodup_append]
    refine ⟨h1 p List.mem_cons_self, ih (fun q hq => h1 q (List.mem_cons_of_mem _ hq)) h2.2, fun x hx y hy e => ?_⟩
    subst e
    obtain ⟨q, hq, hxq⟩ := List.mem_flatten.1 hy
    exact h2.1 q hq x hx hxq
theorem ord_flat {m : Int} {l : List Edg} {pa out : List (List Int)} (hP : AllP m l pa) (ho : IsOrd l pa out) : out.flatten.Nodup ∧ (∀ x ∈ out.flatten, nodeI m x = true) := by
  have hmem := isOrd_mem ho
  have hnd := isOrd_nodup ho
  refine ⟨flat_nodup (fun p hp => strict_nodup (hP.tp.ok p (hmem p hp)).str) ?_, fun x hx => ?_⟩
  · refine (List.Pairwise.and_mem.1 (List.nodup_iff_pairwise_ne.1 hnd)).imp fun {p q} ⟨hp, hq, hpq⟩ x hx hxq => hpq (hP.part (hmem p hp) (hmem q hq) hx hxq)
  · obtain ⟨p, hp, hxp⟩ := List.mem_flatten.1 hx
    have := dt (hP.tp.node x (List.mem_flatten.2 ⟨p, hmem p hp, hxp⟩))
    exact decide_eq_true (by omega)
theorem ord_lt {m : Int} {l : List Edg} {pa out : List (List Int)} (hP : AllP m l pa) (ho : IsOrd l pa out) : out.flatten.length < m.toNat ↔ out.length < pa.length := by
  have hmem := isOrd_mem ho
  have hnd := isOrd_nodup ho
  obtain ⟨f1, f2⟩ := ord_flat hP ho
  have hle : out.length ≤ pa.length := nodup_sub hnd hmem
  constructor
  · intro h
    by_cases hc : out.length < pa.length
    · exact hc
    · exfalso
      have hall : ∀ p ∈ pa, p ∈ out := fun p hp => by
        by_cases hpo : p ∈ out
        · exact hpo
        · exfalso
          have := nodup_sub (l := p :: out) (l' := pa) (List.nodup_cons.2 ⟨hpo, hnd⟩) (fun q hq => by
            rcases List.mem_cons.1 hq with rfl | hq
            · exact hp
            · exact hmem q hq)
          rw [List.length_cons] at this
          omega
      have := nodup_sub (l := nodesL m.toNat) (l' := out.flatten) (strict_nodup (nodesL_strict _)) fun x hx => by
        obtain ⟨p, hp, hxp⟩ := List.mem_flatten.1 (hP.all x (nodesL_mem.1 hx))
        exact List.mem_flatten.2 ⟨p, hall p hp, hxp⟩
      rw [nodesL_len] at this
      omega
  · intro h
    obtain ⟨b, p, _, hp, hnext⟩ := best_next hP ho h
    have hd := (hP.tp.ok p hnext.mem).hd
    have hno : hdL p ∉ out.flatten := fun hm => by
      obtain ⟨q, hq, hxq⟩ := List.mem_flatten.1 hm
      exact hnext.new (hP.part hnext.mem (hmem q hq) hd hxq ▸ hq)
    have hdn : nodeI m (hdL p) = true := by
      have := dt (hP.tp.node _ (List.mem_flatten.2 ⟨p, hnext.mem, hd⟩))
      exact decide_eq_true (by omega)
    have := nodes_len (m := m) (s := hdL p :: out.flatten) (List.nodup_cons.2 ⟨hno, f1⟩) (fun x hx => by
      rcases List.mem_cons.1 hx with rfl | hx
      · exact hdn
      · exact f2 x hx)
    rw [List.length_cons] at this
    omega
end Go.Proofs
end
section
namespace Go.Proofs
open Go.Sy
set_option maxRecDepth 20000
set_option maxHeartbeats 2000000
theorem rI_k {P : Prop} {x : Value} {H : Hp} {l : List Int} (h : RowAt H x 1 (iRows l)) (hl : ∀ n ∈ l, inI n) (k : ∀ a n c, x = .slice a n c → RL H a n c l → P) : P := by
  obtain ⟨a, n, c, e, hr⟩ := rI_all h hl
  exact k a n c e hr
/-- A node at which the next part begins. -/
def goodA (m : Int) (l : List Edg) (out : List (List Int)) (a : Int) : Prop := hdL (partD m l a m.toNat) = a ∧ a ∉ out.flatten ∧ freeP l (partD m l a m.toNat) out.flatten
theorem good_next {m : Int} {l : List Edg} {pa out : List (List Int)} (hP : AllP m l pa) (ho : IsOrd l pa out) {a : Int} (ha : nodeI m a = true) (hg : goodA m l out a) (hmin : ∀ b, nodeI m b = true → b < a → ¬ goodA m l out b) : NextP l pa out (partD m l a m.toNat) := by
  obtain ⟨p, hp, hap⟩ := List.mem_flatten.1 (hP.all a ha)
  have e := partD_eq hP hp hap
  obtain ⟨g1, g2, g3⟩ := hg
  rw [e] at g1 g3 ⊢
  have hmem := isOrd_mem ho
  refine ⟨hp, fun hpo => g2 (List.mem_flatten.2 ⟨p, hpo, hap⟩), g3, fun q hq hqo hqf => ?_⟩
  rw [g1]
  have hqd := (hP.tp.ok q hq).hd
  have hqn : nodeI m (hdL q) = true := by
    have := dt (hP.tp.node _ (List.mem_flatten.2 ⟨q, hq, hqd⟩))
    exact decide_eq_true (by omega)
  by_cases hlt : hdL q < a
  · exfalso
    have e2 := partD_eq hP hq hqd
    refine hmin (hdL q) hqn hlt ⟨by rw [e2], fun hm => ?_, by rw [e2]; exact hqf⟩
    obtain ⟨r, hr, hxr⟩ := List.mem_flatten.1 hm
    exact hqo (hP.part hq (hmem r hr) hqd hxr ▸ hr)
  · omega
theorem next_good {m : Int} {l : List Edg} {pa out : List (List Int)} (hP : AllP m l pa) (ho : IsOrd l pa out) {p : List Int} (h : NextP l pa out p) : nodeI m (hdL p) = true ∧ goodA m l out (hdL p) := by
  have hd := (hP.tp.ok p h.mem).hd
  have hdn : nodeI m (hdL p) = true := by
    have := dt (hP.tp.node _ (List.mem_flatten.2 ⟨p, h.mem, hd⟩))
    exact decide_eq_true (by omega)
  have e := partD_eq hP h.mem hd
  refine ⟨hdn, by rw [e], fun hm => ?_, by rw [e]; exact h.free⟩
  obtain ⟨r, hr, hxr⟩ := List.mem_flatten.1 hm
  exact h.new (hP.part h.mem (isOrd_mem ho r hr) hd hxr ▸ hr)
theorem flat_snoc (out : List (List Int)) (p : List Int) : (out ++ [p]).flatten = out.flatten ++ p := by rw [List.flatten_append, List.flatten_singleton]
theorem in_row {l : List Int} {y : Int} {x : Value} {H : Hp} {K : Value → Hp → Prop} (hx : RowAt H x 1 (iRows l)) (hl : ∀ n ∈ l, inI n) (hK : K (.bool (decide (y ∈ l))) H) : Does Try.prog 40 [x, .int .i64 y] H K := by
  obtain ⟨a, n, c, rfl, hr⟩ := rI_all hx hl
  exact in_spec hr hK
theorem free_row {l : List Edg} {p T : List Int} {a a2 : Option Addr} {n c n2 c2 : Nat} {x : Value} {H : Hp} {K : Value → Hp → Prop} (ha : RL H a n c l) (hp : RL H a2 n2 c2 p) (hx : RowAt H x 1 (iRows T)) (hl : ∀ n ∈ T, inI n) (hK : K (.bool (frB l p T)) H) :
    Does Try.prog 71 [.slice a n c, .slice a2 n2 c2, x] H K := by
  obtain ⟨a3, n3, c3, rfl, hr⟩ := rI_all hx hl
  exact free13_spec ha hp hr hK
theorem rof_spec {m : Int} (hm0 : 0 ≤ m) (hm : m ≤ 1000) {l : List Edg} (hl : l.length ≤ 100000) {pa : List (List Int)} (hP : AllP m l pa) {a : Option Addr} {n c : Nat} {H : Hp} {K : Value → Hp → Prop} (ha : RL H a n c l)
    (hK : ∀ a1 n1 c1 out H', Le H H' → RL H' a1 n1 c1 out → IsOrd l pa out → out.length = pa.length → K (.slice a1 n1 c1) H') : Does Try.prog 31 [.int .i64 m, .slice a n c] H K := by
  have hpl : pa.length ≤ 1000000 := parts_len hP.tp (by omega)
  refine spec_of cx_ok cx_mix rfl Try.func31 Try.call31 Try.ntmps31 Try.results31 rfl rfl ?_
  refine ⟨List (List Int) × List (List Value), fun q => ⟨[(0, .v (.int .i64 m)), (1, .v (.slice a n c)), (5, .own 0), (6, .own 1)], [(0, .row 27 1 q.2), (1, .row 3 1 (iRows q.1.flatten))], 2⟩,
    fun q H' => Le H H' ∧ q.1.length ≤ pa.length ∧ IsOrd l pa q.1 ∧ RC H' q.2 q.1, fun q => pa.length - q.1.length, ⟨([], []), [], ?_, Le.refl H, Nat.zero_le _, isOrd_nil l pa, RC.nil⟩, ?_⟩
  · (repeat' (first | exact trivial | refine ⟨?_, ?_⟩ | exact rfl | assumption))
  rintro ⟨out, ocss⟩ H1 _ ⟨hle, hol, hord, hoc⟩
  dsimp only at hle hol hord hoc
  have hflat := ord_flat hP hord
  have hoin : ∀ z ∈ out.flatten, inI z := fun z hz => by
    have := dt (hflat.2 z hz)
    exact ⟨by omega, by omega⟩
  have hfl : out.flatten.length ≤ m.toNat := nodes_len hflat.1 hflat.2
  have hel := iRows_len out.flatten
  have holt := ord_lt hP hord
  refine ⟨fun h => ?_, fun h => ?_⟩
  · have h0 : ((iRows out.flatten).length : Int) < m := dt h
    have hlt : out.length < pa.length := holt.1 (by omega)
    refine ⟨Nat × Bool × List (List Int) × List (List Value), fun q => ⟨[(0, .v (.int .i64 m)), (1, .v (.slice a n c)), (5, .own 0), (6, .own 1), (7, .v (.bool q.2.1)), (8, .v (.int .i64 q.1))], [(0, .row 27 1 q.2.2.2), (1, .row 3 1 (iRows q.2.2.1.flatten))], 2⟩,
      fun q H' => Le H1 H' ∧ q.1 ≤ m.toNat ∧ RC H' q.2.2.2 q.2.2.1 ∧ (q.2.1 = false → q.2.2.1 = out ∧ ∀ b, nodeI m b = true → b < q.1 → ¬ goodA m l out b) ∧ (q.2.1 = true → ∃ p, NextP l pa out p ∧ q.2.2.1 = out ++ [p]), fun q => m.toNat - q.1,
      ⟨(0, false, out, ocss), [(0, 0), (1, 1)], ?_, Le.refl H1, Nat.zero_le _, hoc, fun _ => ⟨rfl, fun b hb hlt => by have := dt hb; dsimp only at hlt; omega⟩, fun h => (by cases h)⟩, ?_⟩
    · (repeat' (first | exact trivial | refine ⟨?_, ?_⟩ | exact rfl | assumption))
    rintro ⟨i, fd, out2, ocss2⟩ H2 _ ⟨hle2, hi, hoc2, hf1, hf2⟩
    dsimp only at hle2 hi hoc2 hf1 hf2
    refine ⟨fun h => ?_, fun h => ?_⟩
    · have hlti : (i : Int) < m := dt h
      refine ⟨fun h => ?_, fun h => ?_⟩
      · have hfd : fd = false := by simpa using h
        have h1 : out2 = out := (hf1 hfd).1
        have h2 := (hf1 hfd).2
        have hord2 : IsOrd l pa out2 := h1 ▸ hord
        rw [← h1] at h2 hoin hflat hfl hol
        have hel2 := iRows_len out2.flatten
        have han : nodeI m (i : Int) = true := decide_eq_true (by omega)
        have ha2 := ha.up (hle.trans hle2)
        have hcl2 : ocss2.length = out2.length := hoc2.1
        refine part_spec hm0 hm hl (x := (i : Int)) (by exact ⟨by omega, by omega⟩) ha2 fun a3 n3 c3 H3 hle3 hr3 => ?_
        have hpm : (i : Int) ∈ partD m l i m.toNat := by
          refine (hP.all i han |> List.mem_flatten.1).elim fun p hp => ?_
          rw [partD_eq hP hp.1 hp.2]
          exact hp.2
        have hpne : partD m l i m.toNat ≠ [] := List.ne_nil_of_mem hpm
        have hp1 := List.length_pos_iff.2 hpne
        have hn3 := hr3.n_eq
        have hpl3 := partD_len m l i m.toNat
        have ha3 := ha2.up hle3
        refine int_elem_k hr3 (hd_get hpne) fun ad q1 hh => ?_
        refine ⟨ad, ⟨by (try dsimp only); omega, by (try dsimp only); omega, q1⟩, ?_⟩
        refine ⟨_, hh, ?_⟩
        have hback : ¬ goodA m l out2 i → ∀ b, nodeI m b = true → b < ((i + 1 : Nat) : Int) → ¬ goodA m l out b := fun hng b hb hlt => by
          rw [← h1]
          by_cases e : b = i
          · rw [e]; exact hng
          · exact h2 b hb (by omega)
        refine ⟨fun h => ?_, fun h => ?_⟩
        · have g1 : hdL (partD m l i m.toNat) = i := dt h
          intro x4 H4 hle4 hx4
          refine in_row hx4 hoin ?_
          refine ⟨fun h => ?_, fun h => ?_⟩
          · have g2 : ¬ (i : Int) ∈ out2.flatten := nt h
            intro x5 H5 hle5 hx5
            refine free_row (ha3.up hle5) (hr3.up hle5) hx5 hoin ?_
            refine ⟨fun h => ?_, fun h => ?_⟩
            · have g3 : frB l (partD m l i m.toNat) out2.flatten = true := h
              have hg : goodA m l out2 i := ⟨g1, g2, (freeP_iff _ _ _).1 g3⟩
              have hnext : NextP l pa out (partD m l i m.toNat) := h1 ▸ good_next hP hord2 han hg fun b hb hlt => h2 b hb hlt
              refine ⟨room (n := ocss2.length) (by omega), ?_⟩
              refine ⟨iRows (partD m l i m.toNat), RLi_row hr3, ⟨⟨by show ((iRows out2.flatten).length + (iRows (partD m l i m.toNat)).length) * 8 ≤ _; rw [iRows_len, iRows_len]; omega, by show (iRows out2.flatten).length + (iRows (partD m l i m.toNat)).length ≤ _; rw [iRows_len, iRows_len]; omega⟩, ?_⟩⟩
              have e1 : iRows out2.flatten ++ iRows (partD m l i m.toNat) = iRows (out2 ++ [partD m l i m.toNat]).flatten := by rw [flat_snoc]; simp
              have hoc3 : RC (α := List Int) H3 (ocss2 ++ [[.slice a3 n3 c3]]) (out2 ++ [partD m l i m.toNat]) := (hoc2.up hle3).snoc ⟨a3, n3, c3, rfl, hr3⟩
              refine ⟨⟨by omega, by omega⟩, (i + 1, true, out2 ++ [partD m l i m.toNat], ocss2 ++ [[.slice a3 n3 c3]]), [(0, 3), (1, 4)], ?_, ⟨hle2.trans hle3, by dsimp only; omega, hoc3, fun h => (by cases h), fun _ => ⟨_, hnext, by dsimp only; rw [h1]⟩⟩, by dsimp only; omega⟩
              (repeat' (first | exact trivial | refine ⟨?_, ?_⟩ | exact rfl | assumption))
            · have g3 : frB l (partD m l i m.toNat) out2.flatten = false := h
              have hng : ¬ goodA m l out2 i := fun hh => by
                have h9 : frB l (partD m l i m.toNat) out2.flatten = true := (freeP_iff _ _ _).2 hh.2.2
                rw [g3] at h9; cases h9
              refine ⟨⟨by omega, by omega⟩, (i + 1, false, out2, ocss2), [(0, 0), (1, 1)], ?_, ⟨hle2.trans hle3, by dsimp only; omega, hoc2.up hle3, fun _ => ⟨h1, hback hng⟩, fun h => (by cases h)⟩, by dsimp only; omega⟩
              have e7 : SV.v (.bool fd) = SV.v (.bool false) := by rw [hfd]
              (repeat' (first | exact trivial | refine ⟨?_, ?_⟩ | exact rfl | assumption))
          · have g2 : (i : Int) ∈ out2.flatten := nf h
            have hng : ¬ goodA m l out2 i := fun hh => hh.2.1 g2
            have e7 : SV.v (.bool fd) = SV.v (.bool false) := by rw [hfd]
            refine ⟨⟨by omega, by omega⟩, (i + 1, false, out2, ocss2), [(0, 0), (1, 1)], ?_, ⟨hle2.trans hle3, by dsimp only; omega, hoc2.up hle3, fun _ => ⟨h1, hback hng⟩, fun h => (by cases h)⟩, by dsimp only; omega⟩
            (repeat' (first | exact trivial | refine ⟨?_, ?_⟩ | exact rfl | assumption))
        · have g1 : ¬ hdL (partD m l i m.toNat) = i := df h
          have hng : ¬ goodA m l out2 i := fun hh => g1 hh.1
          have e7 : SV.v (.bool fd) = SV.v (.bool false) := by rw [hfd]
          refine ⟨⟨by omega, by omega⟩, (i + 1, false, out2, ocss2), [(0, 0), (1, 1)], ?_, ⟨hle2.trans hle3, by dsimp only; omega, hoc2.up hle3, fun _ => ⟨h1, hback hng⟩, fun h => (by cases h)⟩, by dsimp only; omega⟩
          (repeat' (first | exact trivial | refine ⟨?_, ?_⟩ | exact rfl | assumption))
      · have hfd : fd = true := by simpa using h
        refine ⟨fun h => ?_, fun h => ?_⟩
        · have : fd = false := by simpa using h
          rw [hfd] at this; cases this
        · refine (hf2 hfd).elim fun p hp => ?_
          have hpp := hp.2
          have hnx2 := hp.1
          refine ⟨(out2, ocss2), [(0, 0), (1, 1)], ?_, ⟨hle.trans hle2, by dsimp only; rw [hpp, List.length_append, List.length_singleton]; omega, by dsimp only; rw [hpp]; exact isOrd_snoc hord hnx2, hoc2⟩, by dsimp only; rw [hpp, List.length_append, List.length_singleton]; omega⟩
          (repeat' (first | exact trivial | refine ⟨?_, ?_⟩ | exact rfl | assumption))
    · have hge : ¬ (i : Int) < m := df h
      refine ⟨fun h => ?_, fun h => ?_⟩
      · have hfd : fd = false := by simpa using h
        exfalso
        refine (best_next hP hord hlt).elim fun b hb => hb.elim fun p hp => ?_
        have h3 := next_good hP hord hp.2.2
        have := dt h3.1
        exact (hf1 hfd).2 (hdL p) h3.1 (by omega) h3.2
      · have hfd : fd = true := by simpa using h
        refine (hf2 hfd).elim fun p hp => ?_
        have hpp := hp.2
        have hnx2 := hp.1
        refine ⟨(out2, ocss2), [(0, 0), (1, 1)], ?_, ⟨hle.trans hle2, by dsimp only; rw [hpp, List.length_append, List.length_singleton]; omega, by dsimp only; rw [hpp]; exact isOrd_snoc hord hnx2, hoc2⟩, by dsimp only; rw [hpp, List.length_append, List.length_singleton]; omega⟩
        (repeat' (first | exact trivial | refine ⟨?_, ?_⟩ | exact rfl | assumption))
  · have h0 : ¬ ((iRows out.flatten).length : Int) < m := df h
    have hle0 : out.length = pa.length := by
      by_cases hc : out.length < pa.length
      · have := holt.2 hc
        omega
      · omega
    intro y H4 hle4 hy
    obtain ⟨a1, n1, c1, rfl, hr1⟩ := RL.of_row (α := List Int) hy (hoc.up hle4)
    exact hK _ _ _ _ _ (hle.trans hle4) hr1 hord hle0
end Go.Proofs
end
section
namespace Go.Proofs
open Go.Sy
set_option maxRecDepth 20000
set_option maxHeartbeats 2000000
theorem setAll_in : ∀ (p : List Int) {L : List Int} {i : Int}, (∀ z ∈ L, inI z) → inI i → ∀ z ∈ setAll L p i, inI z
  | [], _, _, h, _ => h
  | a :: p, L, i, h, hi => by
    rw [setAll, List.foldl_cons, ← setAll]
    refine setAll_in p (fun z hz => ?_) hi
    rcases List.mem_or_eq_of_mem_set hz with hz | rfl
    · exact h z hz
    · exact hi
theorem whichK_in {N : Nat} {pa : List (List Int)} : ∀ (k : Nat), k ≤ 1000000 → ∀ z ∈ whichK N pa k, inI z
  | 0, _, z, hz => by
    have := List.eq_of_mem_replicate hz
    subst this
    exact ⟨by omega, by omega⟩
  | k + 1, hk, z, hz => by
    rw [whichK] at hz
    exact setAll_in _ (whichK_in k (by omega)) (by exact ⟨by omega, by omega⟩) z hz
theorem which_spec {m : Int} {l : List Edg} (hl : l.length ≤ 1000000) {a : Option Addr} {n c : Nat} {H : Hp} {K : Value → Hp → Prop} (ha : RL H a n c l)
    (hbad : rightE m l = false → K (.tuple #[.slice none 0 0, .int .i64 1]) H)
    (hK : rightE m l = true → ∀ a1 n1 c1 pa out H', Le H H' → AllP m l pa → IsOrd l pa out → out.length = pa.length → RL H' a1 n1 c1 (whichK m.toNat out out.length) → K (.tuple #[.slice a1 n1 c1, .int .i64 0]) H') :
    Does Try.prog 28 [.int .i64 m, .slice a n c] H K := by
  refine spec_of cx_ok cx_mix rfl Try.func28 Try.call28 Try.ntmps28 Try.results28 rfl rfl ?_
  refine of_spec hl ha (fun hr => ?_) (fun hr a3 n3 c3 pa out H1 hle1 hb hP ho hlen => ?_)
  · refine ⟨fun h => ?_, fun h => ?_⟩
    · exact hbad hr
    · exact absurd (nf h) (by decide)
  · have hK := hK hr
    obtain ⟨hm1, hm2, hl2⟩ := right_ok hr
    have hn3 := hb.n_eq
    have hmx3 := hb.le
    have hN : ((m.toNat : Nat) : Int) = m := toNat_nat m (by omega)
    have hpl : pa.length ≤ 1000000 := parts_len hP.tp (by omega)
    have hon : ∀ x ∈ out.flatten, nodeI m.toNat x = true := by rw [hN]; exact (ord_flat hP ho).2
    refine ⟨fun h => by simp at h, fun _ => ?_⟩
    refine ⟨⟨rfl, by omega, by show m * 8 ≤ _; omega, by omega⟩, ?_⟩
    refine ⟨Nat × List Int, fun q => ⟨[(8, .own 0), (24, .v (.slice a3 n3 c3)), (25, .v (.int .i64 n3)), (26, .v (.int .i64 q.1))], [(0, .row 3 1 (iRows q.2))], 1⟩,
      fun q H' => H' = H1 ∧ q.1 ≤ out.length ∧ q.2 = whichK m.toNat out q.1, fun q => out.length - q.1, ⟨(0, List.replicate m.toNat 0), [(0, 0)], ?_, rfl, Nat.zero_le _, rfl⟩, ?_⟩
    · have e1 := iRows_rep m.toNat
      (repeat' (first | exact trivial | refine ⟨?_, ?_⟩ | exact rfl | assumption))
    rintro ⟨i, R⟩ H2 _ ⟨rfl, hi, hR⟩
    dsimp only at hi hR
    have hlR : R.length = m.toNat := by rw [hR, whichK_len]
    refine ⟨fun h => ?_, fun h => ?_⟩
    · have hlt : i < out.length := by have := dt h; dsimp only at this; omega
      have hpi : out[i]? = some out[i] := List.getElem?_eq_getElem hlt
      obtain ⟨ad, a1, n1, c1, q1, hh, hr1⟩ := list_elem hb hpi
      have hn1 := hr1.n_eq
      have hmx1 := hr1.le
      obtain ⟨p, hp⟩ : ∃ p, p = out[i] := ⟨_, rfl⟩
      rw [← hp] at hpi hr1 hn1
      have hpn : ∀ x ∈ p, nodeI m.toNat x = true := fun x hx => hon x (List.mem_flatten.2 ⟨p, List.mem_of_getElem? hpi, hx⟩)
      refine ⟨ad, ⟨by dsimp only; omega, by dsimp only; omega, q1⟩, ?_⟩
      refine ⟨_, hh, ?_⟩
      refine ⟨Nat × List Int, fun q => ⟨[(8, .own 0), (24, .v (.slice a3 n3 c3)), (25, .v (.int .i64 n3)), (26, .v (.int .i64 i)), (9, .v (.int .i64 i)), (31, .v (.slice a1 n1 c1)), (32, .v (.int .i64 n1)), (33, .v (.int .i64 q.1))], [(0, .row 3 1 (iRows q.2))], 1⟩,
        fun q H' => H' = H2 ∧ q.1 ≤ p.length ∧ q.2 = setAll R (p.take q.1) i, fun q => p.length - q.1, ⟨(0, R), [(0, 0)], ?_, rfl, Nat.zero_le _, rfl⟩, ?_⟩
      · (repeat' (first | exact trivial | refine ⟨?_, ?_⟩ | exact rfl | assumption))
      rintro ⟨j, R2⟩ H3 _ ⟨rfl, hj, hR2⟩
      dsimp only at hj hR2
      have hlR2 : R2.length = m.toNat := by rw [hR2, setAll_len, hlR]
      refine ⟨fun h => ?_, fun h => ?_⟩
      · have hltj : j < p.length := by have := dt h; dsimp only at this; omega
        obtain ⟨ad2, cs2, q2, hh2, r3⟩ := hr1.elem (List.getElem?_eq_getElem hltj)
        obtain ⟨rfl, -⟩ := r3
        have hv := dt (hpn _ (List.getElem_mem hltj))
        refine ⟨ad2, ⟨by dsimp only; omega, by dsimp only; omega, q2⟩, ?_⟩
        refine ⟨_, hh2, ?_⟩
        refine ⟨⟨by (try dsimp only); omega, by (try dsimp only); rw [iRows_len]; (try dsimp only); omega⟩, ?_⟩
        refine ⟨_, iRows_at (L := R2) hv.1 (by omega), ?_⟩
        have e1 : (iRows R2).set p[j].toNat [.int .i64 (i : Int)] = iRows (R2.set p[j].toNat i) := iRows_set _ _ _
        refine ⟨⟨by (try dsimp only); omega, by (try dsimp only); omega⟩, (j + 1, R2.set p[j].toNat i), [(0, 0)], ?_, ⟨rfl, by dsimp only; omega, ?_⟩, by dsimp only; omega⟩
        · (repeat' (first | exact trivial | refine ⟨?_, ?_⟩ | exact rfl | assumption))
        · dsimp only
          rw [hR2, setAll, setAll, take_step _ _ (List.getElem?_eq_getElem hltj)]
      · have hjl : j = p.length := by have := df h; dsimp only at this; omega
        rw [hjl, List.take_length] at hR2
        refine ⟨⟨by (try dsimp only); omega, by (try dsimp only); omega⟩, (i + 1, R2), [(0, 0)], ?_, ⟨rfl, by dsimp only; omega, ?_⟩, by dsimp only; omega⟩
        · (repeat' (first | exact trivial | refine ⟨?_, ?_⟩ | exact rfl | assumption))
        · dsimp only
          rw [whichK, hpi, Option.getD_some, ← hR, hR2]
    · have hil : i = out.length := by have := df h; dsimp only at this; omega
      rw [hil] at hR
      intro y H4 hle4 hy
      have hin : ∀ z ∈ R, inI z := by rw [hR]; exact whichK_in out.length (by omega)
      obtain ⟨a1, n1, c1, rfl, hr⟩ := rI_all hy hin
      rw [hR] at hr
      exact hK _ _ _ _ _ _ (hle1.trans hle4) hP ho hlen hr
theorem rwhich_spec {m : Int} (hm1 : 0 ≤ m) (hm2 : m ≤ 1000) {l : List Edg} (hl : l.length ≤ 100000) {pa : List (List Int)} (hP : AllP m l pa) {a : Option Addr} {n c : Nat} {H : Hp} {K : Value → Hp → Prop} (ha : RL H a n c l)
    (hK : ∀ a1 n1 c1 out H', Le H H' → IsOrd l pa out → out.length = pa.length → RL H' a1 n1 c1 (whichK m.toNat out out.length) → K (.slice a1 n1 c1) H') :
    Does Try.prog 32 [.int .i64 m, .slice a n c] H K := by
  have hpl : pa.length ≤ 1000000 := parts_len hP.tp (by omega)
  have hN : ((m.toNat : Nat) : Int) = m := toNat_nat m (by omega)
  refine spec_of cx_ok cx_mix rfl Try.func32 Try.call32 Try.ntmps32 Try.results32 rfl rfl ?_
  refine ⟨⟨rfl, by omega, by show m * 8 ≤ _; omega, by omega⟩, ?_⟩
  refine rof_spec hm1 hm2 hl hP ha fun a3 n3 c3 out H1 hle1 hb ho hlen => ?_
  have hn3 := hb.n_eq
  have hmx3 := hb.le
  have hon : ∀ x ∈ out.flatten, nodeI m.toNat x = true := by rw [hN]; exact (ord_flat hP ho).2
  refine ⟨Nat × List Int, fun q => ⟨[(5, .own 0), (14, .v (.slice a3 n3 c3)), (15, .v (.int .i64 n3)), (16, .v (.int .i64 q.1))], [(0, .row 3 1 (iRows q.2))], 1⟩,
    fun q H' => H' = H1 ∧ q.1 ≤ out.length ∧ q.2 = whichK m.toNat out q.1, fun q => out.length - q.1, ⟨(0, List.replicate m.toNat 0), [(0, 0)], ?_, rfl, Nat.zero_le _, rfl⟩, ?_⟩
  · have e1 := iRows_rep m.toNat
    (repeat' (first | exact trivial | refine ⟨?_, ?_⟩ | exact rfl | assumption))
  rintro ⟨i, R⟩ H2 _ ⟨rfl, hi, hR⟩
  dsimp only at hi hR
  have hlR : R.length = m.toNat := by rw [hR, whichK_len]
  refine ⟨fun h => ?_, fun h => ?_⟩
  · have hlt : i < out.length := by have := dt h; dsimp only at this; omega
    have hpi : out[i]? = some out[i] := List.getElem?_eq_getElem hlt
    obtain ⟨ad, a1, n1, c1, q1, hh, hr1⟩ := list_elem hb hpi
    have hn1 := hr1.n_eq
    have hmx1 := hr1.le
    obtain ⟨p, hp⟩ : ∃ p, p = out[i] := ⟨_, rfl⟩
    rw [← hp] at hpi hr1 hn1
    have hpn : ∀ x ∈ p, nodeI m.toNat x = true := fun x hx => hon x (List.mem_flatten.2 ⟨p, List.mem_of_getElem? hpi, hx⟩)
    refine ⟨ad, ⟨by dsimp only; omega, by dsimp only; omega, q1⟩, ?_⟩
    refine ⟨_, hh, ?_⟩
    refine ⟨Nat × List Int, fun q => ⟨[(5, .own 0), (14, .v (.slice a3 n3 c3)), (15, .v (.int .i64 n3)), (16, .v (.int .i64 i)), (6, .v (.int .i64 i)), (21, .v (.slice a1 n1 c1)), (22, .v (.int .i64 n1)), (23, .v (.int .i64 q.1))], [(0, .row 3 1 (iRows q.2))], 1⟩,
      fun q H' => H' = H2 ∧ q.1 ≤ p.length ∧ q.2 = setAll R (p.take q.1) i, fun q => p.length - q.1, ⟨(0, R), [(0, 0)], ?_, rfl, Nat.zero_le _, rfl⟩, ?_⟩
    · (repeat' (first | exact trivial | refine ⟨?_, ?_⟩ | exact rfl | assumption))
    rintro ⟨j, R2⟩ H3 _ ⟨rfl, hj, hR2⟩
    dsimp only at hj hR2
    have hlR2 : R2.length = m.toNat := by rw [hR2, setAll_len, hlR]
    refine ⟨fun h => ?_, fun h => ?_⟩
    · have hltj : j < p.length := by have := dt h; dsimp only at this; omega
      obtain ⟨ad2, cs2, q2, hh2, r3⟩ := hr1.elem (List.getElem?_eq_getElem hltj)
      obtain ⟨rfl, -⟩ := r3
      have hv := dt (hpn _ (List.getElem_mem hltj))
      refine ⟨ad2, ⟨by dsimp only; omega, by dsimp only; omega, q2⟩, ?_⟩
      refine ⟨_, hh2, ?_⟩
      refine ⟨⟨by (try dsimp only); omega, by (try dsimp only); rw [iRows_len]; (try dsimp only); omega⟩, ?_⟩
      refine ⟨_, iRows_at (L := R2) hv.1 (by omega), ?_⟩
      have e1 : (iRows R2).set p[j].toNat [.int .i64 (i : Int)] = iRows (R2.set p[j].toNat i) := iRows_set _ _ _
      refine ⟨⟨by (try dsimp only); omega, by (try dsimp only); omega⟩, (j + 1, R2.set p[j].toNat i), [(0, 0)], ?_, ⟨rfl, by dsimp only; omega, ?_⟩, by dsimp only; omega⟩
      · (repeat' (first | exact trivial | refine ⟨?_, ?_⟩ | exact rfl | assumption))
      · dsimp only
        rw [hR2, setAll, setAll, take_step _ _ (List.getElem?_eq_getElem hltj)]
    · have hjl : j = p.length := by have := df h; dsimp only at this; omega
      rw [hjl, List.take_length] at hR2
      refine ⟨⟨by (try dsimp only); omega, by (try dsimp only); omega⟩, (i + 1, R2), [(0, 0)], ?_, ⟨rfl, by dsimp only; omega, ?_⟩, by dsimp only; omega⟩
      · (repeat' (first | exact trivial | refine ⟨?_, ?_⟩ | exact rfl | assumption))
      · dsimp only
        rw [whichK, hpi, Option.getD_some, ← hR, hR2]
  · have hil : i = out.length := by have := df h; dsimp only at this; omega
    rw [hil] at hR
    intro y H4 hle4 hy
    have hin : ∀ z ∈ R, inI z := by rw [hR]; exact whichK_in out.length (by omega)
    obtain ⟨a1, n1, c1, rfl, hr⟩ := rI_all hy hin
    rw [hR] at hr
    exact hK _ _ _ _ _ (hle1.trans hle4) ho hlen hr
/-! soughref09.Same: lists of lists alike. -/
theorem same09_spec {A B : List (List Int)} {a a2 : Option Addr} {n c n2 c2 : Nat} {H : Hp} {K : Value → Hp → Prop} (ha : RL H a n c A) (hb : RL H a2 n2 c2 B) (hK : K (.bool (decide (A = B))) H) : Does Try.prog 30 [.slice a n c, .slice a2 n2 c2] H K := by
  have hn := ha.n_eq
  have hn2 := hb.n_eq
  have hmx := ha.le
  refine spec_of cx_ok cx_mix rfl Try.func30 Try.call30 Try.ntmps30 Try.results30 rfl rfl ?_
  refine ⟨fun h => ?_, fun h => ?_⟩
  · have h1 : ¬ (n : Int) = n2 := nt h
    refine kbool hK (decide_eq_false fun e => ?_)
    rw [e] at hn
    omega
  · have h1 : (n : Int) = n2 := nf h
    have hAB : A.length = B.length := by omega
    refine ⟨Nat, fun i => ⟨[(1, .v (.slice a2 n2 c2)), (13, .v (.slice a n c)), (14, .v (.int .i64 n)), (15, .v (.int .i64 i))], [], 0⟩,
      fun i H' => H' = H ∧ i ≤ A.length ∧ A.take i = B.take i, fun i => A.length - i, ⟨0, [], ?_, rfl, Nat.zero_le _, rfl⟩, ?_⟩
    · (repeat' (first | exact trivial | refine ⟨?_, ?_⟩ | exact rfl | assumption))
    rintro i H1 _ ⟨rfl, hi, hx⟩
    refine ⟨fun h => ?_, fun h => ?_⟩
    · have hlt : i < A.length := by have := dt h; omega
      have hpA : A[i]? = some A[i] := List.getElem?_eq_getElem hlt
      have hpB : B[i]? = some B[i] := List.getElem?_eq_getElem (by omega)
      obtain ⟨ad, a3, n3, c3, q3, hh3, hr3⟩ := list_elem ha hpA
      obtain ⟨ad4, a4, n4, c4, q4, hh4, hr4⟩ := list_elem hb hpB
      have hn3 := hr3.n_eq
      have hn4 := hr4.n_eq
      have hmx3 := hr3.le
      have hne : A[i] ≠ B[i] → decide (A = B) = false := fun hne => decide_eq_false fun e => hne (by simp only [e])
      refine ⟨ad, ⟨by omega, by omega, q3⟩, ?_⟩
      refine ⟨_, hh3, ?_⟩
      refine ⟨ad4, ⟨by omega, by omega, q4⟩, ?_⟩
      refine ⟨_, hh4, ?_⟩
      refine ⟨fun h => ?_, fun h => ?_⟩
      · have g1 : ¬ (n3 : Int) = n4 := nt h
        refine kbool hK (hne fun e => ?_)
        rw [e] at hn3
        omega
      · have g1 : (n3 : Int) = n4 := nf h
        have hl34 : A[i].length = B[i].length := by omega
        refine ⟨Nat, fun j => ⟨[(1, .v (.slice a2 n2 c2)), (13, .v (.slice a n c)), (14, .v (.int .i64 n)), (15, .v (.int .i64 i)), (5, .v (.int .i64 i)), (6, .v (.slice a3 n3 c3)), (29, .v (.int .i64 n3)), (30, .v (.int .i64 j))], [], 0⟩,
          fun j H' => H' = H1 ∧ j ≤ A[i].length ∧ A[i].take j = B[i].take j, fun j => A[i].length - j, ⟨0, [], ?_, rfl, Nat.zero_le _, rfl⟩, ?_⟩
        · (repeat' (first | exact trivial | refine ⟨?_, ?_⟩ | exact rfl | assumption))
        rintro j H2 _ ⟨rfl, hj, hxj⟩
        refine ⟨fun h => ?_, fun h => ?_⟩
        · have hltj : j < A[i].length := by have := dt h; omega
          have hq1 : A[i][j]? = some A[i][j] := List.getElem?_eq_getElem hltj
          have hq2 : B[i][j]? = some B[i][j] := List.getElem?_eq_getElem (by omega)
          refine int_elem_k hr3 hq1 fun ad5 q5 hh5 => ?_
          refine int_elem_k hr4 hq2 fun ad6 q6 hh6 => ?_
          refine ⟨some ([], [0, 1, 2, 3, 4, 5, 6, 7, 8, 9, 10, 11]), by kernel_rfl, ?_⟩
          refine ⟨ad5, ⟨by omega, by omega, q5⟩, ?_⟩
          refine ⟨_, hh5, ?_⟩
          refine ⟨ad4, ⟨by omega, by omega, q4⟩, ?_⟩
          refine ⟨_, hh4, ?_⟩
          refine ⟨ad6, ⟨by omega, by omega, q6⟩, ?_⟩
          refine ⟨_, hh6, ?_⟩
          refine ⟨fun h => ?_, fun h => ?_⟩
          · have g2 : ¬ A[i][j] = B[i][j] := nt h
            exact kbool hK (hne fun e => g2 (by simp only [e]))
          · have g2 : A[i][j] = B[i][j] := nf h
            refine ⟨⟨by omega, by omega⟩, j + 1, [], ?_, ⟨rfl, by omega, by rw [List.take_add_one, List.take_add_one, hxj, hq1, hq2, g2]⟩, by dsimp only; omega⟩
            (repeat' (first | exact trivial | refine ⟨?_, ?_⟩ | exact rfl | assumption))
        · have hjl : j = A[i].length := by have := df h; omega
          have heq : A[i] = B[i] := by
            rw [hjl, List.take_length, hl34, List.take_length] at hxj
            exact hxj
          refine ⟨⟨by omega, by omega⟩, i + 1, [], ?_, ⟨rfl, by omega, by rw [List.take_add_one, List.take_add_one, hx, hpA, hpB, heq]⟩, by dsimp only; omega⟩
          (repeat' (first | exact trivial | refine ⟨?_, ?_⟩ | exact rfl | assumption))
    · have hil : i = A.length := by have := df h; omega
      refine kbool hK (decide_eq_true ?_)
      rw [hil, List.take_length, hAB, List.take_length] at hx
      exact hx
end Go.Proofs
end
section
namespace Go.Proofs
open Go.Sy
set_option maxRecDepth 20000
set_option maxHeartbeats 2000000
theorem few13_spec {m : Int} {l : List Edg} {a : Option Addr} {n c : Nat} {H : Hp} {K : Value → Hp → Prop} (ha : RL H a n c l) (hK : ∀ b, (b = true → (m ≤ 9 ∨ m > 256) ∧ l.length ≤ 24) → K (.bool b) H) : Does Try.prog 26 [.int .i64 m, .slice a n c] H K := by
  have hn := ha.n_eq
  refine spec_of cx_ok cx_mix rfl Try.func26 Try.call26 Try.ntmps26 Try.results26 rfl rfl ?_
  refine ⟨fun h => ?_, fun h => ?_⟩
  · have h1 : ¬ m ≤ 9 := df h
    refine ⟨fun h => ?_, fun h => ?_⟩
    · have h2 : m > 256 := dt h
      exact hK _ fun h3 => ⟨.inr h2, by have := dt h3; omega⟩
    · exact hK _ fun h3 => by first | (rw [h] at h3; cases h3) | cases h3
  · have h1 : m ≤ 9 := dt h
    exact hK _ fun h3 => ⟨.inl h1, by have := dt h3; omega⟩
abbrev l13 : List Edg := [(0, 1), (1, 0), (1, 2)]
theorem l13_in : ∀ e ∈ l13, inI e.1 ∧ inI e.2 := fun e he => by
  simp only [List.mem_cons, List.not_mem_nil, or_false] at he
  rcases he with rfl | rfl | rfl <;> exact ⟨⟨by omega, by omega⟩, ⟨by omega, by omega⟩⟩
theorem all13 : AllP 3 l13 [[2], [0, 1]] := checkP_ok (by omega) (by decide +kernel)
theorem ord13 : IsOrd l13 [[2], [0, 1]] [[0, 1], [2]] := ordB_ok (by decide +kernel)
theorem right13 : rightE 3 l13 = true := by decide +kernel
theorem awake13_spec {H : Hp} {K : Value → Hp → Prop} (hK : ∀ H', Le H H' → K (.bool true) H') : Does Try.prog 25 [] H K := by
  refine spec_of cx_ok cx_mix rfl Try.func25 Try.call25 Try.ntmps25 Try.results25 rfl rfl ?_
  intro x1 H1 hle1 hx1
  obtain ⟨a1, n1, c1, rfl, hr1⟩ := lit_edges (l := l13) hx1 l13_in
  refine of_spec (by decide) hr1 (fun hr => absurd right13 (by rw [hr]; decide)) (fun _ a3 n3 c3 pa out H3 hle3 hb hP ho hlen => ?_)
  have e := ord_one hP all13 ho ord13 hlen rfl
  subst e
  have hn3 := hb.n_eq
  have hn : n3 = 2 := hn3
  refine ⟨fun _ => ?_, fun h => by simp at h⟩
  refine ⟨fun _ => ?_, fun h => absurd (df h) (by simp [hn])⟩
  refine list_elem_k hb (i := 0) (L := [0, 1]) rfl fun ad a4 n4 c4 q4 hh4 hr4 => ?_
  have hn4 : n4 = 2 := hr4.n_eq
  refine ⟨ad, ⟨by omega, by omega, q4⟩, ?_⟩
  refine ⟨_, hh4, ?_⟩
  refine ⟨fun _ => ?_, fun h => absurd (df h) (by simp [hn4])⟩
  refine list_elem_k hb (i := 1) (L := [2]) rfl fun ad5 a5 n5 c5 q5 hh5 hr5 => ?_
  have hn5 : n5 = 1 := hr5.n_eq
  refine ⟨ad5, ⟨by omega, by omega, q5⟩, ?_⟩
  refine ⟨_, hh5, ?_⟩
  refine int_elem_k hr5 (i := 0) (x := 2) rfl fun ad6 q6 hh6 => ?_
  refine ⟨ad6, ⟨by omega, by omega, q6⟩, ?_⟩
  refine ⟨_, hh6, ?_⟩
  exact kbool (hK _ (hle1.trans hle3)) (by simp)
theorem SccParts_spec {m : Int} {l : List Edg} {a : Option Addr} {n c : Nat} {H : Hp} {K : Value → Hp → Prop} (ha : RL H a n c l) (hK : ∀ H', Le H H' → K (.bool true) H') : Does Try.prog 5 [.int .i64 m, .slice a n c] H K := by
  have hn := ha.n_eq
  refine spec_of cx_ok cx_mix rfl Try.func5 Try.call5 Try.ntmps5 Try.results5 rfl rfl ?_
  refine awake13_spec fun _ _ => ?_
  refine ⟨(fun h => by cases h), fun _ => ?_⟩
  refine few13_spec ha fun b hfew => ?_
  refine ⟨fun h => ?_, fun h => ?_⟩
  · exact hK _ (Le.refl H)
  · obtain ⟨hm, hll⟩ := hfew (by simpa using h)
    refine of_spec (by omega) ha (fun hr => ?_) (fun hr a3 n3 c3 pa out H3 hle3 hb hP ho hlen => ?_)
    · refine which_spec (by omega) ha (fun _ => ?_) (fun hr2 => absurd hr2 (by rw [hr]; decide))
      refine rright_spec ha ?_
      refine ⟨fun h => ?_, fun h => ?_⟩
      · refine ⟨fun _ => ?_, fun h => by simp at h⟩
        refine ⟨fun _ => ?_, fun h => by simp at h⟩
        refine ⟨⟨by decide, by decide⟩, ?_⟩
        exact kbool (hK _ (Le.refl H)) (by simp)
      · rw [hr] at h
        cases h
    · obtain ⟨hm1, hm2, hl2⟩ := right_ok hr
      refine which_spec (by omega) (ha.up hle3) (fun hr2 => absurd hr (by rw [hr2]; decide)) (fun _ a4 n4 c4 pa2 out2 H4 hle4 hP2 ho2 hlen2 hb2 => ?_)
      have eo : out2 = out := ord_one hP2 hP ho2 ho hlen2 hlen
      subst eo
      have ha4 := (ha.up hle3).up hle4
      refine rright_spec ha4 ?_
      refine ⟨fun h => ?_, fun h => ?_⟩
      · rw [hr] at h
        cases h
      · refine ⟨fun _ => ?_, fun h => by simp at h⟩
        refine ⟨fun _ => ?_, fun h => by simp at h⟩
        refine rof_spec (by omega) (by omega) (by omega) hP ha4 fun a5 n5 c5 out5 H5 hle5 hb5 ho5 hlen5 => ?_
        have e5 : out5 = out2 := ord_one hP hP ho5 ho hlen5 hlen
        subst e5
        refine same09_spec ((hb.up hle4).up hle5) hb5 ?_
        refine ⟨fun _ => ?_, fun h => by simp at h⟩
        refine rwhich_spec (by omega) (by omega) (by omega) hP (ha4.up hle5) fun a6 n6 c6 out6 H6 hle6 ho6 hlen6 hb6 => ?_
        have e6 : out6 = out5 := ord_one hP hP ho6 ho hlen6 hlen
        subst e6
        refine ints_spec ((hb2.up hle5).up hle6) hb6 ?_
        exact kbool (hK _ (((hle3.trans hle4).trans hle5).trans hle6)) (by simp)
end Go.Proofs
end
section
namespace Go.Proofs
open Go.Sy
set_option maxRecDepth 20000
set_option maxHeartbeats 2000000
theorem int_at_k {P : Prop} {H : Hp} {a : Option Addr} {n c : Nat} {xs : List Int} (h : RL H a n c xs) {x : Int} (h0 : 0 ≤ x) (hx : x < xs.length) (k : ∀ ad, a = some ad → ElemH H ad x 1 [.int .i64 (ig xs x)] → P) : P := by
  have hlt : x.toNat < xs.length := by omega
  have hg : xs[x.toNat]? = some (ig xs x) := by rw [ig, List.getElem?_eq_getElem hlt]; rfl
  refine int_elem_k h hg fun ad h1 h2 => k ad h1 ?_
  rwa [Int.toNat_of_nonneg h0] at h2
theorem edge_elem_k {P : Prop} {H : Hp} {a : Option Addr} {n c : Nat} {xs : List Edg} (h : RL H a n c xs) {i : Nat} {e : Edg} (hi : xs[i]? = some e) (k : ∀ ad, a = some ad → ElemH H ad (i : Int) 2 [.int .i64 e.1, .int .i64 e.2] → P) : P := by
  obtain ⟨ad, cs, h1, h2, h3⟩ := h.elem hi
  obtain ⟨rfl, -⟩ := edge_open h3
  exact k ad h1 h2
/-- The edges from part to part. -/
def btL (w : List Int) (l : List Edg) : List Edg := (l.filter fun e => !decide (ig w e.1 = ig w e.2)).map fun e => (ig w e.1, ig w e.2)
theorem btL_take {w : List Int} {l : List Edg} {i : Nat} (h : i < l.length) : btL w (l.take (i + 1)) = btL w (l.take i) ++ (if ig w l[i].1 = ig w l[i].2 then [] else [(ig w l[i].1, ig w l[i].2)]) := by
  rw [btL, btL, List.take_add_one, List.getElem?_eq_getElem h, Option.toList_some, List.filter_append, List.map_append]
  congr 1
  by_cases hg : ig w l[i].1 = ig w l[i].2
  · rw [if_pos hg, List.filter_cons_of_neg (by simp [hg])]; rfl
  · rw [if_neg hg, List.filter_cons_of_pos (by simp [hg])]; rfl
theorem btL_len (w : List Int) (l : List Edg) : (btL w l).length ≤ l.length := by rw [btL, List.length_map]; exact List.length_filter_le _ _
theorem ig_in {w : List Int} (h : ∀ z ∈ w, inI z) (x : Int) : inI (ig w x) := by
  rw [ig]
  cases hx : w[x.toNat]? with
  | none =>
    show inI 0
    exact ⟨by omega, by omega⟩
  | some z => exact h z (List.mem_of_getElem? hx)
theorem btL_in {w : List Int} (h : ∀ z ∈ w, inI z) (l : List Edg) : ∀ e ∈ btL w l, inI e.1 ∧ inI e.2 := fun e he => by
  obtain ⟨x, _, rfl⟩ := List.mem_map.1 he
  exact ⟨ig_in h _, ig_in h _⟩
theorem between_spec {m : Int} {l : List Edg} (hl : l.length ≤ 1000000) {a : Option Addr} {n c : Nat} {H : Hp} {K : Value → Hp → Prop} (ha : RL H a n c l)
    (hbad : rightE m l = false → K (.tuple #[.slice none 0 0, .int .i64 1]) H)
    (hK : rightE m l = true → ∀ a1 n1 c1 pa out H', Le H H' → AllP m l pa → IsOrd l pa out → out.length = pa.length → RL H' a1 n1 c1 (gSort (btL (whichK m.toNat out out.length) l)) → K (.tuple #[.slice a1 n1 c1, .int .i64 0]) H') :
    Does Try.prog 56 [.int .i64 m, .slice a n c] H K := by
  have hn := ha.n_eq
  have hmx := ha.le
  refine spec_of cx_ok cx_mix rfl Try.func56 Try.call56 Try.ntmps56 Try.results56 rfl rfl ?_
  refine which_spec hl ha (fun hr => ?_) (fun hr a3 n3 c3 pa out H1 hle1 hP ho hlen hb => ?_)
  · refine ⟨fun h => ?_, fun h => ?_⟩
    · exact hbad hr
    · exact absurd (nf h) (by decide)
  · have hK := hK hr
    obtain ⟨hm1, hm2, hl2⟩ := right_ok hr
    have hn3 := hb.n_eq
    have hmx3 := hb.le
    have hpl : pa.length ≤ 1000000 := parts_len hP.tp (by omega)
    obtain ⟨W, hW⟩ : ∃ W, W = whichK m.toNat out out.length := ⟨_, rfl⟩
    have hWl : W.length = m.toNat := by rw [hW, whichK_len]
    have hWi : ∀ z ∈ W, inI z := by rw [hW]; exact whichK_in _ (by omega)
    rw [← hW] at hb hn3
    have ha1 := ha.up hle1
    refine ⟨fun h => by simp at h, fun _ => ?_⟩
    refine ⟨Nat, fun i => ⟨[(6, .v (.slice a3 n3 c3)), (8, .own 0), (22, .v (.slice a n c)), (23, .v (.int .i64 n)), (24, .v (.int .i64 i))], [(0, .row 63 2 (eRows (btL W (l.take i))))], 1⟩,
      fun i H' => H' = H1 ∧ i ≤ l.length, fun i => l.length - i, ⟨0, [], ?_, rfl, Nat.zero_le _⟩, ?_⟩
    · (repeat' (first | exact trivial | refine ⟨?_, ?_⟩ | exact rfl | assumption))
    rintro i H2 _ ⟨rfl, hi⟩
    refine ⟨fun h => ?_, fun h => ?_⟩
    · have hlt : i < l.length := by have := dt h; omega
      have hed := hP.edges _ (List.getElem_mem hlt)
      have hd1 := dt hed.1
      have hd2 := dt hed.2
      have hst := btL_take (w := W) hlt
      have hbl := btL_len W (l.take i)
      rw [List.length_take] at hbl
      have hel : (eRows (btL W (l.take i))).length = (btL W (l.take i)).length := List.length_map _
      refine edge_elem_k ha1 (List.getElem?_eq_getElem hlt) fun ad q1 hh => ?_
      refine int_at_k hb hd1.1 (by omega) fun ad2 q2 hh2 => ?_
      refine int_at_k hb hd2.1 (by omega) fun ad3 q3 hh3 => ?_
      refine ⟨ad, ⟨by omega, by omega, q1⟩, ?_⟩
      refine ⟨_, hh, ?_⟩
      refine ⟨some ([], [0, 1, 2, 3, 4, 5, 6, 7, 8, 9, 10, 11]), by kernel_rfl, ?_⟩
      refine ⟨ad2, ⟨by omega, by omega, q2⟩, ?_⟩
      refine ⟨_, hh2, ?_⟩
      refine ⟨ad3, ⟨by omega, by omega, q3⟩, ?_⟩
      refine ⟨_, hh3, ?_⟩
      refine ⟨fun h => ?_, fun h => ?_⟩
      · have g1 : ¬ ig W l[i].1 = ig W l[i].2 := nt h
        rw [if_neg g1] at hst
        have e1 : eRows (btL W (l.take i)) ++ [[.int .i64 (ig W l[i].1), .int .i64 (ig W l[i].2)]] = eRows (btL W (l.take (i + 1))) := by rw [hst]; exact eRows_snoc _ (ig W l[i].1, ig W l[i].2)
        refine ⟨room, ?_⟩
        refine ⟨⟨by omega, by omega⟩, i + 1, [(0, 3)], ?_, ⟨rfl, by omega⟩, by dsimp only; omega⟩
        (repeat' (first | exact trivial | refine ⟨?_, ?_⟩ | exact rfl | assumption))
      · have g1 : ig W l[i].1 = ig W l[i].2 := nf h
        rw [if_pos g1, List.append_nil] at hst
        have e1 : eRows (btL W (l.take i)) = eRows (btL W (l.take (i + 1))) := by rw [hst]
        refine ⟨⟨by omega, by omega⟩, i + 1, [(0, 0)], ?_, ⟨rfl, by omega⟩, by dsimp only; omega⟩
        (repeat' (first | exact trivial | refine ⟨?_, ?_⟩ | exact rfl | assumption))
    · have hil : i = l.length := by have := df h; omega
      intro y H4 hle4 hy
      rw [hil, List.take_length] at hy
      obtain ⟨a5, n5, c5, rfl, hr5⟩ := rE_all hy (btL_in hWi l)
      have hbl := btL_len W l
      refine sorted_spec (by omega) hr5 fun a6 n6 c6 H6 hle6 hr6 => ?_
      rw [hW] at hr6
      exact hK _ _ _ _ _ _ ((hle1.trans hle4).trans hle6) hP ho hlen hr6
theorem rbetween_spec {m : Int} (hm1 : 0 ≤ m) (hm2 : m ≤ 1000) {l : List Edg} (hl : l.length ≤ 100000) {pa : List (List Int)} (hP : AllP m l pa) {a : Option Addr} {n c : Nat} {H : Hp} {K : Value → Hp → Prop} (ha : RL H a n c l)
    (hK : ∀ a1 n1 c1 out H', Le H H' → IsOrd l pa out → out.length = pa.length → RL H' a1 n1 c1 (gSort (btL (whichK m.toNat out out.length) l)) → K (.slice a1 n1 c1) H') :
    Does Try.prog 58 [.int .i64 m, .slice a n c] H K := by
  have hn := ha.n_eq
  have hmx := ha.le
  have hpl : pa.length ≤ 1000000 := parts_len hP.tp (by omega)
  refine spec_of cx_ok cx_mix rfl Try.func58 Try.call58 Try.ntmps58 Try.results58 rfl rfl ?_
  refine rwhich_spec hm1 hm2 hl hP ha fun a3 n3 c3 out H1 hle1 ho hlen hb => ?_
  have hn3 := hb.n_eq
  have hmx3 := hb.le
  obtain ⟨W, hW⟩ : ∃ W, W = whichK m.toNat out out.length := ⟨_, rfl⟩
  have hWl : W.length = m.toNat := by rw [hW, whichK_len]
  have hWi : ∀ z ∈ W, inI z := by rw [hW]; exact whichK_in _ (by omega)
  rw [← hW] at hb hn3
  have ha1 := ha.up hle1
  refine ⟨Nat, fun i => ⟨[(5, .v (.slice a3 n3 c3)), (6, .own 0), (12, .v (.slice a n c)), (13, .v (.int .i64 n)), (14, .v (.int .i64 i))], [(0, .row 63 2 (eRows (btL W (l.take i))))], 1⟩,
    fun i H' => H' = H1 ∧ i ≤ l.length, fun i => l.length - i, ⟨0, [], ?_, rfl, Nat.zero_le _⟩, ?_⟩
  · (repeat' (first | exact trivial | refine ⟨?_, ?_⟩ | exact rfl | assumption))
  rintro i H2 _ ⟨rfl, hi⟩
  refine ⟨fun h => ?_, fun h => ?_⟩
  · have hlt : i < l.length := by have := dt h; omega
    have hed := hP.edges _ (List.getElem_mem hlt)
    have hd1 := dt hed.1
    have hd2 := dt hed.2
    have hst := btL_take (w := W) hlt
    have hbl := btL_len W (l.take i)
    rw [List.length_take] at hbl
    have hel : (eRows (btL W (l.take i))).length = (btL W (l.take i)).length := List.length_map _
    refine edge_elem_k ha1 (List.getElem?_eq_getElem hlt) fun ad q1 hh => ?_
    refine int_at_k hb hd1.1 (by omega) fun ad2 q2 hh2 => ?_
    refine int_at_k hb hd2.1 (by omega) fun ad3 q3 hh3 => ?_
    refine ⟨ad, ⟨by omega, by omega, q1⟩, ?_⟩
    refine ⟨_, hh, ?_⟩
    refine ⟨some ([], [0, 1, 2, 3, 4, 5, 6, 7, 8, 9, 10]), by kernel_rfl, ?_⟩
    refine ⟨ad2, ⟨by omega, by omega, q2⟩, ?_⟩
    refine ⟨_, hh2, ?_⟩
    refine ⟨ad3, ⟨by omega, by omega, q3⟩, ?_⟩
    refine ⟨_, hh3, ?_⟩
    refine ⟨fun h => ?_, fun h => ?_⟩
    · have g1 : ¬ ig W l[i].1 = ig W l[i].2 := nt h
      rw [if_neg g1] at hst
      have e1 : eRows (btL W (l.take i)) ++ [[.int .i64 (ig W l[i].1), .int .i64 (ig W l[i].2)]] = eRows (btL W (l.take (i + 1))) := by rw [hst]; exact eRows_snoc _ (ig W l[i].1, ig W l[i].2)
      refine ⟨some ([0], [0, 1, 2, 3, 4, 5, 6, 7, 8, 9, 10, 11, 12, 13, 14]), by kernel_rfl, ?_⟩
      refine ⟨ad2, ⟨by omega, by omega, q2⟩, ?_⟩
      refine ⟨_, hh2, ?_⟩
      refine ⟨ad3, ⟨by omega, by omega, q3⟩, ?_⟩
      refine ⟨_, hh3, ?_⟩
      refine ⟨room, ?_⟩
      refine ⟨⟨by omega, by omega⟩, i + 1, [(0, 3)], ?_, ⟨rfl, by omega⟩, by dsimp only; omega⟩
      (repeat' (first | exact trivial | refine ⟨?_, ?_⟩ | exact rfl | assumption))
    · have g1 : ig W l[i].1 = ig W l[i].2 := nf h
      rw [if_pos g1, List.append_nil] at hst
      have e1 : eRows (btL W (l.take i)) = eRows (btL W (l.take (i + 1))) := by rw [hst]
      refine ⟨⟨by omega, by omega⟩, i + 1, [(0, 0)], ?_, ⟨rfl, by omega⟩, by dsimp only; omega⟩
      (repeat' (first | exact trivial | refine ⟨?_, ?_⟩ | exact rfl | assumption))
  · have hil : i = l.length := by have := df h; omega
    intro y H4 hle4 hy
    rw [hil, List.take_length] at hy
    obtain ⟨a5, n5, c5, rfl, hr5⟩ := rE_all hy (btL_in hWi l)
    have hbl := btL_len W l
    refine refSorted_spec (by omega) hr5 fun a6 n6 c6 H6 hle6 hr6 => ?_
    rw [hW] at hr6
    exact hK _ _ _ _ _ ((hle1.trans hle4).trans hle6) ho hlen hr6
/-! scc.Round -/
def selfE (e : Edg) : Bool := decide (e.1 = e.2)
theorem self_spec {e : Edg} {H : Hp} {K : SV → St → Hp → Prop} (hK : K (.v (.bool (selfE e))) ⟨[], [], 0⟩ H) : DoesG Try.prog 90 [.agg [.v (.int .i64 e.1), .v (.int .i64 e.2)]] [] 0 H K := by
  refine spec_ofG cx_ok cx_mix Try.func90 Try.call90 Try.ntmps90 Try.results90 rfl rfl ?_
  exact ⟨.v (.bool (selfE e)), [], 0, [], by (repeat' (first | exact trivial | refine ⟨?_, ?_⟩ | exact rfl | assumption)), hK⟩
theorem indexS_spec {l : List Edg} {a : Option Addr} {n c : Nat} {H : Hp} {K : SV → St → Hp → Prop} (ha : RL H a n c l) (hK : K (.v (.int .i64 (idxB selfE l 0))) ⟨[], [], 0⟩ H) : DoesG Try.prog 104 [.v (.slice a n c), .fn 90 []] [] 0 H K := by
  have hn1 := ha.n_eq
  have hmx := ha.le
  refine spec_ofG cx_ok cx_mix Try.func104 Try.call104 Try.ntmps104 Try.results104 rfl rfl ?_
  refine ⟨Nat, fun j => ⟨[(0, .v (.slice a n c)), (1, .fn 90 []), (7, .v (.int .i64 n)), (8, .v (.int .i64 j))], [], 0⟩,
    fun j H' => H' = H ∧ j ≤ l.length ∧ idxB selfE l 0 = idxB selfE (l.drop j) j, fun j => l.length - j, ⟨0, [], ?_, rfl, by omega, rfl⟩, ?_⟩
  · (repeat' (first | exact trivial | refine ⟨?_, ?_⟩ | exact rfl | assumption))
  rintro j H1 _ ⟨rfl, hi, hx⟩
  refine ⟨fun h => ?_, fun h => ?_⟩
  · have hlt : j < l.length := by have := dt h; omega
    rw [idxB_step hlt] at hx
    refine edge_elem_k ha (List.getElem?_eq_getElem hlt) fun ad q1 hh => ?_
    refine ⟨ad, ⟨by omega, by omega, q1⟩, ?_⟩
    refine ⟨_, hh, ?_⟩
    refine ⟨[], rfl, self_spec (e := l[j]) ?_⟩
    refine ⟨fun h => ?_, fun h => ?_⟩
    · rw [if_pos h] at hx
      rw [hx] at hK
      exact ⟨.v (.int .i64 (j : Int)), [], 0, [], by (repeat' (first | exact trivial | refine ⟨?_, ?_⟩ | exact rfl | assumption)), hK⟩
    · rw [if_neg (by rw [h]; decide)] at hx
      refine ⟨⟨by omega, by omega⟩, j + 1, [], ?_, ⟨rfl, by omega, hx⟩, by dsimp only; omega⟩
      (repeat' (first | exact trivial | refine ⟨?_, ?_⟩ | exact rfl | assumption))
  · have hil : j = l.length := by have := df h; omega
    rw [hil, List.drop_length, idxB] at hx
    rw [hx] at hK
    exact ⟨.v (.int .i64 (-1)), [], 0, [], by (repeat' (first | exact trivial | refine ⟨?_, ?_⟩ | exact rfl | assumption)), hK⟩
theorem contS_spec {l : List Edg} {a : Option Addr} {n c : Nat} {H : Hp} {K : SV → St → Hp → Prop} (ha : RL H a n c l) (hK : K (.v (.bool (l.any selfE))) ⟨[], [], 0⟩ H) : DoesG Try.prog 82 [.v (.slice a n c), .fn 90 []] [] 0 H K := by
  rw [← idxB_any] at hK
  refine spec_ofG cx_ok cx_mix Try.func82 Try.call82 Try.ntmps82 Try.results82 rfl rfl ?_
  refine ⟨[], rfl, indexS_spec ha ?_⟩
  exact ⟨.v (.bool (decide (0 ≤ idxB selfE l 0))), [], 0, [], by (repeat' (first | exact trivial | refine ⟨?_, ?_⟩ | exact rfl | assumption)), hK⟩
theorem round_spec {m : Int} {l : List Edg} (hl : l.length ≤ 1000000) {a : Option Addr} {n c : Nat} {H : Hp} {K : Value → Hp → Prop} (ha : RL H a n c l)
    (hbad : rightE m l = false → K (.bool false) H)
    (hK : rightE m l = true → ∀ pa H', Le H H' → AllP m l pa → K (.bool (decide ((pa.length : Int) < m) || l.any selfE)) H') :
    Does Try.prog 57 [.int .i64 m, .slice a n c] H K := by
  refine spec_of cx_ok cx_mix rfl Try.func57 Try.call57 Try.ntmps57 Try.results57 rfl rfl ?_
  refine of_spec hl ha (fun hr => ?_) (fun hr a3 n3 c3 pa out H1 hle1 hb hP ho hlen => ?_)
  · refine ⟨fun h => ?_, fun h => ?_⟩
    · exact hbad hr
    · exact absurd (nf h) (by decide)
  · have hn3 := hb.n_eq
    have hK := hK hr pa H1 hle1 hP
    refine ⟨fun h => by simp at h, fun _ => ?_⟩
    refine ⟨fun h => ?_, fun h => ?_⟩
    · have g1 : ¬ (n3 : Int) < m := df h
      refine ⟨[], rfl, contS_spec (ha.up hle1) ?_⟩
      refine kbool hK ?_
      rw [decide_eq_false (by omega), Bool.false_or]
    · have g1 : (n3 : Int) < m := dt h
      refine kbool hK ?_
      rw [decide_eq_true (by omega), Bool.true_or]
end Go.Proofs
end
section
namespace Go.Proofs
open Go.Sy
set_option maxRecDepth 20000
set_option maxHeartbeats 2000000
def mayB (w : Int) : Bool := decide (1 ≤ w) && decide (w ≤ 64)
theorem may_spec {w : Int} {H : Hp} {K : Value → Hp → Prop} (hK : K (.bool (mayB w)) H) : Does Try.prog 91 [.int .i64 w] H K := by
  refine spec_of cx_ok cx_mix rfl Try.func91 Try.call91 Try.ntmps91 Try.results91 rfl rfl ?_
  refine ⟨fun h => ?_, fun h => ?_⟩
  · have h1 : w ≥ 1 := dt h
    refine kbool hK ?_
    rw [mayB, decide_eq_true (by omega : 1 ≤ w), Bool.true_and]
  · have h1 : ¬ w ≥ 1 := df h
    refine kbool hK ?_
    rw [mayB, decide_eq_false (by omega : ¬ 1 ≤ w), Bool.false_and]
/-- How many nodes the first k parts have. -/
def aheadK (out : List (List Int)) (k : Nat) : Nat := (out.take k).flatten.length
theorem aheadK_snoc {out : List (List Int)} {k : Nat} {p : List Int} (h : out[k]? = some p) : aheadK out (k + 1) = aheadK out k + p.length := by
  rw [aheadK, aheadK, List.take_add_one, h, Option.toList_some, List.flatten_append, List.length_append, List.flatten_singleton]
theorem aheadK_le (out : List (List Int)) (k : Nat) : aheadK out k ≤ out.flatten.length := by
  have h : out.flatten = (out.take k).flatten ++ (out.drop k).flatten := by rw [← List.flatten_append, List.take_append_drop]
  rw [aheadK, h, List.length_append]
  omega
/-- Of each node whose it is. -/
def ownK (m w : Int) (out : List (List Int)) : Nat → List Int
  | 0 => List.replicate m.toNat 0
  | k + 1 => setAll (ownK m w out k) (out[k]?.getD []) ((w * (aheadK out k : Int)).tdiv m)
theorem ownK_len (m w : Int) (out : List (List Int)) : ∀ k, (ownK m w out k).length = m.toNat
  | 0 => List.length_replicate
  | k + 1 => by rw [ownK, setAll_len, ownK_len m w out k]
theorem own_val {m w : Int} (hm : 1 ≤ m) (hw : 1 ≤ w) (hw2 : w ≤ 64) {k : Nat} (hk : k ≤ 1000) : 0 ≤ w * (k : Int) ∧ w * (k : Int) ≤ 64000 ∧ inI ((w * (k : Int)).tdiv m) := by
  have h1 : 0 ≤ w * (k : Int) := Int.mul_nonneg (by omega) (by omega)
  have h2 : w * (k : Int) ≤ 64 * 1000 := Int.mul_le_mul hw2 (by omega) (by omega) (by omega)
  have h3 : (w * (k : Int)).tdiv m ≤ w * (k : Int) := Int.tdiv_le_self m h1
  have h4 : 0 ≤ (w * (k : Int)).tdiv m := Int.tdiv_nonneg h1 (by omega)
  exact ⟨h1, by omega, by omega, by omega⟩
theorem ownK_in {m w : Int} (hm : 1 ≤ m) (hw : 1 ≤ w) (hw2 : w ≤ 64) {out : List (List Int)} (ho : out.flatten.length ≤ 1000) : ∀ k, ∀ z ∈ ownK m w out k, inI z
  | 0, z, hz => by
    have := List.eq_of_mem_replicate hz
    subst this
    exact ⟨by omega, by omega⟩
  | k + 1, z, hz => by
    rw [ownK] at hz
    exact setAll_in _ (ownK_in hm hw hw2 ho k) (own_val hm hw hw2 (Nat.le_trans (aheadK_le out k) ho)).2.2 z hz
theorem owners_spec {m w : Int} {l : List Edg} (hl : l.length ≤ 1000000) {a : Option Addr} {n c : Nat} {H : Hp} {K : Value → Hp → Prop} (ha : RL H a n c l)
    (hbad : mayB w = false ∨ rightE m l = false → K (.tuple #[.slice none 0 0, .int .i64 1]) H)
    (hK : mayB w = true → rightE m l = true → ∀ a1 n1 c1 pa out H', Le H H' → AllP m l pa → IsOrd l pa out → out.length = pa.length → RL H' a1 n1 c1 (ownK m w out out.length) → K (.tuple #[.slice a1 n1 c1, .int .i64 0]) H') :
    Does Try.prog 60 [.int .i64 m, .slice a n c, .int .i64 w] H K := by
  refine spec_of cx_ok cx_mix rfl Try.func60 Try.call60 Try.ntmps60 Try.results60 rfl rfl ?_
  refine may_spec ?_
  refine ⟨fun h => ?_, fun h => ?_⟩
  · exact hbad (.inl (by simpa using h))
  · have hmay : mayB w = true := by simpa using h
    have hw : 1 ≤ w ∧ w ≤ 64 := by
      rw [mayB] at hmay
      simpa using hmay
    refine of_spec hl ha (fun hr => ?_) (fun hr a3 n3 c3 pa out H1 hle1 hb hP ho hlen => ?_)
    · refine ⟨fun h => ?_, fun h => ?_⟩
      · exact hbad (.inr hr)
      · exact absurd (nf h) (by decide)
    · have hK := hK hmay hr
      obtain ⟨hm1, hm2, hl2⟩ := right_ok hr
      have hn3 := hb.n_eq
      have hmx3 := hb.le
      have hN : ((m.toNat : Nat) : Int) = m := toNat_nat m (by omega)
      have hpl : pa.length ≤ 1000000 := parts_len hP.tp (by omega)
      have hof := ord_flat hP ho
      have hon : ∀ x ∈ out.flatten, nodeI m.toNat x = true := by rw [hN]; exact hof.2
      have hfl : out.flatten.length ≤ 1000 := by
        have := nodes_len hof.1 hof.2
        omega
      refine ⟨fun h => by simp at h, fun _ => ?_⟩
      refine ⟨⟨rfl, by omega, by show m * 8 ≤ _; omega, by omega⟩, ?_⟩
      refine ⟨Nat × List Int, fun q => ⟨[(0, .v (.int .i64 m)), (2, .v (.int .i64 w)), (10, .own 0), (11, .v (.int .i64 (aheadK out q.1))), (30, .v (.slice a3 n3 c3)), (31, .v (.int .i64 n3)), (32, .v (.int .i64 q.1))], [(0, .row 3 1 (iRows q.2))], 1⟩,
        fun q H' => H' = H1 ∧ q.1 ≤ out.length ∧ q.2 = ownK m w out q.1, fun q => out.length - q.1, ⟨(0, List.replicate m.toNat 0), [(0, 0)], ?_, rfl, Nat.zero_le _, rfl⟩, ?_⟩
      · have e1 := iRows_rep m.toNat
        have e2 : SV.v (.int .i64 0) = SV.v (.int .i64 ((aheadK out 0 : Nat) : Int)) := by simp [aheadK]
        (repeat' (first | exact trivial | refine ⟨?_, ?_⟩ | exact rfl | assumption))
      rintro ⟨i, R⟩ H2 _ ⟨rfl, hi, hR⟩
      dsimp only at hi hR
      have hlR : R.length = m.toNat := by rw [hR, ownK_len]
      have hah := aheadK_le out i
      have hov := own_val hm1 hw.1 hw.2 (k := aheadK out i) (by omega)
      refine ⟨fun h => ?_, fun h => ?_⟩
      · have hlt : i < out.length := by have := dt h; dsimp only at this; omega
        have hpi : out[i]? = some out[i] := List.getElem?_eq_getElem hlt
        refine list_elem_k hb hpi fun ad a1 n1 c1 q1 hh hr1 => ?_
        have hn1 := hr1.n_eq
        have hmx1 := hr1.le
        have hpn : ∀ x ∈ out[i], nodeI m.toNat x = true := fun x hx => hon x (List.mem_flatten.2 ⟨_, List.getElem_mem hlt, hx⟩)
        have hah2 := aheadK_snoc hpi
        have hah3 := aheadK_le out (i + 1)
        refine ⟨ad, ⟨by dsimp only; omega, by dsimp only; omega, q1⟩, ?_⟩
        refine ⟨_, hh, ?_⟩
        refine ⟨Nat × List Int, fun q => ⟨[(0, .v (.int .i64 m)), (2, .v (.int .i64 w)), (10, .own 0), (11, .v (.int .i64 (aheadK out i))), (13, .v (.slice a1 n1 c1)), (30, .v (.slice a3 n3 c3)), (31, .v (.int .i64 n3)), (32, .v (.int .i64 i)), (36, .v (.slice a1 n1 c1)), (37, .v (.int .i64 n1)), (38, .v (.int .i64 q.1))], [(0, .row 3 1 (iRows q.2))], 1⟩,
          fun q H' => H' = H2 ∧ q.1 ≤ out[i].length ∧ q.2 = setAll R (out[i].take q.1) ((w * (aheadK out i : Int)).tdiv m), fun q => out[i].length - q.1, ⟨(0, R), [(0, 0)], ?_, rfl, Nat.zero_le _, rfl⟩, ?_⟩
        · (repeat' (first | exact trivial | refine ⟨?_, ?_⟩ | exact rfl | assumption))
        rintro ⟨j, R2⟩ H3 _ ⟨rfl, hj, hR2⟩
        dsimp only at hj hR2
        have hlR2 : R2.length = m.toNat := by rw [hR2, setAll_len, hlR]
        refine ⟨fun h => ?_, fun h => ?_⟩
        · have hltj : j < out[i].length := by have := dt h; dsimp only at this; omega
          have hv := dt (hpn _ (List.getElem_mem hltj))
          refine int_elem_k hr1 (List.getElem?_eq_getElem hltj) fun ad2 q2 hh2 => ?_
          refine ⟨ad2, ⟨by dsimp only; omega, by dsimp only; omega, q2⟩, ?_⟩
          refine ⟨_, hh2, ?_⟩
          refine ⟨⟨by omega, by omega⟩, ?_⟩
          refine ⟨by omega, ?_⟩
          refine ⟨⟨hov.2.2.1, hov.2.2.2⟩, ?_⟩
          refine ⟨⟨by (try dsimp only); omega, by (try dsimp only); rw [iRows_len]; (try dsimp only); omega⟩, ?_⟩
          refine ⟨_, iRows_at (L := R2) hv.1 (by omega), ?_⟩
          have e1 : (iRows R2).set out[i][j].toNat [.int .i64 ((w * (aheadK out i : Int)).tdiv m)] = iRows (R2.set out[i][j].toNat ((w * (aheadK out i : Int)).tdiv m)) := iRows_set _ _ _
          refine ⟨⟨by (try dsimp only); omega, by (try dsimp only); omega⟩, (j + 1, R2.set out[i][j].toNat ((w * (aheadK out i : Int)).tdiv m)), [(0, 0)], ?_, ⟨rfl, by dsimp only; omega, ?_⟩, by dsimp only; omega⟩
          · (repeat' (first | exact trivial | refine ⟨?_, ?_⟩ | exact rfl | assumption))
          · dsimp only
            rw [hR2, setAll, setAll, take_step _ _ (List.getElem?_eq_getElem hltj)]
        · have hjl : j = out[i].length := by have := df h; dsimp only at this; omega
          rw [hjl, List.take_length] at hR2
          have e11 : SV.v (.int .i64 ((aheadK out i : Int) + (n1 : Int))) = SV.v (.int .i64 ((aheadK out (i + 1) : Nat) : Int)) := by rw [hah2, hn1]; rfl
          refine ⟨⟨by (try dsimp only); omega, by (try dsimp only); omega⟩, ?_⟩
          refine ⟨⟨by (try dsimp only); omega, by (try dsimp only); omega⟩, (i + 1, R2), [(0, 0)], ?_, ⟨rfl, by dsimp only; omega, ?_⟩, by dsimp only; omega⟩
          · (repeat' (first | exact trivial | refine ⟨?_, ?_⟩ | exact rfl | assumption))
          · dsimp only
            rw [ownK, hpi, Option.getD_some, ← hR, hR2]
      · have hil : i = out.length := by have := df h; dsimp only at this; omega
        rw [hil] at hR
        intro y H4 hle4 hy
        have hin : ∀ z ∈ R, inI z := by rw [hR]; exact ownK_in hm1 hw.1 hw.2 hfl _
        obtain ⟨a1, n1, c1, rfl, hr⟩ := rI_all hy hin
        rw [hR] at hr
        exact hK _ _ _ _ _ _ (hle1.trans hle4) hP ho hlen hr
theorem all15 : AllP 2 [] [[0], [1]] := checkP_ok (by omega) (by decide +kernel)
theorem ord15 : IsOrd [] [[0], [1]] [[0], [1]] := ordB_ok (by decide +kernel)
theorem own15 : ownK 2 1 [[0], [1]] 2 = [0, 0] := by decide +kernel
theorem awake15_spec {H : Hp} {K : Value → Hp → Prop} (hK : ∀ H', Le H H' → K (.bool true) H') : Does Try.prog 33 [] H K := by
  refine spec_of cx_ok cx_mix rfl Try.func33 Try.call33 Try.ntmps33 Try.results33 rfl rfl ?_
  refine owners_spec (l := []) (by simp) (a := none) (n := 0) (c := 0) ⟨rfl, Nat.le_refl _, by omega, .inl rfl⟩ (fun hb => by rcases hb with hb | hb <;> exact absurd hb (by decide +kernel)) (fun _ _ a3 n3 c3 pa out H3 hle3 hP ho hlen hb => ?_)
  have e := ord_one hP all15 ho ord15 hlen rfl
  rw [e] at hb
  have hb : RL H3 a3 n3 c3 (ownK 2 1 [[0], [1]] 2) := hb
  rw [own15] at hb
  refine ⟨fun _ => ?_, fun h => by simp at h⟩
  intro x4 H4 hle4 hx4
  obtain ⟨a4, n4, c4, rfl, hr4⟩ := rI_all (l := [0, 0]) hx4 (fun z hz => by
    simp only [List.mem_cons, List.not_mem_nil, or_false, or_self] at hz
    subst hz
    exact ⟨by omega, by omega⟩)
  refine ints_spec (hb.up hle4) hr4 ?_
  exact kbool (hK _ hle3) (by simp)
end Go.Proofs
end
section
namespace Go.Proofs
open Go.Sy
set_option maxRecDepth 20000
set_option maxHeartbeats 2000000
def ldS (L : List Int) (w : Int) : List Int := if 0 ≤ w ∧ w < L.length then L.set w.toNat (ig L w + 1) else L
theorem ldS_len (L : List Int) (w : Int) : (ldS L w).length = L.length := by rw [ldS]; split <;> simp
def ldL (L : List Int) (o : List Int) : List Int := o.foldl ldS L
theorem ldL_len : ∀ (o : List Int) (L : List Int), (ldL L o).length = L.length
  | [], _ => rfl
  | w :: o, L => by rw [ldL, List.foldl_cons, ← ldL, ldL_len o, ldS_len]
theorem ldL_get : ∀ (o : List Int) (L : List Int) {x : Int}, 0 ≤ x → x < L.length → ig (ldL L o) x = ig L x + (o.count x : Int)
  | [], L, x, _, _ => by simp [ldL]
  | w :: o, L, x, h0, h1 => by
    rw [ldL, List.foldl_cons, ← ldL, ldL_get o _ h0 (by rw [ldS_len]; exact h1), List.count_cons]
    have hx : nodeI L.length x = true := decide_eq_true ⟨h0, h1⟩
    rw [ldS]
    by_cases hw : 0 ≤ w ∧ w < L.length
    · rw [if_pos hw, ig_set rfl (decide_eq_true hw) _ hx]
      by_cases e : x = w
      · subst e
        simp
        omega
      · rw [if_neg e]
        have : ¬ w = x := fun h => e h.symm
        simp [this]
    · rw [if_neg hw]
      have : ¬ w = x := fun h => hw (h ▸ ⟨h0, h1⟩)
      simp [this]
theorem rep_ig (N : Nat) (x : Int) : ig (List.replicate N 0) x = 0 := by rw [ig, List.getElem?_replicate]; split <;> rfl
theorem ldL_all {o : List Int} (ho : o.length ≤ 1000000) (N : Nat) : ∀ z ∈ ldL (List.replicate N 0) o, 0 ≤ z ∧ z ≤ 1000000 := fun z hz => by
  obtain ⟨i, hi, rfl⟩ := List.getElem_of_mem hz
  have hl : (ldL (List.replicate N 0) o).length = (List.replicate N (0 : Int)).length := ldL_len o _
  have := ldL_get o (List.replicate N 0) (x := (i : Int)) (by omega) (by omega)
  rw [rep_ig, ig, Int.toNat_natCast, List.getElem?_eq_getElem hi, Option.getD_some] at this
  rw [this]
  have hc : o.count (i : Int) ≤ o.length := List.count_le_length
  omega
theorem loads_spec {w : Int} {o : List Int} (ho : o.length ≤ 1000000) {a : Option Addr} {n c : Nat} {H : Hp} {K : Value → Hp → Prop} (ha : RL H a n c o)
    (hK : ∀ a1 n1 c1 H', Le H H' → RL H' a1 n1 c1 (ldL (List.replicate (min (max w 0) 64).toNat 0) o) → K (.slice a1 n1 c1) H') : Does Try.prog 34 [.slice a n c, .int .i64 w] H K := by
  have hn := ha.n_eq
  have hmx := ha.le
  obtain ⟨N, hN⟩ : ∃ N, N = (min (max w 0) 64).toNat := ⟨_, rfl⟩
  rw [← hN] at hK
  refine spec_of cx_ok cx_mix rfl Try.func34 Try.call34 Try.ntmps34 Try.results34 rfl rfl ?_
  refine ⟨⟨rfl, by omega, by show (min (max w 0) 64) * 8 ≤ _; omega, by omega⟩, ?_⟩
  refine ⟨Nat × List Int, fun q => ⟨[(5, .own 0), (12, .v (.slice a n c)), (13, .v (.int .i64 n)), (14, .v (.int .i64 q.1))], [(0, .row 3 1 (iRows q.2))], 1⟩,
    fun q H' => H' = H ∧ q.1 ≤ o.length ∧ q.2 = ldL (List.replicate N 0) (o.take q.1), fun q => o.length - q.1, ⟨(0, List.replicate N 0), [(0, 0)], ?_, rfl, Nat.zero_le _, rfl⟩, ?_⟩
  · have e1 : List.replicate (min (max w 0) 64).toNat [Value.int .i64 0] = iRows (List.replicate N 0) := by rw [hN]; exact iRows_rep _
    (repeat' (first | exact trivial | refine ⟨?_, ?_⟩ | exact rfl | assumption))
  rintro ⟨i, L⟩ H1 _ ⟨rfl, hi, hL⟩
  dsimp only at hi hL
  have hall : ∀ z ∈ L, 0 ≤ z ∧ z ≤ 1000000 := by rw [hL]; exact ldL_all (by rw [List.length_take]; omega) N
  have hel := iRows_len L
  have hLl : L.length = N := by rw [hL, ldL_len, List.length_replicate]
  refine ⟨fun h => ?_, fun h => ?_⟩
  · have hlt : i < o.length := by have := dt h; dsimp only at this; omega
    have hst : ldL (List.replicate N 0) (o.take (i + 1)) = ldS L o[i] := by rw [hL, ldL, take_step _ _ (List.getElem?_eq_getElem hlt)]; rfl
    refine int_elem_k ha (List.getElem?_eq_getElem hlt) fun ad q1 hh => ?_
    refine ⟨ad, ⟨by dsimp only; omega, by dsimp only; omega, q1⟩, ?_⟩
    refine ⟨_, hh, ?_⟩
    refine ⟨fun h => ?_, fun h => ?_⟩
    · have g1 : o[i] ≥ 0 := dt h
      refine ⟨fun h => ?_, fun h => ?_⟩
      · have g2 : o[i] < (((iRows L).length : Nat) : Int) := dt h
        have g3 : 0 ≤ o[i] ∧ o[i] < L.length := by omega
        have hgz : inI (ig L o[i]) ∧ ig L o[i] ≤ 1000000 := by
          have hlt2 : o[i].toNat < L.length := by omega
          have := hall L[o[i].toNat] (List.getElem_mem hlt2)
          rw [ig, List.getElem?_eq_getElem hlt2, Option.getD_some]
          exact ⟨⟨by omega, by omega⟩, by omega⟩
        have hgl := hgz.1.1
        refine ⟨⟨by omega, by (try dsimp only); omega⟩, ?_⟩
        refine ⟨_, iRows_at (L := L) g3.1 g3.2, ?_⟩
        refine ⟨⟨by omega, by omega⟩, ?_⟩
        refine ⟨⟨by omega, by (try dsimp only); omega⟩, ?_⟩
        refine ⟨_, iRows_at (L := L) g3.1 g3.2, ?_⟩
        have e1 : (iRows L).set o[i].toNat [.int .i64 (ig L o[i] + 1)] = iRows (ldS L o[i]) := by rw [ldS, if_pos g3]; exact iRows_set _ _ _
        refine ⟨⟨by omega, by omega⟩, (i + 1, ldS L o[i]), [(0, 0)], ?_, ⟨rfl, by dsimp only; omega, hst.symm⟩, by dsimp only; omega⟩
        (repeat' (first | exact trivial | refine ⟨?_, ?_⟩ | exact rfl | assumption))
      · have g2 : ¬ o[i] < (((iRows L).length : Nat) : Int) := df h
        have e1 : iRows L = iRows (ldS L o[i]) := by rw [ldS, if_neg (by omega)]
        refine ⟨⟨by omega, by omega⟩, (i + 1, ldS L o[i]), [(0, 0)], ?_, ⟨rfl, by dsimp only; omega, hst.symm⟩, by dsimp only; omega⟩
        (repeat' (first | exact trivial | refine ⟨?_, ?_⟩ | exact rfl | assumption))
    · have g1 : ¬ o[i] ≥ 0 := df h
      have e1 : iRows L = iRows (ldS L o[i]) := by rw [ldS, if_neg (by omega)]
      refine ⟨⟨by omega, by omega⟩, (i + 1, ldS L o[i]), [(0, 0)], ?_, ⟨rfl, by dsimp only; omega, hst.symm⟩, by dsimp only; omega⟩
      (repeat' (first | exact trivial | refine ⟨?_, ?_⟩ | exact rfl | assumption))
  · have hil : i = o.length := by have := df h; dsimp only at this; omega
    rw [hil, List.take_length] at hL
    intro y H4 hle4 hy
    have hin : ∀ z ∈ L, inI z := fun z hz => by
      have := hall z hz
      exact ⟨by omega, by omega⟩
    obtain ⟨a1, n1, c1, rfl, hr⟩ := rI_all hy hin
    rw [hL] at hr
    exact hK _ _ _ _ hle4 hr
theorem ShareLoads_spec {o : List Int} {w : Int} {a : Option Addr} {n c : Nat} {H : Hp} {K : Value → Hp → Prop} (ha : RL H a n c o) (hK : ∀ H', Le H H' → K (.bool true) H') : Does Try.prog 6 [.slice a n c, .int .i64 w] H K := by
  have hn := ha.n_eq
  have hmx := ha.le
  refine spec_of cx_ok cx_mix rfl Try.func6 Try.call6 Try.ntmps6 Try.results6 rfl rfl ?_
  refine awake15_spec fun _ _ => ?_
  refine ⟨(fun h => by cases h), fun _ => ?_⟩
  refine ⟨fun h => hK _ (Le.refl H), fun h => ?_⟩
  have ho : o.length ≤ 100 := by have := df h; omega
  refine loads_spec (by omega) ha fun a1 n1 c1 H1 hle1 hr1 => ?_
  have hn1 := hr1.n_eq
  obtain ⟨L, hL⟩ : ∃ L, L = ldL (List.replicate (min (max w 0) 64).toNat 0) o := ⟨_, rfl⟩
  have hLl : L.length = (min (max w 0) 64).toNat := by rw [hL, ldL_len, List.length_replicate]
  rw [← hL] at hr1 hn1
  have ha1 := ha.up hle1
  refine ⟨fun h => ?_, fun h => ?_⟩
  · have g1 : ¬ (n1 : Int) = min (max w 0) 64 := nt h
    omega
  · refine ⟨Nat, fun i => ⟨[(0, .v (.slice a n c)), (24, .v (.slice a1 n1 c1)), (25, .v (.int .i64 n1)), (26, .v (.int .i64 i))], [], 0⟩,
      fun i H' => H' = H1 ∧ i ≤ L.length, fun i => L.length - i, ⟨0, [], ?_, rfl, Nat.zero_le _⟩, ?_⟩
    · (repeat' (first | exact trivial | refine ⟨?_, ?_⟩ | exact rfl | assumption))
    rintro i H2 _ ⟨rfl, hi⟩
    refine ⟨fun h => ?_, fun h => ?_⟩
    · have hlt : i < L.length := by have := dt h; omega
      have hLi : L[i]? = some L[i] := List.getElem?_eq_getElem hlt
      have hval : L[i] = (o.count (i : Int) : Int) := by
        have h1 := ldL_get o (List.replicate (min (max w 0) 64).toNat 0) (x := (i : Int)) (by omega) (by rw [List.length_replicate]; omega)
        rw [rep_ig, ← hL, ig, Int.toNat_natCast, hLi, Option.getD_some] at h1
        omega
      have hc : o.count (i : Int) ≤ o.length := List.count_le_length
      refine int_elem_k hr1 hLi fun ad q1 hh => ?_
      refine ⟨ad, ⟨by omega, by omega, q1⟩, ?_⟩
      refine ⟨_, hh, ?_⟩
      refine ⟨Nat, fun j => ⟨[(0, .v (.slice a n c)), (24, .v (.slice a1 n1 c1)), (25, .v (.int .i64 n1)), (26, .v (.int .i64 i)), (6, .v (.int .i64 i)), (7, .v (.int .i64 (L[i] - ((o.take j).count (i : Int) : Int)))), (31, .v (.slice a n c)), (32, .v (.int .i64 n)), (33, .v (.int .i64 j))], [], 0⟩,
        fun j H' => H' = H2 ∧ j ≤ o.length, fun j => o.length - j, ⟨0, [], ?_, rfl, Nat.zero_le _⟩, ?_⟩
      · have e7 : SV.v (.int .i64 L[i]) = SV.v (.int .i64 (L[i] - ((o.take 0).count (i : Int) : Int))) := by
          rw [show L[i] - ((o.take 0).count (i : Int) : Int) = L[i] from by rw [List.take_zero, List.count_nil]; omega]
        (repeat' (first | exact trivial | refine ⟨?_, ?_⟩ | exact rfl | assumption))
      rintro j H3 _ ⟨rfl, hj⟩
      have hcj : (o.take j).count (i : Int) ≤ (o.take j).length := List.count_le_length
      rw [List.length_take] at hcj
      refine ⟨fun h => ?_, fun h => ?_⟩
      · have hltj : j < o.length := by have := dt h; omega
        have hct : (o.take (j + 1)).count (i : Int) = (o.take j).count (i : Int) + if o[j] = (i : Int) then 1 else 0 := by
          rw [List.take_add_one, List.getElem?_eq_getElem hltj, Option.toList_some, List.count_append, List.count_singleton]
          by_cases e : o[j] = (i : Int) <;> simp [e]
        refine int_elem_k ha1 (List.getElem?_eq_getElem hltj) fun ad2 q2 hh2 => ?_
        refine ⟨ad2, ⟨by omega, by omega, q2⟩, ?_⟩
        refine ⟨_, hh2, ?_⟩
        refine ⟨fun h => ?_, fun h => ?_⟩
        · have g1 : o[j] = (i : Int) := dt h
          rw [if_pos g1] at hct
          have e7 : SV.v (.int .i64 (L[i] - ((o.take j).count (i : Int) : Int) - 1)) = SV.v (.int .i64 (L[i] - ((o.take (j + 1)).count (i : Int) : Int))) := by
            rw [hct, show L[i] - ((o.take j).count (i : Int) : Int) - 1 = L[i] - (((o.take j).count (i : Int) + 1 : Nat) : Int) by omega]
          refine ⟨⟨by omega, by omega⟩, ?_⟩
          refine ⟨⟨by omega, by omega⟩, j + 1, [], ?_, ⟨rfl, by omega⟩, by dsimp only; omega⟩
          (repeat' (first | exact trivial | refine ⟨?_, ?_⟩ | exact rfl | assumption))
        · have g1 : ¬ o[j] = (i : Int) := df h
          rw [if_neg g1] at hct
          have hct : (o.take (j + 1)).count (i : Int) = (o.take j).count (i : Int) := hct
          have e7 : SV.v (.int .i64 (L[i] - ((o.take j).count (i : Int) : Int))) = SV.v (.int .i64 (L[i] - ((o.take (j + 1)).count (i : Int) : Int))) := by rw [hct]
          refine ⟨⟨by omega, by omega⟩, j + 1, [], ?_, ⟨rfl, by omega⟩, by dsimp only; omega⟩
          (repeat' (first | exact trivial | refine ⟨?_, ?_⟩ | exact rfl | assumption))
      · have hjl : j = o.length := by have := df h; omega
        refine ⟨fun h => ?_, fun h => ?_⟩
        · have g1 : ¬ (L[i] - ((o.take j).count (i : Int) : Int)) = 0 := nt h
          rw [hjl, List.take_length, hval] at g1
          omega
        · refine ⟨⟨by omega, by omega⟩, i + 1, [], ?_, ⟨rfl, by omega⟩, by dsimp only; omega⟩
          (repeat' (first | exact trivial | refine ⟨?_, ?_⟩ | exact rfl | assumption))
    · exact hK _ hle1
end Go.Proofs
end
section
namespace Go.Proofs
open Go.Sy
set_option maxRecDepth 20000
/-! order.All's comparison -/
theorem ranks_in {ranks : List Int} (hr : ∀ z ∈ ranks, 0 ≤ z ∧ z ≤ 1000000) {x : Int} (hx : 0 ≤ x ∧ x < ranks.length) : 0 ≤ ig ranks x ∧ ig ranks x ≤ 1000000 := by
  have h : x.toNat < ranks.length := by omega
  rw [ig, List.getElem?_eq_getElem h]
  exact hr _ (List.getElem_mem h)
theorem cmpR_spec {ranks : List Int} {x y : Int} (hx : 0 ≤ x ∧ x < ranks.length) (hy : 0 ≤ y ∧ y < ranks.length) (hr : ∀ z ∈ ranks, 0 ≤ z ∧ z ≤ 1000000) {a : Option Addr} {n c : Nat} {H : Hp} {K : SV → St → Hp → Prop} (ha : RL H a n c ranks)
    (hK : K (.v (.int .i64 (ig ranks x - ig ranks y))) ⟨[], [(0, .cells 27 [.v (.slice a n c)])], 1⟩ H) :
    DoesG Try.prog 88 [.v (.int .i64 x), .v (.int .i64 y), .ptr 0 0] [(0, .cells 27 [.v (.slice a n c)])] 1 H K := by
  have hn := ha.n_eq
  have hmx := ha.le
  have g1 := ranks_in hr hx
  have g2 := ranks_in hr hy
  refine spec_ofG cx_ok cx_mix Try.func88 Try.call88 Try.ntmps88 Try.results88 rfl rfl ?_
  refine ⟨some ([], [0, 1, 2, 3, 4, 5, 6, 7, 8, 9]), by kernel_rfl, ?_⟩
  refine int_at_k ha hx.1 hx.2 fun ad q1 hh1 => ?_
  refine ⟨ad, ⟨by omega, by omega, q1⟩, ?_⟩
  refine ⟨_, hh1, ?_⟩
  refine int_at_k ha hy.1 hy.2 fun ad2 q2 hh2 => ?_
  refine ⟨ad2, ⟨by omega, by omega, q2⟩, ?_⟩
  refine ⟨_, hh2, ?_⟩
  refine ⟨⟨by omega, by omega⟩, ?_⟩
  exact ⟨.v (.int .i64 (ig ranks x - ig ranks y)), [(0, .cells 27 [.v (.slice a n c)])], 1, [(0, 0)], by (repeat' (first | exact trivial | refine ⟨?_, ?_⟩ | exact rfl | assumption)), hK⟩
end Go.Proofs
end
section
namespace Go.Proofs
open Go.Sy
set_option maxRecDepth 20000
set_option maxHeartbeats 4000000
/-! The document's order -/
theorem list_get_k {P : Prop} {H H' : Hp} {a : Option Addr} {n c : Nat} {xs : List Int} (h : RL H a n c xs) (hle : Le H H') {i : Nat} {x : Int} (hi : xs[i]? = some x) (k : ∀ ad, a = some ad → ElemH H' ad (i : Int) 1 [.int .i64 x] → P) : P := int_elem_k (h.up hle) hi k
noncomputable def cxV : Cx := { P := Try.prog, tt := tt, n := 0, wrap := false, base := 0, gf := [66, 67, 68, 72, 74, 75, 79, 81, 82, 83, 86, 87, 88, 89, 90, 92, 93, 94, 98, 99, 100, 101, 104, 105, 106, 120, 129], eqs := [63], xf := [] }
theorem cxV_ok : TOK cxV := ⟨cx_ok.tt, cx_ok.eqs⟩
/-- Nodes, each once. -/
structure GoodS (m : Int) (S : List Int) : Prop where
  nd : S.Nodup
  nodes : ∀ x ∈ S, nodeI m x = true
theorem GoodS.len {m : Int} {S : List Int} (h : GoodS m S) : S.length ≤ m.toNat := by
  exact (nodes_len (m := m) h.nd h.nodes)
theorem GoodS.in {m : Int} (hm : m ≤ 1000) {S : List Int} (h : GoodS m S) : ∀ x ∈ S, inI x := fun x hx => by
  have := dt (h.nodes x hx)
  exact ⟨by omega, by omega⟩
theorem GoodS.app {m : Int} (h0 : 0 ≤ m) {l : List Edg} {S : List Int} (h : GoodS m S) {v : Int} (hv : nodeI m v = true) (k : Nat) : GoodS m (S ++ vis (gnx m l) k v S) := by
  obtain ⟨h1, h2⟩ := vis_ok (N := m.toNat) (nx := gnx m l) (by rw [toNat_nat m h0]; exact gnx_node) k v S (by rw [toNat_nat m h0]; exact hv)
  refine ⟨List.nodup_append.2 ⟨h.nd, h1, fun x hx y hy e => (h2 y hy).1 (e ▸ hx)⟩, fun x hx => ?_⟩
  rcases List.mem_append.1 hx with hx | hx
  · exact h.nodes x hx
  · have := (h2 x hx).2
    rw [toNat_nat m h0] at this
    exact this
theorem GoodS.add {m : Int} {S : List Int} (h : GoodS m S) {v : Int} (hv : nodeI m v = true) (hn : v ∉ S) : GoodS m (S ++ [v]) := by
  refine ⟨List.nodup_append.2 ⟨h.nd, by simp, fun x hx y hy e => hn ?_⟩, fun x hx => ?_⟩
  · rw [List.mem_singleton] at hy
    rw [← hy, ← e]
    exact hx
  · rcases List.mem_append.1 hx with hx | hx
    · exact h.nodes x hx
    · rw [List.mem_singleton] at hx
      rw [hx]; exact hv
theorem rvisit_spec {m : Int} (h0 : 0 ≤ m) (hm : m ≤ 1000) {l : List Edg} {a : Option Addr} {n c : Nat} : ∀ (k : Nat) {S : List Int} {v deep : Int} {H : Hp} {K : SV → St → Hp → Prop} (_ : RL H a n c l) (_ : nodeI m v = true) (_ : GoodS m S) (_ : deep + k = m + 1) (_ : 0 ≤ deep)
    (_ : ∀ H', Le H H' → K (.own 1) ⟨[], [(0, .row 3 1 (iRows S)), (1, .row 3 1 (iRows (vis (gnx m l) k v S)))], 2⟩ H'),
    DoesG Try.prog 89 [.v (.int .i64 m), .v (.slice a n c), .v (.int .i64 v), .own 0, .v (.int .i64 deep)] [(0, .row 3 1 (iRows S))] 1 H K := by
  intro k
  induction k with
  | zero =>
    intro S v deep H K ha hv hS hd hd0 hK
    refine spec_ofG cxV_ok cx_mix Try.func89 Try.call89 Try.ntmps89 Try.results89 rfl rfl ?_
    intro x1 H1 hle1 hx1
    refine in_row hx1 (hS.in hm) ?_
    refine ⟨fun h => ?_, fun h => ?_⟩
    · refine ⟨fun h => ?_, fun h => ?_⟩
      · exact ⟨.own 1, [(0, .row 3 1 (iRows S)), (1, .row 3 1 (iRows []))], 2, [(0, 0)], by (repeat' (first | exact trivial | refine ⟨?_, ?_⟩ | exact rfl | assumption)), hK _ (Le.refl _)⟩
      · exact absurd (df h) (by omega)
    · exact ⟨.own 1, [(0, .row 3 1 (iRows S)), (1, .row 3 1 (iRows []))], 2, [(0, 0)], by (repeat' (first | exact trivial | refine ⟨?_, ?_⟩ | exact rfl | assumption)), hK _ (Le.refl _)⟩
  | succ k ih =>
    intro S v deep H K ha hv hS hd hd0 hK
    refine spec_ofG cxV_ok cx_mix Try.func89 Try.call89 Try.ntmps89 Try.results89 rfl rfl ?_
    intro x1 H1 hle1 hx1
    refine in_row hx1 (hS.in hm) ?_
    refine ⟨fun h => ?_, fun h => ?_⟩
    · have hvS : v ∉ S := df (by assumption)
      refine ⟨fun h => ?_, fun h => ?_⟩
      · exact absurd (dt h) (by omega)
      · have hSl := hS.len
        have eS : (iRows S).length = S.length := List.length_map _
        refine ⟨⟨by show (0 + (iRows S).length) * 8 ≤ 140737488355328; omega, by show 0 + (iRows S).length ≤ 9223372036854775807; omega⟩, ?_⟩
        refine ⟨⟨by show ((iRows S).length + 1) * 8 ≤ 140737488355328; omega, by show (iRows S).length + 1 ≤ 9223372036854775807; omega⟩, ?_⟩
        refine rnext_spec hm ha fun a1 n1 c1 H2 hle2 hr1 => ?_
        have hn1 := hr1.n_eq
        have hmx := hr1.le
        have hSv := hS.add hv hvS
        obtain ⟨L, hL⟩ : ∃ L, L = gnx m l v := ⟨_, rfl⟩
        have hr1 : RL H2 a1 n1 c1 L := by rw [hL]; exact hr1
        have hLn : ∀ b ∈ L, nodeI m b = true := fun b hb => gnx_node v b (hL ▸ hb)
        have hn1 : n1 = L.length := hr1.n_eq
        have hres : vis (gnx m l) (k + 1) v S = (L.foldl (visS (vis (gnx m l) k)) ([], S ++ [v])).1 ++ [v] := by rw [vis, if_neg hvS, ← hL]
        have hle02 : Le H H2 := hle2
        refine ⟨Nat × List Int, fun q => ⟨[(0, .v (.int .i64 m)), (1, .v (.slice a n c)), (2, .v (.int .i64 v)), (4, .v (.int .i64 deep)), (11, .own 1), (12, .own 2), (33, .v (.slice a1 n1 c1)), (34, .v (.int .i64 n1)), (35, .v (.int .i64 q.1))],
            [(0, .row 3 1 (iRows S)), (1, .row 3 1 (iRows (S ++ [v] ++ q.2))), (2, .row 3 1 (iRows q.2))], 3⟩,
          fun q H' => Le H2 H' ∧ q.1 ≤ L.length ∧ GoodS m (S ++ [v] ++ q.2) ∧ (L.drop q.1).foldl (visS (vis (gnx m l) k)) (q.2, S ++ [v] ++ q.2) = L.foldl (visS (vis (gnx m l) k)) ([], S ++ [v]), fun q => L.length - q.1, ⟨(0, []), [(0, 0), (1, 4)], ?_, Le.refl _, Nat.zero_le _, by rw [List.append_nil]; exact hSv, by rw [List.append_nil]; rfl⟩, ?_⟩
        · have e1 : iRows S ++ [[Value.int .i64 v]] = iRows (S ++ [v] ++ []) := by simp
          (repeat' (first | exact trivial | refine ⟨?_, ?_⟩ | exact rfl | assumption))
        · rintro ⟨i, O⟩ H3 hle3 ⟨hle4, hi, hG, hF⟩
          dsimp only at hi hG hF
          refine ⟨fun h => ?_, fun h => ?_⟩
          · have hlt : i < L.length := by have := dt h; omega
            refine list_get_k hr1 hle4 (List.getElem?_eq_getElem hlt) fun ad q1 hh => ?_
            refine ⟨ad, ⟨by omega, by omega, q1⟩, ?_⟩
            refine ⟨_, hh, ?_⟩
            have hb := hLn _ (List.getElem_mem hlt)
            have hGl := hG.len
            have hF := hF
            rw [List.drop_eq_getElem_cons hlt, List.foldl_cons] at hF
            obtain ⟨b, hbe⟩ : ∃ b, b = L[i] := ⟨_, rfl⟩
            rw [← hbe] at hb hF ⊢
            refine ⟨⟨by omega, by omega⟩, ?_⟩
            refine ⟨[1], rfl, ih (ha.up (hle2.trans hle3)) hb hG (by omega) (by omega) fun H4 hle5 => ?_⟩
            have hG2 := hG.app h0 (l := l) hb k
            obtain ⟨V, hV⟩ : ∃ V, V = vis (gnx m l) k b (S ++ [v] ++ O) := ⟨_, rfl⟩
            dsimp only
            rw [← hV] at hG2 ⊢
            have hGl2 := hG2.len
            rw [List.length_append] at hGl2
            have eV : (iRows V).length = V.length := List.length_map _
            have eO : (iRows O).length = O.length := List.length_map _
            have eSO : (iRows (S ++ [v] ++ O)).length = (S ++ [v] ++ O).length := List.length_map _
            have lO : O.length ≤ (S ++ [v] ++ O).length := by rw [List.length_append]; omega
            refine ⟨⟨by show ((iRows O).length + (iRows V).length) * 8 ≤ 140737488355328; omega, by show (iRows O).length + (iRows V).length ≤ 9223372036854775807; omega⟩, ?_⟩
            refine ⟨⟨by show ((iRows (S ++ [v] ++ O)).length + (iRows V).length) * 8 ≤ 140737488355328; omega, by show (iRows (S ++ [v] ++ O)).length + (iRows V).length ≤ 9223372036854775807; omega⟩, ?_⟩
            have e1 : iRows O ++ iRows V = iRows (O ++ V) := by simp
            have e2 : iRows (S ++ [v] ++ O) ++ iRows V = iRows (S ++ [v] ++ (O ++ V)) := by simp
            have hF2 : (L.drop (i + 1)).foldl (visS (vis (gnx m l) k)) (O ++ V, S ++ [v] ++ (O ++ V)) = L.foldl (visS (vis (gnx m l) k)) ([], S ++ [v]) := by
              rw [← List.append_assoc (S ++ [v]) O V]
              rw [visS, ← hV] at hF
              exact hF
            have hG3 : GoodS m (S ++ [v] ++ (O ++ V)) := by rw [← List.append_assoc]; exact hG2
            refine ⟨⟨by omega, by omega⟩, (i + 1, O ++ V), [(0, 0), (1, 5), (2, 4)], ?_, ⟨(hle4.trans hle5), hlt, hG3, hF2⟩, by dsimp only; omega⟩
            (repeat' (first | exact trivial | refine ⟨?_, ?_⟩ | exact rfl | assumption))
          · have hil : i = L.length := by have := df h; omega
            rw [hil, List.drop_length, List.foldl_nil] at hF
            rw [← hF] at hres
            rw [hres] at hK
            have hGl := hG.len
            have eO : (iRows O).length = O.length := List.length_map _
            have lO : O.length ≤ (S ++ [v] ++ O).length := by rw [List.length_append]; omega
            refine ⟨⟨by show ((iRows O).length + 1) * 8 ≤ 140737488355328; omega, by show (iRows O).length + 1 ≤ 9223372036854775807; omega⟩, ?_⟩
            have e1 : iRows O ++ [[Value.int .i64 v]] = iRows (O ++ [v]) := by simp
            exact ⟨.own 1, [(0, .row 3 1 (iRows S)), (1, .row 3 1 (iRows (O ++ [v])))], 2, [(0, 0), (1, 4)], by (repeat' (first | exact trivial | refine ⟨?_, ?_⟩ | exact rfl | assumption)), hK _ (hle2.trans hle3)⟩
    · have hvS : v ∈ S := dt (by assumption)
      have e0 : vis (gnx m l) (k + 1) v S = [] := by rw [vis, if_pos hvS]
      rw [e0] at hK
      exact ⟨.own 1, [(0, .row 3 1 (iRows S)), (1, .row 3 1 (iRows []))], 2, [(0, 0)], by (repeat' (first | exact trivial | refine ⟨?_, ?_⟩ | exact rfl | assumption)), hK _ (Le.refl _)⟩
end Go.Proofs
end
