/- The same meaning, by plain recursion: it unfolds alike everywhere. -/
import Derived.Test.YtjflpceoeofomaaSyDef
namespace Go.Sy

def opsStep (C : Cx) (all : List Oper) (o : Oper) (ih : St → Hp → Prop) (s : St) (H : Hp) : Prop :=
  match o.guard with
  | none => opE C s o.op o.type H fun x s' H' => s'.putK C.n o.dst x fun s'' => ih s'' H'
  | some (j, want) => match dstOf all j with
    | none => False
    | some d => match lk s.env d with
      | some (.kb b) => bif (b == want) then opE C s o.op o.type H fun x s' H' => s'.putK C.n o.dst x fun s'' => ih s'' H'
          else s.putK C.n o.dst unit fun s'' => ih s'' H
      | some (.v (.bool b)) => (b = want → s.putK C.n (some d) (.kb want) fun s1 => opE C s1 o.op o.type H fun x s' H' => s'.putK C.n o.dst x fun s'' => ih s'' H')
          ∧ (b = !want → s.putK C.n (some d) (.kb !want) fun s1 => s1.putK C.n o.dst unit fun s'' => ih s'' H)
      | some (.v (.tuple _)) => s.putK C.n o.dst unit fun s'' => ih s'' H
      | _ => False
noncomputable def runOpsR (C : Cx) (all : List Oper) (Q : St → Hp → Prop) (l : List Oper) : St → Hp → Prop :=
  List.rec (motive := fun _ => St → Hp → Prop) Q (fun o _ ih => opsStep C all o ih) l
theorem runOpsR_eq (C : Cx) (all : List Oper) (Q : St → Hp → Prop) : ∀ l, runOpsR C all Q l = runOps C all Q l
  | [] => rfl
  | o :: r => by
    have e : runOpsR C all Q (o :: r) = opsStep C all o (runOpsR C all Q r) := rfl
    rw [e, runOpsR_eq C all Q r]
    rfl

def dStep (C : Cx) (hs : List Nat) (all : List Oper) (i : Nat) (r : List Nat) (ih : St → Hp → Prop) (s : St) (H : Hp) : Prop :=
  match all[i]? with
  | none => False
  | some o => match o.guard with
    | none => stepD C hs (hidesR hs all i r) s o H fun s' H' => ih s' H'
    | some (j, want) => match dstOf all j with
      | none => False
      | some d => match lk s.env d with
        | some (.kb b) => bif (b == want) then stepD C hs (hidesR hs all i r) s o H fun s' H' => ih s' H'
            else s.putK C.n o.dst unit fun s' => ih s' H
        | some (.v (.bool b)) => (b = want → s.putK C.n (some d) (.kb want) fun s1 => stepD C hs (hidesR hs all i r) s1 o H fun s' H' => ih s' H')
            ∧ (b = !want → s.putK C.n (some d) (.kb !want) fun s1 => s1.putK C.n o.dst unit fun s' => ih s' H)
        | some (.v (.tuple _)) => s.putK C.n o.dst unit fun s' => ih s' H
        | _ => False
noncomputable def runDR (C : Cx) (hs : List Nat) (all : List Oper) (Q : St → Hp → Prop) (l : List Nat) : St → Hp → Prop :=
  List.rec (motive := fun _ => St → Hp → Prop) Q (fun i r ih => dStep C hs all i r ih) l
theorem runDR_eq (C : Cx) (hs : List Nat) (all : List Oper) (Q : St → Hp → Prop) : ∀ l, runDR C hs all Q l = runD C hs all Q l
  | [] => rfl
  | o :: r => by
    have e : runDR C hs all Q (o :: r) = dStep C hs all o r (runDR C hs all Q r) := rfl
    rw [e, runDR_eq C hs all Q r]
    rfl

def wRegion (C : Cx) (id : Nat) (ops : Array Oper) (draw : Bool) : WT := fun Q s H =>
  bif draw then (∃ ord : Option (List Nat × List Nat), match ord with
      | some (hs, l) => drawOK ops l = true ∧ runDR C hs ops.toList (Q .normal) l s H
      | none => RawCode C (.region id ops draw) Q s H) else runOpsR C ops.toList (Q .normal) ops.toList s H
def wSeq (ia ib : WT) : WT := fun Q s H => ia (fun e s H => match e with
      | .normal => ib Q s H
      | .exit i => Q (.exit i) s H
      | .goto l => Q (.goto l) s H
      | .ret => Q .ret s H) s H
def wCond (c : Operand) (ia ib : WT) : WT := fun Q s H => match get s c with
    | some (.kb t) => bif t then ia Q s H else ib Q s H
    | some (.v (.bool t)) => (t = true → ia Q s H) ∧ (t = false → ib Q s H)
    | _ => False
def wBlock (id : Nat) (ic : WT) : WT := fun Q s H => ic (fun e s H => match e with
      | .normal => Q .normal s H
      | .exit i => bif Nat.beq i id then Q .normal s H else Q (.exit i) s H
      | .goto l => Q (.goto l) s H
      | .ret => Q .ret s H) s H
def wLoop (C : Cx) (ic : WT) : WT := fun Q s H => ∃ (α : Type) (T : α → St) (I : α → Hp → Prop) (μ : α → Nat),
      (∃ x m, Sub C m s (T x) ∧ I x H) ∧ ∀ x H', Le H H' → I x H' → ic (fun e s' H'' => match e with
        | .normal => ∃ x' m, Sub C m s' (T x') ∧ I x' H'' ∧ μ x' < μ x
        | .exit i => Q (.exit i) s' H''
        | .goto l => Q (.goto l) s' H''
        | .ret => Q .ret s' H'') (T x) H'
noncomputable def wpR (C : Cx) (sc : Code → WT) (c : Code) : WT :=
  Code.rec (motive := fun _ => WT)
    (fun Q s H => Q .normal s H)
    (fun id ops draw => wRegion C id ops draw)
    (fun _ _ ia ib => wSeq ia ib)
    (fun c _ _ ia ib => wCond c ia ib)
    (fun id _ ic => wBlock id ic)
    (fun _ ic => wLoop C ic)
    (fun f ps a b _ _ => fun Q s H => RawCode C (.rangeFunc f ps a b) Q s H)
    (fun id Q s H => Q (.exit id) s H)
    (fun b _ => sc b)
    (fun _ Q s H => Q .normal s H)
    (fun l Q s H => Q (.goto l) s H)
    (fun Q s H => Q .ret s H)
    (fun _ _ _ _ => False) c

theorem wpR_eq (C : Cx) (sc : Code → WT) : ∀ c : Code, wpR C sc c = wpE C sc c := by
  intro c
  induction c with
  | skip => rfl
  | region id ops draw =>
    show wRegion C id ops draw = _
    unfold wRegion
    simp only [runOpsR_eq, runDR_eq]
    rfl
  | seq a b ia ib =>
    show wSeq (wpR C sc a) (wpR C sc b) = _
    rw [ia, ib]; rfl
  | cond c a b ia ib =>
    show wCond c (wpR C sc a) (wpR C sc b) = _
    rw [ia, ib]; rfl
  | block id c ic =>
    show wBlock id (wpR C sc c) = _
    rw [ic]; rfl
  | loop c ic =>
    show wLoop C (wpR C sc c) = _
    rw [ic]; rfl
  | rangeFunc f ps a b => rfl
  | exit id => rfl
  | scope b => rfl
  | label l => rfl
  | goto l => rfl
  | ret => rfl
  | refuse w => rfl

/-- A function's meaning. -/
noncomputable def fnR (C : Cx) (n : Nat) (c : Code) (res : List ResultVar) (args : List Value) (H : Hp) (K : Value → Hp → Prop) : Prop :=
  wpR { C with n := n } (scE { C with n := n } (wpR { C with n := n } (sc0 { C with n := n }))) c (fun e s' H' => match e with
      | .normal | .ret => match resE { C with n := n } s' res with
        | some l => fz2 (resV l) s' H' fun v _ H'' => K v H''
        | none => False
      | _ => False) { env := argEnv 0 args, bx := [], nx := 0 } H
theorem fnR_eq (C : Cx) (n : Nat) (c : Code) (res : List ResultVar) (args : List Value) (H : Hp) (K : Value → Hp → Prop) : fnR C n c res args H K = fnE C n c res args H K := by
  unfold fnR
  rw [wpR_eq, funext (wpR_eq { C with n := n } (sc0 { C with n := n }))]
  rfl

end Go.Sy
