/- Part 'M16' of the proof (SyIn): lemmas, each with its own conditions in its own statement. -/
import Derived.OrdersIn
import Derived.RangeFuncIn
import Derived.TacticsIn
import Derived.Test.YthmicpkjickejaaGreatRRM12
namespace Go.Sy
open Go.RowKit (Below)
def ndef:Op→Bool
 | .defer _=>false
 | _=>true
def ndefs (l:List Oper):Bool:=l.all fun o=>ndef o.op
noncomputable def ndefC (c:Code):Bool :=
 Code.rec (motive:=fun _=>Bool) true (fun _ ops _=>ndefs ops.toList) (fun _ _ a b=>a&&b) (fun _ _ _ a b=>a&&b) (fun _ _ a=>a) (fun _ _=>false) (fun _ _ _ _ _ _=>false)
  (fun _=>true) (fun _ _=>false) (fun _=>true) (fun _=>false) false (fun _=>true) c
def wRegI (C:Cx) (ops:Array Oper) (draw:Bool):WT:=fun Q s H =>
 bif draw then (∃ord:Option (List Nat×List Nat),match ord with
   | some (hs,l)=>drawOK ops l=true∧runDR C hs ops.toList (Q .normal) l s H
   | none=>False) else runOpsR C ops.toList (Q .normal) ops.toList s H
noncomputable def wpI (C:Cx) (c:Code):WT :=
 Code.rec (motive:=fun _=>WT)
  (fun Q s H=>Q .normal s H)
  (fun _ ops draw=>wRegI C ops draw)
  (fun _ _ ia ib=>wSeq ia ib)
  (fun c _ _ ia ib=>wCond c ia ib)
  (fun id _ ic=>wBlock id ic)
  (fun _ _ _ _ _=>False)
  (fun _ _ _ _ _ _ _ _ _=>False)
  (fun id Q s H=>Q (.exit id) s H)
  (fun _ _ _ _ _=>False)
  (fun _ Q s H=>Q .normal s H)
  (fun _ _ _ _=>False)
  (fun _ _ _=>False)
  (fun _ _ _ _=>False) c
section
variable {C:Cx} {B:Bs} {ρ:Rho} {s:St} {H:Hp} {a:Act} {w:World} {P:Program} {l n:Nat}
theorem oper_round {o:Oper} {K:Act→World→Prop} {Q:Exit→Act→World→Prop} (hd:ndef o.op=true) (h:o.wp P a w K Q):o.wpIn (Fence.wide.inRound l) n P a w K Q:=by
 unfold Oper.wp at h;unfold Oper.wpIn;refine⟨fun _ _=>trivial,?_⟩;rw[Oper.semAt_eq _ _ _ (fun c hc=>by rw[hc]at hd;cases hd)];generalize (execOp a.eval o).run P w=r at h ⊢
 cases r with
 | ok x w' =>
  cases x with
  | value v=>exact h
  | skip=>exact h
  | defer d=>exact h
  | enter f as=>exact⟨(fun h=>by cases h),(callsIn_wide (n:=n - 1)).2 h⟩
  | row r as=>exact⟨(fun h=>by cases h),fun c cs _=>let ⟨v,w',h1,h2⟩:=h c cs;⟨v,w',h1,stepsIn_wide.2 h2⟩⟩
  | _=>exact h.elim
 | halt x w'=>cases x<;>exact h
theorem post_out {H:Hp} {Q:Ex→St→Hp→Prop}:¬LetsOut (Post C B H Q):=by
 rintro⟨a,w,e0,s',H',ρ',h1,_⟩
 cases e0<;>cases h1
theorem list_round {ops:Array Oper} {Q:Exit→Act→World→Prop} (hQ:¬LetsOut Q):∀(r:List Oper) {a:Act} {w:World},ndefs r=true→wpList P ops Q r a w→wpListIn (Fence.wide.inRound l) n P ops Q r a w
 | [],a,w,_,h=>h
 | o::r,a,w,hn,h=>by
  have hn:(ndef o.op&&ndefs r)=true:=hn;rw[Bool.and_eq_true]at hn;unfold wpList at h;unfold wpListIn;split
  ·rename_i hw;rw[if_pos hw]at h
   rcases h with h | ⟨_,h⟩
   ·exact Oper.wpIn_mono (fun a w h=>list_round hQ r hn.2 h) (oper_round hn.1 h)
   ·exact absurd h hQ
  ·rename_i hw;rw[if_neg hw]at h;exact⟨fun _ _=>trivial,list_round hQ r hn.2 h⟩
theorem any_round {ops:Array Oper} {Q:Exit→Act→World→Prop} (hQ:¬LetsOut Q) (hn:ndefs ops.toList=true):∀(fuel:Nat) (listed:Array Bool) (a:Act) (w:World),wpAny P .any ops Q fuel listed a w→wpAnyIn (Fence.wide.inRound l) n P .any ops Q fuel listed a w
 | 0,listed,a,w,h=>h
 | fuel+1,listed,a,w,h=>by
  refine⟨h.1,fun i hi=>?_⟩;have h:=h.2 i hi;unfold wpOp at h;unfold wpOpIn;split
  ·rename_i ho;rw[ho]at h;exact any_round hQ hn fuel _ a w h
  ·rename_i o ho;rw[ho]at h;simp only at h;split
   ·rename_i hw;rw[if_pos hw]at h
    rcases h with h | ⟨_,h⟩
    ·refine Oper.wpIn_mono (fun a w h=>any_round hQ hn fuel _ a w h) (oper_round ?_ h);unfold ndefs at hn;rw[List.all_eq_true]at hn;exact hn o (by rw[Array.mem_toList_iff];exact Array.mem_of_getElem? ho)
    ·exact absurd h hQ
   ·rename_i hw;rw[if_neg hw]at h;exact⟨fun _ _=>trivial,any_round hQ hn fuel _ _ w h⟩
theorem wpI_ok (ht:TOK C) (hm:C.P.follows .mixedOrders=true):∀(c:Code) {Q:Ex→St→Hp→Prop} {s:St} {H:Hp} {a:Act} {w:World} {ρ:Rho},ndefC c=true→wpI C c Q s H→Rel C B ρ s H a w→c.wpIn (Fence.wide.inRound l) n C.P (Post C B H Q) a w:=by
 intro c
 induction c with
 | skip=>intro Q s H a w ρ _ h hr;exact wpIn_skip ⟨.normal,s,H,ρ,rfl,h,hr,Le.refl H⟩
 | exit id=>intro Q s H a w ρ _ h hr;exact wpIn_exit ⟨.exit id,s,H,ρ,rfl,h,hr,Le.refl H⟩
 | label l=>intro Q s H a w ρ _ h hr;exact wpIn_label ⟨.normal,s,H,ρ,rfl,h,hr,Le.refl H⟩
 | ret=>intro Q s H a w ρ _ h hr;exact h.elim
 | goto l=>intro Q s H a w ρ _ h hr;exact h.elim
 | refuse _=>intro Q s H a w ρ _ h hr;exact h.elim
 | rangeFunc f ps x y=>intro Q s H a w ρ _ h hr;exact h.elim
 | scope b=>intro Q s H a w ρ _ h hr;exact h.elim
 | loop b=>intro Q s H a w ρ _ h hr;exact h.elim
 | region id ops draw =>
  intro Q s H a w ρ hn h hr;have hn:ndefs ops.toList=true:=hn;have h:wRegI C ops draw Q s H:=h;unfold wRegI at h
  have hpost:∀e a w,Post C B H (fun e s H=>match e with | .normal=>Q .normal s H | _=>False) e a w→Post C B H Q e a w:=fun e a w ⟨e0,s',H',ρ',h1,h2,h3,h4⟩=>by
   cases e0 with
   | normal=>exact⟨.normal,s',H',ρ',h1,h2,h3,h4⟩
   | exit _=>exact h2.elim
   | goto _=>exact h2.elim
   | ret=>exact h2.elim
  cases draw with
  | true =>
   simp only[cond_true]at h;obtain⟨ord,h⟩:=h
   cases ord with
   | none=>exact h.elim
   | some hl =>
    obtain⟨hs,r⟩:=hl;obtain⟨h1,h2⟩:=h;rw[runDR_eq]at h2;refine wpIn_mono (wpIn_region_any hm (any_round post_out hn _ _ _ _ (draw_start ht (ordOK_of h1) h2 ⟨hr.env,hr.sz,hr.defers,hr.mem.step rfl rfl ⟨rfl,Nat.le_succ _⟩ (Nat.le_refl _) fun _ _=>rfl⟩))) hpost
  | false =>
   simp only[cond_false]at h;rw[runOpsR_eq]at h;exact wpIn_mono (wpIn_region_list (list_round post_out ops.toList hn (runOps_ok ht ops.toList hr (Le.refl H) h))) hpost
 | seq x y ix iy =>
  intro Q s H a w ρ hn h hr;have hn:(ndefC x&&ndefC y)=true:=hn;rw[Bool.and_eq_true]at hn;refine wpIn_seq (wpIn_mono (ix hn.1 h hr) fun e a w ⟨e0,s',H',ρ',h1,h2,h3,h4⟩=>?_);subst h1
  cases e0 with
  | normal=>exact wpIn_mono (iy hn.2 h2 h3) fun e a w hp=>hp.mono h4 fun _ _ _ h=>h
  | exit i=>exact⟨.exit i,s',H',ρ',rfl,h2,h3,h4⟩
  | goto l=>exact⟨.goto l,s',H',ρ',rfl,h2,h3,h4⟩
  | ret=>exact⟨.ret,s',H',ρ',rfl,h2,h3,h4⟩
 | cond c x y ix iy =>
  intro Q s H a w ρ hn h hr;have hn:(ndefC x&&ndefC y)=true:=hn;rw[Bool.and_eq_true]at hn;have h:wCond c (wpI C x) (wpI C y) Q s H:=h;unfold wCond at h;split at h
  ·rename_i t hc;have h1:=(eval_get hr hc).1;rw[ga]at h1
   cases t with
   | true=>exact wpIn_cond_true h1 (ix hn.1 h hr)
   | false=>exact wpIn_cond_false h1 (iy hn.2 h hr)
  ·rename_i t hc;have h1:=(eval_get hr hc).1;rw[ga]at h1;exact wpIn_cond_split h1 (fun e=>ix hn.1 (h.1 e) hr) (fun e=>iy hn.2 (h.2 e) hr)
  ·exact h.elim
 | block id c ic =>
  intro Q s H a w ρ hn h hr;refine wpIn_block (wpIn_mono (ic hn h hr) fun e a w ⟨e0,s',H',ρ',h1,h2,h3,h4⟩=>?_);subst h1
  cases e0 with
  | normal=>exact⟨.normal,s',H',ρ',rfl,h2,h3,h4⟩
  | exit i =>
   show if i=id then _ else _
   cases hi:Nat.beq i id with
   | true =>
    simp only[hi,cond_true]at h2;rw[if_pos (beq_t hi)];exact⟨.normal,s',H',ρ',rfl,h2,h3,h4⟩
   | false =>
    simp only[hi,cond_false]at h2;rw[if_neg (beq_f hi)];exact⟨.exit i,s',H',ρ',rfl,h2,h3,h4⟩
  | goto l=>exact⟨.goto l,s',H',ρ',rfl,h2,h3,h4⟩
  | ret=>exact⟨.ret,s',H',ρ',rfl,h2,h3,h4⟩
end
end Go.Sy
