/- Part 'M36' of the proof (Av1, Av2, Rc0, Cw3, Cw4, Av3, Av4, Av5, Cw5, Cw5b, Av6, Cw6, Rc1, Av7, Av8, Av9, Rc2): lemmas, each with its own conditions in its own statement. -/
import Derived.Test.YthmicpkjickejaaGreatRRM12
import Derived.Test.YthmicpkjickejaaGreatRRM29
import Derived.Test.YthmicpkjickejaaGreatRRM30
import Derived.Test.YthmicpkjickejaaGreatRRM31
import Derived.Test.YthmicpkjickejaaGreatRRM33
import Derived.Test.YthmicpkjickejaaGreatRRM35
section
namespace Go.Proofs
open Go.Sy
set_option maxRecDepth 20000
set_option maxHeartbeats 4000000
def namedA (a:Atm):Bool:=!decide (a.1.l=[])
theorem some1A_spec {a:Atm} {H:Hp} {K:Value→Hp→Prop} (hK:K (.bool (namedA a)) H):Does Tryz.prog 66 [atmA a] H K:=by
 refine spec_of cx_ok cx_mix rfl Tryz.func66 Tryz.call66 Tryz.ntmps66 Tryz.results66 rfl rfl ?_;exact hK
theorem indexA_spec {l:List Atm} {a:Option Addr} {n c:Nat} {H:Hp} {K:SV→St→Hp→Prop} (ha:RL H a n c l) (hK:K (.v (.int .i64 (idxG namedA l 0))) ⟨[],[],0⟩ H):DoesG Tryz.prog 119 [.v (.slice a n c),.fn 66 []] [] 0 H K:=by
 have hn1:=ha.n_eq;have hmx:=ha.le;refine spec_ofG cx_ok cx_mix Tryz.func119 Tryz.call119 Tryz.ntmps119 Tryz.results119 rfl rfl ?_
 refine⟨Nat,fun j=>⟨[(0,.v (.slice a n c)),(1,.fn 66 []),(7,.v (.int .i64 n)),(8,.v (.int .i64 j))],[],0⟩,
  fun j H'=>H'=H∧j≤l.length∧idxG namedA l 0=idxG namedA (l.drop j) j,fun j=>l.length - j,⟨0,[],?_,rfl,by omega,rfl⟩,?_⟩
 ·(repeat' (first|exact trivial|refine⟨?_,?_⟩|exact rfl|assumption))
 rintro j H1 _ ⟨rfl,hi,hx⟩;refine⟨fun h=>?_,fun h=>?_⟩
 ·have hlt:j<l.length:=by have:=dt h;omega
  rw[idxG_step hlt]at hx
  refine name_k l[j] fun x hxe=>?_
  have hxx:l[j]?=some x:=by rw[hxe];exact List.getElem?_eq_getElem hlt
  rw[←hxe]at hx
  refine atom_k ha hxx fun ad q1 hh hr=>?_
  refine⟨ad,⟨by omega,by omega,q1⟩,?_⟩;refine⟨_,hh,?_⟩;refine some1A_spec (a:=x) ?_;refine⟨fun h=>?_,fun h=>?_⟩
  ·rw[if_pos h]at hx;rw[hx]at hK;exact⟨.v (.int .i64 (j:Int)),[],0,[],by (repeat' (first|exact trivial|refine⟨?_,?_⟩|exact rfl|assumption)),hK⟩
  ·rw[if_neg (by rw[h];decide)]at hx;refine⟨⟨by omega,by omega⟩,j+1,[],?_,⟨rfl,by omega,hx⟩,by dsimp only;omega⟩
   (repeat' (first|exact trivial|refine⟨?_,?_⟩|exact rfl|assumption))
 ·have hil:j=l.length:=by have:=df h;omega
  rw[hil,List.drop_length,idxG]at hx;rw[hx]at hK;exact⟨.v (.int .i64 (-1)),[],0,[],by (repeat' (first|exact trivial|refine⟨?_,?_⟩|exact rfl|assumption)),hK⟩
theorem contA_spec {l:List Atm} {a:Option Addr} {n c:Nat} {H:Hp} {K:SV→St→Hp→Prop} (ha:RL H a n c l) (hK:K (.v (.bool (l.any namedA))) ⟨[],[],0⟩ H):DoesG Tryz.prog 64 [.v (.slice a n c),.fn 66 []] [] 0 H K:=by
 rw[←idxG_any l 0 (Int.le_refl 0)]at hK;refine spec_ofG cx_ok cx_mix Tryz.func64 Tryz.call64 Tryz.ntmps64 Tryz.results64 rfl rfl ?_;refine⟨[],rfl,indexA_spec ha ?_⟩;exact⟨.v (.bool (decide (0≤idxG namedA l 0))),[],0,[],by (repeat' (first|exact trivial|refine⟨?_,?_⟩|exact rfl|assumption)),hK⟩
def isA (v:Bs8) (a:Atm):Bool:=decide (a.1.l=v)
abbrev bN (v:Bs8):List (Nat×Bx):=[(0,.cells 9 [.v (.string (bs v))])]
theorem has1_spec {a:Atm} {v:Bs8} {H:Hp} {K:SV→St→Hp→Prop} (hK:K (.v (.bool (isA v a))) ⟨[],bN v,1⟩ H):DoesG Tryz.prog 158 [.agg (vL (atmV a)),.ptr 0 0] (bN v) 1 H K:=by
 refine spec_ofG cx_ok cx_mix Tryz.func158 Tryz.call158 Tryz.ntmps158 Tryz.results158 rfl rfl ?_;exact⟨.v (.bool (isA v a)),bN v,1,[(0,0)],by (repeat' (first|exact trivial|refine⟨?_,?_⟩|exact rfl|assumption)),hK⟩
theorem indexH_spec {l:List Atm} {v:Bs8} {a:Option Addr} {n c:Nat} {H:Hp} {K:SV→St→Hp→Prop} (ha:RL H a n c l) (hK:K (.v (.int .i64 (idxG (isA v) l 0))) ⟨[],bN v,1⟩ H):DoesG Tryz.prog 119 [.v (.slice a n c),.fn 158 [.ptr 0 0]] (bN v) 1 H K:=by
 have hn1:=ha.n_eq;have hmx:=ha.le;refine spec_ofG cx_ok cx_mix Tryz.func119 Tryz.call119 Tryz.ntmps119 Tryz.results119 rfl rfl ?_
 refine⟨Nat,fun j=>⟨[(0,.v (.slice a n c)),(1,.fn 158 [.ptr 0 0]),(7,.v (.int .i64 n)),(8,.v (.int .i64 j))],bN v,1⟩,
  fun j H'=>H'=H∧j≤l.length∧idxG (isA v) l 0=idxG (isA v) (l.drop j) j,fun j=>l.length - j,⟨0,[(0,0)],?_,rfl,by omega,rfl⟩,?_⟩
 ·(repeat' (first|exact trivial|refine⟨?_,?_⟩|exact rfl|assumption))
 rintro j H1 _ ⟨rfl,hi,hx⟩;refine⟨fun h=>?_,fun h=>?_⟩
 ·have hlt:j<l.length:=by have:=dt h;omega
  rw[idxG_step hlt]at hx
  refine name_k l[j] fun x hxe=>?_
  have hxx:l[j]?=some x:=by rw[hxe];exact List.getElem?_eq_getElem hlt
  rw[←hxe]at hx
  refine atom_k ha hxx fun ad q1 hh hr=>?_
  refine⟨ad,⟨by omega,by omega,q1⟩,?_⟩;refine⟨_,hh,?_⟩;refine⟨[0],rfl,has1_spec (a:=x) ?_⟩;refine⟨fun h=>?_,fun h=>?_⟩
  ·rw[if_pos h]at hx;rw[hx]at hK;exact⟨.v (.int .i64 (j:Int)),bN v,1,[(0,0)],by (repeat' (first|exact trivial|refine⟨?_,?_⟩|exact rfl|assumption)),hK⟩
  ·rw[if_neg (by rw[h];decide)]at hx;refine⟨⟨by omega,by omega⟩,j+1,[(0,0)],?_,⟨rfl,by omega,hx⟩,by dsimp only;omega⟩
   (repeat' (first|exact trivial|refine⟨?_,?_⟩|exact rfl|assumption))
 ·have hil:j=l.length:=by have:=df h;omega
  rw[hil,List.drop_length,idxG]at hx;rw[hx]at hK;exact⟨.v (.int .i64 (-1)),bN v,1,[(0,0)],by (repeat' (first|exact trivial|refine⟨?_,?_⟩|exact rfl|assumption)),hK⟩
theorem contH_spec {l:List Atm} {v:Bs8} {a:Option Addr} {n c:Nat} {H:Hp} {K:SV→St→Hp→Prop} (ha:RL H a n c l) (hK:K (.v (.bool (l.any (isA v)))) ⟨[],bN v,1⟩ H):DoesG Tryz.prog 64 [.v (.slice a n c),.fn 158 [.ptr 0 0]] (bN v) 1 H K:=by
 rw[←idxG_any l 0 (Int.le_refl 0)]at hK;refine spec_ofG cx_ok cx_mix Tryz.func64 Tryz.call64 Tryz.ntmps64 Tryz.results64 rfl rfl ?_;refine⟨[0],rfl,indexH_spec ha ?_⟩;exact⟨.v (.bool (decide (0≤idxG (isA v) l 0))),bN v,1,[(0,0)],by (repeat' (first|exact trivial|refine⟨?_,?_⟩|exact rfl|assumption)),hK⟩
def asksE (x:Expr) (v:Bs8):Bool:=(atomsOf x).any (isA v)
theorem ahas_spec {x:Expr} {v:Bs8} (hx:exprR x) {H:Hp} {K:Value→Hp→Prop} (hK:∀H',Le H H'→K (.bool (!decide (v=[])&&asksE x v)) H'):Does Tryz.prog 110 [exprA x,.string (bs v)] H K:=by
 refine spec_of cx_ok cx_mix rfl Tryz.func110 Tryz.call110 Tryz.ntmps110 Tryz.results110 rfl rfl ?_;refine⟨fun h=>?_,fun h=>?_⟩
 ·have hv:¬v=[]:=nt h
  refine patoms_spec hx fun a n c H1 hle1 hr=>?_
  refine⟨[1],rfl,contH_spec hr ?_⟩;exact kbool (hK _ hle1) (by rw[decide_eq_false hv];rfl)
 ·have hv:v=[]:=nf h;exact kbool (hK _ (Le.refl H)) (by rw[decide_eq_true hv];rfl)
theorem rasks_spec {x:Expr} {v:Bs8} (hx:exprR x) {H:Hp} {K:Value→Hp→Prop} (hK:∀H',Le H H'→K (.bool (asksE x v)) H'):Does Tryz.prog 133 [exprA x,.string (bs v)] H K:=by
 refine spec_of cx_ok cx_mix rfl Tryz.func133 Tryz.call133 Tryz.ntmps133 Tryz.results133 rfl rfl ?_
 refine ratoms_spec hx fun a n c H1 hle1 hr=>?_
 have hn:=hr.n_eq;have hmx:=hr.le
 refine⟨Nat,fun i=>⟨[(1,.v (.string (bs v))),(8,.v (.slice a n c)),(9,.v (.int .i64 n)),(10,.v (.int .i64 i))],[],0⟩,
  fun i H'=>H'=H1∧i≤(atomsOf x).length∧∀y∈(atomsOf x).take i,isA v y=false,fun i=>(atomsOf x).length - i,⟨0,[],?_,rfl,Nat.zero_le _,fun y hy=>by cases hy⟩,?_⟩
 ·(repeat' (first|exact trivial|refine⟨?_,?_⟩|exact rfl|assumption))
 rintro i H2 _ ⟨rfl,hi,hno⟩;refine⟨fun h=>?_,fun h=>?_⟩
 ·have hlt:i<(atomsOf x).length:=by have:=dt h;omega
  refine name_k (atomsOf x)[i] fun y hye=>?_
  have hyy:(atomsOf x)[i]?=some y:=by rw[hye];exact List.getElem?_eq_getElem hlt
  refine atom_k hr hyy fun ad q1 hh hR=>?_
  refine⟨ad,⟨by omega,by omega,q1⟩,?_⟩;refine⟨_,hh,?_⟩;refine⟨fun h=>?_,fun h=>?_⟩
  ·have h1:y.1.l=v:=dt h;exact kbool (hK _ hle1) (List.any_eq_true.2 ⟨y,List.mem_of_getElem? hyy,decide_eq_true h1⟩)
  ·have h1:¬y.1.l=v:=df h;refine⟨⟨by omega,by omega⟩,i+1,[],?_,⟨rfl,hlt,mem_take_succ hyy hno (decide_eq_false h1)⟩,by dsimp only;omega⟩
   (repeat' (first|exact trivial|refine⟨?_,?_⟩|exact rfl|assumption))
 ·have hil:i=(atomsOf x).length:=by have:=df h;omega
  rw[hil,List.take_length]at hno
  have e:asksE x v=false:=List.any_eq_false.2 fun y hy=>by rw[hno y hy];decide
  rw[e]at hK;exact hK _ hle1
end Go.Proofs
end
section
namespace Go.Proofs
open Go.Sy
set_option maxRecDepth 20000
set_option maxHeartbeats 4000000
def takesE (s:Stmt):Bool:=decide (s.1=1)&&(!decide (s.2.2.1=0)&&(atomsOf s.2.2).any namedA)
def addE (out:List Expr) (s:Stmt):List Expr:=if takesE s=true∧s.2.2 ∉ out then out++[s.2.2] else out
def exprsB (out:List Expr) (l:List Stmt):List Expr:=l.foldl addE out
def exprsOf (p:Prog):List Expr:=p.foldl (fun o b=>exprsB o b.2.1) []
theorem addE_len (out:List Expr) (s:Stmt):(addE out s).length≤out.length+1:=by
 unfold addE;split
 ·simp
 ·omega
theorem addE_R {out:List Expr} {s:Stmt} (h:∀y∈out,exprR y) (hs:exprR s.2.2):∀y∈addE out s,exprR y:=by
 unfold addE;split
 ·intro y hy
  rcases List.mem_append.1 hy with hy | hy
  ·exact h y hy
  ·rw[List.mem_singleton]at hy;rw[hy];exact hs
 ·exact h
theorem exprsB_len:∀(l:List Stmt) (out:List Expr),(exprsB out l).length≤out.length+l.length
 | [],_=>Nat.le_refl _
 | s::r,out=>by
  have h1:=addE_len out s;have h2:=exprsB_len r (addE out s);rw[exprsB,List.foldl_cons,List.length_cons];rw[exprsB]at h2;omega
theorem exprsB_R:∀(l:List Stmt) {out:List Expr},(∀y∈out,exprR y)→(∀s∈l,exprR s.2.2)→∀y∈exprsB out l,exprR y
 | [],_,h,_=>h
 | s::r,_,h,hl=>exprsB_R r (addE_R h (hl s List.mem_cons_self)) (fun t ht=>hl t (List.mem_cons_of_mem _ ht))
def exprsK (p:Prog) (i:Nat):List Expr:=(p.take i).foldl (fun o b=>exprsB o b.2.1) []
structure FamE (p:Prog) (G:Nat→List Expr) (F:Nat→Nat→List Expr):Prop where
 g0:G 0=[]
 f0:∀i,F i 0=G i
 fs:∀i k b s,p[i]?=some b→b.2.1[k]?=some s→F i (k+1)=addE (F i k) s
 gs:∀i b,p[i]?=some b→G (i+1)=F i b.2.1.length
 ge:G p.length=exprsOf p
 lenG:∀i,(G i).length≤100000*i
 lenF:∀i k,(F i k).length≤100000*i+k
 R:∀i k,∀y∈F i k,exprR y
theorem famE_k {P:Prop} {p:Prog} (hl:∀b∈p,b.2.1.length≤100000) (hR:∀b∈p,∀s∈b.2.1,stmtR s) (k:∀G F,FamE p G F→P):P:=by
 have hlen:∀i,(exprsK p i).length≤100000*i:=fun i=>by
  induction i with
  | zero=>simp [exprsK]
  | succ i ih =>
   unfold exprsK at ih ⊢;rw[List.take_add_one,List.foldl_append]
   cases hb:p[i]? with
   | none=>simp only[Option.toList_none,List.foldl_nil];omega
   | some b =>
    have h1:=exprsB_len b.2.1 ((p.take i).foldl (fun o b=>exprsB o b.2.1) []);have h2:=hl b (List.mem_of_getElem? hb);simp only[Option.toList_some,List.foldl_cons,List.foldl_nil];omega
 have hRR:∀i,∀y∈exprsK p i,exprR y:=fun i=>by
  induction i with
  | zero=>intro y hy;simp [exprsK]at hy
  | succ i ih =>
   unfold exprsK at ih ⊢;rw[List.take_add_one,List.foldl_append]
   cases hb:p[i]? with
   | none=>exact ih
   | some b =>
    exact exprsB_R b.2.1 ih (fun s hs=>(hR b (List.mem_of_getElem? hb) s hs).2.2)
 refine k (exprsK p) (fun i k=>exprsB (exprsK p i) (((p[i]?.map fun b=>b.2.1).getD []).take k)) ⟨rfl,fun _=>rfl,fun i k b s hb hs=>?_,fun i b hb=>?_,?_,hlen,fun i k=>?_,fun i k=>?_⟩
 ·rw[hb];show exprsB (exprsK p i) (b.2.1.take (k+1))=addE (exprsB (exprsK p i) (b.2.1.take k)) s
  rw[List.take_add_one,hs,exprsB,List.foldl_append];rfl
 ·rw[hb];show exprsK p (i+1)=exprsB (exprsK p i) (b.2.1.take b.2.1.length)
  rw[List.take_length,exprsK,List.take_add_one,hb,List.foldl_append];rfl
 ·rw[exprsK,List.take_length];rfl
 ·have h1:=exprsB_len (((p[i]?.map fun b=>b.2.1).getD []).take k) (exprsK p i);have h2:=hlen i;rw[List.length_take]at h1;omega
 ·refine exprsB_R _ (hRR i) fun s hs=>?_
  have hs:=List.mem_of_mem_take hs
  cases hb:p[i]? with
  | none=>rw[hb]at hs;cases hs
  | some b=>rw[hb]at hs;exact (hR b (List.mem_of_getElem? hb) s hs).2.2
theorem stmts_R {H:Hp} {a:Option Addr} {n c:Nat} {l:List Stmt} (h:RL H a n c l):∀s∈l,stmtR s:=fun s hs=>by
 obtain⟨i,hi⟩:=List.getElem?_of_mem hs
 exact stmt_k h hi fun _ _ _ hr=>hr
theorem prog_R {H:Hp} {a:Option Addr} {n c:Nat} {p:Prog} (h:RL H a n c p):∀b∈p,∀s∈b.2.1,stmtR s:=fun b hb=>by
 obtain⟨i,hi⟩:=List.getElem?_of_mem hb
 exact block_k h hi fun _ _ _ _ _ _ hr _ _=>stmts_R hr
open Classical in
noncomputable def metG (out:List Expr):Lit→Int:=fun kl=>if ∃x∈out,kl=keyE x then 1 else 0
theorem metG_at {out:List Expr} (ho:∀y∈out,exprR y) {x:Expr} (hx:exprR x):metG out (keyE x)=if x∈out then 1 else 0:=by
 unfold metG
 by_cases h:x∈out
 ·rw[if_pos ⟨x,h,rfl⟩,if_pos h]
 ·rw[if_neg (fun⟨y,hy,e⟩=>h (keyE_inj hx (ho y hy) e▸hy)),if_neg h]
theorem metG_nil:(fun _=>0)=metG []:=by
 funext kl;unfold metG;rw[if_neg (fun⟨_,h,_⟩=>by cases h)]
theorem metG_snoc (out:List Expr) (x:Expr):updL (metG out) (keyE x) 1=metG (out++[x]):=by
 funext kl;unfold updL metG
 by_cases h:kl=keyE x
 ·rw[if_pos h,if_pos ⟨x,by simp,h⟩]
 ·rw[if_neg h]
  by_cases h2:∃y∈out,kl=keyE y
  ·obtain⟨y,hy,e⟩:=h2;rw[if_pos ⟨y,hy,e⟩,if_pos ⟨y,List.mem_append_left _ hy,e⟩]
  ·rw[if_neg h2,if_neg];rintro⟨y,hy,e⟩
   rcases List.mem_append.1 hy with hy | hy
   ·exact h2 ⟨y,hy,e⟩
   ·rw[List.mem_singleton]at hy;subst hy;exact h e
noncomputable abbrev metP (out:List Expr):Obj→Prop:=MapI Tryz.prog 55 3 out.length (metG out)
theorem metP_nil:MapI Tryz.prog 55 3 0 (fun _=>0)=metP []:=by rw[metP,metG_nil];rfl
theorem metP_snoc (out:List Expr) (x:Expr):MapI Tryz.prog 55 3 (out.length+1) (updL (metG out) (keyE x) 1)=metP (out++[x]):=by rw[metP,metG_snoc,List.length_append];rfl
theorem expr_mk {H:Hp} {x:Expr} (h:exprR x):Enc.R H (exprV x) x:=⟨[.int .i64 x.1],atmV x.2.1++atmV x.2.2,rfl,⟨rfl,h.1⟩,atmV x.2.1,atmV x.2.2,rfl,atm_mk h.2.1,atm_mk h.2.2⟩
abbrev xRows (l:List Expr):List (List Value):=l.map exprV
theorem rc_xRows {H:Hp}:∀ {l:List Expr},(∀x∈l,exprR x)→RC (α:=Expr) H (xRows l) l:=fun {l} h=>by
 refine⟨List.length_map _,fun i cs x h1 h2=>?_⟩;rw[List.getElem?_map,h2]at h1;cases h1;exact expr_mk (h x (List.mem_of_getElem? h2))
theorem texprs_spec {p:Prog} (hp:p.length≤12) (hl:∀b∈p,b.2.1.length≤100000) {a:Option Addr} {n c:Nat} {H:Hp} {K:Value→Hp→Prop} (ha:RL H a n c p) (hK:∀a1 n1 c1 H',Le H H'→RL H' a1 n1 c1 (exprsOf p)→K (.slice a1 n1 c1) H'):Does Tryz.prog 23 [.agg #[.slice a n c]] H K:=by
 have hn:=ha.n_eq
 refine famE_k hl (prog_R ha) fun G F hF=>?_
 refine fam_k (fun out=>metP out) fun M hM=>?_
 refine spec_of cx_ok cx_mix rfl Tryz.func23 Tryz.call23 Tryz.ntmps23 Tryz.results23 rfl rfl ?_;refine⟨mapOKE,?_⟩
 refine⟨Nat,fun i=>⟨[(3,.own 2),(4,.mp 1),(13,.v (.slice a n c)),(14,.v (.int .i64 n)),(15,.v (.int .i64 i))],[(0,.cells 24 [.v (.slice a n c)]),(1,.obj (M (G i))),(2,.row 55 7 (xRows (G i)))],3⟩,
  fun i H'=>Le H H'∧i≤p.length,fun i=>p.length - i,⟨0,[(0,0),(1,1)],?_,Le.refl H,Nat.zero_le _⟩,?_⟩
 ·have e0:MapI Tryz.prog 55 3 0 (fun _=>0)=M (G 0):=by rw[hF.g0,hM];exact metP_nil
  have e1:xRows (G 0)=[]:=by rw[hF.g0];rfl
  (repeat' (first|exact trivial|refine⟨?_,?_⟩|exact rfl|assumption))
 rintro i H1 _ ⟨hle1,hi⟩;refine⟨fun h=>?_,fun h=>?_⟩
 ·have hlt:i<p.length:=by have:=dt h;omega
  refine name_k p[i] fun b hbe=>?_
  have hbb:p[i]?=some b:=by rw[hbe];exact List.getElem?_eq_getElem hlt
  have hbl:=hl b (List.mem_of_getElem? hbb)
  refine block_k (ha.up hle1) hbb fun ad a5 n5 c5 q1 hh hr5 hs5 ht5=>?_
  have hn5:n5=b.2.1.length:=hr5.n_eq;refine⟨ad,⟨by omega,by omega,q1⟩,?_⟩;refine⟨_,hh,?_⟩
  refine⟨Nat,fun k=>⟨[(3,.own 2),(4,.mp 1),(13,.v (.slice a n c)),(14,.v (.int .i64 n)),(15,.v (.int .i64 i)),(20,.v (.slice a5 n5 c5)),(21,.v (.int .i64 n5)),(22,.v (.int .i64 k))],[(0,.cells 24 [.v (.slice a n c)]),(1,.obj (M (F i k))),(2,.row 55 7 (xRows (F i k)))],3⟩,
   fun k H'=>Le H1 H'∧k≤b.2.1.length,fun k=>b.2.1.length - k,⟨0,[(0,0),(1,1),(2,2)],?_,Le.refl H1,Nat.zero_le _⟩,?_⟩
  ·have e0:=hF.f0 i
   have e1:M (G i)=M (F i 0):=by rw[e0]
   have e2:xRows (G i)=xRows (F i 0):=by rw[e0]
   (repeat' (first|exact trivial|refine⟨?_,?_⟩|exact rfl|assumption))
  rintro k H2 _ ⟨hle2,hk⟩;have hfl:=hF.lenF i k;have hxl:(xRows (F i k)).length=(F i k).length:=List.length_map _;refine⟨fun h=>?_,fun h=>?_⟩
  ·have hkl:k<b.2.1.length:=by have:=dt h;omega
   refine name_k b.2.1[k] fun s hse=>?_
   have hss:b.2.1[k]?=some s:=by rw[hse];exact List.getElem?_eq_getElem hkl
   have hst:=hF.fs i k b s hbb hss
   refine stmt_k (hr5.up hle2) hss fun ad2 q2 hh2 hR=>?_
   refine⟨ad2,⟨by omega,by omega,q2⟩,?_⟩;refine⟨_,hh2,?_⟩
   refine patoms_spec hR.2.2 fun a6 n6 c6 H3 hle3 hr6=>?_
   refine⟨[],rfl,contA_spec hr6 ?_⟩;refine⟨fun h1=>?_,fun h1=>?_⟩
   case refine_2 =>
    have h1:¬s.1=1:=nt h1
    have hno:¬(takesE s=true∧s.2.2 ∉ F i k):=fun h=>by rw[takesE,decide_eq_false h1]at h;cases h.1
    have e0:F i (k+1)=F i k:=by rw[hst,addE,if_neg hno]
    have e1:M (F i k)=M (F i (k+1)):=by rw[e0]
    have e2:xRows (F i k)=xRows (F i (k+1)):=by rw[e0]
    refine⟨⟨by omega,by omega⟩,k+1,[(0,0),(1,1),(2,2)],?_,⟨hle2.trans hle3,hkl⟩,by dsimp only;omega⟩
    (repeat' (first|exact trivial|refine⟨?_,?_⟩|exact rfl|assumption))
   have h1:s.1=1:=nf h1;refine⟨fun h0=>?_,fun h0=>?_⟩
   case refine_2 =>
    have h0:s.2.2.1=0:=dt h0
    have hno:¬(takesE s=true∧s.2.2 ∉ F i k):=fun h=>by rw[takesE,decide_eq_true h1,decide_eq_true h0]at h;cases h.1
    have e0:F i (k+1)=F i k:=by rw[hst,addE,if_neg hno]
    have e1:M (F i k)=M (F i (k+1)):=by rw[e0]
    have e2:xRows (F i k)=xRows (F i (k+1)):=by rw[e0]
    refine⟨⟨by omega,by omega⟩,k+1,[(0,0),(1,1),(2,2)],?_,⟨hle2.trans hle3,hkl⟩,by dsimp only;omega⟩
    (repeat' (first|exact trivial|refine⟨?_,?_⟩|exact rfl|assumption))
   have h0:¬s.2.2.1=0:=df h0;refine⟨fun ha0=>?_,fun ha0=>?_⟩
   case refine_2 =>
    have ha0:(atomsOf s.2.2).any namedA=false:=by simpa using ha0
    have hno:¬(takesE s=true∧s.2.2 ∉ F i k):=fun h=>by rw[takesE,decide_eq_true h1,decide_eq_false h0,ha0]at h;cases h.1
    have e0:F i (k+1)=F i k:=by rw[hst,addE,if_neg hno]
    have e1:M (F i k)=M (F i (k+1)):=by rw[e0]
    have e2:xRows (F i k)=xRows (F i (k+1)):=by rw[e0]
    refine⟨⟨by omega,by omega⟩,k+1,[(0,0),(1,1),(2,2)],?_,⟨hle2.trans hle3,hkl⟩,by dsimp only;omega⟩
    (repeat' (first|exact trivial|refine⟨?_,?_⟩|exact rfl|assumption))
   have ha0:(atomsOf s.2.2).any namedA=true:=by simpa using ha0
   have htk:takesE s=true:=by rw[takesE,decide_eq_true h1,decide_eq_false h0,ha0];rfl
   have hm:=metG_at (hF.R i k) hR.2.2;refine⟨_,_,keyE s.2.2,hM _,keyOfE hR.2.2,?_⟩;refine⟨fun hin=>?_,fun hin=>?_⟩
   case refine_1 =>
    have hin:=dt hin;rw[hm]at hin
    have hin:s.2.2∈F i k:=Decidable.byContradiction fun h=>by rw[if_neg h]at hin;omega
    have hno:¬(takesE s=true∧s.2.2 ∉ F i k):=fun h=>h.2 hin
    have e0:F i (k+1)=F i k:=by rw[hst,addE,if_neg hno]
    have e1:M (F i k)=M (F i (k+1)):=by rw[e0]
    have e2:xRows (F i k)=xRows (F i (k+1)):=by rw[e0]
    refine⟨⟨by omega,by omega⟩,k+1,[(0,0),(1,1),(2,2)],?_,⟨hle2.trans hle3,hkl⟩,by dsimp only;omega⟩
    (repeat' (first|exact trivial|refine⟨?_,?_⟩|exact rfl|assumption))
   have hin:=df hin;rw[hm]at hin
   have hin:s.2.2 ∉ F i k:=fun h=>by rw[if_pos h]at hin;omega
   have e0:F i (k+1)=F i k++[s.2.2]:=by rw[hst,addE,if_pos ⟨htk,hin⟩]
   have e1:MapI Tryz.prog 55 3 ((F i k).length+1) (updL (metG (F i k)) (keyE s.2.2) 1)=M (F i (k+1)):=by rw[e0,hM,metP_snoc]
   have e2:xRows (F i k)++[exprV s.2.2]=xRows (F i (k+1)):=by rw[e0,xRows,xRows,List.map_append];rfl
   refine⟨_,_,keyE s.2.2,hM _,keyOfE hR.2.2,⟨by omega,by decide,by decide⟩,?_⟩;refine⟨⟨by show ((xRows (F i k)).length+1)*72≤140737488355328;omega,by show (xRows (F i k)).length+1≤9223372036854775807;omega⟩,?_⟩;refine⟨⟨by omega,by omega⟩,k+1,[(0,0),(1,1),(2,6)],?_,⟨hle2.trans hle3,hkl⟩,by dsimp only;omega⟩
   (repeat' (first|exact trivial|refine⟨?_,?_⟩|exact rfl|assumption))
  ·have hil:k=b.2.1.length:=by have:=df h;omega
   subst hil;have hg:=hF.gs i b hbb
   have e1:M (F i b.2.1.length)=M (G (i+1)):=by rw[hg]
   have e2:xRows (F i b.2.1.length)=xRows (G (i+1)):=by rw[hg]
   refine⟨⟨by omega,by omega⟩,i+1,[(0,0),(1,1),(2,2)],?_,⟨hle1.trans hle2,hlt⟩,by dsimp only;omega⟩
   (repeat' (first|exact trivial|refine⟨?_,?_⟩|exact rfl|assumption))
 ·have hil:i=p.length:=by have:=df h;omega
  subst hil;rw[hF.ge];intro v H3 hle3 hv3;have hR:=hF.R p.length 0;rw[hF.f0,hF.ge]at hR
  refine of_row_k (α:=Expr) hv3 (rc_xRows hR) fun d1 d2 d3 ev hr=>?_
  subst ev;exact hK _ _ _ _ (hle1.trans hle3.le) hr
end Go.Proofs
end
section
namespace Go.Proofs
open Go.Sy
set_option maxRecDepth 20000
set_option maxHeartbeats 4000000
abbrev Site:=Int×Int×Str
def defS (s:Stmt):Bool:=decide (s.1=1)||decide (s.1=2)
def siteK (i k:Nat) (s:Stmt):List Site:=if defS s=true then [((i:Int),(k:Int),s.2.1)] else []
def siteL (i:Nat):List Stmt→Nat→List Site
 | [],_=>[]
 | s::r,k=>siteK i k s++siteL i r (k+1)
def siteP:Prog→Nat→List Site
 | [],_=>[]
 | b::r,i=>siteL i b.2.1 0++siteP r (i+1)
def site0 (V:List Bs8):List Site:=V.map fun v=>((-1:Int),(0:Int),(⟨v⟩:Str))
def sitesOf (p:Prog):List Site:=site0 (varsOf p)++siteP p 0
theorem siteL_take (i:Nat):∀(l:List Stmt) (k j:Nat) (s:Stmt),l[k]?=some s→siteL i (l.take (k+1)) j=siteL i (l.take k) j++siteK i (j+k) s
 | [],k,j,s,h=>by simp at h
 | x::r,0,j,s,h=>by
  rw[List.getElem?_cons_zero]at h;cases h;simp [siteL]
 | x::r,k+1,j,s,h=>by
  rw[List.getElem?_cons_succ]at h;rw[List.take_succ_cons,List.take_succ_cons,siteL,siteL,siteL_take i r k (j+1) s h,List.append_assoc,show j+1+k=j+(k+1) by omega]
theorem siteP_take:∀(p:Prog) (i j:Nat) (b:Block),p[i]?=some b→siteP (p.take (i+1)) j=siteP (p.take i) j++siteL (j+i) b.2.1 0
 | [],i,j,b,h=>by simp at h
 | x::r,0,j,b,h=>by
  rw[List.getElem?_cons_zero]at h;cases h;simp [siteP]
 | x::r,i+1,j,b,h=>by
  rw[List.getElem?_cons_succ]at h;rw[List.take_succ_cons,List.take_succ_cons,siteP,siteP,siteP_take r i (j+1) b h,List.append_assoc,show j+1+i=j+(i+1) by omega]
theorem siteL_len (i:Nat):∀(l:List Stmt) (k:Nat),(siteL i l k).length≤l.length
 | [],_=>Nat.le_refl _
 | s::r,k=>by
  have h:=siteL_len i r (k+1);rw[siteL,List.length_append,List.length_cons]
  have h2:(siteK i k s).length≤1:=by
   unfold siteK
   split<;>simp
  omega
theorem siteP_len:∀(p:Prog) (i:Nat),(siteP p i).length≤stmtsN p
 | [],_=>Nat.zero_le _
 | b::r,i=>by
  have h:=siteP_len r (i+1);have h2:=siteL_len i b.2.1 0
  have e:stmtsN (b::r)=b.2.1.length+stmtsN r:=by simp [stmtsN]
  rw[siteP,List.length_append,e];omega
def siteR (x:Site):Prop:=inI x.1∧inI x.2.1∧x.2.2.l.length≤9223372036854775807
structure FamT (p:Prog) (Z:Nat→List Site) (G:Nat→List Site) (F:Nat→Nat→List Site):Prop where
 z0:Z 0=[]
 zs:∀i v,(varsOf p)[i]?=some v→Z (i+1)=Z i++[((-1:Int),(0:Int),(⟨v⟩:Str))]
 zl:∀i,(Z i).length≤i
 g0:Z (varsOf p).length=G 0
 f0:∀i,G i=F i 0
 fs:∀i k b s,p[i]?=some b→b.2.1[k]?=some s→F i (k+1)=F i k++siteK i k s
 gs:∀i b,p[i]?=some b→F i b.2.1.length=G (i+1)
 ge:G p.length=sitesOf p
 fl:∀i k,(F i k).length≤(varsOf p).length+stmtsN p+k
theorem stmtsN_tk:∀(p:Prog) (i:Nat),stmtsN (p.take i)≤stmtsN p
 | [],i=>by simp
 | b::r,0=>by simp [stmtsN]
 | b::r,i+1=>by
  have h:=stmtsN_tk r i;simp only[stmtsN,List.take_succ_cons,List.map_cons,List.sum_cons]at h ⊢;omega
theorem famT_k {P:Prop} (p:Prog) (k:∀Z G F,FamT p Z G F→P):P:=by
 refine k (fun i=>site0 ((varsOf p).take i)) (fun i=>site0 (varsOf p)++siteP (p.take i) 0) (fun i k=>site0 (varsOf p)++siteP (p.take i) 0++siteL i (((p[i]?.map fun b=>b.2.1).getD []).take k) 0) ⟨rfl,fun i v hv=>?_,fun i=>?_,?_,fun i=>?_,fun i k b s hb hs=>?_,fun i b hb=>?_,?_,fun i k=>?_⟩
 ·rw[site0,site0,List.take_add_one,hv,Option.toList_some,List.map_append];rfl
 ·rw[site0,List.length_map,List.length_take];omega
 ·rw[List.take_length,List.take_zero,siteP,List.append_nil]
 ·rw[List.take_zero,siteL,List.append_nil]
 ·rw[hb,List.append_assoc];show _=_++(siteL i (b.2.1.take k) 0)++siteK i k s;rw[List.append_assoc];show site0 (varsOf p)++(siteP (p.take i) 0++siteL i (b.2.1.take (k+1)) 0)=_;rw[siteL_take i b.2.1 k 0 s hs,Nat.zero_add];simp only[List.append_assoc]
 ·rw[hb];show site0 (varsOf p)++siteP (p.take i) 0++siteL i (b.2.1.take b.2.1.length) 0=_;rw[List.take_length,siteP_take p i 0 b hb,Nat.zero_add,List.append_assoc]
 ·rw[List.take_length];rfl
 ·have h1:=siteP_len (p.take i) 0;have h2:=siteL_len i (((p[i]?.map fun b=>b.2.1).getD []).take k) 0;have h3:=stmtsN_tk p i;rw[List.length_take]at h2;rw[List.length_append,List.length_append,site0,List.length_map];omega
abbrev siteV (x:Site):List Value:=[.int .i64 x.1,.int .i64 x.2.1,.string (bs x.2.2.l)]
abbrev zRows (l:List Site):List (List Value):=l.map siteV
theorem rc_zRows {H:Hp}:∀ {l:List Site},(∀x∈l,siteR x)→RC (α:=Site) H (zRows l) l:=fun {l} h=>by
 refine⟨List.length_map _,fun i cs x h1 h2=>?_⟩;rw[List.getElem?_map,h2]at h1;cases h1;have hx:=h x (List.mem_of_getElem? h2);exact⟨[.int .i64 x.1],[.int .i64 x.2.1,.string (bs x.2.2.l)],rfl,⟨rfl,hx.1⟩,[.int .i64 x.2.1],[.string (bs x.2.2.l)],rfl,⟨rfl,hx.2.1⟩,rfl,hx.2.2⟩
theorem siteL_R (i:Nat) (hi:i≤1000000):∀(l:List Stmt) (k:Nat),k+l.length≤1000000→(∀s∈l,stmtR s)→∀x∈siteL i l k,siteR x
 | [],_,_,_,x,h=>by cases h
 | s::r,k,hk,hl,x,h=>by
  rw[List.length_cons]at hk;rw[siteL]at h
  rcases List.mem_append.1 h with h | h
  ·unfold siteK at h;split at h
   ·rw[List.mem_singleton]at h;rw[h];have hs:=hl s List.mem_cons_self;exact⟨⟨by show _≤((i:Nat):Int);omega,by show ((i:Nat):Int)≤_;omega⟩,⟨by show _≤((k:Nat):Int);omega,by show ((k:Nat):Int)≤_;omega⟩,hs.2.1⟩
   ·cases h
  ·exact siteL_R i hi r (k+1) (by omega) (fun t ht=>hl t (List.mem_cons_of_mem _ ht)) x h
theorem siteP_R:∀(p:Prog) (i:Nat),i+p.length≤1000000→(∀b∈p,b.2.1.length≤100000)→(∀b∈p,∀s∈b.2.1,stmtR s)→∀x∈siteP p i,siteR x
 | [],_,_,_,_,x,h=>by cases h
 | b::r,i,hi,hl,hR,x,h=>by
  rw[List.length_cons]at hi;rw[siteP]at h
  rcases List.mem_append.1 h with h | h
  ·exact siteL_R i (by omega) b.2.1 0 (by have:=hl b List.mem_cons_self;omega) (hR b List.mem_cons_self) x h
  ·exact siteP_R r (i+1) (by omega) (fun c hc=>hl c (List.mem_cons_of_mem _ hc)) (fun c hc=>hR c (List.mem_cons_of_mem _ hc)) x h
theorem sites_R {p:Prog} (hp:p.length≤12) (hl:∀b∈p,b.2.1.length≤100000) (hR:∀b∈p,∀s∈b.2.1,stmtR s) (hV:∀v∈varsOf p,v.length≤9223372036854775807):∀x∈sitesOf p,siteR x:=fun x h=>by
 rw[sitesOf]at h
 rcases List.mem_append.1 h with h | h
 ·obtain⟨v,hv,rfl⟩:=List.mem_map.1 h;exact⟨(show inI (-1) from ⟨by decide,by decide⟩),(show inI 0 from ⟨by decide,by decide⟩),hV v hv⟩
 ·exact siteP_R p 0 (by omega) hl hR x h
theorem tsitesL_spec {p:Prog} (hp:p.length≤12) (hl:∀b∈p,b.2.1.length≤100000) (hc:stmtsN p≤1000000) (hv:cnt p<400000) (hv64:(varsOf p).length≤1000000) {a:Option Addr} {n c:Nat} {H:Hp} {K:Value→Hp→Prop} (ha:RL H a n c p) (hK:∀a1 n1 c1 H',Le H H'→RL (α:=Site) H' a1 n1 c1 (sitesOf p)→K (.slice a1 n1 c1) H'):Does Tryz.prog 22 [.agg #[.slice a n c]] H K:=by
 have hn:=ha.n_eq;have hPR:=prog_R ha
 refine famT_k p fun Z G F hF=>?_
 refine spec_of cx_ok cx_mix rfl Tryz.func22 Tryz.call22 Tryz.ntmps22 Tryz.results22 rfl rfl ?_
 refine pvars_spec ha hv fun av nv cv H1 hle1 hrv=>?_
 have hnv:=hrv.n_eq;rw[List.length_map]at hnv;have hsm:=ens_small hrv
 refine⟨Nat,fun i=>⟨[(1,.ptr 0 0),(3,.own 1),(11,.v (.slice av nv cv)),(12,.v (.int .i64 nv)),(13,.v (.int .i64 i))],[(0,.cells 24 [.v (.slice a n c)]),(1,.row 69 3 (zRows (Z i)))],2⟩,
  fun i H'=>H'=H1∧i≤(varsOf p).length,fun i=>(varsOf p).length - i,⟨0,[(0,0)],?_,rfl,Nat.zero_le _⟩,?_⟩
 ·have e1:zRows (Z 0)=[]:=by rw[hF.z0];rfl
  (repeat' (first|exact trivial|refine⟨?_,?_⟩|exact rfl|assumption))
 rintro i H2 _ ⟨rfl,hi⟩;have hzl:=hF.zl i;have hzz:(zRows (Z i)).length=(Z i).length:=List.length_map _;refine⟨fun h=>?_,fun h=>?_⟩
 ·have hlt:i<(varsOf p).length:=by have:=dt h;omega
  refine name_k (varsOf p)[i] fun v hve=>?_
  have hvv:(varsOf p)[i]?=some v:=by rw[hve];exact List.getElem?_eq_getElem hlt
  have hzs:=hF.zs i v hvv
  refine str_k hrv hvv fun ad q1 hh _=>?_
  refine⟨ad,⟨by omega,by omega,q1⟩,?_⟩;refine⟨_,hh,?_⟩
  have e1:zRows (Z i)++[[.int .i64 (-1),.int .i64 0,.string (bs v)]]=zRows (Z (i+1)):=by rw[hzs,zRows,zRows,List.map_append];rfl
  refine⟨⟨by show ((zRows (Z i)).length+1)*32≤140737488355328;omega,by show (zRows (Z i)).length+1≤9223372036854775807;omega⟩,?_⟩;refine⟨⟨by omega,by omega⟩,i+1,[(0,0),(1,3)],?_,⟨rfl,hlt⟩,by dsimp only;omega⟩
  (repeat' (first|exact trivial|refine⟨?_,?_⟩|exact rfl|assumption))
 have hil:i=(varsOf p).length:=by have:=df h;omega
 rw[hil,hF.g0]
 refine⟨Nat,fun i=>⟨[(1,.ptr 0 0),(3,.own 1),(24,.v (.slice a n c)),(25,.v (.int .i64 n)),(26,.v (.int .i64 i))],[(0,.cells 24 [.v (.slice a n c)]),(1,.row 69 3 (zRows (G i)))],2⟩,
  fun i H'=>H'=H2∧i≤p.length,fun i=>p.length - i,⟨0,[(0,0),(1,1)],?_,rfl,Nat.zero_le _⟩,?_⟩
 ·(repeat' (first|exact trivial|refine⟨?_,?_⟩|exact rfl|assumption))
 rintro i H3 _ ⟨rfl,hi⟩;refine⟨fun h=>?_,fun h=>?_⟩
 ·have hlt:i<p.length:=by have:=dt h;omega
  refine name_k p[i] fun b hbe=>?_
  have hbb:p[i]?=some b:=by rw[hbe];exact List.getElem?_eq_getElem hlt
  have hbl:=hl b (List.mem_of_getElem? hbb)
  refine block_k (ha.up hle1) hbb fun ad a5 n5 c5 q1 hh hr5 hs5 ht5=>?_
  have hn5:n5=b.2.1.length:=hr5.n_eq;refine⟨ad,⟨by omega,by omega,q1⟩,?_⟩;refine⟨_,hh,?_⟩
  refine⟨Nat,fun k=>⟨[(1,.ptr 0 0),(3,.own 1),(6,.v (.int .i64 i)),(24,.v (.slice a n c)),(25,.v (.int .i64 n)),(26,.v (.int .i64 i)),(32,.v (.slice a5 n5 c5)),(33,.v (.int .i64 n5)),(34,.v (.int .i64 k))],[(0,.cells 24 [.v (.slice a n c)]),(1,.row 69 3 (zRows (F i k)))],2⟩,
   fun k H'=>H'=H3∧k≤b.2.1.length,fun k=>b.2.1.length - k,⟨0,[(0,0),(1,1)],?_,rfl,Nat.zero_le _⟩,?_⟩
  ·have e1:zRows (G i)=zRows (F i 0):=by rw[hF.f0]
   (repeat' (first|exact trivial|refine⟨?_,?_⟩|exact rfl|assumption))
  rintro k H4 _ ⟨rfl,hk⟩;have hfl:=hF.fl i k;have hxl:(zRows (F i k)).length=(F i k).length:=List.length_map _;refine⟨fun h=>?_,fun h=>?_⟩
  ·have hkl:k<b.2.1.length:=by have:=dt h;omega
   refine name_k b.2.1[k] fun s hse=>?_
   have hss:b.2.1[k]?=some s:=by rw[hse];exact List.getElem?_eq_getElem hkl
   have hst:=hF.fs i k b s hbb hss
   refine stmt_k hr5 hss fun ad2 q2 hh2 hR=>?_
   refine⟨ad2,⟨by omega,by omega,q2⟩,?_⟩;refine⟨_,hh2,?_⟩;refine⟨fun h1=>?_,fun h1=>?_⟩
   ·have h1:¬s.1=1:=df h1;refine⟨fun h2=>?_,fun h2=>?_⟩
    ·have h2:s.1=2:=dt h2
     have hyes:defS s=true:=by rw[defS,decide_eq_true h2,Bool.or_true]
     have e1:zRows (F i k)++[[.int .i64 (i:Nat),.int .i64 (k:Nat),.string (bs s.2.1.l)]]=zRows (F i (k+1)):=by rw[hst,siteK,if_pos hyes,zRows,zRows,List.map_append];rfl
     refine⟨⟨by show ((zRows (F i k)).length+1)*32≤140737488355328;omega,by show (zRows (F i k)).length+1≤9223372036854775807;omega⟩,?_⟩;refine⟨⟨by omega,by omega⟩,k+1,[(0,0),(1,4)],?_,⟨rfl,hkl⟩,by dsimp only;omega⟩
     (repeat' (first|exact trivial|refine⟨?_,?_⟩|exact rfl|assumption))
    ·have h2:¬s.1=2:=df h2
     have hno:¬defS s=true:=by rw[defS,decide_eq_false h1,decide_eq_false h2];decide
     have e1:zRows (F i k)=zRows (F i (k+1)):=by rw[hst,siteK,if_neg hno,List.append_nil]
     refine⟨⟨by omega,by omega⟩,k+1,[(0,0),(1,1)],?_,⟨rfl,hkl⟩,by dsimp only;omega⟩
     (repeat' (first|exact trivial|refine⟨?_,?_⟩|exact rfl|assumption))
   ·have h1:s.1=1:=dt h1
    have hyes:defS s=true:=by rw[defS,decide_eq_true h1,Bool.true_or]
    have e1:zRows (F i k)++[[.int .i64 (i:Nat),.int .i64 (k:Nat),.string (bs s.2.1.l)]]=zRows (F i (k+1)):=by rw[hst,siteK,if_pos hyes,zRows,zRows,List.map_append];rfl
    refine⟨⟨by show ((zRows (F i k)).length+1)*32≤140737488355328;omega,by show (zRows (F i k)).length+1≤9223372036854775807;omega⟩,?_⟩;refine⟨⟨by omega,by omega⟩,k+1,[(0,0),(1,4)],?_,⟨rfl,hkl⟩,by dsimp only;omega⟩
    (repeat' (first|exact trivial|refine⟨?_,?_⟩|exact rfl|assumption))
  ·have hkl:k=b.2.1.length:=by have:=df h;omega
   subst hkl
   have e1:zRows (F i b.2.1.length)=zRows (G (i+1)):=by rw[hF.gs i b hbb]
   refine⟨⟨by omega,by omega⟩,i+1,[(0,0),(1,1)],?_,⟨rfl,hlt⟩,by dsimp only;omega⟩
   (repeat' (first|exact trivial|refine⟨?_,?_⟩|exact rfl|assumption))
 ·have hil:i=p.length:=by have:=df h;omega
  subst hil;rw[hF.ge];intro v H5 hle5 hv5
  have hVR:∀v∈varsOf p,v.length≤9223372036854775807:=fun v hv=>by
   obtain⟨j,hj⟩:=List.getElem?_of_mem hv;exact hsm v hv
  refine of_row_k (α:=Site) hv5 (rc_zRows (sites_R hp hl hPR hVR)) fun d1 d2 d3 ev hr=>?_
  subst ev;exact hK _ _ _ _ (hle1.trans hle5.le) hr
theorem tsites_spec {p:Prog} (hp:p.length≤12) (hl:∀b∈p,b.2.1.length≤100000) (hc:stmtsN p≤1000000) (hv:cnt p<400000) (hv64:(varsOf p).length≤64) {a:Option Addr} {n c:Nat} {H:Hp} {K:Value→Hp→Prop} (ha:RL H a n c p) (hK:∀a1 n1 c1 H',Le H H'→RL (α:=Site) H' a1 n1 c1 (sitesOf p)→K (.slice a1 n1 c1) H'):Does Tryz.prog 22 [.agg #[.slice a n c]] H K :=
 tsitesL_spec hp hl hc hv (Nat.le_trans hv64 (by decide)) ha hK
theorem rsitesL_spec {p:Prog} (hp:p.length≤12) (hl:∀b∈p,b.2.1.length≤100000) (hc:stmtsN p≤1000000) (hv:cnt p<400000) (hv64:(varsOf p).length≤1000000) {a:Option Addr} {n c:Nat} {H:Hp} {K:Value→Hp→Prop} (ha:RL H a n c p) (hK:∀a1 n1 c1 H',Le H H'→RL (α:=Site) H' a1 n1 c1 (sitesOf p)→K (.slice a1 n1 c1) H'):Does Tryz.prog 38 [.agg #[.slice a n c]] H K:=by
 have hn:=ha.n_eq;have hPR:=prog_R ha
 refine famT_k p fun Z G F hF=>?_
 refine spec_of cx_ok cx_mix rfl Tryz.func38 Tryz.call38 Tryz.ntmps38 Tryz.results38 rfl rfl ?_
 refine rvars_spec ha hv fun av nv cv H1 hle1 hrv=>?_
 have hnv:=hrv.n_eq;rw[List.length_map]at hnv;have hsm:=ens_small hrv
 refine⟨Nat,fun i=>⟨[(1,.ptr 0 0),(3,.own 1),(11,.v (.slice av nv cv)),(12,.v (.int .i64 nv)),(13,.v (.int .i64 i))],[(0,.cells 24 [.v (.slice a n c)]),(1,.row 81 3 (zRows (Z i)))],2⟩,
  fun i H'=>H'=H1∧i≤(varsOf p).length,fun i=>(varsOf p).length - i,⟨0,[(0,0)],?_,rfl,Nat.zero_le _⟩,?_⟩
 ·have e1:zRows (Z 0)=[]:=by rw[hF.z0];rfl
  (repeat' (first|exact trivial|refine⟨?_,?_⟩|exact rfl|assumption))
 rintro i H2 _ ⟨rfl,hi⟩;have hzl:=hF.zl i;have hzz:(zRows (Z i)).length=(Z i).length:=List.length_map _;refine⟨fun h=>?_,fun h=>?_⟩
 ·have hlt:i<(varsOf p).length:=by have:=dt h;omega
  refine name_k (varsOf p)[i] fun v hve=>?_
  have hvv:(varsOf p)[i]?=some v:=by rw[hve];exact List.getElem?_eq_getElem hlt
  have hzs:=hF.zs i v hvv
  refine str_k hrv hvv fun ad q1 hh _=>?_
  refine⟨ad,⟨by omega,by omega,q1⟩,?_⟩;refine⟨_,hh,?_⟩
  have e1:zRows (Z i)++[[.int .i64 (-1),.int .i64 0,.string (bs v)]]=zRows (Z (i+1)):=by rw[hzs,zRows,zRows,List.map_append];rfl
  refine⟨⟨by show ((zRows (Z i)).length+1)*32≤140737488355328;omega,by show (zRows (Z i)).length+1≤9223372036854775807;omega⟩,?_⟩;refine⟨⟨by omega,by omega⟩,i+1,[(0,0),(1,3)],?_,⟨rfl,hlt⟩,by dsimp only;omega⟩
  (repeat' (first|exact trivial|refine⟨?_,?_⟩|exact rfl|assumption))
 have hil:i=(varsOf p).length:=by have:=df h;omega
 rw[hil,hF.g0]
 refine⟨Nat,fun i=>⟨[(1,.ptr 0 0),(3,.own 1),(24,.v (.slice a n c)),(25,.v (.int .i64 n)),(26,.v (.int .i64 i))],[(0,.cells 24 [.v (.slice a n c)]),(1,.row 81 3 (zRows (G i)))],2⟩,
  fun i H'=>H'=H2∧i≤p.length,fun i=>p.length - i,⟨0,[(0,0),(1,1)],?_,rfl,Nat.zero_le _⟩,?_⟩
 ·(repeat' (first|exact trivial|refine⟨?_,?_⟩|exact rfl|assumption))
 rintro i H3 _ ⟨rfl,hi⟩;refine⟨fun h=>?_,fun h=>?_⟩
 ·have hlt:i<p.length:=by have:=dt h;omega
  refine name_k p[i] fun b hbe=>?_
  have hbb:p[i]?=some b:=by rw[hbe];exact List.getElem?_eq_getElem hlt
  have hbl:=hl b (List.mem_of_getElem? hbb)
  refine block_k (ha.up hle1) hbb fun ad a5 n5 c5 q1 hh hr5 hs5 ht5=>?_
  have hn5:n5=b.2.1.length:=hr5.n_eq;refine⟨ad,⟨by omega,by omega,q1⟩,?_⟩;refine⟨_,hh,?_⟩
  refine⟨Nat,fun k=>⟨[(1,.ptr 0 0),(3,.own 1),(6,.v (.int .i64 i)),(24,.v (.slice a n c)),(25,.v (.int .i64 n)),(26,.v (.int .i64 i)),(32,.v (.slice a5 n5 c5)),(33,.v (.int .i64 n5)),(34,.v (.int .i64 k))],[(0,.cells 24 [.v (.slice a n c)]),(1,.row 81 3 (zRows (F i k)))],2⟩,
   fun k H'=>H'=H3∧k≤b.2.1.length,fun k=>b.2.1.length - k,⟨0,[(0,0),(1,1)],?_,rfl,Nat.zero_le _⟩,?_⟩
  ·have e1:zRows (G i)=zRows (F i 0):=by rw[hF.f0]
   (repeat' (first|exact trivial|refine⟨?_,?_⟩|exact rfl|assumption))
  rintro k H4 _ ⟨rfl,hk⟩;have hfl:=hF.fl i k;have hxl:(zRows (F i k)).length=(F i k).length:=List.length_map _;refine⟨fun h=>?_,fun h=>?_⟩
  ·have hkl:k<b.2.1.length:=by have:=dt h;omega
   refine name_k b.2.1[k] fun s hse=>?_
   have hss:b.2.1[k]?=some s:=by rw[hse];exact List.getElem?_eq_getElem hkl
   have hst:=hF.fs i k b s hbb hss
   refine stmt_k hr5 hss fun ad2 q2 hh2 hR=>?_
   refine⟨ad2,⟨by omega,by omega,q2⟩,?_⟩;refine⟨_,hh2,?_⟩;refine⟨fun h1=>?_,fun h1=>?_⟩
   ·have h1:¬s.1=1:=df h1;refine⟨fun h2=>?_,fun h2=>?_⟩
    ·have h2:s.1=2:=dt h2
     have hyes:defS s=true:=by rw[defS,decide_eq_true h2,Bool.or_true]
     have e1:zRows (F i k)++[[.int .i64 (i:Nat),.int .i64 (k:Nat),.string (bs s.2.1.l)]]=zRows (F i (k+1)):=by rw[hst,siteK,if_pos hyes,zRows,zRows,List.map_append];rfl
     refine⟨⟨by show ((zRows (F i k)).length+1)*32≤140737488355328;omega,by show (zRows (F i k)).length+1≤9223372036854775807;omega⟩,?_⟩;refine⟨⟨by omega,by omega⟩,k+1,[(0,0),(1,4)],?_,⟨rfl,hkl⟩,by dsimp only;omega⟩
     (repeat' (first|exact trivial|refine⟨?_,?_⟩|exact rfl|assumption))
    ·have h2:¬s.1=2:=df h2
     have hno:¬defS s=true:=by rw[defS,decide_eq_false h1,decide_eq_false h2];decide
     have e1:zRows (F i k)=zRows (F i (k+1)):=by rw[hst,siteK,if_neg hno,List.append_nil]
     refine⟨⟨by omega,by omega⟩,k+1,[(0,0),(1,1)],?_,⟨rfl,hkl⟩,by dsimp only;omega⟩
     (repeat' (first|exact trivial|refine⟨?_,?_⟩|exact rfl|assumption))
   ·have h1:s.1=1:=dt h1
    have hyes:defS s=true:=by rw[defS,decide_eq_true h1,Bool.true_or]
    have e1:zRows (F i k)++[[.int .i64 (i:Nat),.int .i64 (k:Nat),.string (bs s.2.1.l)]]=zRows (F i (k+1)):=by rw[hst,siteK,if_pos hyes,zRows,zRows,List.map_append];rfl
    refine⟨⟨by show ((zRows (F i k)).length+1)*32≤140737488355328;omega,by show (zRows (F i k)).length+1≤9223372036854775807;omega⟩,?_⟩;refine⟨⟨by omega,by omega⟩,k+1,[(0,0),(1,4)],?_,⟨rfl,hkl⟩,by dsimp only;omega⟩
    (repeat' (first|exact trivial|refine⟨?_,?_⟩|exact rfl|assumption))
  ·have hkl:k=b.2.1.length:=by have:=df h;omega
   subst hkl
   have e1:zRows (F i b.2.1.length)=zRows (G (i+1)):=by rw[hF.gs i b hbb]
   refine⟨⟨by omega,by omega⟩,i+1,[(0,0),(1,1)],?_,⟨rfl,hlt⟩,by dsimp only;omega⟩
   (repeat' (first|exact trivial|refine⟨?_,?_⟩|exact rfl|assumption))
 ·have hil:i=p.length:=by have:=df h;omega
  subst hil;rw[hF.ge];intro v H5 hle5 hv5
  have hVR:∀v∈varsOf p,v.length≤9223372036854775807:=fun v hv=>by
   obtain⟨j,hj⟩:=List.getElem?_of_mem hv;exact hsm v hv
  refine of_row_k (α:=Site) hv5 (rc_zRows (sites_R hp hl hPR hVR)) fun d1 d2 d3 ev hr=>?_
  subst ev;exact hK _ _ _ _ (hle1.trans hle5.le) hr
theorem rsites_spec {p:Prog} (hp:p.length≤12) (hl:∀b∈p,b.2.1.length≤100000) (hc:stmtsN p≤1000000) (hv:cnt p<400000) (hv64:(varsOf p).length≤64) {a:Option Addr} {n c:Nat} {H:Hp} {K:Value→Hp→Prop} (ha:RL H a n c p) (hK:∀a1 n1 c1 H',Le H H'→RL (α:=Site) H' a1 n1 c1 (sitesOf p)→K (.slice a1 n1 c1) H'):Does Tryz.prog 38 [.agg #[.slice a n c]] H K :=
 rsitesL_spec hp hl hc hv (Nat.le_trans hv64 (by decide)) ha hK
end Go.Proofs
end
section
/- Plain words: the names of sites. -/
namespace Go.Proofs
open Go.Sy
set_option maxRecDepth 20000
set_option maxHeartbeats 4000000
noncomputable def cxZ:Cx:={ P:=Tryz.prog,tt:=tt,n:=0,wrap:=false,base:=0,gf:=[],eqs:=[69,81],xf:=[] }
theorem cxZ_ok:TOK cxZ:=⟨cx_ok.tt,eqs_of (P:=Tryz.prog) (tt:=tt) (l:=[69,81]) (by kernel_rfl)⟩
def bnmZ (p:Prog) (i:Int):List UInt8:=((p[i.toNat]?).map fun b=>b.1.l).getD []
def siteTx (p:Prog) (x:Site):List UInt8:=if x.1 = -1 then x.2.2.l++[64,115,116,97,114,116] else x.2.2.l++[64]++bnmZ p x.1++[46]++dg x.2.1.toNat
theorem siteL_in (i:Nat):∀(l:List Stmt) (k:Nat) (x:Site),x∈siteL i l k→x.1=(i:Int)∧∃j:Nat,x.2.1=(j:Int)∧j<k+l.length
 | [],_,x,h=>by cases h
 | s::r,k,x,h=>by
  rw[siteL]at h
  rcases List.mem_append.1 h with h | h
  ·unfold siteK at h;split at h
   ·rw[List.mem_singleton]at h;subst h;exact⟨rfl,k,rfl,by rw[List.length_cons];omega⟩
   ·cases h
  ·obtain⟨h1,j,h2,h3⟩:=siteL_in i r (k+1) x h;exact⟨h1,j,h2,by rw[List.length_cons];omega⟩
theorem siteP_in:∀(p:Prog) (i:Nat) (x:Site),x∈siteP p i→∃(m:Nat) (b:Block),x.1=((i+m:Nat):Int)∧p[m]?=some b∧∃j:Nat,x.2.1=(j:Int)∧j<b.2.1.length
 | [],_,x,h=>by cases h
 | b::r,i,x,h=>by
  rw[siteP]at h
  rcases List.mem_append.1 h with h | h
  ·obtain⟨h1,j,h2,h3⟩:=siteL_in i b.2.1 0 x h;exact⟨0,b,h1,rfl,j,h2,by omega⟩
  ·obtain⟨m,c,h1,h2,h3⟩:=siteP_in r (i+1) x h;exact⟨m+1,c,by rw[h1];congr 1;omega,h2,h3⟩
theorem site_in {p:Prog} {x:Site} (h:x∈sitesOf p):x.1 = -1∨∃(m:Nat) (b:Block),x.1=(m:Int)∧p[m]?=some b∧∃j:Nat,x.2.1=(j:Int)∧j<b.2.1.length:=by
 rw[sitesOf]at h
 rcases List.mem_append.1 h with h | h
 ·obtain⟨v,_,rfl⟩:=List.mem_map.1 h;exact .inl rfl
 ·obtain⟨m,b,h1,h2⟩:=siteP_in p 0 x h;exact .inr ⟨m,b,by rw[h1,Nat.zero_add],h2⟩
theorem site_kZ {P:Prop} {H:Hp} {a:Option Addr} {n c:Nat} {l:List Site} (h:RL (α:=Site) H a n c l) {i:Nat} {x:Site} (hi:l[i]?=some x) (k:∀ad,a=some ad→ElemH H ad (i:Int) 3 (siteV x)→P):P :=
 elem_k h hi fun ad cs h1 h2 h3=>by
  obtain⟨x1,x2,rfl,⟨rfl,_⟩,y1,y2,rfl,⟨rfl,_⟩,rfl,_⟩:=h3;exact k ad h1 h2
abbrev siteA (x:Site):Value:=.agg #[.int .i64 x.1,.int .i64 x.2.1,.string (bs x.2.2.l)]
theorem indexZ_spec {l:List Site} {x:Site} (hx:x∈l) {a:Option Addr} {n c:Nat} {H:Hp} {K:Value→Hp→Prop} (ha:RL (α:=Site) H a n c l) (hK:∀j:Nat,K (.int .i64 j) H):Does Tryz.prog 122 [.slice a n c,siteA x] H K:=by
 have hn:=ha.n_eq;have hmx:=ha.le;refine spec_of cxZ_ok cx_mix rfl Tryz.func122 Tryz.call122 Tryz.ntmps122 Tryz.results122 rfl rfl ?_;refine⟨Nat,fun i=>⟨[(0,.v (.slice a n c)),(3,.ptr 0 0),(7,.v (.int .i64 n)),(8,.v (.int .i64 i))],[(0,.cells 69 (vL (siteV x)))],1⟩,fun i H'=>H'=H∧i≤l.length∧x ∉ l.take i,fun i=>l.length - i,⟨0,[(0,0)],?_,rfl,Nat.zero_le _,by simp⟩,?_⟩
 ·(repeat' (first|exact trivial|refine⟨?_,?_⟩|exact rfl|assumption))
 rintro i H1 _ ⟨rfl,hi,hno⟩;refine⟨fun h=>?_,fun h=>?_⟩
 ·have hlt:i<l.length:=by have:=dt h;omega
  refine name_k l[i] fun y hye=>?_
  have hyy:l[i]?=some y:=by rw[hye];exact List.getElem?_eq_getElem hlt
  refine site_kZ ha hyy fun ad q1 hh=>?_
  refine⟨some ([],[0,1,2,3,4,5]),by kernel_rfl,?_⟩;refine⟨ad,⟨by omega,by omega,q1⟩,?_⟩;refine⟨_,hh,?_⟩;refine⟨fun h=>?_,fun h=>?_⟩
  ·exact hK i
  ·have hne:x≠y:=fun e=>by subst e;simp at h
   refine⟨⟨by omega,by omega⟩,i+1,[(0,0)],?_,⟨rfl,hlt,?_⟩,by dsimp only;omega⟩
   ·(repeat' (first|exact trivial|refine⟨?_,?_⟩|exact rfl|assumption))
   ·rw[List.take_add_one,hyy,Option.toList_some];intro hm
    rcases List.mem_append.1 hm with hm | hm
    ·exact hno hm
    ·exact hne (List.mem_singleton.1 hm)
 ·have hil:i=l.length:=by have:=df h;omega
  rw[hil,List.take_length]at hno;exact absurd hx hno
theorem tdig_spec' {x:Int} {n:Nat} (hx:x=n) (hn:n<9223372036854775808) {H:Hp} {K:Value→Hp→Prop} (hK:K (.string (bs (dg n))) H):Does Tryz.prog 70 [.int .i64 x] H K:=by
 subst hx;exact tdig_spec hn hK
theorem placeZ_spec {l:List Site} {x:Site} (hx:x∈l) {a:Option Addr} {n c:Nat} {H:Hp} {K:Value→Hp→Prop} (ha:RL (α:=Site) H a n c l) (hK:∀j:Int,K (.tuple #[.int .i64 j,.bool true]) H):Does Tryz.prog 69 [.slice a n c,siteA x] H K:=by
 refine spec_of cx_ok cx_mix rfl Tryz.func69 Tryz.call69 Tryz.ntmps69 Tryz.results69 rfl rfl ?_
 refine indexZ_spec hx ha fun j=>?_
 have h9:=hK (max (j:Int) 0)
 have e:(true:Bool)=decide (0≤(j:Int)):=by simp
 rw[e]at h9;exact h9
theorem vars_sz {p:Prog} (hv:cnt p<400000):(varsOf p).length≤1000000:=by
 have:=vars_len p [];rw[List.length_nil]at this;show (p.foldl blkVars []).length≤_;omega
theorem tsitename_spec {p:Prog} (hp:p.length≤12) (hl:∀b∈p,b.2.1.length≤100000) (hc:stmtsN p≤1000000) (hv:cnt p<400000) {x:Site} (hx:x∈sitesOf p) (hxl:x.2.2.l.length≤1000000) (hbl:∀b∈p,b.1.l.length≤1000000) {a:Option Addr} {n c:Nat} {H:Hp} {K:Value→Hp→Prop} (ha:RL H a n c p)
  (hK:∀H',Le H H'→K (.string (bs (siteTx p x))) H'):Does Tryz.prog 27 [.agg #[.slice a n c],siteA x] H K:=by
 have hn:=ha.n_eq;refine spec_of cx_ok cx_mix rfl Tryz.func27 Tryz.call27 Tryz.ntmps27 Tryz.results27 rfl rfl ?_;refine⟨fun h=>?_,fun h=>?_⟩
 ·have h0:x.1 = -1:=dt h;refine⟨by show x.2.2.l.length+6≤_;omega,?_⟩;have h9:=hK H (Le.refl H);rw[siteTx,if_pos h0]at h9;exact h9
 ·have h0:¬x.1 = -1:=df h
  rcases site_in hx with h1 | ⟨m,b,h1,h2,j,h3,h4⟩
  ·exact absurd h1 h0
  have e9:siteTx p x=x.2.2.l++[64]++b.1.l++[46]++dg j:=by rw[siteTx,if_neg h0,bnmZ,h1,Int.toNat_natCast,h2,h3,Int.toNat_natCast];rfl
  rw[e9]at hK;have hbn:=hbl b (List.mem_of_getElem? h2);have hbs:=hl b (List.mem_of_getElem? h2);have hml:m<p.length:=(List.getElem?_eq_some_iff.1 h2).1
  have h5:0≤x.1:=by omega
  have h6:p[x.1.toNat]?=some b:=by rw[h1,Int.toNat_natCast];exact h2
  have h7:=dg_len20 (n:=j) (by omega);refine⟨some ([],[0,2,1,3,4,5,6,7,8]),by kernel_rfl,?_⟩
  refine tsitesL_spec hp hl hc hv (vars_sz hv) ha fun a1 n1 c1 H1 hle1 hr1=>?_
  refine placeZ_spec hx hr1 fun j'=>?_
  refine⟨fun h=>absurd h (by decide),fun _=>?_⟩;refine⟨some ([],[0,1,2,3,4,5,6,7,8,9,10,11,12,13,14,15,16]),by kernel_rfl,?_⟩;refine⟨by show x.2.2.l.length+1≤_;omega,?_⟩
  refine block_kI (ha.up hle1) h5 h6 fun ad2 a2 n2 c2 q2 hh2 _ _ _=>?_
  refine⟨ad2,⟨by omega,by omega,q2⟩,?_⟩;refine⟨_,hh2,?_⟩;refine⟨by show (x.2.2.l++[64]).length+b.1.l.length≤_;rw[List.length_append,List.length_singleton];omega,?_⟩;refine⟨by show (x.2.2.l++[64]++b.1.l).length+1≤_;simp only[List.length_append,List.length_singleton];omega,?_⟩;refine tdig_spec' (n:=j) h3 (by omega) ?_;refine⟨by show (x.2.2.l++[64]++b.1.l++[46]).length+(dg j).length≤_;simp only[List.length_append,List.length_singleton];omega,?_⟩;exact hK _ hle1
theorem rsitename_spec {p:Prog} (hp:p.length≤12) (hl:∀b∈p,b.2.1.length≤100000) (hc:stmtsN p≤1000000) (hv:cnt p<400000) {x:Site} (hx:x∈sitesOf p) (hxl:x.2.2.l.length≤1000000) (hbl:∀b∈p,b.1.l.length≤1000000) {a:Option Addr} {n c:Nat} {H:Hp} {K:Value→Hp→Prop} (ha:RL H a n c p)
  (hK:∀H',Le H H'→K (.string (bs (siteTx p x))) H'):Does Tryz.prog 39 [.agg #[.slice a n c],siteA x] H K:=by
 have hn:=ha.n_eq;refine spec_of cxZ_ok cx_mix rfl Tryz.func39 Tryz.call39 Tryz.ntmps39 Tryz.results39 rfl rfl ?_;refine⟨fun h=>?_,fun h=>?_⟩
 ·have h0:x.1 = -1:=dt h;refine⟨by show x.2.2.l.length+6≤_;omega,?_⟩;have h9:=hK H (Le.refl H);rw[siteTx,if_pos h0]at h9;exact h9
 ·have h0:¬x.1 = -1:=df h
  rcases site_in hx with h1 | ⟨m,b,h1,h2,j,h3,h4⟩
  ·exact absurd h1 h0
  have e9:siteTx p x=x.2.2.l++[64]++b.1.l++[46]++dg j:=by rw[siteTx,if_neg h0,bnmZ,h1,Int.toNat_natCast,h2,h3,Int.toNat_natCast];rfl
  rw[e9]at hK;have hbn:=hbl b (List.mem_of_getElem? h2);have hbs:=hl b (List.mem_of_getElem? h2);have hml:m<p.length:=(List.getElem?_eq_some_iff.1 h2).1
  have h5:0≤x.1:=by omega
  have h6:p[x.1.toNat]?=some b:=by rw[h1,Int.toNat_natCast];exact h2
  have h7:=dg_len20 (n:=j) (by omega)
  refine rsitesL_spec hp hl hc hv (vars_sz hv) ha fun a1 n1 c1 H1 hle1 hr1=>?_
  have hn1:=hr1.n_eq;have hmx1:=hr1.le;refine⟨Nat,fun i=>⟨[(2,.ptr 0 0),(3,.ptr 1 0),(14,.v (.slice a1 n1 c1)),(15,.v (.int .i64 n1)),(16,.v (.int .i64 i))],[(0,.cells 24 [.v (.slice a n c)]),(1,.cells 81 (vL (siteV x)))],2⟩,fun i H'=>H'=H1∧i≤(sitesOf p).length∧x ∉ (sitesOf p).take i,fun i=>(sitesOf p).length - i,⟨0,[(0,0),(1,1)],?_,rfl,Nat.zero_le _,by simp⟩,?_⟩
  ·(repeat' (first|exact trivial|refine⟨?_,?_⟩|exact rfl|assumption))
  rintro i H2 _ ⟨rfl,hi,hno⟩;refine⟨fun h=>?_,fun h=>?_⟩
  ·have hlt:i<(sitesOf p).length:=by have:=dt h;omega
   refine name_k (sitesOf p)[i] fun y hye=>?_
   have hyy:(sitesOf p)[i]?=some y:=by rw[hye];exact List.getElem?_eq_getElem hlt
   refine site_kZ hr1 hyy fun ad q1 hh=>?_
   refine⟨ad,⟨by omega,by omega,q1⟩,?_⟩;refine⟨_,hh,?_⟩;refine⟨fun h=>?_,fun h=>?_⟩
   ·have h0':=h0;refine⟨some ([],[0,1,2,3,4,5,6,7,8,9,10,11,12,13,14,15,16]),by kernel_rfl,?_⟩;refine⟨by show x.2.2.l.length+1≤_;omega,?_⟩
    refine block_kI (ha.up hle1) h5 h6 fun ad2 a2 n2 c2 q2 hh2 _ _ _=>?_
    refine⟨ad2,⟨by omega,by omega,q2⟩,?_⟩;refine⟨_,hh2,?_⟩;refine⟨by show (x.2.2.l++[64]).length+b.1.l.length≤_;rw[List.length_append,List.length_singleton];omega,?_⟩;refine⟨by show (x.2.2.l++[64]++b.1.l).length+1≤_;simp only[List.length_append,List.length_singleton];omega,?_⟩;refine rdig_nat' (n:=j) h3 (by omega) ?_;refine⟨by show (x.2.2.l++[64]++b.1.l++[46]).length+(dg j).length≤_;simp only[List.length_append,List.length_singleton];omega,?_⟩;exact hK _ hle1
   ·have hne:x≠y:=fun e=>by subst e;simp at h
    refine⟨⟨by omega,by omega⟩,i+1,[(0,0),(1,1)],?_,⟨rfl,hlt,?_⟩,by dsimp only;omega⟩
    ·(repeat' (first|exact trivial|refine⟨?_,?_⟩|exact rfl|assumption))
    ·rw[List.take_add_one,hyy,Option.toList_some];intro hm
     rcases List.mem_append.1 hm with hm | hm
     ·exact hno hm
     ·exact hne (List.mem_singleton.1 hm)
  ·have hil:i=(sitesOf p).length:=by have:=df h;omega
   rw[hil,List.take_length]at hno;exact absurd hx hno
end Go.Proofs
end
section
/- Plain words: whether a word set has a number, as the program asks; what is picked by a set. -/
namespace Go.Proofs
open Go.Sy
open Bt
set_option maxRecDepth 20000
set_option maxHeartbeats 4000000
theorem wword0_spec {l:Wd} {a:Option Addr} {n c:Nat} {i:Nat} (hi:l.length≤i) {H:Hp} {K:Value→Hp→Prop} (ha:RL H a n c l) (hK:K (.int .u64 0) H):Does Tryz.prog 72 [.slice a n c,.int .i64 (i:Nat)] H K:=by
 have hn1:=ha.n_eq;refine spec_of cx_ok cx_mix rfl Tryz.func72 Tryz.call72 Tryz.ntmps72 Tryz.results72 rfl rfl ?_;refine⟨fun _=>?_,fun h=>absurd (df h) (by omega)⟩;exact hK
theorem whas_spec {l:Wd} {a:Option Addr} {n c:Nat} {i:Nat} (hi:i≤1000000) {H:Hp} {K:Value→Hp→Prop} (ha:RL H a n c l) (hK:K (.bool (bitAt l i)) H):Does Tryz.prog 30 [.slice a n c,.int .i64 (i:Nat)] H K:=by
 have hn1:=ha.n_eq
 have h0:(0:Int)≤(i:Nat):=by omega
 have h2:Int.tdiv (i:Nat) 64=(i / 64:Nat):=by rw[Int.tdiv_eq_ediv_of_nonneg h0];omega
 have hle:=ha.le;refine spec_of cx_ok cx_mix rfl Tryz.func30 Tryz.call30 Tryz.ntmps30 Tryz.results30 rfl rfl ?_;refine⟨fun _=>?_,(fun h=>absurd h0 (df h))⟩;refine⟨by decide,⟨by rw[h2];omega,by rw[h2];omega⟩,?_⟩;rw[h2]
 by_cases hlt:i / 64<l.length
 ·refine wword_spec (List.getElem?_eq_getElem hlt) ha ?_;refine⟨by decide,?_⟩;refine⟨tmod_pos h0,?_⟩;have hb:=shr_bit l[i / 64] h0;refine kbool hK (Eq.symm ?_)
  have hv:bitAt l i=l[i / 64].toNat.testBit (i % 64):=by rw[bitAt,List.getElem?_eq_getElem hlt];rfl
  rw[hv];refine (congrArg (fun z:Int=>decide (z=1)) hb).trans ?_;show decide ((if l[i / 64].toNat.testBit (i % 64) then (1:Int) else 0)=1)=_
  cases l[i / 64].toNat.testBit (i % 64)<;>rfl
 ·refine wword0_spec (by omega) ha ?_;refine⟨by decide,?_⟩;refine⟨tmod_pos h0,?_⟩;have hb:=shr_bit (0:UInt64) h0;refine kbool hK (Eq.symm ?_)
  have hv:bitAt l i=(0:UInt64).toNat.testBit (i % 64):=by rw[bitAt,List.getElem?_eq_none (by omega)];rfl
  rw[hv];refine (congrArg (fun z:Int=>decide (z=1)) hb).trans ?_;show decide ((if (0:UInt64).toNat.testBit (i % 64) then (1:Int) else 0)=1)=_
  cases (0:UInt64).toNat.testBit (i % 64)<;>rfl
def pkL (x:Wd) (L:List Bs8) (k:Nat):List Bs8:=((List.range k).filter (bitAt x)).map fun i=>L.getD i []
theorem pkL_zero (x:Wd) (L:List Bs8):pkL x L 0=[]:=rfl
theorem pkL_yes {x:Wd} {L:List Bs8} {k:Nat} (h:bitAt x k=true):pkL x L (k+1)=pkL x L k++[L.getD k []]:=by
 rw[pkL,List.range_succ,List.filter_append,List.map_append];simp [h,pkL]
theorem pkL_no {x:Wd} {L:List Bs8} {k:Nat} (h:¬bitAt x k=true):pkL x L (k+1)=pkL x L k:=by
 rw[pkL,List.range_succ,List.filter_append,List.map_append];simp [h,pkL]
theorem pkL_len (x:Wd) (L:List Bs8) (k:Nat):(pkL x L k).length≤k:=by
 rw[pkL,List.length_map];have:=List.length_filter_le (bitAt x) (List.range k);rw[List.length_range]at this;exact this
theorem pkL_mem {x:Wd} {L:List Bs8} {k:Nat} (hk:k≤L.length):∀s∈pkL x L k,s∈L:=by
 intro s hs;obtain⟨i,hi,rfl⟩:=List.mem_map.1 hs;have h1:=List.mem_range.1 (List.mem_filter.1 hi).1;rw[List.getD_eq_getElem?_getD,List.getElem?_eq_getElem (by omega)];exact List.getElem_mem _
def kvF (V:List Bs8) (x:Wd) (i:Nat):Bs8:=V.getD i []++[61]++kTx (x.getD i 0).toNat
def upTo (f:Nat→Bs8) (k:Nat):List Bs8:=(List.range k).map f
theorem upTo_snoc (f:Nat→Bs8) (k:Nat):upTo f (k+1)=upTo f k++[f k]:=by rw[upTo,List.range_succ,List.map_append];rfl
theorem upTo_len (f:Nat→Bs8) (k:Nat):(upTo f k).length=k:=by rw[upTo,List.length_map,List.length_range]
theorem upTo_getD {α:Type} (g:α→Bs8) (L:List α) (z:α):upTo (fun i=>g (L.getD i z)) L.length=L.map g:=by
 apply List.ext_getElem?;intro i;rw[upTo,List.getElem?_map,List.getElem?_map]
 by_cases h:i<L.length
 ·rw[List.getElem?_range h,List.getElem?_eq_getElem h];simp [List.getD_eq_getElem?_getD,List.getElem?_eq_getElem h]
 ·rw[List.getElem?_eq_none (by rw[List.length_range];omega),List.getElem?_eq_none (by omega)]
  rfl
def wordsOf (kind:Int) (p:Prog) (x:Wd):List Bs8 :=
 if kind=4 then upTo (kvF (varsOf p) x) (min (varsOf p).length x.length)
 else if kind=1 then pkL x (varsOf p) (varsOf p).length
 else if kind=2 then pkL x ((sitesOf p).map (siteTx p)) (sitesOf p).length
 else if kind=3 then pkL x ((exprsOf p).map xTx) (exprsOf p).length
 else []
end Go.Proofs
end
section
namespace Go.Proofs
open Go.Sy
set_option maxRecDepth 20000
set_option maxHeartbeats 4000000
theorem any_take {α:Type} {f:α→Bool} {l:List α} {j:Nat} {y:α} (h:l[j]?=some y):(l.take (j+1)).any f=((l.take j).any f||f y):=by
 rw[List.take_add_one,h,List.any_append];simp
theorem strX_vc (s t:Bs8):decide (sl (bs s)=sl (bs t))=decide (s=t):=rfl
theorem eqX_vc (x y:Expr):(decide (x.1=y.1)&&(decide (sl (bs x.2.1.1.l)=sl (bs y.2.1.1.l))&&(decide (x.2.1.2.1=y.2.1.2.1)&&(decide (x.2.1.2.2=y.2.1.2.2)&&true)&&true)&&(decide (sl (bs x.2.2.1.l)=sl (bs y.2.2.1.l))&&(decide (x.2.2.2.1=y.2.2.2.1)&&(decide (x.2.2.2.2=y.2.2.2.2)&&true)&&true)&&true)))=decide (x=y):=by
 rw[strX_vc,strX_vc];obtain⟨c,⟨⟨d⟩,e,f⟩,⟨g⟩,h,i⟩:=x;obtain⟨c',⟨⟨d'⟩,e',f'⟩,⟨g'⟩,h',i'⟩:=y;rw[Bool.eq_iff_iff];simp [and_assoc]
theorem rexprs_spec {p:Prog} (hp:p.length≤12) (hl:∀b∈p,b.2.1.length≤100000) {a:Option Addr} {n c:Nat} {H:Hp} {K:Value→Hp→Prop} (ha:RL H a n c p) (hK:∀a1 n1 c1 H',Le H H'→RL H' a1 n1 c1 (exprsOf p)→K (.slice a1 n1 c1) H'):Does Tryz.prog 40 [.agg #[.slice a n c]] H K:=by
 have hn:=ha.n_eq
 refine famE_k hl (prog_R ha) fun G F hF=>?_
 refine spec_of cx_ok cx_mix rfl Tryz.func40 Tryz.call40 Tryz.ntmps40 Tryz.results40 rfl rfl ?_
 refine⟨Nat,fun i=>⟨[(3,.own 1),(14,.v (.slice a n c)),(15,.v (.int .i64 n)),(16,.v (.int .i64 i))],[(0,.cells 24 [.v (.slice a n c)]),(1,.row 55 7 (xRows (G i)))],2⟩,
  fun i H'=>Le H H'∧i≤p.length,fun i=>p.length - i,⟨0,[(0,0)],?_,Le.refl H,Nat.zero_le _⟩,?_⟩
 ·have e1:xRows (G 0)=[]:=by rw[hF.g0];rfl
  (repeat' (first|exact trivial|refine⟨?_,?_⟩|exact rfl|assumption))
 rintro i H1 _ ⟨hle1,hi⟩;refine⟨fun h=>?_,fun h=>?_⟩
 ·have hlt:i<p.length:=by have:=dt h;omega
  refine name_k p[i] fun b hbe=>?_
  have hbb:p[i]?=some b:=by rw[hbe];exact List.getElem?_eq_getElem hlt
  have hbl:=hl b (List.mem_of_getElem? hbb)
  refine block_k (ha.up hle1) hbb fun ad a5 n5 c5 q1 hh hr5 hs5 ht5=>?_
  have hn5:n5=b.2.1.length:=hr5.n_eq;refine⟨ad,⟨by omega,by omega,q1⟩,?_⟩;refine⟨_,hh,?_⟩
  refine⟨Nat,fun k=>⟨[(3,.own 1),(14,.v (.slice a n c)),(15,.v (.int .i64 n)),(16,.v (.int .i64 i)),(21,.v (.slice a5 n5 c5)),(22,.v (.int .i64 n5)),(23,.v (.int .i64 k))],[(0,.cells 24 [.v (.slice a n c)]),(1,.row 55 7 (xRows (F i k)))],2⟩,
   fun k H'=>Le H1 H'∧k≤b.2.1.length,fun k=>b.2.1.length - k,⟨0,[(0,0),(1,1)],?_,Le.refl H1,Nat.zero_le _⟩,?_⟩
  ·have e0:=hF.f0 i
   have e2:xRows (G i)=xRows (F i 0):=by rw[e0]
   (repeat' (first|exact trivial|refine⟨?_,?_⟩|exact rfl|assumption))
  rintro k H2 _ ⟨hle2,hk⟩;have hfl:=hF.lenF i k;have hxl:(xRows (F i k)).length=(F i k).length:=List.length_map _;refine⟨fun h=>?_,fun h=>?_⟩
  ·have hkl:k<b.2.1.length:=by have:=dt h;omega
   refine name_k b.2.1[k] fun s hse=>?_
   have hss:b.2.1[k]?=some s:=by rw[hse];exact List.getElem?_eq_getElem hkl
   have hst:=hF.fs i k b s hbb hss
   refine stmt_k (hr5.up hle2) hss fun ad2 q2 hh2 hR=>?_
   refine⟨ad2,⟨by omega,by omega,q2⟩,?_⟩;refine⟨_,hh2,?_⟩
   refine ratoms_spec hR.2.2 fun a6 n6 c6 H3 hle3 hr6=>?_
   have hn6:=hr6.n_eq;have hm6:=hr6.le
   refine fam_k (fun j=>((atomsOf s.2.2).take j).any namedA) fun B hB=>?_
   refine⟨Nat,fun j=>⟨[(3,.own 1),(7,.ptr 2 0),(8,.v (.bool (B j))),(14,.v (.slice a n c)),(15,.v (.int .i64 n)),(16,.v (.int .i64 i)),(21,.v (.slice a5 n5 c5)),(22,.v (.int .i64 n5)),(23,.v (.int .i64 k)),(29,.v (.slice a6 n6 c6)),(30,.v (.int .i64 n6)),(31,.v (.int .i64 j))],[(0,.cells 24 [.v (.slice a n c)]),(1,.row 55 7 (xRows (F i k))),(2,.cells 57 (vL (stmtV s)))],3⟩,
    fun j H'=>H'=H3∧j≤(atomsOf s.2.2).length,fun j=>(atomsOf s.2.2).length - j,⟨0,[(0,0),(1,1),(2,2)],?_,rfl,Nat.zero_le _⟩,?_⟩
   ·have e3:B 0=false:=by rw[hB];rfl
    have e4:Value.bool (B 0)=Value.bool false:=by rw[e3]
    have e5:Value.bool false=Value.bool (B 0):=by rw[e3]
    have e6:=e3.symm
    (repeat' (first|exact trivial|refine⟨?_,?_⟩|exact rfl|assumption))
   rintro j H4 _ ⟨rfl,hj⟩;refine⟨fun h=>?_,fun h=>?_⟩
   ·have hjl:j<(atomsOf s.2.2).length:=by have:=dt h;omega
    refine name_k (atomsOf s.2.2)[j] fun y hye=>?_
    have hyy:(atomsOf s.2.2)[j]?=some y:=by rw[hye];exact List.getElem?_eq_getElem hjl
    have hBs:B (j+1)=(B j||namedA y):=by rw[hB,hB];exact any_take hyy
    refine atom_k hr6 hyy fun ad3 q3 hh3 hRy=>?_
    refine⟨ad3,⟨by omega,by omega,q3⟩,?_⟩;refine⟨_,hh3,?_⟩;refine⟨fun hb=>?_,fun hb=>?_⟩
    ·have e3:(SV.v (.bool (namedA y)):SV) = .v (.bool (B (j+1))):=by rw[hBs,hb];rfl
     refine⟨⟨by omega,by omega⟩,j+1,[(0,0),(1,1),(2,2)],?_,⟨rfl,hjl⟩,by dsimp only;omega⟩
     (repeat' (first|exact trivial|refine⟨?_,?_⟩|exact rfl|assumption))
    ·have e3:B (j+1)=true:=by rw[hBs,hb];rfl
     have e5:Value.bool (B (j+1))=Value.bool true:=by rw[e3]
     have e6:Value.bool true=Value.bool (B (j+1)):=by rw[e3]
     have e7:=e3.symm
     have e4:(SV.v (.bool (B j)):SV) = .v (.bool (B (j+1))):=by rw[hBs,hb];rfl
     refine⟨⟨by omega,by omega⟩,j+1,[(0,0),(1,1),(2,2)],?_,⟨rfl,hjl⟩,by dsimp only;omega⟩
     (repeat' (first|exact trivial|refine⟨?_,?_⟩|exact rfl|assumption))
   ·have hjl:j=(atomsOf s.2.2).length:=by have:=df h;omega
    have hA:B j=(atomsOf s.2.2).any namedA:=by rw[hB,hjl,List.take_length]
    refine fam_k (fun m=>(atomsOf s.2.2).any namedA&&decide (s.2.2 ∉ (F i k).take m)) fun C hC=>?_
    refine⟨Nat,fun m=>⟨[(3,.own 1),(7,.ptr 2 0),(8,.v (.bool (C m))),(14,.v (.slice a n c)),(15,.v (.int .i64 n)),(16,.v (.int .i64 i)),(21,.v (.slice a5 n5 c5)),(22,.v (.int .i64 n5)),(23,.v (.int .i64 k)),(42,.own 1),(43,.v (.int .i64 (xRows (F i k)).length)),(44,.v (.int .i64 m))],[(0,.cells 24 [.v (.slice a n c)]),(1,.row 55 7 (xRows (F i k))),(2,.cells 57 (vL (stmtV s)))],3⟩,
     fun m H'=>H'=H4∧m≤(F i k).length,fun m=>(F i k).length - m,⟨0,[(0,0),(1,1),(2,2)],?_,rfl,Nat.zero_le _⟩,?_⟩
    ·have e3:(SV.v (.bool (B j)):SV) = .v (.bool (C 0)):=by rw[hC,hA];simp
     (repeat' (first|exact trivial|refine⟨?_,?_⟩|exact rfl|assumption))
    rintro m H5 _ ⟨rfl,hm⟩;refine⟨fun h=>?_,fun h=>?_⟩
    ·have hml:m<(F i k).length:=by have:=dt h;omega
     refine name_k (F i k)[m] fun y hye=>?_
     have hyy:(F i k)[m]?=some y:=by rw[hye];exact List.getElem?_eq_getElem hml
     have hg:(xRows (F i k))[m]?=some (exprV y):=by rw[List.getElem?_map,hyy];rfl
     refine⟨⟨by omega,by omega⟩,?_⟩;refine⟨_,hg,?_⟩
     have hCs:C (m+1)=(C m&&!decide (s.2.2=y)):=by
      rw[hC,hC,List.take_add_one,hyy,Bool.and_assoc]
      congr 1
      rw[Bool.eq_iff_iff];simp
     refine⟨fun h=>?_,fun h=>?_⟩
     ·have hxy:decide (y=s.2.2)=true:=(eqX_vc y s.2.2).symm.trans h;have hxy:s.2.2=y:=(of_decide_eq_true hxy).symm
      have e3:C (m+1)=false:=by rw[hCs,decide_eq_true hxy];simp
      have e6:Value.bool false=Value.bool (C (m+1)):=by rw[e3]
      have e5:Value.bool (C (m+1))=Value.bool false:=by rw[e3]
      refine⟨⟨by omega,by omega⟩,m+1,[(0,0),(1,1),(2,2)],?_,⟨rfl,hml⟩,by dsimp only;omega⟩
      (repeat' (first|exact trivial|refine⟨?_,?_⟩|exact rfl|assumption))
     ·have hxy:decide (y=s.2.2)=false:=(eqX_vc y s.2.2).symm.trans h
      have hxy:¬s.2.2=y:=fun e=>(of_decide_eq_false hxy) e.symm
      have e3:(SV.v (.bool (C m)):SV) = .v (.bool (C (m+1))):=by rw[hCs,decide_eq_false hxy];simp
      refine⟨⟨by omega,by omega⟩,m+1,[(0,0),(1,1),(2,2)],?_,⟨rfl,hml⟩,by dsimp only;omega⟩
      (repeat' (first|exact trivial|refine⟨?_,?_⟩|exact rfl|assumption))
    ·have hml:m=(F i k).length:=by have:=df h;omega
     have hCm:C m=((atomsOf s.2.2).any namedA&&decide (s.2.2 ∉ F i k)):=by rw[hC,hml,List.take_length]
     refine⟨fun h1=>?_,fun h1=>?_⟩
     case refine_2 =>
      have h1:¬s.1=1:=df h1
      have hno:¬(takesE s=true∧s.2.2 ∉ F i k):=fun h=>by rw[takesE,decide_eq_false h1]at h;cases h.1
      have e0:F i (k+1)=F i k:=by rw[hst,addE,if_neg hno]
      have e2:xRows (F i k)=xRows (F i (k+1)):=by rw[e0]
      refine⟨⟨by omega,by omega⟩,k+1,[(0,0),(1,1)],?_,⟨hle2.trans hle3,hkl⟩,by dsimp only;omega⟩
      (repeat' (first|exact trivial|refine⟨?_,?_⟩|exact rfl|assumption))
     have h1:s.1=1:=dt h1;refine⟨fun h0=>?_,fun h0=>?_⟩
     case refine_2 =>
      have h0:s.2.2.1=0:=nf h0
      have hno:¬(takesE s=true∧s.2.2 ∉ F i k):=fun h=>by rw[takesE,decide_eq_true h1,decide_eq_true h0]at h;cases h.1
      have e0:F i (k+1)=F i k:=by rw[hst,addE,if_neg hno]
      have e2:xRows (F i k)=xRows (F i (k+1)):=by rw[e0]
      refine⟨⟨by omega,by omega⟩,k+1,[(0,0),(1,1)],?_,⟨hle2.trans hle3,hkl⟩,by dsimp only;omega⟩
      (repeat' (first|exact trivial|refine⟨?_,?_⟩|exact rfl|assumption))
     have h0:¬s.2.2.1=0:=nt h0;refine⟨fun hc=>?_,fun hc=>?_⟩
     case refine_2 =>
      have hc:C m=false:=hc
      have hno:¬(takesE s=true∧s.2.2 ∉ F i k):=fun h=>by
       have h3:=h.1;rw[takesE,decide_eq_true h1,decide_eq_false h0]at h3
       have h3:(atomsOf s.2.2).any namedA=true:=by simpa using h3
       rw[hCm,h3,decide_eq_true h.2]at hc;cases hc
      have e0:F i (k+1)=F i k:=by rw[hst,addE,if_neg hno]
      have e2:xRows (F i k)=xRows (F i (k+1)):=by rw[e0]
      refine⟨⟨by omega,by omega⟩,k+1,[(0,0),(1,1)],?_,⟨hle2.trans hle3,hkl⟩,by dsimp only;omega⟩
      (repeat' (first|exact trivial|refine⟨?_,?_⟩|exact rfl|assumption))
     have hc:C m=true:=hc;rw[hCm,Bool.and_eq_true]at hc;have hin:s.2.2 ∉ F i k:=of_decide_eq_true hc.2
     have htk:takesE s=true:=by rw[takesE,decide_eq_true h1,decide_eq_false h0,hc.1];rfl
     have e0:F i (k+1)=F i k++[s.2.2]:=by rw[hst,addE,if_pos ⟨htk,hin⟩]
     have e2:xRows (F i k)++[exprV s.2.2]=xRows (F i (k+1)):=by rw[e0,xRows,xRows,List.map_append];rfl
     refine⟨⟨by show ((xRows (F i k)).length+1)*72≤140737488355328;omega,by show (xRows (F i k)).length+1≤9223372036854775807;omega⟩,?_⟩;refine⟨⟨by omega,by omega⟩,k+1,[(0,0),(1,4)],?_,⟨hle2.trans hle3,hkl⟩,by dsimp only;omega⟩
     (repeat' (first|exact trivial|refine⟨?_,?_⟩|exact rfl|assumption))
  ·have hil:k=b.2.1.length:=by have:=df h;omega
   subst hil;have hg:=hF.gs i b hbb
   have e2:xRows (F i b.2.1.length)=xRows (G (i+1)):=by rw[hg]
   refine⟨⟨by omega,by omega⟩,i+1,[(0,0),(1,1)],?_,⟨hle1.trans hle2,hlt⟩,by dsimp only;omega⟩
   (repeat' (first|exact trivial|refine⟨?_,?_⟩|exact rfl|assumption))
 ·have hil:i=p.length:=by have:=df h;omega
  subst hil;rw[hF.ge];intro v H3 hle3 hv3;have hR:=hF.R p.length 0;rw[hF.f0,hF.ge]at hR
  refine of_row_k (α:=Expr) hv3 (rc_xRows hR) fun d1 d2 d3 ev hr=>?_
  subst ev;exact hK _ _ _ _ (hle1.trans hle3.le) hr
end Go.Proofs
end
section
namespace Go.Proofs
open Go.Sy
set_option maxRecDepth 20000
set_option maxHeartbeats 4000000
def killE (s:Stmt) (x:Expr):Bool:=!decide (s.2.1.l=[])&&asksE x s.2.1.l
def setsE (s:Stmt) (x:Expr):Bool:=decide (s.1=1)&&decide (s.2.2=x)
def kn1 (x:Expr) (k:Bool) (s:Stmt):Bool:=if killE s x then false else if setsE s x then true else k
def knB (x:Expr) (l:List Stmt):Bool:=l.foldl (kn1 x) false
def losB (x:Expr) (l:List Stmt):Bool:=l.any fun s=>killE s x
open Classical in
noncomputable def mapF (f:Nat→Bool):Lit→Int:=fun kl=>if ∃i:Nat,kl = .int .i64 (i:Int)∧f i=true then 1 else 0
theorem mapF_at (f:Nat→Bool) (i:Nat):mapF f (.int .i64 (i:Int))=if f i=true then 1 else 0:=by
 unfold mapF
 by_cases h:f i=true
 ·rw[if_pos ⟨i,rfl,h⟩,if_pos h]
 ·rw[if_neg (fun⟨j,e,hj⟩=>h (by
   have:(i:Int)=(j:Int):=by injection e
   have:i=j:=by omega
   rw[this];exact hj)),if_neg h]
theorem mapF_nil:(fun _=>0)=mapF fun _=>false:=by
 funext kl;unfold mapF;rw[if_neg (fun⟨_,_,h⟩=>by cases h)]
theorem mapF_upd {f g:Nat→Bool} {i:Nat} {b:Bool} (hg:∀j,g j=if j=i then b else f j):updL (mapF f) (.int .i64 (i:Int)) (if b=true then 1 else 0)=mapF g:=by
 funext kl;unfold updL mapF
 by_cases h:kl = .int .i64 (i:Int)
 ·rw[if_pos h]
  by_cases hb:b=true
  ·rw[if_pos hb,if_pos ⟨i,h,by rw[hg,if_pos rfl];exact hb⟩]
  ·rw[if_neg hb,if_neg];rintro⟨j,e,hj⟩
   have:(i:Int)=(j:Int):=by rw[h]at e;injection e
   have:j=i:=by omega
   rw[hg,if_pos this]at hj;exact hb hj
 ·rw[if_neg h]
  have e:(∃j:Nat,kl = .int .i64 (j:Int)∧f j=true)↔∃j:Nat,kl = .int .i64 (j:Int)∧g j=true:=by
   constructor
   ·rintro⟨j,e,hj⟩;exact⟨j,e,by rw[hg,if_neg (fun h2=>h (by rw[e,h2]))];exact hj⟩
   ·rintro⟨j,e,hj⟩;rw[hg,if_neg (fun h2=>h (by rw[e,h2]))]at hj;exact⟨j,e,hj⟩
  by_cases h2:∃j:Nat,kl = .int .i64 (j:Int)∧f j=true
  ·rw[if_pos h2,if_pos (e.1 h2)]
  ·rw[if_neg h2,if_neg (fun h3=>h2 (e.2 h3))]
noncomputable def mP (n:Nat) (f:Nat→Bool):Obj→Prop:=MapI Tryz.prog 3 3 n (mapF f)
theorem keyOfI {i:Nat} (h:i≤1000000):keyOf Tryz.prog 3 (.int .i64 (i:Int))=some (.int .i64 (i:Int)) :=
 Maps.keyOf_int_mk (tt_ok 3 _ _ rfl).2 (litI ⟨by omega,by omega⟩)
def knM (X:List Expr) (l:List Stmt) (k m:Nat) (i:Nat):Bool:=match X[i]? with
 | some x=>knB x (l.take (if i<m then k+1 else k))
 | none=>false
def losM (X:List Expr) (l:List Stmt) (k m:Nat) (i:Nat):Bool:=match X[i]? with
 | some x=>losB x (l.take (if i<m then k+1 else k))
 | none=>false
theorem knB_take {x:Expr} {l:List Stmt} {k:Nat} {s:Stmt} (h:l[k]?=some s):knB x (l.take (k+1))=kn1 x (knB x (l.take k)) s:=by
 rw[knB,List.take_add_one,h,List.foldl_append];rfl
theorem losB_take {x:Expr} {l:List Stmt} {k:Nat} {s:Stmt} (h:l[k]?=some s):losB x (l.take (k+1))=(losB x (l.take k)||killE s x):=any_take h
structure FamM (X:List Expr) (l:List Stmt) (K L:Nat→Nat→Nat→Bool):Prop where
 k0:K 0 0=fun _=>false
 l0:L 0 0=fun _=>false
 kn:∀k,K k X.length=K (k+1) 0
 ln:∀k,L k X.length=L (k+1) 0
 ks:∀k m s x,l[k]?=some s→X[m]?=some x→∀i,K k (m+1) i=if i=m then kn1 x (K k m m) s else K k m i
 ls:∀k m s x,l[k]?=some s→X[m]?=some x→∀i,L k (m+1) i=if i=m then (L k m m||killE s x) else L k m i
 ke:∀i x,X[i]?=some x→K l.length 0 i=knB x l
 le:∀i x,X[i]?=some x→L l.length 0 i=losB x l
theorem famM_k {P:Prop} (X:List Expr) (l:List Stmt) (k:∀K L,FamM X l K L→P):P:=by
 refine k (knM X l) (losM X l) ⟨?_,?_,fun k=>?_,fun k=>?_,fun k m s x hs hx i=>?_,fun k m s x hs hx i=>?_,fun i x hx=>?_,fun i x hx=>?_⟩
 ·funext i;unfold knM;split
  ·rw[if_neg (by omega)];rfl
  ·rfl
 ·funext i;unfold losM;split
  ·rw[if_neg (by omega)];rfl
  ·rfl
 ·funext i;unfold knM;split
  ·rename_i x hx;rw[if_pos (List.getElem?_eq_some_iff.1 hx).1,if_neg (by omega)]
  ·rfl
 ·funext i;unfold losM;split
  ·rename_i x hx;rw[if_pos (List.getElem?_eq_some_iff.1 hx).1,if_neg (by omega)]
  ·rfl
 ·unfold knM
  by_cases h:i=m
  ·subst h;rw[if_pos rfl,hx];dsimp only;rw[if_pos (by omega),if_neg (by omega),knB_take hs]
  ·rw[if_neg h]
   have e:(i<m+1)=(i<m):=by rw[eq_iff_iff];omega
   simp only[e]
 ·unfold losM
  by_cases h:i=m
  ·subst h;rw[if_pos rfl,hx];dsimp only;rw[if_pos (by omega),if_neg (by omega),losB_take hs]
  ·rw[if_neg h]
   have e:(i<m+1)=(i<m):=by rw[eq_iff_iff];omega
   simp only[e]
 ·unfold knM;rw[hx];dsimp only;rw[if_neg (by omega),List.take_length]
 ·unfold losM;rw[hx];dsimp only;rw[if_neg (by omega),List.take_length]
def agen (X:List Expr) (l:List Stmt) (i:Nat):List Int:=((List.range i).filter fun k=>knB (X[k]?.getD (0,za,za)) l).map fun k:Nat=>(k:Int)
def akil (X:List Expr) (l:List Stmt) (i:Nat):List Int:=((List.range i).filter fun k=>!knB (X[k]?.getD (0,za,za)) l&&losB (X[k]?.getD (0,za,za)) l).map fun k:Nat=>(k:Int)
def atrF (X:List Expr) (b:Block):Wd×Wd:=(ofB X.length (agen X b.2.1 X.length),ofB X.length (akil X b.2.1 X.length))
theorem sel_succ (f:Nat→Bool) (i:Nat):((List.range (i+1)).filter f).map (fun k:Nat=>(k:Int))=((List.range i).filter f).map (fun k:Nat=>(k:Int))++(if f i=true then [(i:Int)] else []):=by
 rw[List.range_succ,List.filter_append,List.map_append]
 by_cases h:f i=true
 ·simp [h]
 ·simp [h]
theorem sel_len (f:Nat→Bool) (i:Nat):(((List.range i).filter f).map (fun k:Nat=>(k:Int))).length≤i:=by
 rw[List.length_map];exact Nat.le_trans (List.length_filter_le _ _) (by rw[List.length_range];exact Nat.le_refl _)
theorem sel_in {f:Nat→Bool} {i:Nat} (hi:i≤1000000):∀x∈((List.range i).filter f).map (fun k:Nat=>(k:Int)),inI x:=fun x hx=>by
 obtain⟨k,hk,rfl⟩:=List.mem_map.1 hx;have:=List.mem_range.1 (List.mem_filter.1 hk).1;exact⟨by omega,by omega⟩
structure FamS (X:List Expr) (l:List Stmt) (A B:Nat→List Int):Prop where
 a0:A 0=[]
 b0:B 0=[]
 a1:∀i x,X[i]?=some x→A (i+1)=A i++(if knB x l=true then [(i:Int)] else [])
 b1:∀i x,X[i]?=some x→B (i+1)=B i++(if (!knB x l&&losB x l)=true then [(i:Int)] else [])
 al:∀i,(A i).length≤i
 bl:∀i,(B i).length≤i
 ai:∀i,i≤1000000→∀x∈A i,inI x
 bi:∀i,i≤1000000→∀x∈B i,inI x
 ae:A X.length=agen X l X.length
 be:B X.length=akil X l X.length
theorem famS_k {P:Prop} (X:List Expr) (l:List Stmt) (k:∀A B,FamS X l A B→P):P:=by
 refine k (agen X l) (akil X l) ⟨rfl,rfl,fun i x hx=>?_,fun i x hx=>?_,sel_len _,sel_len _,fun i hi=>sel_in hi,fun i hi=>sel_in hi,rfl,rfl⟩
 ·have:=sel_succ (fun k=>knB (X[k]?.getD (0,za,za)) l) i;rw[hx]at this;exact this
 ·have:=sel_succ (fun k=>!knB (X[k]?.getD (0,za,za)) l&&losB (X[k]?.getD (0,za,za)) l) i;rw[hx]at this;exact this
end Go.Proofs
end
section
namespace Go.Proofs
open Go.Sy
set_option maxRecDepth 20000
set_option maxHeartbeats 4000000
theorem expr_k {P:Prop} {H:Hp} {a:Option Addr} {n c:Nat} {xs:List Expr} (h:RL H a n c xs) {i:Nat} {x:Expr} (hi:xs[i]?=some x) (k:∀ad,a=some ad→ElemH H ad (i:Int) 7 (exprV x)→exprR x→P):P :=
 elem_k h hi fun ad cs h1 h2 h3=>by
  obtain⟨rfl,h4⟩:=expr_open h3;exact k ad h1 h2 h4
theorem mP_nil:MapI Tryz.prog 3 3 0 (fun _=>0)=mP 0 fun _=>false:=by rw[mP,mapF_nil]
theorem mP_upd1 {n:Nat} {f g:Nat→Bool} {i:Nat} (hg:∀j,g j=if j=i then true else f j):MapI Tryz.prog 3 3 (n+1) (updL (mapF f) (.int .i64 (i:Int)) 1)=mP (n+1) g:=by
 rw[mP,←mapF_upd (b:=true) hg,if_pos rfl]
theorem mP_upd0 {n:Nat} {f g:Nat→Bool} {i:Nat} (hg:∀j,g j=if j=i then false else f j):MapI Tryz.prog 3 3 (n+1) (updL (mapF f) (.int .i64 (i:Int)) 0)=mP (n+1) g:=by
 rw[mP,←mapF_upd (b:=false) hg,if_neg (by decide)]
theorem mP_upd10 {n:Nat} {f g:Nat→Bool} {i:Nat} (hg:∀j,g j=if j=i then false else f j):MapI Tryz.prog 3 3 (n+1+1) (updL (updL (mapF f) (.int .i64 (i:Int)) 1) (.int .i64 (i:Int)) 0)=mP (n+1+1) g:=by
 have h1:=mapF_upd (f:=f) (g:=fun j=>if j=i then true else f j) (i:=i) (b:=true) (fun j=>rfl);rw[if_pos rfl]at h1;rw[h1]
 refine mP_upd0 (f:=fun j=>if j=i then true else f j) fun j=>?_
 rw[hg]
 by_cases e:j=i
 ·rw[if_pos e,if_pos e]
 ·rw[if_neg e,if_neg e,if_neg e]
theorem atrans_spec {X:List Expr} (hX:X.length≤1024) {b:Block} (hb:b.2.1.length≤100000) {a la:Option Addr} {n c ln lc:Nat} {H:Hp} {K:Value→Hp→Prop} (ha:RL H a n c X) (hl:RL H la ln lc b.2.1) (hK:∀z H',Le H H'→Bt.TrR H' (atrF X b) z→K (Bt.trA z) H'):
  Does Tryz.prog 58 [.slice a n c,blkA (.slice la ln lc) b] H K:=by
 have hn:=ha.n_eq;have hln:=hl.n_eq
 refine famM_k X b.2.1 fun Kn Ls hM=>?_
 refine spec_of cx_ok cx_mix rfl Tryz.func58 Tryz.call58 Tryz.ntmps58 Tryz.results58 rfl rfl ?_;refine⟨mapOK3,?_⟩;refine⟨mapOK3,?_⟩
 refine⟨Nat×Nat×Nat,fun q=>⟨[(0,.v (.slice a n c)),(4,.ptr 1 0),(5,.mp 2),(6,.mp 3),(17,.v (.slice la ln lc)),(18,.v (.int .i64 ln)),(19,.v (.int .i64 q.1))],[(1,.cells 78 (vL [.slice none 0 0,.slice none 0 0,.slice none 0 0])),(2,.obj (mP q.2.1 (Kn q.1 0))),(3,.obj (mP q.2.2 (Ls q.1 0)))],4⟩,
  fun q H'=>Le H H'∧q.1≤b.2.1.length∧q.2.1≤2100*q.1∧q.2.2≤1100*q.1,fun q=>b.2.1.length - q.1,⟨(0,0,0),[(1,1),(2,2),(3,3)],?_,Le.refl H,Nat.zero_le _,Nat.zero_le _,Nat.zero_le _⟩,?_⟩
 ·have e1:MapI Tryz.prog 3 3 0 (fun _=>0)=mP 0 (Kn 0 0):=by rw[hM.k0];exact mP_nil
  have e2:MapI Tryz.prog 3 3 0 (fun _=>0)=mP 0 (Ls 0 0):=by rw[hM.l0];exact mP_nil
  (repeat' (first|exact trivial|refine⟨?_,?_⟩|exact rfl|assumption))
 rintro⟨k,u,v⟩ H1 _ ⟨hle1,hk,hu,hv⟩;dsimp only at hk hu hv;refine⟨fun h=>?_,fun h=>?_⟩
 ·have hlt:k<b.2.1.length:=by have:=dt h;dsimp only at this;omega
  refine name_k b.2.1[k] fun s hse=>?_
  have hss:b.2.1[k]?=some s:=by rw[hse];exact List.getElem?_eq_getElem hlt
  refine stmt_k (hl.up hle1) hss fun ad q1 hh hR=>?_
  refine⟨ad,⟨by dsimp only;omega,by dsimp only;omega,q1⟩,?_⟩;refine⟨_,hh,?_⟩
  refine⟨Nat×Nat×Nat,fun q=>⟨[(0,.v (.slice a n c)),(4,.ptr 1 0),(5,.mp 2),(6,.mp 3),(8,.ptr 4 0),(17,.v (.slice la ln lc)),(18,.v (.int .i64 ln)),(19,.v (.int .i64 k)),(23,.v (.slice a n c)),(24,.v (.int .i64 n)),(25,.v (.int .i64 q.1))],[(1,.cells 78 (vL [.slice none 0 0,.slice none 0 0,.slice none 0 0])),(2,.obj (mP q.2.1 (Kn k q.1))),(3,.obj (mP q.2.2 (Ls k q.1))),(4,.cells 57 (vL (stmtV s)))],5⟩,
   fun q H'=>Le H1 H'∧q.1≤X.length∧q.2.1≤u+2*q.1∧q.2.2≤v+q.1,fun q=>X.length - q.1,⟨(0,u,v),[(1,1),(2,2),(3,3),(4,4)],?_,Le.refl H1,Nat.zero_le _,Nat.le_refl _,Nat.le_refl _⟩,?_⟩
  ·(repeat' (first|exact trivial|refine⟨?_,?_⟩|exact rfl|assumption))
  rintro⟨m,u2,v2⟩ H2 _ ⟨hle2,hm,hu2,hv2⟩;dsimp only at hm hu2 hv2;refine⟨fun h=>?_,fun h=>?_⟩
  ·have hml:m<X.length:=by have:=dt h;dsimp only at this;omega
   refine name_k X[m] fun x hxe=>?_
   have hxx:X[m]?=some x:=by rw[hxe];exact List.getElem?_eq_getElem hml
   have hks:=hM.ks k m s x hss hxx;have hls:=hM.ls k m s x hss hxx
   refine expr_k (ha.up (hle1.trans hle2)) hxx fun ad2 q2 hh2 hRx=>?_
   refine⟨ad2,⟨by dsimp only;omega,by dsimp only;omega,q2⟩,?_⟩;refine⟨_,hh2,?_⟩;refine⟨fun h1=>?_,fun h1=>?_⟩
   ·have h1:s.1=1:=dt h1;refine⟨fun hx=>?_,fun hx=>?_⟩
    ·have hx:s.2.2=x:=of_decide_eq_true ((eqX_vc s.2.2 x).symm.trans hx)
     have hset:setsE s x=true:=by rw[setsE,decide_eq_true h1,decide_eq_true hx];rfl
     refine⟨_,_,.int .i64 (m:Int),rfl,keyOfI (by omega),⟨by first | omega | (dsimp only;omega),by decide,by decide⟩,?_⟩
     refine ahas_spec hRx fun _ _=>?_
     refine⟨fun hkill=>?_,fun hkill=>?_⟩
     ·have hkill:killE s x=true:=hkill
      have e2:MapI Tryz.prog 3 3 (v2+1) (updL (mapF (Ls k m)) (.int .i64 (m:Int)) 1)=mP (v2+1) (Ls k (m+1)):=mP_upd1 fun j=>by rw[hls,hkill,Bool.or_true]
      have e1:MapI Tryz.prog 3 3 (u2+1+1) (updL (updL (mapF (Kn k m)) (.int .i64 (m:Int)) 1) (.int .i64 (m:Int)) 0)=mP (u2+1+1) (Kn k (m+1)):=mP_upd10 fun j=>by rw[hks,show kn1 x (Kn k m m) s=false by rw[kn1,if_pos hkill]]
      refine⟨_,_,.int .i64 (m:Int),rfl,keyOfI (by omega),⟨by first | omega | (dsimp only;omega),by decide,by decide⟩,?_⟩;refine⟨_,_,.int .i64 (m:Int),rfl,keyOfI (by omega),⟨by first | omega | (dsimp only;omega),by decide,by decide⟩,?_⟩;refine⟨⟨by dsimp only;omega,by dsimp only;omega⟩,(m+1,u2+1+1,v2+1),[(1,1),(2,2),(3,3),(4,4)],?_,⟨hle2,hml,by dsimp only;omega,by dsimp only;omega⟩,by dsimp only;omega⟩
      (repeat' (first|exact trivial|refine⟨?_,?_⟩|exact rfl|assumption))
     ·have hkill:killE s x=false:=hkill
      have hls2:Ls k (m+1)=Ls k m:=funext fun j=>by
       rw[hls,hkill,Bool.or_false];split
       ·rename_i e;rw[e]
       ·rfl
      have e2:mP v2 (Ls k m)=mP v2 (Ls k (m+1)):=by rw[hls2]
      have e1:MapI Tryz.prog 3 3 (u2+1) (updL (mapF (Kn k m)) (.int .i64 (m:Int)) 1)=mP (u2+1) (Kn k (m+1)):=mP_upd1 fun j=>by rw[hks,show kn1 x (Kn k m m) s=true by rw[kn1,if_neg (by rw[hkill];decide),if_pos hset]]
      refine⟨⟨by dsimp only;omega,by dsimp only;omega⟩,(m+1,u2+1,v2),[(1,1),(2,2),(3,3),(4,4)],?_,⟨hle2,hml,by dsimp only;omega,by dsimp only;omega⟩,by dsimp only;omega⟩
      (repeat' (first|exact trivial|refine⟨?_,?_⟩|exact rfl|assumption))
    ·have hx:¬s.2.2=x:=of_decide_eq_false ((eqX_vc s.2.2 x).symm.trans hx)
     have hset:setsE s x=false:=by rw[setsE,decide_eq_false hx,Bool.and_false]
     refine ahas_spec hRx fun _ _=>?_
     refine⟨fun hkill=>?_,fun hkill=>?_⟩
     ·have hkill:killE s x=true:=hkill
      have e2:MapI Tryz.prog 3 3 (v2+1) (updL (mapF (Ls k m)) (.int .i64 (m:Int)) 1)=mP (v2+1) (Ls k (m+1)):=mP_upd1 fun j=>by rw[hls,hkill,Bool.or_true]
      have e1:MapI Tryz.prog 3 3 (u2+1) (updL (mapF (Kn k m)) (.int .i64 (m:Int)) 0)=mP (u2+1) (Kn k (m+1)):=mP_upd0 fun j=>by rw[hks,show kn1 x (Kn k m m) s=false by rw[kn1,if_pos hkill]]
      refine⟨_,_,.int .i64 (m:Int),rfl,keyOfI (by omega),⟨by first | omega | (dsimp only;omega),by decide,by decide⟩,?_⟩;refine⟨_,_,.int .i64 (m:Int),rfl,keyOfI (by omega),⟨by first | omega | (dsimp only;omega),by decide,by decide⟩,?_⟩;refine⟨⟨by dsimp only;omega,by dsimp only;omega⟩,(m+1,u2+1,v2+1),[(1,1),(2,2),(3,3),(4,4)],?_,⟨hle2,hml,by dsimp only;omega,by dsimp only;omega⟩,by dsimp only;omega⟩
      (repeat' (first|exact trivial|refine⟨?_,?_⟩|exact rfl|assumption))
     ·have hkill:killE s x=false:=hkill
      have hls2:Ls k (m+1)=Ls k m:=funext fun j=>by
       rw[hls,hkill,Bool.or_false];split
       ·rename_i e;rw[e]
       ·rfl
      have e2:mP v2 (Ls k m)=mP v2 (Ls k (m+1)):=by rw[hls2]
      have hks2:Kn k (m+1)=Kn k m:=funext fun j=>by
       rw[hks,show kn1 x (Kn k m m) s=Kn k m m by rw[kn1,if_neg (by rw[hkill];decide),if_neg (by rw[hset];decide)]];split
       ·rename_i e;rw[e]
       ·rfl
      have e1:mP u2 (Kn k m)=mP u2 (Kn k (m+1)):=by rw[hks2]
      refine⟨⟨by dsimp only;omega,by dsimp only;omega⟩,(m+1,u2,v2),[(1,1),(2,2),(3,3),(4,4)],?_,⟨hle2,hml,by dsimp only;omega,by dsimp only;omega⟩,by dsimp only;omega⟩
      (repeat' (first|exact trivial|refine⟨?_,?_⟩|exact rfl|assumption))
   ·have h1:¬s.1=1:=df h1
    have hset:setsE s x=false:=by rw[setsE,decide_eq_false h1,Bool.false_and]
    refine ahas_spec hRx fun _ _=>?_
    refine⟨fun hkill=>?_,fun hkill=>?_⟩
    ·have hkill:killE s x=true:=hkill
     have e2:MapI Tryz.prog 3 3 (v2+1) (updL (mapF (Ls k m)) (.int .i64 (m:Int)) 1)=mP (v2+1) (Ls k (m+1)):=mP_upd1 fun j=>by rw[hls,hkill,Bool.or_true]
     have e1:MapI Tryz.prog 3 3 (u2+1) (updL (mapF (Kn k m)) (.int .i64 (m:Int)) 0)=mP (u2+1) (Kn k (m+1)):=mP_upd0 fun j=>by rw[hks,show kn1 x (Kn k m m) s=false by rw[kn1,if_pos hkill]]
     refine⟨_,_,.int .i64 (m:Int),rfl,keyOfI (by omega),⟨by first | omega | (dsimp only;omega),by decide,by decide⟩,?_⟩;refine⟨_,_,.int .i64 (m:Int),rfl,keyOfI (by omega),⟨by first | omega | (dsimp only;omega),by decide,by decide⟩,?_⟩;refine⟨⟨by dsimp only;omega,by dsimp only;omega⟩,(m+1,u2+1,v2+1),[(1,1),(2,2),(3,3),(4,4)],?_,⟨hle2,hml,by dsimp only;omega,by dsimp only;omega⟩,by dsimp only;omega⟩
     (repeat' (first|exact trivial|refine⟨?_,?_⟩|exact rfl|assumption))
    ·have hkill:killE s x=false:=hkill
     have hls2:Ls k (m+1)=Ls k m:=funext fun j=>by
      rw[hls,hkill,Bool.or_false];split
      ·rename_i e;rw[e]
      ·rfl
     have e2:mP v2 (Ls k m)=mP v2 (Ls k (m+1)):=by rw[hls2]
     have hks2:Kn k (m+1)=Kn k m:=funext fun j=>by
      rw[hks,show kn1 x (Kn k m m) s=Kn k m m by rw[kn1,if_neg (by rw[hkill];decide),if_neg (by rw[hset];decide)]];split
      ·rename_i e;rw[e]
      ·rfl
     have e1:mP u2 (Kn k m)=mP u2 (Kn k (m+1)):=by rw[hks2]
     refine⟨⟨by dsimp only;omega,by dsimp only;omega⟩,(m+1,u2,v2),[(1,1),(2,2),(3,3),(4,4)],?_,⟨hle2,hml,by dsimp only;omega,by dsimp only;omega⟩,by dsimp only;omega⟩
     (repeat' (first|exact trivial|refine⟨?_,?_⟩|exact rfl|assumption))
  ·have hml:m=X.length:=by have:=df h;dsimp only at this;omega
   subst hml
   have e1:mP u2 (Kn k X.length)=mP u2 (Kn (k+1) 0):=by rw[hM.kn]
   have e2:mP v2 (Ls k X.length)=mP v2 (Ls (k+1) 0):=by rw[hM.ln]
   refine⟨⟨by first | omega | (dsimp only;omega),by first | omega | (dsimp only;omega)⟩,(k+1,u2,v2),[(1,1),(2,2),(3,3)],?_,⟨hle1.trans hle2,hlt,by dsimp only;omega,by dsimp only;omega⟩,by dsimp only;omega⟩
   (repeat' (first|exact trivial|refine⟨?_,?_⟩|exact rfl|assumption))
 ·have hkl:k=b.2.1.length:=by have:=df h;dsimp only at this;omega
  refine famS_k X b.2.1 fun A B hS=>?_
  have hKe:=hM.ke;have hLe:=hM.le;rw[←hkl]at hKe hLe
  refine⟨Nat,fun i=>⟨[(0,.v (.slice a n c)),(4,.ptr 1 0),(5,.mp 2),(6,.mp 3),(11,.own 4),(12,.own 5),(51,.v (.slice a n c)),(52,.v (.int .i64 n)),(53,.v (.int .i64 i))],[(1,.cells 78 (vL [.slice none 0 0,.slice none 0 0,.slice none 0 0])),(2,.obj (mP u (Kn k 0))),(3,.obj (mP v (Ls k 0))),(4,.row 3 1 (iRows (A i))),(5,.row 3 1 (iRows (B i)))],6⟩,
   fun i H'=>Le H1 H'∧i≤X.length,fun i=>X.length - i,⟨0,[(1,1),(2,2),(3,3)],?_,Le.refl H1,Nat.zero_le _⟩,?_⟩
  ·have e1:iRows (A 0)=[]:=by rw[hS.a0];rfl
   have e2:iRows (B 0)=[]:=by rw[hS.b0];rfl
   (repeat' (first|exact trivial|refine⟨?_,?_⟩|exact rfl|assumption))
  rintro i H2 _ ⟨hle2,hi⟩;have hal:=hS.al i;have hbl:=hS.bl i;have hail:(iRows (A i)).length=(A i).length:=List.length_map _;have hbil:(iRows (B i)).length=(B i).length:=List.length_map _;refine⟨fun h=>?_,fun h=>?_⟩
  ·have hil:i<X.length:=by have:=dt h;omega
   refine name_k X[i] fun x hxe=>?_
   have hxx:X[i]?=some x:=by rw[hxe];exact List.getElem?_eq_getElem hil
   have hA1:=hS.a1 i x hxx;have hB1:=hS.b1 i x hxx;have hk1:=mapF_at (Kn k 0) i;rw[hKe i x hxx]at hk1;have hl1:=mapF_at (Ls k 0) i;rw[hLe i x hxx]at hl1;refine⟨_,_,.int .i64 (i:Int),rfl,keyOfI (by omega),?_⟩;refine⟨fun h1=>?_,fun h1=>?_⟩
   ·have h1:=dt h1;rw[hk1]at h1
    have h1:knB x b.2.1=true:=Decidable.byContradiction fun h2=>by rw[if_neg h2]at h1;omega
    have e1:iRows (A i)++[[.int .i64 (i:Nat)]]=iRows (A (i+1)):=by rw[hA1,if_pos h1,iRows,iRows,List.map_append];rfl
    have e2:iRows (B i)=iRows (B (i+1)):=by rw[hB1,h1,if_neg (by simp),List.append_nil]
    refine⟨⟨by show (_+1)*8≤140737488355328;omega,by show _+1≤9223372036854775807;omega⟩,?_⟩;refine⟨⟨by omega,by omega⟩,i+1,[(1,1),(2,2),(3,3),(4,7),(5,5)],?_,⟨hle2,hil⟩,by dsimp only;omega⟩
    (repeat' (first|exact trivial|refine⟨?_,?_⟩|exact rfl|assumption))
   ·have h1:=df h1;rw[hk1]at h1
    have h1:knB x b.2.1=false:=by
     cases hc:knB x b.2.1 with
     | false=>rfl
     | true=>rw[hc,if_pos rfl]at h1;exact absurd rfl h1
    have e1:iRows (A i)=iRows (A (i+1)):=by rw[hA1,h1,if_neg (by decide),List.append_nil]
    refine⟨_,_,.int .i64 (i:Int),rfl,keyOfI (by omega),?_⟩;refine⟨fun h2=>?_,fun h2=>?_⟩
    ·have h2:=dt h2;rw[hl1]at h2
     have h2:losB x b.2.1=true:=Decidable.byContradiction fun h3=>by rw[if_neg h3]at h2;omega
     have e2:iRows (B i)++[[.int .i64 (i:Nat)]]=iRows (B (i+1)):=by rw[hB1,h1,h2,if_pos (by decide),iRows,iRows,List.map_append];rfl
     refine⟨⟨by show (_+1)*8≤140737488355328;omega,by show _+1≤9223372036854775807;omega⟩,?_⟩;refine⟨⟨by omega,by omega⟩,i+1,[(1,1),(2,2),(3,3),(4,4),(5,7)],?_,⟨hle2,hil⟩,by dsimp only;omega⟩
     (repeat' (first|exact trivial|refine⟨?_,?_⟩|exact rfl|assumption))
    ·have h2:=df h2;rw[hl1]at h2
     have h2:losB x b.2.1=false:=by
      cases hc:losB x b.2.1 with
      | false=>rfl
      | true=>rw[hc,if_pos rfl]at h2;exact absurd rfl h2
     have e2:iRows (B i)=iRows (B (i+1)):=by rw[hB1,h1,h2,if_neg (by decide),List.append_nil]
     refine⟨⟨by omega,by omega⟩,i+1,[(1,1),(2,2),(3,3),(4,4),(5,5)],?_,⟨hle2,hil⟩,by dsimp only;omega⟩
     (repeat' (first|exact trivial|refine⟨?_,?_⟩|exact rfl|assumption))
  ·have hil:i=X.length:=by have:=df h;omega
   subst hil;rw[hS.ae,hS.be];have hAi:=hS.ai X.length (by omega);have hBi:=hS.bi X.length (by omega);rw[hS.ae]at hAi;rw[hS.be]at hBi;intro y1 H3 hle3 hy1
   refine of_row_k (α:=Int) hy1 (rc_iRows hAi) fun d1 d2 d3 ev1 hr1=>?_
   subst ev1
   have hnn:(n:Int)=((X.length:Nat):Int):=by omega
   rw[hnn]
   refine wof_spec hX hr1 fun g1 g2 g3 H4 hle4 hg=>?_
   intro y2 H5 hle5 hy2
   refine of_row_k (α:=Int) hy2 (rc_iRows hBi) fun f1 f2 f3 ev2 hr2=>?_
   subst ev2;rw[hnn]
   refine wof_spec hX hr2 fun k1 k2 k3 H6 hle6 hk6=>?_
   exact hK ⟨g1,g2,g3,k1,k2,k3⟩ H6 ((((hle1.trans hle2).trans hle3.le).trans hle4).trans (hle5.le.trans hle6)) ⟨hg.up (hle5.le.trans hle6),hk6⟩
end Go.Proofs
end
section
/- Plain words: the closures of client.Words. -/
namespace Go.Proofs
open Go.Sy
open Bt
set_option maxRecDepth 20000
set_option maxHeartbeats 4000000
noncomputable def cxC:Cx:={ cx with gf:=[20,24,26,28] }
theorem cxC_ok:TOK cxC:=⟨cx_ok.tt,cx_ok.eqs⟩
abbrev bStr (k:Nat) (a:Option Addr) (n c:Nat):Nat×Bx:=(k,.cells 36 [.v (.slice a n c)])
abbrev bWds (k:Nat) (a:Option Addr) (n c:Nat):Nat×Bx:=(k,.cells 25 [.v (.slice a n c)])
abbrev bPrg (k:Nat) (a:Option Addr) (n c:Nat):Nat×Bx:=(k,.cells 24 [.v (.slice a n c)])
abbrev bSts (k:Nat) (a:Option Addr) (n c:Nat):Nat×Bx:=(k,.cells 61 [.v (.slice a n c)])
abbrev bExs (k:Nat) (a:Option Addr) (n c:Nat):Nat×Bx:=(k,.cells 63 [.v (.slice a n c)])
theorem cnm2_spec {V:List Bs8} {x:Wd} {i:Nat} (hi:i<V.length) (hx:i<x.length) (hs:∀v∈V,v.length≤1000000) {a b:Option Addr} {n c m k:Nat} {H:Hp} {K:SV→St→Hp→Prop} (ha:RL H a n c (ens V)) (hb:RL H b m k x)
  (hK:K (.v (.string (bs (kvF V x i)))) ⟨[],[bStr 0 a n c,bWds 1 b m k],2⟩ H):DoesG Tryz.prog 24 [.v (.int .i64 i),.ptr 0 0,.ptr 1 0] [bStr 0 a n c,bWds 1 b m k] 2 H K:=by
 have hn:=ha.n_eq;rw[List.length_map]at hn;have hm:=hb.n_eq
 have e9:kvF V x i=V[i]++[61]++kTx x[i].toNat:=by
  rw[kvF,List.getD_eq_getElem?_getD,List.getElem?_eq_getElem hi,List.getD_eq_getElem?_getD,List.getElem?_eq_getElem hx];rfl
 rw[e9]at hK;have h1:=hs _ (List.getElem_mem hi)
 have h2:=kTx_len x[i].toNat
 refine spec_ofG cxC_ok cx_mix Tryz.func24 Tryz.call24 Tryz.ntmps24 Tryz.results24 rfl rfl ?_;refine⟨some ([],[0,1,2,3,4,5,6,7,8,9,10,11]),by kernel_rfl,?_⟩
 refine str_k ha (List.getElem?_eq_getElem hi) fun ad q1 hh _=>?_
 refine⟨ad,⟨by omega,by omega,q1⟩,?_⟩;refine⟨_,hh,?_⟩;refine⟨by show V[i].length+1≤_;omega,?_⟩
 refine word_k hb (List.getElem?_eq_getElem hx) fun ad2 q2 hh2 _=>?_
 refine⟨ad2,⟨by omega,by omega,q2⟩,?_⟩;refine⟨_,hh2,?_⟩;refine ktext_spec (UInt64.toNat_lt _) ?_;refine⟨by show (V[i]++[61]).length+(kTx x[i].toNat).length≤_;rw[List.length_append,List.length_singleton];omega,?_⟩;exact⟨.v (.string (bs (V[i]++[61]++kTx x[i].toNat))),[bStr 0 a n c,bWds 1 b m k],2,[(0,0),(1,1)],by (repeat' (first|exact trivial|refine⟨?_,?_⟩|exact rfl|assumption)),hK⟩
structure PSml (p:Prog):Prop where
 hp:p.length≤12
 hl:∀b∈p,b.2.1.length≤100000
 hc:stmtsN p≤1000000
 hc5:stmtsN p≤100000
 hv:cnt p<400000
 hbl:∀b∈p,b.1.l.length≤1000000
 hsl:∀x∈sitesOf p,x.2.2.l.length≤1000000
 hvl:∀v∈varsOf p,v.length≤1000000
 hxl:∀x∈exprsOf p,x.2.1.1.l.length≤1000000∧x.2.2.1.l.length≤1000000
theorem cnm3_spec {p:Prog} (hp:PSml p) {i:Nat} (hi:i<(sitesOf p).length) {a b:Option Addr} {n c m k:Nat} {H:Hp} {K:SV→St→Hp→Prop} (ha:RL H a n c p) (hb:RL (α:=Site) H b m k (sitesOf p))
  (hK:∀H',Le H H'→K (.v (.string (bs (siteTx p (sitesOf p)[i])))) ⟨[],[bPrg 0 a n c,bSts 1 b m k],2⟩ H'):DoesG Tryz.prog 26 [.v (.int .i64 i),.ptr 0 0,.ptr 1 0] [bPrg 0 a n c,bSts 1 b m k] 2 H K:=by
 have hm:=hb.n_eq;refine spec_ofG cxC_ok cx_mix Tryz.func26 Tryz.call26 Tryz.ntmps26 Tryz.results26 rfl rfl ?_;refine⟨some ([],[0,1,2,3,4,5,6]),by kernel_rfl,?_⟩
 refine site_kZ hb (List.getElem?_eq_getElem hi) fun ad q1 hh=>?_
 refine⟨ad,⟨by omega,by omega,q1⟩,?_⟩;refine⟨_,hh,?_⟩;have hmem:=List.getElem_mem hi
 refine tsitename_spec hp.hp hp.hl hp.hc hp.hv hmem (hp.hsl _ hmem) hp.hbl ha fun H1 hle1=>?_
 exact⟨.v (.string (bs (siteTx p (sitesOf p)[i]))),[bPrg 0 a n c,bSts 1 b m k],2,[(0,0),(1,1)],by (repeat' (first|exact trivial|refine⟨?_,?_⟩|exact rfl|assumption)),hK _ (by first | exact hle1 | exact Le.refl H)⟩
theorem cnm4_spec {X:List Expr} {i:Nat} (hi:i<X.length) (hs:∀x∈X,x.2.1.1.l.length≤1000000∧x.2.2.1.l.length≤1000000) {b:Option Addr} {m k:Nat} {H:Hp} {K:SV→St→Hp→Prop} (hb:RL H b m k X)
  (hK:K (.v (.string (bs (xTx X[i])))) ⟨[],[bExs 0 b m k],1⟩ H):DoesG Tryz.prog 28 [.v (.int .i64 i),.ptr 0 0] [bExs 0 b m k] 1 H K:=by
 have hm:=hb.n_eq;refine spec_ofG cxC_ok cx_mix Tryz.func28 Tryz.call28 Tryz.ntmps28 Tryz.results28 rfl rfl ?_
 refine expr_k hb (List.getElem?_eq_getElem hi) fun ad q1 hh _=>?_
 refine⟨ad,⟨by omega,by omega,q1⟩,?_⟩;refine⟨_,hh,?_⟩;have h1:=hs _ (List.getElem_mem hi);refine texprname_spec (x:=X[i]) ?_ h1.1 h1.2;exact⟨.v (.string (bs (xTx X[i]))),[bExs 0 b m k],1,[(0,0)],by (repeat' (first|exact trivial|refine⟨?_,?_⟩|exact rfl|assumption)),hK⟩
theorem each2_spec {V:List Bs8} {x:Wd} {a b:Option Addr} {n c k1 k2:Nat} {m:Nat} {z:Int} (hz:z=(m:Nat)) (hm:m≤1000000) {H:Hp} {K:SV→St→Hp→Prop} (hmV:m≤V.length) (hmx:m≤x.length) (hs:∀v∈V,v.length≤1000000) (ha:RL H a n c (ens V)) (hb:RL H b k1 k2 x)
  (hK:∀H',Le H H'→K (.tup []) ⟨[],[(0,.cells 36 [.own 3]),bStr 1 a n c,bWds 2 b k1 k2,(3,.row 9 1 (sRows (upTo (kvF V x) m)))],4⟩ H'):
  DoesG Tryz.prog 20 [.v (.int .i64 z),.fn 24 [.ptr 1 0,.ptr 2 0],.ptr 0 0] [(0,.cells 36 [.v (.slice none 0 0)]),bStr 1 a n c,bWds 2 b k1 k2] 3 H K:=by
 subst hz;refine spec_ofG cxC_ok cx_mix Tryz.func20 Tryz.call20 Tryz.ntmps20 Tryz.results20 rfl rfl ?_;refine⟨Nat,fun i=>⟨[(1,.fn 24 [.ptr 1 0,.ptr 2 0]),(2,.ptr 0 0),(6,.v (.int .i64 m)),(7,.v (.int .i64 i))],[(0,.cells 36 [.own 3]),bStr 1 a n c,bWds 2 b k1 k2,(3,.row 9 1 (sRows (upTo (kvF V x) i)))],4⟩,fun i H'=>Le H H'∧i≤m,fun i=>m - i,⟨0,[(0,0),(1,1),(2,2)],?_,Le.refl H,Nat.zero_le _⟩,?_⟩
 ·(repeat' (first|exact trivial|refine⟨?_,?_⟩|exact rfl|assumption))
 rintro i H1 _ ⟨hle,hi⟩;have hul:=upTo_len (kvF V x) i;refine⟨fun h=>?_,fun h=>?_⟩
 ·have hlt:i<m:=by have:=dt h;omega
  have hsz:((sRows (upTo (kvF V x) i)).length+1)*16≤140737488355328∧(sRows (upTo (kvF V x) i)).length+1≤9223372036854775807:=by rw[List.length_map,hul];omega
  have er:sRows (upTo (kvF V x) i)++[[.string (bs (kvF V x i))]]=sRows (upTo (kvF V x) (i+1)):=by rw[upTo_snoc,sRows_snoc]
  refine⟨none,?_⟩
  refine region_plan (α:=Unit) ?_ ?_ (.two 0 3 (.one [0,1,2,3] [0,1,2,3,4,5,6]) (.one [0,1,2,3] [1,2,3,0,4,5,6]))
   (fun _=>⟨[(1,.fn 24 [.ptr 1 0,.ptr 2 0]),(2,.ptr 0 0),(6,.v (.int .i64 m)),(7,.v (.int .i64 i))],[(0,.cells 36 [.own 3]),bStr 1 a n c,bWds 2 b k1 k2,(3,.row 9 1 (sRows (upTo (kvF V x) (i+1))))],4⟩) (fun _ H'=>Le H H') (by kernel_rfl) ⟨?_,?_⟩ ?_
  ·exact⟨cxC_ok.tt,cxC_ok.eqs⟩
  ·exact cx_mix
  ·refine⟨[1,2],rfl,cnm2_spec (by omega) (by omega) hs (ha.up hle) (hb.up hle) ?_⟩;refine⟨hsz,?_⟩;exact⟨(),[(0,0),(1,1),(2,2),(3,5)],by (repeat' (first|exact trivial|refine⟨?_,?_⟩|exact rfl|assumption)),hle⟩
  ·refine⟨[1,2],rfl,cnm2_spec (by omega) (by omega) hs (ha.up hle) (hb.up hle) ?_⟩;refine⟨hsz,?_⟩;exact⟨(),[(0,0),(1,1),(2,2),(3,5)],by (repeat' (first|exact trivial|refine⟨?_,?_⟩|exact rfl|assumption)),hle⟩
  rintro _ H4 _ hle4;refine⟨⟨by omega,by omega⟩,i+1,[(0,0),(1,1),(2,2),(3,3)],?_,⟨hle4,hlt⟩,by dsimp only;omega⟩
  (repeat' (first|exact trivial|refine⟨?_,?_⟩|exact rfl|assumption))
 ·have hil:i=m:=by have:=df h;omega
  rw[hil];exact⟨.tup [],[(0,.cells 36 [.own 3]),bStr 1 a n c,bWds 2 b k1 k2,(3,.row 9 1 (sRows (upTo (kvF V x) m)))],4,[(0,0),(1,1),(2,2),(3,3)],by (repeat' (first|exact trivial|refine⟨?_,?_⟩|exact rfl|assumption)),hK H1 hle⟩
theorem each3_spec {p:Prog} {a b:Option Addr} {n c k1 k2:Nat} {m:Nat} {z:Int} (hz:z=(m:Nat)) (hm:m≤1000000) {H:Hp} {K:SV→St→Hp→Prop} (hp:PSml p) (hms:m≤(sitesOf p).length) (ha:RL H a n c p) (hb:RL (α:=Site) H b k1 k2 (sitesOf p))
  (hK:∀H',Le H H'→K (.tup []) ⟨[],[(0,.cells 36 [.own 3]),bPrg 1 a n c,bSts 2 b k1 k2,(3,.row 9 1 (sRows (upTo (fun i=>siteTx p ((sitesOf p).getD i (0,0,⟨[]⟩))) m)))],4⟩ H'):
  DoesG Tryz.prog 20 [.v (.int .i64 z),.fn 26 [.ptr 1 0,.ptr 2 0],.ptr 0 0] [(0,.cells 36 [.v (.slice none 0 0)]),bPrg 1 a n c,bSts 2 b k1 k2] 3 H K:=by
 subst hz;refine spec_ofG cxC_ok cx_mix Tryz.func20 Tryz.call20 Tryz.ntmps20 Tryz.results20 rfl rfl ?_;refine⟨Nat,fun i=>⟨[(1,.fn 26 [.ptr 1 0,.ptr 2 0]),(2,.ptr 0 0),(6,.v (.int .i64 m)),(7,.v (.int .i64 i))],[(0,.cells 36 [.own 3]),bPrg 1 a n c,bSts 2 b k1 k2,(3,.row 9 1 (sRows (upTo (fun i=>siteTx p ((sitesOf p).getD i (0,0,⟨[]⟩))) i)))],4⟩,fun i H'=>Le H H'∧i≤m,fun i=>m - i,⟨0,[(0,0),(1,1),(2,2)],?_,Le.refl H,Nat.zero_le _⟩,?_⟩
 ·(repeat' (first|exact trivial|refine⟨?_,?_⟩|exact rfl|assumption))
 rintro i H1 _ ⟨hle,hi⟩;have hul:=upTo_len (fun i=>siteTx p ((sitesOf p).getD i (0,0,⟨[]⟩))) i;refine⟨fun h=>?_,fun h=>?_⟩
 ·have hlt:i<m:=by have:=dt h;omega
  have hsz:((sRows (upTo (fun i=>siteTx p ((sitesOf p).getD i (0,0,⟨[]⟩))) i)).length+1)*16≤140737488355328∧(sRows (upTo (fun i=>siteTx p ((sitesOf p).getD i (0,0,⟨[]⟩))) i)).length+1≤9223372036854775807:=by rw[List.length_map,hul];omega
  have hi2:i<(sitesOf p).length:=by omega
  have ef:(fun i=>siteTx p ((sitesOf p).getD i (0,0,⟨[]⟩))) i=siteTx p (sitesOf p)[i]:=by
   show _=_;dsimp only;rw[List.getD_eq_getElem?_getD,List.getElem?_eq_getElem hi2]
   rfl
  dsimp only at ef
  have er:sRows (upTo (fun i=>siteTx p ((sitesOf p).getD i (0,0,⟨[]⟩))) i)++[[.string (bs (siteTx p (sitesOf p)[i]))]]=sRows (upTo (fun i=>siteTx p ((sitesOf p).getD i (0,0,⟨[]⟩))) (i+1)):=by rw[upTo_snoc,sRows_snoc,ef]
  refine⟨none,?_⟩
  refine region_plan (α:=Unit) ?_ ?_ (.two 0 3 (.one [0,1,2,3] [0,1,2,3,4,5,6]) (.one [0,1,2,3] [1,2,3,0,4,5,6]))
   (fun _=>⟨[(1,.fn 26 [.ptr 1 0,.ptr 2 0]),(2,.ptr 0 0),(6,.v (.int .i64 m)),(7,.v (.int .i64 i))],[(0,.cells 36 [.own 3]),bPrg 1 a n c,bSts 2 b k1 k2,(3,.row 9 1 (sRows (upTo (fun i=>siteTx p ((sitesOf p).getD i (0,0,⟨[]⟩))) (i+1))))],4⟩) (fun _ H'=>Le H H') (by kernel_rfl) ⟨?_,?_⟩ ?_
  ·exact⟨cxC_ok.tt,cxC_ok.eqs⟩
  ·exact cx_mix
  ·refine⟨[1,2],rfl,cnm3_spec hp (by omega) (ha.up hle) (hb.up hle) fun H3 hle3=>?_⟩;refine⟨hsz,?_⟩;exact⟨(),[(0,0),(1,1),(2,2),(3,5)],by (repeat' (first|exact trivial|refine⟨?_,?_⟩|exact rfl|assumption)),hle.trans hle3⟩
  ·refine⟨[1,2],rfl,cnm3_spec hp (by omega) (ha.up hle) (hb.up hle) fun H3 hle3=>?_⟩;refine⟨hsz,?_⟩;exact⟨(),[(0,0),(1,1),(2,2),(3,5)],by (repeat' (first|exact trivial|refine⟨?_,?_⟩|exact rfl|assumption)),hle.trans hle3⟩
  rintro _ H4 _ hle4;refine⟨⟨by omega,by omega⟩,i+1,[(0,0),(1,1),(2,2),(3,3)],?_,⟨hle4,hlt⟩,by dsimp only;omega⟩
  (repeat' (first|exact trivial|refine⟨?_,?_⟩|exact rfl|assumption))
 ·have hil:i=m:=by have:=df h;omega
  rw[hil];exact⟨.tup [],[(0,.cells 36 [.own 3]),bPrg 1 a n c,bSts 2 b k1 k2,(3,.row 9 1 (sRows (upTo (fun i=>siteTx p ((sitesOf p).getD i (0,0,⟨[]⟩))) m)))],4,[(0,0),(1,1),(2,2),(3,3)],by (repeat' (first|exact trivial|refine⟨?_,?_⟩|exact rfl|assumption)),hK H1 hle⟩
theorem each4_spec {X:List Expr} {b:Option Addr} {k1 k2:Nat} {m:Nat} {z:Int} (hz:z=(m:Nat)) (hm:m≤1000000) {H:Hp} {K:SV→St→Hp→Prop} (hmX:m≤X.length) (hs:∀x∈X,x.2.1.1.l.length≤1000000∧x.2.2.1.l.length≤1000000) (hb:RL H b k1 k2 X)
  (hK:∀H',Le H H'→K (.tup []) ⟨[],[(0,.cells 36 [.own 2]),bExs 1 b k1 k2,(2,.row 9 1 (sRows (upTo (fun i=>xTx (X.getD i (0,(⟨[]⟩,0,0),(⟨[]⟩,0,0)))) m)))],3⟩ H'):
  DoesG Tryz.prog 20 [.v (.int .i64 z),.fn 28 [.ptr 1 0],.ptr 0 0] [(0,.cells 36 [.v (.slice none 0 0)]),bExs 1 b k1 k2] 2 H K:=by
 subst hz;refine spec_ofG cxC_ok cx_mix Tryz.func20 Tryz.call20 Tryz.ntmps20 Tryz.results20 rfl rfl ?_;refine⟨Nat,fun i=>⟨[(1,.fn 28 [.ptr 1 0]),(2,.ptr 0 0),(6,.v (.int .i64 m)),(7,.v (.int .i64 i))],[(0,.cells 36 [.own 2]),bExs 1 b k1 k2,(2,.row 9 1 (sRows (upTo (fun i=>xTx (X.getD i (0,(⟨[]⟩,0,0),(⟨[]⟩,0,0)))) i)))],3⟩,fun i H'=>Le H H'∧i≤m,fun i=>m - i,⟨0,[(0,0),(1,1)],?_,Le.refl H,Nat.zero_le _⟩,?_⟩
 ·(repeat' (first|exact trivial|refine⟨?_,?_⟩|exact rfl|assumption))
 rintro i H1 _ ⟨hle,hi⟩;have hul:=upTo_len (fun i=>xTx (X.getD i (0,(⟨[]⟩,0,0),(⟨[]⟩,0,0)))) i;refine⟨fun h=>?_,fun h=>?_⟩
 ·have hlt:i<m:=by have:=dt h;omega
  have hsz:((sRows (upTo (fun i=>xTx (X.getD i (0,(⟨[]⟩,0,0),(⟨[]⟩,0,0)))) i)).length+1)*16≤140737488355328∧(sRows (upTo (fun i=>xTx (X.getD i (0,(⟨[]⟩,0,0),(⟨[]⟩,0,0)))) i)).length+1≤9223372036854775807:=by rw[List.length_map,hul];omega
  have hi2:i<X.length:=by omega
  have ef:(fun i=>xTx (X.getD i (0,(⟨[]⟩,0,0),(⟨[]⟩,0,0)))) i=xTx X[i]:=by
   show _=_;dsimp only;rw[List.getD_eq_getElem?_getD,List.getElem?_eq_getElem hi2]
   rfl
  dsimp only at ef
  have er:sRows (upTo (fun i=>xTx (X.getD i (0,(⟨[]⟩,0,0),(⟨[]⟩,0,0)))) i)++[[.string (bs (xTx X[i]))]]=sRows (upTo (fun i=>xTx (X.getD i (0,(⟨[]⟩,0,0),(⟨[]⟩,0,0)))) (i+1)):=by rw[upTo_snoc,sRows_snoc,ef]
  refine⟨none,?_⟩
  refine region_plan (α:=Unit) ?_ ?_ (.two 0 3 (.one [0,1,2] [0,1,2,3,4,5,6]) (.one [0,1,2] [1,2,3,0,4,5,6]))
   (fun _=>⟨[(1,.fn 28 [.ptr 1 0]),(2,.ptr 0 0),(6,.v (.int .i64 m)),(7,.v (.int .i64 i))],[(0,.cells 36 [.own 2]),bExs 1 b k1 k2,(2,.row 9 1 (sRows (upTo (fun i=>xTx (X.getD i (0,(⟨[]⟩,0,0),(⟨[]⟩,0,0)))) (i+1))))],3⟩) (fun _ H'=>Le H H') (by kernel_rfl) ⟨?_,?_⟩ ?_
  ·exact⟨cxC_ok.tt,cxC_ok.eqs⟩
  ·exact cx_mix
  ·refine⟨[1],rfl,cnm4_spec (by omega) hs (hb.up hle) ?_⟩;refine⟨hsz,?_⟩;exact⟨(),[(0,0),(1,1),(2,4)],by (repeat' (first|exact trivial|refine⟨?_,?_⟩|exact rfl|assumption)),hle⟩
  ·refine⟨[1],rfl,cnm4_spec (by omega) hs (hb.up hle) ?_⟩;refine⟨hsz,?_⟩;exact⟨(),[(0,0),(1,1),(2,4)],by (repeat' (first|exact trivial|refine⟨?_,?_⟩|exact rfl|assumption)),hle⟩
  rintro _ H4 _ hle4;refine⟨⟨by omega,by omega⟩,i+1,[(0,0),(1,1),(2,2)],?_,⟨hle4,hlt⟩,by dsimp only;omega⟩
  (repeat' (first|exact trivial|refine⟨?_,?_⟩|exact rfl|assumption))
 ·have hil:i=m:=by have:=df h;omega
  rw[hil];exact⟨.tup [],[(0,.cells 36 [.own 2]),bExs 1 b k1 k2,(2,.row 9 1 (sRows (upTo (fun i=>xTx (X.getD i (0,(⟨[]⟩,0,0),(⟨[]⟩,0,0)))) m)))],3,[(0,0),(1,1),(2,2)],by (repeat' (first|exact trivial|refine⟨?_,?_⟩|exact rfl|assumption)),hK H1 hle⟩
end Go.Proofs
end
section
/- Plain words: a region of client.Words whose order is open: three calls in turn, and three cells made in whatever order. -/
namespace Go.Proofs
open Go.Sy
open Bt
set_option maxRecDepth 20000
set_option maxHeartbeats 4000000
inductive CC
 | z (l1 l2 l3:Bool)
 | o (l2 l3:Bool)
 | t (l3:Bool)
 | h
abbrev V3:=(Option Addr×Nat×Nat)×(Option Addr×Nat×Nat)×(Option Addr×Nat×Nat)
abbrev YY:=CC×Bool×Bool×Bool
abbrev XW:=(YY ⊕ (Bool×Bool))×V3
def opsW:Array Oper:=#[
 {dst := some 16, op := Op.load 24 (Operand.tmp 4), type := 24, pos := "client.go:67", after := #[], guard := none },
 {dst := some 17, op := Op.call { callee := Callee.value (Operand.func 21), args := #[Operand.tmp 16], argTypes := #[24] }, type := 36, pos := "client.go:67", after := #[{ on := 0, ground := Ground.data }], guard := none },
 {dst := some 18, op := Op.load 24 (Operand.tmp 4), type := 24, pos := "client.go:67", after := #[], guard := none },
 {dst := some 19, op := Op.call { callee := Callee.value (Operand.func 22), args := #[Operand.tmp 18], argTypes := #[24] }, type := 61, pos := "client.go:67", after := #[{ on := 2, ground := Ground.data }, { on := 1, ground := Ground.chain }], guard := none },
 {dst := some 20, op := Op.load 24 (Operand.tmp 4), type := 24, pos := "client.go:67", after := #[], guard := none },
 {dst := some 21, op := Op.call { callee := Callee.value (Operand.func 23), args := #[Operand.tmp 20], argTypes := #[24] }, type := 63, pos := "client.go:67", after := #[{ on := 4, ground := Ground.data }, { on := 3, ground := Ground.chain }], guard := none },
 {dst := some 10, op := Op.alloc 36, type := 0, pos := "client.go:67", after := #[], guard := none },
 {dst := some 11, op := Op.alloc 61, type := 0, pos := "client.go:67", after := #[], guard := none },
 {dst := some 12, op := Op.alloc 63, type := 0, pos := "client.go:67", after := #[], guard := none },
 {dst := none, op := Op.store 36 (Operand.tmp 10) (Operand.tmp 17), type := 0, pos := "client.go:67", after := #[{ on := 6, ground := Ground.data }, { on := 1, ground := Ground.data }, { on := 5, ground := Ground.chain }, { on := 0, ground := Ground.phase }, { on := 1, ground := Ground.phase }, { on := 2, ground := Ground.textOnly Departure.lateStores }, { on := 3, ground := Ground.textOnly Departure.lateStoresUnsure }, { on := 4, ground := Ground.textOnly Departure.lateStores }, { on := 5, ground := Ground.textOnly Departure.lateStoresUnsure }, { on := 6, ground := Ground.phase }, { on := 7, ground := Ground.phase }, { on := 8, ground := Ground.phase }], guard := none },
 {dst := none, op := Op.store 61 (Operand.tmp 11) (Operand.tmp 19), type := 0, pos := "client.go:67", after := #[{ on := 7, ground := Ground.data }, { on := 3, ground := Ground.data }, { on := 9, ground := Ground.chain }, { on := 0, ground := Ground.phase }, { on := 1, ground := Ground.phase }, { on := 2, ground := Ground.phase }, { on := 3, ground := Ground.phase }, { on := 4, ground := Ground.textOnly Departure.lateStores }, { on := 5, ground := Ground.textOnly Departure.lateStoresUnsure }, { on := 6, ground := Ground.phase }, { on := 7, ground := Ground.phase }, { on := 8, ground := Ground.phase }, { on := 9, ground := Ground.phase }], guard := none },
 {dst := none, op := Op.store 63 (Operand.tmp 12) (Operand.tmp 21), type := 0, pos := "client.go:67", after := #[{ on := 8, ground := Ground.data }, { on := 5, ground := Ground.data }, { on := 10, ground := Ground.chain }, { on := 0, ground := Ground.phase }, { on := 1, ground := Ground.phase }, { on := 2, ground := Ground.phase }, { on := 3, ground := Ground.phase }, { on := 4, ground := Ground.phase }, { on := 5, ground := Ground.phase }, { on := 6, ground := Ground.phase }, { on := 7, ground := Ground.phase }, { on := 8, ground := Ground.phase }, { on := 9, ground := Ground.phase }, { on := 10, ground := Ground.phase }], guard := none }]
noncomputable abbrev cxW:Cx:={ P:=cxC.P,tt:=cxC.tt,n:=67,wrap:=cxC.wrap,base:=cxC.base,gf:=cxC.gf,eqs:=cxC.eqs,xf:=cxC.xf,rg:=cxC.rg }
theorem cxW_ok:TOK cxW:=⟨cxC_ok.tt,cxC_ok.eqs⟩
def ldE (s:Nat) (g:SV):Bool→List (Nat×SV)
 | true=>[(s,g)]
 | false=>[]
def slE (s:Nat) (v:Option Addr×Nat×Nat):List (Nat×SV):=[(s,.v (.slice v.1 v.2.1 v.2.2))]
def chE (g:SV) (v:V3):CC→List (Nat×SV)
 | .z l1 l2 l3=>ldE 16 g l1++ldE 18 g l2++ldE 20 g l3
 | .o l2 l3=>slE 17 v.1++ldE 18 g l2++ldE 20 g l3
 | .t l3=>slE 17 v.1++slE 19 v.2.1++ldE 20 g l3
 | .h=>slE 17 v.1++slE 19 v.2.1++slE 21 v.2.2
def alE (a1 a2 a3:Bool):List (Nat×SV):=ldE 10 (.ptr 3 0) a1++ldE 11 (.ptr 4 0) a2++ldE 12 (.ptr 5 0) a3
def zS:SV:=.v (.slice none 0 0)
def alB (k T:Nat):Bool→List (Nat×Bx)
 | true=>[(k,.cells T [zS])]
 | false=>[]
def bsE (kind:Int):List (Nat×SV):=[(0,.v (.int .i64 kind)),(4,.ptr 0 0),(5,.ptr 1 0),(7,.ptr 2 0),(8,zS),(9,.fn 20 [.ptr 2 0])]
def bsB (g:Value) (y:Value):List (Nat×Bx):=[(0,.cells 24 [.v g]),(1,.cells 25 [.v y]),(2,.cells 36 [zS])]
def slC (T:Nat) (v:Option Addr×Nat×Nat):Bx:=.cells T [.v (.slice v.1 v.2.1 v.2.2)]
def TW (kind:Int) (g:Value) (y:Value):XW→St
 | (.inl (c,a1,a2,a3),v)=>⟨bsE kind++chE (.agg [.v g]) v c++alE a1 a2 a3,bsB g y++alB 3 36 a1++alB 4 61 a2++alB 5 63 a3,6⟩
 | (.inr (s1,s2),v)=>⟨bsE kind++slE 19 v.2.1++slE 21 v.2.2++alE true true true,bsB g y++[(3,slC 36 v.1),(4,bif s1 then slC 61 v.2.1 else .cells 61 [zS]),(5,bif s2 then slC 63 v.2.2 else .cells 63 [zS])],6⟩
def dC:CC→List Bool
 | .z l1 l2 l3=>[l1,false,l2,false,l3,false]
 | .o l2 l3=>[true,true,l2,false,l3,false]
 | .t l3=>[true,true,true,true,l3,false]
 | .h=>[true,true,true,true,true,true]
def LX:YY ⊕ (Bool×Bool)→Array Bool
 | .inl (c,a1,a2,a3)=>(dC c++[a1,a2,a3,false,false,false]).toArray
 | .inr (s1,s2)=>#[true,true,true,true,true,true,true,true,true,true,s1,s2]
def LW (x:XW):Array Bool:=LX x.1
def RC1:CC→List Nat
 | .z l1 l2 l3=>[bif l1 then 1 else 0]++(bif l2 then [] else [2])++(bif l3 then [] else [4])
 | .o l2 l3=>[bif l2 then 3 else 2]++(bif l3 then [] else [4])
 | .t l3=>[bif l3 then 5 else 4]
 | .h=>[]
def RA1 (a1 a2 a3:Bool):List Nat:=(bif a1 then [] else [6])++(bif a2 then [] else [7])++(bif a3 then [] else [8])
def RW:YY ⊕ (Bool×Bool)→List Nat
 | .inl (.h,true,true,true)=>[9]
 | .inl (c,a1,a2,a3)=>RC1 c++RA1 a1 a2 a3
 | .inr (false,false)=>[10]
 | .inr (true,false)=>[11]
 | .inr (_,true)=>[]
theorem ready_X (x:YY ⊕ (Bool×Bool)) (hx:x≠.inr (false,true)):Region.ready .any opsW (LX x)=RW x:=by
 rcases x with ⟨c,a1,a2,a3⟩ | ⟨s1,s2⟩
 ·rcases c with ⟨l1,l2,l3⟩ | ⟨l2,l3⟩ | l3 | _
  ·cases l1<;>cases l2<;>cases l3<;>cases a1<;>cases a2<;>cases a3<;>decide +kernel
  ·cases l2<;>cases l3<;>cases a1<;>cases a2<;>cases a3<;>decide +kernel
  ·cases l3<;>cases a1<;>cases a2<;>cases a3<;>decide +kernel
  ·cases a1<;>cases a2<;>cases a3<;>decide +kernel
 ·cases s1<;>cases s2<;>first | exact absurd rfl hx | decide +kernel
theorem ready_W (x:YY ⊕ (Bool×Bool)) (hx:x≠.inr (false,true)) (v:V3):Region.ready .any opsW (LW (x,v))=RW x:=ready_X x hx
def IC (p:Prog) (H:Hp) (v:V3):CC→Prop
 | .z _ _ _=>True
 | .o _ _=>RL H v.1.1 v.1.2.1 v.1.2.2 (ens (varsOf p))
 | .t _=>RL H v.1.1 v.1.2.1 v.1.2.2 (ens (varsOf p))∧RL (α:=Site) H v.2.1.1 v.2.1.2.1 v.2.1.2.2 (sitesOf p)
 | .h=>RL H v.1.1 v.1.2.1 v.1.2.2 (ens (varsOf p))∧RL (α:=Site) H v.2.1.1 v.2.1.2.1 v.2.1.2.2 (sitesOf p)∧RL H v.2.2.1 v.2.2.2.1 v.2.2.2.2 (exprsOf p)
def IW (p:Prog) (H0 H:Hp):XW→Prop
 | (.inl (c,_),v)=>Le H0 H∧IC p H v c
 | (.inr s,v)=>(Le H0 H∧IC p H v .h)∧s≠(false,true)
def NextW (p:Prog) (H0:Hp) (kind:Int) (g:Value) (y:Value) (x:XW) (H:Hp) (i:Nat):Prop:=∃o,opsW[i]?=some o∧o.guard=none∧opE cxW (TW kind g y x) o.op o.type H fun v' s' H'=>∃z m,IW p H0 H' z∧LW z=(LW x).setIfInBounds i true∧Sub cxW m (s'.put cxW.n o.dst v') (TW kind g y z)
abbrev rnW:List (Nat×Nat):=[(0,0),(1,1),(2,2),(3,3),(4,4),(5,5)]
theorem wl0 {p:Prog} {H0 H:Hp} {kind:Int} {g:Value} {y:Value} {v:V3} (l2 l3 a1 a2 a3:Bool) (hI:IW p H0 H (.inl (.z false l2 l3,a1,a2,a3),v)):NextW p H0 kind g y (.inl (.z false l2 l3,a1,a2,a3),v) H 0 :=
 ⟨_,rfl,rfl,⟨(.inl (.z true l2 l3,a1,a2,a3),v),rnW,hI,by cases l2<;>cases l3<;>cases a1<;>cases a2<;>cases a3<;>rfl,by cases l2<;>cases l3<;>cases a1<;>cases a2<;>cases a3<;>(repeat' (first|exact trivial|refine⟨?_,?_⟩|exact rfl|assumption))⟩⟩
theorem wl2z {p:Prog} {H0 H:Hp} {kind:Int} {g:Value} {y:Value} {v:V3} (l1 l3 a1 a2 a3:Bool) (hI:IW p H0 H (.inl (.z l1 false l3,a1,a2,a3),v)):NextW p H0 kind g y (.inl (.z l1 false l3,a1,a2,a3),v) H 2 :=
 ⟨_,rfl,rfl,⟨(.inl (.z l1 true l3,a1,a2,a3),v),rnW,hI,by cases l1<;>cases l3<;>cases a1<;>cases a2<;>cases a3<;>rfl,by cases l1<;>cases l3<;>cases a1<;>cases a2<;>cases a3<;>(repeat' (first|exact trivial|refine⟨?_,?_⟩|exact rfl|assumption))⟩⟩
theorem wl2o {p:Prog} {H0 H:Hp} {kind:Int} {g:Value} {y:Value} {v:V3} (l3 a1 a2 a3:Bool) (hI:IW p H0 H (.inl (.o false l3,a1,a2,a3),v)):NextW p H0 kind g y (.inl (.o false l3,a1,a2,a3),v) H 2 :=
 ⟨_,rfl,rfl,⟨(.inl (.o true l3,a1,a2,a3),v),rnW,hI,by cases l3<;>cases a1<;>cases a2<;>cases a3<;>rfl,by cases l3<;>cases a1<;>cases a2<;>cases a3<;>(repeat' (first|exact trivial|refine⟨?_,?_⟩|exact rfl|assumption))⟩⟩
theorem wl4z {p:Prog} {H0 H:Hp} {kind:Int} {g:Value} {y:Value} {v:V3} (l1 l2 a1 a2 a3:Bool) (hI:IW p H0 H (.inl (.z l1 l2 false,a1,a2,a3),v)):NextW p H0 kind g y (.inl (.z l1 l2 false,a1,a2,a3),v) H 4 :=
 ⟨_,rfl,rfl,⟨(.inl (.z l1 l2 true,a1,a2,a3),v),rnW,hI,by cases l1<;>cases l2<;>cases a1<;>cases a2<;>cases a3<;>rfl,by cases l1<;>cases l2<;>cases a1<;>cases a2<;>cases a3<;>(repeat' (first|exact trivial|refine⟨?_,?_⟩|exact rfl|assumption))⟩⟩
theorem wl4o {p:Prog} {H0 H:Hp} {kind:Int} {g:Value} {y:Value} {v:V3} (l2 a1 a2 a3:Bool) (hI:IW p H0 H (.inl (.o l2 false,a1,a2,a3),v)):NextW p H0 kind g y (.inl (.o l2 false,a1,a2,a3),v) H 4 :=
 ⟨_,rfl,rfl,⟨(.inl (.o l2 true,a1,a2,a3),v),rnW,hI,by cases l2<;>cases a1<;>cases a2<;>cases a3<;>rfl,by cases l2<;>cases a1<;>cases a2<;>cases a3<;>(repeat' (first|exact trivial|refine⟨?_,?_⟩|exact rfl|assumption))⟩⟩
theorem wl4t {p:Prog} {H0 H:Hp} {kind:Int} {g:Value} {y:Value} {v:V3} (a1 a2 a3:Bool) (hI:IW p H0 H (.inl (.t false,a1,a2,a3),v)):NextW p H0 kind g y (.inl (.t false,a1,a2,a3),v) H 4 :=
 ⟨_,rfl,rfl,⟨(.inl (.t true,a1,a2,a3),v),rnW,hI,by cases a1<;>cases a2<;>cases a3<;>rfl,by cases a1<;>cases a2<;>cases a3<;>(repeat' (first|exact trivial|refine⟨?_,?_⟩|exact rfl|assumption))⟩⟩
theorem wc1 {p:Prog} {H0 H:Hp} {kind:Int} {a:Option Addr} {n c:Nat} {y:Value} {v:V3} (hp:PSml p) (ha:RL H0 a n c p) (l2 l3 a1 a2 a3:Bool) (hI:IW p H0 H (.inl (.z true l2 l3,a1,a2,a3),v)):NextW p H0 kind (.slice a n c) y (.inl (.z true l2 l3,a1,a2,a3),v) H 1 :=
 ⟨_,rfl,rfl,by
  refine pvars_spec (ha.up hI.1) hp.hv fun a7 n7 c7 H7 hle7 hr7=>?_
  refine⟨(.inl (.o l2 l3,a1,a2,a3),((a7,n7,c7),v.2)),rnW,⟨hI.1.trans hle7,hr7⟩,by cases l2<;>cases l3<;>cases a1<;>cases a2<;>cases a3<;>rfl,?_⟩
  cases l2<;>cases l3<;>cases a1<;>cases a2<;>cases a3<;>(repeat' (first|exact trivial|refine⟨?_,?_⟩|exact rfl|assumption))⟩
theorem wc3 {p:Prog} {H0 H:Hp} {kind:Int} {a:Option Addr} {n c:Nat} {y:Value} {v:V3} (hp:PSml p) (ha:RL H0 a n c p) (l3 a1 a2 a3:Bool) (hI:IW p H0 H (.inl (.o true l3,a1,a2,a3),v)):NextW p H0 kind (.slice a n c) y (.inl (.o true l3,a1,a2,a3),v) H 3 :=
 ⟨_,rfl,rfl,by
  refine tsitesL_spec hp.hp hp.hl hp.hc hp.hv (vars_sz hp.hv) (ha.up hI.1) fun a7 n7 c7 H7 hle7 hr7=>?_
  refine⟨(.inl (.t l3,a1,a2,a3),(v.1,(a7,n7,c7),v.2.2)),rnW,⟨hI.1.trans hle7,⟨hI.2.up hle7,hr7⟩⟩,by cases l3<;>cases a1<;>cases a2<;>cases a3<;>rfl,?_⟩
  cases l3<;>cases a1<;>cases a2<;>cases a3<;>(repeat' (first|exact trivial|refine⟨?_,?_⟩|exact rfl|assumption))⟩
theorem wc5 {p:Prog} {H0 H:Hp} {kind:Int} {a:Option Addr} {n c:Nat} {y:Value} {v:V3} (hp:PSml p) (ha:RL H0 a n c p) (a1 a2 a3:Bool) (hI:IW p H0 H (.inl (.t true,a1,a2,a3),v)):NextW p H0 kind (.slice a n c) y (.inl (.t true,a1,a2,a3),v) H 5 :=
 ⟨_,rfl,rfl,by
  refine texprs_spec hp.hp hp.hl (ha.up hI.1) fun a7 n7 c7 H7 hle7 hr7=>?_
  refine⟨(.inl (.h,a1,a2,a3),(v.1,v.2.1,(a7,n7,c7))),rnW,⟨hI.1.trans hle7,⟨hI.2.1.up hle7,hI.2.2.up hle7,hr7⟩⟩,by cases a1<;>cases a2<;>cases a3<;>rfl,?_⟩
  cases a1<;>cases a2<;>cases a3<;>(repeat' (first|exact trivial|refine⟨?_,?_⟩|exact rfl|assumption))⟩
theorem wa6 {p:Prog} {H0 H:Hp} {kind:Int} {g:Value} {y:Value} {v:V3} (c:CC) (a2 a3:Bool) (hI:IW p H0 H (.inl (c,false,a2,a3),v)):NextW p H0 kind g y (.inl (c,false,a2,a3),v) H 6 :=
 ⟨_,rfl,rfl,by
  refine⟨(.inl (c,true,a2,a3),v),[(0,0),(1,1),(2,2),(3,6),(4,4),(5,5)],hI,?_,?_⟩<;>rcases c with ⟨l1,l2,l3⟩ | ⟨l2,l3⟩ | l3 | _
  ·cases l1<;>cases l2<;>cases l3<;>cases a2<;>cases a3<;>rfl
  ·cases l2<;>cases l3<;>cases a2<;>cases a3<;>rfl
  ·cases l3<;>cases a2<;>cases a3<;>rfl
  ·cases a2<;>cases a3<;>rfl
  ·cases l1<;>cases l2<;>cases l3<;>cases a2<;>cases a3<;>(repeat' (first|exact trivial|refine⟨?_,?_⟩|exact rfl|assumption))
  ·cases l2<;>cases l3<;>cases a2<;>cases a3<;>(repeat' (first|exact trivial|refine⟨?_,?_⟩|exact rfl|assumption))
  ·cases l3<;>cases a2<;>cases a3<;>(repeat' (first|exact trivial|refine⟨?_,?_⟩|exact rfl|assumption))
  ·cases a2<;>cases a3<;>(repeat' (first|exact trivial|refine⟨?_,?_⟩|exact rfl|assumption))⟩
theorem wa7 {p:Prog} {H0 H:Hp} {kind:Int} {g:Value} {y:Value} {v:V3} (c:CC) (a1 a3:Bool) (hI:IW p H0 H (.inl (c,a1,false,a3),v)):NextW p H0 kind g y (.inl (c,a1,false,a3),v) H 7 :=
 ⟨_,rfl,rfl,by
  refine⟨(.inl (c,a1,true,a3),v),[(0,0),(1,1),(2,2),(3,3),(4,6),(5,5)],hI,?_,?_⟩<;>rcases c with ⟨l1,l2,l3⟩ | ⟨l2,l3⟩ | l3 | _
  ·cases l1<;>cases l2<;>cases l3<;>cases a1<;>cases a3<;>rfl
  ·cases l2<;>cases l3<;>cases a1<;>cases a3<;>rfl
  ·cases l3<;>cases a1<;>cases a3<;>rfl
  ·cases a1<;>cases a3<;>rfl
  ·cases l1<;>cases l2<;>cases l3<;>cases a1<;>cases a3<;>(repeat' (first|exact trivial|refine⟨?_,?_⟩|exact rfl|assumption))
  ·cases l2<;>cases l3<;>cases a1<;>cases a3<;>(repeat' (first|exact trivial|refine⟨?_,?_⟩|exact rfl|assumption))
  ·cases l3<;>cases a1<;>cases a3<;>(repeat' (first|exact trivial|refine⟨?_,?_⟩|exact rfl|assumption))
  ·cases a1<;>cases a3<;>(repeat' (first|exact trivial|refine⟨?_,?_⟩|exact rfl|assumption))⟩
theorem wa8 {p:Prog} {H0 H:Hp} {kind:Int} {g:Value} {y:Value} {v:V3} (c:CC) (a1 a2:Bool) (hI:IW p H0 H (.inl (c,a1,a2,false),v)):NextW p H0 kind g y (.inl (c,a1,a2,false),v) H 8 :=
 ⟨_,rfl,rfl,by
  refine⟨(.inl (c,a1,a2,true),v),[(0,0),(1,1),(2,2),(3,3),(4,4),(5,6)],hI,?_,?_⟩<;>rcases c with ⟨l1,l2,l3⟩ | ⟨l2,l3⟩ | l3 | _
  ·cases l1<;>cases l2<;>cases l3<;>cases a1<;>cases a2<;>rfl
  ·cases l2<;>cases l3<;>cases a1<;>cases a2<;>rfl
  ·cases l3<;>cases a1<;>cases a2<;>rfl
  ·cases a1<;>cases a2<;>rfl
  ·cases l1<;>cases l2<;>cases l3<;>cases a1<;>cases a2<;>(repeat' (first|exact trivial|refine⟨?_,?_⟩|exact rfl|assumption))
  ·cases l2<;>cases l3<;>cases a1<;>cases a2<;>(repeat' (first|exact trivial|refine⟨?_,?_⟩|exact rfl|assumption))
  ·cases l3<;>cases a1<;>cases a2<;>(repeat' (first|exact trivial|refine⟨?_,?_⟩|exact rfl|assumption))
  ·cases a1<;>cases a2<;>(repeat' (first|exact trivial|refine⟨?_,?_⟩|exact rfl|assumption))⟩
theorem ws9 {p:Prog} {H0 H:Hp} {kind:Int} {g:Value} {y:Value} {v:V3} (hI:IW p H0 H (.inl (.h,true,true,true),v)):NextW p H0 kind g y (.inl (.h,true,true,true),v) H 9 :=
 ⟨_,rfl,rfl,⟨(.inr (false,false),v),rnW,⟨hI,by decide⟩,rfl,by (repeat' (first|exact trivial|refine⟨?_,?_⟩|exact rfl|assumption))⟩⟩
theorem ws10 {p:Prog} {H0 H:Hp} {kind:Int} {g:Value} {y:Value} {v:V3} (hI:IW p H0 H (.inr (false,false),v)):NextW p H0 kind g y (.inr (false,false),v) H 10 :=
 ⟨_,rfl,rfl,⟨(.inr (true,false),v),rnW,⟨hI.1,by decide⟩,rfl,by (repeat' (first|exact trivial|refine⟨?_,?_⟩|exact rfl|assumption))⟩⟩
theorem ws11 {p:Prog} {H0 H:Hp} {kind:Int} {g:Value} {y:Value} {v:V3} (hI:IW p H0 H (.inr (true,false),v)):NextW p H0 kind g y (.inr (true,false),v) H 11 :=
 ⟨_,rfl,rfl,⟨(.inr (true,true),v),rnW,⟨hI.1,by decide⟩,rfl,by (repeat' (first|exact trivial|refine⟨?_,?_⟩|exact rfl|assumption))⟩⟩
theorem mem_bif {b:Bool} {i j:Nat} (h:i∈(bif b then [] else [j])):b=false∧i=j:=by
 cases b
 ·exact⟨rfl,List.mem_singleton.1 h⟩
 ·cases h
theorem stepW {p:Prog} {H0:Hp} {kind:Int} {a:Option Addr} {n c:Nat} {y:Value} (hp:PSml p) (ha:RL H0 a n c p):
  ∀(x:XW) (H:Hp),IW p H0 H x→∀i∈Region.ready .any opsW (LW x),NextW p H0 kind (.slice a n c) y x H i:=by
 have hC:∀(c1:CC) (a1 a2 a3:Bool) (v:V3) (H:Hp),IW p H0 H (.inl (c1,a1,a2,a3),v)→∀i∈RC1 c1++RA1 a1 a2 a3,NextW p H0 kind (.slice a n c) y (.inl (c1,a1,a2,a3),v) H i:=by
  intro c1 a1 a2 a3 v H hI i hi
  rcases List.mem_append.1 hi with hi | hi
  ·rcases c1 with ⟨l1,l2,l3⟩ | ⟨l2,l3⟩ | l3 | _
   ·rcases List.mem_append.1 hi with hi | hi
    ·rcases List.mem_append.1 hi with hi | hi
     ·rw[List.mem_singleton.1 hi];cases l1
      ·exact wl0 l2 l3 a1 a2 a3 hI
      ·exact wc1 hp ha l2 l3 a1 a2 a3 hI
     ·obtain⟨rfl,rfl⟩:=mem_bif hi;exact wl2z l1 l3 a1 a2 a3 hI
    ·obtain⟨rfl,rfl⟩:=mem_bif hi;exact wl4z l1 l2 a1 a2 a3 hI
   ·rcases List.mem_append.1 hi with hi | hi
    ·rw[List.mem_singleton.1 hi];cases l2
     ·exact wl2o l3 a1 a2 a3 hI
     ·exact wc3 hp ha l3 a1 a2 a3 hI
    ·obtain⟨rfl,rfl⟩:=mem_bif hi;exact wl4o l2 a1 a2 a3 hI
   ·rw[List.mem_singleton.1 hi];cases l3
    ·exact wl4t a1 a2 a3 hI
    ·exact wc5 hp ha a1 a2 a3 hI
   ·cases hi
  ·rcases List.mem_append.1 hi with hi | hi
   ·rcases List.mem_append.1 hi with hi | hi
    ·obtain⟨rfl,rfl⟩:=mem_bif hi;exact wa6 c1 a2 a3 hI
    ·obtain⟨rfl,rfl⟩:=mem_bif hi;exact wa7 c1 a1 a3 hI
   ·obtain⟨rfl,rfl⟩:=mem_bif hi;exact wa8 c1 a1 a2 hI
 rintro⟨x,v⟩ H hI i hi
 rcases x with ⟨c1,a1,a2,a3⟩ | ⟨s1,s2⟩
 ·rw[ready_W _ (by simp)]at hi
  rcases c1 with ⟨l1,l2,l3⟩ | ⟨l2,l3⟩ | l3 | _
  ·exact hC _ _ _ _ _ _ hI i hi
  ·exact hC _ _ _ _ _ _ hI i hi
  ·exact hC _ _ _ _ _ _ hI i hi
  ·cases a1
   ·exact hC _ _ _ _ _ _ hI i hi
   ·cases a2
    ·exact hC _ _ _ _ _ _ hI i hi
    ·cases a3
     ·exact hC _ _ _ _ _ _ hI i hi
     ·rw[List.mem_singleton.1 hi];exact ws9 hI
 ·rw[ready_W _ (fun e=>hI.2 (Sum.inr.inj e))]at hi;cases s2
  ·cases s1
   ·rw[List.mem_singleton.1 hi];exact ws10 hI
   ·rw[List.mem_singleton.1 hi];exact ws11 hI
  ·cases s1<;>cases hi
theorem endW {p:Prog} {H0:Hp}:∀(x:XW) (H:Hp),IW p H0 H x→Region.ready .any opsW (LW x)=[]→x.1 = .inr (true,true):=by
 rintro⟨x,v⟩ H hI h
 rcases x with ⟨c1,a1,a2,a3⟩ | ⟨s1,s2⟩
 ·rw[ready_W _ (by simp)]at h;exfalso
  rcases c1 with ⟨l1,l2,l3⟩ | ⟨l2,l3⟩ | l3 | _
  ·cases l1<;>cases l2<;>cases l3<;>cases a1<;>cases a2<;>cases a3<;>cases h
  ·cases l2<;>cases l3<;>cases a1<;>cases a2<;>cases a3<;>cases h
  ·cases l3<;>cases a1<;>cases a2<;>cases a3<;>cases h
  ·cases a1<;>cases a2<;>cases a3<;>cases h
 ·rw[ready_W _ (fun e=>hI.2 (Sum.inr.inj e))]at h;cases s1
  ·cases s2
   ·cases h
   ·exact absurd rfl hI.2
  ·cases s2
   ·cases h
   ·rfl
theorem regionW {p:Prog} {H:Hp} {kind:Int} {a:Option Addr} {n c:Nat} {y:Value} (hp:PSml p) (ha:RL H a n c p)
  {id:Nat} {Q:Ex→St→Hp→Prop} {s:St} (v0:V3) (hs:∃mm,Sub cxW mm s (TW kind (.slice a n c) y (.inl (.z false false false,false,false,false),v0)))
  (hQ:∀(v:V3) (H':Hp),Le H H'→RL H' v.1.1 v.1.2.1 v.1.2.2 (ens (varsOf p))→RL (α:=Site) H' v.2.1.1 v.2.1.2.1 v.2.1.2.2 (sitesOf p)→RL H' v.2.2.1 v.2.2.2.1 v.2.2.2.2 (exprsOf p)→Q .normal (TW kind (.slice a n c) y (.inr (true,true),v)) H'):
  RawCode cxW (.region id opsW true) Q s H :=
 region_treeM cxW_ok cx_mix (TW kind (.slice a n c) y) LW (fun x H'=>IW p H H' x) (.inl (.z false false false,false,false,false),v0) hs ⟨Le.refl H,trivial⟩ rfl
  (fun x=>by
   rcases x with ⟨⟨c1,a1,a2,a3⟩ | ⟨s1,s2⟩,v⟩
   ·rcases c1 with ⟨l1,l2,l3⟩ | ⟨l2,l3⟩ | l3 | _<;>rfl
   ·rfl)
  (fun x H' hI i hi=>stepW hp ha x H' hI i hi)
  (fun x H' hI h=>by
   have e:=endW x H' hI h;obtain⟨x1,v⟩:=x;have e:x1 = .inr (true,true):=e;subst e
   exact hQ v H' hI.1.1 hI.1.2.1 hI.1.2.2.1 hI.1.2.2.2)
end Go.Proofs
end
section
namespace Go.Proofs
open Go.Sy
set_option maxRecDepth 20000
set_option maxHeartbeats 4000000
theorem exprsK_len:∀(p:Prog) (o:List Expr),(p.foldl (fun o b=>exprsB o b.2.1) o).length≤o.length+stmtsN p
 | [],o=>by simp [stmtsN]
 | b::r,o=>by
  have h1:=exprsK_len r (exprsB o b.2.1);have h2:=exprsB_len b.2.1 o
  have e:stmtsN (b::r)=b.2.1.length+stmtsN r:=by simp [stmtsN]
  rw[List.foldl_cons,e];omega
theorem stmts512 {p:Prog} (h:checkE p=0):stmtsN p≤512:=by
 unfold checkE at h;split at h
 ·cases h
 ·omega
theorem exprs512 {p:Prog} (h:checkE p=0):(exprsOf p).length≤512:=by
 have h1:=exprsK_len p [];have h2:=stmts512 h;rw[List.length_nil]at h1;rw[exprsOf];omega
def asysOf (p:Prog):Bt.SyB:=⟨2,(exprsOf p).length,p.length,gSort (edgesOf p),[0],nilB (exprsOf p).length,p.map (atrF (exprsOf p))⟩
theorem asysT_take {p:Prog} {i:Nat} {b:Block} (h:p[i]?=some b):((asysOf p).T.map Bt.TrB.mk).take (i+1)=((asysOf p).T.map Bt.TrB.mk).take i++[Bt.TrB.mk (atrF (exprsOf p) b)]:=by
 have e:((asysOf p).T.map Bt.TrB.mk)[i]?=some (Bt.TrB.mk (atrF (exprsOf p) b)):=by
  show ((p.map (atrF (exprsOf p))).map Bt.TrB.mk)[i]?=_
  rw[List.getElem?_map,List.getElem?_map,h];rfl
 rw[List.take_add_one,e,Option.toList_some]
theorem asys_spec {p:Prog} (hp:p.length≤12) (hl:∀b∈p,b.2.1.length≤100000) (hc:stmtsN p≤1000000) (hv:cnt p<400000) {a:Option Addr} {n c:Nat} {H:Hp} {K:Value→Hp→Prop} (ha:RL H a n c p)
  (hbad:checkE p≠0→∀H',Le H H'→K (.tuple #[.agg zSys.toArray,.int .i64 (checkE p)]) H')
  (hK:checkE p=0→∀z H',Le H H'→Bt.SysR H' (asysOf p) z→K (.tuple #[Bt.sysA (asysOf p) z,.int .i64 0]) H'):Does Tryz.prog 18 [.agg #[.slice a n c]] H K:=by
 have hn:=ha.n_eq;have hmx:=ha.le;refine spec_of cx_ok cx_mix rfl Tryz.func18 Tryz.call18 Tryz.ntmps18 Tryz.results18 rfl rfl ?_
 refine pcheck_spec ha hc hv fun H0 hle0=>?_
 refine⟨fun h=>?_,fun h=>?_⟩
 ·exact hbad (nt h) _ (Le.refl H)
 have he:checkE p=0:=nf h;have hK:=hK he;have hx5:=exprs512 he
 refine texprs_spec hp hl ha fun ax nx cx H1 hle1 hrx=>?_
 have hnx:=hrx.n_eq;subst hnx;refine⟨none,?_⟩
 refine region_plan (α:=SA) ?_ ?_
  (.two 6 7 (.two 6 12 (.two 7 10 (.two 7 12 (.two 10 12 (.one [2,3] [0,1,2,3,4,5,8,9,6,7,10,11,12,13]) (.one [2,3] [0,1,2,3,4,5,8,9,6,7,12,10,11,13])) (.one [2,3] [0,1,2,3,4,5,8,9,6,12,7,10,11,13])) (.two 7 12 (.one [2,3] [0,1,2,3,4,5,8,9,6,10,7,11,12,13]) (.two 10 12 (.one [2,3] [0,1,2,3,4,5,8,9,6,10,12,7,11,13]) (.one [2,3] [0,1,2,3,4,5,8,9,6,12,10,7,11,13])))) (.two 7 10 (.one [2,3] [0,1,2,3,4,5,8,9,12,6,7,10,11,13]) (.one [2,3] [0,1,2,3,4,5,8,9,12,6,10,7,11,13]))) (.two 6 12 (.two 10 12 (.one [2,3] [0,1,2,3,4,5,8,9,7,6,10,11,12,13]) (.one [2,3] [0,1,2,3,4,5,8,9,7,6,12,10,11,13])) (.two 7 12 (.one [2,3] [0,1,2,3,4,5,8,9,7,12,6,10,11,13]) (.one [2,3] [0,1,2,3,4,5,8,9,12,7,6,10,11,13]))))
  (fun z=>⟨[(1,.ptr 0 0),(2,.ptr 1 0),(5,.v (.slice ax (exprsOf p).length cx)),(6,.ptr 2 0)],
   [(0,.cells 24 [.v (.slice a n c)]),(1,.cells 32 (vL zSys)),(2,.cells 32 [.v (.int .i64 (2:Nat)),.v (.int .i64 ((exprsOf p).length:Nat)),.v (.int .i64 n),.v (.slice z.ea z.en z.ec),.own 3,.v (.slice z.ia z.ni z.ic),.v (.slice none 0 0)]),(3,.row 3 1 iRow0)],4⟩)
  (fun z H'=>Le H1 H'∧RL H' z.ea z.en z.ec (gSort (edgesOf p))∧RL H' z.ia z.ni z.ic (nilB (exprsOf p).length)) (by kernel_rfl) ⟨⟨⟨⟨⟨?_,?_⟩,?_⟩,⟨?_,⟨?_,?_⟩⟩⟩,⟨?_,?_⟩⟩,⟨⟨?_,?_⟩,⟨?_,?_⟩⟩⟩ ?_
 ·exact⟨cx_ok.tt,cx_ok.eqs⟩
 ·exact cx_mix
 ·refine edges_spec hp (ha.up hle1) fun e1 e2 e3 H2 hle2 hr2=>?_
  refine wof_spec (w:=(exprsOf p).length) (l:=[]) (by omega) rl_nil fun w1 w2 w3 H5 hle5 hr5=>?_
  exact⟨⟨e1,e2,e3,none,0,0,w1,w2,w3,none,0,0⟩,[(0,0),(1,1),(2,3),(3,2)],by (repeat' (first|exact trivial|refine⟨?_,?_⟩|exact rfl|assumption)),hle2.trans hle5,hr2.up hle5,hr5⟩
 ·refine edges_spec hp (ha.up hle1) fun e1 e2 e3 H2 hle2 hr2=>?_
  refine wof_spec (w:=(exprsOf p).length) (l:=[]) (by omega) rl_nil fun w1 w2 w3 H5 hle5 hr5=>?_
  exact⟨⟨e1,e2,e3,none,0,0,w1,w2,w3,none,0,0⟩,[(0,0),(1,1),(2,3),(3,2)],by (repeat' (first|exact trivial|refine⟨?_,?_⟩|exact rfl|assumption)),hle2.trans hle5,hr2.up hle5,hr5⟩
 ·refine edges_spec hp (ha.up hle1) fun e1 e2 e3 H2 hle2 hr2=>?_
  refine wof_spec (w:=(exprsOf p).length) (l:=[]) (by omega) rl_nil fun w1 w2 w3 H5 hle5 hr5=>?_
  exact⟨⟨e1,e2,e3,none,0,0,w1,w2,w3,none,0,0⟩,[(0,0),(1,1),(2,2),(3,3)],by (repeat' (first|exact trivial|refine⟨?_,?_⟩|exact rfl|assumption)),hle2.trans hle5,hr2.up hle5,hr5⟩
 ·refine edges_spec hp (ha.up hle1) fun e1 e2 e3 H2 hle2 hr2=>?_
  refine wof_spec (w:=(exprsOf p).length) (l:=[]) (by omega) rl_nil fun w1 w2 w3 H5 hle5 hr5=>?_
  exact⟨⟨e1,e2,e3,none,0,0,w1,w2,w3,none,0,0⟩,[(0,0),(1,1),(2,3),(3,2)],by (repeat' (first|exact trivial|refine⟨?_,?_⟩|exact rfl|assumption)),hle2.trans hle5,hr2.up hle5,hr5⟩
 ·refine edges_spec hp (ha.up hle1) fun e1 e2 e3 H2 hle2 hr2=>?_
  refine wof_spec (w:=(exprsOf p).length) (l:=[]) (by omega) rl_nil fun w1 w2 w3 H5 hle5 hr5=>?_
  exact⟨⟨e1,e2,e3,none,0,0,w1,w2,w3,none,0,0⟩,[(0,0),(1,1),(2,2),(3,3)],by (repeat' (first|exact trivial|refine⟨?_,?_⟩|exact rfl|assumption)),hle2.trans hle5,hr2.up hle5,hr5⟩
 ·refine edges_spec hp (ha.up hle1) fun e1 e2 e3 H2 hle2 hr2=>?_
  refine wof_spec (w:=(exprsOf p).length) (l:=[]) (by omega) rl_nil fun w1 w2 w3 H5 hle5 hr5=>?_
  exact⟨⟨e1,e2,e3,none,0,0,w1,w2,w3,none,0,0⟩,[(0,0),(1,1),(2,2),(3,3)],by (repeat' (first|exact trivial|refine⟨?_,?_⟩|exact rfl|assumption)),hle2.trans hle5,hr2.up hle5,hr5⟩
 ·refine edges_spec hp (ha.up hle1) fun e1 e2 e3 H2 hle2 hr2=>?_
  refine wof_spec (w:=(exprsOf p).length) (l:=[]) (by omega) rl_nil fun w1 w2 w3 H5 hle5 hr5=>?_
  exact⟨⟨e1,e2,e3,none,0,0,w1,w2,w3,none,0,0⟩,[(0,0),(1,1),(2,2),(3,3)],by (repeat' (first|exact trivial|refine⟨?_,?_⟩|exact rfl|assumption)),hle2.trans hle5,hr2.up hle5,hr5⟩
 ·refine edges_spec hp (ha.up hle1) fun e1 e2 e3 H2 hle2 hr2=>?_
  refine wof_spec (w:=(exprsOf p).length) (l:=[]) (by omega) rl_nil fun w1 w2 w3 H5 hle5 hr5=>?_
  exact⟨⟨e1,e2,e3,none,0,0,w1,w2,w3,none,0,0⟩,[(0,0),(1,1),(2,2),(3,3)],by (repeat' (first|exact trivial|refine⟨?_,?_⟩|exact rfl|assumption)),hle2.trans hle5,hr2.up hle5,hr5⟩
 ·refine edges_spec hp (ha.up hle1) fun e1 e2 e3 H2 hle2 hr2=>?_
  refine wof_spec (w:=(exprsOf p).length) (l:=[]) (by omega) rl_nil fun w1 w2 w3 H5 hle5 hr5=>?_
  exact⟨⟨e1,e2,e3,none,0,0,w1,w2,w3,none,0,0⟩,[(0,0),(1,1),(2,3),(3,2)],by (repeat' (first|exact trivial|refine⟨?_,?_⟩|exact rfl|assumption)),hle2.trans hle5,hr2.up hle5,hr5⟩
 ·refine edges_spec hp (ha.up hle1) fun e1 e2 e3 H2 hle2 hr2=>?_
  refine wof_spec (w:=(exprsOf p).length) (l:=[]) (by omega) rl_nil fun w1 w2 w3 H5 hle5 hr5=>?_
  exact⟨⟨e1,e2,e3,none,0,0,w1,w2,w3,none,0,0⟩,[(0,0),(1,1),(2,3),(3,2)],by (repeat' (first|exact trivial|refine⟨?_,?_⟩|exact rfl|assumption)),hle2.trans hle5,hr2.up hle5,hr5⟩
 ·refine edges_spec hp (ha.up hle1) fun e1 e2 e3 H2 hle2 hr2=>?_
  refine wof_spec (w:=(exprsOf p).length) (l:=[]) (by omega) rl_nil fun w1 w2 w3 H5 hle5 hr5=>?_
  exact⟨⟨e1,e2,e3,none,0,0,w1,w2,w3,none,0,0⟩,[(0,0),(1,1),(2,3),(3,2)],by (repeat' (first|exact trivial|refine⟨?_,?_⟩|exact rfl|assumption)),hle2.trans hle5,hr2.up hle5,hr5⟩
 ·refine edges_spec hp (ha.up hle1) fun e1 e2 e3 H2 hle2 hr2=>?_
  refine wof_spec (w:=(exprsOf p).length) (l:=[]) (by omega) rl_nil fun w1 w2 w3 H5 hle5 hr5=>?_
  exact⟨⟨e1,e2,e3,none,0,0,w1,w2,w3,none,0,0⟩,[(0,0),(1,1),(2,2),(3,3)],by (repeat' (first|exact trivial|refine⟨?_,?_⟩|exact rfl|assumption)),hle2.trans hle5,hr2.up hle5,hr5⟩
 rintro⟨ea,en,ec,na,nn,nc,ia,ni,ic,ta,tn,tc⟩ H2 _ ⟨hle2,hze,hzi⟩;dsimp only at hze hzi
 refine⟨Nat×List (List Value),fun q=>⟨[(1,.ptr 0 0),(2,.ptr 1 0),(5,.v (.slice ax (exprsOf p).length cx)),(6,.ptr 2 0),(30,.v (.slice a n c)),(31,.v (.int .i64 n)),(32,.v (.int .i64 q.1))],
   [(0,.cells 24 [.v (.slice a n c)]),(1,.cells 32 (vL zSys)),(2,.cells 32 [.v (.int .i64 (2:Nat)),.v (.int .i64 ((exprsOf p).length:Nat)),.v (.int .i64 n),.v (.slice ea en ec),.own 3,.v (.slice ia ni ic),.own 4]),(3,.row 3 1 iRow0),(4,.row 78 3 q.2)],5⟩,
  fun q H'=>Le H2 H'∧q.1≤p.length∧RC (α:=Bt.TrB) H' q.2 (((asysOf p).T.map Bt.TrB.mk).take q.1),fun q=>p.length - q.1,⟨(0,[]),[(0,0),(1,1),(2,2),(3,3)],?_,Le.refl _,Nat.zero_le _,RC.nil⟩,?_⟩
 ·(repeat' (first|exact trivial|refine⟨?_,?_⟩|exact rfl|assumption))
 rintro⟨j,css⟩ H4 _ ⟨hle4,hj,hrc⟩;dsimp only at hj hrc;have hle:Le H H4:=(hle1.trans hle2).trans hle4
 have hTl:((asysOf p).T.map Bt.TrB.mk).length=p.length:=by simp [asysOf]
 have hcl:css.length=j:=by have h1:=hrc.1;rw[List.length_take]at h1;omega
 refine⟨fun h=>?_,fun h=>?_⟩
 ·have hlt:j<p.length:=by have:=dt h;dsimp only at this;omega
  refine name_k p[j] fun b hbe=>?_
  have hbb:p[j]?=some b:=by rw[hbe];exact List.getElem?_eq_getElem hlt
  refine block_k (ha.up hle) hbb fun ad a5 n5 c5 q1 hh hr5 hs5 ht5=>?_
  refine⟨ad,⟨by dsimp only;omega,by dsimp only;omega,q1⟩,?_⟩;refine⟨_,hh,?_⟩;refine⟨some ([1000000,2,4,6],[0,1,2,3,4,5,6,7,8]),by kernel_rfl,?_⟩
  refine atrans_spec (X:=exprsOf p) (by omega) (hl b (by rw[hbe];exact List.getElem_mem hlt)) (hrx.up (hle2.trans hle4)) hr5 fun zt H5 hle5 hr6=>?_
  refine⟨⟨by show (css.length+1)*72≤140737488355328;omega,by show css.length+1≤9223372036854775807;omega⟩,?_⟩
  have hrc2:RC (α:=Bt.TrB) H5 (css++[Bt.trV zt]) (((asysOf p).T.map Bt.TrB.mk).take (j+1)):=by
   rw[asysT_take hbb];exact trb_snoc (RC.up hrc hle5) hr6
  refine⟨⟨by omega,by omega⟩,(j+1,css++[Bt.trV zt]),[(0,0),(1,1),(2,2),(3,3),(4,7)],?_,⟨hle4.trans hle5,hlt,hrc2⟩,by dsimp only;omega⟩
  (repeat' (first|exact trivial|refine⟨?_,?_⟩|exact rfl|assumption))
 ·have hjl:j=p.length:=by have:=df h;dsimp only at this;omega
  rw[hjl,List.take_of_length_le (by omega)]at hrc;intro v1 H5 hle5 hv1
  refine ints_k hv1 fun na nn nc ev1 hr1=>?_
  subst ev1;intro v3 H7 hle7 hv3
  refine of_row_k (α:=Bt.TrB) hv3 (RC.up hrc (hle5.le.trans hle7.le)) fun ta tn tc ev3 hr3=>?_
  subst ev3;have h57:=hle5.le.trans hle7.le
  have hsys:Bt.SysR H7 (asysOf p) ⟨ea,en,ec,na,nn,nc,ia,ni,ic,ta,tn,tc⟩ :=
   ⟨hze.up (hle4.trans h57),hr1.up hle7.le,hzi.up (hle4.trans h57),hr3⟩
  have hK:=hK ⟨ea,en,ec,na,nn,nc,ia,ni,ic,ta,tn,tc⟩ H7 (hle.trans h57) hsys;have e2:(asysOf p).m=n:=hn.symm;rw[Bt.sysA,Bt.sysV,e2]at hK;exact hK
end Go.Proofs
end
section
/- Plain words: client.Words: what a value tells. -/
namespace Go.Proofs
open Go.Sy
open Bt
set_option maxRecDepth 20000
set_option maxHeartbeats 4000000
theorem bnmZ_len {p:Prog} (h:∀b∈p,b.1.l.length≤1000000) (i:Int):(bnmZ p i).length≤1000000:=by
 rw[bnmZ]
 cases e:p[i.toNat]? with
 | none=>simp
 | some b=>exact h b (List.mem_of_getElem? e)
theorem dgN_len (n:Nat):(dg n).length≤n+1:=by
 induction n using Nat.strongRecOn with
 | _ n ih =>
  by_cases h:n<10
  ·rw[dg_one h];simp
  ·have:=ih (n / 10) (by omega);rw[dg_big h,List.length_append,List.length_singleton];omega
theorem siteTx_len {p:Prog} (hp:PSml p):∀x∈sitesOf p,(siteTx p x).length≤3000000:=by
 intro x hx;have h1:=hp.hsl x hx;rw[siteTx];split
 ·rw[List.length_append];show x.2.2.l.length+6≤_;omega
 ·next h0 =>
  rcases site_in hx with h | ⟨m,b,h2,h3,j,h4,h5⟩
  ·exact absurd h h0
  ·have h6:=bnmZ_len hp.hbl x.1
   have h7:=dgN_len x.2.1.toNat
   have h8:=hp.hl b (List.mem_of_getElem? h3);simp only[List.length_append,List.length_singleton];omega
theorem words_len {p:Prog} (hp:PSml p) (kind:Int) (x:Wd):∀s∈wordsOf kind p x,s.length≤9223372036854775807:=by
 intro s hs;unfold wordsOf at hs;split at hs
 ·obtain⟨i,hi,rfl⟩:=List.mem_map.1 hs;have h1:=List.mem_range.1 hi;have h2:=hp.hvl _ (List.getElem_mem (show i<(varsOf p).length by omega))
  have h3:=kTx_len (x.getD i 0).toNat
  rw[kvF,List.getD_eq_getElem?_getD,List.getElem?_eq_getElem (show i<(varsOf p).length by omega)];simp only[List.length_append,List.length_singleton,Option.getD_some];omega
 ·split at hs
  ·have:=hp.hvl s (pkL_mem (Nat.le_refl _) s hs);omega
  ·split at hs
   ·obtain⟨y,hy,rfl⟩:=List.mem_map.1 (pkL_mem (by rw[List.length_map];exact Nat.le_refl _) s hs);have:=siteTx_len hp y hy;omega
   ·split at hs
    ·obtain⟨y,hy,rfl⟩:=List.mem_map.1 (pkL_mem (by rw[List.length_map];exact Nat.le_refl _) s hs);have h1:=hp.hxl y hy;have h2:=aTx_len2 h1.1;have h3:=aTx_len2 h1.2
     have:(xTx y).length≤3000000:=by
      rw[xTx]
      (repeat' split)<;>(try simp only[List.length_append,List.length_cons,List.length_nil])<;>omega
     omega
    ·cases hs
theorem exprs_sz {p:Prog} (hp:PSml p):(exprsOf p).length≤1000000:=by
 have h1:(exprsOf p).length≤[].length+stmtsN p:=exprsK_len p [];have h2:=hp.hc;rw[List.length_nil]at h1;omega
theorem cwords_spec {p:Prog} (hp:PSml p) {x:Wd} (hx:x.length≤1000000) {kind:Int} {a b:Option Addr} {n c m k:Nat} {H:Hp} {K:Value→Hp→Prop} (ha:RL H a n c p) (hb:RL H b m k x)
  (hK:∀a' n' c' H',Le H H'→RL H' a' n' c' (ens (wordsOf kind p x))→K (.slice a' n' c') H'):Does Tryz.prog 7 [.int .i64 kind,.agg #[.slice a n c],.slice b m k] H K:=by
 have hn:=ha.n_eq;have hm:=hb.n_eq;have hvz:=vars_sz hp.hv;refine spec_of cxC_ok cx_mix rfl Tryz.func7 Tryz.call7 Tryz.ntmps7 Tryz.results7 rfl rfl ?_;refine⟨none,regionW hp ha (y:=.slice b m k) ((none,0,0),(none,0,0),(none,0,0)) ⟨rnW,by (repeat' (first|exact trivial|refine⟨?_,?_⟩|exact rfl|assumption))⟩ ?_⟩;rintro⟨⟨av,nv,cv⟩,⟨az,nz,cz⟩,⟨ax,nx,cx'⟩⟩ H1 hle1 hrv hrz hrx;dsimp only at hrv hrz hrx;have hnv:=hrv.n_eq;have hnz:=hrz.n_eq;have hnx:=hrx.n_eq;rw[List.length_map]at hnv;have hle:=hle1;have hxz:=exprs_sz hp
 have hzz:(sitesOf p).length≤1000000:=by
  have h1:=siteP_len p 0;have h2:=hp.hc5;have h3:(varsOf p).length≤[].length+cnt p:=vars_len p [];have h4:=hp.hv;rw[List.length_nil]at h3;rw[sitesOf,List.length_append,site0,List.length_map];omega
 have hWL:=words_len hp kind x;refine⟨fun h=>?_,fun h=>?_⟩
 ·have h4:kind=4:=dt h;subst h4;refine⟨[2,3,1],rfl,?_⟩
  refine each2_spec (V:=varsOf p) (x:=x) (m:=min (varsOf p).length x.length) (by show min (nv:Int) (m:Int)=((min (varsOf p).length x.length:Nat):Int);omega) (by omega) (by omega) (by omega) hp.hvl hrv (hb.up hle1) fun H2 hle2=>?_
  intro v6 H6 hle6 hv6
  have e7:upTo (kvF (varsOf p) x) (min (varsOf p).length x.length)=wordsOf 4 p x:=by rw[wordsOf,if_pos rfl]
  refine of_row_k (α:=Str) hv6 (by rw[e7];exact rc_sRows hWL) fun d1 d2 d3 ev hr=>?_
  subst ev;exact hK _ _ _ _ ((hle1.trans hle2).trans hle6.le) hr
 ·have h4:¬kind=4:=df h;refine⟨fun h=>?_,fun h=>?_⟩
  ·have h1:kind=1:=dt h;subst h1
   obtain⟨L,eL⟩:∃L,L=varsOf p:=⟨_,rfl⟩
   obtain⟨kind,ek⟩:∃kind:Int,kind=1:=⟨_,rfl⟩
   have hW:pkL x L L.length=wordsOf kind p x:=by rw[eL,ek,wordsOf,if_neg (by decide),if_pos rfl]
   rw[←eL]at hrv hnv hvz;rw[←ek]at hK hWL;have hLz:L.length≤1000000:=hvz;have hleS:=hle1;have hbS:=hb.up hle1;have hrS:=hrv
   obtain⟨HS,eHS⟩:∃HS,HS=H1:=⟨_,rfl⟩
   rw[←eHS]at hrS hleS hbS ⊢
   refine⟨Nat,fun i=>⟨[(5,.ptr 1 0),(8,.own 2),(51,.v (.slice av nv cv)),(52,.v (.int .i64 (nv:Nat))),(53,.v (.int .i64 i))],[(1,.cells 25 [.v (.slice b m k)]),(2,.row 9 1 (sRows (pkL x L i)))],3⟩,
    fun i H'=>Le HS H'∧i≤L.length,fun i=>L.length - i,⟨0,[(1,1)],?_,Le.refl HS,Nat.zero_le _⟩,?_⟩
   ·(repeat' (first|exact trivial|refine⟨?_,?_⟩|exact rfl|assumption))
   rintro i H5 _ ⟨hle5,hi⟩;refine⟨fun h=>?_,fun h=>?_⟩
   ·have hlt:i<L.length:=by have:=dt h;omega
    refine str_k (hrS.up hle5) (List.getElem?_eq_getElem hlt) fun ad q1 hh _=>?_
    refine⟨ad,⟨by omega,by omega,q1⟩,?_⟩;refine⟨_,hh,?_⟩;refine whas_spec (by omega) (hbS.up hle5) ?_
    have hsz:((sRows (pkL x L i)).length+1)*16≤140737488355328∧(sRows (pkL x L i)).length+1≤9223372036854775807:=by have:=pkL_len x L i;rw[List.length_map];omega
    refine⟨fun h=>?_,fun h=>?_⟩
    ·have er:sRows (pkL x L i)++[[.string (bs L[i])]]=sRows (pkL x L (i+1)):=by
      have:L.getD i []=L[i]:=by rw[List.getD_eq_getElem?_getD,List.getElem?_eq_getElem hlt];rfl
      rw[pkL_yes h,this,sRows_snoc]
     refine⟨hsz,?_⟩;refine⟨⟨by omega,by omega⟩,i+1,[(1,1),(2,4)],?_,⟨hle5,hlt⟩,by dsimp only;omega⟩
     (repeat' (first|exact trivial|refine⟨?_,?_⟩|exact rfl|assumption))
    ·have er:sRows (pkL x L i)=sRows (pkL x L (i+1)):=by rw[pkL_no (by rw[h];decide)]
     refine⟨⟨by omega,by omega⟩,i+1,[(1,1),(2,2)],?_,⟨hle5,hlt⟩,by dsimp only;omega⟩
     (repeat' (first|exact trivial|refine⟨?_,?_⟩|exact rfl|assumption))
   ·have hil:i=L.length:=by have:=df h;omega
    intro v6 H6 hle6 hv6
    have e7:pkL x L i=wordsOf kind p x:=by rw[hil];exact hW
    refine of_row_k (α:=Str) hv6 (by rw[e7];exact rc_sRows hWL) fun d1 d2 d3 ev hr=>?_
    subst ev;exact hK _ _ _ _ ((hleS.trans hle5).trans hle6.le) hr
  ·have h1:¬kind=1:=df h;refine⟨fun h=>?_,fun h=>?_⟩
   ·have h2:kind=2:=dt h;subst h2;refine⟨[2,0,4],rfl,?_⟩
    refine each3_spec (m:=(sitesOf p).length) (by show (nz:Int)=((sitesOf p).length:Nat);omega) hzz hp (Nat.le_refl _) (ha.up hle1) hrz fun HS hle2=>?_
    have hleS:=hle1.trans hle2;have hbS:=hb.up hleS
    obtain⟨L,eL'⟩:∃L,L=(sitesOf p).map (siteTx p):=⟨_,rfl⟩
    obtain⟨U,eU⟩:∃U,U=upTo (fun i=>siteTx p ((sitesOf p).getD i (0,0,⟨[]⟩))) (sitesOf p).length:=⟨_,rfl⟩
    have eL:U=L:=by rw[eU,eL',upTo_getD]
    have hW:pkL x L L.length=wordsOf 2 p x:=by rw[eL',List.length_map,wordsOf,if_neg (by decide),if_neg (by decide),if_pos rfl]
    have hLz:L.length≤1000000:=by rw[eL',List.length_map];exact hzz
    rw[←eU]
    obtain⟨kind,ek⟩:∃kind:Int,kind=2:=⟨_,rfl⟩
    rw[←ek]at hW hK hWL;have hLl:(sRows L).length=L.length:=List.length_map _
    have er0:sRows U=sRows L:=by rw[eL]
    have e52:SV.v (.int .i64 ((sRows U).length:Nat))=SV.v (.int .i64 (L.length:Nat)):=by rw[er0,hLl]
    refine⟨Nat,fun i=>⟨[(5,.ptr 1 0),(8,.own 3),(51,.own 2),(52,.v (.int .i64 (L.length:Nat))),(53,.v (.int .i64 i))],[(1,.cells 25 [.v (.slice b m k)]),(2,.row 9 1 (sRows L)),(3,.row 9 1 (sRows (pkL x L i)))],4⟩,
     fun i H'=>Le HS H'∧i≤L.length,fun i=>L.length - i,⟨0,[(1,1),(2,6)],?_,Le.refl HS,Nat.zero_le _⟩,?_⟩
    ·(repeat' (first|exact trivial|refine⟨?_,?_⟩|exact rfl|assumption))
    rintro i H5 _ ⟨hle5,hi⟩;refine⟨fun h=>?_,fun h=>?_⟩
    ·have hlt:i<L.length:=by have:=dt h;omega
     have hget:(sRows L)[i]?=some [.string (bs L[i])]:=by rw[List.getElem?_map,List.getElem?_eq_getElem hlt];rfl
     refine⟨⟨by omega,by rw[hLl];omega⟩,?_⟩;refine⟨_,hget,?_⟩;refine whas_spec (by omega) (hbS.up hle5) ?_
     have hsz:((sRows (pkL x L i)).length+1)*16≤140737488355328∧(sRows (pkL x L i)).length+1≤9223372036854775807:=by have:=pkL_len x L i;rw[List.length_map];omega
     refine⟨fun h=>?_,fun h=>?_⟩
     ·have er:sRows (pkL x L i)++[[.string (bs L[i])]]=sRows (pkL x L (i+1)):=by
       have:L.getD i []=L[i]:=by rw[List.getD_eq_getElem?_getD,List.getElem?_eq_getElem hlt];rfl
       rw[pkL_yes h,this,sRows_snoc]
      refine⟨hsz,?_⟩;refine⟨⟨by omega,by omega⟩,i+1,[(1,1),(2,2),(3,5)],?_,⟨hle5,hlt⟩,by dsimp only;omega⟩
      (repeat' (first|exact trivial|refine⟨?_,?_⟩|exact rfl|assumption))
     ·have er:sRows (pkL x L i)=sRows (pkL x L (i+1)):=by rw[pkL_no (by rw[h];decide)]
      refine⟨⟨by omega,by omega⟩,i+1,[(1,1),(2,2),(3,3)],?_,⟨hle5,hlt⟩,by dsimp only;omega⟩
      (repeat' (first|exact trivial|refine⟨?_,?_⟩|exact rfl|assumption))
    ·have hil:i=L.length:=by have:=df h;omega
     intro v6 H6 hle6 hv6
     have e7:pkL x L i=wordsOf kind p x:=by rw[hil];exact hW
     refine of_row_k (α:=Str) hv6 (by rw[e7];exact rc_sRows hWL) fun d1 d2 d3 ev hr=>?_
     subst ev;exact hK _ _ _ _ ((hleS.trans hle5).trans hle6.le) hr
   ·have h2:¬kind=2:=df h;refine⟨fun h=>?_,fun h=>?_⟩
    ·have h3:kind=3:=dt h;subst h3;refine⟨[2,5],rfl,?_⟩
     refine each4_spec (X:=exprsOf p) (m:=(exprsOf p).length) (by show (nx:Int)=((exprsOf p).length:Nat);omega) hxz (Nat.le_refl _) hp.hxl hrx fun HS hle2=>?_
     have hleS:=hle1.trans hle2;have hbS:=hb.up hleS
     obtain⟨L,eL'⟩:∃L,L=(exprsOf p).map xTx:=⟨_,rfl⟩
     obtain⟨U,eU⟩:∃U,U=upTo (fun i=>xTx ((exprsOf p).getD i (0,(⟨[]⟩,0,0),(⟨[]⟩,0,0)))) (exprsOf p).length:=⟨_,rfl⟩
     have eL:U=L:=by rw[eU,eL',upTo_getD]
     have hW:pkL x L L.length=wordsOf 3 p x:=by rw[eL',List.length_map,wordsOf,if_neg (by decide),if_neg (by decide),if_neg (by decide),if_pos rfl]
     have hLz:L.length≤1000000:=by rw[eL',List.length_map];exact hxz
     rw[←eU]
     obtain⟨kind,ek⟩:∃kind:Int,kind=3:=⟨_,rfl⟩
     rw[←ek]at hW hK hWL;have hLl:(sRows L).length=L.length:=List.length_map _
     have er0:sRows U=sRows L:=by rw[eL]
     have e52:SV.v (.int .i64 ((sRows U).length:Nat))=SV.v (.int .i64 (L.length:Nat)):=by rw[er0,hLl]
     refine⟨Nat,fun i=>⟨[(5,.ptr 1 0),(8,.own 3),(51,.own 2),(52,.v (.int .i64 (L.length:Nat))),(53,.v (.int .i64 i))],[(1,.cells 25 [.v (.slice b m k)]),(2,.row 9 1 (sRows L)),(3,.row 9 1 (sRows (pkL x L i)))],4⟩,
      fun i H'=>Le HS H'∧i≤L.length,fun i=>L.length - i,⟨0,[(1,1),(2,6)],?_,Le.refl HS,Nat.zero_le _⟩,?_⟩
     ·(repeat' (first|exact trivial|refine⟨?_,?_⟩|exact rfl|assumption))
     rintro i H5 _ ⟨hle5,hi⟩;refine⟨fun h=>?_,fun h=>?_⟩
     ·have hlt:i<L.length:=by have:=dt h;omega
      have hget:(sRows L)[i]?=some [.string (bs L[i])]:=by rw[List.getElem?_map,List.getElem?_eq_getElem hlt];rfl
      refine⟨⟨by omega,by rw[hLl];omega⟩,?_⟩;refine⟨_,hget,?_⟩;refine whas_spec (by omega) (hbS.up hle5) ?_
      have hsz:((sRows (pkL x L i)).length+1)*16≤140737488355328∧(sRows (pkL x L i)).length+1≤9223372036854775807:=by have:=pkL_len x L i;rw[List.length_map];omega
      refine⟨fun h=>?_,fun h=>?_⟩
      ·have er:sRows (pkL x L i)++[[.string (bs L[i])]]=sRows (pkL x L (i+1)):=by
        have:L.getD i []=L[i]:=by rw[List.getD_eq_getElem?_getD,List.getElem?_eq_getElem hlt];rfl
        rw[pkL_yes h,this,sRows_snoc]
       refine⟨hsz,?_⟩;refine⟨⟨by omega,by omega⟩,i+1,[(1,1),(2,2),(3,5)],?_,⟨hle5,hlt⟩,by dsimp only;omega⟩
       (repeat' (first|exact trivial|refine⟨?_,?_⟩|exact rfl|assumption))
      ·have er:sRows (pkL x L i)=sRows (pkL x L (i+1)):=by rw[pkL_no (by rw[h];decide)]
       refine⟨⟨by omega,by omega⟩,i+1,[(1,1),(2,2),(3,3)],?_,⟨hle5,hlt⟩,by dsimp only;omega⟩
       (repeat' (first|exact trivial|refine⟨?_,?_⟩|exact rfl|assumption))
     ·have hil:i=L.length:=by have:=df h;omega
      intro v6 H6 hle6 hv6
      have e7:pkL x L i=wordsOf kind p x:=by rw[hil];exact hW
      refine of_row_k (α:=Str) hv6 (by rw[e7];exact rc_sRows hWL) fun d1 d2 d3 ev hr=>?_
      subst ev;exact hK _ _ _ _ ((hleS.trans hle5).trans hle6.le) hr
    ·have h3:¬kind=3:=df h
     obtain⟨L,eL⟩:∃L:List Bs8,L=[]:=⟨_,rfl⟩
     have hW:pkL x L L.length=wordsOf kind p x:=by rw[eL,wordsOf,if_neg h4,if_neg h1,if_neg h2,if_neg h3];rfl
     have hrS:RL H1 none 0 0 (ens L):=by rw[eL];exact⟨rfl,Nat.le_refl _,Nat.zero_le _,.inl rfl⟩
     have hLz:L.length≤1000000:=by rw[eL];exact Nat.zero_le _
     have hLn:L.length=0:=by rw[eL];rfl
     have hleS:=hle1;have hbS:=hb.up hle1
     obtain⟨HS,eHS⟩:∃HS,HS=H1:=⟨_,rfl⟩
     rw[←eHS]at hrS hleS hbS ⊢
     refine⟨Nat,fun i=>⟨[(5,.ptr 1 0),(8,.own 2),(51,.v (.slice none 0 0)),(52,.v (.int .i64 (0:Nat))),(53,.v (.int .i64 i))],[(1,.cells 25 [.v (.slice b m k)]),(2,.row 9 1 (sRows (pkL x L i)))],3⟩,
      fun i H'=>Le HS H'∧i≤L.length,fun i=>L.length - i,⟨0,[(1,1)],?_,Le.refl HS,Nat.zero_le _⟩,?_⟩
     ·(repeat' (first|exact trivial|refine⟨?_,?_⟩|exact rfl|assumption))
     rintro i H5 _ ⟨hle5,hi⟩;refine⟨fun h=>?_,fun h=>?_⟩
     ·have hlt:i<L.length:=by have:=dt h;omega
      refine str_k (hrS.up hle5) (List.getElem?_eq_getElem hlt) fun ad q1 hh _=>?_
      refine⟨ad,⟨by omega,by omega,q1⟩,?_⟩;refine⟨_,hh,?_⟩;refine whas_spec (by omega) (hbS.up hle5) ?_
      have hsz:((sRows (pkL x L i)).length+1)*16≤140737488355328∧(sRows (pkL x L i)).length+1≤9223372036854775807:=by have:=pkL_len x L i;rw[List.length_map];omega
      refine⟨fun h=>?_,fun h=>?_⟩
      ·have er:sRows (pkL x L i)++[[.string (bs L[i])]]=sRows (pkL x L (i+1)):=by
        have:L.getD i []=L[i]:=by rw[List.getD_eq_getElem?_getD,List.getElem?_eq_getElem hlt];rfl
        rw[pkL_yes h,this,sRows_snoc]
       refine⟨hsz,?_⟩;refine⟨⟨by omega,by omega⟩,i+1,[(1,1),(2,4)],?_,⟨hle5,hlt⟩,by dsimp only;omega⟩
       (repeat' (first|exact trivial|refine⟨?_,?_⟩|exact rfl|assumption))
      ·have er:sRows (pkL x L i)=sRows (pkL x L (i+1)):=by rw[pkL_no (by rw[h];decide)]
       refine⟨⟨by omega,by omega⟩,i+1,[(1,1),(2,2)],?_,⟨hle5,hlt⟩,by dsimp only;omega⟩
       (repeat' (first|exact trivial|refine⟨?_,?_⟩|exact rfl|assumption))
     ·have hil:i=L.length:=by have:=df h;omega
      intro v6 H6 hle6 hv6
      have e7:pkL x L i=wordsOf kind p x:=by rw[hil];exact hW
      refine of_row_k (α:=Str) hv6 (by rw[e7];exact rc_sRows hWL) fun d1 d2 d3 ev hr=>?_
      subst ev;exact hK _ _ _ _ ((hleS.trans hle5).trans hle6.le) hr
end Go.Proofs
end
section
namespace Go.Proofs
open Go.Sy
set_option maxRecDepth 20000
set_option maxHeartbeats 4000000
theorem site_open {H:Hp} {cs:List Value} {x:Site} (h:Enc.R H cs x):cs=siteV x∧siteR x:=by
 obtain⟨c1,c2,rfl,⟨rfl,h1⟩,c3,c4,rfl,⟨rfl,h2⟩,rfl,h3⟩:=h;exact⟨rfl,h1,h2,h3⟩
theorem site_k {P:Prop} {H:Hp} {a:Option Addr} {n c:Nat} {xs:List Site} (h:RL H a n c xs) {i:Nat} {x:Site} (hi:xs[i]?=some x) (k:∀ad,a=some ad→ElemH H ad (i:Int) 3 (siteV x)→siteR x→P):P :=
 elem_k h hi fun ad cs h1 h2 h3=>by
  obtain⟨rfl,h4⟩:=site_open h3;exact k ad h1 h2 h4
def hitS (b k:Int) (v:Bs8) (x:Site):Bool:=decide (x.1=b)&&decide (x.2.1<k)&&decide (x.2.2.l=v)
def lastG (b k:Int) (v:Bs8):List Site→Nat→Int→Int
 | [],_,o=>o
 | x::r,i,o=>lastG b k v r (i+1) (if hitS b k v x=true then (i:Int) else o)
def lastS (Z:List Site) (b k:Int) (v:Bs8):Int:=lastG b k v Z 0 (-1)
structure FamK (Z:List Site) (b k:Int) (v:Bs8) (L:Nat→Int):Prop where
 z:L 0 = -1
 y:∀i x,Z[i]?=some x→hitS b k v x=true→L (i+1)=i
 n:∀i x,Z[i]?=some x→hitS b k v x=false→L (i+1)=L i
 e:L Z.length=lastS Z b k v
theorem lastG_take (b k:Int) (v:Bs8):∀(l:List Site) (i j:Nat) (o:Int) (x:Site),l[i]?=some x→lastG b k v (l.take (i+1)) j o=if hitS b k v x=true then ((j+i:Nat):Int) else lastG b k v (l.take i) j o
 | [],i,j,o,x,h=>by simp at h
 | y::r,0,j,o,x,h=>by
  rw[List.getElem?_cons_zero]at h;cases h;simp [lastG]
 | y::r,i+1,j,o,x,h=>by
  rw[List.getElem?_cons_succ]at h;rw[List.take_succ_cons,List.take_succ_cons,lastG,lastG,lastG_take b k v r i (j+1) _ x h,show j+1+i=j+(i+1) by omega]
theorem famK_k {P:Prop} (Z:List Site) (b k:Int) (v:Bs8) (kk:∀L,FamK Z b k v L→P):P:=by
 refine kk (fun i=>lastG b k v (Z.take i) 0 (-1)) ⟨rfl,fun i x hx hh=>?_,fun i x hx hh=>?_,?_⟩
 ·rw[lastG_take b k v Z i 0 (-1) x hx,if_pos hh,Nat.zero_add]
 ·rw[lastG_take b k v Z i 0 (-1) x hx,if_neg (by rw[hh];decide)]
 ·rw[List.take_length];rfl
theorem rlast_spec {Z:List Site} {b k:Int} {v:Bs8} {a:Option Addr} {n c:Nat} {H:Hp} {K:Value→Hp→Prop} (ha:RL (α:=Site) H a n c Z) (hK:K (.int .i64 (lastS Z b k v)) H):Does Tryz.prog 89 [.slice a n c,.int .i64 b,.int .i64 k,.string (bs v)] H K:=by
 have hn:=ha.n_eq;have hmx:=ha.le
 refine famK_k Z b k v fun L hL=>?_
 rw[←hL.e]at hK;refine spec_of cx_ok cx_mix rfl Tryz.func89 Tryz.call89 Tryz.ntmps89 Tryz.results89 rfl rfl ?_
 refine⟨Nat,fun i=>⟨[(1,.v (.int .i64 b)),(2,.v (.int .i64 k)),(3,.v (.string (bs v))),(9,.v (.int .i64 (L i))),(12,.v (.slice a n c)),(13,.v (.int .i64 n)),(14,.v (.int .i64 i))],[],0⟩,
  fun i H'=>H'=H∧i≤Z.length,fun i=>Z.length - i,⟨0,[],?_,rfl,Nat.zero_le _⟩,?_⟩
 ·have e1:SV.v (.int .i64 (-1))=SV.v (.int .i64 (L 0)):=by rw[hL.z]
  (repeat' (first|exact trivial|refine⟨?_,?_⟩|exact rfl|assumption))
 rintro i H1 _ ⟨rfl,hi⟩;refine⟨fun h=>?_,fun h=>?_⟩
 ·have hlt:i<Z.length:=by have:=dt h;omega
  refine name_k Z[i] fun x hxe=>?_
  have hxx:Z[i]?=some x:=by rw[hxe];exact List.getElem?_eq_getElem hlt
  refine site_k ha hxx fun ad q1 hh _=>?_
  refine⟨ad,⟨by omega,by omega,q1⟩,?_⟩;refine⟨_,hh,?_⟩;refine⟨fun h1=>?_,fun h1=>?_⟩
  case refine_2 =>
   have h1:¬x.1=b:=df h1
   have hno:hitS b k v x=false:=by rw[hitS,decide_eq_false h1];rfl
   have e1:SV.v (.int .i64 (L i))=SV.v (.int .i64 (L (i+1))):=by rw[hL.n i x hxx hno]
   refine⟨⟨by omega,by omega⟩,i+1,[],?_,⟨rfl,hlt⟩,by dsimp only;omega⟩
   (repeat' (first|exact trivial|refine⟨?_,?_⟩|exact rfl|assumption))
  have h1:x.1=b:=dt h1;refine⟨fun h2=>?_,fun h2=>?_⟩
  case refine_2 =>
   have h2:¬x.2.1<k:=df h2
   have hno:hitS b k v x=false:=by rw[hitS,decide_eq_false h2,Bool.and_false];rfl
   have e1:SV.v (.int .i64 (L i))=SV.v (.int .i64 (L (i+1))):=by rw[hL.n i x hxx hno]
   refine⟨⟨by omega,by omega⟩,i+1,[],?_,⟨rfl,hlt⟩,by dsimp only;omega⟩
   (repeat' (first|exact trivial|refine⟨?_,?_⟩|exact rfl|assumption))
  have h2:x.2.1<k:=dt h2;refine⟨fun h3=>?_,fun h3=>?_⟩
  ·have h3:x.2.2.l=v:=dt h3
   have hyes:hitS b k v x=true:=by rw[hitS,decide_eq_true h1,decide_eq_true h2,decide_eq_true h3];rfl
   have e1:SV.v (.int .i64 (i:Int))=SV.v (.int .i64 (L (i+1))):=by rw[hL.y i x hxx hyes]
   refine⟨⟨by omega,by omega⟩,i+1,[],?_,⟨rfl,hlt⟩,by dsimp only;omega⟩
   (repeat' (first|exact trivial|refine⟨?_,?_⟩|exact rfl|assumption))
  ·have h3:¬x.2.2.l=v:=df h3
   have hno:hitS b k v x=false:=by rw[hitS,decide_eq_false h3,Bool.and_false]
   have e1:SV.v (.int .i64 (L i))=SV.v (.int .i64 (L (i+1))):=by rw[hL.n i x hxx hno]
   refine⟨⟨by omega,by omega⟩,i+1,[],?_,⟨rfl,hlt⟩,by dsimp only;omega⟩
   (repeat' (first|exact trivial|refine⟨?_,?_⟩|exact rfl|assumption))
 ·have hil:i=Z.length:=by have:=df h;omega
  subst hil;exact hK
end Go.Proofs
end
section
namespace Go.Proofs
open Go.Sy
set_option maxRecDepth 20000
set_option maxHeartbeats 4000000
end Go.Proofs
end
section
namespace Go.Proofs
open Go.Sy
set_option maxRecDepth 20000
set_option maxHeartbeats 4000000
def bRow (n:Nat) (f:Nat→Bool):List (List Value):=(List.range n).map fun j=>[Value.bool (f j)]
theorem bRow_len (n:Nat) (f:Nat→Bool):(bRow n f).length=n:=by rw[bRow,List.length_map,List.length_range]
theorem bRow_get {n:Nat} (f:Nat→Bool) {i:Nat} (h:i<n):(bRow n f)[i]?=some [.bool (f i)]:=by
 rw[bRow,List.getElem?_map,List.getElem?_range h];rfl
theorem bRow_set {n:Nat} {f g:Nat→Bool} {i:Nat} {b:Bool} (h:∀j,g j=if j=i then b else f j):(bRow n f).set i [.bool b]=bRow n g:=by
 refine List.ext_getElem? fun j=>?_
 rw[List.getElem?_set,bRow_len]
 by_cases hj:i=j
 ·subst hj;rw[if_pos rfl]
  by_cases hn:i<n
  ·rw[if_pos hn,bRow_get g hn,h,if_pos rfl]
  ·rw[if_neg hn,List.getElem?_eq_none (by rw[bRow_len];omega)]
 ·rw[if_neg hj]
  by_cases hn:j<n
  ·rw[bRow_get f hn,bRow_get g hn,h,if_neg (fun e=>hj e.symm)]
  ·rw[List.getElem?_eq_none (by rw[bRow_len];omega),List.getElem?_eq_none (by rw[bRow_len];omega)]
theorem bRow_zero (n:Nat):List.replicate n [Value.bool false]=bRow n fun _=>false:=by
 refine List.ext_getElem? fun j=>?_
 by_cases hn:j<n
 ·rw[bRow_get _ hn,List.getElem?_replicate,if_pos hn]
 ·rw[List.getElem?_eq_none (by rw[List.length_replicate];omega),List.getElem?_eq_none (by rw[bRow_len];omega)]
theorem rc_bRow {H:Hp} {n:Nat} {f:Nat→Bool} {l:List Bool} (hl:l.length=n) (h:∀i b,l[i]?=some b→f i=b):RC (α:=Bool) H (bRow n f) l:=by
 refine⟨by rw[bRow_len,hl],fun i cs x h1 h2=>?_⟩
 have hi:i<n:=by
  rw[←hl];exact (List.getElem?_eq_some_iff.1 h2).1
 rw[bRow_get f hi,h i x h2]at h1;cases h1
 rfl
theorem kill_as {s:Stmt} (h:stmtB s=true) (x:Expr):(decide (s.1≠3)&&asksE x s.2.1.l)=killE s x:=by
 have nm:∀l:Bs8,nmB l=true→(!decide (l=[]))=true:=fun l h=>by
  cases l with
  | nil=>cases h
  | cons _ _=>rfl
 unfold stmtB at h;rw[killE];split at h
 ·rename_i h1;rw[Bool.and_eq_true]at h;rw[nm _ h.1,decide_eq_true (show s.1≠3 by omega)]
 ·split at h
  ·rename_i h1 h2;rw[Bool.and_eq_true]at h;rw[nm _ h.1,decide_eq_true (show s.1≠3 by omega)]
  ·split at h
   ·rename_i h1 h2 h3;rw[Bool.and_eq_true,Bool.and_eq_true,decide_eq_true_eq]at h;rw[decide_eq_false (show ¬s.1≠3 by omega),decide_eq_true h.1.1]
    rfl
   ·cases h
theorem kn_same {Kn:Nat→Nat→Nat→Bool} {k m:Nat} {x:Expr} {s:Stmt} (hks:∀i,Kn k (m+1) i=if i=m then kn1 x (Kn k m m) s else Kn k m i) (hkill:killE s x=false) (hset:setsE s x=false):Kn k m=Kn k (m+1):=funext fun j=>by
 rw[hks,show kn1 x (Kn k m m) s=Kn k m m by rw[kn1,if_neg (by rw[hkill];decide),if_neg (by rw[hset];decide)]];split
 ·rename_i e;rw[e]
 ·rfl
theorem rafter_spec {X:List Expr} (hX:X.length≤1024) {l:List Stmt} (hb:l.length≤100000) (hB:∀s∈l,stmtB s=true) {a b la:Option Addr} {n c kn kc ln lc:Nat} {H:Hp} {K:Value→Hp→Prop} (ha:RL H a n c X) (hkv:RowAt H (.slice b kn kc) 1 (bRow X.length fun _=>false)) (hl:RL H la ln lc l)
  (hK:∀a1 n1 c1 H',Le H H'→RL (α:=Bool) H' a1 n1 c1 (X.map fun x=>knB x l)→K (.slice a1 n1 c1) H'):Does Tryz.prog 90 [.slice a n c,.slice b kn kc,.slice la ln lc] H K:=by
 have hn:=ha.n_eq;have hln:=hl.n_eq
 refine famM_k X l fun Kn Ls hM=>?_
 have hbl:∀f:Nat→Bool,(bRow X.length f).length=X.length:=fun f=>bRow_len _ _
 refine spec_of cx_ok cx_mix rfl Tryz.func90 Tryz.call90 Tryz.ntmps90 Tryz.results90 rfl rfl ?_;refine⟨bRow X.length fun _=>false,hkv,?_⟩;refine⟨⟨by show (0+_)*1≤140737488355328;rw[hbl];omega,by show 0+_≤9223372036854775807;rw[hbl];omega⟩,?_⟩
 refine⟨Nat,fun k=>⟨[(0,.v (.slice a n c)),(7,.own 0),(15,.v (.slice la ln lc)),(16,.v (.int .i64 ln)),(17,.v (.int .i64 k))],[(0,.row 4 1 (bRow X.length (Kn k 0)))],1⟩,
  fun k H'=>Le H H'∧k≤l.length,fun k=>l.length - k,⟨0,[(0,1)],?_,Le.refl H,Nat.zero_le _⟩,?_⟩
 ·have e1:bRow X.length (fun _=>false)=bRow X.length (Kn 0 0):=by rw[hM.k0]
  (repeat' (first|exact trivial|refine⟨?_,?_⟩|exact rfl|assumption))
 rintro k H1 _ ⟨hle1,hk⟩;refine⟨fun h=>?_,fun h=>?_⟩
 ·have hlt:k<l.length:=by have:=dt h;omega
  refine name_k l[k] fun s hse=>?_
  have hss:l[k]?=some s:=by rw[hse];exact List.getElem?_eq_getElem hlt
  have hBs:=hB s (List.mem_of_getElem? hss)
  refine stmt_k (hl.up hle1) hss fun ad q1 hh hR=>?_
  refine⟨ad,⟨by omega,by omega,q1⟩,?_⟩;refine⟨_,hh,?_⟩
  refine⟨Nat,fun m=>⟨[(0,.v (.slice a n c)),(7,.own 0),(9,.ptr 1 0),(15,.v (.slice la ln lc)),(16,.v (.int .i64 ln)),(17,.v (.int .i64 k)),(21,.v (.slice a n c)),(22,.v (.int .i64 n)),(23,.v (.int .i64 m))],[(0,.row 4 1 (bRow X.length (Kn k m))),(1,.cells 57 (vL (stmtV s)))],2⟩,
   fun m H'=>Le H1 H'∧m≤X.length,fun m=>X.length - m,⟨0,[(0,0),(1,1)],?_,Le.refl H1,Nat.zero_le _⟩,?_⟩
  ·(repeat' (first|exact trivial|refine⟨?_,?_⟩|exact rfl|assumption))
  rintro m H2 _ ⟨hle2,hm⟩;refine⟨fun h=>?_,fun h=>?_⟩
  ·have hml:m<X.length:=by have:=dt h;omega
   refine name_k X[m] fun x hxe=>?_
   have hxx:X[m]?=some x:=by rw[hxe];exact List.getElem?_eq_getElem hml
   have hks:=hM.ks k m s x hss hxx;have hka:=kill_as hBs x
   refine expr_k (ha.up (hle1.trans hle2)) hxx fun ad2 q2 hh2 hRx=>?_
   refine⟨ad2,⟨by omega,by omega,q2⟩,?_⟩;refine⟨_,hh2,?_⟩;refine⟨fun h1=>?_,fun h1=>?_⟩
   ·have h1:s.1=1:=dt h1;refine⟨fun hx=>?_,fun hx=>?_⟩
    ·have hx:s.2.2=x:=of_decide_eq_true ((eqX_vc s.2.2 x).symm.trans hx)
     have hset:setsE s x=true:=by rw[setsE,decide_eq_true h1,decide_eq_true hx];rfl
     have e0:(bRow X.length (Kn k m)).set m [.bool true]=bRow X.length fun j=>if j=m then true else Kn k m j:=bRow_set fun j=>rfl
     have h3:¬s.1=3:=by omega
     rw[decide_eq_true (show s.1≠3 from h3),Bool.true_and]at hka;refine⟨⟨by omega,by rw[bRow_len];omega⟩,?_⟩;refine⟨_,bRow_get _ hml,?_⟩;refine⟨fun _=>?_,fun h=>absurd (nf h) h3⟩
     refine rasks_spec hRx fun _ _=>?_
     refine⟨fun hkill=>?_,fun hkill=>?_⟩
     ·have hkill:killE s x=true:=hka.symm.trans hkill
      have e1:((bRow X.length (Kn k m)).set m [.bool true]).set m [.bool false]=bRow X.length (Kn k (m+1)):=by
       rw[e0]
       refine bRow_set fun j=>?_
       rw[hks,show kn1 x (Kn k m m) s=false by rw[kn1,if_pos hkill]]
       by_cases hj:j=m
       ·rw[if_pos hj,if_pos hj]
       ·rw[if_neg hj,if_neg hj,if_neg hj]
      refine⟨⟨by omega,by rw[List.length_set,bRow_len];omega⟩,?_⟩;refine⟨[.bool true],(show ((bRow X.length (Kn k m)).set m [.bool true])[m]?=some [.bool true] by rw[e0,bRow_get _ hml,if_pos rfl]),?_⟩;refine⟨⟨by omega,by omega⟩,m+1,[(0,0),(1,1)],?_,⟨hle2,hml⟩,by dsimp only;omega⟩
      (repeat' (first|exact trivial|refine⟨?_,?_⟩|exact rfl|assumption))
     ·have hkill:killE s x=false:=hka.symm.trans hkill
      have e1:(bRow X.length (Kn k m)).set m [.bool true]=bRow X.length (Kn k (m+1)):=bRow_set fun j=>by rw[hks,show kn1 x (Kn k m m) s=true by rw[kn1,if_neg (by rw[hkill];decide),if_pos hset]]
      refine⟨⟨by omega,by omega⟩,m+1,[(0,0),(1,1)],?_,⟨hle2,hml⟩,by dsimp only;omega⟩
      (repeat' (first|exact trivial|refine⟨?_,?_⟩|exact rfl|assumption))
    ·have hx:¬s.2.2=x:=of_decide_eq_false ((eqX_vc s.2.2 x).symm.trans hx)
     have hset:setsE s x=false:=by rw[setsE,decide_eq_false hx,Bool.and_false]
     refine⟨fun h3=>?_,fun h3=>?_⟩
     ·have h3:¬s.1=3:=nt h3;rw[decide_eq_true (show s.1≠3 from h3),Bool.true_and]at hka
      refine rasks_spec hRx fun _ _=>?_
      refine⟨fun hkill=>?_,fun hkill=>?_⟩
      ·have hkill:killE s x=true:=hka.symm.trans hkill
       have e1:(bRow X.length (Kn k m)).set m [.bool false]=bRow X.length (Kn k (m+1)):=bRow_set fun j=>by rw[hks,show kn1 x (Kn k m m) s=false by rw[kn1,if_pos hkill]]
       refine⟨⟨by omega,by rw[bRow_len];omega⟩,?_⟩;refine⟨_,bRow_get _ hml,?_⟩;refine⟨⟨by omega,by omega⟩,m+1,[(0,0),(1,1)],?_,⟨hle2,hml⟩,by dsimp only;omega⟩
       (repeat' (first|exact trivial|refine⟨?_,?_⟩|exact rfl|assumption))
      ·have hkill:killE s x=false:=hka.symm.trans hkill
       have e1:bRow X.length (Kn k m)=bRow X.length (Kn k (m+1)):=by rw[kn_same hks hkill hset]
       refine⟨⟨by omega,by omega⟩,m+1,[(0,0),(1,1)],?_,⟨hle2,hml⟩,by dsimp only;omega⟩
       (repeat' (first|exact trivial|refine⟨?_,?_⟩|exact rfl|assumption))
     ·have h3:s.1=3:=nf h3
      have hkill:killE s x=false:=by rw[←hka,decide_eq_false (show ¬s.1≠3 from fun h=>h h3)];rfl
      have e1:bRow X.length (Kn k m)=bRow X.length (Kn k (m+1)):=by rw[kn_same hks hkill hset]
      refine⟨⟨by omega,by omega⟩,m+1,[(0,0),(1,1)],?_,⟨hle2,hml⟩,by dsimp only;omega⟩
      (repeat' (first|exact trivial|refine⟨?_,?_⟩|exact rfl|assumption))
   ·have h1:¬s.1=1:=df h1
    have hset:setsE s x=false:=by rw[setsE,decide_eq_false h1,Bool.false_and]
    refine⟨fun h3=>?_,fun h3=>?_⟩
    ·have h3:¬s.1=3:=nt h3;rw[decide_eq_true (show s.1≠3 from h3),Bool.true_and]at hka
     refine rasks_spec hRx fun _ _=>?_
     refine⟨fun hkill=>?_,fun hkill=>?_⟩
     ·have hkill:killE s x=true:=hka.symm.trans hkill
      have e1:(bRow X.length (Kn k m)).set m [.bool false]=bRow X.length (Kn k (m+1)):=bRow_set fun j=>by rw[hks,show kn1 x (Kn k m m) s=false by rw[kn1,if_pos hkill]]
      refine⟨⟨by omega,by rw[bRow_len];omega⟩,?_⟩;refine⟨_,bRow_get _ hml,?_⟩;refine⟨⟨by omega,by omega⟩,m+1,[(0,0),(1,1)],?_,⟨hle2,hml⟩,by dsimp only;omega⟩
      (repeat' (first|exact trivial|refine⟨?_,?_⟩|exact rfl|assumption))
     ·have hkill:killE s x=false:=hka.symm.trans hkill
      have e1:bRow X.length (Kn k m)=bRow X.length (Kn k (m+1)):=by rw[kn_same hks hkill hset]
      refine⟨⟨by omega,by omega⟩,m+1,[(0,0),(1,1)],?_,⟨hle2,hml⟩,by dsimp only;omega⟩
      (repeat' (first|exact trivial|refine⟨?_,?_⟩|exact rfl|assumption))
    ·have h3:s.1=3:=nf h3
     have hkill:killE s x=false:=by rw[←hka,decide_eq_false (show ¬s.1≠3 from fun h=>h h3)];rfl
     have e1:bRow X.length (Kn k m)=bRow X.length (Kn k (m+1)):=by rw[kn_same hks hkill hset]
     refine⟨⟨by omega,by omega⟩,m+1,[(0,0),(1,1)],?_,⟨hle2,hml⟩,by dsimp only;omega⟩
     (repeat' (first|exact trivial|refine⟨?_,?_⟩|exact rfl|assumption))
  ·have hml:m=X.length:=by have:=df h;omega
   subst hml
   have e1:bRow X.length (Kn k X.length)=bRow X.length (Kn (k+1) 0):=by rw[hM.kn]
   refine⟨⟨by omega,by omega⟩,k+1,[(0,0)],?_,⟨hle1.trans hle2,hlt⟩,by dsimp only;omega⟩
   (repeat' (first|exact trivial|refine⟨?_,?_⟩|exact rfl|assumption))
 ·have hkl:k=l.length:=by have:=df h;omega
  subst hkl;intro v3 H7 hle7 hv3
  refine of_row_k (α:=Bool) (xs:=X.map fun x=>knB x l) hv3 (rc_bRow (List.length_map _) fun i b hb=>?_) fun ta tn tc ev3 hr3=>?_
  ·rw[List.getElem?_map]at hb
   cases hx:X[i]? with
   | none=>rw[hx]at hb;cases hb
   | some x=>rw[hx]at hb;cases hb;exact hM.ke i x hx
  ·subst ev3;exact hK _ _ _ _ (hle1.trans hle7.le) hr3
end Go.Proofs
end
section
namespace Go.Proofs
open Go.Sy
set_option maxRecDepth 20000
set_option maxHeartbeats 4000000
theorem boolE_k {P:Prop} {H:Hp} {a:Option Addr} {n c:Nat} {xs:List Bool} (h:RL H a n c xs) {i:Nat} {x:Bool} (hi:xs[i]?=some x) (k:∀ad,a=some ad→ElemH H ad (i:Int) 1 [.bool x]→P):P :=
 elem_k h hi fun ad cs h1 h2 h3=>by
  have h3:cs=[.bool x]:=h3;rw[h3]at h2;exact k ad h1 h2
structure FamL (x:Expr) (l:List Stmt) (L:Nat→Bool):Prop where
 z:L 0=false
 st:∀k s,l[k]?=some s→L (k+1)=(L k||killE s x)
 e:L l.length=losB x l
theorem famL_k {P:Prop} (x:Expr) (l:List Stmt) (k:∀L,FamL x l L→P):P :=
 k (fun k=>losB x (l.take k)) ⟨rfl,fun k s hs=>losB_take hs,by rw[List.take_length]⟩
structure FamA (x:Expr) (s:Stmt) (b:Bool) (L:Nat→Bool):Prop where
 z:L 0=b
 st:∀q a,(atomsOf x)[q]?=some a→L (q+1)=(L q||(!decide (s.1=3)&&isA s.2.1.l a))
 e:stmtB s=true→L (atomsOf x).length=(b||killE s x)
theorem famA_k {P:Prop} (x:Expr) (s:Stmt) (b:Bool) (k:∀L,FamA x s b L→P):P:=by
 refine k (fun q=>b||(!decide (s.1=3)&&((atomsOf x).take q).any (isA s.2.1.l))) ⟨?_,fun q a ha=>?_,fun hs=>?_⟩
 ·simp
 ·show (b||(!decide (s.1=3)&&((atomsOf x).take (q+1)).any (isA s.2.1.l)))=_;rw[any_take ha]
  cases b<;>cases decide (s.1=3)<;>cases ((atomsOf x).take q).any (isA s.2.1.l)<;>rfl
 ·show (b||(!decide (s.1=3)&&((atomsOf x).take (atomsOf x).length).any (isA s.2.1.l)))=_;rw[List.take_length,←kill_as hs x,asksE]
  congr 2
  by_cases h3:s.1=3
  ·rw[decide_eq_true h3,decide_eq_false (show ¬s.1≠3 from fun h=>h h3)];rfl
  ·rw[decide_eq_false h3,decide_eq_true (show s.1≠3 from h3)];rfl
theorem rasys_spec {p:Prog} (he:checkE p=0) (hp:p.length≤12) (hl:∀b∈p,b.2.1.length≤100000) {a:Option Addr} {n c:Nat} {H:Hp} {K:Value→Hp→Prop} (ha:RL H a n c p)
  (hK:∀z H',Le H H'→Bt.SysR H' (asysOf p) z→K (Bt.sysA (asysOf p) z) H'):Does Tryz.prog 49 [.agg #[.slice a n c]] H K:=by
 have hn:=ha.n_eq;have hmx:=ha.le;have hx5:=exprs512 he;refine spec_of cx_ok cx_mix rfl Tryz.func49 Tryz.call49 Tryz.ntmps49 Tryz.results49 rfl rfl ?_
 refine rexprs_spec hp hl ha fun ax nx cx H1 hle1 hrx=>?_
 have hnx:=hrx.n_eq;subst hnx;refine⟨none,?_⟩
 refine region_plan (α:=SA) ?_ ?_
  (.two 5 6 (.two 5 10 (.two 6 8 (.two 6 10 (.two 8 10 (.one [2,3] [0,1,2,3,4,7,5,6,8,9,10,11]) (.one [2,3] [0,1,2,3,4,7,5,6,10,8,9,11])) (.one [2,3] [0,1,2,3,4,7,5,10,6,8,9,11])) (.two 6 10 (.one [2,3] [0,1,2,3,4,7,5,8,6,9,10,11]) (.two 8 10 (.one [2,3] [0,1,2,3,4,7,5,8,10,6,9,11]) (.one [2,3] [0,1,2,3,4,7,5,10,8,6,9,11])))) (.two 6 8 (.one [2,3] [0,1,2,3,4,7,10,5,6,8,9,11]) (.one [2,3] [0,1,2,3,4,7,10,5,8,6,9,11]))) (.two 5 10 (.two 8 10 (.one [2,3] [0,1,2,3,4,7,6,5,8,9,10,11]) (.one [2,3] [0,1,2,3,4,7,6,5,10,8,9,11])) (.two 6 10 (.one [2,3] [0,1,2,3,4,7,6,10,5,8,9,11]) (.one [2,3] [0,1,2,3,4,7,10,6,5,8,9,11]))))
  (fun z=>⟨[(1,.ptr 0 0),(2,.ptr 1 0),(3,.v (.slice ax (exprsOf p).length cx)),(4,.v (.int .i64 ((exprsOf p).length:Nat))),(5,.ptr 2 0)],
   [(0,.cells 24 [.v (.slice a n c)]),(1,.cells 32 (vL zSys)),(2,.cells 32 [.v (.int .i64 (2:Nat)),.v (.int .i64 ((exprsOf p).length:Nat)),.v (.int .i64 n),.v (.slice z.ea z.en z.ec),.own 3,.v (.slice z.ia z.ni z.ic),.v (.slice none 0 0)]),(3,.row 3 1 iRow0)],4⟩)
  (fun z H'=>Le H1 H'∧RL H' z.ea z.en z.ec (gSort (edgesOf p))∧RL H' z.ia z.ni z.ic (nilB (exprsOf p).length)) (by kernel_rfl) ⟨⟨⟨⟨⟨?_,?_⟩,?_⟩,⟨?_,⟨?_,?_⟩⟩⟩,⟨?_,?_⟩⟩,⟨⟨?_,?_⟩,⟨?_,?_⟩⟩⟩ ?_
 ·exact⟨cx_ok.tt,cx_ok.eqs⟩
 ·exact cx_mix
 ·refine redges_spec hp (ha.up hle1) fun e1 e2 e3 H2 hle2 hr2=>?_
  refine r10of_spec (w:=(exprsOf p).length) (l:=[]) (by omega) rl_nil fun w1 w2 w3 H5 hle5 hr5=>?_
  exact⟨⟨e1,e2,e3,none,0,0,w1,w2,w3,none,0,0⟩,[(0,0),(1,1),(2,3),(3,2)],by (repeat' (first|exact trivial|refine⟨?_,?_⟩|exact rfl|assumption)),hle2.trans hle5,hr2.up hle5,hr5⟩
 ·refine redges_spec hp (ha.up hle1) fun e1 e2 e3 H2 hle2 hr2=>?_
  refine r10of_spec (w:=(exprsOf p).length) (l:=[]) (by omega) rl_nil fun w1 w2 w3 H5 hle5 hr5=>?_
  exact⟨⟨e1,e2,e3,none,0,0,w1,w2,w3,none,0,0⟩,[(0,0),(1,1),(2,3),(3,2)],by (repeat' (first|exact trivial|refine⟨?_,?_⟩|exact rfl|assumption)),hle2.trans hle5,hr2.up hle5,hr5⟩
 ·refine redges_spec hp (ha.up hle1) fun e1 e2 e3 H2 hle2 hr2=>?_
  refine r10of_spec (w:=(exprsOf p).length) (l:=[]) (by omega) rl_nil fun w1 w2 w3 H5 hle5 hr5=>?_
  exact⟨⟨e1,e2,e3,none,0,0,w1,w2,w3,none,0,0⟩,[(0,0),(1,1),(2,2),(3,3)],by (repeat' (first|exact trivial|refine⟨?_,?_⟩|exact rfl|assumption)),hle2.trans hle5,hr2.up hle5,hr5⟩
 ·refine redges_spec hp (ha.up hle1) fun e1 e2 e3 H2 hle2 hr2=>?_
  refine r10of_spec (w:=(exprsOf p).length) (l:=[]) (by omega) rl_nil fun w1 w2 w3 H5 hle5 hr5=>?_
  exact⟨⟨e1,e2,e3,none,0,0,w1,w2,w3,none,0,0⟩,[(0,0),(1,1),(2,3),(3,2)],by (repeat' (first|exact trivial|refine⟨?_,?_⟩|exact rfl|assumption)),hle2.trans hle5,hr2.up hle5,hr5⟩
 ·refine redges_spec hp (ha.up hle1) fun e1 e2 e3 H2 hle2 hr2=>?_
  refine r10of_spec (w:=(exprsOf p).length) (l:=[]) (by omega) rl_nil fun w1 w2 w3 H5 hle5 hr5=>?_
  exact⟨⟨e1,e2,e3,none,0,0,w1,w2,w3,none,0,0⟩,[(0,0),(1,1),(2,2),(3,3)],by (repeat' (first|exact trivial|refine⟨?_,?_⟩|exact rfl|assumption)),hle2.trans hle5,hr2.up hle5,hr5⟩
 ·refine redges_spec hp (ha.up hle1) fun e1 e2 e3 H2 hle2 hr2=>?_
  refine r10of_spec (w:=(exprsOf p).length) (l:=[]) (by omega) rl_nil fun w1 w2 w3 H5 hle5 hr5=>?_
  exact⟨⟨e1,e2,e3,none,0,0,w1,w2,w3,none,0,0⟩,[(0,0),(1,1),(2,2),(3,3)],by (repeat' (first|exact trivial|refine⟨?_,?_⟩|exact rfl|assumption)),hle2.trans hle5,hr2.up hle5,hr5⟩
 ·refine redges_spec hp (ha.up hle1) fun e1 e2 e3 H2 hle2 hr2=>?_
  refine r10of_spec (w:=(exprsOf p).length) (l:=[]) (by omega) rl_nil fun w1 w2 w3 H5 hle5 hr5=>?_
  exact⟨⟨e1,e2,e3,none,0,0,w1,w2,w3,none,0,0⟩,[(0,0),(1,1),(2,2),(3,3)],by (repeat' (first|exact trivial|refine⟨?_,?_⟩|exact rfl|assumption)),hle2.trans hle5,hr2.up hle5,hr5⟩
 ·refine redges_spec hp (ha.up hle1) fun e1 e2 e3 H2 hle2 hr2=>?_
  refine r10of_spec (w:=(exprsOf p).length) (l:=[]) (by omega) rl_nil fun w1 w2 w3 H5 hle5 hr5=>?_
  exact⟨⟨e1,e2,e3,none,0,0,w1,w2,w3,none,0,0⟩,[(0,0),(1,1),(2,2),(3,3)],by (repeat' (first|exact trivial|refine⟨?_,?_⟩|exact rfl|assumption)),hle2.trans hle5,hr2.up hle5,hr5⟩
 ·refine redges_spec hp (ha.up hle1) fun e1 e2 e3 H2 hle2 hr2=>?_
  refine r10of_spec (w:=(exprsOf p).length) (l:=[]) (by omega) rl_nil fun w1 w2 w3 H5 hle5 hr5=>?_
  exact⟨⟨e1,e2,e3,none,0,0,w1,w2,w3,none,0,0⟩,[(0,0),(1,1),(2,3),(3,2)],by (repeat' (first|exact trivial|refine⟨?_,?_⟩|exact rfl|assumption)),hle2.trans hle5,hr2.up hle5,hr5⟩
 ·refine redges_spec hp (ha.up hle1) fun e1 e2 e3 H2 hle2 hr2=>?_
  refine r10of_spec (w:=(exprsOf p).length) (l:=[]) (by omega) rl_nil fun w1 w2 w3 H5 hle5 hr5=>?_
  exact⟨⟨e1,e2,e3,none,0,0,w1,w2,w3,none,0,0⟩,[(0,0),(1,1),(2,3),(3,2)],by (repeat' (first|exact trivial|refine⟨?_,?_⟩|exact rfl|assumption)),hle2.trans hle5,hr2.up hle5,hr5⟩
 ·refine redges_spec hp (ha.up hle1) fun e1 e2 e3 H2 hle2 hr2=>?_
  refine r10of_spec (w:=(exprsOf p).length) (l:=[]) (by omega) rl_nil fun w1 w2 w3 H5 hle5 hr5=>?_
  exact⟨⟨e1,e2,e3,none,0,0,w1,w2,w3,none,0,0⟩,[(0,0),(1,1),(2,3),(3,2)],by (repeat' (first|exact trivial|refine⟨?_,?_⟩|exact rfl|assumption)),hle2.trans hle5,hr2.up hle5,hr5⟩
 ·refine redges_spec hp (ha.up hle1) fun e1 e2 e3 H2 hle2 hr2=>?_
  refine r10of_spec (w:=(exprsOf p).length) (l:=[]) (by omega) rl_nil fun w1 w2 w3 H5 hle5 hr5=>?_
  exact⟨⟨e1,e2,e3,none,0,0,w1,w2,w3,none,0,0⟩,[(0,0),(1,1),(2,2),(3,3)],by (repeat' (first|exact trivial|refine⟨?_,?_⟩|exact rfl|assumption)),hle2.trans hle5,hr2.up hle5,hr5⟩
 rintro⟨ea,en,ec,na,nn,nc,ia,ni,ic,ta,tn,tc⟩ H2 _ ⟨hle2,hze,hzi⟩;dsimp only at hze hzi
 refine⟨Nat×List (List Value),fun q=>⟨[(1,.ptr 0 0),(2,.ptr 1 0),(3,.v (.slice ax (exprsOf p).length cx)),(4,.v (.int .i64 ((exprsOf p).length:Nat))),(5,.ptr 2 0),(33,.v (.slice a n c)),(34,.v (.int .i64 n)),(35,.v (.int .i64 q.1))],
   [(0,.cells 24 [.v (.slice a n c)]),(1,.cells 32 (vL zSys)),(2,.cells 32 [.v (.int .i64 (2:Nat)),.v (.int .i64 ((exprsOf p).length:Nat)),.v (.int .i64 n),.v (.slice ea en ec),.own 3,.v (.slice ia ni ic),.own 4]),(3,.row 3 1 iRow0),(4,.row 78 3 q.2)],5⟩,
  fun q H'=>Le H2 H'∧q.1≤p.length∧RC (α:=Bt.TrB) H' q.2 (((asysOf p).T.map Bt.TrB.mk).take q.1),fun q=>p.length - q.1,⟨(0,[]),[(0,0),(1,1),(2,2),(3,3)],?_,Le.refl _,Nat.zero_le _,RC.nil⟩,?_⟩
 ·(repeat' (first|exact trivial|refine⟨?_,?_⟩|exact rfl|assumption))
 rintro⟨j,css⟩ H4 _ ⟨hle4,hj,hrc⟩;dsimp only at hj hrc;have hle:Le H H4:=(hle1.trans hle2).trans hle4
 have hTl:((asysOf p).T.map Bt.TrB.mk).length=p.length:=by simp [asysOf]
 have hcl:css.length=j:=by have h1:=hrc.1;rw[List.length_take]at h1;omega
 refine⟨fun h=>?_,fun h=>?_⟩
 ·have hlt:j<p.length:=by have:=dt h;dsimp only at this;omega
  refine name_k p[j] fun b hbe=>?_
  have hbb:p[j]?=some b:=by rw[hbe];exact List.getElem?_eq_getElem hlt
  have hbl:=hl b (by rw[hbe];exact List.getElem_mem hlt);have hBB:=block_stmts ((check_facts he).2.2.2 b (List.mem_of_getElem? hbb))
  refine famS_k (exprsOf p) b.2.1 fun A B hS=>?_
  refine block_k (ha.up hle) hbb fun ad a5 n5 c5 q1 hh hr5 hs5 ht5=>?_
  have hn5:n5=b.2.1.length:=hr5.n_eq;refine⟨ad,⟨by dsimp only;omega,by dsimp only;omega,q1⟩,?_⟩;refine⟨_,hh,?_⟩;refine⟨some ([6],[0,1,3,4,2,5,6]),by kernel_rfl,?_⟩;refine⟨⟨rfl,by omega,by show ((exprsOf p).length:Int)*1≤_;omega,by omega⟩,?_⟩;intro kv H5 hle5 hkv
  have hkv:RowAt H5 kv 1 (bRow (exprsOf p).length fun _=>false):=by rw[←bRow_zero];exact hkv
  refine name_k kv fun kv2 hke=>?_
  obtain⟨ka,kc,ekv,_⟩:=id hkv;subst ekv
  refine rafter_spec (X:=exprsOf p) (l:=b.2.1) (by omega) hbl hBB (hrx.up (hle2.trans (hle4.trans hle5.le))) hkv (hr5.up hle5.le) fun a6 n6 c6 H6 hle6 hr6=>?_
  have hn6:=hr6.n_eq;rw[List.length_map]at hn6;have hle46:=hle5.le.trans hle6;have hle06:=hle.trans hle46;have hle16:=(hle2.trans hle4).trans hle46
  refine⟨Nat,fun i=>⟨[(1,.ptr 0 0),(2,.ptr 1 0),(3,.v (.slice ax (exprsOf p).length cx)),(4,.v (.int .i64 ((exprsOf p).length:Nat))),(5,.ptr 2 0),(7,.ptr 5 0),(8,.v (.slice a6 n6 c6)),(9,.own 6),(10,.own 7),(33,.v (.slice a n c)),(34,.v (.int .i64 n)),(35,.v (.int .i64 j)),(45,.v (.slice ax (exprsOf p).length cx)),(46,.v (.int .i64 ((exprsOf p).length:Nat))),(47,.v (.int .i64 i))],
   [(0,.cells 24 [.v (.slice a n c)]),(1,.cells 32 (vL zSys)),(2,.cells 32 [.v (.int .i64 (2:Nat)),.v (.int .i64 ((exprsOf p).length:Nat)),.v (.int .i64 n),.v (.slice ea en ec),.own 3,.v (.slice ia ni ic),.own 4]),(3,.row 3 1 iRow0),(4,.row 78 3 css),(5,.cells 53 (vL (blkL (.slice a5 n5 c5) b))),(6,.row 3 1 (iRows (A i))),(7,.row 3 1 (iRows (B i)))],8⟩,
   fun i H'=>Le H6 H'∧i≤(exprsOf p).length,fun i=>(exprsOf p).length - i,⟨0,[(0,0),(1,1),(2,2),(3,3),(4,4),(5,5)],?_,Le.refl H6,Nat.zero_le _⟩,?_⟩
  ·have e1:iRows (A 0)=[]:=by rw[hS.a0];rfl
   have e2:iRows (B 0)=[]:=by rw[hS.b0];rfl
   (repeat' (first|exact trivial|refine⟨?_,?_⟩|exact rfl|assumption))
  rintro i H7 _ ⟨hle7,hi⟩;have hal:=hS.al i;have hbl2:=hS.bl i;have hail:(iRows (A i)).length=(A i).length:=List.length_map _;have hbil:(iRows (B i)).length=(B i).length:=List.length_map _;refine⟨fun h=>?_,fun h=>?_⟩
  ·have hil:i<(exprsOf p).length:=by have:=dt h;omega
   refine name_k (exprsOf p)[i] fun x hxe=>?_
   have hxx:(exprsOf p)[i]?=some x:=by rw[hxe];exact List.getElem?_eq_getElem hil
   have hA1:=hS.a1 i x hxx;have hB1:=hS.b1 i x hxx
   refine expr_k (hrx.up (hle16.trans hle7)) hxx fun ad2 q2 hh2 hRx=>?_
   refine⟨ad2,⟨by omega,by omega,q2⟩,?_⟩;refine⟨_,hh2,?_⟩
   refine famL_k x b.2.1 fun L hL=>?_
   refine⟨Nat,fun k=>⟨[(1,.ptr 0 0),(2,.ptr 1 0),(3,.v (.slice ax (exprsOf p).length cx)),(4,.v (.int .i64 ((exprsOf p).length:Nat))),(5,.ptr 2 0),(7,.ptr 5 0),(8,.v (.slice a6 n6 c6)),(9,.own 6),(10,.own 7),(11,.v (.int .i64 i)),(12,.ptr 8 0),(13,.v (.bool (L k))),(33,.v (.slice a n c)),(34,.v (.int .i64 n)),(35,.v (.int .i64 j)),(45,.v (.slice ax (exprsOf p).length cx)),(46,.v (.int .i64 ((exprsOf p).length:Nat))),(47,.v (.int .i64 i)),(53,.v (.slice a5 n5 c5)),(54,.v (.int .i64 n5)),(55,.v (.int .i64 k))],
   [(0,.cells 24 [.v (.slice a n c)]),(1,.cells 32 (vL zSys)),(2,.cells 32 [.v (.int .i64 (2:Nat)),.v (.int .i64 ((exprsOf p).length:Nat)),.v (.int .i64 n),.v (.slice ea en ec),.own 3,.v (.slice ia ni ic),.own 4]),(3,.row 3 1 iRow0),(4,.row 78 3 css),(5,.cells 53 (vL (blkL (.slice a5 n5 c5) b))),(6,.row 3 1 (iRows (A i))),(7,.row 3 1 (iRows (B i))),(8,.cells 55 (vL (exprV x)))],9⟩,
    fun k H'=>Le H7 H'∧k≤b.2.1.length,fun k=>b.2.1.length - k,⟨0,[(0,0),(1,1),(2,2),(3,3),(4,4),(5,5),(6,6),(7,7),(8,8)],?_,Le.refl H7,Nat.zero_le _⟩,?_⟩
   ·have e1:Value.bool false=Value.bool (L 0):=by rw[hL.z]
    have e1':Value.bool (L 0)=Value.bool false:=e1.symm
    (repeat' (first|exact trivial|refine⟨?_,?_⟩|exact rfl|assumption))
   rintro k H8 _ ⟨hle8,hk⟩;refine⟨fun h=>?_,fun h=>?_⟩
   ·have hlk:k<b.2.1.length:=by have:=dt h;omega
    refine name_k b.2.1[k] fun s hse=>?_
    have hss:b.2.1[k]?=some s:=by rw[hse];exact List.getElem?_eq_getElem hlk
    have hBs:=hBB s (List.mem_of_getElem? hss)
    refine stmt_k (hr5.up (((hle46.trans hle7).trans hle8))) hss fun ad3 q3 hh3 hR=>?_
    refine⟨ad3,⟨by omega,by omega,q3⟩,?_⟩;refine⟨_,hh3,?_⟩
    refine ratoms_spec hRx fun a8 n8 c8 H9 hle9 hr8=>?_
    have hn8:=hr8.n_eq;have hm8:=hr8.le
    refine famA_k x s (L k) fun M hM=>?_
    refine⟨Nat,fun q=>⟨[(1,.ptr 0 0),(2,.ptr 1 0),(3,.v (.slice ax (exprsOf p).length cx)),(4,.v (.int .i64 ((exprsOf p).length:Nat))),(5,.ptr 2 0),(7,.ptr 5 0),(8,.v (.slice a6 n6 c6)),(9,.own 6),(10,.own 7),(11,.v (.int .i64 i)),(12,.ptr 8 0),(13,.v (.bool (M q))),(15,.ptr 9 0),(33,.v (.slice a n c)),(34,.v (.int .i64 n)),(35,.v (.int .i64 j)),(45,.v (.slice ax (exprsOf p).length cx)),(46,.v (.int .i64 ((exprsOf p).length:Nat))),(47,.v (.int .i64 i)),(53,.v (.slice a5 n5 c5)),(54,.v (.int .i64 n5)),(55,.v (.int .i64 k)),(60,.v (.slice a8 n8 c8)),(61,.v (.int .i64 n8)),(62,.v (.int .i64 q))],
   [(0,.cells 24 [.v (.slice a n c)]),(1,.cells 32 (vL zSys)),(2,.cells 32 [.v (.int .i64 (2:Nat)),.v (.int .i64 ((exprsOf p).length:Nat)),.v (.int .i64 n),.v (.slice ea en ec),.own 3,.v (.slice ia ni ic),.own 4]),(3,.row 3 1 iRow0),(4,.row 78 3 css),(5,.cells 53 (vL (blkL (.slice a5 n5 c5) b))),(6,.row 3 1 (iRows (A i))),(7,.row 3 1 (iRows (B i))),(8,.cells 55 (vL (exprV x))),(9,.cells 57 (vL (stmtV s)))],10⟩,
     fun q H'=>Le H9 H'∧q≤(atomsOf x).length,fun q=>(atomsOf x).length - q,⟨0,[(0,0),(1,1),(2,2),(3,3),(4,4),(5,5),(6,6),(7,7),(8,8),(9,9)],?_,Le.refl H9,Nat.zero_le _⟩,?_⟩
    ·have e1:SV.v (Value.bool (L k))=SV.v (Value.bool (M 0)):=by rw[hM.z]
     (repeat' (first|exact trivial|refine⟨?_,?_⟩|exact rfl|assumption))
    rintro q H10 _ ⟨hle10,hq⟩;refine⟨fun h=>?_,fun h=>?_⟩
    ·have hlq:q<(atomsOf x).length:=by have:=dt h;omega
     refine name_k (atomsOf x)[q] fun y hye=>?_
     have hyy:(atomsOf x)[q]?=some y:=by rw[hye];exact List.getElem?_eq_getElem hlq
     have hM1:=hM.st q y hyy
     refine atom_k (hr8.up hle10) hyy fun ad4 q4 hh4 hRy=>?_
     refine⟨ad4,⟨by omega,by omega,q4⟩,?_⟩;refine⟨_,hh4,?_⟩;refine⟨fun h1=>?_,fun h1=>?_⟩
     ·have h1:M q=false:=h1;rw[h1,Bool.false_or]at hM1;refine⟨fun h2=>?_,fun h2=>?_⟩
      ·have h2:¬s.1=3:=by simpa using h2
       have e2:SV.v (Value.bool (decide (y.1.l=s.2.1.l)))=SV.v (Value.bool (M (q+1))):=by rw[hM1,decide_eq_false h2];rfl
       refine⟨⟨by omega,by omega⟩,q+1,[(0,0),(1,1),(2,2),(3,3),(4,4),(5,5),(6,6),(7,7),(8,8),(9,9)],?_,⟨hle10,hlq⟩,by dsimp only;omega⟩
       (repeat' (first|exact trivial|refine⟨?_,?_⟩|exact rfl|assumption))
      ·have h2:s.1=3:=by simpa using h2
       have e2:Value.bool false=Value.bool (M (q+1)):=by rw[hM1,decide_eq_true h2];rfl
       have e3:Value.bool (M (q+1))=Value.bool false:=e2.symm;refine⟨⟨by omega,by omega⟩,q+1,[(0,0),(1,1),(2,2),(3,3),(4,4),(5,5),(6,6),(7,7),(8,8),(9,9)],?_,⟨hle10,hlq⟩,by dsimp only;omega⟩
       (repeat' (first|exact trivial|refine⟨?_,?_⟩|exact rfl|assumption))
     ·have h1:M q=true:=h1;rw[h1,Bool.true_or]at hM1
      have e1:Value.bool true=Value.bool (M (q+1)):=by rw[hM1]
      have e1':Value.bool (M (q+1))=Value.bool true:=e1.symm;refine⟨⟨by omega,by omega⟩,q+1,[(0,0),(1,1),(2,2),(3,3),(4,4),(5,5),(6,6),(7,7),(8,8),(9,9)],?_,⟨hle10,hlq⟩,by dsimp only;omega⟩
      (repeat' (first|exact trivial|refine⟨?_,?_⟩|exact rfl|assumption))
    ·have hlq:q=(atomsOf x).length:=by have:=df h;omega
     subst hlq
     have e1:SV.v (Value.bool (M (atomsOf x).length))=SV.v (Value.bool (L (k+1))):=by rw[hM.e hBs,hL.st k s hss]
     refine⟨⟨by omega,by omega⟩,k+1,[(0,0),(1,1),(2,2),(3,3),(4,4),(5,5),(6,6),(7,7),(8,8)],?_,⟨hle8.trans (hle9.trans hle10),hlk⟩,by dsimp only;omega⟩
     (repeat' (first|exact trivial|refine⟨?_,?_⟩|exact rfl|assumption))
   ·have hlk:k=b.2.1.length:=by have:=df h;omega
    subst hlk
    have hbk:((exprsOf p).map fun x=>knB x b.2.1)[i]?=some (knB x b.2.1):=by rw[List.getElem?_map,hxx];rfl
    refine boolE_k (hr6.up (hle7.trans hle8)) hbk fun ad5 q5 hh5=>?_
    refine⟨ad5,⟨by omega,by omega,q5⟩,?_⟩;refine⟨_,hh5,?_⟩;have hLe:=hL.e;refine⟨fun h1=>?_,fun h1=>?_⟩
    ·have h1:knB x b.2.1=true:=h1
     have e1:iRows (A i)++[[.int .i64 (i:Nat)]]=iRows (A (i+1)):=by rw[hA1,if_pos h1,iRows,iRows,List.map_append];rfl
     have e2:iRows (B i)=iRows (B (i+1)):=by rw[hB1,h1,if_neg (by simp),List.append_nil]
     refine⟨⟨by show (_+1)*8≤140737488355328;omega,by show _+1≤9223372036854775807;omega⟩,?_⟩;refine⟨⟨by omega,by omega⟩,i+1,[(0,0),(1,1),(2,2),(3,3),(4,4),(5,5),(6,10),(7,7)],?_,⟨hle7.trans hle8,hil⟩,by dsimp only;omega⟩
     (repeat' (first|exact trivial|refine⟨?_,?_⟩|exact rfl|assumption))
    ·have h1:knB x b.2.1=false:=h1
     have e1:iRows (A i)=iRows (A (i+1)):=by rw[hA1,h1,if_neg (by decide),List.append_nil]
     refine⟨fun h2=>?_,fun h2=>?_⟩
     ·have h2:losB x b.2.1=true:=hLe.symm.trans h2
      have e2:iRows (B i)++[[.int .i64 (i:Nat)]]=iRows (B (i+1)):=by rw[hB1,h1,h2,if_pos (by decide),iRows,iRows,List.map_append];rfl
      refine⟨⟨by show (_+1)*8≤140737488355328;omega,by show _+1≤9223372036854775807;omega⟩,?_⟩;refine⟨⟨by omega,by omega⟩,i+1,[(0,0),(1,1),(2,2),(3,3),(4,4),(5,5),(6,6),(7,10)],?_,⟨hle7.trans hle8,hil⟩,by dsimp only;omega⟩
      (repeat' (first|exact trivial|refine⟨?_,?_⟩|exact rfl|assumption))
     ·have h2:losB x b.2.1=false:=hLe.symm.trans h2
      have e2:iRows (B i)=iRows (B (i+1)):=by rw[hB1,h1,h2,if_neg (by decide),List.append_nil]
      refine⟨⟨by omega,by omega⟩,i+1,[(0,0),(1,1),(2,2),(3,3),(4,4),(5,5),(6,6),(7,7)],?_,⟨hle7.trans hle8,hil⟩,by dsimp only;omega⟩
      (repeat' (first|exact trivial|refine⟨?_,?_⟩|exact rfl|assumption))
  ·have hil:i=(exprsOf p).length:=by have:=df h;omega
   subst hil;have hAi:=hS.ai (exprsOf p).length (by omega);have hBi:=hS.bi (exprsOf p).length (by omega);refine⟨none,?_⟩
   refine region_plan (α:=List (List Value)) ?_ ?_
    (.two 1 4 (.one [2,4,6,7,8,9] [0,2,3,5,6,1,4,7,8,9,10,11,12]) (.two 1 7 (.one [2,4,6,7,8,9] [0,2,3,5,6,4,1,7,8,9,10,11,12]) (.two 1 9 (.one [2,4,6,7,8,9] [0,2,3,5,6,4,7,8,1,9,10,11,12]) (.one [2,4,6,7,8,9] [0,2,3,5,6,4,7,8,9,1,10,11,12]))))
    (fun c'=>⟨[(1,.ptr 0 0),(2,.ptr 1 0),(3,.v (.slice ax (exprsOf p).length cx)),(4,.v (.int .i64 ((exprsOf p).length:Nat))),(5,.ptr 2 0),(33,.v (.slice a n c)),(34,.v (.int .i64 n)),(35,.v (.int .i64 j))],
     [(0,.cells 24 [.v (.slice a n c)]),(1,.cells 32 (vL zSys)),(2,.cells 32 [.v (.int .i64 (2:Nat)),.v (.int .i64 ((exprsOf p).length:Nat)),.v (.int .i64 n),.v (.slice ea en ec),.own 3,.v (.slice ia ni ic),.own 4]),(3,.row 3 1 iRow0),(4,.row 78 3 c')],5⟩)
    (fun c' H'=>Le H7 H'∧RC (α:=Bt.TrB) H' c' (((asysOf p).T.map Bt.TrB.mk).take (j+1))) (by kernel_rfl) ⟨?_,⟨?_,⟨?_,?_⟩⟩⟩ ?_
   ·exact⟨cx_ok.tt,cx_ok.eqs⟩
   ·exact cx_mix
   ·intro y1 H8 hle8 hy1
    refine of_row_k (α:=Int) hy1 (rc_iRows hAi) fun d1 d2 d3 ev1 hr1=>?_
    subst ev1
    refine r10of_spec (w:=(exprsOf p).length) (by omega) hr1 fun g1 g2 g3 H9 hle9 hg=>?_
    intro y2 H10 hle10 hy2
    refine of_row_k (α:=Int) hy2 (rc_iRows hBi) fun f1 f2 f3 ev2 hr2=>?_
    subst ev2
    refine r10of_spec (w:=(exprsOf p).length) (by omega) hr2 fun k1 k2 k3 H11 hle11 hk11=>?_
    refine⟨⟨by show (css.length+1)*72≤140737488355328;omega,by show css.length+1≤9223372036854775807;omega⟩,?_⟩;have hle7':=((hle8.le.trans hle9).trans hle10.le).trans hle11
    have htr:Bt.TrR H11 (atrF (exprsOf p) b) ⟨g1,g2,g3,k1,k2,k3⟩:=by
     rw[atrF,←hS.ae,←hS.be];exact⟨hg.up (hle10.le.trans hle11),hk11⟩
    have hrc2:RC (α:=Bt.TrB) H11 (css++[Bt.trV ⟨g1,g2,g3,k1,k2,k3⟩]) (((asysOf p).T.map Bt.TrB.mk).take (j+1)):=by
     rw[asysT_take hbb];exact trb_snoc (RC.up hrc ((hle46.trans hle7).trans hle7')) htr
    exact⟨css++[Bt.trV ⟨g1,g2,g3,k1,k2,k3⟩],[(0,0),(1,1),(2,2),(3,3),(4,9)],by (repeat' (first|exact trivial|refine⟨?_,?_⟩|exact rfl|assumption)),hle7',hrc2⟩
   ·intro y1 H8 hle8 hy1
    refine of_row_k (α:=Int) hy1 (rc_iRows hAi) fun d1 d2 d3 ev1 hr1=>?_
    subst ev1
    refine r10of_spec (w:=(exprsOf p).length) (by omega) hr1 fun g1 g2 g3 H9 hle9 hg=>?_
    intro y2 H10 hle10 hy2
    refine of_row_k (α:=Int) hy2 (rc_iRows hBi) fun f1 f2 f3 ev2 hr2=>?_
    subst ev2
    refine r10of_spec (w:=(exprsOf p).length) (by omega) hr2 fun k1 k2 k3 H11 hle11 hk11=>?_
    refine⟨⟨by show (css.length+1)*72≤140737488355328;omega,by show css.length+1≤9223372036854775807;omega⟩,?_⟩;have hle7':=((hle8.le.trans hle9).trans hle10.le).trans hle11
    have htr:Bt.TrR H11 (atrF (exprsOf p) b) ⟨g1,g2,g3,k1,k2,k3⟩:=by
     rw[atrF,←hS.ae,←hS.be];exact⟨hg.up (hle10.le.trans hle11),hk11⟩
    have hrc2:RC (α:=Bt.TrB) H11 (css++[Bt.trV ⟨g1,g2,g3,k1,k2,k3⟩]) (((asysOf p).T.map Bt.TrB.mk).take (j+1)):=by
     rw[asysT_take hbb];exact trb_snoc (RC.up hrc ((hle46.trans hle7).trans hle7')) htr
    exact⟨css++[Bt.trV ⟨g1,g2,g3,k1,k2,k3⟩],[(0,0),(1,1),(2,2),(3,3),(4,9)],by (repeat' (first|exact trivial|refine⟨?_,?_⟩|exact rfl|assumption)),hle7',hrc2⟩
   ·intro y1 H8 hle8 hy1
    refine of_row_k (α:=Int) hy1 (rc_iRows hAi) fun d1 d2 d3 ev1 hr1=>?_
    subst ev1
    refine r10of_spec (w:=(exprsOf p).length) (by omega) hr1 fun g1 g2 g3 H9 hle9 hg=>?_
    intro y2 H10 hle10 hy2
    refine of_row_k (α:=Int) hy2 (rc_iRows hBi) fun f1 f2 f3 ev2 hr2=>?_
    subst ev2
    refine r10of_spec (w:=(exprsOf p).length) (by omega) hr2 fun k1 k2 k3 H11 hle11 hk11=>?_
    refine⟨⟨by show (css.length+1)*72≤140737488355328;omega,by show css.length+1≤9223372036854775807;omega⟩,?_⟩;have hle7':=((hle8.le.trans hle9).trans hle10.le).trans hle11
    have htr:Bt.TrR H11 (atrF (exprsOf p) b) ⟨g1,g2,g3,k1,k2,k3⟩:=by
     rw[atrF,←hS.ae,←hS.be];exact⟨hg.up (hle10.le.trans hle11),hk11⟩
    have hrc2:RC (α:=Bt.TrB) H11 (css++[Bt.trV ⟨g1,g2,g3,k1,k2,k3⟩]) (((asysOf p).T.map Bt.TrB.mk).take (j+1)):=by
     rw[asysT_take hbb];exact trb_snoc (RC.up hrc ((hle46.trans hle7).trans hle7')) htr
    exact⟨css++[Bt.trV ⟨g1,g2,g3,k1,k2,k3⟩],[(0,0),(1,1),(2,2),(3,3),(4,9)],by (repeat' (first|exact trivial|refine⟨?_,?_⟩|exact rfl|assumption)),hle7',hrc2⟩
   ·intro y1 H8 hle8 hy1
    refine of_row_k (α:=Int) hy1 (rc_iRows hAi) fun d1 d2 d3 ev1 hr1=>?_
    subst ev1
    refine r10of_spec (w:=(exprsOf p).length) (by omega) hr1 fun g1 g2 g3 H9 hle9 hg=>?_
    intro y2 H10 hle10 hy2
    refine of_row_k (α:=Int) hy2 (rc_iRows hBi) fun f1 f2 f3 ev2 hr2=>?_
    subst ev2
    refine r10of_spec (w:=(exprsOf p).length) (by omega) hr2 fun k1 k2 k3 H11 hle11 hk11=>?_
    refine⟨⟨by show (css.length+1)*72≤140737488355328;omega,by show css.length+1≤9223372036854775807;omega⟩,?_⟩;have hle7':=((hle8.le.trans hle9).trans hle10.le).trans hle11
    have htr:Bt.TrR H11 (atrF (exprsOf p) b) ⟨g1,g2,g3,k1,k2,k3⟩:=by
     rw[atrF,←hS.ae,←hS.be];exact⟨hg.up (hle10.le.trans hle11),hk11⟩
    have hrc2:RC (α:=Bt.TrB) H11 (css++[Bt.trV ⟨g1,g2,g3,k1,k2,k3⟩]) (((asysOf p).T.map Bt.TrB.mk).take (j+1)):=by
     rw[asysT_take hbb];exact trb_snoc (RC.up hrc ((hle46.trans hle7).trans hle7')) htr
    exact⟨css++[Bt.trV ⟨g1,g2,g3,k1,k2,k3⟩],[(0,0),(1,1),(2,2),(3,3),(4,9)],by (repeat' (first|exact trivial|refine⟨?_,?_⟩|exact rfl|assumption)),hle7',hrc2⟩
   rintro c' H9 _ ⟨hle9,hrc9⟩;refine⟨⟨by omega,by omega⟩,(j+1,c'),[(0,0),(1,1),(2,2),(3,3),(4,4)],?_,⟨((hle4.trans hle46).trans hle7).trans hle9,hlt,hrc9⟩,by dsimp only;omega⟩
   (repeat' (first|exact trivial|refine⟨?_,?_⟩|exact rfl|assumption))
 ·have hjl:j=p.length:=by have:=df h;dsimp only at this;omega
  rw[hjl,List.take_of_length_le (by omega)]at hrc;intro v1 H5 hle5 hv1
  refine ints_k hv1 fun na nn nc ev1 hr1=>?_
  subst ev1;intro v3 H7 hle7 hv3
  refine of_row_k (α:=Bt.TrB) hv3 (RC.up hrc (hle5.le.trans hle7.le)) fun ta tn tc ev3 hr3=>?_
  subst ev3;have h57:=hle5.le.trans hle7.le
  have hsys:Bt.SysR H7 (asysOf p) ⟨ea,en,ec,na,nn,nc,ia,ni,ic,ta,tn,tc⟩ :=
   ⟨hze.up (hle4.trans h57),hr1.up hle7.le,hzi.up (hle4.trans h57),hr3⟩
  have hK:=hK ⟨ea,en,ec,na,nn,nc,ia,ni,ic,ta,tn,tc⟩ H7 (hle.trans h57) hsys;have e2:(asysOf p).m=n:=hn.symm;rw[Bt.sysA,Bt.sysV,e2]at hK;exact hK
end Go.Proofs
end
section
namespace Go.Proofs
open Go.Sy
set_option maxRecDepth 20000
set_option maxHeartbeats 4000000
def siteN:Site:=(0,0,⟨[]⟩)
def killO (Z:List Site) (v:Bs8) (at':Int) (q:Nat):List Int:=((List.range q).filter fun i:Nat=>decide ((Z[i]?.getD siteN).2.2.l=v)&&!decide ((i:Int)=at')).map fun i:Nat=>(i:Int)
def genV (Z:List Site) (b nB:Int) (V:List Bs8):List Int:=V.flatMap fun v=>if lastS Z b nB v<0 then [] else [lastS Z b nB v]
def killV (Z:List Site) (b nB:Int) (V:List Bs8):List Int:=V.flatMap fun v=>if lastS Z b nB v<0 then [] else killO Z v (lastS Z b nB v) Z.length
def rchF (Z:List Site) (V:List Bs8) (i:Nat) (b:Block):Wd×Wd:=(ofB Z.length (genV Z i b.2.1.length V),ofB Z.length (killV Z i b.2.1.length V))
def rchT (Z:List Site) (V:List Bs8):Prog→Nat→List (Wd×Wd)
 | [],_=>[]
 | b::r,i=>rchF Z V i b::rchT Z V r (i+1)
def cntL (n:Nat):List Int:=(List.range n).map fun i:Nat=>(i:Int)
def csysOf (p:Prog):Bt.SyB:=⟨1,(sitesOf p).length,p.length,gSort (edgesOf p),[0],ofB (sitesOf p).length (cntL (varsOf p).length),rchT (sitesOf p) (varsOf p) p 0⟩
theorem rchT_len (Z:List Site) (V:List Bs8):∀(p:Prog) (i:Nat),(rchT Z V p i).length=p.length
 | [],_=>rfl
 | b::r,i=>by rw[rchT,List.length_cons,List.length_cons,rchT_len Z V r (i+1)]
theorem rchT_at (Z:List Site) (V:List Bs8):∀(p:Prog) (j i:Nat) (b:Block),p[i]?=some b→(rchT Z V p j)[i]?=some (rchF Z V (j+i) b)
 | [],j,i,b,h=>by simp at h
 | c::r,j,0,b,h=>by
  rw[List.getElem?_cons_zero]at h;cases h
  rfl
 | c::r,j,i+1,b,h=>by
  rw[List.getElem?_cons_succ]at h;rw[rchT,List.getElem?_cons_succ,rchT_at Z V r (j+1) i b h,show j+1+i=j+(i+1) by omega]
theorem sites_len {p:Prog} (h:checkE p=0):(sitesOf p).length≤576:=by
 have h1:=siteP_len p 0;have h2:=stmts512 h;have h3:=(check_facts h).2.2.1;rw[sitesOf,List.length_append,site0,List.length_map];omega
theorem csysT_take {p:Prog} {i:Nat} {b:Block} (h:p[i]?=some b):((csysOf p).T.map Bt.TrB.mk).take (i+1)=((csysOf p).T.map Bt.TrB.mk).take i++[Bt.TrB.mk (rchF (sitesOf p) (varsOf p) i b)]:=by
 have e:((csysOf p).T.map Bt.TrB.mk)[i]?=some (Bt.TrB.mk (rchF (sitesOf p) (varsOf p) i b)):=by
  show ((rchT (sitesOf p) (varsOf p) p 0).map Bt.TrB.mk)[i]?=_
  rw[List.getElem?_map,rchT_at _ _ p 0 i b h,Nat.zero_add];rfl
 rw[List.take_add_one,e,Option.toList_some]
theorem killO_succ {Z:List Site} {q:Nat} {x:Site} (h:Z[q]?=some x) (v:Bs8) (at':Int):killO Z v at' (q+1)=killO Z v at' q++(if (decide (x.2.2.l=v)&&!decide ((q:Int)=at'))=true then [(q:Int)] else []):=by
 have:=sel_succ (fun i:Nat=>decide ((Z[i]?.getD siteN).2.2.l=v)&&!decide ((i:Int)=at')) q;rw[h]at this;exact this
structure FamV (Z:List Site) (b nB:Int) (V:List Bs8) (A B:Nat→List Int) (C:Nat→Nat→List Int):Prop where
 a0:A 0=[]
 b0:B 0=[]
 asx:∀j v,V[j]?=some v→A (j+1)=A j++(if lastS Z b nB v<0 then [] else [lastS Z b nB v])
 bs':∀j v,V[j]?=some v→lastS Z b nB v<0→B (j+1)=B j
 c0:∀j,C j 0=B j
 cs:∀j v q x,V[j]?=some v→Z[q]?=some x→C j (q+1)=C j q++(if (decide (x.2.2.l=v)&&!decide ((q:Int)=lastS Z b nB v))=true then [(q:Int)] else [])
 ce:∀j v,V[j]?=some v→¬lastS Z b nB v<0→C j Z.length=B (j+1)
 ae:A V.length=genV Z b nB V
 be:B V.length=killV Z b nB V
 al:∀j,(A j).length≤j
 cl:∀j q,j≤64→q≤Z.length→Z.length≤576→(C j q).length≤40000
theorem flatB_take {f:Bs8→List Int} {V:List Bs8} {j:Nat} {v:Bs8} (h:V[j]?=some v):(V.take (j+1)).flatMap f=(V.take j).flatMap f++f v:=by
 rw[List.take_add_one,h,Option.toList_some,List.flatMap_append,List.flatMap_singleton]
theorem genV_len (Z:List Site) (b nB:Int):∀(V:List Bs8),(genV Z b nB V).length≤V.length
 | []=>Nat.le_refl _
 | v::r=>by
  have h:=genV_len Z b nB r;rw[genV]at h ⊢;rw[List.flatMap_cons,List.length_append,List.length_cons]
  have h2:(if lastS Z b nB v<0 then [] else [lastS Z b nB v]:List Int).length≤1:=by split<;>simp
  omega
theorem killO_len (Z:List Site) (v:Bs8) (at':Int) (q:Nat):(killO Z v at' q).length≤q:=sel_len _ q
theorem killV_len (Z:List Site) (b nB:Int):∀(V:List Bs8),(killV Z b nB V).length≤V.length*Z.length
 | []=>by simp [killV]
 | v::r=>by
  have h:=killV_len Z b nB r;rw[killV]at h ⊢;rw[List.flatMap_cons,List.length_append,List.length_cons,Nat.succ_mul]
  have h2:(if lastS Z b nB v<0 then [] else killO Z v (lastS Z b nB v) Z.length:List Int).length≤Z.length:=by
   split
   ·simp
   ·exact killO_len _ _ _ _
  omega
theorem lastG_in (b k:Int) (v:Bs8):∀(l:List Site) (i:Nat) (o:Int),-1≤o→o<(i:Nat)→-1≤lastG b k v l i o∧lastG b k v l i o<((i+l.length:Nat):Int)
 | [],i,o,h1,h2=>⟨h1,by rw[lastG];simpa using h2⟩
 | x::r,i,o,h1,h2=>by
  have h:=lastG_in b k v r (i+1) (if hitS b k v x=true then (i:Int) else o) (by split<;>omega) (by split<;>omega)
  rw[lastG,List.length_cons];omega
theorem lastS_in (Z:List Site) (b k:Int) (v:Bs8) : -1≤lastS Z b k v∧lastS Z b k v<(Z.length:Nat):=by
 have h:=lastG_in b k v Z 0 (-1) (by omega) (by omega);rw[Nat.zero_add]at h;exact h
theorem genV_in {Z:List Site} (hZ:Z.length≤576) (b nB:Int) (V:List Bs8):∀x∈genV Z b nB V,inI x:=fun x hx=>by
 obtain⟨v,_,h⟩:=List.mem_flatMap.1 hx;have hi:=lastS_in Z b nB v;split at h
 ·cases h
 ·rw[List.mem_singleton]at h;rw[h];exact⟨by omega,by omega⟩
theorem killV_in {Z:List Site} (hZ:Z.length≤576) (b nB:Int) (V:List Bs8):∀x∈killV Z b nB V,inI x:=fun x hx=>by
 obtain⟨v,_,h⟩:=List.mem_flatMap.1 hx;split at h
 ·cases h
 ·obtain⟨k,hk,rfl⟩:=List.mem_map.1 h;have:=List.mem_range.1 (List.mem_filter.1 hk).1;exact⟨by omega,by omega⟩
theorem famV_k {P:Prop} (Z:List Site) (b nB:Int) (V:List Bs8) (k:∀A B C,FamV Z b nB V A B C→P):P:=by
 refine k (fun j=>genV Z b nB (V.take j)) (fun j=>killV Z b nB (V.take j)) (fun j q=>killV Z b nB (V.take j)++(match V[j]? with | some v=>killO Z v (lastS Z b nB v) q | none=>[])) ⟨rfl,rfl,fun j v hv=>?_,fun j v hv h=>?_,fun j=>?_,fun j v q x hv hx=>?_,fun j v hv h=>?_,?_,?_,fun j=>?_,fun j q hj hq hZ=>?_⟩
 ·rw[genV,genV,flatB_take hv]
 ·rw[killV,killV,flatB_take hv,if_pos h,List.append_nil]
 ·cases V[j]? with
  | none=>simp
  | some v=>simp [killO]
 ·rw[hv];dsimp only;rw[killO_succ hx,List.append_assoc]
 ·rw[hv];show killV Z b nB (V.take j)++killO Z v (lastS Z b nB v) Z.length=killV Z b nB (V.take (j+1));rw[killV,killV,flatB_take hv,if_neg h]
 ·rw[List.take_length]
 ·rw[List.take_length]
 ·have h:=genV_len Z b nB (V.take j);rw[List.length_take]at h;omega
 ·have h:=killV_len Z b nB (V.take j);have h3:(V.take j).length*Z.length≤64*576:=Nat.mul_le_mul (by rw[List.length_take];omega) hZ
  have h2:(match V[j]? with | some v=>killO Z v (lastS Z b nB v) q | none=>[]).length≤q:=by
   cases V[j]? with
   | none=>simp
   | some v=>exact killO_len _ _ _ _
  rw[List.length_append];omega
end Go.Proofs
end
