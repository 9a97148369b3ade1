/- Part 'M15' of the proof (Br, Pg): lemmas, each with its own conditions in its own statement. -/
import Derived.Deep.Draws
import Derived.Laws.IdiomCopy
import Derived.Sort.Grow
import Derived.Test.YthmicpkjickejaaGreatRRM12
section
namespace Go.Sy
open Go.RowKit (Below)
theorem doesG_move {P:Program} {f:FuncId} {args:List SV} {bx:List (Nat×Bx)} {nx:Nat} {H:Hp} {K:SV→St→Hp→Prop} {k:Nat} {b:Bx} {e:TypeId} {sz:Nat} {ys:List (List Value)}
  (hc:∀as w,(callFunc f as).run P w = .ok (.enter f as) w) (hk:lk bx k=some b) (hys:∀x∈ys,x.length=sz∧∀u∈x,u.oneCell'=true)
  (h:∀(w:World) (ρ:Rho),Mem (Bs.lent w ρ bx nx H) ρ bx nx H w→Calls P f (gas ρ args).toArray w fun ev w'=>∃v:Option Addr×Nat×Nat,ev = .returned (.slice v.1 v.2.1 v.2.2) ∧
   w'.os=w.os∧w'.tape=w.tape∧OD w w'∧w.heap.size≤w'.heap.size∧(∀g,g<w.heap.size→¬Owns ρ k b g→w'.heap[g]?=w.heap[g]?) ∧
   w'.ownsRow 0 e sz (.slice v.1 v.2.1 v.2.2) ys.length ys.flatten∧(∀g,(Value.slice v.1 v.2.1 v.2.2).ownBlock=some g→Owns ρ k b g∨w.heap.size≤g))
  (hK:K (.own nx) ⟨[],(nx,.row e sz ys)::(k,.dead)::bx,nx+1⟩ H):DoesG P f args bx nx H K:=by
 refine⟨hc,fun w ρ hm hl=>(h w ρ hm).mono fun ev w' ⟨v,h1,h2,h3,h4,h5,h6,h7,h8⟩=>?_⟩
 let C:Cx:={ P:=P,tt:=fun _=>none,n:=0,wrap:=false,base:=0,gf:=[],eqs:=[],xf:=[] }
 have hr:Rel C (Bs.lent w ρ bx nx H) ρ ⟨[],bx,nx⟩ H { tmps:=#[],defers:=[] } w:=⟨fun t x hx=>by simp [lk]at hx,rfl,Dfs.nil _ _ _,hm⟩
 obtain⟨ρ',hr',hg⟩:=hr.moved (e:=e) (sz:=sz) (xs:=ys) (w':=w') (v:=v) hk h2 h3 h4 h5 h6 h7 hys h8;exact⟨_,_,H,ρ',by rw[hg];exact h1,hK,by rw[SV.lt];exact Nat.ble_eq_true_of_le (Nat.le_refl _),hr'.mem⟩
theorem setCells_heap (b:Nat) {T:TypeId} {fr:Nat×Nat}:∀(vs:List Value) (o:Nat) (w:World) (c:Array Value),w.heap[b]?=some (.cells c T fr)→o+vs.length≤c.size →
  ∃c',(w.setCells b o vs).heap[b]?=some (.cells c' T fr)∧c'.toList=c.toList.take o++vs++c.toList.drop (o+vs.length)∧(∀g,g≠b→(w.setCells b o vs).heap[g]?=w.heap[g]?)∧(w.setCells b o vs).heap.size=w.heap.size ∧
   (w.setCells b o vs).os=w.os∧(w.setCells b o vs).tape=w.tape∧OD w (w.setCells b o vs)
 | [],o,w,c,h,_=>⟨c,h,by simp,fun _ _=>rfl,rfl,rfl,rfl,OD.refl _⟩
 | v::r,o,w,c,h,hle=>by
  rw[World.setCells];have hb:b<w.heap.size:=(Array.getElem?_eq_some_iff.1 h).1
  have h1:(w.setCell ⟨b,o,none⟩ v).heap[b]?=some (.cells (c.setIfInBounds o v) T fr):=by
   simp only[World.setCell];rw[Array.getElem?_modify,if_pos rfl,h]
   rfl
  have h2:∀g,g≠b→(w.setCell ⟨b,o,none⟩ v).heap[g]?=w.heap[g]?:=fun g hg=>by
   simp only[World.setCell];rw[Array.getElem?_modify,if_neg (fun e=>hg e.symm)]
  have h3:(w.setCell ⟨b,o,none⟩ v).heap.size=w.heap.size:=by simp [World.setCell]
  simp only[List.length_cons]at hle;obtain⟨c',k1,k2,k3,k4,k5,k6,k7⟩:=setCells_heap b r (o+1) (w.setCell ⟨b,o,none⟩ v) (c.setIfInBounds o v) h1 (by simp;omega);refine⟨c',k1,?_,fun g hg=>(k3 g hg).trans (h2 g hg),k4.trans h3,k5,k6,k7⟩;rw[k2]
  have hl:o<c.toList.length:=by simp;omega
  have e1:(c.setIfInBounds o v).toList=c.toList.set o v:=by simp
  rw[e1,List.take_set,List.drop_set_of_lt (by omega),List.length_cons]
  have e2:(c.toList.take (o+1)).set o v=c.toList.take o++[v]:=by
   rw[List.take_add_one,List.getElem?_eq_getElem hl,Option.toList_some,List.set_append_right _ _ (by rw[List.length_take];omega)];rw[List.length_take,Nat.min_eq_left (by omega),Nat.sub_self]
   rfl
  rw[e2,show o+1+r.length=o+(r.length+1) by omega];simp only[List.append_assoc,List.cons_append,List.nil_append]
theorem doesG_turn {P:Program} {f:FuncId} {args:List SV} {bx:List (Nat×Bx)} {nx:Nat} {H:Hp} {K:SV→St→Hp→Prop} {k:Nat} {e:TypeId} {sz:Nat} {xs ys:List (List Value)}
  (hc:∀as w,(callFunc f as).run P w = .ok (.enter f as) w) (hk:lk bx k=some (.row e sz xs)) (_:ys.length=xs.length) (hys:∀x∈ys,x.length=sz∧∀u∈x,u.oneCell'=true)
  (h:∀(w:World) (ρ:Rho),Mem (Bs.lent w ρ bx nx H) ρ bx nx H w→Calls P f (gas ρ args).toArray w fun ev w'=>ev = .returned (.tuple #[]) ∧
   w'.os=w.os∧w'.tape=w.tape∧OD w w'∧w.heap.size≤w'.heap.size∧(∀g,g<w.heap.size→¬Owns ρ k (.row e sz xs) g→w'.heap[g]?=w.heap[g]?) ∧
   w'.ownsRow 0 e sz (ρ.val k) ys.length ys.flatten)
  (hK:K (.tup []) ⟨[],(k,.row e sz ys)::bx,nx⟩ H):DoesG P f args bx nx H K:=by
 refine⟨hc,fun w ρ hm hl=>(h w ρ hm).mono fun ev w' ⟨h1,h2,h3,h4,h5,h6,h7⟩=>?_⟩;have hb:=(hm.ok _ _ hk).2.1;refine⟨.tup [],_,H,ρ,by rw[h1,ga,gas],hK,rfl,?_⟩;exact hm.write hk h2 h3 h4 h5 h6 rfl ⟨h7,hys,hb.2.2⟩ (fun g hg=>hg)
theorem grow_of {w w':World} (hb:BelowD w.heap.size w w'):∃q os,w'=Sort.grow (w.drewN q) os:=by
 refine⟨w'.drawn - w.drawn,w'.heap.extract w.heap.size w'.heap.size,?_⟩;obtain⟨⟨h1,h2,h3,h4,h5⟩,h6⟩:=hb
 have hh:w'.heap=w.heap++w'.heap.extract w.heap.size w'.heap.size:=by
  apply Array.ext_getElem?;intro i
  by_cases hi:i<w.heap.size
  ·rw[h5 i hi,Array.getElem?_append_left hi]
  ·rw[Array.getElem?_append_right (by omega),Array.getElem?_extract];split
   ·congr 1;omega
   ·rw[Array.getElem?_eq_none (by omega)]
 obtain⟨a1,a2,a3,a4,a5⟩:=w';obtain⟨b1,b2,b3,b4,b5⟩:=w;simp only at h1 h2 h3 h6 hh;subst h1 h2 h3;simp only[Sort.grow,World.drewN,World.mk.injEq,and_true,true_and];exact⟨hh,by omega⟩
end Go.Sy
end
section
/- Plain words: programs as data, and how they lie in memory. -/
namespace Go.Proofs
open Go.Sy
abbrev Bs8:=List UInt8
abbrev Nm:=Int×Int
abbrev Atm:=Str×Nm
abbrev Expr:=Int×Atm×Atm
abbrev Stmt:=Int×Str×Expr
abbrev Term:=Int×Atm×Str×Str
abbrev Block:=Str×List Stmt×Term
abbrev Prog:=List Block
abbrev atmV (a:Atm):List Value:=[.string (bs a.1.l),.int .i64 a.2.1,.int .i64 a.2.2]
abbrev exprV (x:Expr):List Value:=.int .i64 x.1::(atmV x.2.1++atmV x.2.2)
abbrev stmtV (s:Stmt):List Value:=.int .i64 s.1 :: .string (bs s.2.1.l)::exprV s.2.2
abbrev termV (t:Term):List Value:=.int .i64 t.1::(atmV t.2.1++[.string (bs t.2.2.1.l),.string (bs t.2.2.2.l)])
def i64R (n:Int):Prop:=-9223372036854775808≤n∧n≤9223372036854775807
def sR (s:Str):Prop:=s.l.length≤9223372036854775807
def atmR (a:Atm):Prop:=sR a.1∧i64R a.2.1∧i64R a.2.2
def exprR (x:Expr):Prop:=i64R x.1∧atmR x.2.1∧atmR x.2.2
def stmtR (s:Stmt):Prop:=i64R s.1∧sR s.2.1∧exprR s.2.2
def termR (t:Term):Prop:=i64R t.1∧atmR t.2.1∧sR t.2.2.1∧sR t.2.2.2
theorem atm_open {H:Hp} {cs:List Value} {a:Atm} (h:Enc.R H cs a):cs=atmV a∧atmR a:=by
 obtain⟨x1,x2,rfl,⟨rfl,h1⟩,y1,y2,rfl,⟨rfl,h2⟩,⟨rfl,h3⟩⟩:=h;exact⟨rfl,h1,h2,h3⟩
theorem expr_open {H:Hp} {cs:List Value} {x:Expr} (h:Enc.R H cs x):cs=exprV x∧exprR x:=by
 obtain⟨x1,x2,rfl,⟨rfl,h1⟩,y1,y2,rfl,h2,h3⟩:=h;obtain⟨rfl,k2⟩:=atm_open h2;obtain⟨rfl,k3⟩:=atm_open h3;exact⟨rfl,h1,k2,k3⟩
theorem stmt_open {H:Hp} {cs:List Value} {x:Stmt} (h:Enc.R H cs x):cs=stmtV x∧stmtR x:=by
 obtain⟨x1,x2,rfl,⟨rfl,h1⟩,y1,y2,rfl,⟨rfl,h2⟩,h3⟩:=h;obtain⟨rfl,k3⟩:=expr_open h3;exact⟨rfl,h1,h2,k3⟩
theorem term_open {H:Hp} {cs:List Value} {x:Term} (h:Enc.R H cs x):cs=termV x∧termR x:=by
 obtain⟨x1,x2,rfl,⟨rfl,h1⟩,y1,y2,rfl,h2,y3,y4,rfl,⟨rfl,h3⟩,⟨rfl,h4⟩⟩:=h;obtain⟨rfl,k2⟩:=atm_open h2;exact⟨rfl,h1,k2,h3,h4⟩
theorem block_open {H:Hp} {cs:List Value} {x:Block} (h:Enc.R H cs x):∃a n c,cs = .string (bs x.1.l) :: .slice a n c::termV x.2.2∧RL H a n c x.2.1∧sR x.1∧termR x.2.2:=by
 obtain⟨x1,x2,rfl,⟨rfl,h1⟩,y1,y2,rfl,⟨a,n,c,rfl,h2⟩,h3⟩:=h;obtain⟨rfl,k3⟩:=term_open h3;exact⟨a,n,c,rfl,h2,h1,k3⟩
theorem rl_mem {α:Type} [Enc α] {H:Hp} {a:Option Addr} {n c:Nat} {xs:List α} {x:α} (h:RL H a n c xs) (hx:x∈xs):∃cs,Enc.R H cs x:=by
 obtain⟨i,hi⟩:=List.getElem?_of_mem hx;obtain⟨_,cs,_,_,h⟩:=h.elem hi;exact⟨cs,h⟩
def smallS (s:Stmt):Prop:=s.2.1.l.length≤40∧s.2.2.2.1.1.l.length≤40∧s.2.2.2.2.1.l.length≤40
def smallB4 (b:Block):Prop:=(b.2.1.length≤12∧b.1.l.length≤40∧b.2.2.2.2.1.l.length≤40∧b.2.2.2.2.2.l.length≤40∧b.2.2.2.1.1.l.length≤40)∧∀s∈b.2.1,smallS s
def small4 (p:Prog):Prop:=p.length≤12∧∀b∈p,smallB4 b
theorem mem_take_succ {α:Type} {l:List α} {i:Nat} {x:α} (h:l[i]?=some x) {P:α→Prop} (h1:∀y∈l.take i,P y) (h2:P x):∀y∈l.take (i+1),P y:=by
 intro y hy;rw[List.take_add_one,h,Option.toList_some,List.mem_append,List.mem_singleton]at hy
 rcases hy with hy | rfl
 ·exact h1 y hy
 ·exact h2
def idxS (t:Bs8):List Bs8→Int→Int
 | [],_=>-1
 | x::r,i=>if x=t then i else idxS t r (i+1)
theorem idxS_step {t:Bs8} {l:List Bs8} {i:Nat} (h:i<l.length):idxS t (l.drop i) i=if l[i]=t then (i:Int) else idxS t (l.drop (i+1)) (i+1:Nat):=by
 rw[List.drop_eq_getElem_cons h,idxS];rfl
theorem idxS_range (t:Bs8):∀(l:List Bs8) (i:Int),0≤i→idxS t l i = -1∨(i≤idxS t l i∧idxS t l i<i+l.length)
 | [],_,_=>.inl rfl
 | x::r,i,h=>by
  rw[idxS];split
  ·right;simp only[List.length_cons];omega
  ·rcases idxS_range t r (i+1) (by omega) with h' | h'
   ·exact .inl h'
   ·right;simp only[List.length_cons];omega
abbrev uns (l:List Str):List Bs8:=l.map Str.l
abbrev ens (l:List Bs8):List Str:=l.map Str.mk
theorem uns_ens (l:List Bs8):uns (ens l)=l:=by simp [uns,ens,Function.comp_def]
abbrev sRows (l:List (List UInt8)):List (List Value):=l.map fun s=>[.string (bs s)]
theorem rc_sRows {H:Hp}:∀ {l:List Bs8},(∀s∈l,s.length≤9223372036854775807)→RC (α:=Str) H (sRows l) (ens l):=by
 intro l h;refine⟨by simp,fun i cs x h1 h2=>?_⟩;simp only[List.getElem?_map,Option.map_eq_some_iff]at h1 h2;obtain⟨s,h3,rfl⟩:=h1;obtain⟨t,h4,rfl⟩:=h2;rw[h3]at h4;cases h4;exact⟨rfl,h s (List.mem_of_getElem? h3)⟩
theorem ens_get {l:List Bs8} {i:Nat} (h:i<l.length):(ens l)[i]?=some ⟨l[i]⟩:=by rw[List.getElem?_map,List.getElem?_eq_getElem h];rfl
theorem take_step {α β:Type} (f:β→α→β) (z:β) {l:List α} {i:Nat} {x:α} (h:l[i]?=some x):(l.take (i+1)).foldl f z=f ((l.take i).foldl f z) x:=by
 rw[List.take_add_one,h,Option.toList_some,List.foldl_append];rfl
theorem kbool {K:Value→Hp→Prop} {H:Hp} {a b:Bool} (h:K (.bool a) H) (e:a=b):K (.bool b) H:=e▸h
abbrev iRows (l:List Int):List (List Value):=l.map fun n=>[.int .i64 n]
abbrev eRows (l:List (Int×Int)):List (List Value):=l.map fun e=>[.int .i64 e.1,.int .i64 e.2]
def inI (n:Int):Prop:=-9223372036854775808≤n∧n≤9223372036854775807
theorem rc_iRows {H:Hp} {l:List Int} (h:∀n∈l,inI n):RC (α:=Int) H (iRows l) l:=by
 refine⟨by simp,fun i cs x h1 h2=>?_⟩;simp only[List.getElem?_map,Option.map_eq_some_iff]at h1;obtain⟨s,h3,rfl⟩:=h1;rw[h2]at h3;cases h3;exact⟨rfl,h x (List.mem_of_getElem? h2)⟩
theorem rc_eRows {H:Hp} {l:List (Int×Int)} (h:∀e∈l,inI e.1∧inI e.2):RC (α:=Int×Int) H (eRows l) l:=by
 refine⟨by simp,fun i cs x h1 h2=>?_⟩;simp only[List.getElem?_map,Option.map_eq_some_iff]at h1;obtain⟨s,h3,rfl⟩:=h1;rw[h2]at h3;cases h3;obtain⟨h4,h5⟩:=h x (List.mem_of_getElem? h2);exact⟨[_],[_],rfl,⟨rfl,h4⟩,⟨rfl,h5⟩⟩
theorem edge_open {H:Hp} {cs:List Value} {e:Int×Int} (h:Enc.R H cs e):cs=[.int .i64 e.1,.int .i64 e.2]∧inI e.1∧inI e.2:=by
 obtain⟨x1,x2,rfl,⟨rfl,h1⟩,⟨rfl,h2⟩⟩:=h;exact⟨rfl,h1,h2⟩
theorem RLe_all {H:Hp} {a:Option Addr} {n c:Nat} {l:List (Int×Int)} (h:RL H a n c l):∀x∈l,inI x.1∧inI x.2:=fun x hx=>by
 obtain⟨cs,hr⟩:=rl_mem h hx;exact (edge_open hr).2
theorem rc_eq_e {H:Hp} {css:List (List Value)} {l:List (Int×Int)} (h:RC H css l):css=eRows l:=by
 apply List.ext_getElem?;intro i
 by_cases hi:i<css.length
 ·have hi2:i<l.length:=by rw[←h.1];exact hi
  have h1:=List.getElem?_eq_getElem hi;have h2:=List.getElem?_eq_getElem hi2;have h3:=(edge_open (h.2 i _ _ h1 h2)).1
  rw[h1,h3,List.getElem?_map,h2];rfl
 ·rw[List.getElem?_eq_none (by omega),List.getElem?_eq_none (by rw[List.length_map,←h.1];omega)]
theorem RLe_row {H:Hp} {a:Option Addr} {n c:Nat} {l:List (Int×Int)} (h:RL H a n c l):RowAt H (.slice a n c) 2 (eRows l):=by
 obtain⟨css,h1,h2⟩:=h.row;rw[rc_eq_e h2]at h1;exact h1
theorem RL_nil {α:Type} [Enc α] {H:Hp} {n c:Nat} {l:List α} (h:RL H none n c l):l=[]:=by
 obtain⟨h1,h2,_,h4⟩:=h
 rcases h4 with h4 | ⟨ad,e,_⟩
 ·exact List.eq_nil_of_length_eq_zero (by omega)
 ·cases e
end Go.Proofs
end
