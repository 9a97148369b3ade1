/- Part 'M31' of the proof (Fr1, Fr2, Fr3, Fr4, Fr5, Lv0, Lv1, Lv2, Ex1, Ex2, Ex3, Ex4, Pn1, Pn2, Ex5, Pr10, Fr6, Pn3, Fo5b, Fo6, Sw5): lemmas, each with its own conditions in its own statement. -/
import Derived.Test.YtheokcjommfopaaGreatDoorM22
import Derived.Test.YtheokcjommfopaaGreatDoorM24
import Derived.Test.YtheokcjommfopaaGreatDoorM29
import Derived.Test.YtheokcjommfopaaGreatDoorM30
section
namespace Go.Proofs
open Go.Sy
set_option maxRecDepth 20000
set_option maxHeartbeats 4000000
theorem op1_nAt {op:Int} (h:op=0∨op=4):nAt op=1:=if_pos h
theorem op2_nAt {op:Int} (h:op=1∨op=2∨op=3):nAt op=2:=by rw[nAt,if_neg (by omega),if_pos h]
abbrev nAtm (n:Nm):Atm:=(⟨[]⟩,n)
theorem foldE_cases {p:Prog} {kn:Wd} {x:Expr} (h:exprB x=true):
  ((x.1=0∨x.1=4)∧x.2.2=za∧(((foldA p kn x.2.1).1.l=[]∧foldE p kn x=(0,nAtm (nOp x.1 (foldA p kn x.2.1).2 (0,0)),za))∨((foldA p kn x.2.1).1.l≠[]∧foldE p kn x=(x.1,foldA p kn x.2.1,za)))) ∨
  ((x.1=1∨x.1=2∨x.1=3)∧(((foldA p kn x.2.1).1.l=[]∧(foldA p kn x.2.2).1.l=[]∧foldE p kn x=(0,nAtm (nOp x.1 (foldA p kn x.2.1).2 (foldA p kn x.2.2).2),za)) ∨
   (¬((foldA p kn x.2.1).1.l=[]∧(foldA p kn x.2.2).1.l=[])∧foldE p kn x=(x.1,foldA p kn x.2.1,foldA p kn x.2.2)))):=by
 unfold exprB at h;split at h
 ·rename_i h1
  have h1:x.1=0∨x.1=4:=by simpa [op1] using h1
  rw[Bool.and_eq_true]at h;have hb:x.2.2=za:=dt h.2;have hn:=op1_nAt h1;refine .inl ⟨h1,hb,?_⟩
  by_cases hy:(foldA p kn x.2.1).1.l=[]
  ·refine .inl ⟨hy,?_⟩;simp only[foldE,hn]
   rw[if_pos (show 0<1 by omega),if_neg (show ¬1<1 by omega),if_pos ⟨by omega,hy,by simp⟩,hb];rfl
  ·refine .inr ⟨hy,?_⟩;simp only[foldE,hn];rw[if_pos (show 0<1 by omega),if_neg (show ¬1<1 by omega),if_neg (fun hh=>hy hh.2.1),hb]
 ·split at h
  ·rename_i h1
   have h1:x.1=1∨x.1=2∨x.1=3:=by simpa [op2,or_assoc] using h1
   have hn:=op2_nAt h1;refine .inr ⟨h1,?_⟩
   by_cases hy:(foldA p kn x.2.1).1.l=[]∧(foldA p kn x.2.2).1.l=[]
   ·refine .inl ⟨hy.1,hy.2,?_⟩;simp only[foldE,hn]
    rw[if_pos (show 0<2 by omega),if_pos (show 1<2 by omega),if_pos ⟨by omega,hy.1,.inr hy.2⟩];rfl
   ·refine .inr ⟨hy,?_⟩;simp only[foldE,hn];rw[if_pos (show 0<2 by omega),if_pos (show 1<2 by omega),if_neg (fun hh=>hy ⟨hh.2.1,by rcases hh.2.2 with e | e;exact absurd e (by omega);exact e⟩)]
  ·cases h
theorem stmtB_expr {x:Stmt} (h:stmtB x=true) (h1:x.1=1∨x.1=3):exprB x.2.2=true:=by
 unfold stmtB at h;split at h
 ·rw[Bool.and_eq_true]at h;exact h.2
 ·rw[if_neg (by omega)]at h;split at h
  ·rw[Bool.and_eq_true]at h;exact h.2
  ·cases h
end Go.Proofs
end
section
namespace Go.Proofs
open Go.Sy
set_option maxRecDepth 20000
set_option maxHeartbeats 4000000
theorem kNum_n {w:Nat} {n:Nm} (h:kNum w=some n):nOf n=n:=by
 unfold kNum at h;split at h
 ·rw[←Option.some.inj h];simp only[nOf,wrp_wrp]
 ·cases h
theorem foldA_or (p:Prog) (kn:Wd) (a:Atm):foldA p kn a=a∨∃n,foldA p kn a=nAtm n∧nOf n=n:=by
 simp only[foldA];split
 ·cases h:kNum (kn[(idxS a.1.l (varsOf p) 0).toNat]?.getD 0).toNat with
  | none=>exact .inl rfl
  | some n=>exact .inr ⟨n,rfl,kNum_n h⟩
 ·exact .inl rfl
theorem isN_of {n:Nm} (h:nOf n=n):isN n=true:=decide_eq_true h.symm
theorem atmB_nAtm {n:Nm} (h:nOf n=n):atmB (nAtm n)=true:=by rw[atmB,if_pos rfl];exact isN_of h
theorem atmB_fold {p:Prog} {kn:Wd} {a:Atm} (h:atmB a=true):atmB (foldA p kn a)=true:=by
 rcases foldA_or p kn a with e | ⟨n,e,hn⟩
 ·rw[e];exact h
 ·rw[e];exact atmB_nAtm hn
theorem exprB_one {op:Int} {a:Atm} (h:op=0∨op=4) (ha:atmB a=true):exprB (op,a,za)=true:=by
 rw[exprB,if_pos (by simpa [op1] using h)];dsimp only
 rw[ha];simp
theorem exprB_two {op:Int} {a b:Atm} (h:op=1∨op=2∨op=3) (ha:atmB a=true) (hb:atmB b=true):exprB (op,a,b)=true:=by
 rw[exprB,if_neg (by simp [op1];omega),if_pos (by simpa [op2,or_assoc] using h)];dsimp only
 rw[ha,hb];rfl
theorem exprB_atms {x:Expr} (h:exprB x=true):atmB x.2.1=true∧((x.1=1∨x.1=2∨x.1=3)→atmB x.2.2=true):=by
 unfold exprB at h;split at h
 ·rename_i h1;rw[Bool.and_eq_true]at h
  have h1:x.1=0∨x.1=4:=by simpa [op1] using h1
  exact⟨h.1,fun h2=>by omega⟩
 ·split at h
  ·rw[Bool.and_eq_true]at h;exact⟨h.1,fun _=>h.2⟩
  ·cases h
theorem exprB_fold {p:Prog} {kn:Wd} {x:Expr} (h:exprB x=true):exprB (foldE p kn x)=true:=by
 have h2:=exprB_atms h
 rcases foldE_cases (p:=p) (kn:=kn) h with ⟨ho,hb,h3⟩ | ⟨ho,h3⟩
 ·rcases h3 with ⟨_,e⟩ | ⟨_,e⟩
  ·rw[e];exact exprB_one (.inl rfl) (atmB_nAtm (nOp_nOf _ _ _))
  ·rw[e];exact exprB_one ho (atmB_fold h2.1)
 ·rcases h3 with ⟨_,_,e⟩ | ⟨_,e⟩
  ·rw[e];exact exprB_one (.inl rfl) (atmB_nAtm (nOp_nOf _ _ _))
  ·rw[e];exact exprB_two ho (atmB_fold h2.1) (atmB_fold (h2.2 ho))
theorem foldE_op0 {p:Prog} {kn:Wd} {x:Expr} (h:exprB x=true) (h0:x.1=0):(foldE p kn x).1=0:=by
 rcases foldE_cases (p:=p) (kn:=kn) h with ⟨ho,hb,h3⟩ | ⟨ho,h3⟩
 ·rcases h3 with ⟨_,e⟩ | ⟨_,e⟩
  ·rw[e]
  ·rw[e];exact h0
 ·omega
theorem stmtB_fold {p:Prog} {kn:Wd} {x:Stmt} (h:stmtB x=true):stmtB (foldS p kn x)=true:=by
 by_cases h1:x.1=1∨x.1=3
 ·have hE:=stmtB_expr h h1;rw[foldS,if_pos h1]
  rcases h1 with h1 | h1
  ·rw[stmtB,if_pos h1]at h ⊢;rw[Bool.and_eq_true]at h ⊢;exact⟨h.1,exprB_fold hE⟩
  ·rw[stmtB,if_neg (by omega),if_neg (by omega),if_pos h1]at h;rw[stmtB,if_neg (by dsimp only;omega),if_neg (by dsimp only;omega),if_pos h1];rw[Bool.and_eq_true,Bool.and_eq_true]at h ⊢;exact⟨⟨h.1.1,decide_eq_true (foldE_op0 hE (dt h.1.2))⟩,exprB_fold hE⟩
 ·rw[foldS,if_neg h1];exact h
theorem foldT_parts (p:Prog) (i:Nat) (b:Block):(foldT p i b).1=b.2.2.1∧(foldT p i b).2.2=b.2.2.2.2:=by
 unfold foldT
 split<;>exact⟨rfl,rfl⟩
theorem termB_fold {p:Prog} {i:Nat} {b:Block} (h:termB b.2.2=true):termB (foldT p i b)=true:=by
 unfold foldT;split
 ·rename_i h2;rw[termB,if_neg (by omega),if_pos h2]at h;rw[termB,if_neg (by dsimp only;omega),if_pos h2];rw[Bool.and_eq_true,Bool.and_eq_true]at h ⊢;exact⟨h.1,atmB_fold h.2⟩
 ·exact h
theorem foldB_parts (p:Prog) (i:Nat) (b:Block):(foldB p i b).1=b.1∧(foldB p i b).2.2.1=b.2.2.1∧(foldB p i b).2.2.2.2=b.2.2.2.2:=by
 unfold foldB;split
 ·exact⟨rfl,rfl,rfl⟩
 ·exact⟨rfl,(foldT_parts p i b).1,(foldT_parts p i b).2⟩
theorem foldP_get {p:Prog} {i:Nat} {b:Block} (h:p[i]?=some b):(foldP p)[i]?=some (foldB p i b):=by rw[foldP,List.getElem?_mapIdx,h];rfl
theorem foldP_mem {p:Prog} {b':Block} (h:b'∈foldP p):∃i b,p[i]?=some b∧b'=foldB p i b:=by
 obtain⟨i,hi⟩:=List.getElem?_of_mem h;have hlt:=(List.getElem?_eq_some_iff.1 hi).1;rw[foldP_len]at hlt;have hb:=List.getElem?_eq_getElem hlt;rw[foldP_get hb]at hi;exact⟨i,p[i],hb,(Option.some.inj hi).symm⟩
theorem foldL_mem {p:Prog} {i:Nat} {b:Block} {x':Stmt} (h:x'∈foldL p i b):∃k x,b.2.1[k]?=some x∧x'=foldS p (knownAt p i b k) x:=by
 obtain⟨k,hk⟩:=List.getElem?_of_mem h;have hlt:=(List.getElem?_eq_some_iff.1 hk).1;rw[foldL_len]at hlt;have hb:=List.getElem?_eq_getElem hlt;rw[foldL,List.getElem?_mapIdx,hb]at hk;exact⟨k,b.2.1[k],hb,(Option.some.inj hk).symm⟩
theorem foldB_stmt {p:Prog} {i:Nat} {b:Block} {x':Stmt} (h:x'∈(foldB p i b).2.1):∃x∈b.2.1,x'=x∨∃kn,x'=foldS p kn x:=by
 unfold foldB at h;split at h
 ·exact⟨x',h,.inl rfl⟩
 ·obtain⟨k,x,hx,e⟩:=foldL_mem h;exact⟨x,List.mem_of_getElem? hx,.inr ⟨_,e⟩⟩
theorem foldA_names (p:Prog) (kn:Wd) (a:Atm):(foldA p kn a).1.l=a.1.l∨(foldA p kn a).1.l=[]:=by
 rcases foldA_or p kn a with e | ⟨n,e,_⟩
 ·exact .inl (by rw[e])
 ·exact .inr (by rw[e])
theorem foldE_names (p:Prog) (kn:Wd) (x:Expr):∀a∈[(foldE p kn x).2.1,(foldE p kn x).2.2],a.1.l≠[]→a.1.l=x.2.1.1.l∨a.1.l=x.2.2.1.l:=by
 intro a ha h0
 obtain⟨y1,hy1⟩:∃y1,y1=if 0<nAt x.1 then foldA p kn x.2.1 else x.2.1:=⟨_,rfl⟩
 obtain⟨y2,hy2⟩:∃y2,y2=if 1<nAt x.1 then foldA p kn x.2.2 else x.2.2:=⟨_,rfl⟩
 have e:foldE p kn x=if 0<nAt x.1∧y1.1.l=[]∧(nAt x.1=1∨y2.1.l=[]) then (0,(⟨[]⟩,nOp x.1 y1.2 y2.2),(⟨[]⟩,(0,0))) else (x.1,y1,y2):=by rw[hy1,hy2];rfl
 have n1:y1.1.l=x.2.1.1.l∨y1.1.l=[]:=by
  rw[hy1];split
  ·exact foldA_names _ _ _
  ·exact .inl rfl
 have n2:y2.1.l=x.2.2.1.l∨y2.1.l=[]:=by
  rw[hy2];split
  ·exact foldA_names _ _ _
  ·exact .inl rfl
 rw[e]at ha;split at ha
 ·simp only[List.mem_cons,List.not_mem_nil,or_false]at ha
  rcases ha with rfl | rfl<;>exact absurd rfl h0
 ·simp only[List.mem_cons,List.not_mem_nil,or_false]at ha
  rcases ha with rfl | rfl
  ·rcases n1 with n1 | n1
   ·exact .inl n1
   ·exact absurd n1 h0
  ·rcases n2 with n2 | n2
   ·exact .inr n2
   ·exact absurd n2 h0
theorem foldS_names {p:Prog} {kn:Wd} {x:Stmt}:∀t∈sVars (foldS p kn x),t≠[]→t∈sVars x:=by
 intro t ht h0;unfold foldS at ht;split at ht
 ·simp only[List.mem_cons,List.not_mem_nil,or_false]at ht ⊢
  rcases ht with rfl | rfl | rfl
  ·exact .inl rfl
  ·exact .inr (foldE_names p kn x.2.2 (foldE p kn x.2.2).2.1 (by simp) h0)
  ·exact .inr (foldE_names p kn x.2.2 (foldE p kn x.2.2).2.2 (by simp) h0)
 ·exact ht
theorem vars_fold {p:Prog}:∀t∈varsOf (foldP p),t∈varsOf p:=by
 intro t ht
 have h0:t≠[]:=fun e=>by
  have:=vIdx_mem ht;rw[e]at this;have:=vIdx_nil (foldP p);omega
 rcases vars_mem (foldP p) ht with h | ⟨b',hb',h⟩
 ·cases h
 ·obtain⟨i,b,hb,rfl⟩:=foldP_mem hb';have hm:=List.mem_of_getElem? hb;have hv:=(vars_has p nil_sorted).1 b hm
  rcases h with h | ⟨x',hx',h⟩
  ·unfold foldB at h;split at h
   ·rw[h]at h0 ⊢;exact hv.2 h0
   ·unfold foldT at h;split at h
    ·rcases foldA_names p (knownAt p i b b.2.1.length) b.2.2.2.1 with e | e
     ·rw[h]at h0 ⊢;dsimp only at h0 ⊢;rw[e]at h0 ⊢;exact hv.2 h0
     ·rw[h]at h0;exact absurd e h0
    ·rw[h]at h0 ⊢;exact hv.2 h0
  ·obtain⟨x,hx,e | ⟨kn,e⟩⟩:=foldB_stmt hx'
   ·rw[e]at h;exact hv.1 x hx t h h0
   ·rw[e]at h;exact hv.1 x hx t (foldS_names t h h0) h0
theorem vars_nodup (p:Prog):(varsOf p).Nodup:=by
 have hs:SortedS (varsOf p):=vars_sorted p nil_sorted;exact List.Pairwise.imp (fun {a b} (h:a<b) (e:a=b)=>slt_irrefl b (by rw[e]at h;exact h)) hs
theorem vars_fold_len (p:Prog):(varsOf (foldP p)).length≤(varsOf p).length:=List.Nodup.length_le_of_subset (vars_nodup _) (fun t ht=>vars_fold t ht)
theorem foldP_names (p:Prog):nms (foldP p)=nms p:=by
 apply List.ext_getElem?;intro i;rw[List.getElem?_map,List.getElem?_map]
 cases h:p[i]? with
 | none =>
  rw[List.getElem?_eq_none (by rw[foldP_len];exact List.getElem?_eq_none_iff.1 h)]
 | some b=>rw[foldP_get h,Option.map_some,Option.map_some,(foldB_parts p i b).1]
theorem sum_map_eq {α β:Type} (f:α→Nat) (g:β→Nat):∀(l:List α) (m:List β),l.length=m.length→(∀(i:Nat) (a:α) (b:β),l[i]?=some a→m[i]?=some b→f a=g b)→(l.map f).sum=(m.map g).sum
 | [],[],_,_=>rfl
 | [],b::m,h,_=>by cases h
 | a::l,[],h,_=>by cases h
 | a::l,b::m,h,h1=>by
  rw[List.map_cons,List.map_cons,List.sum_cons,List.sum_cons,h1 0 a b rfl rfl,sum_map_eq f g l m (by simpa using h) (fun i a b=>h1 (i+1) a b)]
theorem foldP_stmts (p:Prog):stmtsN (foldP p)=stmtsN p:=by
 unfold stmtsN
 refine sum_map_eq _ _ _ _ (foldP_len p) fun i a b h1 h2=>?_
 rw[foldP_get h2]at h1;rw[←Option.some.inj h1,foldB_len]
theorem stmts_512' {p:Prog} (h:checkE p=0):stmtsN p≤512:=by
 unfold checkE at h;split at h
 ·cases h
 ·omega
theorem check_nodup {p:Prog} (h:checkE p=0):(bnames p).Nodup:=by
 unfold checkE at h;split at h
 ·cases h
 ·split at h
  ·split at h
   ·cases h
   ·split at h
    ·assumption
    ·cases h
  ·cases h
theorem fold_check {p:Prog} (h:checkE p=0):checkE (foldP p)=0:=by
 have hf:=check_facts h;have h5:=stmts_512' h
 have hb:∀b'∈foldP p,blockB b'=true:=fun b' hb'=>by
  obtain⟨i,b,hb,rfl⟩:=foldP_mem hb';have hm:=List.mem_of_getElem? hb;have h1:=hf.2.2.2 b hm;have h2:=block_stmts h1;rw[blockB,Bool.and_eq_true,Bool.and_eq_true]at h1;rw[blockB,Bool.and_eq_true,Bool.and_eq_true];refine⟨⟨by rw[(foldB_parts p i b).1];exact h1.1.1,?_⟩,List.all_eq_true.2 fun x' hx'=>?_⟩
  ·unfold foldB;split
   ·exact h1.1.2
   ·exact termB_fold h1.1.2
  ·obtain⟨x,hx,e | ⟨kn,e⟩⟩:=foldB_stmt hx'
   ·rw[e];exact h2 x hx
   ·rw[e];exact stmtB_fold (h2 x hx)
 have hn:bnames (foldP p)=bnames p:=foldP_names p
 have hg:∀b'∈foldP p,∀t∈goes b'.2.2,t∈bnames (foldP p):=fun b' hb' t ht=>by
  obtain⟨i,b,hb,rfl⟩:=foldP_mem hb';have hp:=foldB_parts p i b;rw[hn];refine check_goes h (List.mem_of_getElem? hb) ?_;unfold goes at ht ⊢;rw[hp.2.1,hp.2.2]at ht;exact ht
 have hd:(bnames p).Nodup:=check_nodup h;have hv:=vars_fold_len p;unfold checkE;rw[if_neg (by rw[foldP_len,foldP_stmts];omega),if_pos (List.all_eq_true.2 hb),if_neg (by omega),if_pos (by rw[hn];exact hd),if_pos (List.all_eq_true.2 fun b hb=>List.all_eq_true.2 fun t ht=>decide_eq_true (hg b hb t ht))]
end Go.Proofs
end
section
namespace Go.Proofs
open Go.Sy
set_option maxRecDepth 20000
set_option maxHeartbeats 4000000
end Go.Proofs
end
section
namespace Go.Proofs
open Go.Sy
set_option maxRecDepth 20000
set_option maxHeartbeats 4000000
end Go.Proofs
end
section
namespace Go.Proofs
open Go.Sy
set_option maxRecDepth 20000
set_option maxHeartbeats 4000000
end Go.Proofs
end
section
namespace Go.Proofs
open Go.Sy
set_option maxRecDepth 20000
set_option maxHeartbeats 4000000
theorem some1_spec {s:Bs8} {H:Hp} {K:Value→Hp→Prop} (hK:K (.bool (!decide (s=[]))) H):Does Tryz.prog 164 [.string (bs s)] H K:=by
 refine spec_of cx_ok cx_mix rfl Tryz.func164 Tryz.call164 Tryz.ntmps164 Tryz.results164 rfl rfl ?_;exact hK
def someL (l:List Bs8):List Bs8:=l.filter fun s=>!decide (s=[])
theorem someL_take {l:List Bs8} {i:Nat} {s:Bs8} (h:l[i]?=some s):someL (l.take (i+1))=if s=[] then someL (l.take i) else someL (l.take i)++[s]:=by
 rw[someL,List.take_add_one,h,Option.toList_some,List.filter_append]
 by_cases hs:s=[]
 ·simp [someL,hs]
 ·simp [someL,hs]
theorem str_k {P:Prop} {H:Hp} {a:Option Addr} {n c:Nat} {l:List Bs8} (h:RL H a n c (ens l)) {i:Nat} {s:Bs8} (hi:l[i]?=some s) (k:∀ad,a=some ad→ElemH H ad (i:Int) 1 [.string (bs s)]→s.length≤9223372036854775807→P):P :=
 elem_k h (i:=i) (x:=(⟨s⟩:Str)) (by rw[List.getElem?_map,hi];rfl) fun ad cs h1 h2 h3=>by
  obtain⟨rfl,h4⟩:=h3;exact k ad h1 h2 h4
theorem ens_small {H:Hp} {a:Option Addr} {n c:Nat} {l:List Bs8} (h:RL H a n c (ens l)):∀s∈l,s.length≤9223372036854775807:=fun s hs=>by
 obtain⟨i,hi⟩:=List.getElem?_of_mem hs
 exact str_k h hi fun _ _ _ h=>h
theorem picked_spec {l:List Bs8} (hl:l.length≤100000) {a:Option Addr} {n c:Nat} {H:Hp} {K:SV→St→Hp→Prop} (ha:RL H a n c (ens l)) (hK:K (.own 0) ⟨[],[(0,.row 9 1 (sRows (someL l)))],1⟩ H):
  DoesG Tryz.prog 163 [.v (.slice a n c),.fn 164 []] [] 0 H K:=by
 have hn1:=ha.n_eq;rw[List.length_map]at hn1;refine spec_ofG cx_ok cx_mix Tryz.func163 Tryz.call163 Tryz.ntmps163 Tryz.results163 rfl rfl ?_
 refine⟨Nat,fun i=>⟨[(1,.fn 164 []),(5,.own 0),(8,.v (.slice a n c)),(9,.v (.int .i64 n)),(10,.v (.int .i64 i))],[(0,.row 9 1 (sRows (someL (l.take i))))],1⟩,
  fun i H'=>H'=H∧i≤l.length,fun i=>l.length - i,⟨0,[],?_,rfl,Nat.zero_le _⟩,?_⟩
 ·(repeat' (first|exact trivial|refine⟨?_,?_⟩|exact rfl|assumption))
 rintro i H1 _ ⟨rfl,hi⟩;refine⟨fun h=>?_,fun h=>?_⟩
 ·have hlt:i<l.length:=by have:=dt h;omega
  have hlv:=someL_take (List.getElem?_eq_getElem hlt)
  have hlen:(sRows (someL (l.take i))).length≤i:=by
   rw[List.length_map];exact Nat.le_trans (List.length_filter_le _ _) (by rw[List.length_take];omega)
  refine str_k ha (List.getElem?_eq_getElem hlt) fun ad e1 hh hsz=>?_
  refine⟨ad,⟨by omega,by omega,e1⟩,?_⟩;refine⟨_,hh,?_⟩;refine some1_spec ?_;refine⟨fun h=>?_,fun h=>?_⟩
  ·have hne:¬l[i]=[]:=nt h;rw[if_neg hne]at hlv
   have e:sRows (someL (l.take i))++[[.string (bs l[i])]]=sRows (someL (l.take (i+1))):=by rw[hlv,←sRows_snoc]
   refine⟨⟨by show (_+1)*16≤140737488355328;omega,by show _+1≤9223372036854775807;omega⟩,?_⟩;refine⟨⟨by omega,by omega⟩,i+1,[(0,2)],?_,⟨rfl,hlt⟩,by dsimp only;omega⟩
   (repeat' (first|exact trivial|refine⟨?_,?_⟩|exact rfl|assumption))
  ·have heq:l[i]=[]:=nf h;rw[if_pos heq]at hlv
   have e:sRows (someL (l.take i))=sRows (someL (l.take (i+1))):=by rw[hlv]
   refine⟨⟨by omega,by omega⟩,i+1,[(0,0)],?_,⟨rfl,hlt⟩,by dsimp only;omega⟩
   (repeat' (first|exact trivial|refine⟨?_,?_⟩|exact rfl|assumption))
 ·have hil:i=l.length:=by have:=df h;omega
  rw[hil,List.take_length];exact⟨.own 0,[(0,.row 9 1 (sRows (someL l)))],1,[(0,0)],by (repeat' (first|exact trivial|refine⟨?_,?_⟩|exact rfl|assumption)),hK⟩
def nmsOf (l:List Bs8):List Bs8:=putAll l []
theorem nil_sortedS:SortedS ([]:List Bs8):=List.Pairwise.nil
theorem putAll_some:∀(vs:List Bs8) {o:List Bs8},¬[]∈o→¬[]∈putAll vs o
 | [],_,h=>h
 | v::r,o,h=>by
  refine putAll_some r (o:=putS v o) fun hm=>?_
  by_cases hv:v=[]
  ·rw[hv,putS_nil]at hm;exact h hm
  ·rcases putS_mem hm with hm | hm
   ·exact h hm
   ·exact hv hm.symm
theorem nmsOf_mem {l:List Bs8} {t:Bs8}:t∈nmsOf l↔t∈l∧t≠[]:=by
 constructor
 ·intro h;refine⟨(putAll_mem l h).resolve_left (by simp),fun e=>?_⟩;subst e;exact putAll_some l (o:=[]) (by simp) h
 ·intro h;exact (putAll_has l nil_sortedS).1 t h.1 h.2
theorem nmsOf_gSort (l:List Bs8):gSort (someL l)=nmsOf l:=by
 refine (gSort_eq (l':=nmsOf l) ?_ fun t=>?_).symm
 ·exact putAll_sorted l nil_sortedS
 ·rw[nmsOf_mem,someL,List.mem_filter];simp
theorem lsorted_spec {l:List Bs8} (hl:l.length≤100000) {a:Option Addr} {n c:Nat} {H:Hp} {K:Value→Hp→Prop} (ha:RL H a n c (ens l)) (hK:∀a1 n1 c1 H',Le H H'→RL H' a1 n1 c1 (ens (nmsOf l))→K (.slice a1 n1 c1) H'):
  Does Tryz.prog 106 [.slice a n c] H K:=by
 have hsm:=ens_small ha;have hle:(someL l).length≤l.length:=List.length_filter_le _ _;refine spec_of cx_ok cx_mix rfl Tryz.func106 Tryz.call106 Tryz.ntmps106 Tryz.results106 rfl rfl ?_;refine⟨[],rfl,picked_spec hl ha ?_⟩;refine⟨[0],rfl,sortS_spec (l:=someL l) (by omega) fun l' hl' hp hg=>?_⟩;refine⟨[0],rfl,compS_spec (l:=l') (by omega) ?_⟩;rw[hg,nmsOf_gSort];intro v H6 hle6 hv6;obtain⟨a7,n7,c7,rfl,hr7⟩:=RL.of_row (α:=Str) hv6 (rc_sRows fun s hs=>hsm s (nmsOf_mem.1 hs).1);exact hK _ _ _ _ hle6.le hr7
end Go.Proofs
end
section
namespace Go.Proofs
open Go.Sy
set_option maxRecDepth 20000
set_option maxHeartbeats 4000000
def useL (x:Stmt):List Bs8:=if x.1=1 then (atomsOf x.2.2).map (fun a=>a.1.l) else if x.1=3 then [x.2.2.2.1.1.l] else []
def usesS (x:Stmt):List Bs8:=nmsOf (useL x)
theorem atomsOf_lenU (x:Expr):(atomsOf x).length≤2:=by
 unfold atomsOf;split
 ·simp
 ·split<;>simp
theorem useL_len (x:Stmt):(useL x).length≤2:=by
 unfold useL;split
 ·rw[List.length_map];exact atomsOf_lenU _
 ·split<;>simp
theorem luses_spec {x:Stmt} (hx:stmtR x) {H:Hp} {K:Value→Hp→Prop} (hK:∀a1 n1 c1 H',Le H H'→RL H' a1 n1 c1 (ens (usesS x))→K (.slice a1 n1 c1) H'):
  Does Tryz.prog 68 [stmtA x] H K:=by
 have hsm:∀s∈useL x,s.length≤9223372036854775807:=fun s hs=>by
  unfold useL at hs;split at hs
  ·obtain⟨y,hy,rfl⟩:=List.mem_map.1 hs;exact (atomsOf_R hx.2.2 y hy).1
  ·split at hs
   ·rw[List.mem_singleton.1 hs];exact hx.2.2.2.1.1
   ·cases hs
 have hlen:=useL_len x;refine spec_of cx_ok cx_mix rfl Tryz.func68 Tryz.call68 Tryz.ntmps68 Tryz.results68 rfl rfl ?_;refine⟨fun h=>?_,fun h=>?_⟩
 ·have hk:x.1=1:=dt h;have hu:useL x=(atomsOf x.2.2).map (fun a=>a.1.l):=if_pos hk
  refine patoms_spec hx.2.2 fun a n c H1 hle1 hr1=>?_
  have hn1:=hr1.n_eq;have hal:=atomsOf_lenU x.2.2
  refine⟨Nat,fun i=>⟨[(3,.own 0),(12,.v (.slice a n c)),(13,.v (.int .i64 n)),(14,.v (.int .i64 i))],[(0,.row 9 1 (sRows ((useL x).take i)))],1⟩,
   fun i H'=>H'=H1∧i≤(atomsOf x.2.2).length,fun i=>(atomsOf x.2.2).length - i,⟨0,[],?_,rfl,Nat.zero_le _⟩,?_⟩
  ·(repeat' (first|exact trivial|refine⟨?_,?_⟩|exact rfl|assumption))
  rintro i H2 _ ⟨rfl,hi⟩
  have hrl:(sRows ((useL x).take i)).length≤2:=by rw[List.length_map,List.length_take];omega
  refine⟨fun h=>?_,fun h=>?_⟩
  ·have hlt:i<(atomsOf x.2.2).length:=by have:=dt h;omega
   have hui:(useL x)[i]?=some (atomsOf x.2.2)[i].1.l:=by rw[hu,List.getElem?_map,List.getElem?_eq_getElem hlt];rfl
   have e:sRows ((useL x).take i)++[[.string (bs (atomsOf x.2.2)[i].1.l)]]=sRows ((useL x).take (i+1)):=by
    rw[List.take_add_one,hui,Option.toList_some,←sRows_snoc]
   refine atom_k hr1 (List.getElem?_eq_getElem hlt) fun ad e1 hh _=>?_
   refine⟨ad,⟨by omega,by omega,e1⟩,?_⟩;refine⟨_,hh,?_⟩;refine⟨⟨by show (_+1)*16≤140737488355328;omega,by show _+1≤9223372036854775807;omega⟩,?_⟩;refine⟨⟨by omega,by omega⟩,i+1,[(0,3)],?_,⟨rfl,hlt⟩,by dsimp only;omega⟩
   (repeat' (first|exact trivial|refine⟨?_,?_⟩|exact rfl|assumption))
  ·have hil:i=(atomsOf x.2.2).length:=by have:=df h;omega
   have e:(useL x).take i=useL x:=List.take_of_length_le (by rw[hu,List.length_map];omega);rw[e];intro v H6 hle6 hv6;obtain⟨a7,n7,c7,rfl,hr7⟩:=RL.of_row (α:=Str) hv6 (rc_sRows hsm)
   refine lsorted_spec (l:=useL x) (by omega) hr7 fun a1 n1 c1 H7 hle7 hr=>?_
   exact hK _ _ _ _ ((hle1.trans hle6.le).trans hle7) hr
 ·have hk:¬x.1=1:=df h;refine⟨fun h=>?_,fun h=>?_⟩
  ·have hk3:x.1=3:=dt h
   have hu:useL x=[x.2.2.2.1.1.l]:=by rw[useL,if_neg hk,if_pos hk3]
   refine⟨⟨by show 1*16≤140737488355328;decide,by show 1≤9223372036854775807;decide⟩,?_⟩;intro v H6 hle6 hv6
   have hv7:RowAt H6 v 1 (sRows (useL x)):=by rw[hu];exact hv6
   obtain⟨a7,n7,c7,rfl,hr7⟩:=RL.of_row (α:=Str) hv7 (rc_sRows hsm)
   refine lsorted_spec (l:=useL x) (by omega) hr7 fun a1 n1 c1 H7 hle7 hr=>?_
   exact hK _ _ _ _ (hle6.le.trans hle7) hr
  ·have hk3:¬x.1=3:=df h
   have hu:useL x=[]:=by rw[useL,if_neg hk,if_neg hk3]
   refine lsorted_spec (l:=[]) (by decide) rl_nil fun a1 n1 c1 H7 hle7 hr=>?_
   rw[usesS,hu]at hK;exact hK _ _ _ _ hle7 hr
end Go.Proofs
end
section
namespace Go.Proofs
open Go.Sy
set_option maxRecDepth 20000
set_option maxHeartbeats 4000000
end Go.Proofs
end
section
namespace Go.Proofs
open Go.Sy
set_option maxRecDepth 20000
set_option maxHeartbeats 4000000
end Go.Proofs
end
section
namespace Go.Proofs
open Go.Sy
set_option maxRecDepth 20000
set_option maxHeartbeats 4000000
end Go.Proofs
end
section
namespace Go.Proofs
open Go.Sy
set_option maxRecDepth 20000
set_option maxHeartbeats 4000000
end Go.Proofs
end
section
namespace Go.Proofs
open Go.Sy
set_option maxRecDepth 20000
set_option maxHeartbeats 4000000
theorem le_stmts:∀ {p:Prog} {b:Block},b∈p→b.2.1.length≤stmtsN p
 | [],_,h=>by cases h
 | x::r,b,h=>by
  unfold stmtsN;rw[List.map_cons,List.sum_cons]
  rcases List.mem_cons.1 h with rfl | h
  ·omega
  ·have:=le_stmts h;unfold stmtsN at this;omega
end Go.Proofs
end
section
namespace Go.Proofs
open Go.Sy
set_option maxRecDepth 20000
set_option maxHeartbeats 4000000
theorem at_name {q:Prog} {t:Bs8} (h:t∈bnames q):∃b,(0≤bIdx q t∧bIdx q t=idxS t (nms q) 0)∧q[(bIdx q t).toNat]?=some b∧b.1.l=t:=by
 have h1:=idxS_at t (nms q) 0 (by omega) h
 have e:bIdx q t=idxS t (nms q) 0:=by unfold bIdx;omega
 have h2:(q.map fun b:Block=>b.1.l)[(idxS t (nms q) 0 - 0).toNat]?=some t:=h1.2.2;rw[List.getElem?_map,Int.sub_zero]at h2
 cases hb:q[(idxS t (nms q) 0).toNat]? with
 | none=>rw[hb]at h2;cases h2
 | some b =>
  rw[hb]at h2;exact⟨b,⟨by rw[e];exact h1.1,e⟩,by rw[e];exact hb,Option.some.inj h2⟩
theorem name_get {q:Prog} {i:Nat} {b:Block} (h:q[i]?=some b):(bnames q)[i]?=some b.1.l:=by
 show (q.map fun b:Block=>b.1.l)[i]?=_
 rw[List.getElem?_map,h];rfl
theorem name_inj {q:Prog} (hn:(bnames q).Nodup) {i j:Nat} {b b':Block} (h1:q[i]?=some b) (h2:q[j]?=some b') (h:b.1.l=b'.1.l):i=j:=by
 have e1:=name_get h1;have e2:=name_get h2;rw[h]at e1;obtain⟨l1,g1⟩:=List.getElem?_eq_some_iff.1 e1;obtain⟨l2,g2⟩:=List.getElem?_eq_some_iff.1 e2;exact (List.getElem_inj hn).1 (g1.trans g2.symm)
theorem name_mem {q:Prog} {b:Block} (h:b∈q):b.1.l∈bnames q:=List.mem_map.2 ⟨b,h,rfl⟩
theorem idx_of {q:Prog} (hn:(bnames q).Nodup) {i:Nat} {b:Block} (h:q[i]?=some b):bIdx q b.1.l=(i:Int):=by
 obtain⟨b',h1,h2,h3⟩:=at_name (name_mem (List.mem_of_getElem? h));have:=name_inj hn h2 h h3;omega
theorem goes_edge {q:Prog} {i:Nat} {b:Block} (hb:q[i]?=some b) {t:Bs8} (ht:t∈goes b.2.2) (hn:t∈bnames q):((i:Int),bIdx q t)∈edgesOf q:=by
 obtain⟨_,h1,_,_⟩:=at_name hn
 have hg:eN q i t=[((i:Int),bIdx q t)]:=by rw[eN,if_pos (by omega),h1.2]
 refine eAll_mem q 0 hb ?_;rw[Nat.zero_add,eB];unfold goes at ht;split at ht
 ·rename_i h1;rw[List.mem_singleton.1 ht]at hg;rw[if_pos (.inl h1),hg];rw[List.mem_singleton.1 ht];simp
 ·split at ht
  ·rename_i h1;rw[if_pos (.inr h1),if_pos h1];simp only[List.mem_cons,List.not_mem_nil,or_false]at ht
   rcases ht with e | e
   ·rw[e]at hg ⊢;rw[hg];simp
   ·rw[e]at hg ⊢;rw[hg];simp
  ·cases ht
theorem eAll_inv {p:Prog}:∀(l:List Block) (i:Nat) (e:Edg),e∈eAll p l i→∃j b,l[j]?=some b∧e∈eB p (i+j) b
 | [],_,e,h=>by cases h
 | b::r,i,e,h=>by
  rw[eAll,List.mem_append]at h
  rcases h with h | h
  ·exact⟨0,b,rfl,h⟩
  ·obtain⟨j,b',h1,h2⟩:=eAll_inv r (i+1) e h;exact⟨j+1,b',h1,by rw[show i+(j+1)=i+1+j by omega];exact h2⟩
theorem edge_inv {q:Prog} {e:Edg} (h:e∈edgesOf q):∃(i:Nat) (b:Block) (t:Bs8),q[i]?=some b∧e.1=(i:Int)∧t∈goes b.2.2∧t∈bnames q∧e.2=bIdx q t:=by
 obtain⟨j,b,h1,h2⟩:=eAll_inv q 0 e h;rw[Nat.zero_add]at h2
 have hN:∀t,e∈eN q j t→e.1=(j:Int)∧t∈bnames q∧e.2=bIdx q t:=fun t ht=>by
  unfold eN at ht;split at ht
  ·rename_i h0;rw[List.mem_singleton]at ht;have hm:t∈bnames q:=idxS_some (i:=0) (by omega) h0;rw[ht];exact⟨rfl,hm,by unfold bIdx;dsimp only;omega⟩
  ·cases ht
 unfold eB at h2
 rcases List.mem_append.1 h2 with h3 | h3
 ·split at h3
  ·rename_i h4;have:=hN _ h3;refine⟨j,b,_,h1,this.1,?_,this.2.1,this.2.2⟩;unfold goes
   rcases h4 with h4 | h4
   ·rw[if_pos h4];simp
   ·rw[if_neg (by omega),if_pos h4];simp
  ·cases h3
 ·split at h3
  ·rename_i h4;have:=hN _ h3;refine⟨j,b,_,h1,this.1,?_,this.2.1,this.2.2⟩;unfold goes
   rw[if_neg (by omega),if_pos h4];simp
  ·cases h3
structure Kept (p q:Prog):Prop where
 chk:checkE p=0
 src:∀b'∈q,∃b∈p,b'=endB b
 nd:(bnames q).Nodup
 head:∃b,p[0]?=some b∧q[0]?=some (endB b)
 closed:∀b'∈q,∀t∈goes b'.2.2,t∈bnames q
theorem keepP_mem {q:Prog} {R:List Int} {n:Nat} {b:Block}:b∈keepP q R n↔∃k,k<n∧(k:Int)∈R∧q[k]?=some b:=by
 rw[keepP,List.mem_filterMap];constructor
 ·rintro⟨k,h1,h2⟩;obtain⟨h3,h4⟩:=List.mem_filter.1 h1;exact⟨k,List.mem_range.1 h3,dt h4,h2⟩
 ·rintro⟨k,h1,h2,h3⟩;exact⟨k,List.mem_filter.2 ⟨List.mem_range.2 h1,decide_eq_true h2⟩,h3⟩
theorem range_all (q:Prog):(List.range q.length).filterMap (fun k=>q[k]?)=q:=by
 have h:∀(l:Prog),(List.range l.length).filterMap (fun k=>l[k]?)=l:=fun l=>by
  induction l with
  | nil=>rfl
  | cons b r ih =>
   rw[List.length_cons,List.range_succ_eq_map,List.filterMap_cons];simp only[List.getElem?_cons_zero,List.filterMap_map]
   congr 1
 exact h q
theorem keepP_sub (q:Prog) (R:List Int):(keepP q R q.length).Sublist q:=by
 have h:=List.Sublist.filterMap (fun k=>q[k]?) (List.filter_sublist (p:=fun (k:Nat)=>decide ((k:Int)∈R)) (l:=List.range q.length));rw[range_all]at h;exact h
theorem keepP_all {q:Prog} {R:List Int} (h:∀k,k<q.length→(k:Int)∈R):keepP q R q.length=q:=by
 rw[keepP,List.filter_eq_self.2 (fun k hk=>decide_eq_true (h k (List.mem_range.1 hk))),range_all]
theorem endT_goes (t:Term):∀u∈goes (endT t),u∈goes t:=by
 intro u hu;unfold endT at hu;split at hu
 ·rename_i h2
  have e:goes t=[t.2.2.1.l,t.2.2.2.l]:=by rw[goes,if_neg (by omega),if_pos h2]
  split at hu
  ·rw[goes,if_pos rfl]at hu
   rw[e,List.mem_singleton.1 hu];simp
  ·split at hu
   ·rw[goes,if_pos rfl]at hu
    rw[e,List.mem_singleton.1 hu];simp
   ·exact hu
 ·exact hu
theorem endT_idem (t:Term):endT (endT t)=endT t:=by
 by_cases h2:t.1=2
 ·by_cases h3:t.2.1.1.l=[]∧t.2.1.2=(0,0)
  ·have e:endT t=(1,za,t.2.2.2,⟨[]⟩):=by rw[endT,if_pos h2,if_pos h3]
   rw[e,endT,if_neg (show ¬(1:Int)=2 by decide)]
  ·by_cases h4:t.2.1.1.l=[]∨t.2.2.1.l=t.2.2.2.l
   ·have e:endT t=(1,za,t.2.2.1,⟨[]⟩):=by rw[endT,if_pos h2,if_neg h3,if_pos h4]
    rw[e,endT,if_neg (show ¬(1:Int)=2 by decide)]
   ·have e:endT t=t:=by rw[endT,if_pos h2,if_neg h3,if_neg h4]
    rw[e,e]
 ·have e:endT t=t:=by rw[endT,if_neg h2]
  rw[e,e]
theorem endsP_names (p:Prog):bnames (endsP p)=bnames p:=by
 show (p.map endB).map _=p.map _
 rw[List.map_map];rfl
theorem endsP_get {p:Prog} {i:Nat} {b:Block} (h:p[i]?=some b):(endsP p)[i]?=some (endB b):=by
 show (p.map endB)[i]?=_
 rw[List.getElem?_map,h];rfl
theorem check_goes0 {p:Prog} (h:checkE p=0) {b:Block} (hb:b∈p):∀t∈goes (endB b).2.2,t∈bnames p:=fun _ ht=>check_goes h hb (endT_goes _ _ ht)
theorem kept_prog {p:Prog} (h:checkE p=0) {R:List Int} (hR:IsReach (p.length:Nat) (gSort (edgesOf (endsP p))) [0] R):Kept p (keepP (endsP p) R p.length):=by
 have hl:(endsP p).length=p.length:=endsP_len p;have hf:=check_facts h
 have h0:(0:Int)∈R:=hR.from' 0 (by simp) (decide_eq_true (by omega))
 refine⟨h,?_,?_,?_,?_⟩
 ·intro b' hb';obtain⟨k,_,_,h3⟩:=keepP_mem.1 hb';obtain⟨b,hb,e⟩:=List.mem_map.1 (List.mem_of_getElem? h3);exact⟨b,hb,e.symm⟩
 ·have h1:=(keepP_sub (endsP p) R).map (fun b:Block=>b.1.l);rw[hl]at h1
  have h2:(bnames (endsP p)).Nodup:=by rw[endsP_names];exact check_nodup h
  exact List.Nodup.sublist h1 h2
 ·have hlt:0<p.length:=by omega
  refine⟨p[0],List.getElem?_eq_getElem hlt,?_⟩
  have e:p.length=(p.length - 1)+1:=by omega
  rw[keepP,e,List.range_succ_eq_map,List.filter_cons,if_pos (decide_eq_true (by exact h0)),List.filterMap_cons,endsP_get (List.getElem?_eq_getElem hlt)]
  rfl
 ·intro b' hb' t ht;obtain⟨k,h1,h2,h3⟩:=keepP_mem.1 hb';obtain⟨b,hb,e⟩:=List.mem_map.1 (List.mem_of_getElem? h3)
  have hn:t∈bnames (endsP p):=by rw[endsP_names];rw[←e]at ht;exact check_goes0 h hb t ht
  obtain⟨b2,h4,h5,h6⟩:=at_name hn;have hed:=goes_edge h3 ht hn;have hlt:=(List.getElem?_eq_some_iff.1 h5).1;rw[hl]at hlt;have hin:bIdx (endsP p) t∈R:=hR.closed _ h2 _ (nxt_mem.2 ⟨(gSort_mem _ _).2 hed,decide_eq_true (by omega),decide_eq_true (by omega)⟩);rw[←h6];refine name_mem (keepP_mem.2 ⟨(bIdx (endsP p) t).toNat,hlt,?_,h5⟩);rw[Int.toNat_of_nonneg h4.1];exact hin
theorem kept_vars {p q:Prog} (h:Kept p q):∀t∈varsOf q,t∈varsOf p:=by
 intro t ht
 have h0:t≠[]:=fun e=>by
  have:=vIdx_mem ht;rw[e]at this;have:=vIdx_nil q;omega
 rcases vars_mem q ht with h1 | ⟨b',hb',h1⟩
 ·cases h1
 ·obtain⟨b,hb,rfl⟩:=h.src b' hb';have hv:=(vars_has p nil_sorted).1 b hb
  rcases h1 with h1 | ⟨x,hx,h1⟩
  ·have e:(endT b.2.2).2.1.1.l=b.2.2.2.1.1.l∨(endT b.2.2).2.1.1.l=[]:=by
    unfold endT;split
    ·split
     ·exact .inr rfl
     ·split
      ·exact .inr rfl
      ·exact .inl rfl
    ·exact .inl rfl
   have h1:t=(endT b.2.2).2.1.1.l:=h1
   rcases e with e | e
   ·rw[h1,e]at h0 ⊢;exact hv.2 h0
   ·rw[h1,e]at h0;exact absurd rfl h0
  ·exact hv.1 x hx t h1 h0
end Go.Proofs
end
section
namespace Go.Proofs
open Go.Sy
set_option maxRecDepth 20000
set_option maxHeartbeats 4000000
theorem vars_iff {p:Prog} {t:Bs8}:t∈varsOf p↔t≠[]∧∃b∈p,t=b.2.2.2.1.1.l∨∃s∈b.2.1,t∈sVars s:=by
 constructor
 ·intro ht;refine⟨fun e=>?_,?_⟩
  ·have h1:=vIdx_mem ht;rw[e]at h1;have:=vIdx_nil p;omega
  ·rcases vars_mem p ht with h | h
   ·cases h
   ·exact h
 ·rintro⟨h0,b,hb,h⟩;have hv:=(vars_has p nil_sorted).1 b hb
  rcases h with h | ⟨s,hs,h⟩
  ·rw[h]at h0 ⊢;exact hv.2 h0
  ·exact hv.1 s hs t h h0
theorem check_mk {q:Prog} (h1:1≤q.length) (h2:q.length≤128) (h3:stmtsN q≤512) (h4:∀b∈q,blockB b=true) (h5:(varsOf q).length≤64) (h6:(bnames q).Nodup) (h7:∀b∈q,∀t∈goes b.2.2,t∈bnames q):checkE q=0:=by
 unfold checkE;rw[if_neg (by omega),if_pos (List.all_eq_true.2 h4),if_neg (by omega),if_pos h6,if_pos (List.all_eq_true.2 fun b hb=>List.all_eq_true.2 fun t ht=>decide_eq_true (h7 b hb t ht))]
structure Whole (q:Prog):Prop where
 chk:checkE q=0
 ends:endsP q=q
 all:∀S:Int→Prop,S 0→(∀e∈edgesOf q,S e.1→S e.2)→∀i:Nat,i<q.length→S (i:Int)
structure Pair (q:Prog) (a t:Nat) (x y:Block):Prop where
 hx:q[a]?=some x
 hy:q[t]?=some y
 k:x.2.2.1=1
 to:bIdx q x.2.2.2.2.1.l=(t:Int)
 pos:0<t
 ne:t≠a
 one:∀e∈edgesOf q,e.2=(t:Int)→e.1=(a:Int)
theorem firstP_tgt {q:Prog} {z:Nat×Nat}:∀ {i:Nat},firstP q i=some z→∃j,tgt q j=some z
 | 0,h=>by cases h
 | i+1,h=>by
  rw[firstP_succ]at h
  cases h1:firstP q i with
  | some x=>rw[h1]at h;cases h;exact firstP_tgt h1
  | none=>rw[h1]at h;exact⟨i,h⟩
theorem pair_of {q:Prog} {a t:Nat} (h:pairP q=some (a,t)):∃x y,Pair q a t x y:=by
 obtain⟨j,hj⟩:=firstP_tgt h;unfold tgt at hj;split at hj
 ·rename_i x hx;split at hj
  ·rename_i hok;simp only[okP,Bool.and_eq_true,decide_eq_true_eq,Bool.not_eq_true',decide_eq_false_iff_not]at hok;simp only[Option.some.injEq,Prod.mk.injEq]at hj;obtain⟨rfl,rfl⟩:=hj;obtain⟨⟨⟨hk,hpos⟩,hne⟩,hin⟩:=hok;have hr:=toI_range q x
   have hlt:(toI q x).toNat<q.length:=by omega
   have hto:bIdx q x.2.2.2.2.1.l=toI q x:=by unfold bIdx toI at *;omega
   have hmem:x.2.2.2.2.1.l∈bnames q:=idxS_some (i:=0) (by omega) (Int.le_of_lt hpos);refine⟨x,q[(toI q x).toNat],hx,List.getElem?_eq_getElem hlt,hk,by omega,by omega,by omega,fun e he he2=>?_⟩;have hed:=goes_edge hx (t:=x.2.2.2.2.1.l) (by rw[goes,if_pos hk];simp) hmem;rw[indeg,List.countP_eq_length_filter]at hin;obtain⟨z,hz⟩:=List.length_eq_one_iff.1 hin
   have m1:e∈(gSort (edgesOf q)).filter fun e=>decide (e.2=toI q x):=List.mem_filter.2 ⟨(gSort_mem _ _).2 he,decide_eq_true (by omega)⟩
   have m2:((j:Int),bIdx q x.2.2.2.2.1.l)∈(gSort (edgesOf q)).filter fun e=>decide (e.2=toI q x):=List.mem_filter.2 ⟨(gSort_mem _ _).2 hed,decide_eq_true hto⟩
   rw[hz,List.mem_singleton]at m1 m2;rw[m1,←m2]
  ·cases hj
 ·cases hj
def phi (t i:Nat):Nat:=if i<t then i else i - 1
theorem join_get {q:Prog} {a t:Nat} {x y:Block} (P:Pair q a t x y) {i:Nat} {b:Block} (hi:i≠t) (hb:q[i]?=some b):(joinP q a t)[phi t i]?=some (if i=a then catB x y else b):=by
 have hlt:=(List.getElem?_eq_some_iff.1 P.hx).1;rw[joinP_eq P.hx P.hy,List.getElem?_eraseIdx]
 have e:(if phi t i<t then (q.set a (catB x y))[phi t i]? else (q.set a (catB x y))[phi t i+1]?)=(q.set a (catB x y))[i]?:=by
  unfold phi
  by_cases h:i<t
  ·rw[if_pos h,if_pos h]
  ·rw[if_neg h,if_neg (by omega),show i - 1+1=i by omega]
 rw[e,List.getElem?_set]
 by_cases h:a=i
 ·rw[if_pos h,if_pos (by omega),if_pos h.symm]
 ·rw[if_neg h,if_neg (fun h2=>h h2.symm),hb]
theorem join_inv {q:Prog} {a t:Nat} {x y:Block} (P:Pair q a t x y) {j:Nat} {b':Block} (hj:(joinP q a t)[j]?=some b'):∃i b,i≠t∧j=phi t i∧q[i]?=some b∧b'=if i=a then catB x y else b:=by
 have hlen:=joinP_len (List.getElem?_eq_some_iff.1 P.hy).1 (List.getElem?_eq_some_iff.1 P.hx).1;have hjl:=(List.getElem?_eq_some_iff.1 hj).1
 have key:∀i,i≠t→j=phi t i→i<q.length→∃i b,i≠t∧j=phi t i∧q[i]?=some b∧b'=if i=a then catB x y else b:=fun i h1 h2 h3=>by
  have h4:=join_get P h1 (List.getElem?_eq_getElem h3);rw[←h2,hj]at h4;exact⟨i,q[i],h1,h2,List.getElem?_eq_getElem h3,Option.some.inj h4⟩
 by_cases h:j<t
 ·exact key j (by omega) (by rw[phi,if_pos h]) (by omega)
 ·exact key (j+1) (by omega) (by rw[phi,if_neg (by omega)];omega) (by omega)
theorem join_sub {q:Prog} {a t:Nat} {x y:Block} (P:Pair q a t x y):(bnames (joinP q a t)).Sublist (bnames q):=by
 have e:(q.set a (catB x y)).map (fun b:Block=>b.1.l)=q.map fun b:Block=>b.1.l:=by
  apply List.ext_getElem?;intro i;rw[List.getElem?_map,List.getElem?_map,List.getElem?_set]
  by_cases h:a=i
  ·have hlt:=(List.getElem?_eq_some_iff.1 P.hx).1
   rw[if_pos h,if_pos (by omega),←h,P.hx];rfl
  ·rw[if_neg h]
 show ((joinP q a t).map _).Sublist _;rw[joinP_eq P.hx P.hy];have h:=(List.eraseIdx_sublist (q.set a (catB x y)) t).map (fun b:Block=>b.1.l);rw[e]at h;exact h
theorem join_nd {q:Prog} (hc:checkE q=0) {a t:Nat} {x y:Block} (P:Pair q a t x y):(bnames (joinP q a t)).Nodup:=List.Nodup.sublist (join_sub P) (check_nodup hc)
theorem join_idx {q:Prog} (hc:checkE q=0) {a t:Nat} {x y:Block} (P:Pair q a t x y) {u:Bs8} (hu:u∈bnames q) (hne:bIdx q u≠(t:Int)):
  ∃j:Nat,j≠t∧j<q.length∧bIdx q u=(j:Int)∧bIdx (joinP q a t) u=((phi t j:Nat):Int)∧u∈bnames (joinP q a t):=by
 obtain⟨b,h1,h2,h3⟩:=at_name hu
 have hj:(bIdx q u).toNat≠t:=by omega
 have h4:=join_get P hj h2
 have hn:(if (bIdx q u).toNat=a then catB x y else b).1.l=u:=by
  split
  ·rename_i h5;rw[h5,P.hx]at h2
   rw[←h3,←Option.some.inj h2];rfl
  ·exact h3
 have h5:=idx_of (join_nd hc P) h4;rw[hn]at h5;refine⟨(bIdx q u).toNat,hj,(List.getElem?_eq_some_iff.1 h2).1,by omega,h5,?_⟩;rw[←hn];exact name_mem (List.mem_of_getElem? h4)
theorem pair_term {q:Prog} (hc:checkE q=0) {a t:Nat} {x y:Block} (P:Pair q a t x y):x.2.2.2.1.1.l=[]:=by
 have hB:=(check_facts hc).2.2.2 x (List.mem_of_getElem? P.hx);rw[blockB,Bool.and_eq_true,Bool.and_eq_true]at hB;have hT:=hB.1.2;unfold termB at hT;rw[if_pos P.k]at hT;simp only[Bool.and_eq_true,decide_eq_true_eq]at hT
 rw[hT.2.2];rfl
abbrev loB:LO Bs8 where
 lt a b:=a<b
 dec a b:=inferInstanceAs (Decidable (a<b))
 deq:=inferInstance
 irrefl:=slt_irrefl
 trans:=slt_trans
 tri:=slt_tri
theorem sorted_ext {l m:List Bs8} (hl:SortedS l) (hm:SortedS m) (h:∀x,x∈l↔x∈m):l=m:=@strict_ext Bs8 loB l m hl hm h
theorem join_vars {q:Prog} (hc:checkE q=0) {a t:Nat} {x y:Block} (P:Pair q a t x y):varsOf (joinP q a t)=varsOf q:=by
 refine sorted_ext (vars_sorted _ nil_sorted) (vars_sorted _ nil_sorted) fun u=>?_
 have hcat:(joinP q a t)[phi t a]?=some (catB x y):=by
  have:=join_get P P.ne.symm P.hx;rwa[if_pos rfl]at this
 have hcm:=List.mem_of_getElem? hcat
 constructor
 ·intro h;obtain⟨h0,b',hb',h⟩:=vars_iff.1 h;obtain⟨j,hj⟩:=List.getElem?_of_mem hb';obtain⟨i,b,h1,h2,h3,h4⟩:=join_inv P hj;refine vars_iff.2 ⟨h0,?_⟩;split at h4
  ·rw[h4]at h
   rcases h with h | ⟨s,hs,h⟩
   ·exact⟨y,List.mem_of_getElem? P.hy,.inl h⟩
   ·rcases List.mem_append.1 hs with hs | hs
    ·exact⟨x,List.mem_of_getElem? P.hx,.inr ⟨s,hs,h⟩⟩
    ·exact⟨y,List.mem_of_getElem? P.hy,.inr ⟨s,hs,h⟩⟩
  ·rw[h4]at h;exact⟨b,List.mem_of_getElem? h3,h⟩
 ·intro h;obtain⟨h0,b,hb,h⟩:=vars_iff.1 h;obtain⟨i,hi⟩:=List.getElem?_of_mem hb;refine vars_iff.2 ⟨h0,?_⟩
  by_cases e1:i=t
  ·rw[e1,P.hy]at hi;have e:=Option.some.inj hi;rw[←e]at h
   rcases h with h | ⟨s,hs,h⟩
   ·exact⟨_,hcm,.inl h⟩
   ·exact⟨_,hcm,.inr ⟨s,List.mem_append.2 (.inr hs),h⟩⟩
  ·by_cases e2:i=a
   ·rw[e2,P.hx]at hi;have e:=Option.some.inj hi;rw[←e]at h
    rcases h with h | ⟨s,hs,h⟩
    ·rw[pair_term hc P]at h;exact absurd h h0
    ·exact⟨_,hcm,.inr ⟨s,List.mem_append.2 (.inl hs),h⟩⟩
   ·have h2:=join_get P e1 hi;rw[if_neg e2]at h2;exact⟨b,List.mem_of_getElem? h2,h⟩
theorem join_goes {q:Prog} (hc:checkE q=0) {a t:Nat} {x y:Block} (P:Pair q a t x y) {i:Nat} {b:Block} (hb:q[i]?=some b) (hi:i≠a) {u:Bs8} (hu:u∈goes b.2.2):
  ∃j:Nat,j≠t∧j<q.length∧bIdx q u=(j:Int)∧bIdx (joinP q a t) u=((phi t j:Nat):Int)∧u∈bnames (joinP q a t):=by
 have hn:=check_goes hc (List.mem_of_getElem? hb) hu
 refine join_idx hc P hn fun e=>?_
 have:=P.one _ (goes_edge hb hu hn) e;dsimp only at this;omega
theorem join_check {q:Prog} (hc:checkE q=0) {a t:Nat} {x y:Block} (P:Pair q a t x y):checkE (joinP q a t)=0:=by
 have hf:=check_facts hc;have lx:=(List.getElem?_eq_some_iff.1 P.hx).1;have ly:=(List.getElem?_eq_some_iff.1 P.hy).1;have hne:=P.ne;have hlen:=joinP_len ly lx;refine check_mk (by omega) (by omega) ?_ ?_ ?_ (join_nd hc P) ?_
 ·rw[joinP_stmts P.ne ly lx];exact stmts_512' hc
 ·intro b' hb';obtain⟨j,hj⟩:=List.getElem?_of_mem hb';obtain⟨i,b,h1,h2,h3,h4⟩:=join_inv P hj;split at h4
  ·have hX:=hf.2.2.2 x (List.mem_of_getElem? P.hx);have hY:=hf.2.2.2 y (List.mem_of_getElem? P.hy);rw[blockB,Bool.and_eq_true,Bool.and_eq_true]at hX hY;rw[h4,blockB,Bool.and_eq_true,Bool.and_eq_true];refine⟨⟨hX.1.1,hY.1.2⟩,?_⟩;show (x.2.1++y.2.1).all stmtB=true
   rw[List.all_append,hX.2,hY.2];rfl
  ·rw[h4];exact hf.2.2.2 b (List.mem_of_getElem? h3)
 ·rw[join_vars hc P];exact hf.2.2.1
 ·intro b' hb' u hu;obtain⟨j,hj⟩:=List.getElem?_of_mem hb';obtain⟨i,b,h1,h2,h3,h4⟩:=join_inv P hj;split at h4
  ·rw[h4]at hu;obtain⟨_,_,_,_,_,h5⟩:=join_goes hc P P.hy hne hu;exact h5
  ·rename_i h6;rw[h4]at hu;obtain⟨_,_,_,_,_,h5⟩:=join_goes hc P h3 h6 hu;exact h5
theorem join_whole {q:Prog} (hw:Whole q) {a t:Nat} {x y:Block} (P:Pair q a t x y):Whole (joinP q a t):=by
 have hc:=hw.chk;have lx:=(List.getElem?_eq_some_iff.1 P.hx).1;have ly:=(List.getElem?_eq_some_iff.1 P.hy).1;have hlen:=joinP_len ly lx
 have hcat:(joinP q a t)[phi t a]?=some (catB x y):=by
  have:=join_get P P.ne.symm P.hx;rwa[if_pos rfl]at this
 have hE:∀b∈q,endT b.2.2=b.2.2:=fun b hb=>by
  obtain⟨i,hi⟩:=List.getElem?_of_mem hb;have h1:=endsP_get hi;rw[hw.ends,hi]at h1;have h2:=Option.some.inj h1;show (endB b).2.2=_;rw[←h2]
 refine⟨join_check hc P,?_,?_⟩
 ·show (joinP q a t).map endB=_;refine (List.map_congr_left fun b' hb'=>?_).trans (List.map_id _);obtain⟨j,hj⟩:=List.getElem?_of_mem hb';obtain⟨i,b,h1,h2,h3,h4⟩:=join_inv P hj
  have e:endT b'.2.2=b'.2.2:=by
   split at h4
   ·rw[h4];exact hE y (List.mem_of_getElem? P.hy)
   ·rw[h4];exact hE b (List.mem_of_getElem? h3)
  show (b'.1,b'.2.1,endT b'.2.2)=b';rw[e]
 ·intro S h0 hS j hj;have hpos:=P.pos
  have key:=hw.all (fun i=>S (if i=(t:Int) then ((phi t a:Nat):Int) else ((phi t i.toNat:Nat):Int))) (by
   rw[if_neg (by omega),show phi t (0:Int).toNat=0 by unfold phi;rw[if_pos (by exact hpos)];rfl]
   exact h0) (fun e he hs=>by
   obtain⟨i,b,u,h1,h2,h3,h4,h5⟩:=edge_inv he
   by_cases e1:i=a
   ·have e2:=e1▸h1;rw[P.hx]at e2;have e2:=Option.some.inj e2;rw[←e2,goes,if_pos P.k,List.mem_singleton]at h3;rw[h5,h3,P.to,if_pos rfl];rw[h2,if_neg (by have:=P.ne;omega),e1,Int.toNat_natCast]at hs;exact hs
   ·obtain⟨j,g1,g2,g3,g4,g5⟩:=join_goes hc P h1 e1 h3;rw[h5,g3,if_neg (by omega),Int.toNat_natCast]
    by_cases e3:i=t
    ·rw[h2,if_pos (by omega)]at hs;have e4:=e3▸h1;rw[P.hy]at e4;have e4:=Option.some.inj e4;rw[←e4]at h3;have:=hS _ (goes_edge hcat (t:=u) h3 g5) hs
     try dsimp only at this
     rw[g4]at this;exact this
    ·rw[h2,if_neg (by omega),Int.toNat_natCast]at hs;have h6:=join_get P e3 h1;rw[if_neg e1]at h6;have:=hS _ (goes_edge h6 (t:=u) h3 g5) hs
     try dsimp only at this
     rw[g4]at this
     exact this)
  by_cases h:j<t
  ·have:=key j (by omega)
   try dsimp only at this
   rw[if_neg (by omega),Int.toNat_natCast,phi,if_pos h]at this;exact this
  ·have:=key (j+1) (by omega)
   try dsimp only at this
   rw[if_neg (by omega),Int.toNat_natCast,phi,if_neg (by omega),Nat.add_sub_cancel]at this;exact this
inductive Ends (p:Prog) (inn:List Nm):StE→Nat→List Nm→Prop
 | stop {s:StE} (h:(folS p (runB p inn s)).2=false):Ends p inn s 1 (folS p (runB p inn s)).1.2.2.2
 | step {s:StE} {k:Nat} {o:List Nm} (h:(folS p (runB p inn s)).2=true) (hr:Ends p inn (folS p (runB p inn s)).1 k o):Ends p inn s (k+1) o
theorem endB_check {b:Block} (h:blockB b=true):blockB (endB b)=true:=by
 rw[blockB,Bool.and_eq_true,Bool.and_eq_true]at h ⊢;refine⟨⟨h.1.1,?_⟩,h.2⟩;have hT:=h.1.2;show termB (endT b.2.2)=true;unfold endT;split
 ·rename_i h2;unfold termB at hT;rw[if_neg (by omega),if_pos h2,Bool.and_eq_true,Bool.and_eq_true]at hT;split
  ·rw[termB,if_pos rfl]
   rw[hT.1.2];rfl
  ·split
   ·rw[termB,if_pos rfl]
    rw[hT.1.1];rfl
   ·rw[termB,if_neg (by omega),if_pos h2,hT.1.1,hT.1.2,hT.2];rfl
 ·exact hT
theorem sub_sum (f:Block→Nat) {l m:Prog} (h:l.Sublist m):(l.map f).sum≤(m.map f).sum:=by
 induction h with
 | slnil=>exact Nat.le_refl _
 | cons a _ ih=>rw[List.map_cons,List.sum_cons];omega
 | cons_cons a _ ih=>rw[List.map_cons,List.map_cons,List.sum_cons,List.sum_cons];omega
theorem kept_whole {p:Prog} (h:checkE p=0) {R:List Int} (hR:IsReach (p.length:Nat) (gSort (edgesOf (endsP p))) [0] R):Whole (keepP (endsP p) R p.length):=by
 have hK:=kept_prog h hR;have hl:(endsP p).length=p.length:=endsP_len p;have hf:=check_facts h;have hsub:=keepP_sub (endsP p) R;rw[hl]at hsub;obtain⟨b0,_,hb0⟩:=hK.head;have hl0:=(List.getElem?_eq_some_iff.1 hb0).1;have hll:=hsub.length_le
 have hnE:(bnames (endsP p)).Nodup:=by rw[endsP_names];exact check_nodup h
 refine⟨check_mk (by omega) (by omega) ?_ ?_ ?_ hK.nd hK.closed,?_,?_⟩
 ·have h1:=sub_sum (fun b=>b.2.1.length) hsub;have h2:stmtsN (endsP p)=stmtsN p:=endsP_stmts p;have h3:=stmts_512' h;unfold stmtsN at h2 h3 ⊢;omega
 ·intro b' hb';obtain⟨b,hb,rfl⟩:=hK.src b' hb';exact endB_check (hf.2.2.2 b hb)
 ·exact Nat.le_trans (List.Nodup.length_le_of_subset (vars_nodup _) (fun t ht=>kept_vars hK t ht)) hf.2.2.1
 ·show (keepP (endsP p) R p.length).map endB=_;refine (List.map_congr_left fun b' hb'=>?_).trans (List.map_id _);obtain⟨b,hb,rfl⟩:=hK.src b' hb'
  show (b.1,b.2.1,endT (endT b.2.2))=(b.1,b.2.1,endT b.2.2)
  rw[endT_idem]
 ·intro S h0 hS j hj
  have key:=hR.least (fun i=>∃(b:Block) (j:Nat),(endsP p)[i.toNat]?=some b∧(keepP (endsP p) R p.length)[j]?=some b∧S (j:Int)) (fun x hx _=>by
    rw[List.mem_singleton]at hx;obtain⟨b,g1,g2⟩:=hK.head;subst hx
    exact⟨endB b,0,endsP_get g1,g2,h0⟩) (fun x hx z hz=>by
    obtain⟨b,j,g1,g2,g3⟩:=hx;obtain⟨g4,g5,g6⟩:=nxt_mem.1 hz;obtain⟨i,b2,u,k1,k2,k3,k4,k5⟩:=edge_inv ((gSort_mem _ _).1 g4);dsimp only at k2 k5;rw[k2,Int.toNat_natCast,k1]at g1;have e:=Option.some.inj g1;subst e;have hu:=hK.closed _ (List.mem_of_getElem? g2) u k3;have hS2:=hS _ (goes_edge g2 k3 hu) g3;dsimp only at hS2;obtain⟨b3,m1,m2,m3⟩:=at_name hu;obtain⟨b4,n1,n2,n3⟩:=at_name k4;obtain⟨k',_,_,o3⟩:=keepP_mem.1 (List.mem_of_getElem? m2);have e2:=name_inj hnE n2 o3 (n3.trans m3.symm);refine⟨b3,(bIdx (keepP (endsP p) R p.length) u).toNat,?_,m2,?_⟩
    ·rw[k5,e2];exact o3
    ·rw[Int.toNat_of_nonneg m1.1];exact hS2)
  have hjb:=List.getElem?_eq_getElem hj;generalize (keepP (endsP p) R p.length)[j]=b at hjb;obtain⟨k,_,h2,h3⟩:=keepP_mem.1 (List.mem_of_getElem? hjb);obtain⟨b2,j2,g1,g2,g3⟩:=key _ h2;rw[Int.toNat_natCast,h3]at g1;have e:=Option.some.inj g1;subst e;have:=name_inj hK.nd g2 hjb rfl;subst this;exact g3
end Go.Proofs
end
section
namespace Go.Proofs
open Go.Sy
set_option maxRecDepth 20000
set_option maxHeartbeats 4000000
end Go.Proofs
end
section
namespace Go.Proofs
open Go.Sy
set_option maxRecDepth 20000
set_option maxHeartbeats 4000000
end Go.Proofs
end
section
namespace Go.Proofs
open Go.Sy
set_option maxRecDepth 20000
set_option maxHeartbeats 4000000
end Go.Proofs
end
section
namespace Go.Proofs
open Go.Sy
set_option maxRecDepth 20000
set_option maxHeartbeats 4000000
end Go.Proofs
end
section
namespace Go.Proofs
open Go.Sy
set_option maxRecDepth 20000
theorem str_vc (b c:Str):decide (sl (bs b.l)=sl (bs c.l))=decide (b=c):=by
 obtain⟨b⟩:=b;obtain⟨c⟩:=c;rw[decide_eq_decide,sl_bs,sl_bs];exact⟨fun h=>by cases h;rfl,fun h=>by cases h;rfl⟩
theorem neS_vc (s t:Stmt):(!(decide (s.1=t.1)&&(decide (sl (bs s.2.1.l)=sl (bs t.2.1.l))&&(decide (s.2.2.1=t.2.2.1)&&(decide (sl (bs s.2.2.2.1.1.l)=sl (bs t.2.2.2.1.1.l))&&(decide (s.2.2.2.1.2.1=t.2.2.2.1.2.1)&&(decide (s.2.2.2.1.2.2=t.2.2.2.1.2.2)&&true)&&true)&&(decide (sl (bs s.2.2.2.2.1.l)=sl (bs t.2.2.2.2.1.l))&&(decide (s.2.2.2.2.2.1=t.2.2.2.2.2.1)&&(decide (s.2.2.2.2.2.2=t.2.2.2.2.2.2)&&true)&&true)&&true))&&true))))=decide (s≠t):=by
 rw[str_vc,str_vc,str_vc];obtain⟨a,b,c,⟨d,e,f⟩,g,h,i⟩:=s;obtain⟨a',b',c',⟨d',e',f'⟩,g',h',i'⟩:=t;rw[Bool.eq_iff_iff];simp [and_assoc,or_assoc]
end Go.Proofs
end
section
namespace Go.Proofs
open Go.Sy
set_option maxRecDepth 20000
set_option maxHeartbeats 4000000
def neS (x y:Stmt):Bool:=decide (x≠y)
end Go.Proofs
end
section
namespace Go.Proofs
open Go.Sy
set_option maxRecDepth 20000
set_option maxHeartbeats 400000
theorem eqStm_spec {x y:List Stmt} {a a2:Option Addr} {n c n2 k2:Nat} {H:Hp} {K:Value→Hp→Prop} (ha:RL H a n c x) (hb:RL H a2 n2 k2 y) (hK:K (.bool (decide (x=y))) H):Does Tryz.prog 63 [.slice a n c,.slice a2 n2 k2] H K:=by
 have hn:=ha.n_eq;have hn2:=hb.n_eq;have hmx:=ha.le;refine spec_of cx_ok cx_mix rfl Tryz.func63 Tryz.call63 Tryz.ntmps63 Tryz.results63 rfl rfl ?_;refine⟨fun h=>?_,fun h=>?_⟩
 ·have h1:¬n=n2:=by have:=nt h;omega
  exact kbool hK (decide_eq_false (fun e=>h1 (by rw[hn,hn2,e])))
 ·have h1:n=n2:=by have:=nf h;omega
  refine⟨Nat,fun i=>⟨[(0,.v (.slice a n c)),(1,.v (.slice a2 n2 k2)),(11,.v (.slice a n c)),(12,.v (.int .i64 n)),(13,.v (.int .i64 i))],[],0⟩,
   fun i H'=>H'=H∧i≤x.length∧∀j<i,x[j]?=y[j]?,fun i=>x.length - i,⟨0,[],?_,rfl,Nat.zero_le _,fun j hj=>(by cases hj)⟩,?_⟩
  ·(repeat' (first|exact trivial|refine⟨?_,?_⟩|exact rfl|assumption))
  rintro i H1 _ ⟨rfl,hi,hx⟩;refine⟨fun h=>?_,fun h=>?_⟩
  ·have hlt:i<x.length:=by have:=dt h;omega
   have hlt2:i<y.length:=by omega
   have ex:=List.getElem?_eq_getElem hlt;have ey:=List.getElem?_eq_getElem hlt2
   refine stmt_k ha ex fun ad q1 hh _=>?_
   refine stmt_k hb ey fun ad2 q2 hh2 _=>?_
   refine⟨some ([],[0,1,2,3,4,5,6,7,8]),by kernel_rfl,?_⟩;refine⟨ad,⟨by omega,by omega,q1⟩,?_⟩;refine⟨_,hh,?_⟩;refine⟨ad2,⟨by omega,by omega,q2⟩,?_⟩;refine⟨_,hh2,?_⟩;refine⟨fun h=>?_,fun h=>?_⟩
   ·have h1:neS x[i] y[i]=true:=(neS_vc _ _).symm.trans h;have hne:¬x[i]=y[i]:=dt h1;exact kbool hK (decide_eq_false (fun e=>hne (by subst e;rfl)))
   ·have h1:neS x[i] y[i]=false:=(neS_vc _ _).symm.trans h
    have heq:x[i]=y[i]:=by
     have:=df h1;exact Classical.not_not.1 this
    refine⟨⟨by omega,by omega⟩,i+1,[],?_,⟨rfl,hlt,fun j hj=>?_⟩,by dsimp only;omega⟩
    ·(repeat' (first|exact trivial|refine⟨?_,?_⟩|exact rfl|assumption))
    ·rcases Nat.lt_succ_iff_lt_or_eq.1 hj with h | h
     ·exact hx j h
     ·rw[h,ex,ey,heq]
  ·have hil:i=x.length:=by have:=df h;omega
   exact kbool hK (decide_eq_true (list_eq_take (by omega) (fun j hj=>hx j (by omega))))
theorem eqT_vc (s t:Term):(decide (s.1=t.1)&&(decide (sl (bs s.2.1.1.l)=sl (bs t.2.1.1.l))&&(decide (s.2.1.2.1=t.2.1.2.1)&&(decide (s.2.1.2.2=t.2.1.2.2)&&true)&&true)&&(decide (sl (bs s.2.2.1.l)=sl (bs t.2.2.1.l))&&(decide (sl (bs s.2.2.2.l)=sl (bs t.2.2.2.l))&&true))))=decide (s=t):=by
 rw[str_vc,str_vc,str_vc];obtain⟨a,⟨d,e,f⟩,g,h⟩:=s;obtain⟨a',⟨d',e',f'⟩,g',h'⟩:=t;rw[Bool.eq_iff_iff];simp [and_assoc]
abbrev blkZ (v:Value) (b:Block):List Value:=[.string (bs b.1.l),v,.int .i64 b.2.2.1,.string (bs b.2.2.2.1.1.l),.int .i64 b.2.2.2.1.2.1,.int .i64 b.2.2.2.1.2.2,.string (bs b.2.2.2.2.1.l),.string (bs b.2.2.2.2.2.l)]
theorem same1_spec {x y:Block} {a a2:Option Addr} {n c n2 k2:Nat} {H:Hp} {K:Value→Hp→Prop} (ha:RL H a n c x.2.1) (hb:RL H a2 n2 k2 y.2.1) (hK:K (.bool (decide (x=y))) H):Does Tryz.prog 62 [.agg (blkZ (.slice a n c) x).toArray,.agg (blkZ (.slice a2 n2 k2) y).toArray] H K:=by
 have hF:¬x=y→K (.bool false) H:=fun h=>by rw[decide_eq_false h]at hK;exact hK
 refine spec_of cx_ok cx_mix rfl Tryz.func62 Tryz.call62 Tryz.ntmps62 Tryz.results62 rfl rfl ?_;refine⟨fun h=>?_,fun h=>?_⟩
 ·have h1:x.1=y.1:=by
   have:=(str_vc x.1 y.1).symm.trans h;exact dt this
  refine⟨fun h=>?_,fun h=>?_⟩
  ·have h2:x.2.2=y.2.2:=dt ((eqT_vc x.2.2 y.2.2).symm.trans h);refine eqStm_spec ha hb ?_
   have e:decide (x=y)=decide (x.2.1=y.2.1):=by
    rw[decide_eq_decide];exact⟨fun e=>by rw[e],fun e=>Prod.ext h1 (Prod.ext e h2)⟩
   rw[e]at hK;exact hK
  ·have h2:¬x.2.2=y.2.2:=df ((eqT_vc x.2.2 y.2.2).symm.trans h)
   exact hF fun e=>h2 (by rw[e])
 ·have h1:¬x.1=y.1:=by
   have:=(str_vc x.1 y.1).symm.trans h;exact df this
  exact hF fun e=>h1 (by rw[e])
theorem equalB_spec {A B:Prog} {a a2:Option Addr} {n c n2 k2:Nat} {H:Hp} {K:SV→St→Hp→Prop} (ha:RL H a n c A) (hb:RL H a2 n2 k2 B) (hK:K (.v (.bool (decide (A=B)))) ⟨[],[],0⟩ H):
  DoesG Tryz.prog 61 [.v (.slice a n c),.v (.slice a2 n2 k2),.fn 62 []] [] 0 H K:=by
 have hn:=ha.n_eq;have hn2:=hb.n_eq;have hmx:=ha.le
 have hF:¬A=B→K (.v (.bool false)) ⟨[],[],0⟩ H:=fun h=>by rw[decide_eq_false h]at hK;exact hK
 refine spec_ofG cx_ok cx_mix Tryz.func61 Tryz.call61 Tryz.ntmps61 Tryz.results61 rfl rfl ?_;refine⟨fun h=>?_,fun h=>?_⟩
 ·have h1:¬n=n2:=by have:=nt h;omega
  exact⟨.v (.bool false),[],0,[],by (repeat' (first|exact trivial|refine⟨?_,?_⟩|exact rfl|assumption)),hF (fun e=>h1 (by rw[hn,hn2,e]))⟩
 ·have h1:n=n2:=by have:=nf h;omega
  refine⟨Nat,fun i=>⟨[(1,.v (.slice a2 n2 k2)),(2,.fn 62 []),(15,.v (.slice a n c)),(16,.v (.int .i64 n)),(17,.v (.int .i64 i))],[],0⟩,
   fun i H'=>H'=H∧i≤A.length∧∀j<i,A[j]?=B[j]?,fun i=>A.length - i,⟨0,[],?_,rfl,Nat.zero_le _,fun j hj=>(by cases hj)⟩,?_⟩
  ·(repeat' (first|exact trivial|refine⟨?_,?_⟩|exact rfl|assumption))
  rintro i H1 _ ⟨rfl,hi,hx⟩;refine⟨fun h=>?_,fun h=>?_⟩
  ·have hlt:i<A.length:=by have:=dt h;omega
   have hlt2:i<B.length:=by omega
   have ex:=List.getElem?_eq_getElem hlt;have ey:=List.getElem?_eq_getElem hlt2
   refine block_k ha ex fun ad a5 n5 c5 q1 hh hr1 _ _=>?_
   refine block_k hb ey fun ad2 a6 n6 c6 q2 hh2 hr2 _ _=>?_
   refine⟨ad,⟨by omega,by omega,q1⟩,?_⟩;refine⟨_,hh,?_⟩;refine⟨ad2,⟨by omega,by omega,q2⟩,?_⟩;refine⟨_,hh2,?_⟩;refine same1_spec hr1 hr2 ?_;refine⟨fun h=>?_,fun h=>?_⟩
   ·have hne:¬A[i]=B[i]:=nt h;exact⟨.v (.bool false),[],0,[],by (repeat' (first|exact trivial|refine⟨?_,?_⟩|exact rfl|assumption)),hF (fun e=>hne (by subst e;rfl))⟩
   ·have heq:A[i]=B[i]:=nf h;refine⟨⟨by omega,by omega⟩,i+1,[],?_,⟨rfl,hlt,fun j hj=>?_⟩,by dsimp only;omega⟩
    ·(repeat' (first|exact trivial|refine⟨?_,?_⟩|exact rfl|assumption))
    ·rcases Nat.lt_succ_iff_lt_or_eq.1 hj with h | h
     ·exact hx j h
     ·rw[h,ex,ey,heq]
  ·have hil:i=A.length:=by have:=df h;omega
   rw[decide_eq_true (list_eq_take (by omega) (fun j hj=>hx j (by omega)))]at hK;exact⟨.v (.bool true),[],0,[],by (repeat' (first|exact trivial|refine⟨?_,?_⟩|exact rfl|assumption)),hK⟩
theorem psame4_spec {A B:Prog} {a a2:Option Addr} {n c n2 k2:Nat} {H:Hp} {K:Value→Hp→Prop} (ha:RL H a n c A) (hb:RL H a2 n2 k2 B) (hK:K (.bool (decide (A=B))) H):Does Tryz.prog 32 [.agg #[.slice a n c],.agg #[.slice a2 n2 k2]] H K:=by
 refine spec_of cx_ok cx_mix rfl Tryz.func32 Tryz.call32 Tryz.ntmps32 Tryz.results32 rfl rfl ?_;refine⟨[],rfl,equalB_spec ha hb ?_⟩;exact hK
end Go.Proofs
end
