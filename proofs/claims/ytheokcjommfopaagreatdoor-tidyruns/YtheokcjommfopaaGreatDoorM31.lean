/- Part 'M31' of the proof (Px0, Rn0, Px1, Fr0, Fr1, Fr2, Fr3, Fr4, Fr5, Lv0, Lv1, Lv2, Ex1, Ex2, Ex3, Ex4, Pn1, Pn2, Ex5, Pr10, Fr6, Pn3, Fo5b, Fo6, Sw5): lemmas, each with its own conditions in its own statement. -/
import Derived.Test.YtheokcjommfopaaGreatDoorM22
import Derived.Test.YtheokcjommfopaaGreatDoorM24
import Derived.Test.YtheokcjommfopaaGreatDoorM29
import Derived.Test.YtheokcjommfopaaGreatDoorM30
section
namespace Go.Proofs
open Go.Sy
set_option maxRecDepth 20000
set_option maxHeartbeats 4000000
def kLe (a b:Nat):Prop:=a=0∨a=b∨b=1
theorem kLe_refl (a:Nat):kLe a a:=.inr (.inl rfl)
theorem kLe_trans {a b c:Nat} (h1:kLe a b) (h2:kLe b c):kLe a c:=by unfold kLe at *;omega
theorem kJoin_is {a b:Nat} (ha:kIs a=true) (hb:kIs b=true):kJoin a b=if a=b∨b=0 then a else if a=0 then b else 1:=by rw[kJoin,kNorm_is ha,kNorm_is hb]
theorem kLe_join1 {a b:Nat} (ha:kIs a=true) (hb:kIs b=true):kLe a (kJoin a b):=by
 rw[kJoin_is ha hb];unfold kLe;split
 ·omega
 ·split<;>omega
theorem kLe_join2 {a b:Nat} (ha:kIs a=true) (hb:kIs b=true):kLe b (kJoin a b):=by
 rw[kJoin_is ha hb];unfold kLe;split
 ·omega
 ·split<;>omega
theorem kJoin_le {a b c:Nat} (ha:kIs a=true) (hb:kIs b=true) (h1:kLe a c) (h2:kLe b c):kLe (kJoin a b) c:=by
 rw[kJoin_is ha hb];unfold kLe at *;split
 ·omega
 ·split<;>omega
theorem kJoin_mono {a b a' b':Nat} (ha:kIs a=true) (hb:kIs b=true) (ha':kIs a'=true) (hb':kIs b'=true) (h1:kLe a a') (h2:kLe b b'):kLe (kJoin a b) (kJoin a' b') :=
 kJoin_le ha hb (kLe_trans h1 (kLe_join1 ha' hb')) (kLe_trans h2 (kLe_join2 ha' hb'))
theorem kOp_mono {op:Int} {a b a' b':Nat} (ha:kIs a=true) (hb:kIs b=true) (ha':kIs a'=true) (hb':kIs b'=true) (h1:kLe a a') (h2:kLe b b'):kLe (kOp op a b) (kOp op a' b'):=by
 unfold kOp;rw[kNorm_is ha,kNorm_is hb,kNorm_is ha',kNorm_is hb']
 by_cases h0:op=0∨op=4
 ·rw[if_pos h0,if_pos h0]
  rcases h1 with h1 | h1 | h1
  ·rw[if_pos h1];exact .inl rfl
  ·subst h1
   rw[nOp_one h0 (numOf a) (numOf b) (numOf b')];exact kLe_refl _
  ·rw[h1,if_neg (show ¬(1:Nat)=0 by omega),if_pos rfl];exact .inr (.inr rfl)
 ·rw[if_neg h0,if_neg h0]
  by_cases z:a=0∨b=0
  ·rw[if_pos z];exact .inl rfl
  ·have z':¬(a'=0∨b'=0):=by unfold kLe at h1 h2;omega
   by_cases o:a'=1∨b'=1
   ·rw[if_neg z',if_pos o];exact .inr (.inr rfl)
   ·have e1:a=a':=by unfold kLe at h1;omega
    have e2:b=b':=by unfold kLe at h2;omega
    subst e1 e2;exact kLe_refl _
def wAt (v:Wd) (i:Nat):Nat:=(v[i]?.getD 0).toNat
def vLe (x y:Wd):Prop:=x.length=y.length∧∀i,kLe (wAt x i) (wAt y i)
theorem vLe_refl (x:Wd):vLe x x:=⟨rfl,fun _=>kLe_refl _⟩
theorem vLe_trans {x y z:Wd} (h1:vLe x y) (h2:vLe y z):vLe x z:=⟨h1.1.trans h2.1,fun i=>kLe_trans (h1.2 i) (h2.2 i)⟩
theorem wAt_out {v:Wd} {i:Nat} (h:v.length≤i):wAt v i=0:=by rw[wAt,List.getElem?_eq_none h];rfl
theorem wAt_in {v:Wd} {i:Nat} {x:UInt64} (h:v[i]?=some x):wAt v i=x.toNat:=by rw[wAt,h];rfl
theorem wAt_is {n:Nat} {v:Wd} (h:okW n v) (i:Nat):kIs (wAt v i)=true:=by
 by_cases hi:i<v.length
 ·rw[wAt_in (List.getElem?_eq_getElem hi)];exact h.2 _ (List.getElem_mem hi)
 ·rw[wAt_out (by omega)];rfl
theorem wAt_join {x y:Wd} (hl:x.length=y.length) (i:Nat):wAt (vJoin x y) i=kJoin (wAt x i) (wAt y i):=by
 by_cases hi:i<x.length
 ·have e:(vJoin x y)[i]?=some (uJoin x[i] (y[i]'(by omega))):=by
   rw[vJoin,List.getElem?_zipWith,List.getElem?_eq_getElem hi,List.getElem?_eq_getElem (show i<y.length by omega)]
  rw[wAt_in e,wAt_in (List.getElem?_eq_getElem hi),wAt_in (List.getElem?_eq_getElem (show i<y.length by omega)),uJoin_nat]
 ·have e:(vJoin x y).length≤i:=by rw[vJoin,List.length_zipWith];omega
  rw[wAt_out e,wAt_out (by omega),wAt_out (by omega),kJoin_is (show kIs 0=true from rfl) rfl];rfl
theorem wAt_set {v:Wd} {i:Nat} {x:UInt64} (j:Nat):wAt (v.set i x) j=if i=j∧i<v.length then x.toNat else wAt v j:=by
 rw[wAt,List.getElem?_set];split
 ·rename_i h;subst h;split
  ·rename_i h
   rw[if_pos ⟨rfl,h⟩];rfl
  ·rename_i h
   rw[if_neg (by omega),wAt_out (by omega)];rfl
 ·rename_i h
  rw[if_neg (by omega)];rfl
theorem vJoin_len {x y:Wd} (hl:x.length=y.length):(vJoin x y).length=x.length:=by rw[vJoin,List.length_zipWith,hl,Nat.min_self]
theorem vJoin_mono {n:Nat} {x y x' y':Wd} (hx:okW n x) (hy:okW n y) (hx':okW n x') (hy':okW n y') (h1:vLe x x') (h2:vLe y y'):vLe (vJoin x y) (vJoin x' y'):=by
 have e1:x.length=y.length:=by rw[hx.1,hy.1]
 have e2:x'.length=y'.length:=by rw[hx'.1,hy'.1]
 refine⟨by rw[vJoin_len e1,vJoin_len e2,h1.1],fun i=>?_⟩;rw[wAt_join e1,wAt_join e2];exact kJoin_mono (wAt_is hx i) (wAt_is hy i) (wAt_is hx' i) (wAt_is hy' i) (h1.2 i) (h2.2 i)
theorem vLe_join1 {n:Nat} {x y:Wd} (hx:okW n x) (hy:okW n y):vLe x (vJoin x y):=by
 have e1:x.length=y.length:=by rw[hx.1,hy.1]
 refine⟨by rw[vJoin_len e1],fun i=>?_⟩;rw[wAt_join e1];exact kLe_join1 (wAt_is hx i) (wAt_is hy i)
theorem vLe_join2 {n:Nat} {x y:Wd} (hx:okW n x) (hy:okW n y):vLe y (vJoin x y):=by
 have e1:x.length=y.length:=by rw[hx.1,hy.1]
 refine⟨by rw[vJoin_len e1,e1],fun i=>?_⟩;rw[wAt_join e1];exact kLe_join2 (wAt_is hx i) (wAt_is hy i)
theorem refN_mono {n:Nat} {v v':Wd} (_hv:okW n v) (_hv':okW n v') (h:vLe v v') (r:Rf):kLe (refN v r) (refN v' r):=by
 unfold refN;split
 ·exact kLe_refl _
 ·exact h.2 _
theorem refN_is {n:Nat} {v:Wd} (hv:okW n v) (r:Rf):kIs (refN v r)=true:=by
 unfold refN;split
 ·exact kIs_of _
 ·exact wAt_is hv _
theorem doC_mono {n:Nat} {v v':Wd} (hv:okW n v) (hv':okW n v') (h:vLe v v') (c:Cd):vLe (doC v c) (doC v' c):=by
 refine⟨by rw[doC,doC,List.length_set,List.length_set,h.1],fun i=>?_⟩;rw[doC,doC,wAt_set,wAt_set,h.1];split
 ·split
  ·exact kLe_refl _
  ·rw[u64_of (kOp_lt _ _ _),u64_of (kOp_lt _ _ _)];exact kOp_mono (refN_is hv _) (refN_is hv _) (refN_is hv' _) (refN_is hv' _) (refN_mono hv hv' h _) (refN_mono hv hv' h _)
 ·exact h.2 i
theorem doL_mono {n:Nat}:∀(l:List Cd) {v v':Wd},okW n v→okW n v'→vLe v v'→vLe (doL v l) (doL v' l)
 | [],_,_,_,_,h=>h
 | c::r,_,_,hv,hv',h=>doL_mono r (doC_ok hv c) (doC_ok hv' c) (doC_mono hv hv' h c)
theorem has0_iff {v:Wd}:has0 v=true↔∃i<v.length,wAt v i=0:=by
 rw[has0,List.any_eq_true];constructor
 ·rintro⟨x,hx,h⟩;obtain⟨i,hi⟩:=List.getElem?_of_mem hx;exact⟨i,(List.getElem?_eq_some_iff.1 hi).1,by rw[wAt_in hi];exact dt h⟩
 ·rintro⟨i,hi,h⟩;rw[wAt_in (List.getElem?_eq_getElem hi)]at h;exact⟨_,List.getElem_mem hi,decide_eq_true h⟩
theorem wAt_bot (n i:Nat):wAt (vBot n) i=0:=by
 rw[wAt,vBot,List.getElem?_replicate]
 split<;>rfl
theorem vBot_le {n:Nat} {v:Wd} (h:v.length=n):vLe (vBot n) v:=⟨by rw[vBot,List.length_replicate,h],fun i=>.inl (wAt_bot n i)⟩
theorem vApp_mono {n:Nat} {v v':Wd} (hv:okW n v) (hv':okW n v') (h:vLe v v') (l:List Cd):vLe (vApp l v) (vApp l v'):=by
 unfold vApp;split
 ·refine vBot_le ?_;split
  ·rw[vBot,List.length_replicate,h.1]
  ·rw[(doL_ok l hv').1,hv.1]
 ·rename_i h0;rw[if_neg]
  ·exact doL_mono l hv hv' h
  ·rw[has0_iff]at h0 ⊢;rintro⟨i,hi,h1⟩;refine h0 ⟨i,by rw[h.1];exact hi,?_⟩;have:=h.2 i;unfold kLe at this;omega
def aLe (s:Sy3) (A B:List Wd):Prop:=∀v<s.m,vLe (aAt A v) (aAt B v)
theorem stepR_at {s:Sy3} {A:List Wd} {v:Nat} (hv:v<s.m):aAt (stepR s A) v=s.E.foldl (joinE s A v) (vStart s v):=by
 rw[aAt,stepR,List.getElem?_map,List.getElem?_range hv];rfl
theorem step_at {s:Sy3} (ho:OkS s) {A:List Wd} {v:Nat} (hv:v<s.m):aAt (stepS s A) v=s.E.foldl (joinE s A v) (vStart s v):=by
 rw[←stepR_eq ho,stepR_at hv]
theorem appE_mono {s:Sy3} {A B:List Wd} (hA:OkA s A) (hB:OkA s B) (h:aLe s A B) {e:Edg} (he:0≤e.1∧e.1<(s.m:Nat)):vLe (appE s A e) (appE s B e) :=
 vApp_mono (aAt_ok hA (by omega)) (aAt_ok hB (by omega)) (h _ (by omega)) _
theorem joinE_ok1 {s:Sy3} {A:List Wd} (hA:OkA s A) {v:Nat} {x:Wd} {e:Edg} (he:0≤e.1∧e.1<(s.m:Nat)) (hx:okW s.w x):okW s.w (joinE s A v x e):=by
 unfold joinE;split
 ·exact vJoin_ok hx (appE_ok hA he)
 ·exact hx
theorem fold_mono {s:Sy3} {A B:List Wd} (hA:OkA s A) (hB:OkA s B) (h:aLe s A B) {v:Nat}:∀(l:List Edg) {x y:Wd},(∀e∈l,0≤e.1∧e.1<(s.m:Nat))→okW s.w x→okW s.w y→vLe x y→vLe (l.foldl (joinE s A v) x) (l.foldl (joinE s B v) y)
 | [],_,_,_,_,_,h1=>h1
 | e::r,x,y,hl,hx,hy,h1=>by
  have he:=hl e List.mem_cons_self;refine fold_mono hA hB h r (x:=joinE s A v x e) (y:=joinE s B v y e) (fun e he=>hl e (List.mem_cons_of_mem _ he)) (joinE_ok1 hA he hx) (joinE_ok1 hB he hy) ?_;unfold joinE;split
  ·exact vJoin_mono hx (appE_ok hA he) hy (appE_ok hB he) h1 (appE_mono hA hB h he)
  ·exact h1
theorem step_mono {s:Sy3} (ho:OkS s) {A B:List Wd} (hA:OkA s A) (hB:OkA s B) (h:aLe s A B):aLe s (stepS s A) (stepS s B):=fun v hv=>by
 rw[step_at ho hv,step_at ho hv];exact fold_mono hA hB h s.E (fun e he=>(ho.En e he).1) (vStart_ok ho v) (vStart_ok ho v) (vLe_refl _)
theorem fold_up {s:Sy3} {A:List Wd} (hA:OkA s A) {v:Nat}:∀(l:List Edg) {x:Wd},(∀e∈l,0≤e.1∧e.1<(s.m:Nat))→okW s.w x→vLe x (l.foldl (joinE s A v) x)∧∀e∈l,e.2=(v:Int)→vLe (appE s A e) (l.foldl (joinE s A v) x)
 | [],x,_,_=>⟨vLe_refl x,fun e he=>by cases he⟩
 | e::r,x,hl,hx=>by
  have he:=hl e List.mem_cons_self;have hx1:=joinE_ok1 (v:=v) hA he hx;obtain⟨h1,h2⟩:=fold_up hA r (x:=joinE s A v x e) (fun e he=>hl e (List.mem_cons_of_mem _ he)) hx1;refine⟨vLe_trans ?_ h1,fun e' he' hv=>?_⟩
  ·unfold joinE;split
   ·exact vLe_join1 hx (appE_ok hA he)
   ·exact vLe_refl _
  ·rcases List.mem_cons.1 he' with rfl | he'
   ·refine vLe_trans ?_ h1;rw[joinE,if_pos hv];exact vLe_join2 hx (appE_ok hA he)
   ·exact h2 e' he' hv
def rW (w:Nat):Nat:=if w=0 then 0 else if w=1 then 2 else 1
theorem rW_cases (x:Nat):(rW x=0∧x=0)∨(rW x=2∧x=1)∨(rW x=1∧2≤x):=by
 unfold rW;split
 ·omega
 ·split<;>omega
theorem rW_le {a b:Nat} (h:kLe a b):rW a≤rW b∧(rW a=rW b→a=b):=by
 have h1:=rW_cases a;have h2:=rW_cases b;unfold kLe at h;omega
theorem sum_rank {α:Type} (f:α→Nat) (R:α→α→Prop) (hR:∀a b,R a b→f a≤f b∧(f a=f b→a=b)):∀(x y:List α),x.length=y.length→(∀(i:Nat) (a b:α),x[i]?=some a→y[i]?=some b→R a b)→(x.map f).sum≤(y.map f).sum∧((x.map f).sum=(y.map f).sum→x=y)
 | [],[],_,_=>⟨Nat.le_refl _,fun _=>rfl⟩
 | [],b::y,h,_=>by cases h
 | a::x,[],h,_=>by cases h
 | a::x,b::y,h,h1=>by
  have h2:=hR a b (h1 0 a b rfl rfl);have h3:=sum_rank f R hR x y (by simpa using h) (fun i a b=>h1 (i+1) a b);simp only[List.map_cons,List.sum_cons];refine⟨by omega,fun e=>?_⟩;rw[h2.2 (by omega),h3.2 (by omega)]
def vR (v:Wd):Nat:=(v.map fun (x:UInt64)=>rW x.toNat).sum
def aR (A:List Wd):Nat:=(A.map vR).sum
theorem vR_le {x y:Wd} (h:vLe x y):vR x≤vR y∧(vR x=vR y→x=y):=by
 refine sum_rank (fun (x:UInt64)=>rW x.toNat) (fun a b=>kLe a.toNat b.toNat) (fun a b h=>?_) x y h.1 (fun i a b ha hb=>?_)
 ·exact⟨(rW_le h).1,fun e=>UInt64.toNat_inj.1 ((rW_le h).2 e)⟩
 ·have:=h.2 i;rw[wAt_in ha,wAt_in hb]at this;exact this
theorem aR_le {s:Sy3} {A B:List Wd} (hA:OkA s A) (hB:OkA s B) (h:aLe s A B):aR A≤aR B∧(aR A=aR B→A=B):=by
 refine sum_rank vR vLe (fun a b h=>vR_le h) A B (by rw[hA.len,hB.len]) (fun i a b ha hb=>?_);have hi:=(List.getElem?_eq_some_iff.1 ha).1;have:=h i (by rw[←hA.len];exact hi);rw[aAt,aAt,ha,hb]at this;exact this
theorem sum_bound {α:Type} (f:α→Nat) (k:Nat):∀(x:List α),(∀a∈x,f a≤k)→(x.map f).sum≤x.length*k
 | [],_=>by simp
 | a::x,h=>by
  have h1:=h a List.mem_cons_self;have h2:=sum_bound f k x (fun a ha=>h a (List.mem_cons_of_mem _ ha));simp only[List.map_cons,List.sum_cons,List.length_cons,Nat.add_mul,Nat.one_mul];omega
theorem vR_bound {n:Nat} {v:Wd} (h:okW n v):vR v≤2*n:=by
 have:=sum_bound (fun (x:UInt64)=>rW x.toNat) 2 v (fun a _=>by
  show rW a.toNat≤2;unfold rW;split
  ·omega
  ·split<;>omega)
 rw[h.1]at this;unfold vR;omega
theorem aR_bound {s:Sy3} {A:List Wd} (hA:OkA s A):aR A≤s.m*(2*s.w):=by
 have:=sum_bound vR (2*s.w) A (fun a ha=>vR_bound (hA.ok a ha));rw[hA.len]at this;exact this
theorem iterN_fix {s:Sy3} (ho:OkS s):∀(k:Nat) (A:List Wd),OkA s A→aLe s A (stepS s A)→s.m*(2*s.w)<aR A+k→stepS s (iterN s k A)=iterN s k A
 | 0,A,hA,_,h=>by have:=aR_bound hA;omega
 | k+1,A,hA,h1,h=>by
  rw[iterN];split
  ·rename_i e;exact e.symm
  ·rename_i e;have hB:=stepS_ok ho hA;have h2:=aR_le hA hB h1
   have h3:aR A≠aR (stepS s A):=fun e2=>e (h2.2 e2)
   exact iterN_fix ho k (stepS s A) hB (step_mono ho hA hB h1) (by omega)
theorem aLe_bots {s:Sy3} {A:List Wd} (hA:OkA s A):aLe s (bots s) A:=fun v hv=>by
 have e:aAt (bots s) v=vBot s.w:=by rw[aAt,bots,List.getElem?_replicate,if_pos hv];rfl
 rw[e];exact vBot_le (aAt_ok hA hv).1
theorem solve_fix {s:Sy3} (ho:OkS s):stepS s (solveS s)=solveS s :=
 iterN_fix ho _ _ (bots_ok s) (aLe_bots (stepS_ok ho (bots_ok s))) (by unfold enoughS;omega)
theorem sol_start {s:Sy3} (ho:OkS s) {v:Nat} (hv:v<s.m):vLe (vStart s v) (aAt (solveS s) v):=by
 rw[←solve_fix ho,step_at ho hv];exact (fold_up (solveS_ok ho) s.E (fun e he=>(ho.En e he).1) (vStart_ok ho v)).1
theorem sol_edge {s:Sy3} (ho:OkS s) {e:Edg} (he:e∈s.E):vLe (appE s (solveS s) e) (aAt (solveS s) e.2.toNat):=by
 have h:=ho.En e he;rw[←solve_fix ho,step_at ho (v:=e.2.toNat) (by omega),solve_fix ho];exact (fold_up (solveS_ok ho) s.E (fun e he=>(ho.En e he).1) (vStart_ok ho _)).2 e he (by omega)
end Go.Proofs
end
section
namespace Go.Proofs
open Go.Sy
set_option maxRecDepth 20000
set_option maxHeartbeats 4000000
abbrev StE:=Int×List Nm×Int×List Nm
def valA (p:Prog) (e:List Nm) (a:Atm):Nm:=if a.1.l=[] then nOf a.2 else if 0≤vIdx p a.1.l then e[(vIdx p a.1.l).toNat]?.getD (0,0) else (0,0)
def inAt (inn:List Nm) (i:Int):Nm:=if i<0 then (0,0) else inn[i.toNat]?.getD (0,0)
def inNext (i:Int):Int:=min i 2147483646+1
def setAt (p:Prog) (e:List Nm) (t:Bs8) (n:Nm):List Nm:=e.set (vIdx p t).toNat n
def doS (p:Prog) (inn:List Nm) (s:StE) (x:Stmt):StE :=
 if x.1=1 then (s.1,setAt p s.2.1 x.2.1.l (nOp x.2.2.1 (valA p s.2.1 x.2.2.2.1) (valA p s.2.1 x.2.2.2.2)),s.2.2)
 else if x.1=2 then (s.1,setAt p s.2.1 x.2.1.l (nOf (inAt inn s.2.2.1)),inNext s.2.2.1,s.2.2.2)
 else if x.1=3 then (s.1,s.2.1,s.2.2.1,s.2.2.2++[valA p s.2.1 x.2.2.2.1])
 else s
def doAll (p:Prog) (inn:List Nm) (s:StE) (l:List Stmt):StE:=l.foldl (doS p inn) s
def blkN (p:Prog) (i:Int):Block:=p[i.toNat]?.getD (⟨[]⟩,[],(0,(⟨[]⟩,0,0),⟨[]⟩,⟨[]⟩))
def runB (p:Prog) (inn:List Nm) (s:StE):StE:=doAll p inn s (blkN p s.1).2.1
def bIdx (p:Prog) (t:Bs8):Int:=max (idxS t (nms p) 0) 0
def goTo (p:Prog) (s:StE) (t:Term):Bs8:=if t.1=2∧valA p s.2.1 t.2.1=(0,0) then t.2.2.2.l else t.2.2.1.l
def folS (p:Prog) (s:StE):StE×Bool:=if (blkN p s.1).2.2.1=3 then (s,false) else ((bIdx p (goTo p s (blkN p s.1).2.2),s.2),true)
def itS (p:Prog) (inn:List Nm) (s0:StE):Nat→List StE×StE×Bool
 | 0=>([],s0,true)
 | k+1=>if (itS p inn s0 k).2.2 then ((itS p inn s0 k).1++[(itS p inn s0 k).2.1],folS p (runB p inn (itS p inn s0 k).2.1)) else itS p inn s0 k
theorem itS_step {p:Prog} {inn:List Nm} {s0:StE} {k:Nat} (h:(itS p inn s0 k).2.2=true):itS p inn s0 (k+1)=((itS p inn s0 k).1++[(itS p inn s0 k).2.1],folS p (runB p inn (itS p inn s0 k).2.1)):=by
 rw[itS,if_pos h]
theorem itS_stop {p:Prog} {inn:List Nm} {s0:StE} {k:Nat} (h:(itS p inn s0 k).2.2=false):itS p inn s0 (k+1)=itS p inn s0 k:=by
 rw[itS,if_neg (by rw[h];decide)]
theorem itS_end {p:Prog} {inn:List Nm} {s0:StE} {k:Nat} (h:(itS p inn s0 k).2.2=false):∀m,itS p inn s0 (k+m)=itS p inn s0 k
 | 0=>rfl
 | m+1=>by rw[←Nat.add_assoc,itS_stop (by rw[itS_end h m];exact h),itS_end h m]
theorem itS_len {p:Prog} {inn:List Nm} {s0:StE}:∀(k:Nat),(itS p inn s0 k).2.2=true→(itS p inn s0 k).1.length=k
 | 0,_=>rfl
 | k+1,h=>by
  by_cases h1:(itS p inn s0 k).2.2=true
  ·rw[itS_step h1,List.length_append,itS_len k h1];rfl
  ·rw[itS_stop (by simpa using h1)]at h;exact absurd h h1
theorem itS_le {p:Prog} {inn:List Nm} {s0:StE}:∀(k:Nat),(itS p inn s0 k).1.length≤k
 | 0=>Nat.le_refl _
 | k+1=>by
  have h:=itS_le (p:=p) (inn:=inn) (s0:=s0) k;rw[itS];split
  ·rw[List.length_append,List.length_singleton];omega
  ·omega
def start0 (p:Prog):StE:=(0,List.replicate (varsOf p).length (0,0),0,[])
theorem itS_inv {p:Prog} {inn:List Nm} {s0:StE} (P:StE→Prop) (h0:P s0) (hs:∀s,P s→(folS p (runB p inn s)).2=true→P (folS p (runB p inn s)).1):
  ∀k,(∀s∈(itS p inn s0 k).1,P s)∧((itS p inn s0 k).2.2=true→P (itS p inn s0 k).2.1)
 | 0=>⟨fun s hs=>(by cases hs),fun _=>h0⟩
 | k+1=>by
  have h:=itS_inv P h0 hs k
  by_cases h1:(itS p inn s0 k).2.2=true
  ·have hp:=h.2 h1;rw[itS_step h1];refine⟨fun s hm=>?_,fun h2=>hs _ hp h2⟩
   rcases List.mem_append.1 hm with hm | hm
   ·exact h.1 s hm
   ·rw[List.mem_singleton.1 hm];exact hp
  ·rw[itS_stop (by simpa using h1)];exact h
theorem insAt_has {i:Nat} {s:Bs8} {l:List Bs8} (_h:i≤l.length):s∈insAt i s l∧∀t∈l,t∈insAt i s l:=by
 rw[insAt];refine⟨by simp,fun t ht=>?_⟩;rw[←List.take_append_drop i l]at ht
 rcases List.mem_append.1 ht with ht | ht
 ·simp [ht]
 ·simp [ht]
theorem putS_has {l:List Bs8} (hl:SortedS l) (s:Bs8):(s≠[]→s∈putS s l)∧∀t∈l,t∈putS s l:=by
 by_cases h0:s=[]
 ·rw[h0,putS_nil];exact⟨fun h=>absurd rfl h,fun t h=>h⟩
 ·obtain⟨i,hi,h1,h2⟩:=lower hl s
  have e:=putS_at h0 hi h1 (fun x hx=>h2 x (by
   have hlt:=(List.getElem?_eq_some_iff.1 hx).1;rw[List.drop_eq_getElem_cons hlt,(List.getElem?_eq_some_iff.1 hx).2]
   exact List.mem_cons_self))
  rw[e];split
  ·rename_i hx;exact⟨fun _=>List.mem_of_getElem? hx,fun t h=>h⟩
  ·have:=insAt_has (s:=s) hi;exact⟨fun _=>this.1,this.2⟩
theorem putAll_has:∀(vs:List Bs8) {o:List Bs8},SortedS o→(∀s∈vs,s≠[]→s∈putAll vs o)∧∀t∈o,t∈putAll vs o
 | [],_,_=>⟨fun s h=>(by cases h),fun t h=>h⟩
 | v::r,o,ho=>by
  have h1:=putS_has ho v;have h2:=putAll_has r (putS_sorted ho v);refine⟨fun s hs h0=>?_,fun t ht=>h2.2 t (h1.2 t ht)⟩
  rcases List.mem_cons.1 hs with rfl | hs
  ·exact h2.2 _ (h1.1 h0)
  ·exact h2.1 s hs h0
theorem bVars_has:∀(l:List Stmt) {o:List Bs8},SortedS o→(∀x∈l,∀s∈sVars x,s≠[]→s∈bVars o l)∧∀t∈o,t∈bVars o l
 | [],_,_=>⟨fun s h=>(by cases h),fun t h=>h⟩
 | x::r,o,ho=>by
  have h1:=putAll_has (sVars x) ho;have h2:=bVars_has r (putAll_sorted (sVars x) ho);refine⟨fun y hy s hs h0=>?_,fun t ht=>h2.2 t (h1.2 t ht)⟩
  rcases List.mem_cons.1 hy with rfl | hy
  ·exact h2.2 _ (h1.1 s hs h0)
  ·exact h2.1 y hy s hs h0
theorem blkVars_sorted {o:List Bs8} (ho:SortedS o) (b:Block):SortedS (blkVars o b):=putAll_sorted _ (bVars_sorted _ ho)
theorem blkVars_has {o:List Bs8} (ho:SortedS o) (b:Block):(∀x∈b.2.1,∀s∈sVars x,s≠[]→s∈blkVars o b)∧(b.2.2.2.1.1.l≠[]→b.2.2.2.1.1.l∈blkVars o b)∧∀t∈o,t∈blkVars o b:=by
 have h1:=bVars_has b.2.1 ho;have h2:=putAll_has [b.2.2.2.1.1.l] (bVars_sorted b.2.1 ho);exact⟨fun x hx s hs h0=>h2.2 s (h1.1 x hx s hs h0),fun h0=>h2.1 _ (List.mem_singleton.2 rfl) h0,fun t ht=>h2.2 t (h1.2 t ht)⟩
theorem vars_has:∀(p:Prog) {o:List Bs8},SortedS o→(∀b∈p,(∀x∈b.2.1,∀s∈sVars x,s≠[]→s∈p.foldl blkVars o)∧(b.2.2.2.1.1.l≠[]→b.2.2.2.1.1.l∈p.foldl blkVars o))∧∀t∈o,t∈p.foldl blkVars o
 | [],_,_=>⟨fun s h=>(by cases h),fun t h=>h⟩
 | b::r,o,ho=>by
  have h1:=blkVars_has ho b;have h2:=vars_has r (blkVars_sorted ho b);refine⟨fun b' hb=>?_,fun t ht=>h2.2 t (h1.2.2 t ht)⟩
  rcases List.mem_cons.1 hb with rfl | hb
  ·exact⟨fun x hx s hs h0=>h2.2 _ (h1.1 x hx s hs h0),fun h0=>h2.2 _ (h1.2.1 h0)⟩
  ·exact h2.1 b' hb
theorem nil_sorted:SortedS []:=by simp [SortedS]
theorem idxS_at (t:Bs8):∀(l:List Bs8) (i:Int),0≤i→t∈l→i≤idxS t l i∧idxS t l i<i+l.length∧l[(idxS t l i - i).toNat]?=some t
 | [],_,_,h=>by cases h
 | x::r,i,h0,h=>by
  rw[idxS];split
  ·rename_i e;refine⟨Int.le_refl _,by simp only[List.length_cons];omega,?_⟩;rw[show (i - i).toNat=0 by omega,List.getElem?_cons_zero,e]
  ·rename_i e
   rcases List.mem_cons.1 h with h | h
   ·exact absurd h.symm e
   ·have:=idxS_at t r (i+1) (by omega) h;simp only[List.length_cons];refine⟨by omega,by omega,?_⟩;rw[show (idxS t r (i+1) - i).toNat=(idxS t r (i+1) - (i+1)).toNat+1 by omega,List.getElem?_cons_succ];exact this.2.2
theorem idxS_some {t:Bs8}:∀ {l:List Bs8} {i:Int},0≤i→0≤idxS t l i→t∈l
 | [],i,_,h=>by rw[idxS]at h;omega
 | x::r,i,h0,h=>by
  rw[idxS]at h;split at h
  ·rename_i e
   rw[e];exact List.mem_cons_self
  ·exact List.mem_cons_of_mem _ (idxS_some (by omega) h)
theorem vIdx_mem {p:Prog} {t:Bs8} (h:t∈varsOf p):0≤vIdx p t∧vIdx p t<((varsOf p).length:Nat):=by
 have:=idxS_at t (varsOf p) 0 (by omega) h;unfold vIdx;omega
theorem vIdx_stmt {p:Prog} {b:Block} (hb:b∈p) {x:Stmt} (hx:x∈b.2.1) {t:Bs8} (ht:t∈sVars x) (h0:t≠[]):0≤vIdx p t∧vIdx p t<((varsOf p).length:Nat) :=
 vIdx_mem (((vars_has p nil_sorted).1 b hb).1 x hx t ht h0)
theorem blkN_get {p:Prog} {i:Int} {b:Block} (h:p[i.toNat]?=some b):blkN p i=b:=by rw[blkN,h];rfl
theorem doS_blk (p:Prog) (inn:List Nm) (s:StE) (x:Stmt):(doS p inn s x).1=s.1∧(doS p inn s x).2.1.length=s.2.1.length:=by
 unfold doS setAt
 repeat' split
 all_goals simp
theorem doAll_blk (p:Prog) (inn:List Nm):∀(l:List Stmt) (s:StE),(doAll p inn s l).1=s.1∧(doAll p inn s l).2.1.length=s.2.1.length
 | [],_=>⟨rfl,rfl⟩
 | x::r,s=>by
  have h1:=doS_blk p inn s x;have h2:=doAll_blk p inn r (doS p inn s x);rw[doAll,List.foldl_cons];exact⟨h2.1.trans h1.1,h2.2.trans h1.2⟩
theorem bIdx_range (p:Prog) (t:Bs8) (h:1≤p.length):0≤bIdx p t∧bIdx p t<(p.length:Nat):=by
 have:=idxS_range t (nms p) 0 (by omega);rw[List.length_map]at this;unfold bIdx;omega
end Go.Proofs
end
section
namespace Go.Proofs
open Go.Sy
set_option maxRecDepth 20000
set_option maxHeartbeats 4000000
def absW (w:Nat) (n:Nm):Prop:=w≠0∧∀x,kNum w=some x→x=n
theorem absW_le {a b:Nat} {n:Nm} (h:kLe a b) (ha:absW a n):absW b n:=by
 rcases h with h | h | h
 ·exact absurd h ha.1
 ·rw[←h];exact ha
 ·rw[h];exact⟨by decide,fun x hx=>by rw[show kNum 1=none from by decide]at hx;cases hx⟩
theorem absW_of (n:Nm):absW (kOf n) (nOf n):=⟨by unfold kOf;omega,fun x hx=>by rw[kNum_of]at hx;exact (Option.some.inj hx).symm⟩
theorem kIs_cases {w:Nat} (h:kIs w=true):w=0∨w=1∨∃x,kNum w=some x:=by
 simp only[kIs,Bool.or_eq_true,decide_eq_true_eq]at h
 rcases h with (h | h) | h
 ·exact .inr (.inr (Option.isSome_iff_exists.1 h))
 ·exact .inl h
 ·exact .inr (.inl h)
theorem nOp_nOf (op:Int) (a b:Nm):nOf (nOp op a b)=nOp op a b:=by
 have h:∀x:Nm,nOf (nOf x)=nOf x:=fun x=>by simp only[nOf,wrp_wrp]
 unfold nOp
 repeat' split
 all_goals first | exact h _ | rfl
theorem absW_op {op:Int} {a b:Nat} {x y:Nm} (ho:0≤op∧op≤4) (ha:kIs a=true) (hb:kIs b=true) (h1:absW a x) (h2:absW b y):absW (kOp op a b) (nOp op x y):=by
 have one:∀n:Nm,absW 1 n:=fun n=>absW_le (a:=1) (.inr (.inr rfl)) ⟨by decide,fun x hx=>by rw[show kNum 1=none from by decide]at hx;cases hx⟩
 have hof:∀n:Nm,nOf n=n→absW (kOf n) n:=fun n e=>by have:=absW_of n;rw[e]at this;exact this
 unfold kOp;rw[kNorm_is ha,kNorm_is hb]
 rcases kIs_cases ha with e | e | ⟨u,eu⟩
 ·exact absurd e h1.1
 ·rw[if_neg h1.1,if_pos e];split
  ·exact one _
  ·rw[if_neg (by have:=h2.1;omega),if_pos (.inl e)];exact one _
 ·have e1:numOf a=x:=by rw[numOf,eu];exact h1.2 u eu
  have n1:¬a=1:=fun e=>by rw[e,show kNum 1=none from by decide]at eu;cases eu
  rw[if_neg h1.1,if_neg n1,e1];split
  ·rename_i h0;rw[nOp_one h0 x (numOf b) y];exact hof _ (nOp_nOf _ _ _)
  ·rw[if_neg (by have:=h1.1;have:=h2.1;omega)]
   rcases kIs_cases hb with e | e | ⟨v,ev⟩
   ·exact absurd e h2.1
   ·rw[if_pos (.inr e)];exact one _
   ·have e2:numOf b=y:=by rw[numOf,ev];exact h2.2 v ev
    have n2:¬b=1:=fun e=>by rw[e,show kNum 1=none from by decide]at ev;cases ev
    rw[if_neg (by omega),if_pos (by rw[opIs];exact decide_eq_true ho),e2];exact hof _ (nOp_nOf _ _ _)
def absV (k:Wd) (e:List Nm):Prop:=k.length=e.length∧∀i n,e[i]?=some n→absW (wAt k i) n
theorem absV_le {k k':Wd} {e:List Nm} (h:vLe k k') (ha:absV k e):absV k' e:=⟨h.1.symm.trans ha.1,fun i n hi=>absW_le (h.2 i) (ha.2 i n hi)⟩
theorem absV_set {k:Wd} {e:List Nm} {i:Nat} {w:Nat} {n:Nm} (hw:w<18446744073709551616) (h:absV k e) (h1:absW w n):absV (k.set i (UInt64.ofNat w)) (e.set i n):=by
 refine⟨by rw[List.length_set,List.length_set,h.1],fun j m hj=>?_⟩;rw[wAt_set];rw[List.getElem?_set]at hj;split at hj
 ·rename_i hi;split at hj
  ·rename_i hl;rw[if_pos ⟨hi,by rw[h.1];exact hl⟩,u64_of hw,←Option.some.inj hj];exact h1
  ·cases hj
 ·rename_i hi;rw[if_neg (fun hh=>hi hh.1)];exact h.2 j m hj
theorem absV_val {p:Prog} {k:Wd} {e:List Nm} (h:absV k e) (hl:e.length=(varsOf p).length) {a:Atm} (ha:a.1.l≠[]→0≤vIdx p a.1.l∧vIdx p a.1.l<((varsOf p).length:Nat)) (he:vIdx p []<0):absW (refN k (refOf p a)) (valA p e a):=by
 unfold valA refOf
 by_cases h0:a.1.l=[]
 ·rw[if_pos h0,h0,if_neg (by omega),refN,if_pos rfl];have:=absW_of (wrp a.2.1,wrp a.2.2);rw[show nOf (wrp a.2.1,wrp a.2.2)=nOf a.2 from by simp only[nOf,wrp_wrp]]at this;exact this
 ·have h1:=ha h0;rw[if_neg h0,if_pos h1.1,if_pos h1.1,refN,if_neg (by dsimp only;omega)]
  have hlt:(vIdx p a.1.l).toNat<e.length:=by omega
  rw[List.getElem?_eq_getElem hlt];exact h.2 _ _ (List.getElem?_eq_getElem hlt)
theorem vIdx_nil (p:Prog):vIdx p []<0:=by
 rcases vIdx_range p [] with h | h
 ·omega
 ·exfalso;have hm:[]∈varsOf p:=idxS_some (i:=0) (by omega) h.1;have hs:=vars_sorted p nil_sorted
  have:∀(p:Prog) {o:List Bs8},[] ∉ o→[] ∉ p.foldl blkVars o:=by
   have h1:∀(vs:List Bs8) {o:List Bs8},[] ∉ o→[] ∉ putAll vs o:=by
    intro vs
    induction vs with
    | nil=>exact fun h=>h
    | cons v r ih =>
     intro o h;refine ih (o:=putS v o) ?_
     by_cases hv:v=[]
     ·rw[hv,putS_nil];exact h
     ·intro hm
      rcases putS_mem hm with hm | hm
      ·exact h hm
      ·exact hv hm.symm
   have h2:∀(l:List Stmt) {o:List Bs8},[] ∉ o→[] ∉ bVars o l:=by
    intro l
    induction l with
    | nil=>exact fun h=>h
    | cons v r ih=>exact fun h=>ih (h1 _ h)
   intro p
   induction p with
   | nil=>exact fun h=>h
   | cons b r ih=>exact fun h=>ih (h1 _ (h2 _ h))
  exact this p (by simp) hm
theorem stmtB_var {s:Stmt} (h:stmtB s=true):(s.1=1∧0≤s.2.2.1∧s.2.2.1≤4∧s.2.1.l≠[])∨(s.1=2∧s.2.1.l≠[])∨(s.1=3∧s.2.1.l=[]):=by
 have hn:∀t:Bs8,nmB t=true→t≠[]:=fun t ht e=>by rw[e]at ht;exact absurd ht (by decide)
 unfold stmtB at h;split at h
 ·rename_i h1;rw[Bool.and_eq_true]at h;have:=exprB_op h.2;exact .inl ⟨h1,this.1,this.2,hn _ h.1⟩
 ·split at h
  ·rename_i h1;rw[Bool.and_eq_true]at h;exact .inr (.inl ⟨h1,hn _ h.1⟩)
  ·split at h
   ·rename_i h1;rw[Bool.and_eq_true,Bool.and_eq_true]at h;exact .inr (.inr ⟨h1,dt h.1.1⟩)
   ·cases h
theorem absV_do {p:Prog} {inn:List Nm} {k:Wd} {s:StE} {b:Block} {x:Stmt} (hk:okW (varsOf p).length k) (h:absV k s.2.1) (hb:b∈p) (hx:x∈b.2.1) (hs:stmtB x=true):absV (doL k (codeOf p x)) (doS p inn s x).2.1:=by
 have hl:s.2.1.length=(varsOf p).length:=by rw[←h.1,hk.1]
 have he:=vIdx_nil p
 have hA:x.2.2.2.1.1.l≠[]→_:=fun h0=>vIdx_stmt (t:=x.2.2.2.1.1.l) hb hx (by simp) h0
 have hB:x.2.2.2.2.1.l≠[]→_:=fun h0=>vIdx_stmt (t:=x.2.2.2.2.1.l) hb hx (by simp) h0
 rcases stmtB_var hs with ⟨h1,h2,h3,h4⟩ | ⟨h1,h4⟩ | ⟨h1,h4⟩
 ·have hv:=vIdx_stmt hb hx (t:=x.2.1.l) (by simp) h4;rw[codeOf,if_neg (by omega),if_pos h1,doS,if_pos h1];show absV (doC k _) (setAt p s.2.1 _ _);rw[doC,if_neg (by dsimp only;omega)];exact absV_set (kOp_lt _ _ _) h (absW_op ⟨h2,h3⟩ (refN_is hk _) (refN_is hk _) (absV_val h hl hA he) (absV_val h hl hB he))
 ·have hv:=vIdx_stmt hb hx (t:=x.2.1.l) (by simp) h4;rw[codeOf,if_neg (by omega),if_neg (by omega),if_pos h1,doS,if_neg (by omega),if_pos h1];show absV (doC k _) (setAt p s.2.1 _ _);rw[doC,if_pos rfl];exact absV_set (w:=1) (by omega) h ⟨by decide,fun x hx=>by rw[show kNum 1=none from by decide]at hx;cases hx⟩
 ·rw[codeOf,h4,if_pos (by omega),doS,if_neg (by omega),if_neg (by omega),if_pos h1];exact h
theorem absV_all {p:Prog} {inn:List Nm} {b:Block} (hb:b∈p) (hs:∀x∈b.2.1,stmtB x=true):∀(l:List Stmt) {k:Wd} {s:StE},(∀x∈l,x∈b.2.1)→okW (varsOf p).length k→absV k s.2.1→absV (doL k (codesOf p l)) (doAll p inn s l).2.1
 | [],_,_,_,_,h=>h
 | x::r,k,s,hl,hk,h=>by
  have hx:=hl x List.mem_cons_self
  have e:doL k (codesOf p (x::r))=doL (doL k (codeOf p x)) (codesOf p r):=by rw[codesOf,List.flatMap_cons,doL,List.foldl_append];rfl
  rw[e];exact absV_all hb hs r (s:=doS p inn s x) (fun y hy=>hl y (List.mem_cons_of_mem _ hy)) (doL_ok _ hk) (absV_do hk h hb hx (hs x hx))
theorem absV_has0 {k:Wd} {e:List Nm} (h:absV k e):has0 k=false:=by
 cases h0:has0 k with
 | false=>rfl
 | true =>
  exfalso;obtain⟨i,hi,h1⟩:=has0_iff.1 h0;exact (h.2 i _ (List.getElem?_eq_getElem (by rw[←h.1];exact hi))).1 h1
theorem eAll_mem {p:Prog}:∀(l:List Block) (i:Nat) {j:Nat} {b:Block} {e:Edg},l[j]?=some b→e∈eB p (i+j) b→e∈eAll p l i
 | [],_,_,_,_,h,_=>by simp at h
 | x::r,i,0,b,e,h,he=>by
  simp only[List.getElem?_cons_zero,Option.some.injEq]at h;subst h;rw[eAll];exact List.mem_append_left _ he
 | x::r,i,j+1,b,e,h,he=>by
  rw[List.getElem?_cons_succ]at h;rw[eAll];exact List.mem_append_right _ (eAll_mem r (i+1) h (by rw[show i+1+j=i+(j+1) by omega];exact he))
theorem check_goes {p:Prog} (h:checkE p=0) {b:Block} (hb:b∈p) {t:Bs8} (ht:t∈goes b.2.2):t∈bnames p:=by
 unfold checkE at h;split at h
 ·cases h
 ·split at h
  ·split at h
   ·cases h
   ·split at h
    ·split at h
     ·rename_i h5;exact dt (List.all_eq_true.1 (List.all_eq_true.1 h5 b hb) t ht)
     ·cases h
    ·cases h
  ·cases h
theorem term_kind {p:Prog} (h:checkE p=0) {b:Block} (hb:b∈p):b.2.2.1=1∨b.2.2.1=2∨b.2.2.1=3:=by
 have h1:=(check_facts h).2.2.2 b hb;rw[blockB,Bool.and_eq_true,Bool.and_eq_true]at h1;have h2:=h1.1.2;unfold termB at h2;split at h2
 ·exact .inl (by assumption)
 ·split at h2
  ·exact .inr (.inl (by assumption))
  ·split at h2
   ·exact .inr (.inr (by assumption))
   ·cases h2
theorem fol_edge {p:Prog} (h:checkE p=0) {i:Int} {b:Block} (h0:0≤i) (hb:p[i.toNat]?=some b) {s:StE} (h3:b.2.2.1≠3):(i,bIdx p (goTo p s b.2.2))∈edgesOf p:=by
 have hm:=List.mem_of_getElem? hb
 have hg:∀t∈goes b.2.2,eN p i.toNat t=[(i,bIdx p t)]:=fun t ht=>by
  have h1:t∈bnames p:=check_goes h hm ht;have h2:=idxS_at t (nms p) 0 (by omega) h1;rw[eN,if_pos h2.1,bIdx,Int.max_eq_left h2.1,Int.toNat_of_nonneg h0]
 refine eAll_mem p 0 hb ?_;rw[Nat.zero_add,eB]
 rcases term_kind h hm with h1 | h1 | h1
 ·have e:goTo p s b.2.2=b.2.2.2.2.1.l:=by rw[goTo,if_neg (by omega)]
  rw[if_pos (.inl h1),e,hg _ (by rw[goes,if_pos h1];simp)];simp
 ·have hgo:goes b.2.2=[b.2.2.2.2.1.l,b.2.2.2.2.2.l]:=by rw[goes,if_neg (by omega),if_pos h1]
  rw[if_pos (.inr h1),if_pos h1,hg _ (by rw[hgo];simp),hg _ (by rw[hgo];simp),goTo]
  split<;>simp
 ·exact absurd h1 h3
def okSt (p:Prog) (s:StE):Prop:=(0≤s.1∧s.1<(p.length:Nat))∧s.2.1.length=(varsOf p).length∧absV (aAt (solveS (sysOf p)) s.1.toNat) s.2.1
theorem okSt_start {p:Prog} (h:checkE p=0):okSt p (start0 p):=by
 have hf:=check_facts h;have ho:=sysOf_ok h
 have hm:(0:Nat)<(sysOf p).m:=by show 0<p.length;omega
 refine⟨⟨Int.le_refl _,by show (0:Int)<_;omega⟩,by simp [start0],?_⟩;refine absV_le (sol_start ho (v:=0) hm) ?_
 have e:vStart (sysOf p) 0=List.replicate (varsOf p).length two64:=by
  rw[vStart,if_pos (by show ((0:Nat):Int)∈[(0:Int)];simp)];rfl
 rw[e];refine⟨by simp [start0],fun i n hi=>?_⟩;have hi:(List.replicate (varsOf p).length ((0,0):Nm))[i]?=some n:=hi;rw[List.getElem?_replicate]at hi;split at hi
 ·rename_i hlt
  have e:wAt (List.replicate (varsOf p).length two64) i=2:=by rw[wAt,List.getElem?_replicate,if_pos hlt];rfl
  rw[e,←Option.some.inj hi,←kOf_zero];exact absW_of (0,0)
 ·cases hi
theorem okSt_step {p:Prog} (h:checkE p=0) {inn:List Nm} {s:StE} (hs:okSt p s) (hg:(folS p (runB p inn s)).2=true):okSt p (folS p (runB p inn s)).1:=by
 have hf:=check_facts h;have ho:=sysOf_ok h;obtain⟨⟨h0,h1⟩,h2,h3⟩:=hs
 have hlt:s.1.toNat<p.length:=by omega
 obtain⟨b,hb⟩:∃b,p[s.1.toNat]?=some b:=⟨_,List.getElem?_eq_getElem hlt⟩
 have hm:=List.mem_of_getElem? hb;have hst:=block_stmts (hf.2.2.2 b hm)
 have er:runB p inn s=doAll p inn s b.2.1:=by rw[runB,blkN_get hb]
 have hd:=doAll_blk p inn b.2.1 s;have hw:okW (varsOf p).length (aAt (solveS (sysOf p)) s.1.toNat):=aAt_ok (solveS_ok ho) hlt;have ha:=absV_all (inn:=inn) hm hst b.2.1 (fun x hx=>hx) hw h3;rw[er]at hg ⊢;unfold folS at hg ⊢;rw[hd.1,blkN_get hb]at hg ⊢;split at hg
 ·cases hg
 ·rename_i h3';rw[if_neg h3'];have hr:=bIdx_range p (goTo p (doAll p inn s b.2.1) b.2.2) hf.1;refine⟨hr,by show (doAll p inn s b.2.1).2.1.length=_;rw[hd.2,h2],?_⟩;have he:=fol_edge h h0 hb (s:=doAll p inn s b.2.1) h3';have hle:=sol_edge ho (e:=(s.1,bIdx p (goTo p (doAll p inn s b.2.1) b.2.2))) ((gSort_mem _ _).2 he);refine absV_le hle ?_;show absV (vApp (tAt (sysOf p) s.1.toNat) (aAt (solveS (sysOf p)) s.1.toNat)) _;rw[sys_t hb,vApp,if_neg (by rw[absV_has0 h3];decide)];exact ha
end Go.Proofs
end
section
namespace Go.Proofs
open Go.Sy
set_option maxRecDepth 20000
set_option maxHeartbeats 4000000
theorem vIdx_at {q:Prog} {j:Nat} (hj:j<(varsOf q).length):vIdx q (varsOf q)[j]=(j:Int):=by
 have hs:SortedS (varsOf q):=vars_sorted q nil_sorted;have h:=idxS_at (varsOf q)[j] (varsOf q) 0 (by omega) (List.getElem_mem hj);have h2:=h.2.2;have hi:(idxS (varsOf q)[j] (varsOf q) 0 - 0).toNat<(varsOf q).length:=(List.getElem?_eq_some_iff.1 h2).1;have h3:=(List.getElem?_eq_some_iff.1 h2).2;have hp:=List.pairwise_iff_getElem.1 hs;unfold vIdx
 rcases Nat.lt_trichotomy (idxS (varsOf q)[j] (varsOf q) 0 - 0).toNat j with h4 | h4 | h4
 ·have:=hp _ _ hi hj h4;rw[h3]at this;exact absurd this (slt_irrefl _)
 ·omega
 ·have:=hp _ _ hj hi h4;rw[h3]at this;exact absurd this (slt_irrefl _)
theorem vIdx_get {p:Prog} {t:Bs8} (h:t∈varsOf p):∃j,vIdx p t=(j:Nat)∧j<(varsOf p).length∧(varsOf p)[j]?=some t:=by
 have h1:=idxS_at t (varsOf p) 0 (by omega) h;refine⟨(idxS t (varsOf p) 0 - 0).toNat,by unfold vIdx;omega,by omega,h1.2.2⟩
theorem vIdx_inj {p:Prog} {t u:Bs8} (ht:t∈varsOf p) (hu:u∈varsOf p) (h:vIdx p t=vIdx p u):t=u:=by
 obtain⟨j,h1,_,h2⟩:=vIdx_get ht;obtain⟨k,h3,_,h4⟩:=vIdx_get hu
 have e:j=k:=by omega
 rw[e,h4]at h2;exact (Option.some.inj h2).symm
def rest (p q:Prog) (k:Wd):Wd:=(varsOf q).map fun t=>k[(vIdx p t).toNat]?.getD 0
theorem foldA_nil {p:Prog} {kn:Wd} {a:Atm} (h:a.1.l=[]):foldA p kn a=a:=by
 have:=vIdx_nil p;unfold vIdx at this;simp only[foldA];rw[h,if_neg (by omega)]
theorem foldA_var {p:Prog} {kn:Wd} {a:Atm} (h:a.1.l∈varsOf p) (hk:kn.length=(varsOf p).length):foldA p kn a=match kNum (wAt kn (vIdx p a.1.l).toNat) with
  | some n=>(⟨[]⟩,n)
  | none=>a:=by
 have h1:=vIdx_mem h;simp only[foldA]
 rw[if_pos (by unfold vIdx at h1;omega)];rfl
end Go.Proofs
end
section
namespace Go.Proofs
open Go.Sy
set_option maxRecDepth 20000
set_option maxHeartbeats 4000000
theorem op1_nAt {op:Int} (h:op=0∨op=4):nAt op=1:=if_pos h
theorem op2_nAt {op:Int} (h:op=1∨op=2∨op=3):nAt op=2:=by rw[nAt,if_neg (by omega),if_pos h]
abbrev nAtm (n:Nm):Atm:=(⟨[]⟩,n)
theorem foldE_cases {p:Prog} {kn:Wd} {x:Expr} (h:exprB x=true):
  ((x.1=0∨x.1=4)∧x.2.2=za∧(((foldA p kn x.2.1).1.l=[]∧foldE p kn x=(0,nAtm (nOp x.1 (foldA p kn x.2.1).2 (0,0)),za))∨((foldA p kn x.2.1).1.l≠[]∧foldE p kn x=(x.1,foldA p kn x.2.1,za)))) ∨
  ((x.1=1∨x.1=2∨x.1=3)∧(((foldA p kn x.2.1).1.l=[]∧(foldA p kn x.2.2).1.l=[]∧foldE p kn x=(0,nAtm (nOp x.1 (foldA p kn x.2.1).2 (foldA p kn x.2.2).2),za)) ∨
   (¬((foldA p kn x.2.1).1.l=[]∧(foldA p kn x.2.2).1.l=[])∧foldE p kn x=(x.1,foldA p kn x.2.1,foldA p kn x.2.2)))):=by
 unfold exprB at h;split at h
 ·rename_i h1
  have h1:x.1=0∨x.1=4:=by simpa [op1] using h1
  rw[Bool.and_eq_true]at h;have hb:x.2.2=za:=dt h.2;have hn:=op1_nAt h1;refine .inl ⟨h1,hb,?_⟩
  by_cases hy:(foldA p kn x.2.1).1.l=[]
  ·refine .inl ⟨hy,?_⟩;simp only[foldE,hn]
   rw[if_pos (show 0<1 by omega),if_neg (show ¬1<1 by omega),if_pos ⟨by omega,hy,by simp⟩,hb];rfl
  ·refine .inr ⟨hy,?_⟩;simp only[foldE,hn];rw[if_pos (show 0<1 by omega),if_neg (show ¬1<1 by omega),if_neg (fun hh=>hy hh.2.1),hb]
 ·split at h
  ·rename_i h1
   have h1:x.1=1∨x.1=2∨x.1=3:=by simpa [op2,or_assoc] using h1
   have hn:=op2_nAt h1;refine .inr ⟨h1,?_⟩
   by_cases hy:(foldA p kn x.2.1).1.l=[]∧(foldA p kn x.2.2).1.l=[]
   ·refine .inl ⟨hy.1,hy.2,?_⟩;simp only[foldE,hn]
    rw[if_pos (show 0<2 by omega),if_pos (show 1<2 by omega),if_pos ⟨by omega,hy.1,.inr hy.2⟩];rfl
   ·refine .inr ⟨hy,?_⟩;simp only[foldE,hn];rw[if_pos (show 0<2 by omega),if_pos (show 1<2 by omega),if_neg (fun hh=>hy ⟨hh.2.1,by rcases hh.2.2 with e | e;exact absurd e (by omega);exact e⟩)]
  ·cases h
theorem nOf_nOf (a:Nm):nOf (nOf a)=nOf a:=by simp only[nOf,wrp_wrp]
theorem nOp_in_of {op:Int} (h:op=0∨op=4∨op=1∨op=2∨op=3) (a b:Nm):nOp op (nOf a) (nOf b)=nOp op a b:=by
 unfold nOp
 rcases h with rfl | rfl | rfl | rfl | rfl<;>simp only[nOf_nOf]<;>rfl
theorem nOp_zero (a b:Nm):nOp 0 a b=nOf a:=rfl
theorem atm_nil {a:Atm} (h:a.1.l=[]):a=nAtm a.2:=by
 obtain⟨⟨l⟩,n⟩:=a;dsimp only at h;rw[h]
theorem stmtB_expr {x:Stmt} (h:stmtB x=true) (h1:x.1=1∨x.1=3):exprB x.2.2=true:=by
 unfold stmtB at h;split at h
 ·rw[Bool.and_eq_true]at h;exact h.2
 ·rw[if_neg (by omega)]at h;split at h
  ·rw[Bool.and_eq_true]at h;exact h.2
  ·cases h
end Go.Proofs
end
section
namespace Go.Proofs
open Go.Sy
set_option maxRecDepth 20000
set_option maxHeartbeats 4000000
theorem kNum_n {w:Nat} {n:Nm} (h:kNum w=some n):nOf n=n:=by
 unfold kNum at h;split at h
 ·rw[←Option.some.inj h];simp only[nOf,wrp_wrp]
 ·cases h
theorem foldA_or (p:Prog) (kn:Wd) (a:Atm):foldA p kn a=a∨∃n,foldA p kn a=nAtm n∧nOf n=n:=by
 simp only[foldA];split
 ·cases h:kNum (kn[(idxS a.1.l (varsOf p) 0).toNat]?.getD 0).toNat with
  | none=>exact .inl rfl
  | some n=>exact .inr ⟨n,rfl,kNum_n h⟩
 ·exact .inl rfl
theorem isN_of {n:Nm} (h:nOf n=n):isN n=true:=decide_eq_true h.symm
theorem atmB_nAtm {n:Nm} (h:nOf n=n):atmB (nAtm n)=true:=by rw[atmB,if_pos rfl];exact isN_of h
theorem atmB_fold {p:Prog} {kn:Wd} {a:Atm} (h:atmB a=true):atmB (foldA p kn a)=true:=by
 rcases foldA_or p kn a with e | ⟨n,e,hn⟩
 ·rw[e];exact h
 ·rw[e];exact atmB_nAtm hn
theorem exprB_one {op:Int} {a:Atm} (h:op=0∨op=4) (ha:atmB a=true):exprB (op,a,za)=true:=by
 rw[exprB,if_pos (by simpa [op1] using h)];dsimp only
 rw[ha];simp
theorem exprB_two {op:Int} {a b:Atm} (h:op=1∨op=2∨op=3) (ha:atmB a=true) (hb:atmB b=true):exprB (op,a,b)=true:=by
 rw[exprB,if_neg (by simp [op1];omega),if_pos (by simpa [op2,or_assoc] using h)];dsimp only
 rw[ha,hb];rfl
theorem exprB_atms {x:Expr} (h:exprB x=true):atmB x.2.1=true∧((x.1=1∨x.1=2∨x.1=3)→atmB x.2.2=true):=by
 unfold exprB at h;split at h
 ·rename_i h1;rw[Bool.and_eq_true]at h
  have h1:x.1=0∨x.1=4:=by simpa [op1] using h1
  exact⟨h.1,fun h2=>by omega⟩
 ·split at h
  ·rw[Bool.and_eq_true]at h;exact⟨h.1,fun _=>h.2⟩
  ·cases h
theorem exprB_fold {p:Prog} {kn:Wd} {x:Expr} (h:exprB x=true):exprB (foldE p kn x)=true:=by
 have h2:=exprB_atms h
 rcases foldE_cases (p:=p) (kn:=kn) h with ⟨ho,hb,h3⟩ | ⟨ho,h3⟩
 ·rcases h3 with ⟨_,e⟩ | ⟨_,e⟩
  ·rw[e];exact exprB_one (.inl rfl) (atmB_nAtm (nOp_nOf _ _ _))
  ·rw[e];exact exprB_one ho (atmB_fold h2.1)
 ·rcases h3 with ⟨_,_,e⟩ | ⟨_,e⟩
  ·rw[e];exact exprB_one (.inl rfl) (atmB_nAtm (nOp_nOf _ _ _))
  ·rw[e];exact exprB_two ho (atmB_fold h2.1) (atmB_fold (h2.2 ho))
theorem foldE_op0 {p:Prog} {kn:Wd} {x:Expr} (h:exprB x=true) (h0:x.1=0):(foldE p kn x).1=0:=by
 rcases foldE_cases (p:=p) (kn:=kn) h with ⟨ho,hb,h3⟩ | ⟨ho,h3⟩
 ·rcases h3 with ⟨_,e⟩ | ⟨_,e⟩
  ·rw[e]
  ·rw[e];exact h0
 ·omega
theorem stmtB_fold {p:Prog} {kn:Wd} {x:Stmt} (h:stmtB x=true):stmtB (foldS p kn x)=true:=by
 by_cases h1:x.1=1∨x.1=3
 ·have hE:=stmtB_expr h h1;rw[foldS,if_pos h1]
  rcases h1 with h1 | h1
  ·rw[stmtB,if_pos h1]at h ⊢;rw[Bool.and_eq_true]at h ⊢;exact⟨h.1,exprB_fold hE⟩
  ·rw[stmtB,if_neg (by omega),if_neg (by omega),if_pos h1]at h;rw[stmtB,if_neg (by dsimp only;omega),if_neg (by dsimp only;omega),if_pos h1];rw[Bool.and_eq_true,Bool.and_eq_true]at h ⊢;exact⟨⟨h.1.1,decide_eq_true (foldE_op0 hE (dt h.1.2))⟩,exprB_fold hE⟩
 ·rw[foldS,if_neg h1];exact h
theorem foldT_parts (p:Prog) (i:Nat) (b:Block):(foldT p i b).1=b.2.2.1∧(foldT p i b).2.2=b.2.2.2.2:=by
 unfold foldT
 split<;>exact⟨rfl,rfl⟩
theorem termB_fold {p:Prog} {i:Nat} {b:Block} (h:termB b.2.2=true):termB (foldT p i b)=true:=by
 unfold foldT;split
 ·rename_i h2;rw[termB,if_neg (by omega),if_pos h2]at h;rw[termB,if_neg (by dsimp only;omega),if_pos h2];rw[Bool.and_eq_true,Bool.and_eq_true]at h ⊢;exact⟨h.1,atmB_fold h.2⟩
 ·exact h
theorem foldB_parts (p:Prog) (i:Nat) (b:Block):(foldB p i b).1=b.1∧(foldB p i b).2.2.1=b.2.2.1∧(foldB p i b).2.2.2.2=b.2.2.2.2:=by
 unfold foldB;split
 ·exact⟨rfl,rfl,rfl⟩
 ·exact⟨rfl,(foldT_parts p i b).1,(foldT_parts p i b).2⟩
theorem foldP_get {p:Prog} {i:Nat} {b:Block} (h:p[i]?=some b):(foldP p)[i]?=some (foldB p i b):=by rw[foldP,List.getElem?_mapIdx,h];rfl
theorem foldP_mem {p:Prog} {b':Block} (h:b'∈foldP p):∃i b,p[i]?=some b∧b'=foldB p i b:=by
 obtain⟨i,hi⟩:=List.getElem?_of_mem h;have hlt:=(List.getElem?_eq_some_iff.1 hi).1;rw[foldP_len]at hlt;have hb:=List.getElem?_eq_getElem hlt;rw[foldP_get hb]at hi;exact⟨i,p[i],hb,(Option.some.inj hi).symm⟩
theorem foldL_mem {p:Prog} {i:Nat} {b:Block} {x':Stmt} (h:x'∈foldL p i b):∃k x,b.2.1[k]?=some x∧x'=foldS p (knownAt p i b k) x:=by
 obtain⟨k,hk⟩:=List.getElem?_of_mem h;have hlt:=(List.getElem?_eq_some_iff.1 hk).1;rw[foldL_len]at hlt;have hb:=List.getElem?_eq_getElem hlt;rw[foldL,List.getElem?_mapIdx,hb]at hk;exact⟨k,b.2.1[k],hb,(Option.some.inj hk).symm⟩
theorem foldB_stmt {p:Prog} {i:Nat} {b:Block} {x':Stmt} (h:x'∈(foldB p i b).2.1):∃x∈b.2.1,x'=x∨∃kn,x'=foldS p kn x:=by
 unfold foldB at h;split at h
 ·exact⟨x',h,.inl rfl⟩
 ·obtain⟨k,x,hx,e⟩:=foldL_mem h;exact⟨x,List.mem_of_getElem? hx,.inr ⟨_,e⟩⟩
theorem foldA_names (p:Prog) (kn:Wd) (a:Atm):(foldA p kn a).1.l=a.1.l∨(foldA p kn a).1.l=[]:=by
 rcases foldA_or p kn a with e | ⟨n,e,_⟩
 ·exact .inl (by rw[e])
 ·exact .inr (by rw[e])
theorem foldE_names (p:Prog) (kn:Wd) (x:Expr):∀a∈[(foldE p kn x).2.1,(foldE p kn x).2.2],a.1.l≠[]→a.1.l=x.2.1.1.l∨a.1.l=x.2.2.1.l:=by
 intro a ha h0
 obtain⟨y1,hy1⟩:∃y1,y1=if 0<nAt x.1 then foldA p kn x.2.1 else x.2.1:=⟨_,rfl⟩
 obtain⟨y2,hy2⟩:∃y2,y2=if 1<nAt x.1 then foldA p kn x.2.2 else x.2.2:=⟨_,rfl⟩
 have e:foldE p kn x=if 0<nAt x.1∧y1.1.l=[]∧(nAt x.1=1∨y2.1.l=[]) then (0,(⟨[]⟩,nOp x.1 y1.2 y2.2),(⟨[]⟩,(0,0))) else (x.1,y1,y2):=by rw[hy1,hy2];rfl
 have n1:y1.1.l=x.2.1.1.l∨y1.1.l=[]:=by
  rw[hy1];split
  ·exact foldA_names _ _ _
  ·exact .inl rfl
 have n2:y2.1.l=x.2.2.1.l∨y2.1.l=[]:=by
  rw[hy2];split
  ·exact foldA_names _ _ _
  ·exact .inl rfl
 rw[e]at ha;split at ha
 ·simp only[List.mem_cons,List.not_mem_nil,or_false]at ha
  rcases ha with rfl | rfl<;>exact absurd rfl h0
 ·simp only[List.mem_cons,List.not_mem_nil,or_false]at ha
  rcases ha with rfl | rfl
  ·rcases n1 with n1 | n1
   ·exact .inl n1
   ·exact absurd n1 h0
  ·rcases n2 with n2 | n2
   ·exact .inr n2
   ·exact absurd n2 h0
theorem foldS_names {p:Prog} {kn:Wd} {x:Stmt}:∀t∈sVars (foldS p kn x),t≠[]→t∈sVars x:=by
 intro t ht h0;unfold foldS at ht;split at ht
 ·simp only[List.mem_cons,List.not_mem_nil,or_false]at ht ⊢
  rcases ht with rfl | rfl | rfl
  ·exact .inl rfl
  ·exact .inr (foldE_names p kn x.2.2 (foldE p kn x.2.2).2.1 (by simp) h0)
  ·exact .inr (foldE_names p kn x.2.2 (foldE p kn x.2.2).2.2 (by simp) h0)
 ·exact ht
theorem vars_fold {p:Prog}:∀t∈varsOf (foldP p),t∈varsOf p:=by
 intro t ht
 have h0:t≠[]:=fun e=>by
  have:=vIdx_mem ht;rw[e]at this;have:=vIdx_nil (foldP p);omega
 rcases vars_mem (foldP p) ht with h | ⟨b',hb',h⟩
 ·cases h
 ·obtain⟨i,b,hb,rfl⟩:=foldP_mem hb';have hm:=List.mem_of_getElem? hb;have hv:=(vars_has p nil_sorted).1 b hm
  rcases h with h | ⟨x',hx',h⟩
  ·unfold foldB at h;split at h
   ·rw[h]at h0 ⊢;exact hv.2 h0
   ·unfold foldT at h;split at h
    ·rcases foldA_names p (knownAt p i b b.2.1.length) b.2.2.2.1 with e | e
     ·rw[h]at h0 ⊢;dsimp only at h0 ⊢;rw[e]at h0 ⊢;exact hv.2 h0
     ·rw[h]at h0;exact absurd e h0
    ·rw[h]at h0 ⊢;exact hv.2 h0
  ·obtain⟨x,hx,e | ⟨kn,e⟩⟩:=foldB_stmt hx'
   ·rw[e]at h;exact hv.1 x hx t h h0
   ·rw[e]at h;exact hv.1 x hx t (foldS_names t h h0) h0
theorem vars_nodup (p:Prog):(varsOf p).Nodup:=by
 have hs:SortedS (varsOf p):=vars_sorted p nil_sorted;exact List.Pairwise.imp (fun {a b} (h:a<b) (e:a=b)=>slt_irrefl b (by rw[e]at h;exact h)) hs
theorem vars_fold_len (p:Prog):(varsOf (foldP p)).length≤(varsOf p).length:=List.Nodup.length_le_of_subset (vars_nodup _) (fun t ht=>vars_fold t ht)
theorem foldP_names (p:Prog):nms (foldP p)=nms p:=by
 apply List.ext_getElem?;intro i;rw[List.getElem?_map,List.getElem?_map]
 cases h:p[i]? with
 | none =>
  rw[List.getElem?_eq_none (by rw[foldP_len];exact List.getElem?_eq_none_iff.1 h)]
 | some b=>rw[foldP_get h,Option.map_some,Option.map_some,(foldB_parts p i b).1]
theorem sum_map_eq {α β:Type} (f:α→Nat) (g:β→Nat):∀(l:List α) (m:List β),l.length=m.length→(∀(i:Nat) (a:α) (b:β),l[i]?=some a→m[i]?=some b→f a=g b)→(l.map f).sum=(m.map g).sum
 | [],[],_,_=>rfl
 | [],b::m,h,_=>by cases h
 | a::l,[],h,_=>by cases h
 | a::l,b::m,h,h1=>by
  rw[List.map_cons,List.map_cons,List.sum_cons,List.sum_cons,h1 0 a b rfl rfl,sum_map_eq f g l m (by simpa using h) (fun i a b=>h1 (i+1) a b)]
theorem foldP_stmts (p:Prog):stmtsN (foldP p)=stmtsN p:=by
 unfold stmtsN
 refine sum_map_eq _ _ _ _ (foldP_len p) fun i a b h1 h2=>?_
 rw[foldP_get h2]at h1;rw[←Option.some.inj h1,foldB_len]
theorem stmts_512' {p:Prog} (h:checkE p=0):stmtsN p≤512:=by
 unfold checkE at h;split at h
 ·cases h
 ·omega
theorem check_nodup {p:Prog} (h:checkE p=0):(bnames p).Nodup:=by
 unfold checkE at h;split at h
 ·cases h
 ·split at h
  ·split at h
   ·cases h
   ·split at h
    ·assumption
    ·cases h
  ·cases h
theorem fold_check {p:Prog} (h:checkE p=0):checkE (foldP p)=0:=by
 have hf:=check_facts h;have h5:=stmts_512' h
 have hb:∀b'∈foldP p,blockB b'=true:=fun b' hb'=>by
  obtain⟨i,b,hb,rfl⟩:=foldP_mem hb';have hm:=List.mem_of_getElem? hb;have h1:=hf.2.2.2 b hm;have h2:=block_stmts h1;rw[blockB,Bool.and_eq_true,Bool.and_eq_true]at h1;rw[blockB,Bool.and_eq_true,Bool.and_eq_true];refine⟨⟨by rw[(foldB_parts p i b).1];exact h1.1.1,?_⟩,List.all_eq_true.2 fun x' hx'=>?_⟩
  ·unfold foldB;split
   ·exact h1.1.2
   ·exact termB_fold h1.1.2
  ·obtain⟨x,hx,e | ⟨kn,e⟩⟩:=foldB_stmt hx'
   ·rw[e];exact h2 x hx
   ·rw[e];exact stmtB_fold (h2 x hx)
 have hn:bnames (foldP p)=bnames p:=foldP_names p
 have hg:∀b'∈foldP p,∀t∈goes b'.2.2,t∈bnames (foldP p):=fun b' hb' t ht=>by
  obtain⟨i,b,hb,rfl⟩:=foldP_mem hb';have hp:=foldB_parts p i b;rw[hn];refine check_goes h (List.mem_of_getElem? hb) ?_;unfold goes at ht ⊢;rw[hp.2.1,hp.2.2]at ht;exact ht
 have hd:(bnames p).Nodup:=check_nodup h;have hv:=vars_fold_len p;unfold checkE;rw[if_neg (by rw[foldP_len,foldP_stmts];omega),if_pos (List.all_eq_true.2 hb),if_neg (by omega),if_pos (by rw[hn];exact hd),if_pos (List.all_eq_true.2 fun b hb=>List.all_eq_true.2 fun t ht=>decide_eq_true (hg b hb t ht))]
end Go.Proofs
end
section
namespace Go.Proofs
open Go.Sy
set_option maxRecDepth 20000
set_option maxHeartbeats 4000000
theorem doL_app (v:Wd) (l m:List Cd):doL v (l++m)=doL (doL v l) m:=by rw[doL,List.foldl_append];rfl
theorem known_no0 {p:Prog} {i:Nat} {b:Block} {k:Nat} (h:¬has0 (aAt (solveS (sysOf p)) i)=true):knownAt p i b k=doL (aAt (solveS (sysOf p)) i) (codesOf p (b.2.1.take k)):=by rw[knownAt,vApp,if_neg h]
theorem foldB_no0 {p:Prog} {i:Nat} {b:Block} (h:¬has0 (aAt (solveS (sysOf p)) i)=true):foldB p i b=(b.1,foldL p i b,foldT p i b):=by rw[foldB,if_neg (by rw[nev];exact h)]
end Go.Proofs
end
section
namespace Go.Proofs
open Go.Sy
set_option maxRecDepth 20000
set_option maxHeartbeats 4000000
end Go.Proofs
end
section
namespace Go.Proofs
open Go.Sy
set_option maxRecDepth 20000
set_option maxHeartbeats 4000000
def restE (p q:Prog) (e:List Nm):List Nm:=(varsOf q).map fun t=>e[(vIdx p t).toNat]?.getD (0,0)
theorem restE_len (p q:Prog) (e:List Nm):(restE p q e).length=(varsOf q).length:=List.length_map _
theorem restE_at {p q:Prog} {e:List Nm} {j:Nat} (hj:j<(varsOf q).length):(restE p q e)[j]?=some (e[(vIdx p (varsOf q)[j]).toNat]?.getD (0,0)):=by
 rw[restE,List.getElem?_map,List.getElem?_eq_getElem hj];rfl
theorem restE_idx {p q:Prog} {e:List Nm} {t:Bs8} (h:t∈varsOf q):(restE p q e)[(vIdx q t).toNat]?=some (e[(vIdx p t).toNat]?.getD (0,0)):=by
 obtain⟨j,h1,h2,h3⟩:=vIdx_get h;rw[h1,Int.toNat_natCast,restE_at h2]
 have e2:(varsOf q)[j]=t:=by rw[List.getElem?_eq_getElem h2]at h3;exact Option.some.inj h3
 rw[e2]
theorem restE_set {p q:Prog} (hs:∀t∈varsOf q,t∈varsOf p) {e:List Nm} (he:e.length=(varsOf p).length) {t:Bs8} (ht:t∈varsOf q) (n:Nm):restE p q (setAt p e t n)=setAt q (restE p q e) t n:=by
 apply List.ext_getElem?;intro i
 by_cases hi:i<(varsOf q).length
 ·have hm:(varsOf q)[i]∈varsOf q:=List.getElem_mem hi;obtain⟨j1,e1,l1,_⟩:=vIdx_get (hs t ht);obtain⟨j2,e2,l2,g2⟩:=vIdx_get ht;obtain⟨j3,e3,l3,_⟩:=vIdx_get (hs _ hm);have hj:=vIdx_at hi;rw[restE_at hi,setAt,setAt,List.getElem?_set,List.getElem?_set,restE_at hi,restE_len,he]
  by_cases h:t=(varsOf q)[i]
  ·rw[←h]at hj e3
   rw[←h,if_pos rfl,if_pos (by omega),if_pos (by omega),if_pos (by omega)];rfl
  ·have n1:¬(vIdx p t).toNat=(vIdx p (varsOf q)[i]).toNat:=fun e=>h (vIdx_inj (hs t ht) (hs _ hm) (by omega))
   have n2:¬(vIdx q t).toNat=i:=fun e=>h (vIdx_inj ht hm (by omega))
   rw[if_neg n1,if_neg n2]
 ·rw[List.getElem?_eq_none (by rw[restE_len];omega),List.getElem?_eq_none (by rw[setAt,List.length_set,restE_len];omega)]
theorem fold_val {p q:Prog} {kn:Wd} {e:List Nm} (hk:kn.length=(varsOf p).length) (hab:absV kn e) {a:Atm} (ha:a.1.l≠[]→a.1.l∈varsOf p) (hm:(foldA p kn a).1.l≠[]→(foldA p kn a).1.l∈varsOf q):
  valA q (restE p q e) (foldA p kn a)=valA p e a:=by
 by_cases h0:a.1.l=[]
 ·rw[foldA_nil h0,valA,valA,if_pos h0,if_pos h0]
 ·have h1:=ha h0;have h2:=vIdx_mem h1;have hf:=foldA_var h1 (kn:=kn) hk
  have hlt:(vIdx p a.1.l).toNat<e.length:=by rw[←hab.1,hk];omega
  have hg:=List.getElem?_eq_getElem hlt
  have eR:valA p e a=e[(vIdx p a.1.l).toNat]:=by rw[valA,if_neg h0,if_pos h2.1,hg];rfl
  rw[eR]
  cases hn:kNum (wAt kn (vIdx p a.1.l).toNat) with
  | some n =>
   have hf:foldA p kn a=(⟨[]⟩,n):=by rw[hn]at hf;exact hf
   rw[hf,valA,if_pos rfl];have h3:=(hab.2 _ _ hg).2 n hn;rw[←h3];exact kNum_n hn
  | none =>
   have hf:foldA p kn a=a:=by rw[hn]at hf;exact hf
   rw[hf]at hm ⊢;have h3:=hm h0;have h4:=vIdx_mem h3
   rw[valA,if_neg h0,if_pos h4.1,restE_idx h3,hg];rfl
theorem val_nAtm {q:Prog} {e:List Nm} (n:Nm):valA q e (nAtm n)=nOf n:=by rw[valA,if_pos rfl]
theorem fold_eval {p q:Prog} {kn:Wd} {e:List Nm} (hk:kn.length=(varsOf p).length) (hab:absV kn e) {x:Expr} (hx:exprB x=true) (hA:∀a∈[x.2.1,x.2.2],a.1.l≠[]→a.1.l∈varsOf p)
  (hm:∀a∈[(foldE p kn x).2.1,(foldE p kn x).2.2],a.1.l≠[]→a.1.l∈varsOf q):
  nOp (foldE p kn x).1 (valA q (restE p q e) (foldE p kn x).2.1) (valA q (restE p q e) (foldE p kn x).2.2)=nOp x.1 (valA p e x.2.1) (valA p e x.2.2):=by
 have hA1:=hA x.2.1 (by simp);have hA2:=hA x.2.2 (by simp)
 rcases foldE_cases (p:=p) (kn:=kn) hx with ⟨ho,hb,h⟩ | ⟨ho,h⟩
 ·rcases h with ⟨hy,e1⟩ | ⟨hy,e1⟩
  ·have h1:=fold_val (q:=q) hk hab hA1 (fun hh=>absurd hy hh);rw[atm_nil hy,val_nAtm]at h1;rw[e1];dsimp only;rw[val_nAtm,nOp_zero,nOp_nOf,nOp_nOf,←h1,nOp_one ho _ (valA p e x.2.2) (nOf (0,0)),nOp_in_of (by omega)]
  ·rw[e1]at hm ⊢;have h1:=fold_val (q:=q) hk hab hA1 (hm _ (by simp));dsimp only;rw[h1,hb,show za=nAtm (0,0) from rfl,val_nAtm,val_nAtm]
 ·rcases h with ⟨hy,hy2,e1⟩ | ⟨hy,e1⟩
  ·have h1:=fold_val (q:=q) hk hab hA1 (fun hh=>absurd hy hh);have h2:=fold_val (q:=q) hk hab hA2 (fun hh=>absurd hy2 hh);rw[atm_nil hy,val_nAtm]at h1;rw[atm_nil hy2,val_nAtm]at h2;rw[e1];dsimp only;rw[val_nAtm,nOp_zero,nOp_nOf,nOp_nOf,←h1,←h2,nOp_in_of (by omega)]
  ·rw[e1]at hm ⊢;have h1:=fold_val (q:=q) hk hab hA1 (hm _ (by simp));have h2:=fold_val (q:=q) hk hab hA2 (hm _ (by simp));dsimp only;rw[h1,h2]
def restS (p q:Prog) (s:StE):StE:=(s.1,restE p q s.2.1,s.2.2)
theorem fold_do {p q:Prog} (hs:∀t∈varsOf q,t∈varsOf p) {inn:List Nm} {kn:Wd} {s:StE} (hk:kn.length=(varsOf p).length) (hab:absV kn s.2.1) {x:Stmt} (hx:stmtB x=true) (hp:∀t∈sVars x,t≠[]→t∈varsOf p) (hm:∀t∈sVars (foldS p kn x),t≠[]→t∈varsOf q):
  doS q inn (restS p q s) (foldS p kn x)=restS p q (doS p inn s x):=by
 have hl:s.2.1.length=(varsOf p).length:=by rw[←hab.1,hk]
 rcases stmtB_var hx with ⟨h1,h2,h3,h4⟩ | ⟨h1,h4⟩ | ⟨h1,h4⟩
 ·have hf:foldS p kn x=(x.1,x.2.1,foldE p kn x.2.2):=by rw[foldS,if_pos (.inl h1)]
  rw[hf]at hm ⊢;have hv:x.2.1.l∈varsOf q:=hm _ (by simp) h4
  have hE:=fold_eval (q:=q) hk hab (stmtB_expr hx (.inl h1)) (fun a ha=>hp _ (by simp at ha ⊢;rcases ha with rfl | rfl<;>simp)) (fun a ha=>hm _ (by simp at ha ⊢;rcases ha with rfl | rfl<;>simp))
  rw[doS,doS,if_pos h1,if_pos h1];simp only[restS];rw[hE,restE_set hs hl hv]
 ·have hf:foldS p kn x=x:=by rw[foldS,if_neg (by omega)]
  rw[hf]at hm ⊢;have hv:x.2.1.l∈varsOf q:=hm _ (by simp) h4;rw[doS,doS,if_neg (by omega),if_pos h1,if_neg (by omega),if_pos h1];simp only[restS];rw[restE_set hs hl hv]
 ·have hf:foldS p kn x=(x.1,x.2.1,foldE p kn x.2.2):=by rw[foldS,if_pos (.inr h1)]
  rw[hf]at hm ⊢;have hE:=stmtB_expr hx (.inr h1)
  have hop:x.2.2.1=0:=by
   rw[stmtB,if_neg (by omega),if_neg (by omega),if_pos h1,Bool.and_eq_true,Bool.and_eq_true]at hx;exact dt hx.1.2
  have hA1:x.2.2.2.1.1.l≠[]→_:=hp x.2.2.2.1.1.l (by simp)
  have hval:valA q (restE p q s.2.1) (foldE p kn x.2.2).2.1=valA p s.2.1 x.2.2.2.1:=by
   rcases foldE_cases (p:=p) (kn:=kn) hE with ⟨ho,hb,h⟩ | ⟨ho,h⟩
   ·rcases h with ⟨hy,e1⟩ | ⟨hy,e1⟩
    ·have h5:=fold_val (q:=q) hk hab hA1 (fun hh=>absurd hy hh);rw[atm_nil hy,val_nAtm]at h5;rw[e1];dsimp only;rw[val_nAtm,nOp_nOf,hop,nOp_zero,h5]
    ·rw[e1]at hm ⊢;exact fold_val (q:=q) hk hab hA1 (hm _ (by simp))
   ·omega
  rw[doS,doS,if_neg (by dsimp only;omega),if_neg (by dsimp only;omega),if_pos h1,if_neg (by omega),if_neg (by omega),if_pos h1];simp only[restS];rw[hval]
theorem doAll_snoc' (p:Prog) (inn:List Nm) (s:StE) {l:List Stmt} {k:Nat} {x:Stmt} (h:l[k]?=some x):doAll p inn s (l.take (k+1))=doS p inn (doAll p inn s (l.take k)) x:=by
 rw[doAll,List.take_add_one,h,Option.toList_some,List.foldl_append];rfl
theorem fold_pre {p:Prog} (he:checkE p=0) {inn:List Nm} {s:StE} (hok:okSt p s) {b:Block} (hb:p[s.1.toNat]?=some b):
  ∀k,k≤b.2.1.length→doAll (foldP p) inn (restS p (foldP p) s) ((foldL p s.1.toNat b).take k)=restS p (foldP p) (doAll p inn s (b.2.1.take k))∧absV (knownAt p s.1.toNat b k) (doAll p inn s (b.2.1.take k)).2.1
 | 0,_=>by
  have hz:=absV_has0 hok.2.2;refine⟨rfl,?_⟩;rw[known_no0 (by rw[hz];decide)];exact hok.2.2
 | k+1,hk=>by
  have hf:=check_facts he;have hm:=List.mem_of_getElem? hb;have hlt:s.1.toNat<p.length:=(List.getElem?_eq_some_iff.1 hb).1;obtain⟨ih,ih2⟩:=fold_pre he (inn:=inn) hok hb k (by omega);have hx:b.2.1[k]?=some b.2.1[k]:=List.getElem?_eq_getElem (by omega);have hxm:=List.getElem_mem (show k<b.2.1.length by omega);have hst:=block_stmts (hf.2.2.2 b hm)
  have hz:¬has0 (aAt (solveS (sysOf p)) s.1.toNat)=true:=by rw[absV_has0 hok.2.2];decide
  have hL:(foldL p s.1.toNat b)[k]?=some (foldS p (knownAt p s.1.toNat b k) b.2.1[k]):=by rw[foldL,List.getElem?_mapIdx,hx];rfl
  have hqm:(b.1,foldL p s.1.toNat b,foldT p s.1.toNat b)∈foldP p:=by rw[←foldB_no0 hz];exact List.mem_of_getElem? (foldP_get hb)
  have hkw:okW (varsOf p).length (aAt (solveS (sysOf p)) s.1.toNat):=aAt_ok (solveS_ok (sysOf_ok he)) hlt
  have hkl:okW (varsOf p).length (knownAt p s.1.toNat b k):=by rw[known_no0 hz];exact doL_ok _ hkw
  have hsn:=doAll_snoc' p inn s hx;refine⟨?_,?_⟩
  ·rw[doAll_snoc' (foldP p) inn _ hL,ih,hsn];exact fold_do vars_fold hkl.1 ih2 (hst _ hxm) (fun t ht h0=>((vars_has p nil_sorted).1 b hm).1 _ hxm t ht h0) (fun t ht h0=>((vars_has (foldP p) nil_sorted).1 _ hqm).1 _ (List.mem_of_getElem? hL) t ht h0)
  ·rw[hsn,known_no0 hz,codesOf_take hx,doL_app,←known_no0 hz];exact absV_do hkl ih2 hm hxm (hst _ hxm)
theorem fold_round {p:Prog} (he:checkE p=0) {inn:List Nm} {s:StE} (hok:okSt p s):folS (foldP p) (runB (foldP p) inn (restS p (foldP p) s))=(restS p (foldP p) (folS p (runB p inn s)).1,(folS p (runB p inn s)).2):=by
 have hf:=check_facts he;have h1:=hok.1
 have hlt:s.1.toNat<p.length:=by omega
 obtain⟨b,hb⟩:∃b,p[s.1.toNat]?=some b:=⟨_,List.getElem?_eq_getElem hlt⟩
 have hm:=List.mem_of_getElem? hb
 have hz:¬has0 (aAt (solveS (sysOf p)) s.1.toNat)=true:=by rw[absV_has0 hok.2.2];decide
 have hq:=foldP_get hb;rw[foldB_no0 hz]at hq;have hqm:=List.mem_of_getElem? hq;obtain⟨h2,h3⟩:=fold_pre he (inn:=inn) hok hb b.2.1.length (Nat.le_refl _);rw[List.take_length]at h2 h3;rw[List.take_of_length_le (by rw[foldL_len];exact Nat.le_refl _)]at h2
 have er:runB p inn s=doAll p inn s b.2.1:=by rw[runB,blkN_get hb]
 have eq:runB (foldP p) inn (restS p (foldP p) s)=restS p (foldP p) (doAll p inn s b.2.1):=by
  rw[runB,show (restS p (foldP p) s).1=s.1 from rfl,blkN_get hq];exact h2
 have hd:=doAll_blk p inn b.2.1 s;rw[eq,er];generalize doAll p inn s b.2.1=t at h3 hd ⊢;have hkw:okW (varsOf p).length (aAt (solveS (sysOf p)) s.1.toNat):=aAt_ok (solveS_ok (sysOf_ok he)) hlt
 have hkl:(knownAt p s.1.toNat b b.2.1.length).length=(varsOf p).length:=by rw[known_no0 hz];exact (doL_ok _ hkw).1
 have ht1:(restS p (foldP p) t).1=s.1:=hd.1;have hT:=foldT_parts p s.1.toNat b;unfold folS;rw[ht1,hd.1,blkN_get hb,blkN_get hq];dsimp only;rw[hT.1];split
 ·rfl
 ·have hg:goTo (foldP p) (restS p (foldP p) t) (foldT p s.1.toNat b)=goTo p t b.2.2:=by
   rw[goTo,goTo,hT.1,hT.2]
   by_cases h2:b.2.2.1=2
   ·have e:(foldT p s.1.toNat b).2.1=foldA p (knownAt p s.1.toNat b b.2.1.length) b.2.2.2.1:=by rw[foldT,if_pos h2]
    have hv:valA (foldP p) (restS p (foldP p) t).2.1 (foldT p s.1.toNat b).2.1=valA p t.2.1 b.2.2.2.1:=by
     have h5:=((vars_has (foldP p) nil_sorted).1 _ hqm).2;rw[e]at h5 ⊢;exact fold_val hkl h3 (fun h=>((vars_has p nil_sorted).1 b hm).2 h) (fun h=>h5 h)
    rw[hv]
   ·rw[if_neg (fun h=>h2 h.1),if_neg (fun h=>h2 h.1)]
  rw[hg,bIdx,bIdx,foldP_names]
  rfl
theorem fold_start (p:Prog) (_he:checkE p=0):start0 (foldP p)=restS p (foldP p) (start0 p):=by
 have e:List.replicate (varsOf (foldP p)).length ((0,0):Nm)=restE p (foldP p) (List.replicate (varsOf p).length (0,0)):=by
  apply List.ext_getElem?;intro i
  by_cases hi:i<(varsOf (foldP p)).length
  ·have hm:=vIdx_mem (vars_fold _ (List.getElem_mem hi))
   rw[restE_at hi,List.getElem?_replicate,List.getElem?_replicate,if_pos hi,if_pos (by omega)];rfl
  ·rw[List.getElem?_eq_none (by rw[List.length_replicate];omega),List.getElem?_eq_none (by rw[restE_len];omega)]
 rw[start0,start0,restS];dsimp only;rw[e]
theorem fold_it {p:Prog} (he:checkE p=0) (inn:List Nm):∀k,itS (foldP p) inn (start0 (foldP p)) k=((itS p inn (start0 p) k).1.map (restS p (foldP p)),restS p (foldP p) (itS p inn (start0 p) k).2.1,(itS p inn (start0 p) k).2.2)
 | 0=>by rw[itS,itS,fold_start p he];rfl
 | k+1=>by
  have ih:=fold_it he inn k;have hok:=(itS_inv (inn:=inn) (okSt p) (okSt_start he) (fun _ hs hg=>okSt_step he hs hg) k).2
  by_cases hg:(itS p inn (start0 p) k).2.2=true
  ·rw[itS_step hg,itS_step (by rw[ih];exact hg),ih];dsimp only
   rw[fold_round he (hok hg),List.map_append];rfl
  ·have hg':(itS p inn (start0 p) k).2.2=false:=by simpa using hg
   rw[itS_stop hg',itS_stop (by rw[ih];exact hg')];exact ih
end Go.Proofs
end
section
namespace Go.Proofs
open Go.Sy
set_option maxRecDepth 20000
set_option maxHeartbeats 4000000
theorem some1_spec {s:Bs8} {H:Hp} {K:Value→Hp→Prop} (hK:K (.bool (!decide (s=[]))) H):Does Tryz.prog 164 [.string (bs s)] H K:=by
 refine spec_of cx_ok cx_mix rfl Tryz.func164 Tryz.call164 Tryz.ntmps164 Tryz.results164 rfl rfl ?_;exact hK
def someL (l:List Bs8):List Bs8:=l.filter fun s=>!decide (s=[])
theorem someL_take {l:List Bs8} {i:Nat} {s:Bs8} (h:l[i]?=some s):someL (l.take (i+1))=if s=[] then someL (l.take i) else someL (l.take i)++[s]:=by
 rw[someL,List.take_add_one,h,Option.toList_some,List.filter_append]
 by_cases hs:s=[]
 ·simp [someL,hs]
 ·simp [someL,hs]
theorem str_k {P:Prop} {H:Hp} {a:Option Addr} {n c:Nat} {l:List Bs8} (h:RL H a n c (ens l)) {i:Nat} {s:Bs8} (hi:l[i]?=some s) (k:∀ad,a=some ad→ElemH H ad (i:Int) 1 [.string (bs s)]→s.length≤9223372036854775807→P):P :=
 elem_k h (i:=i) (x:=(⟨s⟩:Str)) (by rw[List.getElem?_map,hi];rfl) fun ad cs h1 h2 h3=>by
  obtain⟨rfl,h4⟩:=h3;exact k ad h1 h2 h4
theorem ens_small {H:Hp} {a:Option Addr} {n c:Nat} {l:List Bs8} (h:RL H a n c (ens l)):∀s∈l,s.length≤9223372036854775807:=fun s hs=>by
 obtain⟨i,hi⟩:=List.getElem?_of_mem hs
 exact str_k h hi fun _ _ _ h=>h
theorem picked_spec {l:List Bs8} (hl:l.length≤100000) {a:Option Addr} {n c:Nat} {H:Hp} {K:SV→St→Hp→Prop} (ha:RL H a n c (ens l)) (hK:K (.own 0) ⟨[],[(0,.row 9 1 (sRows (someL l)))],1⟩ H):
  DoesG Tryz.prog 163 [.v (.slice a n c),.fn 164 []] [] 0 H K:=by
 have hn1:=ha.n_eq;rw[List.length_map]at hn1;refine spec_ofG cx_ok cx_mix Tryz.func163 Tryz.call163 Tryz.ntmps163 Tryz.results163 rfl rfl ?_
 refine⟨Nat,fun i=>⟨[(1,.fn 164 []),(5,.own 0),(8,.v (.slice a n c)),(9,.v (.int .i64 n)),(10,.v (.int .i64 i))],[(0,.row 9 1 (sRows (someL (l.take i))))],1⟩,
  fun i H'=>H'=H∧i≤l.length,fun i=>l.length - i,⟨0,[],?_,rfl,Nat.zero_le _⟩,?_⟩
 ·(repeat' (first|exact trivial|refine⟨?_,?_⟩|exact rfl|assumption))
 rintro i H1 _ ⟨rfl,hi⟩;refine⟨fun h=>?_,fun h=>?_⟩
 ·have hlt:i<l.length:=by have:=dt h;omega
  have hlv:=someL_take (List.getElem?_eq_getElem hlt)
  have hlen:(sRows (someL (l.take i))).length≤i:=by
   rw[List.length_map];exact Nat.le_trans (List.length_filter_le _ _) (by rw[List.length_take];omega)
  refine str_k ha (List.getElem?_eq_getElem hlt) fun ad e1 hh hsz=>?_
  refine⟨ad,⟨by omega,by omega,e1⟩,?_⟩;refine⟨_,hh,?_⟩;refine some1_spec ?_;refine⟨fun h=>?_,fun h=>?_⟩
  ·have hne:¬l[i]=[]:=nt h;rw[if_neg hne]at hlv
   have e:sRows (someL (l.take i))++[[.string (bs l[i])]]=sRows (someL (l.take (i+1))):=by rw[hlv,←sRows_snoc]
   refine⟨⟨by show (_+1)*16≤140737488355328;omega,by show _+1≤9223372036854775807;omega⟩,?_⟩;refine⟨⟨by omega,by omega⟩,i+1,[(0,2)],?_,⟨rfl,hlt⟩,by dsimp only;omega⟩
   (repeat' (first|exact trivial|refine⟨?_,?_⟩|exact rfl|assumption))
  ·have heq:l[i]=[]:=nf h;rw[if_pos heq]at hlv
   have e:sRows (someL (l.take i))=sRows (someL (l.take (i+1))):=by rw[hlv]
   refine⟨⟨by omega,by omega⟩,i+1,[(0,0)],?_,⟨rfl,hlt⟩,by dsimp only;omega⟩
   (repeat' (first|exact trivial|refine⟨?_,?_⟩|exact rfl|assumption))
 ·have hil:i=l.length:=by have:=df h;omega
  rw[hil,List.take_length];exact⟨.own 0,[(0,.row 9 1 (sRows (someL l)))],1,[(0,0)],by (repeat' (first|exact trivial|refine⟨?_,?_⟩|exact rfl|assumption)),hK⟩
def nmsOf (l:List Bs8):List Bs8:=putAll l []
theorem nil_sortedS:SortedS ([]:List Bs8):=List.Pairwise.nil
theorem putAll_some:∀(vs:List Bs8) {o:List Bs8},¬[]∈o→¬[]∈putAll vs o
 | [],_,h=>h
 | v::r,o,h=>by
  refine putAll_some r (o:=putS v o) fun hm=>?_
  by_cases hv:v=[]
  ·rw[hv,putS_nil]at hm;exact h hm
  ·rcases putS_mem hm with hm | hm
   ·exact h hm
   ·exact hv hm.symm
theorem nmsOf_mem {l:List Bs8} {t:Bs8}:t∈nmsOf l↔t∈l∧t≠[]:=by
 constructor
 ·intro h;refine⟨(putAll_mem l h).resolve_left (by simp),fun e=>?_⟩;subst e;exact putAll_some l (o:=[]) (by simp) h
 ·intro h;exact (putAll_has l nil_sortedS).1 t h.1 h.2
theorem nmsOf_gSort (l:List Bs8):gSort (someL l)=nmsOf l:=by
 refine (gSort_eq (l':=nmsOf l) ?_ fun t=>?_).symm
 ·exact putAll_sorted l nil_sortedS
 ·rw[nmsOf_mem,someL,List.mem_filter];simp
theorem lsorted_spec {l:List Bs8} (hl:l.length≤100000) {a:Option Addr} {n c:Nat} {H:Hp} {K:Value→Hp→Prop} (ha:RL H a n c (ens l)) (hK:∀a1 n1 c1 H',Le H H'→RL H' a1 n1 c1 (ens (nmsOf l))→K (.slice a1 n1 c1) H'):
  Does Tryz.prog 106 [.slice a n c] H K:=by
 have hsm:=ens_small ha;have hle:(someL l).length≤l.length:=List.length_filter_le _ _;refine spec_of cx_ok cx_mix rfl Tryz.func106 Tryz.call106 Tryz.ntmps106 Tryz.results106 rfl rfl ?_;refine⟨[],rfl,picked_spec hl ha ?_⟩;refine⟨[0],rfl,sortS_spec (l:=someL l) (by omega) fun l' hl' hp hg=>?_⟩;refine⟨[0],rfl,compS_spec (l:=l') (by omega) ?_⟩;rw[hg,nmsOf_gSort];intro v H6 hle6 hv6;obtain⟨a7,n7,c7,rfl,hr7⟩:=RL.of_row (α:=Str) hv6 (rc_sRows fun s hs=>hsm s (nmsOf_mem.1 hs).1);exact hK _ _ _ _ hle6.le hr7
end Go.Proofs
end
section
namespace Go.Proofs
open Go.Sy
set_option maxRecDepth 20000
set_option maxHeartbeats 4000000
def useL (x:Stmt):List Bs8:=if x.1=1 then (atomsOf x.2.2).map (fun a=>a.1.l) else if x.1=3 then [x.2.2.2.1.1.l] else []
def usesS (x:Stmt):List Bs8:=nmsOf (useL x)
theorem atomsOf_lenU (x:Expr):(atomsOf x).length≤2:=by
 unfold atomsOf;split
 ·simp
 ·split<;>simp
theorem useL_len (x:Stmt):(useL x).length≤2:=by
 unfold useL;split
 ·rw[List.length_map];exact atomsOf_lenU _
 ·split<;>simp
theorem luses_spec {x:Stmt} (hx:stmtR x) {H:Hp} {K:Value→Hp→Prop} (hK:∀a1 n1 c1 H',Le H H'→RL H' a1 n1 c1 (ens (usesS x))→K (.slice a1 n1 c1) H'):
  Does Tryz.prog 68 [stmtA x] H K:=by
 have hsm:∀s∈useL x,s.length≤9223372036854775807:=fun s hs=>by
  unfold useL at hs;split at hs
  ·obtain⟨y,hy,rfl⟩:=List.mem_map.1 hs;exact (atomsOf_R hx.2.2 y hy).1
  ·split at hs
   ·rw[List.mem_singleton.1 hs];exact hx.2.2.2.1.1
   ·cases hs
 have hlen:=useL_len x;refine spec_of cx_ok cx_mix rfl Tryz.func68 Tryz.call68 Tryz.ntmps68 Tryz.results68 rfl rfl ?_;refine⟨fun h=>?_,fun h=>?_⟩
 ·have hk:x.1=1:=dt h;have hu:useL x=(atomsOf x.2.2).map (fun a=>a.1.l):=if_pos hk
  refine patoms_spec hx.2.2 fun a n c H1 hle1 hr1=>?_
  have hn1:=hr1.n_eq;have hal:=atomsOf_lenU x.2.2
  refine⟨Nat,fun i=>⟨[(3,.own 0),(12,.v (.slice a n c)),(13,.v (.int .i64 n)),(14,.v (.int .i64 i))],[(0,.row 9 1 (sRows ((useL x).take i)))],1⟩,
   fun i H'=>H'=H1∧i≤(atomsOf x.2.2).length,fun i=>(atomsOf x.2.2).length - i,⟨0,[],?_,rfl,Nat.zero_le _⟩,?_⟩
  ·(repeat' (first|exact trivial|refine⟨?_,?_⟩|exact rfl|assumption))
  rintro i H2 _ ⟨rfl,hi⟩
  have hrl:(sRows ((useL x).take i)).length≤2:=by rw[List.length_map,List.length_take];omega
  refine⟨fun h=>?_,fun h=>?_⟩
  ·have hlt:i<(atomsOf x.2.2).length:=by have:=dt h;omega
   have hui:(useL x)[i]?=some (atomsOf x.2.2)[i].1.l:=by rw[hu,List.getElem?_map,List.getElem?_eq_getElem hlt];rfl
   have e:sRows ((useL x).take i)++[[.string (bs (atomsOf x.2.2)[i].1.l)]]=sRows ((useL x).take (i+1)):=by
    rw[List.take_add_one,hui,Option.toList_some,←sRows_snoc]
   refine atom_k hr1 (List.getElem?_eq_getElem hlt) fun ad e1 hh _=>?_
   refine⟨ad,⟨by omega,by omega,e1⟩,?_⟩;refine⟨_,hh,?_⟩;refine⟨⟨by show (_+1)*16≤140737488355328;omega,by show _+1≤9223372036854775807;omega⟩,?_⟩;refine⟨⟨by omega,by omega⟩,i+1,[(0,3)],?_,⟨rfl,hlt⟩,by dsimp only;omega⟩
   (repeat' (first|exact trivial|refine⟨?_,?_⟩|exact rfl|assumption))
  ·have hil:i=(atomsOf x.2.2).length:=by have:=df h;omega
   have e:(useL x).take i=useL x:=List.take_of_length_le (by rw[hu,List.length_map];omega);rw[e];intro v H6 hle6 hv6;obtain⟨a7,n7,c7,rfl,hr7⟩:=RL.of_row (α:=Str) hv6 (rc_sRows hsm)
   refine lsorted_spec (l:=useL x) (by omega) hr7 fun a1 n1 c1 H7 hle7 hr=>?_
   exact hK _ _ _ _ ((hle1.trans hle6.le).trans hle7) hr
 ·have hk:¬x.1=1:=df h;refine⟨fun h=>?_,fun h=>?_⟩
  ·have hk3:x.1=3:=dt h
   have hu:useL x=[x.2.2.2.1.1.l]:=by rw[useL,if_neg hk,if_pos hk3]
   refine⟨⟨by show 1*16≤140737488355328;decide,by show 1≤9223372036854775807;decide⟩,?_⟩;intro v H6 hle6 hv6
   have hv7:RowAt H6 v 1 (sRows (useL x)):=by rw[hu];exact hv6
   obtain⟨a7,n7,c7,rfl,hr7⟩:=RL.of_row (α:=Str) hv7 (rc_sRows hsm)
   refine lsorted_spec (l:=useL x) (by omega) hr7 fun a1 n1 c1 H7 hle7 hr=>?_
   exact hK _ _ _ _ (hle6.le.trans hle7) hr
  ·have hk3:¬x.1=3:=df h
   have hu:useL x=[]:=by rw[useL,if_neg hk,if_neg hk3]
   refine lsorted_spec (l:=[]) (by decide) rl_nil fun a1 n1 c1 H7 hle7 hr=>?_
   rw[usesS,hu]at hK;exact hK _ _ _ _ hle7 hr
end Go.Proofs
end
section
namespace Go.Proofs
open Go.Sy
set_option maxRecDepth 20000
set_option maxHeartbeats 4000000
end Go.Proofs
end
section
namespace Go.Proofs
open Go.Sy
set_option maxRecDepth 20000
set_option maxHeartbeats 4000000
abbrev nRows (l:List Nm):List (List Value):=eRows l
theorem nRows_of {H:Hp} {css:List (List Value)} {l:List Nm} (h:RC (α:=Nm) H css l):css=nRows l:=by
 apply List.ext_getElem?;intro i;rw[List.getElem?_map];have hl:css.length=l.length:=h.1
 by_cases hi:i<l.length
 ·have h1:css[i]?=some (css[i]'(by omega)):=List.getElem?_eq_getElem _;have h2:=List.getElem?_eq_getElem hi;have h3:=(edge_open (h.2 i _ _ h1 h2)).1
  rw[h1,h2,h3];rfl
 ·rw[List.getElem?_eq_none (by omega),List.getElem?_eq_none (by omega)];rfl
theorem nRows_ok (l:List Nm):∀y∈nRows l,y.length=2∧∀u∈y,u.oneCell'=true:=by
 intro y hy;obtain⟨w,_,rfl⟩:=List.mem_map.1 hy
 exact⟨rfl,fun u hu=>by simp at hu;rcases hu with rfl | rfl<;>rfl⟩
theorem nRL_all {H:Hp} {a:Option Addr} {n c:Nat} {l:List Nm} (h:RL H a n c l):∀e∈l,inI e.1∧inI e.2:=RLe_all h
theorem cloneV_spec {l:List Nm} (hl:l.length≤1000000) {a:Option Addr} {n c:Nat} {H:Hp} {K:Value→Hp→Prop} (ha:RL H a n c l) (hK:∀a1 n1 c1 H',LeN 55 2 (nRows l) H (.slice a1 n1 c1) H'→RL H' a1 n1 c1 l→K (.slice a1 n1 c1) H'):Does Tryz.prog 107 [.slice a n c] H K:=by
  have hn:=ha.n_eq;have hall:=nRL_all ha;refine spec_of cx_ok cx_mix rfl Tryz.func107 Tryz.call107 Tryz.ntmps107 Tryz.results107 rfl rfl ?_;refine⟨fun h=>?_,fun h=>?_⟩
  ·have hno:a=none:=by
    cases a with
    | none=>rfl
    | some x=>cases h
   rw[hno]at ha;have h0:=RL_nil ha;refine hK none 0 0 H ⟨Le.refl H,.inl ⟨rfl,by rw[h0];rfl⟩⟩ ?_
   rw[h0];exact rl_nil
  ·obtain⟨css,hrow,hrc⟩:=ha.row;have hcl:css.length=l.length:=hrc.1;have e:=nRows_of hrc;refine⟨css,hrow,?_⟩;refine⟨⟨by show (0+css.length)*16≤140737488355328;omega,by show 0+css.length≤9223372036854775807;omega⟩,?_⟩;intro v H' hle hv;rw[e]at hle hv
   refine of_row_k (α:=Nm) hv (rc_eRows hall) fun a1 n1 c1 ev hr=>?_
   subst ev;exact hK _ _ _ H' hle hr
theorem cloneN_spec {l:List Nm} (hl:l.length≤1000000) {a:Option Addr} {n c:Nat} {H:Hp} {K:Value→Hp→Prop} (ha:RL H a n c l) (hK:∀a1 n1 c1 H',LeN 55 2 (nRows l) H (.slice a1 n1 c1) H'→RL H' a1 n1 c1 l→K (.slice a1 n1 c1) H'):Does Tryz.prog 108 [.slice a n c] H K:=by
  have hn:=ha.n_eq;have hall:=nRL_all ha;refine spec_of cx_ok cx_mix rfl Tryz.func108 Tryz.call108 Tryz.ntmps108 Tryz.results108 rfl rfl ?_;refine⟨fun h=>?_,fun h=>?_⟩
  ·have hno:a=none:=by
    cases a with
    | none=>rfl
    | some x=>cases h
   rw[hno]at ha;have h0:=RL_nil ha;refine hK none 0 0 H ⟨Le.refl H,.inl ⟨rfl,by rw[h0];rfl⟩⟩ ?_
   rw[h0];exact rl_nil
  ·obtain⟨css,hrow,hrc⟩:=ha.row;have hcl:css.length=l.length:=hrc.1;have e:=nRows_of hrc;refine⟨css,hrow,?_⟩;refine⟨⟨by show (0+css.length)*16≤140737488355328;omega,by show 0+css.length≤9223372036854775807;omega⟩,?_⟩;intro v H' hle hv;rw[e]at hle hv
   refine of_row_k (α:=Nm) hv (rc_eRows hall) fun a1 n1 c1 ev hr=>?_
   subst ev;exact hK _ _ _ H' hle hr
theorem cloneVG_spec {l:List Nm} (hl:l.length≤1000000) {a:Option Addr} {n c:Nat} {H:Hp} {K:SV→St→Hp→Prop} (ha:RL H a n c l)
  (hK:∀H',Le H H'→K (.own 0) ⟨[],[(0,.row 55 2 (nRows l))],1⟩ H'):DoesG Tryz.prog 107 [.v (.slice a n c)] [] 0 H K:=by
 refine doesG_thawR (args:=[.slice a n c]) (fun _=>rfl) (cloneV_spec hl ha (K:=fun v H'=>LeN 55 2 (nRows l) H v H') (fun _ _ _ H' h _=>h)) ?_;intro v H2 hle h;exact .inr ⟨55,2,nRows l,v,.own 0,fun ρ hρ=>hρ,rfl,h.new,nRows_ok l,fun H' hle2 _=>hK H' hle2⟩
noncomputable def cxW:Cx:={ P:=Tryz.prog,tt:=tt,n:=0,wrap:=false,base:=0,gf:=107::cx.gf,eqs:=cx.eqs,xf:=[] }
theorem cxW_ok:TOK cxW:=⟨cx_ok.tt,cx_ok.eqs⟩
theorem nm_k {P:Prop} {H:Hp} {a:Option Addr} {n c:Nat} {xs:List Nm} (h:RL H a n c xs) {i:Int} (h0:0≤i) {x:Nm} (hi:xs[i.toNat]?=some x) (k:∀ad,a=some ad→ElemH H ad i 2 [.int .i64 x.1,.int .i64 x.2]→P):P :=
 edge_k h hi fun ad e he=>k ad e (by rwa[Int.toNat_of_nonneg h0]at he)
theorem eat_spec {l:List Nm} {i:Int} {a:Option Addr} {n c:Nat} {H:Hp} {K:Value→Hp→Prop} (ha:RL H a n c l) (hK:K (numV (inAt l i)) H):Does Tryz.prog 169 [.slice a n c,.int .i64 i] H K:=by
 have hn:=ha.n_eq;have hmx:=ha.le;refine spec_of cx_ok cx_mix rfl Tryz.func169 Tryz.call169 Tryz.ntmps169 Tryz.results169 rfl rfl ?_
 have hlow:i<0→inAt l i=(0,0):=fun h=>if_pos h
 have hhigh:¬i<0→(l.length:Int)≤i→inAt l i=(0,0):=fun h0 h=>by rw[inAt,if_neg h0,List.getElem?_eq_none (by omega)];rfl
 refine⟨fun h=>?_,fun h=>?_⟩
 ·have h0:¬i<0:=df h;refine⟨fun h=>?_,fun h=>?_⟩
  ·have h1:=dt h;rw[hhigh h0 (by omega)]at hK;exact hK
  ·have h1:=df h
   have hlt:i.toNat<l.length:=by omega
   have e:inAt l i=l[i.toNat]:=by rw[inAt,if_neg h0,List.getElem?_eq_getElem hlt];rfl
   rw[e]at hK
   refine nm_k ha (by omega) (List.getElem?_eq_getElem hlt) fun ad q1 hh=>?_
   refine⟨ad,⟨by omega,by omega,q1⟩,?_⟩;refine⟨_,hh,?_⟩;exact hK
 ·have h0:i<0:=dt h;rw[hlow h0]at hK;exact hK
theorem with_spec {l:List Nm} (hl:l.length≤1000000) {i:Int} (hi:0≤i∧i<(l.length:Nat)) {x:Nm} {a:Option Addr} {n c:Nat} {H:Hp} {K:Value→Hp→Prop} (ha:RL H a n c l) (hx:inI x.1∧inI x.2) (hK:∀a1 n1 c1 H',Le H H'→RL H' a1 n1 c1 (l.set i.toNat x)→K (.slice a1 n1 c1) H'):Does Tryz.prog 171 [.slice a n c,.int .i64 i,numV x] H K:=by
 have hn:=ha.n_eq;have hmx:=ha.le;have hall:=nRL_all ha;refine spec_of cxW_ok cx_mix rfl Tryz.func171 Tryz.call171 Tryz.ntmps171 Tryz.results171 rfl rfl ?_;refine⟨[],rfl,cloneVG_spec hl ha fun H1 hle1=>?_⟩;have hll:(nRows l).length=l.length:=List.length_map _
 have hlt:i.toNat<l.length:=by omega
 have hg:(nRows l)[i.toNat]?=some [.int .i64 l[i.toNat].1,.int .i64 l[i.toNat].2]:=by rw[List.getElem?_map,List.getElem?_eq_getElem hlt];rfl
 have e:(nRows l).set i.toNat [.int .i64 x.1,.int .i64 x.2]=nRows (l.set i.toNat x):=List.map_set.symm;refine⟨⟨hi.1,by rw[hll];exact hi.2⟩,?_⟩;refine⟨_,hg,?_⟩;intro v H' hle hv;have hv:RowAt H' v 2 ((nRows l).set i.toNat [.int .i64 x.1,.int .i64 x.2]):=hv;rw[e]at hv
 refine of_row_k (α:=Nm) hv (rc_eRows fun y hy=>?_) fun a1 n1 c1 ev hr=>?_
 ·rcases List.mem_or_eq_of_mem_set hy with hy | hy
  ·exact hall y hy
  ·rw[hy];exact hx
 ·subst ev;exact hK _ _ _ _ (hle1.trans hle.le) hr
theorem value_spec {p:Prog} (hc:cnt p<400000) {l:List Nm} {x:Atm} {a a2:Option Addr} {n c n2 c2:Nat} {H:Hp} {K:Value→Hp→Prop} (ha:RL H a n c p) (hb:RL H a2 n2 c2 l) (hK:K (numV (valA p l x)) H):Does Tryz.prog 109 [.agg #[.slice a n c],.slice a2 n2 c2,.agg (atmV x).toArray] H K:=by
 refine spec_of cx_ok cx_mix rfl Tryz.func109 Tryz.call109 Tryz.ntmps109 Tryz.results109 rfl rfl ?_;refine⟨fun h=>?_,fun h=>?_⟩
 ·have h0:x.1.l=[]:=dt h
  have e:valA p l x=nOf x.2:=by rw[valA,if_pos h0]
  rw[e]at hK;refine gof_spec ?_;exact hK
 ·have h0:¬x.1.l=[]:=df h
  refine var_spec ha hc fun _ _=>?_
  have hr:=vIdx_range p x.1.l;refine⟨fun h=>?_,fun h=>?_⟩
  ·have h1:¬0≤vIdx p x.1.l:=nt h
   have e:valA p l x=(0,0):=by rw[valA,if_neg h0,if_neg h1]
   rw[e]at hK;exact hK
  ·have h1:0≤vIdx p x.1.l:=nf h
   have e:valA p l x=inAt l (vIdx p x.1.l):=by rw[valA,if_neg h0,if_pos h1,inAt,if_neg (by omega)]
   have e2:max (idxS x.1.l (varsOf p) 0) 0=vIdx p x.1.l:=by rw[vIdx]at h1 ⊢;omega
   rw[e]at hK;rw[e2];refine eat_spec hb ?_;exact hK
theorem eval_spec {p:Prog} (hc:cnt p<400000) {l:List Nm} {x:Expr} {a a2:Option Addr} {n c n2 c2:Nat} {H:Hp} {K:Value→Hp→Prop} (ha:RL H a n c p) (hb:RL H a2 n2 c2 l) (hK:K (.tuple #[numV (nOp x.1 (valA p l x.2.1) (valA p l x.2.2)),.int .i64 (if opIs x.1 then 0 else 10)]) H):Does Tryz.prog 172 [.agg #[.slice a n c],.slice a2 n2 c2,.agg (exprV x).toArray] H K:=by
 refine spec_of cx_ok cx_mix rfl Tryz.func172 Tryz.call172 Tryz.ntmps172 Tryz.results172 rfl rfl ?_;refine⟨some ([2],[0,1,2,3,4,5,7,8,9,10,6,11,12,13,14,15,16]),by kernel_rfl,?_⟩;refine value_spec hc ha hb ?_;refine value_spec hc ha hb ?_;refine gop_spec ?_;exact hK
end Go.Proofs
end
section
namespace Go.Proofs
open Go.Sy
set_option maxRecDepth 20000
set_option maxHeartbeats 4000000
abbrev staV (b:Int) (ae:Option Addr) (ne ce:Nat) (i:Int) (x:Value):Value:=.agg #[.int .i64 b,.slice ae ne ce,.int .i64 i,x]
theorem wrp_in (n:Int):inI (wrp n):=by have:=wrp_le n;exact⟨by omega,by omega⟩
theorem nOf_in (a:Nm):inI (nOf a).1∧inI (nOf a).2:=⟨wrp_in _,wrp_in _⟩
theorem nOp_in (op:Int) (a b:Nm):inI (nOp op a b).1∧inI (nOp op a b).2:=by rw[←nOp_nOf];exact nOf_in _
theorem xcheck_spec {p:Prog} (he:checkE p=0) (hc:stmtsN p≤1000000) (hv:cnt p<400000) {b i:Int} {l:List Nm} (hb:0≤b∧b<(p.length:Nat)) (hl:l.length=(varsOf p).length) (hi:0≤i) {a ae ao:Option Addr} {n c ne ce no co:Nat} {H:Hp} {K:Value→Hp→Prop}
  (ha:RL H a n c p) (hE:RL H ae ne ce l) (hK:∀H',Le H H'→K (.int .i64 0) H'):Does Tryz.prog 70 [.agg #[.slice a n c],staV b ae ne ce i (.slice ao no co)] H K:=by
 have hn:=ha.n_eq;have hne:=hE.n_eq;refine spec_of cx_ok cx_mix rfl Tryz.func70 Tryz.call70 Tryz.ntmps70 Tryz.results70 rfl rfl ?_
 refine pcheck_spec ha hc hv fun H0 hle0=>?_
 refine⟨fun h=>absurd he (nt h),fun _=>?_⟩;refine⟨some ([],[0,1,2,3,4,5,6,7,8,9,10,11,12,13,14,15,16,17,18,19,20,21,22,23,24]),by kernel_rfl,?_⟩;refine⟨fun _=>?_,fun h=>absurd (dt h) (by omega)⟩;refine⟨fun _=>?_,fun h=>absurd (dt h) (by omega)⟩
 refine pvars_spec ha hv fun av nv cv H1 hle1 hrv=>?_
 have hnv:=hrv.n_eq;rw[List.length_map]at hnv;refine⟨fun _=>?_,fun h=>absurd (show (ne:Int)=nv by omega) (nt h)⟩;refine⟨fun h=>absurd (dt h) (by omega),fun _=>?_⟩;exact hK _ hle1
theorem xclone_spec {b i:Int} {l o:List Nm} (hl:l.length≤1000000) (ho:o.length≤1000000) {ae ao:Option Addr} {ne ce no co:Nat} {H:Hp} {K:Value→Hp→Prop} (hE:RL H ae ne ce l) (hO:RL H ao no co o)
  (hK:∀a1 n1 c1 a2 n2 c2 H1 H',Le H H1→RL H1 a1 n1 c1 l→LeN 55 2 (nRows o) H1 (.slice a2 n2 c2) H'→RL H' a2 n2 c2 o→K (staV b a1 n1 c1 i (.slice a2 n2 c2)) H'):Does Tryz.prog 71 [staV b ae ne ce i (.slice ao no co)] H K:=by
 refine spec_of cx_ok cx_mix rfl Tryz.func71 Tryz.call71 Tryz.ntmps71 Tryz.results71 rfl rfl ?_;refine⟨some ([1000000,0],[0,1,3,4,2,6,5,7,8,9]),by kernel_rfl,?_⟩
 refine cloneV_spec hl hE fun a1 n1 c1 H1 hle1 hr1=>?_
 refine cloneN_spec ho (hO.up hle1.le) fun a2 n2 c2 H2 hle2 hr2=>?_
 exact hK _ _ _ _ _ _ _ _ hle1.le hr1 hle2 hr2
theorem xdo_spec {p:Prog} (hc:cnt p<400000) {inn l o:List Nm} {b i:Int} {x:Stmt} (hx:stmtB x=true) (hvx:x.2.1.l≠[]→0≤vIdx p x.2.1.l∧vIdx p x.2.1.l<(l.length:Nat)) (hl:l.length≤1000000) (ho:o.length≤1000000) (hi:0≤i) {a ae ai:Option Addr} {n c ne ce ni ci:Nat} {H:Hp} {K:SV→St→Hp→Prop}
  (ha:RL H a n c p) (hE:RL H ae ne ce l) (hI:RL H ai ni ci inn)
  (hK:∀a1 n1 c1 H',Le H H'→RL H' a1 n1 c1 (doS p inn (b,l,i,o) x).2.1→x.1≠3→K (.agg [.v (.int .i64 b),.v (.slice a1 n1 c1),.v (.int .i64 (doS p inn (b,l,i,o) x).2.2.1),.own 0]) ⟨[],[(0,.row 55 2 (nRows o))],1⟩ H')
  (hK3:x.1=3→K (.agg [.v (.int .i64 b),.v (.slice ae ne ce),.v (.int .i64 i),.own 6]) ⟨[],[(6,.row 55 2 (nRows (o++[valA p l x.2.2.2.1])))],7⟩ H):
  DoesG Tryz.prog 111 [.agg [.v (.slice a n c)],.agg [.v (.int .i64 b),.v (.slice ae ne ce),.v (.int .i64 i),.own 0],.agg (vL (stmtV x)),.v (.slice ai ni ci)] [(0,.row 55 2 (nRows o))] 1 H K:=by
 refine spec_ofG cx_ok cx_mix Tryz.func111 Tryz.call111 Tryz.ntmps111 Tryz.results111 rfl rfl ?_
 refine var_spec ha hc fun _ _=>?_
 rcases stmtB_var hx with ⟨h1,h2,h3,h4⟩ | ⟨h1,h4⟩ | ⟨h1,h4⟩
 ·refine⟨fun _=>?_,fun h=>absurd h1 (df h)⟩;have hv:=hvx h4
  have e2:max (idxS x.2.1.l (varsOf p) 0) 0=vIdx p x.2.1.l:=by rw[vIdx]at hv ⊢;omega
  refine eval_spec hc ha hE ?_;rw[e2]
  refine with_spec hl hv hE (nOp_in _ _ _) fun a1 n1 c1 H1 hle1 hr1=>?_
  have e:doS p inn (b,l,i,o) x=(b,setAt p l x.2.1.l (nOp x.2.2.1 (valA p l x.2.2.2.1) (valA p l x.2.2.2.2)),i,o):=by rw[doS,if_pos h1]
  rw[e]at hK;exact⟨.agg [.v (.int .i64 b),.v (.slice a1 n1 c1),.v (.int .i64 i),.own 0],[(0,.row 55 2 (nRows o))],1,[(0,0)],by (repeat' (first|exact trivial|refine⟨?_,?_⟩|exact rfl|assumption)),hK a1 n1 c1 H1 hle1 hr1 (by omega)⟩
 ·refine⟨fun h=>absurd (dt h) (by omega),fun _=>?_⟩;refine⟨fun _=>?_,fun h=>absurd h1 (df h)⟩;have hv:=hvx h4
  have e2:max (idxS x.2.1.l (varsOf p) 0) 0=vIdx p x.2.1.l:=by rw[vIdx]at hv ⊢;omega
  refine eat_spec hI ?_;refine⟨some ([1000000,2],[0,1,2,3,4,5,6,7,8,9,10,11]),by kernel_rfl,?_⟩;refine gof_spec ?_;rw[e2]
  refine with_spec hl hv hE (nOf_in _) fun a1 n1 c1 H1 hle1 hr1=>?_
  have e:doS p inn (b,l,i,o) x=(b,setAt p l x.2.1.l (nOf (inAt inn i)),inNext i,o):=by rw[doS,if_neg (by omega),if_pos h1]
  rw[e]at hK;refine⟨⟨by omega,by omega⟩,?_⟩;exact⟨.agg [.v (.int .i64 b),.v (.slice a1 n1 c1),.v (.int .i64 (inNext i)),.own 0],[(0,.row 55 2 (nRows o))],1,[(0,0)],by (repeat' (first|exact trivial|refine⟨?_,?_⟩|exact rfl|assumption)),hK a1 n1 c1 H1 hle1 hr1 (by omega)⟩
 ·refine⟨fun h=>absurd (dt h) (by omega),fun _=>?_⟩;refine⟨fun h=>absurd (dt h) (by omega),fun _=>?_⟩;refine⟨fun _=>?_,fun h=>absurd h1 (df h)⟩;refine⟨some ([1000000,0,2],[0,1,2,3,4,5,6,7,8,9,10,11,12]),by kernel_rfl,?_⟩;refine value_spec hc ha hE ?_;have hll:(nRows o).length=o.length:=List.length_map _
  have e:nRows o++[[.int .i64 (valA p l x.2.2.2.1).1,.int .i64 (valA p l x.2.2.2.1).2]]=nRows (o++[valA p l x.2.2.2.1]):=by show List.map _ _++[_]=List.map _ (_++[_]);rw[List.map_append];rfl
  refine⟨⟨by show (_+1)*16≤140737488355328;rw[hll];omega,by show _+1≤9223372036854775807;rw[hll];omega⟩,?_⟩;exact⟨.agg [.v (.int .i64 b),.v (.slice ae ne ce),.v (.int .i64 i),.own 6],[(6,.row 55 2 (nRows (o++[valA p l x.2.2.2.1])))],7,[(6,6)],by (repeat' (first|exact trivial|refine⟨?_,?_⟩|exact rfl|assumption)),hK3 h1⟩
end Go.Proofs
end
section
namespace Go.Proofs
open Go.Sy
set_option maxRecDepth 20000
set_option maxHeartbeats 4000000
theorem xcloneG_spec {b i:Int} {l o:List Nm} (hl:l.length≤1000000) (ho:o.length≤1000000) {ae ao:Option Addr} {ne ce no co:Nat} {H:Hp} {K:SV→St→Hp→Prop} (hE:RL H ae ne ce l) (hO:RL H ao no co o)
  (hK:∀a1 n1 c1 H',Le H H'→RL H' a1 n1 c1 l→K (.agg [.v (.int .i64 b),.v (.slice a1 n1 c1),.v (.int .i64 i),.own 0]) ⟨[],[(0,.row 55 2 (nRows o))],1⟩ H'):DoesG Tryz.prog 71 [.agg [.v (.int .i64 b),.v (.slice ae ne ce),.v (.int .i64 i),.v (.slice ao no co)]] [] 0 H K:=by
 refine doesG_thawR (args:=[staV b ae ne ce i (.slice ao no co)]) (fun _=>rfl) (xclone_spec hl ho hE hO (K:=fun v H'=>∃a1 n1 c1 x H1,v=staV b a1 n1 c1 i x∧Le H H1∧RL H1 a1 n1 c1 l∧LeN 55 2 (nRows o) H1 x H')
  (fun a1 n1 c1 a2 n2 c2 H1 H' h1 h2 h3 _=>⟨a1,n1,c1,_,H1,rfl,h1,h2,h3⟩)) ?_
 rintro v H2 hle ⟨a1,n1,c1,x,H1,rfl,h1,h2,h3⟩;refine .inr ⟨55,2,nRows o,x,.agg [.v (.int .i64 b),.v (.slice a1 n1 c1),.v (.int .i64 i),.own 0],fun ρ hρ=>?_,rfl,(LeN.base h1 h3).new,nRows_ok o,fun H' hle2 hkeep=>hK a1 n1 c1 H' hle2 (h2.up fun b o hb=>hkeep b o (h3.le b o hb) fun e=>?_)⟩
 ·show Value.agg #[.int .i64 b,.slice a1 n1 c1,.int .i64 i,ρ.val 0]=_;rw[hρ]
 ·rcases h3.new with ⟨h4,_⟩ | ⟨g,cap,cc,h4,h5,_⟩
  ·rw[h4]at e;cases e
  ·rw[h4]at e;simp only[Value.ownBlock,Option.some.injEq]at e;subst e;rw[h5]at hb;cases hb
noncomputable def cxR:Cx:={ P:=Tryz.prog,tt:=tt,n:=0,wrap:=false,base:=0,gf:=71::111::cx.gf,eqs:=cx.eqs,xf:=[] }
theorem cxR_ok:TOK cxR:=⟨cx_ok.tt,cx_ok.eqs⟩
theorem doAll_snoc (p:Prog) (inn:List Nm) (s:StE) {l:List Stmt} {k:Nat} {x:Stmt} (h:l[k]?=some x):doAll p inn s (l.take (k+1))=doS p inn (doAll p inn s (l.take k)) x:=by
 rw[doAll,List.take_add_one,h,Option.toList_some,List.foldl_append];rfl
theorem doS_out (p:Prog) (inn:List Nm) (s:StE) (x:Stmt):(doS p inn s x).2.2.2.length≤s.2.2.2.length+1∧(0≤s.2.2.1→0≤(doS p inn s x).2.2.1):=by
 unfold doS inNext
 repeat' split
 all_goals simp
 all_goals omega
theorem doAll_out (p:Prog) (inn:List Nm):∀(l:List Stmt) (s:StE),(doAll p inn s l).2.2.2.length≤s.2.2.2.length+l.length∧(0≤s.2.2.1→0≤(doAll p inn s l).2.2.1)
 | [],_=>⟨Nat.le_refl _,fun h=>h⟩
 | x::r,s=>by
  have h1:=doS_out p inn s x;have h2:=doAll_out p inn r (doS p inn s x);rw[doAll,List.foldl_cons,List.length_cons];exact⟨by have:=h2.1;unfold doAll at this;omega,fun h=>h2.2 (h1.2 h)⟩
theorem doS_keep {p:Prog} {inn:List Nm} {s:StE} {x:Stmt} (h:x.1≠3):(doS p inn s x).2.2.2=s.2.2.2:=by
 unfold doS
 repeat' split
 all_goals first | rfl | contradiction
theorem valA_in (p:Prog) {e:List Nm} (h:∀y∈e,inI y.1∧inI y.2) (a:Atm):inI (valA p e a).1∧inI (valA p e a).2:=by
 have z:inI ((0:Int)):=⟨by decide,by decide⟩
 unfold valA;split
 ·exact nOf_in _
 ·split
  ·cases hg:e[(vIdx p a.1.l).toNat]? with
   | none=>exact⟨z,z⟩
   | some y=>exact h y (List.mem_of_getElem? hg)
  ·exact⟨z,z⟩
theorem doS_in (p:Prog) (inn:List Nm) (s:StE) (hE:∀y∈s.2.1,inI y.1∧inI y.2) (hO:∀y∈s.2.2.2,inI y.1∧inI y.2) (x:Stmt):(∀y∈(doS p inn s x).2.1,inI y.1∧inI y.2)∧∀y∈(doS p inn s x).2.2.2,inI y.1∧inI y.2:=by
 unfold doS setAt;split
 ·refine⟨fun y hy=>?_,hO⟩
  rcases List.mem_or_eq_of_mem_set hy with hy | hy
  ·exact hE y hy
  ·rw[hy];exact nOp_in _ _ _
 ·split
  ·refine⟨fun y hy=>?_,hO⟩
   rcases List.mem_or_eq_of_mem_set hy with hy | hy
   ·exact hE y hy
   ·rw[hy];exact nOf_in _
  ·split
   ·refine⟨hE,fun y hy=>?_⟩
    rcases List.mem_append.1 hy with hy | hy
    ·exact hO y hy
    ·rw[List.mem_singleton.1 hy];exact valA_in p hE _
   ·exact⟨hE,hO⟩
theorem doAll_in (p:Prog) (inn:List Nm):∀(l:List Stmt) (s:StE),(∀y∈s.2.1,inI y.1∧inI y.2)→(∀y∈s.2.2.2,inI y.1∧inI y.2)→∀y∈(doAll p inn s l).2.2.2,inI y.1∧inI y.2
 | [],_,_,h=>h
 | x::r,s,h1,h2=>by
  have h3:=doS_in p inn s h1 h2 x;exact doAll_in p inn r (doS p inn s x) h3.1 h3.2
theorem run_spec {p:Prog} (hc:cnt p<400000) {inn:List Nm} {s:StE} {q:Block} (h0:0≤s.1) (hq:p[s.1.toNat]?=some q) (hst:∀x∈q.2.1,stmtB x=true) (hl:s.2.1.length=(varsOf p).length) (hvl:(varsOf p).length≤1000) (ho:s.2.2.2.length+q.2.1.length≤1000000) (hi:0≤s.2.2.1)
  {a ae ao ai:Option Addr} {n c ne ce no co ni ci:Nat} {H:Hp} {K:Value→Hp→Prop} (ha:RL H a n c p) (hE:RL H ae ne ce s.2.1) (hO:RL H ao no co s.2.2.2) (hI:RL H ai ni ci inn)
  (hK:∀a1 n1 c1 a2 n2 c2 H',Le H H'→RL H' a1 n1 c1 (runB p inn s).2.1→RL H' a2 n2 c2 (runB p inn s).2.2.2→K (staV s.1 a1 n1 c1 (runB p inn s).2.2.1 (.slice a2 n2 c2)) H'):
  Does Tryz.prog 73 [.agg #[.slice a n c],staV s.1 ae ne ce s.2.2.1 (.slice ao no co),.slice ai ni ci] H K:=by
 obtain⟨b,l,i,o⟩:=s;dsimp only at h0 hl ho hi hE hO ⊢;have hn:=ha.n_eq;have hmx:=ha.le;have hblt:=(List.getElem?_eq_some_iff.1 hq).1;refine spec_of cxR_ok cx_mix rfl Tryz.func73 Tryz.call73 Tryz.ntmps73 Tryz.results73 rfl rfl ?_;refine⟨[],rfl,xcloneG_spec (by omega) (by omega) hE hO fun a1 n1 c1 H1 hle1 hr1=>?_⟩
 refine block_kI (ha.up hle1) h0 hq fun ad a5 n5 c5 q1 hh hr5 _ _=>?_
 refine⟨ad,⟨by omega,by omega,q1⟩,?_⟩;refine⟨_,hh,?_⟩;have hn5:=hr5.n_eq;have hmx5:=hr5.le;have hqm:=List.mem_of_getElem? hq
 have hrb:runB p inn (b,l,i,o)=doAll p inn (b,l,i,o) q.2.1:=by rw[runB,blkN_get hq]
 rw[hrb]at hK
 refine⟨Nat×StE×(Option Addr×Nat×Nat),fun z=>⟨[(2,.v (.slice ai ni ci)),(3,.ptr 0 0),(4,.ptr 1 0),(6,.ptr 2 0),(17,.v (.slice a5 n5 c5)),(18,.v (.int .i64 n5)),(19,.v (.int .i64 z.1))],
   [(0,.cells 24 [.v (.slice a n c)]),(1,.cells 43 [.v (.int .i64 b),.v (.slice z.2.2.1 z.2.2.2.1 z.2.2.2.2),.v (.int .i64 z.2.1.2.2.1),.own 3]),(2,.cells 43 [.v (.int .i64 0),.v (.slice none 0 0),.v (.int .i64 0),.v (.slice none 0 0)]),(3,.row 55 2 (nRows z.2.1.2.2.2))],4⟩,
  fun z H'=>Le H H'∧z.1≤q.2.1.length∧z.2.1=doAll p inn (b,l,i,o) (q.2.1.take z.1)∧RL H' z.2.2.1 z.2.2.2.1 z.2.2.2.2 z.2.1.2.1,fun z=>q.2.1.length - z.1,⟨(0,(b,l,i,o),(a1,n1,c1)),[(0,0),(1,1),(2,2),(3,3)],?_,hle1,Nat.zero_le _,rfl,hr1⟩,?_⟩
 ·(repeat' (first|exact trivial|refine⟨?_,?_⟩|exact rfl|assumption))
 rintro⟨k,st,a6,n6,c6⟩ H2 _ ⟨hle2,hk,hst2,hr6⟩;dsimp only at hk hst2 hr6;have hz:=doAll_blk p inn (q.2.1.take k) (b,l,i,o);have hz2:=doAll_out p inn (q.2.1.take k) (b,l,i,o);rw[←hst2]at hz hz2;obtain⟨b',l',i',o'⟩:=st;dsimp only at hr6 hz hz2 hst2 ⊢;have hb':b'=b:=hz.1;refine⟨fun h=>?_,fun h=>?_⟩
 ·have hlt:k<q.2.1.length:=by have:=dt h;omega
  refine name_k q.2.1[k] fun x hxe=>?_
  have hxx:q.2.1[k]?=some x:=by rw[hxe];exact List.getElem?_eq_getElem hlt
  have hxm:=List.mem_of_getElem? hxx;have hstep:=doAll_snoc p inn (b,l,i,o) hxx;rw[←hst2,hb']at hstep;have hz3:=hz2.1;rw[List.length_take]at hz3
  have hvx:x.2.1.l≠[]→0≤vIdx p x.2.1.l∧vIdx p x.2.1.l<(l'.length:Nat):=fun hne=>by
   rw[hz.2,hl];exact vIdx_stmt hqm hxm (by simp) hne
  have h12:Le H1 H2:=by assumption
  refine stmt_k (hr5.up h12) hxx fun ad e1 hh1 hR=>?_
  refine⟨ad,⟨by omega,by omega,e1⟩,?_⟩;refine⟨_,hh1,?_⟩;refine⟨[3],rfl,xdo_spec hc (inn:=inn) (o:=o') (hst x hxm) hvx (by rw[hz.2,hl];omega) (by omega) (hz2.2 hi) (ha.up hle2) hr6 (hI.up hle2) (fun a7 n7 c7 H3 hle3 hr7 h3=>?_) (fun h3=>?_)⟩
  ·have ho3:(doS p inn (b,l',i',o') x).2.2.2=o':=doS_keep h3;have hb3:=(doS_blk p inn (b,l',i',o') x).1;refine⟨⟨by omega,by omega⟩,(k+1,doS p inn (b,l',i',o') x,(a7,n7,c7)),[(0,0),(1,1),(2,2),(3,3)],?_,⟨hle2.trans hle3,hlt,hstep.symm,hr7⟩,by dsimp only;omega⟩;dsimp only;rw[ho3]
   (repeat' (first|exact trivial|refine⟨?_,?_⟩|exact rfl|assumption))
  ·have e3:doS p inn (b,l',i',o') x=(b,l',i',o'++[valA p l' x.2.2.2.1]):=by rw[doS,if_neg (by omega),if_neg (by omega),if_pos h3]
   rw[e3]at hstep;refine⟨⟨by omega,by omega⟩,(k+1,(b,l',i',o'++[valA p l' x.2.2.2.1]),(a6,n6,c6)),[(0,0),(1,1),(2,2),(3,10)],?_,⟨hle2,hlt,hstep.symm,hr6⟩,by dsimp only;omega⟩
   (repeat' (first|exact trivial|refine⟨?_,?_⟩|exact rfl|assumption))
 ·have hkl:k=q.2.1.length:=by have:=df h;omega
  rw[hkl,List.take_length]at hst2;rw[←hst2]at hK;intro v H' hle hv
  refine of_row_k (α:=Nm) hv (rc_eRows fun y hy=>?_) fun a8 n8 c8 ev hr=>?_
  ·have:=doAll_in p inn q.2.1 (b,l,i,o) (nRL_all hE) (nRL_all hO);rw[←hst2]at this;exact this y hy
  ·subst ev;exact hK _ _ _ _ _ _ _ (hle2.trans hle.le) (hr6.up hle.le) hr
theorem nm_zero {a:Nm}:(decide (a.1=0)&&(decide (a.2=0)&&true))=true↔a=(0,0):=by
 obtain⟨x,y⟩:=a;simp
theorem follow_spec {p:Prog} (hc:cnt p<400000) (hp:p.length≤12) {s:StE} {q:Block} (h0:0≤s.1) (hq:p[s.1.toNat]?=some q)
  {a ae ao:Option Addr} {n c ne ce no co:Nat} {H:Hp} {K:Value→Hp→Prop} (ha:RL H a n c p) (hE:RL H ae ne ce s.2.1)
  (hK:K (.tuple #[staV (folS p s).1.1 ae ne ce s.2.2.1 (.slice ao no co),.bool (folS p s).2]) H):
  Does Tryz.prog 72 [.agg #[.slice a n c],staV s.1 ae ne ce s.2.2.1 (.slice ao no co)] H K:=by
 obtain⟨b,l,i,o⟩:=s;dsimp only at h0 hq hE ⊢;have hn:=ha.n_eq;have hmx:=ha.le;have hblt:=(List.getElem?_eq_some_iff.1 hq).1;have hbk:=blkN_get hq
 have hkind:∀t:Term,t=q.2.2→(q.2.2.1=3→folS p (b,l,i,o)=((b,l,i,o),false))∧(q.2.2.1≠3→folS p (b,l,i,o)=((bIdx p (goTo p (b,l,i,o) q.2.2),l,i,o),true)):=fun _ _ =>
  ⟨fun h=>by rw[folS];dsimp only;rw[hbk,if_pos h],fun h=>by rw[folS];dsimp only;rw[hbk,if_neg h]⟩
 have hkind:=hkind _ rfl;refine spec_of cx_ok cx_mix rfl Tryz.func72 Tryz.call72 Tryz.ntmps72 Tryz.results72 rfl rfl ?_
 refine block_kI ha h0 hq fun ad a5 n5 c5 q1 hh _ _ _=>?_
 refine⟨ad,⟨by omega,by omega,q1⟩,?_⟩;refine⟨_,hh,?_⟩;refine⟨fun h=>?_,fun h=>?_⟩
 ·have h3:=dt h;rw[hkind.1 h3]at hK;exact hK
 have h3:=df h;rw[hkind.2 h3]at hK;refine⟨fun h=>?_,fun h=>?_⟩
 ·have h2:=dt h;refine value_spec hc ha hE ?_;refine⟨fun h=>?_,fun h=>?_⟩
  ·have hz:valA p l q.2.2.2.1=(0,0):=nm_zero.1 h
   have hgo:goTo p (b,l,i,o) q.2.2=q.2.2.2.2.2.l:=by rw[goTo,if_pos ⟨h2,hz⟩]
   rw[hgo,bIdx]at hK
   refine block_spec hp ha fun _ _=>?_
   exact hK
  ·have hz:¬valA p l q.2.2.2.1=(0,0):=fun e=>by rw[nm_zero.2 e]at h;cases h
   have hgo:goTo p (b,l,i,o) q.2.2=q.2.2.2.2.1.l:=by rw[goTo,if_neg (fun hh=>hz hh.2)]
   rw[hgo,bIdx]at hK
   refine block_spec hp ha fun _ _=>?_
   exact hK
 ·have h2:=df h
  have hgo:goTo p (b,l,i,o) q.2.2=q.2.2.2.2.1.l:=by rw[goTo,if_neg (fun hh=>h2 hh.1)]
  rw[hgo,bIdx]at hK
  refine block_spec hp ha fun _ _=>?_
  exact hK
end Go.Proofs
end
section
namespace Go.Proofs
open Go.Sy
set_option maxRecDepth 20000
set_option maxHeartbeats 4000000
def goodS (p:Prog) (s:StE):Prop:=(0≤s.1∧s.1<(p.length:Nat))∧s.2.1.length=(varsOf p).length∧0≤s.2.2.1∧s.2.2.1≤9223372036854775807
theorem doS_in2 (p:Prog) (inn:List Nm) (s:StE) (x:Stmt) (h:s.2.2.1≤9223372036854775807):(doS p inn s x).2.2.1≤9223372036854775807:=by
 unfold doS inNext
 repeat' split
 all_goals (first | omega | (dsimp only;omega))
theorem doAll_in2 (p:Prog) (inn:List Nm):∀(l:List Stmt) (s:StE),s.2.2.1≤9223372036854775807→(doAll p inn s l).2.2.1≤9223372036854775807
 | [],_,h=>h
 | x::r,s,h=>doAll_in2 p inn r (doS p inn s x) (doS_in2 p inn s x h)
theorem goodS_run {p:Prog} {inn:List Nm} {s:StE} (h:goodS p s):goodS p (runB p inn s):=by
 have h1:=doAll_blk p inn (blkN p s.1).2.1 s;have h2:=doAll_out p inn (blkN p s.1).2.1 s;have h3:=doAll_in2 p inn (blkN p s.1).2.1 s h.2.2.2;rw[runB];exact⟨by rw[h1.1];exact h.1,by rw[h1.2];exact h.2.1,h2.2 h.2.2.1,h3⟩
theorem goodS_step {p:Prog} {inn:List Nm} {s:StE} (h:goodS p s):goodS p (folS p (runB p inn s)).1:=by
 have h1:=goodS_run (inn:=inn) h;unfold folS;split
 ·exact h1
 ·exact⟨bIdx_range p _ (by have:=h.1;omega),h1.2⟩
theorem goodS_it {p:Prog} {inn:List Nm} {s:StE} (h:goodS p s):∀k,goodS p (itS p inn s k).2.1
 | 0=>h
 | k+1=>by
  have h1:=goodS_it (inn:=inn) h k;rw[itS];split
  ·exact goodS_step h1
  ·exact h1
theorem le_stmts:∀ {p:Prog} {b:Block},b∈p→b.2.1.length≤stmtsN p
 | [],_,h=>by cases h
 | x::r,b,h=>by
  unfold stmtsN;rw[List.map_cons,List.sum_cons]
  rcases List.mem_cons.1 h with rfl | h
  ·omega
  ·have:=le_stmts h;unfold stmtsN at this;omega
theorem stmts_512 {p:Prog} (h:checkE p=0):stmtsN p≤512:=by
 unfold checkE at h;split at h
 ·cases h
 ·omega
theorem fol_out (p:Prog) (s:StE):(folS p s).1.2.2.2=s.2.2.2∧(folS p s).1.2.1=s.2.1∧(folS p s).1.2.2.1=s.2.2.1:=by
 unfold folS
 split<;>exact⟨rfl,rfl,rfl⟩
theorem blkN_mem {p:Prog} {s:StE} (h:goodS p s):∃q,p[s.1.toNat]?=some q∧blkN p s.1=q∧q∈p:=by
 have hlt:s.1.toNat<p.length:=by have:=h.1;omega
 exact⟨p[s.1.toNat],List.getElem?_eq_getElem hlt,blkN_get (List.getElem?_eq_getElem hlt),List.getElem_mem hlt⟩
theorem out_run {p:Prog} {inn:List Nm} {s:StE} (h:goodS p s):(runB p inn s).2.2.2.length≤s.2.2.2.length+stmtsN p:=by
 obtain⟨q,_,e,hm⟩:=blkN_mem h;have h1:=(doAll_out p inn q.2.1 s).1;have h2:=le_stmts hm;rw[runB,e];omega
theorem out_it {p:Prog} {inn:List Nm} {s:StE} (h:goodS p s):∀k,(itS p inn s k).2.1.2.2.2.length≤s.2.2.2.length+k*stmtsN p
 | 0=>by simp [itS]
 | k+1=>by
  have h1:=out_it (inn:=inn) h k;have h2:=out_run (inn:=inn) (goodS_it (inn:=inn) h k);rw[itS,Nat.add_mul,Nat.one_mul];split
  ·rw[(fol_out p _).1];omega
  ·omega
theorem sta_mk {H:Hp} {s:StE} {a1 a2:Option Addr} {n1 c1 n2 c2:Nat} (h1:inI s.1) (h2:inI s.2.2.1) (hE:RL H a1 n1 c1 s.2.1) (hO:RL H a2 n2 c2 s.2.2.2):Enc.R H [.int .i64 s.1,.slice a1 n1 c1,.int .i64 s.2.2.1,.slice a2 n2 c2] s :=
 ⟨[_],[_,_,_],rfl,⟨rfl,h1⟩,[_],[_,_],rfl,⟨_,_,_,rfl,hE⟩,[_],[_],rfl,⟨rfl,h2⟩,⟨_,_,_,rfl,hO⟩⟩
theorem from_spec {p:Prog} (he:checkE p=0) (hp:p.length≤12) (hc:stmtsN p≤1000000) (hv:cnt p<400000) {inn:List Nm} {s:StE} (hs:goodS p s) (ho:s.2.2.2.length≤100000) {most:Int} (hm:most≤40)
  {a ae ao ai:Option Addr} {n c ne ce no co ni ci:Nat} {H:Hp} {K:Value→Hp→Prop} (ha:RL H a n c p) (hE:RL H ae ne ce s.2.1) (hO:RL H ao no co s.2.2.2) (hI:RL H ai ni ci inn)
  (hK:∀a1 n1 c1 a2 n2 c2 H',Le H H'→RL H' a1 n1 c1 (itS p inn s most.toNat).1→RL H' a2 n2 c2 (itS p inn s most.toNat).2.1.2.2.2→K (.tuple #[.agg #[.slice a1 n1 c1,.slice a2 n2 c2,.bool (!(itS p inn s most.toNat).2.2)],.int .i64 0]) H'):
  Does Tryz.prog 36 [.agg #[.slice a n c],staV s.1 ae ne ce s.2.2.1 (.slice ao no co),.slice ai ni ci,.int .i64 most] H K:=by
 have hn:=ha.n_eq;have hmx:=ha.le;have hf:=check_facts he;have hst5:=stmts_512 he;refine spec_of cx_ok cx_mix rfl Tryz.func36 Tryz.call36 Tryz.ntmps36 Tryz.results36 rfl rfl ?_
 have hmm:min (max most 0) 4096=(most.toNat:Int):=by omega
 refine .inr ⟨Nat×List (List Value)×StE×Bool×(Option Addr×Nat×Nat)×(Option Addr×Nat×Nat),fun _=>0,fun z=>⟨[(2,.v (.slice ai ni ci)),(3,.v (.int .i64 (min (max most 0) 4096))),(4,.ptr 0 0),(5,.ptr 1 0),(8,.ptr 2 0),(11,.ptr 3 0),(12,.v (.bool z.2.2.2.1))],
   [(0,.cells 24 [.v (.slice a n c)]),(1,.cells 43 [.v (.int .i64 z.2.2.1.1),.v (.slice z.2.2.2.2.1.1 z.2.2.2.2.1.2.1 z.2.2.2.2.1.2.2),.v (.int .i64 z.2.2.1.2.2.1),.v (.slice z.2.2.2.2.2.1 z.2.2.2.2.2.2.1 z.2.2.2.2.2.2.2)]),(2,.cells 37 [.v (.slice none 0 0),.v (.slice none 0 0),.v (.bool false)]),(3,.cells 37 [.own 4,.v (.slice none 0 0),.v (.bool false)]),(4,.row 43 4 z.2.1)],5⟩,
  fun z H'=>Le H H'∧z.1≤most.toNat∧itS p inn s z.1=(((itS p inn s z.1).1),z.2.2.1,z.2.2.2.1)∧RC (α:=StE) H' z.2.1 (itS p inn s z.1).1∧RL H' z.2.2.2.2.1.1 z.2.2.2.2.1.2.1 z.2.2.2.2.1.2.2 z.2.2.1.2.1∧RL H' z.2.2.2.2.2.1 z.2.2.2.2.2.2.1 z.2.2.2.2.2.2.2 z.2.2.1.2.2.2,fun z=>most.toNat - z.1,?_,?_⟩
 ·refine xcheck_spec he hc hv hs.1 hs.2.1 hs.2.2.1 ha hE fun _ _=>?_
  refine⟨fun h=>absurd rfl (nt h),fun _=>?_⟩;have hE1:=hs.2.1
  refine xclone_spec (by omega) (by omega) hE hO fun a1 n1 c1 a2 n2 c2 H0 H1 hle0 hr0 hle1 hr2=>?_
  have hle:Le H H1:=hle0.trans hle1.le;have hr1:=hr0.up hle1.le;have hgd:=hs;have hit:itS p inn s 0=([],s,true):=rfl;have hrc:RC (α:=StE) H1 [] ([]:List StE):=RC.nil;have hcl:([]:List (List Value)).length=0:=rfl;refine⟨fun h=>?_,fun h=>?_⟩
  ·have hlt:0<most.toNat:=by have:=dt h;omega
   refine⟨some ([1000000,3],[0,1,2,3,4,5,6,7]),by kernel_rfl,?_⟩;obtain⟨qq,hq,hbq,hqm⟩:=blkN_mem hgd;have hst:=block_stmts (hf.2.2.2 qq hqm);have hqs:=le_stmts hqm
   refine xclone_spec (l:=s.2.1) (o:=s.2.2.2) (by omega) (by omega) hr1 hr2 fun a3 n3 c3 a4 n4 c4 H2 H3 hle2 hr3 hle3 hr4=>?_
   have h13:Le H1 H3:=hle2.trans hle3.le;refine⟨⟨by show ([].length+1)*64≤140737488355328;omega,by show [].length+1≤9223372036854775807;omega⟩,?_⟩;refine⟨some ([1000000,1],[0,1,2,3,4,5,6,7,8,9,10]),by kernel_rfl,?_⟩
   refine run_spec (s:=s) hv hgd.1.1 hq hst hE1 (by omega) (by omega) hgd.2.2.1 (ha.up (hle.trans h13)) (hr1.up h13) (hr2.up h13) (hI.up (hle.trans h13)) fun a5 n5 c5 a6 n6 c6 H4 hle4 hr5 hr6=>?_
   have hgr:=goodS_run (inn:=inn) hgd;have hb1:(runB p inn s).1=s.1:=(doAll_blk p inn _ s).1;rw[←hb1];refine follow_spec (s:=runB p inn s) hv hp hgr.1.1 (by rw[hb1];exact hq) (ha.up ((hle.trans h13).trans hle4)) hr5 ?_;have hfo:=fol_out p (runB p inn s)
   have e:SV.v (.int .i64 (runB p inn s).2.2.1)=SV.v (.int .i64 (folS p (runB p inn s)).1.2.2.1):=by rw[hfo.2.2]
   have hstp:=itS_step (p:=p) (inn:=inn) (s0:=s) (k:=0) (by rw[hit]);have h14:=h13.trans hle4
   have hrow:RC (α:=StE) H4 ([]++[[.int .i64 (runB p inn s).1,.slice a3 n3 c3,.int .i64 s.2.2.1,.slice a4 n4 c4]]) (itS p inn s (0+1)).1:=by
    rw[hstp,hit,hb1];have g1:=hgd.1;have g2:=hgd.2.2;exact (hrc.up h14).snoc (sta_mk ⟨by omega,by omega⟩ ⟨by omega,by omega⟩ (hr3.up (hle3.le.trans hle4)) (hr4.up hle4))
   refine⟨(0+1,[]++[[.int .i64 (runB p inn s).1,.slice a3 n3 c3,.int .i64 s.2.2.1,.slice a4 n4 c4]],(folS p (runB p inn s)).1,(folS p (runB p inn s)).2,(a5,n5,c5),(a6,n6,c6)),[(0,0),(1,1),(2,2),(3,3),(4,5)],rfl,?_,⟨hle.trans h14,hlt,?_,hrow,?_,?_⟩⟩
   ·(repeat' (first|exact trivial|refine⟨?_,?_⟩|exact rfl|assumption))
   ·rw[hstp,hit]
   ·rw[hfo.2.1];exact hr5
   ·rw[hfo.1];exact hr6
  ·have hlt:most.toNat=0:=by have:=df h;omega
   rw[hlt]at hK;exact hK none 0 0 a2 n2 c2 H1 hle rl_nil hr2
 ·rintro⟨k,css,st,g,⟨a1,n1,c1⟩,⟨a2,n2,c2⟩⟩ H1 _ ⟨hle,hk,hit,hrc,hr1,hr2⟩;dsimp only at hk hit hrc hr1 hr2
  have hgd:goodS p st:=by have:=goodS_it (inn:=inn) hs k;rw[hit]at this;exact this
  have hol:st.2.2.2.length≤100000+40*512:=by
   have h1:=out_it (inn:=inn) hs k;rw[hit]at h1;have h2:k*stmtsN p≤40*512:=Nat.mul_le_mul (by omega) hst5;have h1:st.2.2.2.length≤s.2.2.2.length+k*stmtsN p:=h1;omega
  have hcl:css.length=(itS p inn s k).1.length:=hrc.1;have hle4:=itS_le (p:=p) (inn:=inn) (s0:=s) k;refine⟨fun h=>?_,fun h=>?_⟩
  ·have hgt:g=true:=h;subst hgt;have hkl:(itS p inn s k).1.length=k:=itS_len k (by rw[hit]);have hE1:=hgd.2.1;refine⟨fun h=>?_,fun h=>?_⟩
   ·have hlt:k<most.toNat:=by have:=dt h;dsimp only at this;omega
    refine⟨some ([1000000,3,4],[0,1,2,3,4,5,6,7]),by kernel_rfl,?_⟩;obtain⟨qq,hq,hbq,hqm⟩:=blkN_mem hgd;have hst:=block_stmts (hf.2.2.2 qq hqm);have hqs:=le_stmts hqm
    refine xclone_spec (l:=st.2.1) (o:=st.2.2.2) (by omega) (by omega) hr1 hr2 fun a3 n3 c3 a4 n4 c4 H2 H3 hle2 hr3 hle3 hr4=>?_
    have h13:Le H1 H3:=hle2.trans hle3.le;refine⟨⟨by show (css.length+1)*64≤140737488355328;omega,by show css.length+1≤9223372036854775807;omega⟩,?_⟩;refine⟨some ([1000000,1],[0,1,2,3,4,5,6,7,8,9,10]),by kernel_rfl,?_⟩
    refine run_spec (s:=st) hv hgd.1.1 hq hst hE1 (by omega) (by omega) hgd.2.2.1 (ha.up (hle.trans h13)) (hr1.up h13) (hr2.up h13) (hI.up (hle.trans h13)) fun a5 n5 c5 a6 n6 c6 H4 hle4 hr5 hr6=>?_
    have hgr:=goodS_run (inn:=inn) hgd;have hb1:(runB p inn st).1=st.1:=(doAll_blk p inn _ st).1;rw[←hb1];refine follow_spec (s:=runB p inn st) hv hp hgr.1.1 (by rw[hb1];exact hq) (ha.up ((hle.trans h13).trans hle4)) hr5 ?_;have hfo:=fol_out p (runB p inn st)
    have e:SV.v (.int .i64 (runB p inn st).2.2.1)=SV.v (.int .i64 (folS p (runB p inn st)).1.2.2.1):=by rw[hfo.2.2]
    have hstp:=itS_step (p:=p) (inn:=inn) (s0:=s) (k:=k) (by rw[hit]);have h14:=h13.trans hle4
    have hrow:RC (α:=StE) H4 (css++[[.int .i64 (runB p inn st).1,.slice a3 n3 c3,.int .i64 st.2.2.1,.slice a4 n4 c4]]) (itS p inn s (k+1)).1:=by
     rw[hstp,hit,hb1];have g1:=hgd.1;have g2:=hgd.2.2;exact (hrc.up h14).snoc (sta_mk ⟨by omega,by omega⟩ ⟨by omega,by omega⟩ (hr3.up (hle3.le.trans hle4)) (hr4.up hle4))
    refine⟨(k+1,css++[[.int .i64 (runB p inn st).1,.slice a3 n3 c3,.int .i64 st.2.2.1,.slice a4 n4 c4]],(folS p (runB p inn st)).1,(folS p (runB p inn st)).2,(a5,n5,c5),(a6,n6,c6)),[(0,0),(1,1),(2,2),(3,3),(4,6)],rfl,?_,⟨hle.trans h14,hlt,?_,hrow,?_,?_⟩,by dsimp only;omega⟩
    ·(repeat' (first|exact trivial|refine⟨?_,?_⟩|exact rfl|assumption))
    ·rw[hstp,hit]
    ·rw[hfo.2.1];exact hr5
    ·rw[hfo.1];exact hr6
   ·have hge:most.toNat=k:=by have:=df h;dsimp only at this;omega
    rw[hge,hit]at hK;intro v H5 hle5 hv5
    refine of_row_k (α:=StE) hv5 (hrc.up hle5.le) fun a7 n7 c7 ev hr7=>?_
    subst ev;exact hK _ _ _ _ _ _ _ (hle.trans hle5.le) hr7 (hr2.up hle5.le)
  ·have hgf:g=false:=h;subst hgf;have hend:=itS_end (p:=p) (inn:=inn) (s0:=s) (k:=k) (by rw[hit]) (most.toNat - k);rw[show k+(most.toNat - k)=most.toNat by omega]at hend;rw[hend,hit]at hK;intro v H5 hle5 hv5
   refine of_row_k (α:=StE) hv5 (hrc.up hle5.le) fun a7 n7 c7 ev hr7=>?_
   subst ev;exact hK _ _ _ _ _ _ _ (hle.trans hle5.le) hr7 (hr2.up hle5.le)
end Go.Proofs
end
section
namespace Go.Proofs
open Go.Sy
set_option maxRecDepth 20000
set_option maxHeartbeats 4000000
theorem at_name {q:Prog} {t:Bs8} (h:t∈bnames q):∃b,(0≤bIdx q t∧bIdx q t=idxS t (nms q) 0)∧q[(bIdx q t).toNat]?=some b∧b.1.l=t:=by
 have h1:=idxS_at t (nms q) 0 (by omega) h
 have e:bIdx q t=idxS t (nms q) 0:=by unfold bIdx;omega
 have h2:(q.map fun b:Block=>b.1.l)[(idxS t (nms q) 0 - 0).toNat]?=some t:=h1.2.2;rw[List.getElem?_map,Int.sub_zero]at h2
 cases hb:q[(idxS t (nms q) 0).toNat]? with
 | none=>rw[hb]at h2;cases h2
 | some b =>
  rw[hb]at h2;exact⟨b,⟨by rw[e];exact h1.1,e⟩,by rw[e];exact hb,Option.some.inj h2⟩
theorem name_get {q:Prog} {i:Nat} {b:Block} (h:q[i]?=some b):(bnames q)[i]?=some b.1.l:=by
 show (q.map fun b:Block=>b.1.l)[i]?=_
 rw[List.getElem?_map,h];rfl
theorem name_inj {q:Prog} (hn:(bnames q).Nodup) {i j:Nat} {b b':Block} (h1:q[i]?=some b) (h2:q[j]?=some b') (h:b.1.l=b'.1.l):i=j:=by
 have e1:=name_get h1;have e2:=name_get h2;rw[h]at e1;obtain⟨l1,g1⟩:=List.getElem?_eq_some_iff.1 e1;obtain⟨l2,g2⟩:=List.getElem?_eq_some_iff.1 e2;exact (List.getElem_inj hn).1 (g1.trans g2.symm)
theorem name_mem {q:Prog} {b:Block} (h:b∈q):b.1.l∈bnames q:=List.mem_map.2 ⟨b,h,rfl⟩
theorem idx_of {q:Prog} (hn:(bnames q).Nodup) {i:Nat} {b:Block} (h:q[i]?=some b):bIdx q b.1.l=(i:Int):=by
 obtain⟨b',h1,h2,h3⟩:=at_name (name_mem (List.mem_of_getElem? h));have:=name_inj hn h2 h h3;omega
theorem goes_edge {q:Prog} {i:Nat} {b:Block} (hb:q[i]?=some b) {t:Bs8} (ht:t∈goes b.2.2) (hn:t∈bnames q):((i:Int),bIdx q t)∈edgesOf q:=by
 obtain⟨_,h1,_,_⟩:=at_name hn
 have hg:eN q i t=[((i:Int),bIdx q t)]:=by rw[eN,if_pos (by omega),h1.2]
 refine eAll_mem q 0 hb ?_;rw[Nat.zero_add,eB];unfold goes at ht;split at ht
 ·rename_i h1;rw[List.mem_singleton.1 ht]at hg;rw[if_pos (.inl h1),hg];rw[List.mem_singleton.1 ht];simp
 ·split at ht
  ·rename_i h1;rw[if_pos (.inr h1),if_pos h1];simp only[List.mem_cons,List.not_mem_nil,or_false]at ht
   rcases ht with e | e
   ·rw[e]at hg ⊢;rw[hg];simp
   ·rw[e]at hg ⊢;rw[hg];simp
  ·cases ht
theorem eAll_inv {p:Prog}:∀(l:List Block) (i:Nat) (e:Edg),e∈eAll p l i→∃j b,l[j]?=some b∧e∈eB p (i+j) b
 | [],_,e,h=>by cases h
 | b::r,i,e,h=>by
  rw[eAll,List.mem_append]at h
  rcases h with h | h
  ·exact⟨0,b,rfl,h⟩
  ·obtain⟨j,b',h1,h2⟩:=eAll_inv r (i+1) e h;exact⟨j+1,b',h1,by rw[show i+(j+1)=i+1+j by omega];exact h2⟩
theorem edge_inv {q:Prog} {e:Edg} (h:e∈edgesOf q):∃(i:Nat) (b:Block) (t:Bs8),q[i]?=some b∧e.1=(i:Int)∧t∈goes b.2.2∧t∈bnames q∧e.2=bIdx q t:=by
 obtain⟨j,b,h1,h2⟩:=eAll_inv q 0 e h;rw[Nat.zero_add]at h2
 have hN:∀t,e∈eN q j t→e.1=(j:Int)∧t∈bnames q∧e.2=bIdx q t:=fun t ht=>by
  unfold eN at ht;split at ht
  ·rename_i h0;rw[List.mem_singleton]at ht;have hm:t∈bnames q:=idxS_some (i:=0) (by omega) h0;rw[ht];exact⟨rfl,hm,by unfold bIdx;dsimp only;omega⟩
  ·cases ht
 unfold eB at h2
 rcases List.mem_append.1 h2 with h3 | h3
 ·split at h3
  ·rename_i h4;have:=hN _ h3;refine⟨j,b,_,h1,this.1,?_,this.2.1,this.2.2⟩;unfold goes
   rcases h4 with h4 | h4
   ·rw[if_pos h4];simp
   ·rw[if_neg (by omega),if_pos h4];simp
  ·cases h3
 ·split at h3
  ·rename_i h4;have:=hN _ h3;refine⟨j,b,_,h1,this.1,?_,this.2.1,this.2.2⟩;unfold goes
   rw[if_neg (by omega),if_pos h4];simp
  ·cases h3
structure Kept (p q:Prog):Prop where
 chk:checkE p=0
 src:∀b'∈q,∃b∈p,b'=endB b
 nd:(bnames q).Nodup
 head:∃b,p[0]?=some b∧q[0]?=some (endB b)
 closed:∀b'∈q,∀t∈goes b'.2.2,t∈bnames q
theorem keepP_mem {q:Prog} {R:List Int} {n:Nat} {b:Block}:b∈keepP q R n↔∃k,k<n∧(k:Int)∈R∧q[k]?=some b:=by
 rw[keepP,List.mem_filterMap];constructor
 ·rintro⟨k,h1,h2⟩;obtain⟨h3,h4⟩:=List.mem_filter.1 h1;exact⟨k,List.mem_range.1 h3,dt h4,h2⟩
 ·rintro⟨k,h1,h2,h3⟩;exact⟨k,List.mem_filter.2 ⟨List.mem_range.2 h1,decide_eq_true h2⟩,h3⟩
theorem range_all (q:Prog):(List.range q.length).filterMap (fun k=>q[k]?)=q:=by
 have h:∀(l:Prog),(List.range l.length).filterMap (fun k=>l[k]?)=l:=fun l=>by
  induction l with
  | nil=>rfl
  | cons b r ih =>
   rw[List.length_cons,List.range_succ_eq_map,List.filterMap_cons];simp only[List.getElem?_cons_zero,List.filterMap_map]
   congr 1
 exact h q
theorem keepP_sub (q:Prog) (R:List Int):(keepP q R q.length).Sublist q:=by
 have h:=List.Sublist.filterMap (fun k=>q[k]?) (List.filter_sublist (p:=fun (k:Nat)=>decide ((k:Int)∈R)) (l:=List.range q.length));rw[range_all]at h;exact h
theorem keepP_all {q:Prog} {R:List Int} (h:∀k,k<q.length→(k:Int)∈R):keepP q R q.length=q:=by
 rw[keepP,List.filter_eq_self.2 (fun k hk=>decide_eq_true (h k (List.mem_range.1 hk))),range_all]
theorem endT_goes (t:Term):∀u∈goes (endT t),u∈goes t:=by
 intro u hu;unfold endT at hu;split at hu
 ·rename_i h2
  have e:goes t=[t.2.2.1.l,t.2.2.2.l]:=by rw[goes,if_neg (by omega),if_pos h2]
  split at hu
  ·rw[goes,if_pos rfl]at hu
   rw[e,List.mem_singleton.1 hu];simp
  ·split at hu
   ·rw[goes,if_pos rfl]at hu
    rw[e,List.mem_singleton.1 hu];simp
   ·exact hu
 ·exact hu
theorem endT_idem (t:Term):endT (endT t)=endT t:=by
 by_cases h2:t.1=2
 ·by_cases h3:t.2.1.1.l=[]∧t.2.1.2=(0,0)
  ·have e:endT t=(1,za,t.2.2.2,⟨[]⟩):=by rw[endT,if_pos h2,if_pos h3]
   rw[e,endT,if_neg (show ¬(1:Int)=2 by decide)]
  ·by_cases h4:t.2.1.1.l=[]∨t.2.2.1.l=t.2.2.2.l
   ·have e:endT t=(1,za,t.2.2.1,⟨[]⟩):=by rw[endT,if_pos h2,if_neg h3,if_pos h4]
    rw[e,endT,if_neg (show ¬(1:Int)=2 by decide)]
   ·have e:endT t=t:=by rw[endT,if_pos h2,if_neg h3,if_neg h4]
    rw[e,e]
 ·have e:endT t=t:=by rw[endT,if_neg h2]
  rw[e,e]
theorem endsP_names (p:Prog):bnames (endsP p)=bnames p:=by
 show (p.map endB).map _=p.map _
 rw[List.map_map];rfl
theorem endsP_get {p:Prog} {i:Nat} {b:Block} (h:p[i]?=some b):(endsP p)[i]?=some (endB b):=by
 show (p.map endB)[i]?=_
 rw[List.getElem?_map,h];rfl
theorem check_goes0 {p:Prog} (h:checkE p=0) {b:Block} (hb:b∈p):∀t∈goes (endB b).2.2,t∈bnames p:=fun _ ht=>check_goes h hb (endT_goes _ _ ht)
theorem kept_prog {p:Prog} (h:checkE p=0) {R:List Int} (hR:IsReach (p.length:Nat) (gSort (edgesOf (endsP p))) [0] R):Kept p (keepP (endsP p) R p.length):=by
 have hl:(endsP p).length=p.length:=endsP_len p;have hf:=check_facts h
 have h0:(0:Int)∈R:=hR.from' 0 (by simp) (decide_eq_true (by omega))
 refine⟨h,?_,?_,?_,?_⟩
 ·intro b' hb';obtain⟨k,_,_,h3⟩:=keepP_mem.1 hb';obtain⟨b,hb,e⟩:=List.mem_map.1 (List.mem_of_getElem? h3);exact⟨b,hb,e.symm⟩
 ·have h1:=(keepP_sub (endsP p) R).map (fun b:Block=>b.1.l);rw[hl]at h1
  have h2:(bnames (endsP p)).Nodup:=by rw[endsP_names];exact check_nodup h
  exact List.Nodup.sublist h1 h2
 ·have hlt:0<p.length:=by omega
  refine⟨p[0],List.getElem?_eq_getElem hlt,?_⟩
  have e:p.length=(p.length - 1)+1:=by omega
  rw[keepP,e,List.range_succ_eq_map,List.filter_cons,if_pos (decide_eq_true (by exact h0)),List.filterMap_cons,endsP_get (List.getElem?_eq_getElem hlt)]
  rfl
 ·intro b' hb' t ht;obtain⟨k,h1,h2,h3⟩:=keepP_mem.1 hb';obtain⟨b,hb,e⟩:=List.mem_map.1 (List.mem_of_getElem? h3)
  have hn:t∈bnames (endsP p):=by rw[endsP_names];rw[←e]at ht;exact check_goes0 h hb t ht
  obtain⟨b2,h4,h5,h6⟩:=at_name hn;have hed:=goes_edge h3 ht hn;have hlt:=(List.getElem?_eq_some_iff.1 h5).1;rw[hl]at hlt;have hin:bIdx (endsP p) t∈R:=hR.closed _ h2 _ (nxt_mem.2 ⟨(gSort_mem _ _).2 hed,decide_eq_true (by omega),decide_eq_true (by omega)⟩);rw[←h6];refine name_mem (keepP_mem.2 ⟨(bIdx (endsP p) t).toNat,hlt,?_,h5⟩);rw[Int.toNat_of_nonneg h4.1];exact hin
theorem kept_vars {p q:Prog} (h:Kept p q):∀t∈varsOf q,t∈varsOf p:=by
 intro t ht
 have h0:t≠[]:=fun e=>by
  have:=vIdx_mem ht;rw[e]at this;have:=vIdx_nil q;omega
 rcases vars_mem q ht with h1 | ⟨b',hb',h1⟩
 ·cases h1
 ·obtain⟨b,hb,rfl⟩:=h.src b' hb';have hv:=(vars_has p nil_sorted).1 b hb
  rcases h1 with h1 | ⟨x,hx,h1⟩
  ·have e:(endT b.2.2).2.1.1.l=b.2.2.2.1.1.l∨(endT b.2.2).2.1.1.l=[]:=by
    unfold endT;split
    ·split
     ·exact .inr rfl
     ·split
      ·exact .inr rfl
      ·exact .inl rfl
    ·exact .inl rfl
   have h1:t=(endT b.2.2).2.1.1.l:=h1
   rcases e with e | e
   ·rw[h1,e]at h0 ⊢;exact hv.2 h0
   ·rw[h1,e]at h0;exact absurd rfl h0
  ·exact hv.1 x hx t h1 h0
theorem rest_valA {p q:Prog} (hs:∀t∈varsOf q,t∈varsOf p) {e:List Nm} {a:Atm} (ha:a.1.l≠[]→a.1.l∈varsOf q):valA q (restE p q e) a=valA p e a:=by
 unfold valA
 by_cases h0:a.1.l=[]
 ·rw[if_pos h0,if_pos h0]
 ·have hq:=ha h0
  rw[if_neg h0,if_neg h0,if_pos (vIdx_mem hq).1,if_pos (vIdx_mem (hs _ hq)).1,restE_idx hq];rfl
theorem rest_do {p q:Prog} (hs:∀t∈varsOf q,t∈varsOf p) {inn:List Nm} {x:Stmt} (hx:stmtB x=true) (hm:∀t∈sVars x,t≠[]→t∈varsOf q) {s1 s2:StE} (hl:s1.2.1.length=(varsOf p).length) (h:s2.2=(restE p q s1.2.1,s1.2.2)):
  (doS q inn s2 x).2=(restE p q (doS p inn s1 x).2.1,(doS p inn s1 x).2.2):=by
 have hA:valA q s2.2.1 x.2.2.2.1=valA p s1.2.1 x.2.2.2.1:=by rw[h];exact rest_valA hs (hm _ (by simp))
 have hB:valA q s2.2.1 x.2.2.2.2=valA p s1.2.1 x.2.2.2.2:=by rw[h];exact rest_valA hs (hm _ (by simp))
 have h1:s2.2.1=restE p q s1.2.1:=by rw[h]
 have h2:s2.2.2=s1.2.2:=by rw[h]
 rcases stmtB_var hx with ⟨hk,_,_,h4⟩ | ⟨hk,h4⟩ | ⟨hk,_⟩
 ·rw[doS,doS,if_pos hk,if_pos hk,hA,hB,h1,h2];dsimp only;rw[restE_set hs hl (hm _ (by simp) h4)]
 ·rw[doS,doS,if_neg (by omega),if_pos hk,if_neg (by omega),if_pos hk,h1,h2];dsimp only;rw[restE_set hs hl (hm _ (by simp) h4)]
 ·rw[doS,doS,if_neg (by omega),if_neg (by omega),if_pos hk,if_neg (by omega),if_neg (by omega),if_pos hk,hA,h1,h2]
theorem rest_all {p q:Prog} (hs:∀t∈varsOf q,t∈varsOf p) {inn:List Nm}:∀(l:List Stmt) {s1 s2:StE},(∀x∈l,stmtB x=true)→(∀x∈l,∀t∈sVars x,t≠[]→t∈varsOf q)→s1.2.1.length=(varsOf p).length→s2.2=(restE p q s1.2.1,s1.2.2) →
  (doAll q inn s2 l).2=(restE p q (doAll p inn s1 l).2.1,(doAll p inn s1 l).2.2)
 | [],_,_,_,_,_,h=>h
 | x::r,s1,s2,h1,h2,hl,h=>by
  have hd:=rest_do hs (inn:=inn) (h1 x List.mem_cons_self) (h2 x List.mem_cons_self) hl h;rw[doAll,doAll,List.foldl_cons,List.foldl_cons];exact rest_all hs r (fun y hy=>h1 y (List.mem_cons_of_mem _ hy)) (fun y hy=>h2 y (List.mem_cons_of_mem _ hy)) ((doS_blk p inn s1 x).2.trans hl) hd
theorem itS_bisim {p q:Prog} {inn:List Nm} (Rl:StE→StE→Prop)
  (hs:∀s1 s2,Rl s1 s2→(folS p (runB p inn s1)).2=(folS q (runB q inn s2)).2∧(folS p (runB p inn s1)).1.2.2=(folS q (runB q inn s2)).1.2.2∧((folS p (runB p inn s1)).2=true→Rl (folS p (runB p inn s1)).1 (folS q (runB q inn s2)).1))
  {s1 s2:StE} (h:Rl s1 s2) (ho:s1.2.2=s2.2.2):∀k,(itS p inn s1 k).1.length=(itS q inn s2 k).1.length∧(itS p inn s1 k).2.2=(itS q inn s2 k).2.2∧(itS p inn s1 k).2.1.2.2=(itS q inn s2 k).2.1.2.2 ∧
  ((itS p inn s1 k).2.2=true→Rl (itS p inn s1 k).2.1 (itS q inn s2 k).2.1)
 | 0=>⟨rfl,rfl,ho,fun _=>h⟩
 | k+1=>by
  have hi:=itS_bisim Rl hs h ho k
  by_cases h1:(itS p inn s1 k).2.2=true
  ·have h2:(itS q inn s2 k).2.2=true:=hi.2.1▸h1;have hs:=hs _ _ (hi.2.2.2 h1);rw[itS_step h1,itS_step h2];refine⟨?_,hs.1,hs.2.1,hs.2.2⟩;simp only[List.length_append,List.length_singleton];rw[hi.1]
  ·have h1:(itS p inn s1 k).2.2=false:=by simpa using h1
   have h2:(itS q inn s2 k).2.2=false:=hi.2.1▸h1;rw[itS_stop h1,itS_stop h2];exact hi
theorem goTo_goes {p:Prog} {z:StE} {t:Term} (h:t.1=1∨t.1=2):goTo p z t∈goes t:=by
 unfold goTo goes
 rcases h with h7 | h7
 ·rw[if_neg (c:=t.1=2∧valA p z.2.1 t.2.1=(0,0)) (fun h=>by have:=h.1;omega),if_pos h7];simp
 ·rw[if_neg (c:=t.1=1) (by omega),if_pos h7]
  split<;>simp
def KRel (p q:Prog) (s1 s2:StE):Prop:=∃b,p[s1.1.toNat]?=some b∧q[s2.1.toNat]?=some (endB b)∧s1.2.1.length=(varsOf p).length∧s2.2=(restE p q s1.2.1,s1.2.2)
theorem atm_num {a:Atm} (h:atmB a=true) (h0:a.1.l=[]):nOf a.2=a.2:=by
 unfold atmB at h;rw[if_pos h0]at h;exact (dt h).symm
theorem kept_step {p q:Prog} (h:Kept p q) {inn:List Nm} {s1 s2:StE} (hr:KRel p q s1 s2):
  (folS p (runB p inn s1)).2=(folS q (runB q inn s2)).2∧(folS p (runB p inn s1)).1.2.2=(folS q (runB q inn s2)).1.2.2∧((folS p (runB p inn s1)).2=true→KRel p q (folS p (runB p inn s1)).1 (folS q (runB q inn s2)).1):=by
 obtain⟨b,h1,h2,hl,he⟩:=hr;have hb:=List.mem_of_getElem? h1;have hb2:=List.mem_of_getElem? h2;have hs:=kept_vars h;have hB:=(check_facts h.chk).2.2.2 b hb;have hst:=block_stmts hB;have hq:=(vars_has q nil_sorted).1 _ hb2;have hd:=rest_all hs (inn:=inn) b.2.1 hst hq.1 hl he
 have hr1:runB p inn s1=doAll p inn s1 b.2.1:=by rw[runB,blkN_get h1]
 have hr2:runB q inn s2=doAll q inn s2 b.2.1:=by rw[runB,blkN_get h2];rfl
 have e1:=doAll_blk p inn b.2.1 s1;have e2:=doAll_blk q inn b.2.1 s2;rw[hr1,hr2];generalize doAll p inn s1 b.2.1=z1 at hd e1;generalize doAll q inn s2 b.2.1=z2 at hd e2
 have hM1:blkN p z1.1=b:=by rw[e1.1];exact blkN_get h1
 have hM2:blkN q z2.1=endB b:=by rw[e2.1];exact blkN_get h2
 have ho:z2.2.2=z1.2.2:=by rw[hd]
 have hz:z2.2.1=restE p q z1.2.1:=by rw[hd]
 have hk:(endB b).2.2.1=3↔b.2.2.1=3:=by
  show (endT b.2.2).1=3↔_;unfold endT;split
  ·rename_i h2;split
   ·dsimp only;omega
   ·split
    ·dsimp only;omega
    ·exact Iff.rfl
  ·exact Iff.rfl
 unfold folS;rw[hM1,hM2]
 by_cases h3:b.2.2.1=3
 ·rw[if_pos h3,if_pos (hk.2 h3)];exact⟨rfl,ho.symm,fun h=>by cases h⟩
 ·rw[if_neg h3,if_neg (fun h=>h3 (hk.1 h))];rw[blockB,Bool.and_eq_true,Bool.and_eq_true]at hB;have hT:=hB.1.2
  have hgo:goTo p z1 b.2.2=goTo q z2 (endB b).2.2:=by
   show goTo p z1 b.2.2=goTo q z2 (endT b.2.2)
   by_cases h4:b.2.2.1=2
   ·have hat:atmB b.2.2.2.1=true:=by
     unfold termB at hT;rw[if_neg (by omega),if_pos h4,Bool.and_eq_true]at hT;exact hT.2
    by_cases h5:b.2.2.2.1.1.l=[]∧b.2.2.2.1.2=(0,0)
    ·have e:endT b.2.2=(1,za,b.2.2.2.2.2,⟨[]⟩):=by rw[endT,if_pos h4,if_pos h5]
     have ev:valA p z1.2.1 b.2.2.2.1=(0,0):=by rw[valA,if_pos h5.1,h5.2];decide
     rw[e,goTo,goTo,if_pos ⟨h4,ev⟩,if_neg (fun h=>absurd h.1 (show ¬(1:Int)=2 by decide))]
    ·by_cases h6:b.2.2.2.1.1.l=[]∨b.2.2.2.2.1.l=b.2.2.2.2.2.l
     ·have e:endT b.2.2=(1,za,b.2.2.2.2.1,⟨[]⟩):=by rw[endT,if_pos h4,if_neg h5,if_pos h6]
      rw[e,goTo,goTo,if_neg (c:=_∧valA q _ _=_) (fun h=>absurd h.1 (show ¬(1:Int)=2 by decide))];dsimp only;split
      ·rename_i h7
       rcases h6 with h6 | h6
       ·exfalso
        have ev:valA p z1.2.1 b.2.2.2.1=b.2.2.2.1.2:=by rw[valA,if_pos h6,atm_num hat h6]
        exact h5 ⟨h6,ev▸h7.2⟩
       ·exact h6.symm
      ·rfl
     ·have e:endT b.2.2=b.2.2:=by rw[endT,if_pos h4,if_neg h5,if_neg h6]
      have hv:valA q z2.2.1 b.2.2.2.1=valA p z1.2.1 b.2.2.2.1:=by
       rw[hz]
       refine rest_valA hs fun h0=>?_
       have:=hq.2;rw[show (endB b).2.2=b.2.2 from e]at this;exact this h0
      rw[e,goTo,goTo,hv]
   ·have e:endT b.2.2=b.2.2:=by rw[endT,if_neg h4]
    rw[e,goTo,goTo,if_neg (fun h=>h4 h.1),if_neg (fun h=>h4 h.1)]
  refine⟨rfl,ho.symm,fun _=>?_⟩
  have hgq:goTo q z2 (endB b).2.2∈goes (endB b).2.2:=by
   have:(endB b).2.2.1=1∨(endB b).2.2.1=2:=by
    have hk2:=term_kind h.chk hb;show (endT b.2.2).1=1∨(endT b.2.2).1=2;unfold endT;split
    ·split
     ·exact .inl rfl
     ·split
      ·exact .inl rfl
      ·exact .inr (by assumption)
    ·rename_i h9;exact .inl (by omega)
   exact goTo_goes this
  have hnq:=h.closed _ hb2 _ hgq;obtain⟨b2,g1,g2,g3⟩:=at_name hnq;obtain⟨b3,hb3,e3⟩:=h.src b2 (List.mem_of_getElem? g2)
  have hnp:goTo q z2 (endB b).2.2∈bnames p:=by rw[←g3,e3];exact name_mem (b:=b3) hb3
  obtain⟨b4,g4,g5,g6⟩:=at_name hnp
  have e4:b4=b3:=by
   obtain⟨k,hk3⟩:=List.getElem?_of_mem hb3
   have hnm:b4.1.l=b3.1.l:=by rw[g6,←g3,e3];rfl
   have e5:=name_inj (check_nodup h.chk) g5 hk3 hnm;rw[e5,hk3]at g5;exact (Option.some.inj g5).symm
  refine⟨b4,?_,?_,?_,?_⟩
  ·show p[(bIdx p (goTo p z1 b.2.2)).toNat]?=some b4
   rw[hgo];exact g5
  ·show q[(bIdx q (goTo q z2 (endB b).2.2)).toNat]?=some (endB b4);rw[g2,e3,e4]
  ·exact e1.2.trans hl
  ·exact hd
theorem kept_start {p q:Prog} (h:Kept p q):KRel p q (start0 p) (start0 q):=by
 obtain⟨b,h1,h2⟩:=h.head;refine⟨b,h1,h2,by simp [start0],?_⟩
 show (List.replicate (varsOf q).length ((0,0):Nm),(0:Int),([]:List Nm))=(restE p q (List.replicate (varsOf p).length ((0,0):Nm)),(0:Int),([]:List Nm))
 refine Prod.ext ?_ rfl;refine (List.eq_replicate_iff.2 ⟨restE_len _ _ _,fun x hx=>?_⟩).symm;obtain⟨t,_,rfl⟩:=List.mem_map.1 hx;rw[List.getElem?_replicate]
 split<;>rfl
theorem kept_it {p q:Prog} (h:Kept p q) (inn:List Nm) (k:Nat):(itS p inn (start0 p) k).1.length=(itS q inn (start0 q) k).1.length∧(itS p inn (start0 p) k).2.2=(itS q inn (start0 q) k).2.2∧(itS p inn (start0 p) k).2.1.2.2=(itS q inn (start0 q) k).2.1.2.2:=by
 have r:=itS_bisim (inn:=inn) (KRel p q) (fun _ _ hr=>kept_step h hr) (kept_start h) rfl k;exact⟨r.1,r.2.1,r.2.2.1⟩
end Go.Proofs
end
section
namespace Go.Proofs
open Go.Sy
set_option maxRecDepth 20000
set_option maxHeartbeats 4000000
theorem vars_iff {p:Prog} {t:Bs8}:t∈varsOf p↔t≠[]∧∃b∈p,t=b.2.2.2.1.1.l∨∃s∈b.2.1,t∈sVars s:=by
 constructor
 ·intro ht;refine⟨fun e=>?_,?_⟩
  ·have h1:=vIdx_mem ht;rw[e]at h1;have:=vIdx_nil p;omega
  ·rcases vars_mem p ht with h | h
   ·cases h
   ·exact h
 ·rintro⟨h0,b,hb,h⟩;have hv:=(vars_has p nil_sorted).1 b hb
  rcases h with h | ⟨s,hs,h⟩
  ·rw[h]at h0 ⊢;exact hv.2 h0
  ·exact hv.1 s hs t h h0
theorem check_mk {q:Prog} (h1:1≤q.length) (h2:q.length≤128) (h3:stmtsN q≤512) (h4:∀b∈q,blockB b=true) (h5:(varsOf q).length≤64) (h6:(bnames q).Nodup) (h7:∀b∈q,∀t∈goes b.2.2,t∈bnames q):checkE q=0:=by
 unfold checkE;rw[if_neg (by omega),if_pos (List.all_eq_true.2 h4),if_neg (by omega),if_pos h6,if_pos (List.all_eq_true.2 fun b hb=>List.all_eq_true.2 fun t ht=>decide_eq_true (h7 b hb t ht))]
structure Whole (q:Prog):Prop where
 chk:checkE q=0
 ends:endsP q=q
 all:∀S:Int→Prop,S 0→(∀e∈edgesOf q,S e.1→S e.2)→∀i:Nat,i<q.length→S (i:Int)
structure Pair (q:Prog) (a t:Nat) (x y:Block):Prop where
 hx:q[a]?=some x
 hy:q[t]?=some y
 k:x.2.2.1=1
 to:bIdx q x.2.2.2.2.1.l=(t:Int)
 pos:0<t
 ne:t≠a
 one:∀e∈edgesOf q,e.2=(t:Int)→e.1=(a:Int)
theorem firstP_tgt {q:Prog} {z:Nat×Nat}:∀ {i:Nat},firstP q i=some z→∃j,tgt q j=some z
 | 0,h=>by cases h
 | i+1,h=>by
  rw[firstP_succ]at h
  cases h1:firstP q i with
  | some x=>rw[h1]at h;cases h;exact firstP_tgt h1
  | none=>rw[h1]at h;exact⟨i,h⟩
theorem pair_of {q:Prog} {a t:Nat} (h:pairP q=some (a,t)):∃x y,Pair q a t x y:=by
 obtain⟨j,hj⟩:=firstP_tgt h;unfold tgt at hj;split at hj
 ·rename_i x hx;split at hj
  ·rename_i hok;simp only[okP,Bool.and_eq_true,decide_eq_true_eq,Bool.not_eq_true',decide_eq_false_iff_not]at hok;simp only[Option.some.injEq,Prod.mk.injEq]at hj;obtain⟨rfl,rfl⟩:=hj;obtain⟨⟨⟨hk,hpos⟩,hne⟩,hin⟩:=hok;have hr:=toI_range q x
   have hlt:(toI q x).toNat<q.length:=by omega
   have hto:bIdx q x.2.2.2.2.1.l=toI q x:=by unfold bIdx toI at *;omega
   have hmem:x.2.2.2.2.1.l∈bnames q:=idxS_some (i:=0) (by omega) (Int.le_of_lt hpos);refine⟨x,q[(toI q x).toNat],hx,List.getElem?_eq_getElem hlt,hk,by omega,by omega,by omega,fun e he he2=>?_⟩;have hed:=goes_edge hx (t:=x.2.2.2.2.1.l) (by rw[goes,if_pos hk];simp) hmem;rw[indeg,List.countP_eq_length_filter]at hin;obtain⟨z,hz⟩:=List.length_eq_one_iff.1 hin
   have m1:e∈(gSort (edgesOf q)).filter fun e=>decide (e.2=toI q x):=List.mem_filter.2 ⟨(gSort_mem _ _).2 he,decide_eq_true (by omega)⟩
   have m2:((j:Int),bIdx q x.2.2.2.2.1.l)∈(gSort (edgesOf q)).filter fun e=>decide (e.2=toI q x):=List.mem_filter.2 ⟨(gSort_mem _ _).2 hed,decide_eq_true hto⟩
   rw[hz,List.mem_singleton]at m1 m2;rw[m1,←m2]
  ·cases hj
 ·cases hj
def phi (t i:Nat):Nat:=if i<t then i else i - 1
theorem join_get {q:Prog} {a t:Nat} {x y:Block} (P:Pair q a t x y) {i:Nat} {b:Block} (hi:i≠t) (hb:q[i]?=some b):(joinP q a t)[phi t i]?=some (if i=a then catB x y else b):=by
 have hlt:=(List.getElem?_eq_some_iff.1 P.hx).1;rw[joinP_eq P.hx P.hy,List.getElem?_eraseIdx]
 have e:(if phi t i<t then (q.set a (catB x y))[phi t i]? else (q.set a (catB x y))[phi t i+1]?)=(q.set a (catB x y))[i]?:=by
  unfold phi
  by_cases h:i<t
  ·rw[if_pos h,if_pos h]
  ·rw[if_neg h,if_neg (by omega),show i - 1+1=i by omega]
 rw[e,List.getElem?_set]
 by_cases h:a=i
 ·rw[if_pos h,if_pos (by omega),if_pos h.symm]
 ·rw[if_neg h,if_neg (fun h2=>h h2.symm),hb]
theorem join_inv {q:Prog} {a t:Nat} {x y:Block} (P:Pair q a t x y) {j:Nat} {b':Block} (hj:(joinP q a t)[j]?=some b'):∃i b,i≠t∧j=phi t i∧q[i]?=some b∧b'=if i=a then catB x y else b:=by
 have hlen:=joinP_len (List.getElem?_eq_some_iff.1 P.hy).1 (List.getElem?_eq_some_iff.1 P.hx).1;have hjl:=(List.getElem?_eq_some_iff.1 hj).1
 have key:∀i,i≠t→j=phi t i→i<q.length→∃i b,i≠t∧j=phi t i∧q[i]?=some b∧b'=if i=a then catB x y else b:=fun i h1 h2 h3=>by
  have h4:=join_get P h1 (List.getElem?_eq_getElem h3);rw[←h2,hj]at h4;exact⟨i,q[i],h1,h2,List.getElem?_eq_getElem h3,Option.some.inj h4⟩
 by_cases h:j<t
 ·exact key j (by omega) (by rw[phi,if_pos h]) (by omega)
 ·exact key (j+1) (by omega) (by rw[phi,if_neg (by omega)];omega) (by omega)
theorem join_sub {q:Prog} {a t:Nat} {x y:Block} (P:Pair q a t x y):(bnames (joinP q a t)).Sublist (bnames q):=by
 have e:(q.set a (catB x y)).map (fun b:Block=>b.1.l)=q.map fun b:Block=>b.1.l:=by
  apply List.ext_getElem?;intro i;rw[List.getElem?_map,List.getElem?_map,List.getElem?_set]
  by_cases h:a=i
  ·have hlt:=(List.getElem?_eq_some_iff.1 P.hx).1
   rw[if_pos h,if_pos (by omega),←h,P.hx];rfl
  ·rw[if_neg h]
 show ((joinP q a t).map _).Sublist _;rw[joinP_eq P.hx P.hy];have h:=(List.eraseIdx_sublist (q.set a (catB x y)) t).map (fun b:Block=>b.1.l);rw[e]at h;exact h
theorem join_nd {q:Prog} (hc:checkE q=0) {a t:Nat} {x y:Block} (P:Pair q a t x y):(bnames (joinP q a t)).Nodup:=List.Nodup.sublist (join_sub P) (check_nodup hc)
theorem join_idx {q:Prog} (hc:checkE q=0) {a t:Nat} {x y:Block} (P:Pair q a t x y) {u:Bs8} (hu:u∈bnames q) (hne:bIdx q u≠(t:Int)):
  ∃j:Nat,j≠t∧j<q.length∧bIdx q u=(j:Int)∧bIdx (joinP q a t) u=((phi t j:Nat):Int)∧u∈bnames (joinP q a t):=by
 obtain⟨b,h1,h2,h3⟩:=at_name hu
 have hj:(bIdx q u).toNat≠t:=by omega
 have h4:=join_get P hj h2
 have hn:(if (bIdx q u).toNat=a then catB x y else b).1.l=u:=by
  split
  ·rename_i h5;rw[h5,P.hx]at h2
   rw[←h3,←Option.some.inj h2];rfl
  ·exact h3
 have h5:=idx_of (join_nd hc P) h4;rw[hn]at h5;refine⟨(bIdx q u).toNat,hj,(List.getElem?_eq_some_iff.1 h2).1,by omega,h5,?_⟩;rw[←hn];exact name_mem (List.mem_of_getElem? h4)
theorem pair_term {q:Prog} (hc:checkE q=0) {a t:Nat} {x y:Block} (P:Pair q a t x y):x.2.2.2.1.1.l=[]:=by
 have hB:=(check_facts hc).2.2.2 x (List.mem_of_getElem? P.hx);rw[blockB,Bool.and_eq_true,Bool.and_eq_true]at hB;have hT:=hB.1.2;unfold termB at hT;rw[if_pos P.k]at hT;simp only[Bool.and_eq_true,decide_eq_true_eq]at hT
 rw[hT.2.2];rfl
abbrev loB:LO Bs8 where
 lt a b:=a<b
 dec a b:=inferInstanceAs (Decidable (a<b))
 deq:=inferInstance
 irrefl:=slt_irrefl
 trans:=slt_trans
 tri:=slt_tri
theorem sorted_ext {l m:List Bs8} (hl:SortedS l) (hm:SortedS m) (h:∀x,x∈l↔x∈m):l=m:=@strict_ext Bs8 loB l m hl hm h
theorem join_vars {q:Prog} (hc:checkE q=0) {a t:Nat} {x y:Block} (P:Pair q a t x y):varsOf (joinP q a t)=varsOf q:=by
 refine sorted_ext (vars_sorted _ nil_sorted) (vars_sorted _ nil_sorted) fun u=>?_
 have hcat:(joinP q a t)[phi t a]?=some (catB x y):=by
  have:=join_get P P.ne.symm P.hx;rwa[if_pos rfl]at this
 have hcm:=List.mem_of_getElem? hcat
 constructor
 ·intro h;obtain⟨h0,b',hb',h⟩:=vars_iff.1 h;obtain⟨j,hj⟩:=List.getElem?_of_mem hb';obtain⟨i,b,h1,h2,h3,h4⟩:=join_inv P hj;refine vars_iff.2 ⟨h0,?_⟩;split at h4
  ·rw[h4]at h
   rcases h with h | ⟨s,hs,h⟩
   ·exact⟨y,List.mem_of_getElem? P.hy,.inl h⟩
   ·rcases List.mem_append.1 hs with hs | hs
    ·exact⟨x,List.mem_of_getElem? P.hx,.inr ⟨s,hs,h⟩⟩
    ·exact⟨y,List.mem_of_getElem? P.hy,.inr ⟨s,hs,h⟩⟩
  ·rw[h4]at h;exact⟨b,List.mem_of_getElem? h3,h⟩
 ·intro h;obtain⟨h0,b,hb,h⟩:=vars_iff.1 h;obtain⟨i,hi⟩:=List.getElem?_of_mem hb;refine vars_iff.2 ⟨h0,?_⟩
  by_cases e1:i=t
  ·rw[e1,P.hy]at hi;have e:=Option.some.inj hi;rw[←e]at h
   rcases h with h | ⟨s,hs,h⟩
   ·exact⟨_,hcm,.inl h⟩
   ·exact⟨_,hcm,.inr ⟨s,List.mem_append.2 (.inr hs),h⟩⟩
  ·by_cases e2:i=a
   ·rw[e2,P.hx]at hi;have e:=Option.some.inj hi;rw[←e]at h
    rcases h with h | ⟨s,hs,h⟩
    ·rw[pair_term hc P]at h;exact absurd h h0
    ·exact⟨_,hcm,.inr ⟨s,List.mem_append.2 (.inl hs),h⟩⟩
   ·have h2:=join_get P e1 hi;rw[if_neg e2]at h2;exact⟨b,List.mem_of_getElem? h2,h⟩
theorem join_goes {q:Prog} (hc:checkE q=0) {a t:Nat} {x y:Block} (P:Pair q a t x y) {i:Nat} {b:Block} (hb:q[i]?=some b) (hi:i≠a) {u:Bs8} (hu:u∈goes b.2.2):
  ∃j:Nat,j≠t∧j<q.length∧bIdx q u=(j:Int)∧bIdx (joinP q a t) u=((phi t j:Nat):Int)∧u∈bnames (joinP q a t):=by
 have hn:=check_goes hc (List.mem_of_getElem? hb) hu
 refine join_idx hc P hn fun e=>?_
 have:=P.one _ (goes_edge hb hu hn) e;dsimp only at this;omega
theorem join_check {q:Prog} (hc:checkE q=0) {a t:Nat} {x y:Block} (P:Pair q a t x y):checkE (joinP q a t)=0:=by
 have hf:=check_facts hc;have lx:=(List.getElem?_eq_some_iff.1 P.hx).1;have ly:=(List.getElem?_eq_some_iff.1 P.hy).1;have hne:=P.ne;have hlen:=joinP_len ly lx;refine check_mk (by omega) (by omega) ?_ ?_ ?_ (join_nd hc P) ?_
 ·rw[joinP_stmts P.ne ly lx];exact stmts_512' hc
 ·intro b' hb';obtain⟨j,hj⟩:=List.getElem?_of_mem hb';obtain⟨i,b,h1,h2,h3,h4⟩:=join_inv P hj;split at h4
  ·have hX:=hf.2.2.2 x (List.mem_of_getElem? P.hx);have hY:=hf.2.2.2 y (List.mem_of_getElem? P.hy);rw[blockB,Bool.and_eq_true,Bool.and_eq_true]at hX hY;rw[h4,blockB,Bool.and_eq_true,Bool.and_eq_true];refine⟨⟨hX.1.1,hY.1.2⟩,?_⟩;show (x.2.1++y.2.1).all stmtB=true
   rw[List.all_append,hX.2,hY.2];rfl
  ·rw[h4];exact hf.2.2.2 b (List.mem_of_getElem? h3)
 ·rw[join_vars hc P];exact hf.2.2.1
 ·intro b' hb' u hu;obtain⟨j,hj⟩:=List.getElem?_of_mem hb';obtain⟨i,b,h1,h2,h3,h4⟩:=join_inv P hj;split at h4
  ·rw[h4]at hu;obtain⟨_,_,_,_,_,h5⟩:=join_goes hc P P.hy hne hu;exact h5
  ·rename_i h6;rw[h4]at hu;obtain⟨_,_,_,_,_,h5⟩:=join_goes hc P h3 h6 hu;exact h5
theorem join_whole {q:Prog} (hw:Whole q) {a t:Nat} {x y:Block} (P:Pair q a t x y):Whole (joinP q a t):=by
 have hc:=hw.chk;have lx:=(List.getElem?_eq_some_iff.1 P.hx).1;have ly:=(List.getElem?_eq_some_iff.1 P.hy).1;have hlen:=joinP_len ly lx
 have hcat:(joinP q a t)[phi t a]?=some (catB x y):=by
  have:=join_get P P.ne.symm P.hx;rwa[if_pos rfl]at this
 have hE:∀b∈q,endT b.2.2=b.2.2:=fun b hb=>by
  obtain⟨i,hi⟩:=List.getElem?_of_mem hb;have h1:=endsP_get hi;rw[hw.ends,hi]at h1;have h2:=Option.some.inj h1;show (endB b).2.2=_;rw[←h2]
 refine⟨join_check hc P,?_,?_⟩
 ·show (joinP q a t).map endB=_;refine (List.map_congr_left fun b' hb'=>?_).trans (List.map_id _);obtain⟨j,hj⟩:=List.getElem?_of_mem hb';obtain⟨i,b,h1,h2,h3,h4⟩:=join_inv P hj
  have e:endT b'.2.2=b'.2.2:=by
   split at h4
   ·rw[h4];exact hE y (List.mem_of_getElem? P.hy)
   ·rw[h4];exact hE b (List.mem_of_getElem? h3)
  show (b'.1,b'.2.1,endT b'.2.2)=b';rw[e]
 ·intro S h0 hS j hj;have hpos:=P.pos
  have key:=hw.all (fun i=>S (if i=(t:Int) then ((phi t a:Nat):Int) else ((phi t i.toNat:Nat):Int))) (by
   rw[if_neg (by omega),show phi t (0:Int).toNat=0 by unfold phi;rw[if_pos (by exact hpos)];rfl]
   exact h0) (fun e he hs=>by
   obtain⟨i,b,u,h1,h2,h3,h4,h5⟩:=edge_inv he
   by_cases e1:i=a
   ·have e2:=e1▸h1;rw[P.hx]at e2;have e2:=Option.some.inj e2;rw[←e2,goes,if_pos P.k,List.mem_singleton]at h3;rw[h5,h3,P.to,if_pos rfl];rw[h2,if_neg (by have:=P.ne;omega),e1,Int.toNat_natCast]at hs;exact hs
   ·obtain⟨j,g1,g2,g3,g4,g5⟩:=join_goes hc P h1 e1 h3;rw[h5,g3,if_neg (by omega),Int.toNat_natCast]
    by_cases e3:i=t
    ·rw[h2,if_pos (by omega)]at hs;have e4:=e3▸h1;rw[P.hy]at e4;have e4:=Option.some.inj e4;rw[←e4]at h3;have:=hS _ (goes_edge hcat (t:=u) h3 g5) hs
     try dsimp only at this
     rw[g4]at this;exact this
    ·rw[h2,if_neg (by omega),Int.toNat_natCast]at hs;have h6:=join_get P e3 h1;rw[if_neg e1]at h6;have:=hS _ (goes_edge h6 (t:=u) h3 g5) hs
     try dsimp only at this
     rw[g4]at this
     exact this)
  by_cases h:j<t
  ·have:=key j (by omega)
   try dsimp only at this
   rw[if_neg (by omega),Int.toNat_natCast,phi,if_pos h]at this;exact this
  ·have:=key (j+1) (by omega)
   try dsimp only at this
   rw[if_neg (by omega),Int.toNat_natCast,phi,if_neg (by omega),Nat.add_sub_cancel]at this;exact this
inductive Ends (p:Prog) (inn:List Nm):StE→Nat→List Nm→Prop
 | stop {s:StE} (h:(folS p (runB p inn s)).2=false):Ends p inn s 1 (folS p (runB p inn s)).1.2.2.2
 | step {s:StE} {k:Nat} {o:List Nm} (h:(folS p (runB p inn s)).2=true) (hr:Ends p inn (folS p (runB p inn s)).1 k o):Ends p inn s (k+1) o
theorem itS_front {p:Prog} {inn:List Nm} {s:StE}:∀k,itS p inn s (k+1)=if (folS p (runB p inn s)).2=true then (s::(itS p inn (folS p (runB p inn s)).1 k).1,(itS p inn (folS p (runB p inn s)).1 k).2) else ([s],folS p (runB p inn s))
 | 0=>by
  rw[itS_step (k:=0) rfl];show ([]++[s],folS p (runB p inn s))=_;split
  ·rename_i h
   show _=([s],((folS p (runB p inn s)).1,true))
   rw[←h];rfl
  ·rfl
 | k+1=>by
  have ih:=itS_front (p:=p) (inn:=inn) (s:=s) k
  by_cases h:(folS p (runB p inn s)).2=true
  ·rw[if_pos h]at ih ⊢
   by_cases h2:(itS p inn (folS p (runB p inn s)).1 k).2.2=true
   ·have h3:(itS p inn s (k+1)).2.2=true:=by rw[ih];exact h2
    rw[itS_step h3,itS_step h2,ih];rfl
   ·have h2:(itS p inn (folS p (runB p inn s)).1 k).2.2=false:=by simpa using h2
    have h3:(itS p inn s (k+1)).2.2=false:=by rw[ih];exact h2
    rw[itS_stop h3,itS_stop h2,ih]
  ·rw[if_neg h]at ih ⊢
   have h3:(itS p inn s (k+1)).2.2=false:=by rw[ih];simpa using h
   rw[itS_stop h3,ih]
theorem ends_it {p:Prog} {inn:List Nm} {s:StE} {k:Nat} {o:List Nm} (h:Ends p inn s k o):∀m,k≤m→(itS p inn s m).2.2=false∧(itS p inn s m).1.length=k∧(itS p inn s m).2.1.2.2.2=o:=by
 induction h with
 | stop h =>
  intro m hm
  obtain⟨m,rfl⟩:∃m',m=m'+1:=⟨m - 1,by omega⟩
  rw[itS_front,if_neg (by rw[h];decide)];exact⟨h,rfl,rfl⟩
 | step h _ ih =>
  intro m hm
  obtain⟨m,rfl⟩:∃m',m=m'+1:=⟨m - 1,by omega⟩
  rw[itS_front,if_pos h];have:=ih m (by omega);exact⟨this.1,by rw[List.length_cons,this.2.1],this.2.2⟩
theorem it_ends {p:Prog} {inn:List Nm}:∀(m:Nat) (s:StE),(itS p inn s m).2.2=false→Ends p inn s (itS p inn s m).1.length (itS p inn s m).2.1.2.2.2
 | 0,_,h=>by cases h
 | m+1,s,h=>by
  rw[itS_front]at h ⊢
  by_cases h1:(folS p (runB p inn s)).2=true
  ·rw[if_pos h1]at h ⊢;exact .step h1 (it_ends m _ h)
  ·rw[if_neg h1]at h ⊢;exact .stop h
theorem doS_mv (p:Prog) (inn:List Nm) (i j:Int) (e:List Nm×Int×List Nm) (x:Stmt):doS p inn (j,e) x=(j,(doS p inn (i,e) x).2):=by
 unfold doS;split
 ·rfl
 ·split
  ·rfl
  ·split
   ·rfl
   ·rfl
theorem doAll_mv (p:Prog) (inn:List Nm) (i j:Int):∀(l:List Stmt) (e:List Nm×Int×List Nm),doAll p inn (j,e) l=(j,(doAll p inn (i,e) l).2)
 | [],_=>rfl
 | x::r,e=>by
  have h1:=doS_mv p inn i j e x;have h2:=doS_mv p inn i i e x;rw[doAll,doAll,List.foldl_cons,List.foldl_cons,h1,h2];exact doAll_mv p inn i j r _
theorem doS_vars {p q:Prog} (h:varsOf p=varsOf q) (inn:List Nm) (s:StE) (x:Stmt):doS p inn s x=doS q inn s x:=by
 unfold doS setAt valA vIdx;rw[h]
theorem doAll_vars {p q:Prog} (h:varsOf p=varsOf q) (inn:List Nm) (s:StE) (l:List Stmt):doAll p inn s l=doAll q inn s l:=by
 have:doS p inn=doS q inn:=funext fun s=>funext fun x=>doS_vars h inn s x
 rw[doAll,doAll,this]
theorem goTo_vars {p q:Prog} (h:varsOf p=varsOf q) (i j:Int) (e:List Nm×Int×List Nm) (t:Term):goTo p (i,e) t=goTo q (j,e) t:=by
 unfold goTo valA vIdx;rw[h]
theorem runB_at {p:Prog} {inn:List Nm} {i:Nat} {b:Block} (h:p[i]?=some b) (e:List Nm×Int×List Nm):runB p inn ((i:Int),e)=((i:Int),(doAll p inn (0,e) b.2.1).2):=by
 rw[runB,blkN_get (i:=(i:Int)) (b:=b) (by rw[Int.toNat_natCast];exact h)];exact doAll_mv p inn 0 i b.2.1 e
theorem folS_at {p:Prog} {i:Nat} {b:Block} (h:p[i]?=some b) (e:List Nm×Int×List Nm):folS p ((i:Int),e)=if b.2.2.1=3 then (((i:Int),e),false) else ((bIdx p (goTo p ((i:Int),e) b.2.2),e),true):=by
 rw[folS,blkN_get (i:=(i:Int)) (b:=b) (by rw[Int.toNat_natCast];exact h)]
theorem join_ends {q:Prog} (hc:checkE q=0) {a t:Nat} {x y:Block} (P:Pair q a t x y) {inn:List Nm}:∀(n k:Nat),k≤n→∀(i:Nat) (e:List Nm×Int×List Nm) (o:List Nm),i≠t→i<q.length→Ends q inn ((i:Int),e) k o→∃k',k'≤k∧Ends (joinP q a t) inn (((phi t i:Nat):Int),e) k' o
 | 0,k,hk,i,e,o,_,_,h=>by cases h<;>omega
 | n+1,k,hk,i,e,o,hi,hlt,h=>by
  have hV:=join_vars hc P;have hb:q[i]?=some q[i]:=List.getElem?_eq_getElem hlt;generalize q[i]=b at hb;have hr:=join_get P hi hb
  by_cases e1:i=a
  ·subst e1;rw[P.hx]at hb;have e2:=Option.some.inj hb;subst e2;rw[if_pos rfl]at hr
   have hf:folS q (runB q inn ((i:Int),e))=(((t:Int),(doAll q inn (0,e) x.2.1).2),true):=by
    rw[runB_at P.hx,folS_at P.hx,if_neg (by have:=P.k;omega),goTo,if_neg (fun h=>by have:=P.k;omega),P.to]
   have hrr:runB (joinP q i t) inn (((phi t i:Nat):Int),e)=(((phi t i:Nat):Int),(doAll q inn (0,(doAll q inn (0,e) x.2.1).2) y.2.1).2):=by
    rw[runB_at hr];show (((phi t i:Nat):Int),(doAll (joinP q i t) inn (0,e) (x.2.1++y.2.1)).2)=_;rw[doAll_vars hV,doAll,List.foldl_append,←doAll,←doAll,doAll_mv q inn 0 0 x.2.1 e]
   cases h with
   | stop h=>rw[hf]at h;cases h
   | step h hr2 =>
    rename_i k;rw[hf]at hr2;generalize (doAll q inn (0,e) x.2.1).2=e1 at hr2 hrr;have hg:=runB_at (inn:=inn) P.hy e1
    by_cases h3:y.2.2.1=3
    ·cases hr2 with
     | stop h4 =>
      refine⟨1,by omega,?_⟩
      have hs:folS (joinP q i t) (runB (joinP q i t) inn (((phi t i:Nat):Int),e))=((((phi t i:Nat):Int),(doAll q inn (0,e1) y.2.1).2),false):=by
       rw[hrr,folS_at hr];show (if y.2.2.1=3 then _ else _)=_;rw[if_pos h3]
      have h5:=Ends.stop (p:=joinP q i t) (inn:=inn) (s:=(((phi t i:Nat):Int),e)) (by rw[hs]);rw[hs]at h5;rw[hg,folS_at P.hy,if_pos h3];exact h5
     | step h4 _=>rw[hg,folS_at P.hy,if_pos h3]at h4;cases h4
    ·have hk3:y.2.2.1=1∨y.2.2.1=2:=by have:=term_kind hc (List.mem_of_getElem? P.hy);omega
     cases hr2 with
     | stop h4=>rw[hg,folS_at P.hy,if_neg h3]at h4;cases h4
     | step h4 h5 =>
      rename_i k2;rw[hg,folS_at P.hy,if_neg h3]at h5;generalize (doAll q inn (0,e1) y.2.1).2=e2 at h5 hrr;obtain⟨j,g1,g2,g3,g4,_⟩:=join_goes hc P P.hy P.ne (goTo_goes (p:=q) (z:=((t:Int),e2)) hk3);rw[g3]at h5;obtain⟨k',hk',h6⟩:=join_ends hc P n k2 (by omega) j e2 o g1 g2 h5
      have hs:folS (joinP q i t) (runB (joinP q i t) inn (((phi t i:Nat):Int),e))=((((phi t j:Nat):Int),e2),true):=by
       rw[hrr,folS_at hr];show (if y.2.2.1=3 then _ else _)=_;rw[if_neg h3];show ((bIdx (joinP q i t) (goTo (joinP q i t) (((phi t i:Nat):Int),e2) y.2.2),e2),true)=_;rw[goTo_vars hV _ (t:Int),g4]
      refine⟨k'+1,by omega,.step (by rw[hs]) ?_⟩;rw[hs];exact h6
  ·rw[if_neg e1]at hr
   have hrr:runB (joinP q a t) inn (((phi t i:Nat):Int),e)=(((phi t i:Nat):Int),(doAll q inn (0,e) b.2.1).2):=by rw[runB_at hr,doAll_vars hV]
   have hg:=runB_at (inn:=inn) hb e;generalize (doAll q inn (0,e) b.2.1).2=e2 at hrr hg
   by_cases h3:b.2.2.1=3
   ·have hs:folS (joinP q a t) (runB (joinP q a t) inn (((phi t i:Nat):Int),e))=((((phi t i:Nat):Int),e2),false):=by rw[hrr,folS_at hr,if_pos h3]
    cases h with
    | stop h4 =>
     refine⟨1,by omega,?_⟩;have h5:=Ends.stop (p:=joinP q a t) (inn:=inn) (s:=(((phi t i:Nat):Int),e)) (by rw[hs]);rw[hs]at h5;rw[hg,folS_at hb,if_pos h3];exact h5
    | step h4 _=>rw[hg,folS_at hb,if_pos h3]at h4;cases h4
   ·have hk3:b.2.2.1=1∨b.2.2.1=2:=by have:=term_kind hc (List.mem_of_getElem? hb);omega
    cases h with
    | stop h4=>rw[hg,folS_at hb,if_neg h3]at h4;cases h4
    | step h4 h5 =>
     rename_i k2;rw[hg,folS_at hb,if_neg h3]at h5;obtain⟨j,g1,g2,g3,g4,_⟩:=join_goes hc P hb e1 (goTo_goes (p:=q) (z:=((i:Int),e2)) hk3);rw[g3]at h5;obtain⟨k',hk',h6⟩:=join_ends hc P n k2 (by omega) j e2 o g1 g2 h5
     have hs:folS (joinP q a t) (runB (joinP q a t) inn (((phi t i:Nat):Int),e))=((((phi t j:Nat):Int),e2),true):=by
      rw[hrr,folS_at hr,if_neg h3,goTo_vars hV _ (i:Int),g4]
     refine⟨k'+1,by omega,.step (by rw[hs]) ?_⟩;rw[hs];exact h6
theorem mrg_all {q m:Prog} (h:Mrg q m):Whole q→Whole m∧pairP m=none∧m.length≤q.length∧∀(inn:List Nm) (k:Nat) (o:List Nm),Ends q inn (start0 q) k o→∃k',k'≤k∧Ends m inn (start0 m) k' o:=by
 induction h with
 | stop h=>exact fun hw=>⟨hw,h,Nat.le_refl _,fun _ k _ he=>⟨k,Nat.le_refl _,he⟩⟩
 | step h _ ih =>
  rename_i q r a t _;intro hw;obtain⟨x,y,P⟩:=pair_of h;obtain⟨h1,h2,h3,h4⟩:=ih (join_whole hw P);have hlen:=joinP_len (List.getElem?_eq_some_iff.1 P.hy).1 (List.getElem?_eq_some_iff.1 P.hx).1;have hpos:=P.pos;refine⟨h1,h2,by omega,fun inn k o he=>?_⟩;obtain⟨k1,hk1,he1⟩:=join_ends hw.chk P k k (Nat.le_refl _) 0 (List.replicate (varsOf q).length (0,0),0,[]) o (by omega) (by omega) he
  have e0:start0 (joinP q a t)=(((phi t 0:Nat):Int),(List.replicate (varsOf q).length (0,0),0,[])):=by
   rw[start0,join_vars hw.chk P,phi,if_pos (by omega)];rfl
  rw[←e0]at he1;obtain⟨k2,hk2,he2⟩:=h4 inn k1 o he1;exact⟨k2,by omega,he2⟩
theorem endB_check {b:Block} (h:blockB b=true):blockB (endB b)=true:=by
 rw[blockB,Bool.and_eq_true,Bool.and_eq_true]at h ⊢;refine⟨⟨h.1.1,?_⟩,h.2⟩;have hT:=h.1.2;show termB (endT b.2.2)=true;unfold endT;split
 ·rename_i h2;unfold termB at hT;rw[if_neg (by omega),if_pos h2,Bool.and_eq_true,Bool.and_eq_true]at hT;split
  ·rw[termB,if_pos rfl]
   rw[hT.1.2];rfl
  ·split
   ·rw[termB,if_pos rfl]
    rw[hT.1.1];rfl
   ·rw[termB,if_neg (by omega),if_pos h2,hT.1.1,hT.1.2,hT.2];rfl
 ·exact hT
theorem sub_sum (f:Block→Nat) {l m:Prog} (h:l.Sublist m):(l.map f).sum≤(m.map f).sum:=by
 induction h with
 | slnil=>exact Nat.le_refl _
 | cons a _ ih=>rw[List.map_cons,List.sum_cons];omega
 | cons_cons a _ ih=>rw[List.map_cons,List.map_cons,List.sum_cons,List.sum_cons];omega
theorem kept_whole {p:Prog} (h:checkE p=0) {R:List Int} (hR:IsReach (p.length:Nat) (gSort (edgesOf (endsP p))) [0] R):Whole (keepP (endsP p) R p.length):=by
 have hK:=kept_prog h hR;have hl:(endsP p).length=p.length:=endsP_len p;have hf:=check_facts h;have hsub:=keepP_sub (endsP p) R;rw[hl]at hsub;obtain⟨b0,_,hb0⟩:=hK.head;have hl0:=(List.getElem?_eq_some_iff.1 hb0).1;have hll:=hsub.length_le
 have hnE:(bnames (endsP p)).Nodup:=by rw[endsP_names];exact check_nodup h
 refine⟨check_mk (by omega) (by omega) ?_ ?_ ?_ hK.nd hK.closed,?_,?_⟩
 ·have h1:=sub_sum (fun b=>b.2.1.length) hsub;have h2:stmtsN (endsP p)=stmtsN p:=endsP_stmts p;have h3:=stmts_512' h;unfold stmtsN at h2 h3 ⊢;omega
 ·intro b' hb';obtain⟨b,hb,rfl⟩:=hK.src b' hb';exact endB_check (hf.2.2.2 b hb)
 ·exact Nat.le_trans (List.Nodup.length_le_of_subset (vars_nodup _) (fun t ht=>kept_vars hK t ht)) hf.2.2.1
 ·show (keepP (endsP p) R p.length).map endB=_;refine (List.map_congr_left fun b' hb'=>?_).trans (List.map_id _);obtain⟨b,hb,rfl⟩:=hK.src b' hb'
  show (b.1,b.2.1,endT (endT b.2.2))=(b.1,b.2.1,endT b.2.2)
  rw[endT_idem]
 ·intro S h0 hS j hj
  have key:=hR.least (fun i=>∃(b:Block) (j:Nat),(endsP p)[i.toNat]?=some b∧(keepP (endsP p) R p.length)[j]?=some b∧S (j:Int)) (fun x hx _=>by
    rw[List.mem_singleton]at hx;obtain⟨b,g1,g2⟩:=hK.head;subst hx
    exact⟨endB b,0,endsP_get g1,g2,h0⟩) (fun x hx z hz=>by
    obtain⟨b,j,g1,g2,g3⟩:=hx;obtain⟨g4,g5,g6⟩:=nxt_mem.1 hz;obtain⟨i,b2,u,k1,k2,k3,k4,k5⟩:=edge_inv ((gSort_mem _ _).1 g4);dsimp only at k2 k5;rw[k2,Int.toNat_natCast,k1]at g1;have e:=Option.some.inj g1;subst e;have hu:=hK.closed _ (List.mem_of_getElem? g2) u k3;have hS2:=hS _ (goes_edge g2 k3 hu) g3;dsimp only at hS2;obtain⟨b3,m1,m2,m3⟩:=at_name hu;obtain⟨b4,n1,n2,n3⟩:=at_name k4;obtain⟨k',_,_,o3⟩:=keepP_mem.1 (List.mem_of_getElem? m2);have e2:=name_inj hnE n2 o3 (n3.trans m3.symm);refine⟨b3,(bIdx (keepP (endsP p) R p.length) u).toNat,?_,m2,?_⟩
    ·rw[k5,e2];exact o3
    ·rw[Int.toNat_of_nonneg m1.1];exact hS2)
  have hjb:=List.getElem?_eq_getElem hj;generalize (keepP (endsP p) R p.length)[j]=b at hjb;obtain⟨k,_,h2,h3⟩:=keepP_mem.1 (List.mem_of_getElem? hjb);obtain⟨b2,j2,g1,g2,g3⟩:=key _ h2;rw[Int.toNat_natCast,h3]at g1;have e:=Option.some.inj g1;subst e;have:=name_inj hK.nd g2 hjb rfl;subst this;exact g3
end Go.Proofs
end
section
namespace Go.Proofs
open Go.Sy
set_option maxRecDepth 20000
set_option maxHeartbeats 4000000
theorem start_spec {p:Prog} (he:checkE p=0) (hv:cnt p<400000) {a:Option Addr} {n c:Nat} {H:Hp} {K:Value→Hp→Prop} (ha:RL H a n c p)
  (hK:∀a1 n1 c1 H',Le H H'→RL H' a1 n1 c1 (start0 p).2.1→K (staV 0 a1 n1 c1 0 (.slice none 0 0)) H'):Does Tryz.prog 37 [.agg #[.slice a n c]] H K:=by
 have hf:=check_facts he;refine spec_of cx_ok cx_mix rfl Tryz.func37 Tryz.call37 Tryz.ntmps37 Tryz.results37 rfl rfl ?_
 refine pvars_spec ha hv fun av nv cv H1 hle1 hrv=>?_
 have hnv:=hrv.n_eq;rw[List.length_map]at hnv;refine⟨⟨rfl,by omega,by show (nv:Int)*16≤_;omega,by omega⟩,?_⟩;intro v H' hle hv2
 have e:List.replicate (nv:Int).toNat [Value.int .i64 0,Value.int .i64 0]=nRows (start0 p).2.1:=by
  show _=List.map _ (List.replicate _ _);rw[List.map_replicate,Int.toNat_natCast,hnv]
 have hv2:RowAt H' v 2 (List.replicate (nv:Int).toNat [Value.int .i64 0,Value.int .i64 0]):=hv2;rw[e]at hv2
 refine of_row_k (α:=Nm) hv2 (rc_eRows fun y hy=>?_) fun a1 n1 c1 ev hr=>?_
 ·rw[(List.mem_replicate.1 hy).2];exact⟨⟨by decide,by decide⟩,⟨by decide,by decide⟩⟩
 ·subst ev;exact hK _ _ _ _ (hle1.trans hle.le) hr
theorem goodS_start {p:Prog} (he:checkE p=0):goodS p (start0 p):=by
 have hf:=check_facts he;exact⟨⟨Int.le_refl _,by show (0:Int)<_;omega⟩,by simp [start0],Int.le_refl _,(by show (0:Int)≤9223372036854775807;decide)⟩
theorem all_spec {p:Prog} (he:checkE p=0) (hp:p.length≤12) (hc:stmtsN p≤1000000) (hv:cnt p<400000) {inn:List Nm} {most:Int} (hm:most≤40)
  {a ai:Option Addr} {n c ni ci:Nat} {H:Hp} {K:Value→Hp→Prop} (ha:RL H a n c p) (hI:RL H ai ni ci inn)
  (hK:∀a1 n1 c1 a2 n2 c2 H',Le H H'→RL H' a1 n1 c1 (itS p inn (start0 p) most.toNat).1→RL H' a2 n2 c2 (itS p inn (start0 p) most.toNat).2.1.2.2.2→K (.tuple #[.agg #[.slice a1 n1 c1,.slice a2 n2 c2,.bool (!(itS p inn (start0 p) most.toNat).2.2)],.int .i64 0]) H'):
  Does Tryz.prog 12 [.agg #[.slice a n c],.slice ai ni ci,.int .i64 most] H K:=by
 refine spec_of cx_ok cx_mix rfl Tryz.func12 Tryz.call12 Tryz.ntmps12 Tryz.results12 rfl rfl ?_;refine⟨some ([1],[0,1,3,4,2,5,6,7,8,9]),by kernel_rfl,?_⟩
 refine start_spec he hv ha fun a1 n1 c1 H1 hle1 hr1=>?_
 refine from_spec he hp hc hv (s:=start0 p) (goodS_start he) (by simp [start0]) hm (ha.up hle1) hr1 rl_nil (hI.up hle1) fun a2 n2 c2 a3 n3 c3 H2 hle2 hr2 hr3=>?_
 exact hK _ _ _ _ _ _ _ (hle1.trans hle2) hr2 hr3
end Go.Proofs
end
section
namespace Go.Proofs
open Go.Sy
set_option maxRecDepth 20000
set_option maxHeartbeats 4000000
end Go.Proofs
end
section
namespace Go.Proofs
open Go.Sy
set_option maxRecDepth 20000
set_option maxHeartbeats 4000000
theorem nums_spec {l:List Nm} {a a2:Option Addr} {n c n2 c2:Nat} {H:Hp} {K:Value→Hp→Prop} (ha:RL H a n c l) (hb:RL H a2 n2 c2 l) (hK:K (.bool true) H):Does Tryz.prog 13 [.slice a n c,.slice a2 n2 c2] H K:=by
 have hn:=ha.n_eq;have hn2:=hb.n_eq;have hmx:=ha.le;refine spec_of cx_ok cx_mix rfl Tryz.func13 Tryz.call13 Tryz.ntmps13 Tryz.results13 rfl rfl ?_;refine⟨fun h=>absurd (show (n:Int)=n2 by omega) (nt h),fun _=>?_⟩;refine⟨Nat,fun i=>⟨[(0,.v (.slice a n c)),(1,.v (.slice a2 n2 c2)),(12,.v (.int .i64 n)),(13,.v (.int .i64 i))],[],0⟩,fun i H'=>H'=H∧i≤l.length,fun i=>l.length - i,⟨0,[],?_,rfl,Nat.zero_le _⟩,?_⟩
 ·(repeat' (first|exact trivial|refine⟨?_,?_⟩|exact rfl|assumption))
 rintro i H1 _ ⟨rfl,hi⟩;refine⟨fun h=>?_,fun h=>?_⟩
 ·have hlt:i<l.length:=by have:=dt h;omega
  have hx:=List.getElem?_eq_getElem hlt
  refine edge_k ha hx fun ad q1 hh=>?_
  refine edge_k hb hx fun ad2 q2 hh2=>?_
  refine⟨some ([],[0,1,2,3,4,5,6,7,8]),by kernel_rfl,?_⟩;refine⟨ad,⟨by omega,by omega,q1⟩,?_⟩;refine⟨_,hh,?_⟩;refine⟨ad2,⟨by omega,by omega,q2⟩,?_⟩;refine⟨_,hh2,?_⟩;refine⟨fun h=>by simp at h,fun _=>?_⟩;refine⟨⟨by omega,by omega⟩,i+1,[],?_,⟨rfl,hlt⟩,by dsimp only;omega⟩
  (repeat' (first|exact trivial|refine⟨?_,?_⟩|exact rfl|assumption))
 ·exact hK
end Go.Proofs
end
section
namespace Go.Proofs
open Go.Sy
set_option maxRecDepth 20000
set_option maxHeartbeats 4000000
end Go.Proofs
end
section
namespace Go.Proofs
open Go.Sy
set_option maxRecDepth 20000
theorem str_vc (b c:Str):decide (sl (bs b.l)=sl (bs c.l))=decide (b=c):=by
 obtain⟨b⟩:=b;obtain⟨c⟩:=c;rw[decide_eq_decide,sl_bs,sl_bs];exact⟨fun h=>by cases h;rfl,fun h=>by cases h;rfl⟩
theorem neS_vc (s t:Stmt):(!(decide (s.1=t.1)&&(decide (sl (bs s.2.1.l)=sl (bs t.2.1.l))&&(decide (s.2.2.1=t.2.2.1)&&(decide (sl (bs s.2.2.2.1.1.l)=sl (bs t.2.2.2.1.1.l))&&(decide (s.2.2.2.1.2.1=t.2.2.2.1.2.1)&&(decide (s.2.2.2.1.2.2=t.2.2.2.1.2.2)&&true)&&true)&&(decide (sl (bs s.2.2.2.2.1.l)=sl (bs t.2.2.2.2.1.l))&&(decide (s.2.2.2.2.2.1=t.2.2.2.2.2.1)&&(decide (s.2.2.2.2.2.2=t.2.2.2.2.2.2)&&true)&&true)&&true))&&true))))=decide (s≠t):=by
 rw[str_vc,str_vc,str_vc];obtain⟨a,b,c,⟨d,e,f⟩,g,h,i⟩:=s;obtain⟨a',b',c',⟨d',e',f'⟩,g',h',i'⟩:=t;rw[Bool.eq_iff_iff];simp [and_assoc,or_assoc]
end Go.Proofs
end
section
namespace Go.Proofs
open Go.Sy
set_option maxRecDepth 20000
set_option maxHeartbeats 4000000
def neS (x y:Stmt):Bool:=decide (x≠y)
end Go.Proofs
end
section
namespace Go.Proofs
open Go.Sy
set_option maxRecDepth 20000
set_option maxHeartbeats 400000
theorem eqStm_spec {x y:List Stmt} {a a2:Option Addr} {n c n2 k2:Nat} {H:Hp} {K:Value→Hp→Prop} (ha:RL H a n c x) (hb:RL H a2 n2 k2 y) (hK:K (.bool (decide (x=y))) H):Does Tryz.prog 63 [.slice a n c,.slice a2 n2 k2] H K:=by
 have hn:=ha.n_eq;have hn2:=hb.n_eq;have hmx:=ha.le;refine spec_of cx_ok cx_mix rfl Tryz.func63 Tryz.call63 Tryz.ntmps63 Tryz.results63 rfl rfl ?_;refine⟨fun h=>?_,fun h=>?_⟩
 ·have h1:¬n=n2:=by have:=nt h;omega
  exact kbool hK (decide_eq_false (fun e=>h1 (by rw[hn,hn2,e])))
 ·have h1:n=n2:=by have:=nf h;omega
  refine⟨Nat,fun i=>⟨[(0,.v (.slice a n c)),(1,.v (.slice a2 n2 k2)),(11,.v (.slice a n c)),(12,.v (.int .i64 n)),(13,.v (.int .i64 i))],[],0⟩,
   fun i H'=>H'=H∧i≤x.length∧∀j<i,x[j]?=y[j]?,fun i=>x.length - i,⟨0,[],?_,rfl,Nat.zero_le _,fun j hj=>(by cases hj)⟩,?_⟩
  ·(repeat' (first|exact trivial|refine⟨?_,?_⟩|exact rfl|assumption))
  rintro i H1 _ ⟨rfl,hi,hx⟩;refine⟨fun h=>?_,fun h=>?_⟩
  ·have hlt:i<x.length:=by have:=dt h;omega
   have hlt2:i<y.length:=by omega
   have ex:=List.getElem?_eq_getElem hlt;have ey:=List.getElem?_eq_getElem hlt2
   refine stmt_k ha ex fun ad q1 hh _=>?_
   refine stmt_k hb ey fun ad2 q2 hh2 _=>?_
   refine⟨some ([],[0,1,2,3,4,5,6,7,8]),by kernel_rfl,?_⟩;refine⟨ad,⟨by omega,by omega,q1⟩,?_⟩;refine⟨_,hh,?_⟩;refine⟨ad2,⟨by omega,by omega,q2⟩,?_⟩;refine⟨_,hh2,?_⟩;refine⟨fun h=>?_,fun h=>?_⟩
   ·have h1:neS x[i] y[i]=true:=(neS_vc _ _).symm.trans h;have hne:¬x[i]=y[i]:=dt h1;exact kbool hK (decide_eq_false (fun e=>hne (by subst e;rfl)))
   ·have h1:neS x[i] y[i]=false:=(neS_vc _ _).symm.trans h
    have heq:x[i]=y[i]:=by
     have:=df h1;exact Classical.not_not.1 this
    refine⟨⟨by omega,by omega⟩,i+1,[],?_,⟨rfl,hlt,fun j hj=>?_⟩,by dsimp only;omega⟩
    ·(repeat' (first|exact trivial|refine⟨?_,?_⟩|exact rfl|assumption))
    ·rcases Nat.lt_succ_iff_lt_or_eq.1 hj with h | h
     ·exact hx j h
     ·rw[h,ex,ey,heq]
  ·have hil:i=x.length:=by have:=df h;omega
   exact kbool hK (decide_eq_true (list_eq_take (by omega) (fun j hj=>hx j (by omega))))
theorem eqT_vc (s t:Term):(decide (s.1=t.1)&&(decide (sl (bs s.2.1.1.l)=sl (bs t.2.1.1.l))&&(decide (s.2.1.2.1=t.2.1.2.1)&&(decide (s.2.1.2.2=t.2.1.2.2)&&true)&&true)&&(decide (sl (bs s.2.2.1.l)=sl (bs t.2.2.1.l))&&(decide (sl (bs s.2.2.2.l)=sl (bs t.2.2.2.l))&&true))))=decide (s=t):=by
 rw[str_vc,str_vc,str_vc];obtain⟨a,⟨d,e,f⟩,g,h⟩:=s;obtain⟨a',⟨d',e',f'⟩,g',h'⟩:=t;rw[Bool.eq_iff_iff];simp [and_assoc]
abbrev blkZ (v:Value) (b:Block):List Value:=[.string (bs b.1.l),v,.int .i64 b.2.2.1,.string (bs b.2.2.2.1.1.l),.int .i64 b.2.2.2.1.2.1,.int .i64 b.2.2.2.1.2.2,.string (bs b.2.2.2.2.1.l),.string (bs b.2.2.2.2.2.l)]
theorem same1_spec {x y:Block} {a a2:Option Addr} {n c n2 k2:Nat} {H:Hp} {K:Value→Hp→Prop} (ha:RL H a n c x.2.1) (hb:RL H a2 n2 k2 y.2.1) (hK:K (.bool (decide (x=y))) H):Does Tryz.prog 62 [.agg (blkZ (.slice a n c) x).toArray,.agg (blkZ (.slice a2 n2 k2) y).toArray] H K:=by
 have hF:¬x=y→K (.bool false) H:=fun h=>by rw[decide_eq_false h]at hK;exact hK
 refine spec_of cx_ok cx_mix rfl Tryz.func62 Tryz.call62 Tryz.ntmps62 Tryz.results62 rfl rfl ?_;refine⟨fun h=>?_,fun h=>?_⟩
 ·have h1:x.1=y.1:=by
   have:=(str_vc x.1 y.1).symm.trans h;exact dt this
  refine⟨fun h=>?_,fun h=>?_⟩
  ·have h2:x.2.2=y.2.2:=dt ((eqT_vc x.2.2 y.2.2).symm.trans h);refine eqStm_spec ha hb ?_
   have e:decide (x=y)=decide (x.2.1=y.2.1):=by
    rw[decide_eq_decide];exact⟨fun e=>by rw[e],fun e=>Prod.ext h1 (Prod.ext e h2)⟩
   rw[e]at hK;exact hK
  ·have h2:¬x.2.2=y.2.2:=df ((eqT_vc x.2.2 y.2.2).symm.trans h)
   exact hF fun e=>h2 (by rw[e])
 ·have h1:¬x.1=y.1:=by
   have:=(str_vc x.1 y.1).symm.trans h;exact df this
  exact hF fun e=>h1 (by rw[e])
theorem equalB_spec {A B:Prog} {a a2:Option Addr} {n c n2 k2:Nat} {H:Hp} {K:SV→St→Hp→Prop} (ha:RL H a n c A) (hb:RL H a2 n2 k2 B) (hK:K (.v (.bool (decide (A=B)))) ⟨[],[],0⟩ H):
  DoesG Tryz.prog 61 [.v (.slice a n c),.v (.slice a2 n2 k2),.fn 62 []] [] 0 H K:=by
 have hn:=ha.n_eq;have hn2:=hb.n_eq;have hmx:=ha.le
 have hF:¬A=B→K (.v (.bool false)) ⟨[],[],0⟩ H:=fun h=>by rw[decide_eq_false h]at hK;exact hK
 refine spec_ofG cx_ok cx_mix Tryz.func61 Tryz.call61 Tryz.ntmps61 Tryz.results61 rfl rfl ?_;refine⟨fun h=>?_,fun h=>?_⟩
 ·have h1:¬n=n2:=by have:=nt h;omega
  exact⟨.v (.bool false),[],0,[],by (repeat' (first|exact trivial|refine⟨?_,?_⟩|exact rfl|assumption)),hF (fun e=>h1 (by rw[hn,hn2,e]))⟩
 ·have h1:n=n2:=by have:=nf h;omega
  refine⟨Nat,fun i=>⟨[(1,.v (.slice a2 n2 k2)),(2,.fn 62 []),(15,.v (.slice a n c)),(16,.v (.int .i64 n)),(17,.v (.int .i64 i))],[],0⟩,
   fun i H'=>H'=H∧i≤A.length∧∀j<i,A[j]?=B[j]?,fun i=>A.length - i,⟨0,[],?_,rfl,Nat.zero_le _,fun j hj=>(by cases hj)⟩,?_⟩
  ·(repeat' (first|exact trivial|refine⟨?_,?_⟩|exact rfl|assumption))
  rintro i H1 _ ⟨rfl,hi,hx⟩;refine⟨fun h=>?_,fun h=>?_⟩
  ·have hlt:i<A.length:=by have:=dt h;omega
   have hlt2:i<B.length:=by omega
   have ex:=List.getElem?_eq_getElem hlt;have ey:=List.getElem?_eq_getElem hlt2
   refine block_k ha ex fun ad a5 n5 c5 q1 hh hr1 _ _=>?_
   refine block_k hb ey fun ad2 a6 n6 c6 q2 hh2 hr2 _ _=>?_
   refine⟨ad,⟨by omega,by omega,q1⟩,?_⟩;refine⟨_,hh,?_⟩;refine⟨ad2,⟨by omega,by omega,q2⟩,?_⟩;refine⟨_,hh2,?_⟩;refine same1_spec hr1 hr2 ?_;refine⟨fun h=>?_,fun h=>?_⟩
   ·have hne:¬A[i]=B[i]:=nt h;exact⟨.v (.bool false),[],0,[],by (repeat' (first|exact trivial|refine⟨?_,?_⟩|exact rfl|assumption)),hF (fun e=>hne (by subst e;rfl))⟩
   ·have heq:A[i]=B[i]:=nf h;refine⟨⟨by omega,by omega⟩,i+1,[],?_,⟨rfl,hlt,fun j hj=>?_⟩,by dsimp only;omega⟩
    ·(repeat' (first|exact trivial|refine⟨?_,?_⟩|exact rfl|assumption))
    ·rcases Nat.lt_succ_iff_lt_or_eq.1 hj with h | h
     ·exact hx j h
     ·rw[h,ex,ey,heq]
  ·have hil:i=A.length:=by have:=df h;omega
   rw[decide_eq_true (list_eq_take (by omega) (fun j hj=>hx j (by omega)))]at hK;exact⟨.v (.bool true),[],0,[],by (repeat' (first|exact trivial|refine⟨?_,?_⟩|exact rfl|assumption)),hK⟩
theorem psame4_spec {A B:Prog} {a a2:Option Addr} {n c n2 k2:Nat} {H:Hp} {K:Value→Hp→Prop} (ha:RL H a n c A) (hb:RL H a2 n2 k2 B) (hK:K (.bool (decide (A=B))) H):Does Tryz.prog 32 [.agg #[.slice a n c],.agg #[.slice a2 n2 k2]] H K:=by
 refine spec_of cx_ok cx_mix rfl Tryz.func32 Tryz.call32 Tryz.ntmps32 Tryz.results32 rfl rfl ?_;refine⟨[],rfl,equalB_spec ha hb ?_⟩;exact hK
end Go.Proofs
end
