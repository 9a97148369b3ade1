/- Part 'M31' of the proof (Fo0, W16, Fo1, Fo2, Fo3, Fo4, Fo5, Px0, Rn0, Px1, Fr0, Fr1, Fr2, Fr3, Fr4, Fr5, Lv0, Lv1, Lv2, Ex1, Ex2, Ex3, Ex4, Pn1, Pn2, Ex5, Pr10, Fr6, Pn3, Fo5b, Fo6, Sw5, Td3): lemmas, each with its own conditions in its own statement. -/
import Derived.Test.YtheokcjommfopaaGreatDoorM15
import Derived.Test.YtheokcjommfopaaGreatDoorM22
import Derived.Test.YtheokcjommfopaaGreatDoorM24
import Derived.Test.YtheokcjommfopaaGreatDoorM29
import Derived.Test.YtheokcjommfopaaGreatDoorM30
set_option maxRecDepth 20000
set_option maxHeartbeats 4000000
section
namespace Go.Proofs
open Go.Sy
open Tryz
variable {H:Hp} {K:Value→Hp→Prop}
def oy (op:Int):Nat:=if op=0∨op=4 then 1 else if op=1∨op=2∨op=3 then 2 else 0
theorem uR (x:Expr):(aH x).length=oy x.1:=by
 unfold aH oy vn yy
 by_cases h0:x.1=0∨x.1=4
 ·rw[if_pos h0,if_pos (by simpa using h0)];rfl
 ·rw[if_neg h0,if_neg (by simpa using h0)]
  by_cases h1:x.1=1∨x.1=2∨x.1=3
  ·rw[if_pos h1,if_pos (by simpa [or_assoc] using h1)];rfl
  ·rw[if_neg h1,if_neg (by simpa [or_assoc] using h1)];rfl
theorem pq {x:Expr} (hx:lC x) (hK:∀a c H',Le H H'→K (.slice a (oy x.1) c) H'):aq prog 49 [qv x] H K:=by
 refine oQ hx fun a n c H' hle hr=>?_
 have hn:=hr.aB;rw[uR]at hn;rw[hn];exact hK _ _ _ hle
theorem Bw {x:Expr} (hx:lC x) (hK:∀a c H',Le H H'→K (.slice a (oy x.1) c) H'):aq prog 46 [qv x] H K:=by
 refine oR hx fun a n c H' hle hr=>?_
 have hn:=hr.aB;rw[uR]at hn;rw[hn];exact hK _ _ _ hle
def bB (p:Prog) (known:List UInt64) (a:ks):ks :=
 let i:=bw a.1.l (varsOf p) 0
 if 0≤i∧i<known.length then (match kj (known[i.toNat]?.getD 0).toNat with
  | some n=>(⟨[]⟩,n)
  | none=>a) else a
theorem M8 {w:Nat} {n:Nm} (h:kj w=some n):rV n.1∧rV n.2:=by
 unfold kj at h;split at h
 ·simp only[Option.some.injEq]at h;subst h;exact⟨⟨by have:=bK ((w / 4 % 65536:Nat):Int);dsimp only;omega,by have:=bK ((w / 4 % 65536:Nat):Int);dsimp only;omega⟩,⟨by have:=bK ((w / 4 / 65536:Nat):Int);dsimp only;omega,by have:=bK ((w / 4 / 65536:Nat):Int);dsimp only;omega⟩⟩
 ·cases h
theorem vV {p:Prog} {known:List UInt64} {x:ks} (h:lW x):lW (bB p known x):=by
 unfold bB;dsimp only;split
 ·split
  ·rename_i n hn;exact⟨Nat.zero_le _,(M8 hn).1,(M8 hn).2⟩
  ·exact h
 ·exact h
theorem rh {p:Prog} {known:List UInt64} {x:ks} {a ka:Option Addr} {n c kn kc:Nat} (ha:RL H a n c p) (hk:RL H ka kn kc known) (hc:iE p<400000)
  (hK:∀H',Le H H'→K (Mx (bB p known x)) H'):aq prog 116 [.agg #[.slice a n c],.slice ka kn kc,Mx x] H K:=by
 refine ab af aa rfl func116 call116 ntmps116 results116 rfl rfl ?_
 refine xp ha hc fun H1 ak=>?_
 have hK:=hK _ (Le.refl H);have WH:=fG x.1.l (varsOf p) 0 (by omega);have Ou:=hk.aB;unfold bB at hK
 obtain⟨i,hi⟩:∃i,i=bw x.1.l (varsOf p) 0:=⟨_,rfl⟩
 rw[←hi]at hK WH ⊢;refine⟨fun h=>?_,fun h=>?_⟩
 ·have h0:0≤i:=nf h
  have e0:max i 0=i:=by omega
  refine⟨fun h=>?_,fun h=>?_⟩
  ·have h1:=dt h;rw[e0]at h1;simp only[show ¬(0≤i∧i<(known.length:Int)) by omega,if_false]at hK;exact hK
  ·have h1:=df h;rw[e0]at h1
   have aj:i.toNat<known.length:=by omega
   have hx:=aL aj;simp only[show (0≤i∧i<(known.length:Int)) by omega,and_self,if_true,hx,Option.getD_some]at hK;have gq:=hk.elem hx;obtain⟨ad,cs,e1,hh,r1⟩:=gq;have fB:cs=[.int .u64 known[i.toNat].toNat]:=r1;rw[fB]at hh
   have e2:((i.toNat:Nat):Int)=max i 0:=by omega
   rw[e2]at hh;refine⟨ad,⟨by omega,by omega,e1⟩,?_⟩;refine⟨_,hh,?_⟩
   cases hm:kj known[i.toNat].toNat with
   | none =>
    rw[hm]at hK;refine fZ known[i.toNat].toNat_lt ?_;rw[hm];exact⟨fun _=>hK,fun h=>by cases h⟩
   | some n =>
    rw[hm]at hK;refine fZ known[i.toNat].toNat_lt ?_;rw[hm];exact⟨(fun h=>by cases h),fun _=>hK⟩
 ·have h0:¬0≤i:=fun hh=>by rw[decide_eq_true hh]at h;cases h
  simp only[show ¬(0≤i∧i<(known.length:Int)) by omega,if_false]at hK;exact hK
theorem pr {p:Prog} {known:List UInt64} {x:ks} {a ka:Option Addr} {n c kn kc:Nat} (ha:RL H a n c p) (hk:RL H ka kn kc known) (hc:iE p<400000)
  (hK:∀H',Le H H'→K (Mx (bB p known x)) H'):aq prog 85 [.agg #[.slice a n c],.slice ka kn kc,Mx x] H K:=by
 refine ab af aa rfl func85 call85 ntmps85 results85 rfl rfl ?_
 refine tB ha hc fun H1 ak=>?_
 have hK:=hK _ (Le.refl H);have WH:=fG x.1.l (varsOf p) 0 (by omega);have Ou:=hk.aB;unfold bB at hK
 obtain⟨i,hi⟩:∃i,i=bw x.1.l (varsOf p) 0:=⟨_,rfl⟩
 rw[←hi]at hK WH ⊢;refine⟨fun h=>?_,fun h=>?_⟩
 ·have h0:0≤i:=dt h;refine⟨fun h=>?_,fun h=>?_⟩
  ·have h1:=dt h
   have aj:i.toNat<known.length:=by omega
   have hx:=aL aj;simp only[show (0≤i∧i<(known.length:Int)) by omega,and_self,if_true,hx,Option.getD_some]at hK;have gq:=hk.elem hx;obtain⟨ad,cs,e1,hh,r1⟩:=gq;have fB:cs=[.int .u64 known[i.toNat].toNat]:=r1;rw[fB]at hh
   have e2:((i.toNat:Nat):Int)=i:=by omega
   rw[e2]at hh;refine⟨ad,⟨by omega,by omega,e1⟩,?_⟩;refine⟨_,hh,?_⟩
   cases hm:kj known[i.toNat].toNat with
   | none =>
    rw[hm]at hK;refine gb known[i.toNat].toNat_lt ?_;rw[hm];exact⟨(fun h=>by cases h),fun _=>hK⟩
   | some n =>
    rw[hm]at hK;refine gb known[i.toNat].toNat_lt ?_;rw[hm];exact⟨fun _=>hK,fun h=>by cases h⟩
  ·have h1:=df h;simp only[show ¬(0≤i∧i<(known.length:Int)) by omega,if_false]at hK;exact hK
 ·have h0:¬0≤i:=fun hh=>by rw[decide_eq_true hh]at h;cases h
  simp only[show ¬(0≤i∧i<(known.length:Int)) by omega,if_false]at hK;exact hK
theorem Ed {p:Prog} {known:List UInt64} {x:Expr} {a ka:Option Addr} {n c kn kc:Nat} {b:Bool} {H:Hp} {K:SV→St→Hp→Prop} (ha:RL H a n c p) (hk:RL H ka kn kc known) (hc:iE p<400000)
  (hK:∀b',b'=(b&&decide ((bB p known x.2.1).1.l=[]))→K (.eo []) ⟨[],[(0,.cells 59 (vL (qt (x.1,bB p known x.2.1,x.2.2)))),(1,.cells 24 [.v (.slice a n c)]),(2,.cells 103 [.v (.slice ka kn kc)]),(3,.cells 4 [.kb b'])],4⟩ H):
  aY prog 231 [.ptr 0 1,.ptr 1 0,.ptr 2 0,.ptr 3 0] [(0,.cells 59 (vL (qt x))),(1,.cells 24 [.v (.slice a n c)]),(2,.cells 103 [.v (.slice ka kn kc)]),(3,.cells 4 [.kb b])] 4 H K:=by
 refine aJ af aa func231 call231 ntmps231 results231 rfl rfl ?_;refine⟨some ([0],[0,1,2,3,4,5,6,7,8]),by kernel_rfl,?_⟩
 refine rh ha hk hc fun H1 ak=>?_
 obtain⟨y,hy⟩:∃y,y=bB p known x.2.1:=⟨_,rfl⟩
 rw[←hy]at hK ⊢
 cases b with
 | true =>
  exact⟨.eo [],[(0,.cells 59 (vL (qt (x.1,y,x.2.2)))),(1,.cells 24 [.v (.slice a n c)]),(2,.cells 103 [.v (.slice ka kn kc)]),(3,.cells 4 [.kb (decide (y.1.l=[]))])],4,[(0,0),(1,1),(2,2),(3,3)],
   ⟨⟨⟨rfl,rfl⟩,trivial⟩,⟨⟨rfl,rfl,rfl,rfl,rfl,rfl,rfl,trivial⟩,⟨rfl,trivial⟩,⟨rfl,trivial⟩,⟨rfl,trivial⟩,trivial⟩⟩,hK _ rfl⟩
 | false =>
  exact⟨.eo [],[(0,.cells 59 (vL (qt (x.1,y,x.2.2)))),(1,.cells 24 [.v (.slice a n c)]),(2,.cells 103 [.v (.slice ka kn kc)]),(3,.cells 4 [.kb false])],4,[(0,0),(1,1),(2,2),(3,3)],
   ⟨⟨⟨rfl,rfl⟩,trivial⟩,⟨⟨rfl,rfl,rfl,rfl,rfl,rfl,rfl,trivial⟩,⟨rfl,trivial⟩,⟨rfl,trivial⟩,⟨rfl,trivial⟩,trivial⟩⟩,hK _ rfl⟩
theorem By {p:Prog} {known:List UInt64} {x:Expr} {a ka:Option Addr} {n c kn kc:Nat} {b:Bool} {H:Hp} {K:SV→St→Hp→Prop} (ha:RL H a n c p) (hk:RL H ka kn kc known) (hc:iE p<400000)
  (hK:∀b',b'=(b&&decide ((bB p known x.2.2).1.l=[]))→K (.eo []) ⟨[],[(0,.cells 59 (vL (qt (x.1,x.2.1,bB p known x.2.2)))),(1,.cells 24 [.v (.slice a n c)]),(2,.cells 103 [.v (.slice ka kn kc)]),(3,.cells 4 [.kb b'])],4⟩ H):
  aY prog 231 [.ptr 0 4,.ptr 1 0,.ptr 2 0,.ptr 3 0] [(0,.cells 59 (vL (qt x))),(1,.cells 24 [.v (.slice a n c)]),(2,.cells 103 [.v (.slice ka kn kc)]),(3,.cells 4 [.kb b])] 4 H K:=by
 refine aJ af aa func231 call231 ntmps231 results231 rfl rfl ?_;refine⟨some ([0],[0,1,2,3,4,5,6,7,8]),by kernel_rfl,?_⟩
 refine rh ha hk hc fun H1 ak=>?_
 obtain⟨y,hy⟩:∃y,y=bB p known x.2.2:=⟨_,rfl⟩
 rw[←hy]at hK ⊢
 cases b with
 | true =>
  exact⟨.eo [],[(0,.cells 59 (vL (qt (x.1,x.2.1,y)))),(1,.cells 24 [.v (.slice a n c)]),(2,.cells 103 [.v (.slice ka kn kc)]),(3,.cells 4 [.kb (decide (y.1.l=[]))])],4,[(0,0),(1,1),(2,2),(3,3)],
   ⟨⟨⟨rfl,rfl⟩,trivial⟩,⟨⟨rfl,rfl,rfl,rfl,rfl,rfl,rfl,trivial⟩,⟨rfl,trivial⟩,⟨rfl,trivial⟩,⟨rfl,trivial⟩,trivial⟩⟩,hK _ rfl⟩
 | false =>
  exact⟨.eo [],[(0,.cells 59 (vL (qt (x.1,x.2.1,y)))),(1,.cells 24 [.v (.slice a n c)]),(2,.cells 103 [.v (.slice ka kn kc)]),(3,.cells 4 [.kb false])],4,[(0,0),(1,1),(2,2),(3,3)],
   ⟨⟨⟨rfl,rfl⟩,trivial⟩,⟨⟨rfl,rfl,rfl,rfl,rfl,rfl,rfl,trivial⟩,⟨rfl,trivial⟩,⟨rfl,trivial⟩,⟨rfl,trivial⟩,trivial⟩⟩,hK _ rfl⟩
def cG (p:Prog) (known:List UInt64) (x:Expr):Expr :=
 let y1:=if 0<oy x.1 then bB p known x.2.1 else x.2.1
 let y2:=if 1<oy x.1 then bB p known x.2.2 else x.2.2
 if 0<oy x.1∧y1.1.l=[]∧(oy x.1=1∨y2.1.l=[]) then (0,(⟨[]⟩,qk x.1 y1.2 y2.2),(⟨[]⟩,(0,0))) else (x.1,y1,y2)
theorem M9 (op:Int):iB op=decide (0<oy op):=by
 unfold iB oy
 by_cases h:op=0∨op=4
 ·rw[if_pos h];exact decide_eq_true (by omega)
 ·rw[if_neg h]
  by_cases h':op=1∨op=2∨op=3
  ·rw[if_pos h'];exact decide_eq_true (by omega)
  ·rw[if_neg h'];exact decide_eq_false (by omega)
theorem xM {p:Prog} {known:List UInt64} {x:Expr} (hx:lC x) {a ka:Option Addr} {n c kn kc:Nat} (ha:RL H a n c p) (hk:RL H ka kn kc known) (hc:iE p<400000)
  (hK:∀H',Le H H'→K (qv (cG p known x)) H'):aq prog 175 [.agg #[.slice a n c],.slice ka kn kc,qv x] H K:=by
 refine ab af aa rfl func175 call175 ntmps175 results175 rfl rfl ?_;have ov:=M9 x.1
 refine pq hx fun a1 c1 H1 ak=>?_
 refine⟨fun h=>?_,fun h=>?_⟩
 ·have h0:0<oy x.1:=by have:=dt h;omega
  refine⟨[2,0,1,4],rfl,?_⟩
  refine Ed (ha.up ak) (hk.up ak) hc fun b hb=>?_
  obtain⟨y1,Gz⟩:∃y,y=bB p known x.2.1:=⟨_,rfl⟩
  rw[←Gz]at hb ⊢
  refine pq (x:=(x.1,y1,x.2.2)) ⟨hx.1,by rw[Gz];exact vV hx.2.1,hx.2.2⟩ fun a2 c2 H2 ah=>?_
  have hK:=hK _ (ak.trans ah);refine⟨fun h=>?_,fun h=>?_⟩
  ·have h1:1<oy x.1:=by have:=dt h;simp only at this;omega
   refine⟨[2,0,1,4],rfl,?_⟩
   refine By (x:=(x.1,y1,x.2.2)) (ha.up (ak.trans ah)) (hk.up (ak.trans ah)) hc fun b' gr=>?_
   refine mw (a:=y1.2) (b:=(bB p known x.2.2).2) ?_;rw[ov,decide_eq_true h0]
   have hE:cG p known x=if y1.1.l=[]∧(bB p known x.2.2).1.l=[] then (0,(⟨[]⟩,qk x.1 y1.2 (bB p known x.2.2).2),(⟨[]⟩,(0,0))) else (x.1,y1,bB p known x.2.2):=by
    unfold cG;simp only[h0,h1,if_true,←Gz,true_and,show ¬oy x.1=1 by omega,false_or]
   rw[hE]at hK
   cases b' with
   | true =>
    have uu:y1.1.l=[]∧(bB p known x.2.2).1.l=[]:=by rw[hb]at gr;simpa using gr.symm
    rw[if_pos uu]at hK;exact⟨(fun h=>by cases h),fun _=>hK⟩
   | false =>
    have uu:¬(y1.1.l=[]∧(bB p known x.2.2).1.l=[]):=by
     rw[hb]at gr;intro hh;simp [hh.1,hh.2]at gr
    rw[if_neg uu]at hK;exact hK
  ·have h1:¬1<oy x.1:=by have:=df h;simp only at this;omega
   refine mw (a:=y1.2) (b:=x.2.2.2) ?_;rw[ov,decide_eq_true h0]
   have hE:cG p known x=if y1.1.l=[] then (0,(⟨[]⟩,qk x.1 y1.2 x.2.2.2),(⟨[]⟩,(0,0))) else (x.1,y1,x.2.2):=by
    have dd:oy x.1=1:=by omega
    unfold cG;rw[dd,←Gz];simp only[show (0:Nat)<1 by decide,show ¬(1:Nat)<1 by decide,if_true,if_false,true_and,true_or,and_true]
   rw[hE]at hK
   cases b with
   | true =>
    have uu:y1.1.l=[]:=by simpa using hb.symm
    rw[if_pos uu]at hK;exact⟨(fun h=>by cases h),fun _=>hK⟩
   | false =>
    have uu:¬y1.1.l=[]:=by
     intro hh;simp [hh]at hb
    rw[if_neg uu]at hK;exact hK
 ·have h0:¬0<oy x.1:=by have:=df h;omega
  have hE:cG p known x=x:=by
   unfold cG;simp only[h0,show ¬1<oy x.1 by omega,if_false,false_and]
  refine pq hx fun a2 c2 H2 ah=>?_
  have hK:=hK _ (ak.trans ah);rw[hE]at hK;refine⟨fun h=>?_,fun h=>?_⟩
  ·have:=dt h;omega
  ·refine mw (a:=x.2.1.2) (b:=x.2.2.2) ?_;rw[ov,decide_eq_false h0];exact⟨fun _=>hK,fun h=>by cases h⟩
theorem Ee {p:Prog} {known:List UInt64} {x:Expr} (hx:lC x) {a ka:Option Addr} {n c kn kc:Nat} (ha:RL H a n c p) (hk:RL H ka kn kc known) (hc:iE p<400000)
  (hK:∀H',Le H H'→K (qv (cG p known x)) H'):aq prog 83 [.agg #[.slice a n c],.slice ka kn kc,qv x] H K:=by
 refine ab af aa rfl func83 call83 ntmps83 results83 rfl rfl ?_;have ov:=M9 x.1
 refine Bw hx fun a1 c1 H1 ak=>?_
 have hK:=hK _ ak;refine⟨fun h=>?_,fun h=>?_⟩
 ·have h0:0<oy x.1:=by have:=dt h;omega
  refine pr (ha.up ak) (hk.up ak) hc fun H2 ah=>?_
  obtain⟨y1,Gz⟩:∃y,y=bB p known x.2.1:=⟨_,rfl⟩
  rw[←Gz];refine⟨fun h=>?_,fun h=>?_⟩
  ·have h1:1<oy x.1:=by have:=dt h;omega
   refine pr (ha.up ak) (hk.up ak) hc fun H3 az=>?_
   have hE:cG p known x=if y1.1.l=[]∧(bB p known x.2.2).1.l=[] then (0,(⟨[]⟩,qk x.1 y1.2 (bB p known x.2.2).2),(⟨[]⟩,(0,0))) else (x.1,y1,bB p known x.2.2):=by
    unfold cG;simp only[h0,h1,if_true,←Gz,true_and,show ¬oy x.1=1 by omega,false_or]
   rw[hE]at hK
   obtain⟨y2,S8⟩:∃y,y=bB p known x.2.2:=⟨_,rfl⟩
   rw[←S8]at hK ⊢
   have hA:∀q:Prop,∀ [Decidable q],decide q=!true→¬q:=fun q _ h hq=>by rw[decide_eq_true hq]at h;cases h
   refine⟨fun _=>?_,fun h=>absurd (show ((0:Int)<(oy x.1:Int)) by omega) (hA _ h)⟩;refine⟨fun h=>?_,fun h=>?_⟩
   ·have v1:y1.1.l=[]:=dt h;refine⟨fun h=>?_,fun h=>?_⟩
    ·refine⟨fun h=>?_,fun h=>?_⟩
     ·have v2:y2.1.l=[]:=dt h;rw[if_pos ⟨v1,v2⟩]at hK;refine oN (a:=y1.2) (b:=y2.2) ?_;exact hK
     ·have v2:¬y2.1.l=[]:=df h;rw[if_neg (fun hh=>v2 hh.2)]at hK;exact hK
    ·have h:decide (((oy x.1:Nat):Int)=1)=true:=by cases hh:decide (((oy x.1:Nat):Int)=1)<;>simp_all
     have:=dt h;omega
   ·have v1:¬y1.1.l=[]:=hA _ h;rw[if_neg (fun hh=>v1 hh.1)]at hK;exact hK
  ·have h1:¬1<oy x.1:=by have:=df h;omega
   have hE:cG p known x=if y1.1.l=[] then (0,(⟨[]⟩,qk x.1 y1.2 x.2.2.2),(⟨[]⟩,(0,0))) else (x.1,y1,x.2.2):=by
    have dd:oy x.1=1:=by omega
    unfold cG;rw[dd,←Gz];simp only[show (0:Nat)<1 by decide,show ¬(1:Nat)<1 by decide,if_true,if_false,true_and,true_or,and_true]
   rw[hE]at hK
   have hA:∀q:Prop,∀ [Decidable q],decide q=!true→¬q:=fun q _ h hq=>by rw[decide_eq_true hq]at h;cases h
   refine⟨fun _=>?_,fun h=>absurd (show ((0:Int)<(oy x.1:Int)) by omega) (hA _ h)⟩;refine⟨fun h=>?_,fun h=>?_⟩
   ·have v1:y1.1.l=[]:=dt h;rw[if_pos v1]at hK;refine⟨fun h=>?_,fun h=>?_⟩
    ·have:=df h;omega
    ·refine oN (a:=y1.2) (b:=x.2.2.2) ?_;exact hK
   ·have v1:¬y1.1.l=[]:=hA _ h;rw[if_neg v1]at hK;exact hK
 ·have h0:¬0<oy x.1:=by have:=df h;omega
  have hE:cG p known x=x:=by
   unfold cG;simp only[h0,show ¬1<oy x.1 by omega,if_false,false_and]
  rw[hE]at hK;refine⟨fun h=>?_,fun h=>?_⟩
  ·have:=dt h;omega
  ·have hA:∀q:Prop,∀ [Decidable q],decide q=!true→¬q:=fun q _ h hq=>by rw[decide_eq_true hq]at h;cases h
   refine⟨fun h=>?_,fun h=>?_⟩
   ·have:=dt h;omega
   ·exact hK
end Go.Proofs
end
section
namespace Go.Proofs
open Go.Sy
theorem IC {H:Hp} {s:Stmt} (h:fl s):cq.R H (.int .i64 s.1 :: .string (bs s.2.1.l) :: .int .i64 s.2.2.1::(dT s.2.2.2.1++dT s.2.2.2.2)) s :=
 ⟨[.int .i64 s.1],_,rfl,⟨rfl,h.1⟩,[.string (bs s.2.1.l)],_,rfl,⟨rfl,h.2.1⟩,[.int .i64 s.2.2.1],dT s.2.2.2.1++dT s.2.2.2.2,rfl,⟨rfl,h.2.2.1⟩,dT s.2.2.2.1,dT s.2.2.2.2,rfl,tz h.2.2.2.1,tz h.2.2.2.2⟩
end Go.Proofs
end
section
namespace Go.Proofs
open Go.Sy
open Tryz
variable {H:Hp} {K:Value→Hp→Prop}
theorem Uy (a:Nm):rV (mu a).1∧rV (mu a).2:=by
 have h1:=bK a.1;have h2:=bK a.2;exact⟨⟨by show _≤fu a.1;omega,by show fu a.1≤_;omega⟩,⟨by show _≤fu a.2;omega,by show fu a.2≤_;omega⟩⟩
theorem QI (op:Int) (a b:Nm):rV (qk op a b).1∧rV (qk op a b).2:=by
 unfold qk
 repeat' split
 all_goals first | exact Uy _ | exact⟨⟨by decide,by decide⟩,⟨by decide,by decide⟩⟩
theorem WI:lW (⟨[]⟩,0,0):=⟨Nat.zero_le _,⟨by decide,by decide⟩,⟨by decide,by decide⟩⟩
theorem Sh:rV 0:=⟨by decide,by decide⟩
theorem ID {p:Prog} {known:List UInt64} {x:Expr} (h:lC x):lC (cG p known x):=by
 have h1:lW (if 0<oy x.1 then bB p known x.2.1 else x.2.1):=by
  split
  ·exact vV h.2.1
  ·exact h.2.1
 have h2:lW (if 1<oy x.1 then bB p known x.2.2 else x.2.2):=by
  split
  ·exact vV h.2.2
  ·exact h.2.2
 have key:∀(y1 y2:ks),lW y1→lW y2→∀(c:Prop) [Decidable c],lC (if c then (0,(⟨[]⟩,qk x.1 y1.2 y2.2),(⟨[]⟩,(0,0))) else (x.1,y1,y2)):=fun y1 y2 h1 h2 c _=>by
  split
  ·exact⟨Sh,⟨Nat.zero_le _,(QI _ _ _).1,(QI _ _ _).2⟩,WI⟩
  ·exact⟨h.1,h1,h2⟩
 exact key _ _ h1 h2 _
theorem Ki (x:UInt64) (r:Wd):ow (x::r)=(decide (x.toNat=0)||ow r):=rfl
def jM (p:Prog) (known:List UInt64) (s:Stmt):Stmt:=if s.1=1∨s.1=3 then (s.1,s.2.1,cG p known s.2.2) else s
theorem Ps {p:Prog} {known:List UInt64} {s:Stmt} (h:fl s):fl (jM p known s):=by
 unfold jM;split
 ·exact⟨h.1,h.2.1,ID h.2.2⟩
 ·exact h
theorem GK {l:Wd} {a:Option Addr} {n c:Nat} (ha:RL H a n c l) (hK:K (.bool (ow l)) H):aq prog 113 [.slice a n c] H K:=by
 have hn:=ha.aB;have eI:=ha.le;refine ab af aa rfl func113 call113 ntmps113 results113 rfl rfl ?_
 refine⟨Nat,fun i=>⟨[(5,.v (.slice a n c)),(6,.v (.int .i64 n)),(7,.v (.int .i64 i))],[],0⟩,
  fun i H'=>H'=H∧i≤l.length∧ow l=ow (l.drop i),fun i=>l.length - i,⟨0,[],?_,rfl,Nat.zero_le _,rfl⟩,?_⟩
 ·(repeat' first|exact trivial|refine⟨?_,?_⟩|exact rfl|assumption)
 rintro i H1 _ ⟨rfl,hi,hx⟩;refine⟨fun h=>?_,fun h=>?_⟩
 ·have aj:i<l.length:=by have:=dt h;omega
  refine dO ha (aL aj) fun ad q1 hh _=>?_
  refine⟨ad,⟨by omega,by omega,q1⟩,?_⟩;refine⟨_,hh,?_⟩;have hd:l.drop i=l[i]::l.drop (i+1):=List.drop_eq_getElem_cons aj;rw[hd,Ki]at hx;refine⟨fun h=>?_,fun h=>?_⟩
  ·have h0:l[i].toNat=0:=by have:=dt h;omega
   rw[decide_eq_true h0,Bool.true_or]at hx;rw[hx]at hK;exact hK
  ·have h0:¬l[i].toNat=0:=by have:=df h;omega
   rw[decide_eq_false h0,Bool.false_or]at hx;refine⟨⟨by omega,by omega⟩,i+1,[],?_,⟨rfl,aj,hx⟩,by dsimp only;omega⟩
   (repeat' first|exact trivial|refine⟨?_,?_⟩|exact rfl|assumption)
 ·have aX:i=l.length:=by have:=df h;omega
  rw[aX,List.drop_length]at hx;rw[hx]at hK;exact hK
theorem GL {p:Prog} {known:List UInt64} {s:Stmt} (hs:fl s) {a ka:Option Addr} {n c kn kc:Nat} (ha:RL H a n c p) (hk:RL H ka kn kc known) (hc:iE p<400000)
  (hK:∀H',Le H H'→K (xk (jM p known s)) H'):aq prog 115 [.agg #[.slice a n c],.slice ka kn kc,xk s] H K:=by
 refine ab af aa rfl func115 call115 ntmps115 results115 rfl rfl ?_;unfold jM at hK;refine⟨fun h=>?_,fun h=>?_⟩
 ·have h1:¬s.1=1:=df h;refine⟨fun h=>?_,fun h=>?_⟩
  ·have h3:s.1=3:=dt h;rw[if_pos (.inr h3)]at hK
   refine xM hs.2.2 ha hk hc fun H1 ak=>?_
   exact hK _ (Le.refl H)
  ·have h3:¬s.1=3:=df h;rw[if_neg (by omega)]at hK;exact hK _ (Le.refl H)
 ·have h1:s.1=1:=dt h;rw[if_pos (.inl h1)]at hK
  refine xM hs.2.2 ha hk hc fun H1 ak=>?_
  exact hK _ (Le.refl H)
end Go.Proofs
end
section
namespace Go.Proofs
open Go.Sy
open Tryz
def cz (p:Prog) (i:Nat) (b:Block) (k:Nat):Wd:=l9 (bg p (b.2.1.take k)) (mM (cU (cF p)) i)
def ke (p:Prog) (i:Nat) (b:Block):List Stmt:=b.2.1.mapIdx fun k s=>jM p (cz p i b k) s
def iu (p:Prog) (i:Nat) (b:Block):Term:=if b.2.2.1=2 then (b.2.2.1,bB p (cz p i b b.2.1.length) b.2.2.2.1,b.2.2.2.2) else b.2.2
def Pt (p:Prog) (i:Nat):Bool:=ow (mM (cU (cF p)) i)
def cQ (p:Prog) (i:Nat) (b:Block):Block:=if Pt p i then b else (b.1,ke p i b,iu p i b)
def bQ (p:Prog):Prog:=p.mapIdx (cQ p)
theorem iv {α β:Type} {f:Nat→α→β} {l:List α} {k:Nat} {x:α} (h:l[k]?=some x):(l.mapIdx f).take (k+1)=(l.mapIdx f).take k++[f k x]:=by
 rw[List.take_add_one,List.getElem?_mapIdx,h];rfl
theorem dQ (p:Prog):(bQ p).length=p.length:=List.length_mapIdx
theorem mQ (p:Prog) (i:Nat) (b:Block):(ke p i b).length=b.2.1.length:=List.length_mapIdx
theorem Kj {l:Wd} {j:Nat} {x:UInt64} (h:l[j]?=some x):ow (l.take (j+1))=(ow (l.take j)||decide (x.toNat=0)):=by
 rw[List.take_add_one,h,Option.toList_some,ow,List.any_append];simp [ow]
theorem Bz {p:Prog} {i:Nat} {b:Block} (h:gi b.2.2):gi (iu p i b):=by
 unfold iu;split
 ·exact⟨h.1,vV h.2.1,h.2.2⟩
 ·exact h
theorem ri {H:Hp} {css:List (List Value)} {l:List Stmt} (h:RC (α:=Stmt) H css l) {s:Stmt} (hs:fl s):RC (α:=Stmt) H (css++[.int .i64 s.1 :: .string (bs s.2.1.l) :: .int .i64 s.2.2.1::(dT s.2.2.2.1++dT s.2.2.2.2)]) (l++[s]):=RC.snoc h (IC hs)
theorem GM {p:Prog} {i:Nat} {b:Block} {k:Nat} {s:Stmt} (h:b.2.1[k]?=some s):(cQ p i b).2.1.take (k+1)=(cQ p i b).2.1.take k++[if Pt p i then s else jM p (cz p i b k) s]:=by
 unfold cQ;split
 ·rw[List.take_add_one,h];rfl
 ·exact iv h
theorem tQ (p:Prog) (i:Nat) (b:Block):(cQ p i b).2.1.length=b.2.1.length:=by
 unfold cQ;split
 ·rfl
 ·exact mQ p i b
abbrev bC (b:Block) (v:SV):List SV:=.v (.string (bs b.1.l))::v::vL (dg b.2.2)
theorem GN {p:Prog} (hp:p.length≤12) (hl:∀b∈p,b.2.1.length≤1000000) (hv:iE p<400000) (he:al p=0) {a:Option Addr} {n c:Nat} {H:Hp} {K:Value→Hp→Prop} (ha:RL H a n c p)
  (hK:∀a1 n1 c1 H',Le H H'→RL H' a1 n1 c1 (bQ p)→K (.agg #[.slice a1 n1 c1]) H'):aq prog 44 [.agg #[.slice a n c]] H K:=by
 have hn:=ha.aB;have ho:=po he;have hA:=fg ho;have hm:(cF p).m=p.length:=rfl;have ca:=cj he;refine ab af aa rfl func44 call44 ntmps44 results44 rfl rfl ?_
 refine Kg hp hl hv ha he fun z H1 ak hs=>?_
 refine pk ho hs fun a4 n4 c4 H2 ah fm=>?_
 have Vf:=fm.aB;rw[hA.len]at Vf
 refine⟨Nat×List (List Value),fun q=>⟨[(1,.ptr 0 0),(2,.ptr 1 0),(3,.ptr 2 0),(4,.v (.slice a4 n4 c4)),(17,.v (.slice a n c)),(18,.v (.int .i64 n)),(19,.v (.int .i64 q.1))],
   [(0,.cells 24 [.v (.slice a n c)]),(1,.cells 24 [.v (.slice none 0 0)]),(2,.cells 24 [.own 3]),(3,.row 66 8 q.2)],4⟩,
  fun q H'=>Le H2 H'∧q.1≤n∧RC (α:=Block) H' q.2 ((bQ p).take q.1),fun q=>n - q.1,⟨(0,[]),[(0,0),(1,1),(2,2)],?_,Le.refl _,Nat.zero_le _,RC.nil⟩,?_⟩
 ·(repeat' first|exact trivial|refine⟨?_,?_⟩|exact rfl|assumption)
 rintro⟨i,css⟩ H3 _ ⟨az,hi,bf⟩;dsimp only at hi bf;have hle:=(ak.trans ah).trans az
 have fC:css.length=i:=by have h1:=bf.1;rw[List.length_take,dQ]at h1;omega
 refine⟨fun h=>?_,fun h=>?_⟩
 ·have aj:i<p.length:=by have:=dt h;dsimp only at this;omega
  refine aD p[i] fun b gV=>?_
  have bG:p[i]?=some b:=by rw[gV];exact aL aj
  have oJ:=hl b (dY bG)
  refine bF (ha.up hle) bG fun ad a5 n5 c5 q1 hh ct xw vR=>?_
  have xl:=ct.aB;refine⟨ad,⟨by dsimp only;omega,by dsimp only;omega,q1⟩,?_⟩;refine⟨_,hh,?_⟩;have Uz:=eS hA (v:=i) (by rw[hm];exact aj);have Sg:=fO hA (v:=i) (by rw[hm];exact aj)
  refine dj (fm.up az) Uz fun iy a6 n6 c6 q2 gj ji=>?_
  have E8:=ji.aB
  have hl6:n6≤1024:=by rw[E8,Sg.1];exact ho.w
  refine⟨iy,⟨by dsimp only;omega,by dsimp only;omega,q2⟩,?_⟩;refine⟨_,gj,?_⟩
  refine⟨Nat×Bool,fun q=>⟨[(1,.ptr 0 0),(2,.ptr 1 0),(3,.ptr 2 0),(4,.v (.slice a4 n4 c4)),(5,.v (.int .i64 i)),(6,.ptr 4 0),(7,.ptr 5 0),(8,.v (.bool q.2)),(17,.v (.slice a n c)),(18,.v (.int .i64 n)),(19,.v (.int .i64 i)),(32,.v (.slice a6 n6 c6)),(33,.v (.int .i64 n6)),(34,.v (.int .i64 q.1))],
    [(0,.cells 24 [.v (.slice a n c)]),(1,.cells 24 [.v (.slice none 0 0)]),(2,.cells 24 [.own 3]),(3,.row 66 8 css),(4,.cells 66 (bC b (.v (.slice a5 n5 c5)))),(5,.cells 66 (bC b (.v (.slice none 0 0))))],6⟩,
   fun q H'=>H'=H3∧q.1≤n6∧q.2=ow ((mM (cU (cF p)) i).take q.1),fun q=>n6 - q.1,⟨(0,false),[(0,0),(1,1),(2,2),(3,3),(4,4),(5,5)],?_,rfl,Nat.zero_le _,rfl⟩,?_⟩
  ·(repeat' first|exact trivial|refine⟨?_,?_⟩|exact rfl|assumption)
  rintro⟨j,nv⟩ H4 _ ⟨rfl,hj,uQ⟩;dsimp only at hj uQ;refine⟨fun h=>?_,fun h=>?_⟩
  ·have eD:j<(mM (cU (cF p)) i).length:=by have:=dt h;dsimp only at this;omega
   have ex:=aL eD
   refine dO ji ex fun sy q3 ql _=>?_
   refine⟨sy,⟨by dsimp only;omega,by dsimp only;omega,q3⟩,?_⟩;refine⟨_,ql,?_⟩;have e0:=Kj ex;refine⟨fun h=>?_,fun h=>?_⟩
   ·have h:nv=false:=h;have e1:decide ((((mM (cU (cF p)) i)[j].toNat:Nat):Int)=0)=decide ((mM (cU (cF p)) i)[j].toNat=0):=decide_eq_decide.2 ⟨by omega,by omega⟩;refine⟨⟨by dsimp only;omega,by dsimp only;omega⟩,(j+1,decide ((((mM (cU (cF p)) i)[j].toNat:Nat):Int)=0)),[(0,0),(1,1),(2,2),(3,3),(4,4),(5,5)],?_,⟨rfl,by dsimp only;omega,?_⟩,by dsimp only;omega⟩
    ·(repeat' first|exact trivial|refine⟨?_,?_⟩|exact rfl|assumption)
    ·dsimp only;rw[e0,←uQ,h,Bool.false_or,e1]
   ·have h:nv=true:=h;refine⟨⟨by dsimp only;omega,by dsimp only;omega⟩,(j+1,true),[(0,0),(1,1),(2,2),(3,3),(4,4),(5,5)],?_,⟨rfl,by dsimp only;omega,?_⟩,by dsimp only;omega⟩
    ·(repeat' first|exact trivial|refine⟨?_,?_⟩|exact rfl|assumption)
    ·dsimp only;rw[e0,←uQ,h,Bool.true_or]
  have Un:j=n6:=by have:=df h;dsimp only at this;omega
  rw[Un,E8,List.take_length]at uQ;have uQ:nv=Pt p i:=uQ
  refine⟨Nat×List (List Value),fun q=>⟨[(1,.ptr 0 0),(2,.ptr 1 0),(3,.ptr 2 0),(4,.v (.slice a4 n4 c4)),(5,.v (.int .i64 i)),(6,.ptr 4 0),(7,.ptr 5 0),(8,.v (.bool nv)),(17,.v (.slice a n c)),(18,.v (.int .i64 n)),(19,.v (.int .i64 i)),(45,.v (.slice a5 n5 c5)),(46,.v (.int .i64 n5)),(47,.v (.int .i64 q.1))],
    [(0,.cells 24 [.v (.slice a n c)]),(1,.cells 24 [.v (.slice none 0 0)]),(2,.cells 24 [.own 3]),(3,.row 66 8 css),(4,.cells 66 (bC b (.v (.slice a5 n5 c5)))),(5,.cells 66 (bC b (.own 6))),(6,.row 61 9 q.2)],7⟩,
   fun q H'=>Le H4 H'∧q.1≤n5∧RC (α:=Stmt) H' q.2 ((cQ p i b).2.1.take q.1),fun q=>n5 - q.1,⟨(0,[]),[(0,0),(1,1),(2,2),(3,3),(4,4),(5,5)],?_,Le.refl _,Nat.zero_le _,RC.nil⟩,?_⟩
  ·(repeat' first|exact trivial|refine⟨?_,?_⟩|exact rfl|assumption)
  rintro⟨k,kZ⟩ H5 _ ⟨aK,hk,Bm⟩;dsimp only at hk Bm
  have zO:kZ.length=k:=by have h1:=Bm.1;rw[List.length_take,tQ]at h1;omega
  have uS:=hle.trans aK;refine⟨fun h=>?_,fun h=>?_⟩
  ·have e8:k<b.2.1.length:=by have:=dt h;dsimp only at this;omega
   refine aD b.2.1[k] fun s Be=>?_
   have dy:b.2.1[k]?=some s:=by rw[Be];exact aL e8
   have yV:=GM (p:=p) (i:=i) dy
   refine du (ct.up aK) dy fun sy q3 ql vM=>?_
   refine⟨sy,⟨by dsimp only;omega,by dsimp only;omega,q3⟩,?_⟩;refine⟨_,ql,?_⟩;refine⟨fun h=>?_,fun h=>?_⟩
   ·have LQ:Pt p i=false:=by rw[←uQ];simpa using h
    have hf:cQ p i b=(b.1,ke p i b,iu p i b):=by rw[cQ,LQ];rfl
    refine⟨fun h2=>?_,fun h2=>?_⟩
    ·have h2:¬s.1=2:=nt h2
     have Zu:s.1=1∨s.1=3:=by
      have:=fP (ca.2.2.2 b (dY bG)) s (dY dy)
      by_cases h1:s.1=1
      ·exact .inl h1
      ·by_cases h3:s.1=3
       ·exact .inr h3
       ·rw[dc,if_neg h1,if_neg h2,if_neg h3]at this;cases this
     have Qk:jM p (cz p i b k) s=(s.1,s.2.1,cG p (cz p i b k) s.2.2):=if_pos Zu;refine⟨some ([1000000,7],[0,1,2,3,4,5,6,7,9,10,8,11,12,13]),by kernel_rfl,?_⟩
     refine dj (fm.up (az.trans aK)) Uz fun Si a7 n7 c7 q4 Sj dz=>?_
     refine⟨Si,⟨by omega,by omega,q4⟩,?_⟩;refine⟨_,Sj,?_⟩
     refine Ec (i:=(i:Nat)) (j:=(k:Nat)) he hl hv (ha.up uS) (x:=mM (cU (cF p)) i) Sg dz (b:=b) (by rw[Int.toNat_natCast];exact bG) (by omega) (by omega) (by omega) (by omega) fun a8 n8 c8 H6 aI lj=>?_
     rw[Int.toNat_natCast]at lj
     refine Ee vM.2.2 (ha.up (uS.trans aI)) lj hv fun _ _=>?_
     have Na:RC (α:=Stmt) H6 (kZ++[.int .i64 ((s.1,s.2.1,cG p (cz p i b k) s.2.2)).1 :: .string (bs ((s.1,s.2.1,cG p (cz p i b k) s.2.2)).2.1.l) :: .int .i64 ((s.1,s.2.1,cG p (cz p i b k) s.2.2)).2.2.1::(dT ((s.1,s.2.1,cG p (cz p i b k) s.2.2)).2.2.2.1++dT ((s.1,s.2.1,cG p (cz p i b k) s.2.2)).2.2.2.2)]) ((cQ p i b).2.1.take (k+1)):=by
      rw[yV,LQ,if_neg (by decide),Qk];exact ri (RC.up Bm aI) ⟨vM.1,vM.2.1,ID vM.2.2⟩
     refine⟨⟨by show (kZ.length+1)*96≤140737488355328;omega,by show kZ.length+1≤9223372036854775807;omega⟩,?_⟩;refine⟨⟨by dsimp only;omega,by dsimp only;omega⟩,(k+1,kZ++[.int .i64 ((s.1,s.2.1,cG p (cz p i b k) s.2.2)).1 :: .string (bs ((s.1,s.2.1,cG p (cz p i b k) s.2.2)).2.1.l) :: .int .i64 ((s.1,s.2.1,cG p (cz p i b k) s.2.2)).2.2.1::(dT ((s.1,s.2.1,cG p (cz p i b k) s.2.2)).2.2.2.1++dT ((s.1,s.2.1,cG p (cz p i b k) s.2.2)).2.2.2.2)]),[(0,0),(1,1),(2,2),(3,3),(4,4),(5,5),(6,9)],?_,⟨aK.trans aI,by dsimp only;omega,Na⟩,by dsimp only;omega⟩
     (repeat' first|exact trivial|refine⟨?_,?_⟩|exact rfl|assumption)
    ·have h2:s.1=2:=nf h2;have Qk:jM p (cz p i b k) s=s:=if_neg (by omega)
     have Na:RC (α:=Stmt) H5 (kZ++[.int .i64 (s).1 :: .string (bs (s).2.1.l) :: .int .i64 (s).2.2.1::(dT (s).2.2.2.1++dT (s).2.2.2.2)]) ((cQ p i b).2.1.take (k+1)):=by
      rw[yV,LQ,if_neg (by decide),Qk];exact ri Bm vM
     refine⟨⟨by show (kZ.length+1)*96≤140737488355328;omega,by show kZ.length+1≤9223372036854775807;omega⟩,?_⟩;refine⟨⟨by dsimp only;omega,by dsimp only;omega⟩,(k+1,kZ++[.int .i64 (s).1 :: .string (bs (s).2.1.l) :: .int .i64 (s).2.2.1::(dT (s).2.2.2.1++dT (s).2.2.2.2)]),[(0,0),(1,1),(2,2),(3,3),(4,4),(5,5),(6,9)],?_,⟨aK,by dsimp only;omega,Na⟩,by dsimp only;omega⟩
     (repeat' first|exact trivial|refine⟨?_,?_⟩|exact rfl|assumption)
   ·have UA:Pt p i=true:=by rw[←uQ];simpa using h
    have Na:RC (α:=Stmt) H5 (kZ++[.int .i64 (s).1 :: .string (bs (s).2.1.l) :: .int .i64 (s).2.2.1::(dT (s).2.2.2.1++dT (s).2.2.2.2)]) ((cQ p i b).2.1.take (k+1)):=by
     rw[yV,UA,if_pos rfl];exact ri Bm vM
    refine⟨⟨by show (kZ.length+1)*96≤140737488355328;omega,by show kZ.length+1≤9223372036854775807;omega⟩,?_⟩;refine⟨⟨by dsimp only;omega,by dsimp only;omega⟩,(k+1,kZ++[.int .i64 (s).1 :: .string (bs (s).2.1.l) :: .int .i64 (s).2.2.1::(dT (s).2.2.2.1++dT (s).2.2.2.2)]),[(0,0),(1,1),(2,2),(3,3),(4,4),(5,5),(6,9)],?_,⟨aK,by dsimp only;omega,Na⟩,by dsimp only;omega⟩
    (repeat' first|exact trivial|refine⟨?_,?_⟩|exact rfl|assumption)
  have Ou:k=n5:=by have:=df h;dsimp only at this;omega
  rw[Ou,List.take_of_length_le (by rw[tQ];omega)]at Bm;refine⟨fun h=>?_,fun h=>?_⟩
  ·have LQ:Pt p i=false:=by rw[←uQ];simpa using h
   refine⟨fun h2=>?_,fun h2=>?_⟩
   ·have h2:b.2.2.1=2:=dt h2;have Sk:iu p i b=(b.2.2.1,bB p (cz p i b b.2.1.length) b.2.2.2.1,b.2.2.2.2):=if_pos h2;refine⟨some ([1000000,5],[0,1,2,3,4,5,6,7,8,9,11,12,13,10,14,15,16,17]),by kernel_rfl,?_⟩
    refine dj (fm.up (az.trans aK)) Uz fun Si a7 n7 c7 q4 Sj dz=>?_
    refine⟨Si,⟨by omega,by omega,q4⟩,?_⟩;refine⟨_,Sj,?_⟩
    refine Ec (i:=(i:Nat)) (j:=(n5:Nat)) he hl hv (ha.up uS) (x:=mM (cU (cF p)) i) Sg dz (b:=b) (by rw[Int.toNat_natCast];exact bG) (by omega) (by omega) (by omega) (by omega) fun a8 n8 c8 H6 aI lj=>?_
    rw[Int.toNat_natCast,xl]at lj
    refine pr (ha.up (uS.trans aI)) lj hv fun _ _=>?_
    intro v Zv xN cZ
    refine bZ (α:=Stmt) cZ (RC.up (RC.up Bm aI) xN.le) fun a9 n9 c9 ev Ir=>?_
    subst ev
    have bA:cQ p i b=(b.1,ke p i b,iu p i b):=by rw[cQ,LQ];rfl
    have b8:RC (α:=Block) Zv (css++[.string (bs b.1.l) :: .slice a9 n9 c9::dg (b.2.2.1,bB p (cz p i b b.2.1.length) b.2.2.2.1,b.2.2.2.2)]) ((bQ p).take (i+1)):=by
     rw[bQ,iv bG,bA];exact RC.snoc (RC.up bf ((aK.trans aI).trans xN.le)) (Sk▸dD (b:=(b.1,ke p i b,iu p i b)) (by rw[bA]at Ir;exact Ir) xw (Bz vR))
    refine⟨⟨by show (css.length+1)*112≤140737488355328;omega,by show css.length+1≤9223372036854775807;omega⟩,?_⟩;refine⟨⟨by omega,by omega⟩,(i+1,css++[.string (bs b.1.l) :: .slice a9 n9 c9::dg (b.2.2.1,bB p (cz p i b b.2.1.length) b.2.2.2.1,b.2.2.2.2)]),[(0,0),(1,1),(2,2),(3,8)],?_,⟨az.trans ((aK.trans aI).trans xN.le),by dsimp only;omega,b8⟩,by dsimp only;omega⟩
    (repeat' first|exact trivial|refine⟨?_,?_⟩|exact rfl|assumption)
   ·have h2:¬b.2.2.1=2:=df h2;have Sk:iu p i b=b.2.2:=if_neg h2;intro v WJ xN cZ
    refine bZ (α:=Stmt) cZ (RC.up Bm xN.le) fun a9 n9 c9 ev Ir=>?_
    subst ev
    have bA:cQ p i b=(b.1,ke p i b,iu p i b):=by rw[cQ,LQ];rfl
    have b8:RC (α:=Block) WJ (css++[.string (bs b.1.l) :: .slice a9 n9 c9::dg b.2.2]) ((bQ p).take (i+1)):=by
     rw[bQ,iv bG,bA];exact RC.snoc (RC.up bf ((aK).trans xN.le)) (Sk▸dD (b:=(b.1,ke p i b,iu p i b)) (by rw[bA]at Ir;exact Ir) xw (Bz vR))
    refine⟨⟨by show (css.length+1)*112≤140737488355328;omega,by show css.length+1≤9223372036854775807;omega⟩,?_⟩;refine⟨⟨by omega,by omega⟩,(i+1,css++[.string (bs b.1.l) :: .slice a9 n9 c9::dg b.2.2]),[(0,0),(1,1),(2,2),(3,8)],?_,⟨az.trans ((aK).trans xN.le),by dsimp only;omega,b8⟩,by dsimp only;omega⟩
    (repeat' first|exact trivial|refine⟨?_,?_⟩|exact rfl|assumption)
  ·have UA:Pt p i=true:=by rw[←uQ];simpa using h
   intro v WJ xN cZ
   refine bZ (α:=Stmt) cZ (RC.up Bm xN.le) fun a9 n9 c9 ev Ir=>?_
   subst ev
   have bA:cQ p i b=b:=by rw[cQ,UA];rfl
   have b8:RC (α:=Block) WJ (css++[.string (bs b.1.l) :: .slice a9 n9 c9::dg b.2.2]) ((bQ p).take (i+1)):=by
    rw[bQ,iv bG,bA];exact RC.snoc (RC.up bf ((aK).trans xN.le)) (dD (b:=b) (by rw[bA]at Ir;exact Ir) xw vR)
   refine⟨⟨by show (css.length+1)*112≤140737488355328;omega,by show css.length+1≤9223372036854775807;omega⟩,?_⟩;refine⟨⟨by omega,by omega⟩,(i+1,css++[.string (bs b.1.l) :: .slice a9 n9 c9::dg b.2.2]),[(0,0),(1,1),(2,2),(3,8)],?_,⟨az.trans ((aK).trans xN.le),by dsimp only;omega,b8⟩,by dsimp only;omega⟩
   (repeat' first|exact trivial|refine⟨?_,?_⟩|exact rfl|assumption)
 ·intro v H9 ez WK
  have aX:i=n:=by have:=df h;dsimp only at this;omega
  rw[List.take_of_length_le (by rw[dQ];omega)]at bf
  refine bZ (α:=Block) WK (RC.up bf ez.le) fun ar nr cr ev hr=>?_
  subst ev;exact hK _ _ _ _ (hle.trans ez.le) hr
end Go.Proofs
end
section
namespace Go.Proofs
open Go.Sy
open Tryz
variable {H:Hp} {K:Value→Hp→Prop}
abbrev oz (s:Stmt):List Value:=.int .i64 s.1 :: .string (bs s.2.1.l) :: .int .i64 s.2.2.1::(dT s.2.2.2.1++dT s.2.2.2.2)
abbrev cA (v:Value) (b:Block):List Value:=.string (bs b.1.l)::v::dg b.2.2
theorem Kk {H:Hp} {css:List (List Value)} {l:List Stmt} (h:RC (α:=Stmt) H css l):css=l.map oz:=by
 apply List.ext_getElem?;intro i;rw[List.getElem?_map];have hl:css.length=l.length:=h.1
 by_cases hi:i<l.length
 ·have h1:css[i]?=some (css[i]'(by omega)):=aL _;have h2:=aL hi;have h3:=(hC (h.2 i _ _ h1 h2)).1
  rw[h1,h2,h3];rfl
 ·rw[List.getElem?_eq_none (by omega),List.getElem?_eq_none (by omega)];rfl
theorem z8 {H:Hp} {l:List Stmt} (h:∀s∈l,fl s):RC (α:=Stmt) H (l.map oz) l:=by
 refine⟨by simp,fun i cs x h1 h2=>?_⟩;rw[List.getElem?_map,h2]at h1;cases h1;exact IC (h x (dY h2))
theorem Pu {P:Prop} {e:TypeId} {sz:Nat} {xs:List (List Value)} {H H2:Hp} {x:Value} (h:j9 e sz xs H x H2) (k:∀a n c,x = .slice a n c→P):P:=by
 rcases h with ⟨h1,_⟩ | ⟨g,cap,c,h1,_⟩
 ·exact k _ _ _ h1
 ·exact k _ _ _ h1
theorem BA {l:List Stmt} (hl:l.length≤1000000) {a:Option Addr} {n c:Nat} (ha:RL H a n c l) (hK:∀a1 n1 c1 H',qp 61 9 (l.map oz) H (.slice a1 n1 c1) H'→(∀s∈l,fl s)→K (.slice a1 n1 c1) H'):aq prog 59 [.slice a n c] H K:=by
 have hn:=ha.aB
 have hR:∀s∈l,fl s:=fun s hs=>by
  obtain⟨i,hi⟩:=List.getElem?_of_mem hs
  exact du ha hi fun _ _ _ h=>h
 refine ab af aa rfl func59 call59 ntmps59 results59 rfl rfl ?_;refine⟨fun h=>?_,fun h=>?_⟩
 ·have gZ:a=none:=by
   cases a with
   | none=>rfl
   | some x=>cases h
  rw[gZ]at ha;have h0:=A2 ha;refine hK none 0 0 H ⟨Le.refl H,.inl ⟨rfl,by rw[h0];rfl⟩⟩ hR
 ·obtain⟨css,gF,bf⟩:=ha.row;have fC:css.length=l.length:=bf.1;have fB:=Kk bf;refine⟨css,gF,?_⟩;refine⟨⟨by show (0+css.length)*96≤140737488355328;omega,by show 0+css.length≤9223372036854775807;omega⟩,?_⟩;intro v H' hle hv;rw[fB]at hle
  refine Pu hle.new fun a1 n1 c1 e=>?_
  subst e;exact hK _ _ _ H' hle hR
structure BB (H H':Hp) (vs:List Value) (p:Prog):Prop where
 len:vs.length=p.length
 new:∀(i:Nat) (v:Value) (b:Block),vs[i]?=some v→p[i]?=some b→j9 61 9 (b.2.1.map oz) H v H'
 WL:vs.Pairwise fun v u=>∀g,v.ownBlock=some g→u.ownBlock≠some g
theorem xO {e:TypeId} {sz:Nat} {xs:List (List Value)} {H H2 H3:Hp} {x:Value} (h:j9 e sz xs H x H2) (hle:Le H2 H3):j9 e sz xs H x H3:=by
 rcases h with h1 | ⟨g,cap,c,h1,h2,h3,h4⟩
 ·exact .inl h1
 ·exact .inr ⟨g,cap,c,h1,h2,hle _ _ h3,h4⟩
theorem GO {e:TypeId} {sz:Nat} {xs:List (List Value)} {H H1 H2:Hp} {x:Value} (h:j9 e sz xs H1 x H2) (hle:Le H H1):j9 e sz xs H x H2:=by
 rcases h with h1 | ⟨g,cap,c,h1,h2,h3⟩
 ·exact .inl h1
 ·refine .inr ⟨g,cap,c,h1,?_,h3⟩
  cases hg:H g with
  | none=>rfl
  | some o=>rw[hle _ _ hg]at h2;cases h2
theorem BB.up {H H' H2:Hp} {vs:List Value} {p:Prog} (h:BB H H' vs p) (hle:Le H' H2):BB H H2 vs p:=⟨h.len,fun i v b h1 h2=>xO (h.new i v b h1 h2) hle,h.WL⟩
theorem BB.snoc {H H1 H2:Hp} {vs:List Value} {p:Prog} (h:BB H H1 vs p) (yv:Le H H1) {v:Value} {b:Block} (hv:qp 61 9 (b.2.1.map oz) H1 v H2):BB H H2 (vs++[v]) (p++[b]):=by
 refine⟨by rw[List.length_append,List.length_append,h.len];rfl,fun i u c h1 h2=>?_,?_⟩
 ·rw[List.getElem?_append]at h1 h2;have hl:=h.len;split at h1
  ·rename_i hi;rw[if_pos (by omega)]at h2;exact xO (h.new i u c h1 h2) hv.le
  ·rename_i hi;rw[if_neg (by omega)]at h2
   have e1:i - vs.length=0:=by
    have:=(gh.1 h1).1
    simp at this;omega
   rw[e1]at h1;rw[←hl,e1]at h2;cases h1;cases h2;exact GO hv.new yv
 ·rw[List.pairwise_append];refine⟨h.WL,List.pairwise_singleton _ _,fun u hu w hw g hg iW=>?_⟩;rw[List.mem_singleton]at hw;subst hw;obtain⟨i,hi⟩:=List.getElem?_of_mem hu;have aj:=(gh.1 hi).1;have hb:p[i]?=some (p[i]'(by have:=h.len;omega)):=aL _;obtain⟨_,o,ho⟩:=(h.new i u _ hi hb).fresh hg;have:=(hv.new.fresh iW).1;rw[ho]at this;cases this
theorem Ef {vs:List Value} {p:Prog} (hl:vs.length=p.length) (v:Value) (b:Block):List.zipWith cA (vs++[v]) (p++[b])=List.zipWith cA vs p++[cA v b]:=by
 rw[List.zipWith_append hl];rfl
theorem IE {H:Hp} {v:Value} {b:Block} (hv:aW H v 9 (b.2.1.map oz)) (bc:∀s∈b.2.1,fl s) (hs:sR b.1) (ht:gi b.2.2):cq.R H (cA v b) b :=
 bZ (α:=Stmt) hv (z8 bc) fun a n c e hr=>by subst e;exact dD hr hs ht
theorem BC {p:Prog} (hp:p.length≤1000000) (hl:∀b∈p,b.2.1.length≤1000000) {a:Option Addr} {n c:Nat} (ha:RL H a n c p)
  (hK:∀v vs H3 H',Le H H3→BB H H3 vs p→qp 66 8 (List.zipWith cA vs p) H3 v H'→K (.agg #[v]) H'):aq prog 30 [.agg #[.slice a n c]] H K:=by
 have hn:=ha.aB;have eI:=ha.le;refine ab af aa rfl func30 call30 ntmps30 results30 rfl rfl ?_
 refine⟨Nat×List Value,fun q=>⟨[(2,.ptr 0 0),(3,.ptr 1 0),(7,.v (.slice a n c)),(8,.v (.int .i64 n)),(9,.v (.int .i64 q.1))],
   [(0,.cells 24 [.v (.slice none 0 0)]),(1,.cells 24 [.own 2]),(2,.row 66 8 (List.zipWith cA q.2 (p.take q.1)))],3⟩,
  fun q H'=>Le H H'∧q.1≤p.length∧BB H H' q.2 (p.take q.1),fun q=>p.length - q.1,⟨(0,[]),[(0,1),(1,2)],?_,Le.refl _,Nat.zero_le _,⟨rfl,fun i v b h1=>(by cases h1),List.Pairwise.nil⟩⟩,?_⟩
 ·(repeat' first|exact trivial|refine⟨?_,?_⟩|exact rfl|assumption)
 rintro⟨i,vs⟩ H1 ak ⟨_,hi,hf⟩;dsimp only at hi hf
 have N6:vs.length=i:=by rw[hf.len,List.length_take];omega
 have fC:(List.zipWith cA vs (p.take i)).length=i:=by rw[List.length_zipWith,List.length_take];omega
 refine⟨fun h=>?_,fun h=>?_⟩
 ·have aj:i<p.length:=by have:=dt h;dsimp only at this;omega
  refine aD p[i] fun b gV=>?_
  have bG:p[i]?=some b:=by rw[gV];exact aL aj
  refine bF (ha.up ak) bG fun ad a1 n1 c1 q1 hh bh rP B6=>?_
  refine⟨ad,⟨by dsimp only;omega,by dsimp only;omega,q1⟩,?_⟩;refine⟨_,hh,?_⟩
  refine BA (hl b (dY bG)) bh fun a5 n5 c5 H5 aK bc=>?_
  have yV:p.take (i+1)=p.take i++[b]:=by rw[List.take_add_one,bG,Option.toList_some]
  have hz:List.zipWith cA (vs++[.slice a5 n5 c5]) (p.take (i+1))=List.zipWith cA vs (p.take i)++[cA (.slice a5 n5 c5) b]:=by rw[yV,Ef hf.len]
  refine⟨⟨by show ((List.zipWith cA vs (p.take i)).length+1)*112≤140737488355328;omega,by show (List.zipWith cA vs (p.take i)).length+1≤9223372036854775807;omega⟩,?_⟩;refine⟨⟨by dsimp only;omega,by dsimp only;omega⟩,(i+1,vs++[.slice a5 n5 c5]),[(0,0),(1,1),(2,5)],?_,⟨ak.trans aK.le,aj,by dsimp only;rw[yV];exact hf.snoc ak aK⟩,by dsimp only;omega⟩;have hz:=hz.symm
  (repeat' first|exact trivial|refine⟨?_,?_⟩|exact rfl|assumption)
 ·have aX:i=p.length:=by have:=df h;dsimp only at this;omega
  rw[aX,List.take_length]at hf;intro v H' hle hv;have hle:qp 66 8 (List.zipWith cA vs (p.take i)) H1 v H':=hle;rw[aX,List.take_length]at hle;exact hK v vs H1 H' ak hf hle
abbrev gg (vs:List Value) (p:Prog):List (Value×List (List Value)):=List.zip vs (p.map fun b=>b.2.1.map oz)
theorem Eg {vs:List Value} {p:Prog} {q:Value×List (List Value)} (h:q∈gg vs p):∃(i:Nat) (b:Block),vs[i]?=some q.1∧p[i]?=some b∧q.2=b.2.1.map oz:=by
 obtain⟨i,hi⟩:=List.getElem?_of_mem h;rw[gg,List.getElem?_zip_eq_some,List.getElem?_map]at hi;obtain⟨h1,h2⟩:=hi
 cases hb:p[i]? with
 | none=>rw[hb]at h2;cases h2
 | some b =>
  rw[hb]at h2;simp only[Option.map_some,Option.some.injEq]at h2;exact⟨i,b,h1,hb,h2.symm⟩
theorem Sl (l:List Stmt):∀y∈l.map oz,y.length=9∧∀u∈y,u.oneCell'=true:=by
 intro y hy;obtain⟨s,_,rfl⟩:=List.mem_map.1 hy;have h:(oz s).all (·.oneCell')=true:=rfl;exact⟨rfl,fun u hu=>List.all_eq_true.1 h u hu⟩
theorem uT {p:Prog} (hp:p.length≤1000000) (hl:∀b∈p,b.2.1.length≤1000000) {a:Option Addr} {n c:Nat} {H:Hp} {K:SV→St→Hp→Prop} (ha:RL H a n c p)
  (hK:∀vs H',Le H H'→vs.length=p.length→(∀(i:Nat) (v:Value) (b:Block),vs[i]?=some v→p[i]?=some b→∃a c,v = .slice a b.2.1.length c∧(a=none→b.2.1=[]))→K (.agg [.own 0]) ⟨[],[(0,.row 66 8 (List.zipWith cA vs p)),(1,.kW 61 9 (gg vs p))],2⟩ H'):aY prog 30 [.agg [.v (.slice a n c)]] [] 0 H K:=by
 refine C8 (args:=[.agg #[.slice a n c]]) (fun _=>rfl) (BC hp hl ha (K:=fun v H'=>∃x vs H3,v = .agg #[x]∧Le H H3∧BB H H3 vs p∧qp 66 8 (List.zipWith cA vs p) H3 x H') (fun v vs H3 H' h1 h2 h3=>⟨v,vs,H3,rfl,h1,h2,h3⟩)) ?_;rintro v H2 hle ⟨x,vs,H3,rfl,h1,h2,h3⟩
 have j1:∀(i:Nat) (v:Value) (b:Block),vs[i]?=some v→p[i]?=some b→∃a c,v = .slice a b.2.1.length c∧(a=none→b.2.1=[]):=fun i v b h4 h5=>by
  rcases h2.new i v b h4 h5 with ⟨h6,h7⟩ | ⟨g,cap,cc,h6,_⟩
  ·have h8:b.2.1=[]:=List.map_eq_nil_iff.1 h7;exact⟨none,0,by rw[h6,h8];rfl,fun _=>h8⟩
  ·rw[List.length_map]at h6;exact⟨_,_,h6,fun h=>by cases h⟩
 refine⟨66,8,List.zipWith cA vs p,x,61,9,gg vs p,.agg [.own 0],fun ρ hρ=>?_,rfl,(qp.base h1 h3).new,fun y hy=>?_,fun q hq=>?_,?_,fun q hq g hg iW=>?_,fun H' ah _=>hK vs H' ah h2.len j1⟩
 ·show Value.agg #[ρ.val 0]=_;rw[hρ]
 ·obtain⟨i,hi⟩:=List.getElem?_of_mem hy;rw[List.getElem?_zipWith_eq_some]at hi;obtain⟨v,b,h4,h5,rfl⟩:=hi;obtain⟨a1,c1,rfl,_⟩:=j1 i v b h4 h5;have h:(cA (.slice a1 b.2.1.length c1) b).all (·.oneCell')=true:=rfl;exact⟨rfl,fun u hu=>List.all_eq_true.1 h u hu⟩
 ·obtain⟨i,b,h4,h5,h6⟩:=Eg hq;rw[h6];exact⟨xO (h2.new i _ b h4 h5) h3.le,Sl _⟩
 ·have e:(gg vs p).map Prod.fst=vs:=List.map_fst_zip (by rw[List.length_map];exact Nat.le_of_eq h2.len);have hd:=h2.WL;rw[←e,List.pairwise_map]at hd;exact hd
 ·obtain⟨i,b,h4,h5,_⟩:=Eg hq;obtain⟨_,o,ho⟩:=(h2.new i _ b h4 h5).fresh iW;have:=(h3.new.fresh hg).1;rw[ho]at this;cases this
end Go.Proofs
end
section
namespace Go.Proofs
open Go.Sy
open Tryz
def gx (p:Prog) (i:Nat):Prog:=(bQ p).take i++p.drop i
theorem Eh {p:Prog} {i:Nat} (h:i≤p.length):(gx p i).length=p.length:=by rw[gx,List.length_append,List.length_take,List.length_drop,dQ];omega
theorem xP {p:Prog} {i:Nat} {b:Block} (h:p[i]?=some b):(gx p i)[i]?=some b:=by
 have aj:=(gh.1 h).1
 have hl:((bQ p).take i).length=i:=by rw[List.length_take,dQ];omega
 rw[gx,List.getElem?_append_right (by omega),hl,Nat.sub_self,List.getElem?_drop,Nat.add_zero];exact h
theorem Nb {p:Prog} {i:Nat} {b:Block} (h:p[i]?=some b):(gx p i).set i (cQ p i b)=gx p (i+1):=by
 have aj:=(gh.1 h).1
 have hl:((bQ p).take i).length=i:=by rw[List.length_take,dQ];omega
 have hd:p.drop i=b::p.drop (i+1):=by
  rw[List.drop_eq_getElem_cons aj];rw[aL aj]at h;simp only[Option.some.injEq]at h;rw[h]
 rw[gx,List.set_append_right _ _ (by omega),hl,Nat.sub_self,hd,List.set_cons_zero,gx,bQ,iv h,List.append_assoc];rfl
def mR (p:Prog) (i:Nat) (b:Block) (k:Nat):List Stmt:=(ke p i b).take k++b.2.1.drop k
theorem Kl (p:Prog) (i:Nat) (b:Block):mR p i b 0=b.2.1:=rfl
theorem Km (p:Prog) (i:Nat) (b:Block):mR p i b b.2.1.length=ke p i b:=by rw[mR,List.drop_length,List.append_nil,List.take_of_length_le (by rw[mQ];exact Nat.le_refl _)]
theorem Nc {p:Prog} {i:Nat} {b:Block} {k:Nat} {s:Stmt} (h:b.2.1[k]?=some s):(mR p i b k).set k (jM p (cz p i b k) s)=mR p i b (k+1):=by
 have aj:=(gh.1 h).1
 have hl:((ke p i b).take k).length=k:=by rw[List.length_take,mQ];omega
 have hd:b.2.1.drop k=s::b.2.1.drop (k+1):=by
  rw[List.drop_eq_getElem_cons aj];rw[aL aj]at h;simp only[Option.some.injEq]at h;rw[h]
 rw[mR,List.set_append_right _ _ (by omega),hl,Nat.sub_self,hd,List.set_cons_zero,mR,ke,iv h,List.append_assoc];rfl
theorem qc {α:Type}:∀(l:List α) (i:Nat) (x:α),l[i]?=some x→l=l.take i++x::l.drop (i+1)∧∀y,l.take i++y::l.drop (i+1)=l.set i y
 | [],i,x,h=>by simp at h
 | a::r,0,x,h=>by
  simp only[List.getElem?_cons_zero,Option.some.injEq]at h;subst h;exact⟨rfl,fun y=>rfl⟩
 | a::r,i+1,x,h=>by
  have ih:=qc r i x (by simpa using h);refine⟨?_,fun y=>?_⟩
  ·rw[List.take_succ_cons,List.drop_succ_cons,List.cons_append,←ih.1]
  ·rw[List.take_succ_cons,List.drop_succ_cons,List.cons_append,ih.2 y];rfl
theorem xQ {α β γ:Type} (f:α→β→γ):∀(vs:List α) (q:List β) (i:Nat) (v:α),vs[i]?=some v→∀y,(List.zipWith f vs q).set i (f v y)=List.zipWith f vs (q.set i y)
 | [],q,i,v,h,y=>by simp at h
 | a::r,[],i,v,h,y=>by simp
 | a::r,b::q,0,v,h,y=>by
  simp only[List.getElem?_cons_zero,Option.some.injEq]at h;subst h
  rfl
 | a::r,b::q,i+1,v,h,y=>by
  have ih:=xQ f r q i v (by simpa using h) y;rw[List.set_cons_succ,List.zipWith_cons_cons,List.zipWith_cons_cons,List.set_cons_succ,ih]
theorem GP {vs:List Value} {q:Prog} {i:Nat} {v:Value} {b:Block} (hv:vs[i]?=some v) (hb:q[i]?=some b):
  gg vs q=(gg vs q).take i++(v,b.2.1.map oz)::(gg vs q).drop (i+1)∧∀b':Block,(gg vs q).take i++(v,b'.2.1.map oz)::(gg vs q).drop (i+1)=gg vs (q.set i b'):=by
 have h1:(gg vs q)[i]?=some (v,b.2.1.map oz):=by
  rw[gg,List.getElem?_zip_eq_some,List.getElem?_map,hb];exact⟨hv,rfl⟩
 have h2:=qc _ _ _ h1;refine⟨h2.1,fun b'=>?_⟩;rw[h2.2,gg,gg,List.map_set];exact xQ Prod.mk vs _ i v hv _
theorem GQ {vs:List Value} {q:Prog} {i:Nat} {v:Value} (hv:vs[i]?=some v) (b':Block):(List.zipWith cA vs q).set i (cA v b')=List.zipWith cA vs (q.set i b'):=xQ cA vs q i v hv b'
theorem nS {vs:List Value} {q:Prog} {i:Nat} {v:Value} {b:Block} (hv:vs[i]?=some v) (hb:q[i]?=some b):(List.zipWith cA vs q)[i]?=some (cA v b):=by
 rw[List.getElem?_zipWith,hv,hb]
theorem Ei {p:Prog} (hp:p.length≤12) (hl:∀b∈p,b.2.1.length≤1000000) (hc:aw p≤1000000) (hv:iE p<400000) {a:Option Addr} {n c:Nat} {H:Hp} {K:SV→St→Hp→Prop} (ha:RL H a n c p)
  (fK:al p≠0→∀H',Le H H'→K (.eo [.agg [.v (.slice none 0 0)],.v (.int .i64 (al p))]) ⟨[],[],0⟩ H')
  (hK:al p=0→∀vs H',Le H H'→vs.length=p.length→(∀(i:Nat) (v:Value) (b:Block),vs[i]?=some v→p[i]?=some b→∃a c,v = .slice a b.2.1.length c∧(a=none→b.2.1=[]))→K (.eo [.agg [.own 2],.v (.int .i64 0)]) ⟨[],[(2,.row 66 8 (List.zipWith cA vs (bQ p))),(3,.kW 61 9 (gg vs (bQ p)))],5⟩ H'):
  aY prog 74 [.agg [.v (.slice a n c)]] [] 0 H K:=by
 refine aJ MC aa func74 call74 ntmps74 results74 rfl rfl ?_;refine z7 hp hl hc hv ha (fun he H1 ak=>?_) (fun he a4 n4 c4 a2 n2 c2 H1 ak fm bj=>?_)
 ·refine⟨fun _=>?_,fun h=>absurd (nf h) he⟩;exact⟨.eo [.agg [.v (.slice none 0 0)],.v (.int .i64 (al p))],[],0,[],by (repeat' first|exact trivial|refine⟨?_,?_⟩|exact rfl|assumption),fK he _ ak⟩
 have hK:=hK he;refine⟨(fun h=>absurd rfl (nt h)),fun _=>?_⟩;refine⟨[],rfl,uT (by omega) hl (ha.up ak) fun vs H2 ah N6 j1=>?_⟩
 have hK:=fun H' h=>hK vs H' h N6 j1
 have hle:=ak.trans ah;have ho:=po he;have hA:=fg ho;have hm:(cF p).m=p.length:=rfl;have hn:=ha.aB;have Vf:=fm.aB;rw[hA.len]at Vf;have ca:=cj he
 have CF:∀q:Prog,q.length=p.length→(List.zipWith cA vs q).length=p.length:=fun q hq=>by rw[List.length_zipWith,N6,hq,Nat.min_self]
 refine⟨Nat,fun i=>⟨[(1,.ptr 0 0),(2,.ptr 1 0),(4,.v (.slice a4 n4 c4)),(7,.ptr 4 0),(28,.own 2),(29,.v (.int .i64 (p.length:Nat))),(30,.v (.int .i64 i))],
   [(0,.cells 24 [.v (.slice a n c)]),(1,.cells 24 [.v (.slice none 0 0)]),(4,.cells 24 [.own 2]),(2,.row 66 8 (List.zipWith cA vs (gx p i))),(3,.kW 61 9 (gg vs (gx p i)))],5⟩,
  fun i H'=>Le H2 H'∧i≤p.length,fun i=>p.length - i,⟨0,[(0,0),(1,1),(2,2),(3,3),(4,4)],?_,Le.refl _,Nat.zero_le _⟩,?_⟩
 ·have e0:SV.v (.int .i64 ((List.zipWith cA vs p).length:Nat))=SV.v (.int .i64 (p.length:Nat)):=by rw[CF p rfl]
  (repeat' first|exact trivial|refine⟨?_,?_⟩|exact rfl|assumption)
 rintro i H3 az ⟨_,hi⟩;have U2:=CF _ (Eh hi);refine⟨fun h=>?_,fun h=>?_⟩
 ·have aj:i<p.length:=by have:=dt h;omega
  refine aD p[i] fun b gV=>?_
  have bG:p[i]?=some b:=by rw[gV];exact aL aj
  have E6:vs[i]?=some (vs[i]'(by omega)):=aL _;obtain⟨av,cv,Sm,Zw⟩:=j1 i _ b E6 bG;rw[Sm]at E6;have hg:(List.zipWith cA vs (gx p i))[(i:Int).toNat]?=some (cA (.slice av b.2.1.length cv) b):=nS E6 (xP bG);refine⟨⟨by omega,by omega⟩,?_⟩;refine⟨_,hg,?_⟩;have Uz:=eS hA (v:=i) (by rw[hm];exact aj);have Sg:=fO hA (v:=i) (by rw[hm];exact aj);have aN:=ah.trans az;have WM:=hle.trans az
  refine dj (fm.up aN) Uz fun iy a6 n6 c6 q2 gj ji=>?_
  refine⟨iy,⟨by omega,by omega,q2⟩,?_⟩;refine⟨_,gj,?_⟩;have AG:=qc _ _ _ (xP bG);have jC:(gx p i).set i b=gx p i:=(AG.2 b).symm.trans AG.1.symm;have fE:=Nb bG;refine GK ji ?_;refine⟨fun h=>?_,fun h=>?_⟩
  ·have UA:Pt p i=true:=h
   have bA:cQ p i b=b:=by rw[cQ,UA];rfl
   rw[bA,jC]at fE;refine⟨⟨by omega,by omega⟩,i+1,[(0,0),(1,1),(2,2),(3,3),(4,4)],?_,⟨az,aj⟩,by dsimp only;omega⟩
   have e1:List.zipWith cA vs (gx p i)=List.zipWith cA vs (gx p (i+1)):=by rw[fE]
   have e2:gg vs (gx p (i+1))=gg vs (gx p i):=by rw[fE]
   have e3:=e1.symm;have e4:=e2.symm
   (repeat' first|exact trivial|refine⟨?_,?_⟩|exact rfl|assumption)
  have LQ:Pt p i=false:=h;have oJ:=hl b (dY bG)
  have Zx:gg vs (gx p i)=gg vs ((gx p i).set i (b.1,mR p i b 0,b.2.2)):=by
   rw[Kl];exact congrArg (gg vs) jC.symm
  refine⟨Nat,fun k=>⟨[(1,.ptr 0 0),(2,.ptr 1 0),(4,.v (.slice a4 n4 c4)),(7,.ptr 4 0),(8,.v (.int .i64 i)),(9,.ptr 5 0),(28,.own 2),(29,.v (.int .i64 (p.length:Nat))),(30,.v (.int .i64 i)),(41,.v (.slice av b.2.1.length cv)),(42,.v (.int .i64 (b.2.1.length:Nat))),(43,.v (.int .i64 k))],
    [(0,.cells 24 [.v (.slice a n c)]),(1,.cells 24 [.v (.slice none 0 0)]),(4,.cells 24 [.own 2]),(2,.row 66 8 (List.zipWith cA vs (gx p i))),(3,.kW 61 9 (gg vs ((gx p i).set i (b.1,mR p i b k,b.2.2)))),(5,.cells 66 (vL (cA (.slice av b.2.1.length cv) b)))],6⟩,
   fun k H'=>Le H3 H'∧k≤b.2.1.length,fun k=>b.2.1.length - k,⟨0,[(0,0),(1,1),(2,2),(3,3),(4,4),(5,5)],?_,Le.refl _,Nat.zero_le _⟩,?_⟩
  ·have JT:=Zx.symm
   (repeat' first|exact trivial|refine⟨?_,?_⟩|exact rfl|assumption)
  rintro k H4 aK ⟨_,hk⟩;have Pv:=WM.trans aK;refine⟨fun h=>?_,fun h=>?_⟩
  ·have e8:k<b.2.1.length:=by have:=dt h;omega
   refine aD b.2.1[k] fun s Be=>?_
   have dy:b.2.1[k]?=some s:=by rw[Be];exact aL e8
   refine IB (i:=(i:Nat)) (j:=(k:Nat)) hp hl hc hv (ha.up Pv) (fun y9=>absurd he y9) (fun _ gZ=>absurd ⟨by omega,by omega,b,by rw[Int.toNat_natCast];exact bG,by omega,by omega⟩ gZ) (fun _ b' gr _ _ _ _ a8 n8 c8 H5 aI lj=>?_);rw[Int.toNat_natCast,bG]at gr;cases gr;rw[Int.toNat_natCast,Int.toNat_natCast]at lj;have lj:RL H5 a8 n8 c8 (cz p i b k):=lj;have Pw:=Pv.trans aI
   refine bF (ha.up Pw) bG fun ad a5 n5 c5 q1 hh ct xw vR=>?_
   have xl:=ct.aB
   refine du ct dy fun sy q3 ql vM=>?_
   refine⟨some ([3],[0,1,2,3,4,5,6,7,8,9,10,11,12,13,14,15,16]),by kernel_rfl,?_⟩;refine⟨ad,⟨by omega,by omega,q1⟩,?_⟩;refine⟨_,hh,?_⟩;refine⟨sy,⟨by omega,by omega,q3⟩,?_⟩;refine⟨_,ql,?_⟩
   refine GL vM (ha.up Pw) lj hv fun _ _=>?_
   cases av with
   | none=>exact absurd (Zw rfl) (fun h=>by rw[h]at e8;cases e8)
   | some S6 =>
    refine⟨S6,⟨by omega,by omega,rfl⟩,?_⟩;have Zy:((gx p i).set i (b.1,mR p i b k,b.2.2))[i]?=some (b.1,mR p i b k,b.2.2):=List.getElem?_set_self (by rw[Eh hi];exact aj);have UB:=GP (b:=(b.1,mR p i b k,b.2.2)) E6 Zy
    have WN:(mR p i b k)[k]?=some s:=by
     have uM:((ke p i b).take k).length=k:=by rw[List.length_take,mQ];omega
     rw[mR,List.getElem?_append_right (by omega),uM,Nat.sub_self,List.getElem?_drop,Nat.add_zero];exact dy
    refine⟨3,61,_,_,_,_,_,_,oz s,rfl,UB.1,by dsimp only;rw[Int.toNat_natCast,List.getElem?_map,WN];rfl,by decide,?_⟩
    have e5:(gg vs ((gx p i).set i (b.1,mR p i b k,b.2.2))).take i++((.slice (some S6) b.2.1.length cv,((mR p i b k).map oz).set k (oz (jM p (cz p i b k) s))):Value×List (List Value))::(gg vs ((gx p i).set i (b.1,mR p i b k,b.2.2))).drop (i+1)=gg vs ((gx p i).set i (b.1,mR p i b (k+1),b.2.2)):=by
     have e7:=UB.2 (b.1,mR p i b (k+1),b.2.2);rw[List.set_set]at e7;rw[←e7,←List.map_set,Nc dy]
    have e6:=e5.symm;refine⟨⟨by omega,by omega⟩,k+1,[(0,0),(1,1),(2,2),(3,3),(4,4),(5,5)],?_,⟨aK.trans aI,e8⟩,by dsimp only;omega⟩
    (repeat' first|exact trivial|refine⟨?_,?_⟩|exact rfl|assumption)
  have Ou:k=b.2.1.length:=by have:=df h;omega
  have bA:cQ p i b=(b.1,ke p i b,iu p i b):=by rw[cQ,LQ];rfl
  rw[bA]at fE
  have hF:gg vs ((gx p i).set i (b.1,mR p i b k,b.2.2))=gg vs (gx p (i+1)):=by
   rw[←fE,Ou,Km,gg,gg,List.map_set,List.map_set]
  have hF2:=hF.symm;refine IB (i:=(i:Nat)) (j:=(b.2.1.length:Nat)) hp hl hc hv (ha.up Pv) (fun y9=>absurd he y9) (fun _ gZ=>absurd ⟨by omega,by omega,b,by rw[Int.toNat_natCast];exact bG,by omega,by omega⟩ gZ) (fun _ b' gr _ _ _ _ a8 n8 c8 H5 aI lj=>?_);rw[Int.toNat_natCast,bG]at gr;cases gr;rw[Int.toNat_natCast,Int.toNat_natCast]at lj;have lj:RL H5 a8 n8 c8 (cz p i b b.2.1.length):=lj;have Pw:=Pv.trans aI
  have hZ:(List.zipWith cA vs (gx p i)).set i (cA (.slice av b.2.1.length cv) (b.1,ke p i b,iu p i b))=List.zipWith cA vs (gx p (i+1)):=by
   rw[←fE];exact GQ E6 _
  refine⟨fun h2=>?_,fun h2=>?_⟩
  ·have h2:b.2.2.1=2:=dt h2;have Sk:iu p i b=(b.2.2.1,bB p (cz p i b b.2.1.length) b.2.2.2.1,b.2.2.2.2):=if_pos h2;rw[Sk]at hZ;have Zz:=hZ.symm;refine⟨some ([2],[0,1,2,3,4,5,6,7,8,9,10,11,12]),by kernel_rfl,?_⟩
   refine rh (ha.up Pw) lj hv fun _ _=>?_
   refine⟨⟨by omega,by omega⟩,?_⟩;refine⟨_,hg,?_⟩;refine⟨⟨by omega,by omega⟩,i+1,[(0,0),(1,1),(2,2),(3,3),(4,4)],?_,⟨(az.trans aK).trans aI,aj⟩,by dsimp only;omega⟩
   (repeat' first|exact trivial|refine⟨?_,?_⟩|exact rfl|assumption)
  ·have h2:¬b.2.2.1=2:=df h2;have Sk:iu p i b=b.2.2:=if_neg h2;rw[Sk]at hZ;have cN:=qc _ _ _ (nS E6 (xP bG));have ZA:List.zipWith cA vs (gx p i)=List.zipWith cA vs (gx p (i+1)):=cN.1.trans ((cN.2 _).trans hZ);have hZ4:=ZA.symm;refine⟨⟨by omega,by omega⟩,i+1,[(0,0),(1,1),(2,2),(3,3),(4,4)],?_,⟨(az.trans aK).trans aI,aj⟩,by dsimp only;omega⟩
   (repeat' first|exact trivial|refine⟨?_,?_⟩|exact rfl|assumption)
 ·have aX:i=p.length:=by have:=df h;omega
  have e:gx p p.length=bQ p:=by rw[gx,List.drop_length,List.append_nil,List.take_of_length_le (by rw[dQ];exact Nat.le_refl _)]
  rw[aX,e];exact⟨.eo [.agg [.own 2],.v (.int .i64 0)],[(2,.row 66 8 (List.zipWith cA vs (bQ p))),(3,.kW 61 9 (gg vs (bQ p)))],5,[(2,2),(3,3)],by (repeat' first|exact trivial|refine⟨?_,?_⟩|exact rfl|assumption),hK _ (hle.trans az)⟩
end Go.Proofs
end
section
namespace Go.Proofs
open Go.Sy
theorem GR {p:Prog} {a:Option Addr} {n c:Nat} {H:Hp} (ha:RL H a n c p) {i:Nat} {b:Block} (hb:p[i]?=some b):sR b.1∧gi b.2.2∧∀s∈b.2.1,fl s :=
 bF ha hb fun _ _ _ _ _ _ hr hs ht=>⟨hs,ht,fun s N2=>by
  obtain⟨j,hj⟩:=List.getElem?_of_mem N2
  exact du hr hj fun _ _ _ h=>h⟩
theorem Px {p:Prog} {i:Nat} {b:Block} (h:sR b.1∧gi b.2.2∧∀s∈b.2.1,fl s):sR (cQ p i b).1∧gi (cQ p i b).2.2∧∀s∈(cQ p i b).2.1,fl s:=by
 unfold cQ;split
 ·exact h
 ·refine⟨h.1,Bz h.2.1,fun s hs=>?_⟩;obtain⟨k,hk,rfl⟩:=List.mem_mapIdx.1 hs;exact Ps (h.2.2 _ (List.getElem_mem _))
theorem GS {p:Prog} (hp:p.length≤12) (hl:∀b∈p,b.2.1.length≤1000000) (hc:aw p≤1000000) (hv:iE p<400000) {a:Option Addr} {n c:Nat} {H:Hp} {K:Value→Hp→Prop} (ha:RL H a n c p)
  (fK:al p≠0→∀H',Le H H'→K (.tuple #[.agg #[.slice none 0 0],.int .i64 (al p)]) H')
  (hK:al p=0→∀a1 n1 c1 H',Le H H'→RL H' a1 n1 c1 (bQ p)→K (.tuple #[.agg #[.slice a1 n1 c1],.int .i64 0]) H'):aq Tryz.prog 74 [.agg #[.slice a n c]] H K:=by
 refine zk (svs:=[.agg [.v (.slice a n c)]]) (fun _=>rfl) rfl (Ei hp hl hc hv ha (K:=fun x t H1=>(al p≠0∧Le H H1∧x = .eo [.agg [.v (.slice none 0 0)],.v (.int .i64 (al p))])∨(al p=0∧Le H H1∧∃vs,vs.length=p.length∧x = .eo [.agg [.own 2],.v (.int .i64 0)]∧t=⟨[],[(2,.row 66 8 (List.zipWith cA vs (bQ p))),(3,.kW 61 9 (gg vs (bQ p)))],5⟩))
  (fun he H1 h1=>.inl ⟨he,h1,rfl⟩) (fun he vs H1 h1 h2 _=>.inr ⟨he,h1,vs,h2,rfl,rfl⟩)) ?_
 rintro x t H1 (⟨he,h1,rfl⟩ | ⟨he,h1,vs,h2,rfl,rfl⟩) hle
 ·exact .inl ⟨_,fun _=>rfl,fK he _ h1⟩
 ·refine .inr ⟨2,3,66,8,_,61,9,_,fun v=>.tuple #[.agg #[v],.int .i64 0],fun _=>rfl,rfl,rfl,by decide,fun v H' ah hr hf=>?_⟩
  have bf:RC (α:=Block) H' (List.zipWith cA vs (bQ p)) (bQ p):=by
   refine⟨by rw[List.length_zipWith,h2,dQ,Nat.min_self],fun i cs b h3 h4=>?_⟩;rw[List.getElem?_zipWith_eq_some]at h3;obtain⟨u,b',h5,h6,rfl⟩:=h3;rw[h4]at h6;cases h6
   have Rm:∃b0,p[i]?=some b0∧b=cQ p i b0:=by
    rw[bQ,List.getElem?_mapIdx]at h4
    cases hb:p[i]? with
    | none=>rw[hb]at h4;cases h4
    | some b0 =>
     rw[hb]at h4;simp only[Option.map_some,Option.some.injEq]at h4;exact⟨b0,rfl,h4.symm⟩
   obtain⟨b0,LC,gV⟩:=Rm;have hR:=Px (p:=p) (i:=i) (GR ha LC);rw[←gV]at hR
   have hm:(u,b.2.1.map oz)∈gg vs (bQ p):=by
    apply dY (i:=i)
    rw[gg,List.getElem?_zip_eq_some,List.getElem?_map,h4];exact⟨h5,rfl⟩
   exact IE (hf _ hm) hR.2.2 hR.1 hR.2.1
  refine bZ (α:=Block) hr bf fun a1 n1 c1 e bh=>?_
  subst e;exact hK he _ _ _ _ (h1.trans ah) bh
end Go.Proofs
end
section
namespace Go.Proofs
open Go.Sy
end Go.Proofs
end
section
namespace Go.Proofs
open Go.Sy
abbrev IF:=Int×List Nm×Int×List Nm
def Py (p:Prog) (e:List Nm) (a:ks):Nm:=if a.1.l=[] then mu a.2 else if 0≤dH p a.1.l then e[(dH p a.1.l).toNat]?.getD (0,0) else (0,0)
def WO (yE:List Nm) (i:Int):Nm:=if i<0 then (0,0) else yE[i.toNat]?.getD (0,0)
def Sn (i:Int):Int:=min i 2147483646+1
def setAt (p:Prog) (e:List Nm) (t:aQ) (n:Nm):List Nm:=e.set (dH p t).toNat n
def ZB (p:Prog) (yE:List Nm) (s:IF) (x:Stmt):IF :=
 if x.1=1 then (s.1,setAt p s.2.1 x.2.1.l (qk x.2.2.1 (Py p s.2.1 x.2.2.2.1) (Py p s.2.1 x.2.2.2.2)),s.2.2)
 else if x.1=2 then (s.1,setAt p s.2.1 x.2.1.l (mu (WO yE s.2.2.1)),Sn s.2.2.1,s.2.2.2)
 else if x.1=3 then (s.1,s.2.1,s.2.2.1,s.2.2.2++[Py p s.2.1 x.2.2.2.1])
 else s
def UC (p:Prog) (yE:List Nm) (s:IF) (l:List Stmt):IF:=l.foldl (ZB p yE) s
def Sp (p:Prog) (i:Int):Block:=p[i.toNat]?.getD (⟨[]⟩,[],(0,(⟨[]⟩,0,0),⟨[]⟩,⟨[]⟩))
def Pz (p:Prog) (yE:List Nm) (s:IF):IF:=UC p yE s (Sp p s.1).2.1
def jr (p:Prog) (t:aQ):Int:=max (bw t (lE p) 0) 0
def WQ (p:Prog) (s:IF) (t:Term):aQ:=if t.1=2∧Py p s.2.1 t.2.1=(0,0) then t.2.2.2.l else t.2.2.1.l
def PA (p:Prog) (s:IF):IF×Bool:=if (Sp p s.1).2.2.1=3 then (s,false) else ((jr p (WQ p s (Sp p s.1).2.2),s.2),true)
def Nd (p:Prog):IF:=(0,List.replicate (varsOf p).length (0,0),0,[])
theorem Kn {i:Nat} {s:aQ} {l:List aQ} (_h:i≤l.length):s∈lD i s l∧∀t∈l,t∈lD i s l:=by
 rw[lD];refine⟨by simp,fun t ht=>?_⟩;rw[←List.take_append_drop i l]at ht
 rcases List.mem_append.1 ht with ht | ht
 ·simp [ht]
 ·simp [ht]
theorem Nf {l:List aQ} (hl:bq l) (s:aQ):(s≠[]→s∈iC s l)∧∀t∈l,t∈iC s l:=by
 by_cases h0:s=[]
 ·rw[h0,mz];exact⟨fun h=>absurd rfl h,fun t h=>h⟩
 ·obtain⟨i,hi,h1,h2⟩:=lower hl s
  have e:=vO h0 hi h1 (fun x hx=>h2 x (by
   have aj:=(gh.1 hx).1;rw[List.drop_eq_getElem_cons aj,(gh.1 hx).2]
   exact List.mem_cons_self))
  rw[e];split
  ·rename_i hx;exact⟨fun _=>dY hx,fun t h=>h⟩
  ·have:=Kn (s:=s) hi;exact⟨fun _=>this.1,this.2⟩
theorem nT:∀(vs:List aQ) {o:List aQ},bq o→(∀s∈vs,s≠[]→s∈cY vs o)∧∀t∈o,t∈cY vs o
 | [],_,_=>⟨fun s h=>(by cases h),fun t h=>h⟩
 | v::r,o,ho=>by
  have h1:=Nf ho v;have h2:=nT r (uy ho v);refine⟨fun s hs h0=>?_,fun t ht=>h2.2 t (h1.2 t ht)⟩
  rcases List.mem_cons.1 hs with rfl | hs
  ·exact h2.2 _ (h1.1 h0)
  ·exact h2.1 s hs h0
theorem Aa:∀(l:List Stmt) {o:List aQ},bq o→(∀x∈l,∀s∈ie x,s≠[]→s∈fH o l)∧∀t∈o,t∈fH o l
 | [],_,_=>⟨fun s h=>(by cases h),fun t h=>h⟩
 | x::r,o,ho=>by
  have h1:=nT (ie x) ho;have h2:=Aa r (eb (ie x) ho);refine⟨fun y hy s hs h0=>?_,fun t ht=>h2.2 t (h1.2 t ht)⟩
  rcases List.mem_cons.1 hy with rfl | hy
  ·exact h2.2 _ (h1.1 s hs h0)
  ·exact h2.1 y hy s hs h0
theorem xR {o:List aQ} (ho:bq o) (b:Block):bq (dW o b):=eb _ (fY _ ho)
theorem Ej {o:List aQ} (ho:bq o) (b:Block):(∀x∈b.2.1,∀s∈ie x,s≠[]→s∈dW o b)∧(b.2.2.2.1.1.l≠[]→b.2.2.2.1.1.l∈dW o b)∧∀t∈o,t∈dW o b:=by
 have h1:=Aa b.2.1 ho;have h2:=nT [b.2.2.2.1.1.l] (fY b.2.1 ho);exact⟨fun x hx s hs h0=>h2.2 s (h1.1 x hx s hs h0),fun h0=>h2.1 _ (List.mem_singleton.2 rfl) h0,fun t ht=>h2.2 t (h1.2 t ht)⟩
theorem pw:∀(p:Prog) {o:List aQ},bq o→(∀b∈p,(∀x∈b.2.1,∀s∈ie x,s≠[]→s∈p.foldl dW o)∧(b.2.2.2.1.1.l≠[]→b.2.2.2.1.1.l∈p.foldl dW o))∧∀t∈o,t∈p.foldl dW o
 | [],_,_=>⟨fun s h=>(by cases h),fun t h=>h⟩
 | b::r,o,ho=>by
  have h1:=Ej ho b;have h2:=pw r (xR ho b);refine⟨fun b' hb=>?_,fun t ht=>h2.2 t (h1.2.2 t ht)⟩
  rcases List.mem_cons.1 hb with rfl | hb
  ·exact⟨fun x hx s hs h0=>h2.2 _ (h1.1 x hx s hs h0),fun h0=>h2.2 _ (h1.2.1 h0)⟩
  ·exact h2.1 b' hb
theorem fQ:bq []:=by simp [bq]
theorem sD (t:aQ):∀(l:List aQ) (i:Int),0≤i→t∈l→i≤bw t l i∧bw t l i<i+l.length∧l[(bw t l i - i).toNat]?=some t
 | [],_,_,h=>by cases h
 | x::r,i,h0,h=>by
  rw[bw];split
  ·rename_i e;refine⟨Int.le_refl _,by simp only[List.length_cons];omega,?_⟩;rw[show (i - i).toNat=0 by omega,List.getElem?_cons_zero,e]
  ·rename_i e
   rcases List.mem_cons.1 h with h | h
   ·exact absurd h.symm e
   ·have:=sD t r (i+1) (by omega) h;simp only[List.length_cons];refine⟨by omega,by omega,?_⟩;rw[show (bw t r (i+1) - i).toNat=(bw t r (i+1) - (i+1)).toNat+1 by omega,List.getElem?_cons_succ];exact this.2.2
theorem mS {t:aQ}:∀ {l:List aQ} {i:Int},0≤i→0≤bw t l i→t∈l
 | [],i,_,h=>by rw[bw]at h;omega
 | x::r,i,h0,h=>by
  rw[bw]at h;split at h
  ·rename_i e
   rw[e];exact List.mem_cons_self
  ·exact List.mem_cons_of_mem _ (mS (by omega) h)
theorem sE {p:Prog} {t:aQ} (h:t∈varsOf p):0≤dH p t∧dH p t<((varsOf p).length:Nat):=by
 have:=sD t (varsOf p) 0 (by omega) h;unfold dH;omega
end Go.Proofs
end
section
namespace Go.Proofs
open Go.Sy
theorem IG (op:Int) (a b:Nm):mu (qk op a b)=qk op a b:=by
 have h:∀x:Nm,mu (mu x)=mu x:=fun x=>by simp only[mu,vK]
 unfold qk
 repeat' split
 all_goals first | exact h _ | rfl
theorem sF (p:Prog):dH p []<0:=by
 rcases eV p [] with h | h
 ·omega
 ·exfalso;have hm:[]∈varsOf p:=mS (i:=0) (by omega) h.1;have hs:=fI p fQ
  have:∀(p:Prog) {o:List aQ},[] ∉ o→[] ∉ p.foldl dW o:=by
   have h1:∀(vs:List aQ) {o:List aQ},[] ∉ o→[] ∉ cY vs o:=by
    intro vs
    induction vs with
    | nil=>exact fun h=>h
    | cons v r ih =>
     intro o h;refine ih (o:=iC v o) ?_
     by_cases hv:v=[]
     ·rw[hv,mz];exact h
     ·intro hm
      rcases r8 hm with hm | hm
      ·exact h hm
      ·exact hv hm.symm
   have h2:∀(l:List Stmt) {o:List aQ},[] ∉ o→[] ∉ fH o l:=by
    intro l
    induction l with
    | nil=>exact fun h=>h
    | cons v r ih=>exact fun h=>ih (h1 _ h)
   intro p
   induction p with
   | nil=>exact fun h=>h
   | cons b r ih=>exact fun h=>ih (h1 _ (h2 _ h))
  exact this p (by simp) hm
theorem Ko {s:Stmt} (h:dc s=true):(s.1=1∧0≤s.2.2.1∧s.2.2.1≤4∧s.2.1.l≠[])∨(s.1=2∧s.2.1.l≠[])∨(s.1=3∧s.2.1.l=[]):=by
 have hn:∀t:aQ,oA t=true→t≠[]:=fun t ht e=>by rw[e]at ht;exact absurd ht (by decide)
 unfold dc at h;split at h
 ·rename_i h1;rw[Bool.and_eq_true]at h;have:=Eb h.2;exact .inl ⟨h1,this.1,this.2,hn _ h.1⟩
 ·split at h
  ·rename_i h1;rw[Bool.and_eq_true]at h;exact .inr (.inl ⟨h1,hn _ h.1⟩)
  ·split at h
   ·rename_i h1;rw[Bool.and_eq_true,Bool.and_eq_true]at h;exact .inr (.inr ⟨h1,dt h.1.1⟩)
   ·cases h
theorem Ek {p:Prog}:∀(l:List Block) (i:Nat) {j:Nat} {b:Block} {e:cV},l[j]?=some b→e∈eB p (i+j) b→e∈cO p l i
 | [],_,_,_,_,h,_=>by simp at h
 | x::r,i,0,b,e,h,he=>by
  simp only[List.getElem?_cons_zero,Option.some.injEq]at h;subst h;rw[cO];exact List.mem_append_left _ he
 | x::r,i,j+1,b,e,h,he=>by
  rw[List.getElem?_cons_succ]at h;rw[cO];exact List.mem_append_right _ (Ek r (i+1) h (by rw[show i+1+j=i+(j+1) by omega];exact he))
theorem nU {p:Prog} (h:al p=0) {b:Block} (hb:b∈p) {t:aQ} (ht:t∈goes b.2.2):t∈aF p:=by
 unfold al at h;split at h
 ·cases h
 ·split at h
  ·split at h
   ·cases h
   ·split at h
    ·split at h
     ·rename_i h5;exact dt (List.all_eq_true.1 (List.all_eq_true.1 h5 b hb) t ht)
     ·cases h
    ·cases h
  ·cases h
end Go.Proofs
end
section
namespace Go.Proofs
open Go.Sy
def rest (p q:Prog) (k:Wd):Wd:=(varsOf q).map fun t=>k[(dH p t).toNat]?.getD 0
end Go.Proofs
end
section
namespace Go.Proofs
open Go.Sy
theorem PB {op:Int} (h:op=0∨op=4):oy op=1:=if_pos h
theorem PC {op:Int} (h:op=1∨op=2∨op=3):oy op=2:=by rw[oy,if_neg (by omega),if_pos h]
abbrev PD (n:Nm):ks:=(⟨[]⟩,n)
theorem uU {p:Prog} {kn:Wd} {x:Expr} (h:fo x=true):
  ((x.1=0∨x.1=4)∧x.2.2=za∧(((bB p kn x.2.1).1.l=[]∧cG p kn x=(0,PD (qk x.1 (bB p kn x.2.1).2 (0,0)),za))∨((bB p kn x.2.1).1.l≠[]∧cG p kn x=(x.1,bB p kn x.2.1,za)))) ∨
  ((x.1=1∨x.1=2∨x.1=3)∧(((bB p kn x.2.1).1.l=[]∧(bB p kn x.2.2).1.l=[]∧cG p kn x=(0,PD (qk x.1 (bB p kn x.2.1).2 (bB p kn x.2.2).2),za)) ∨
   (¬((bB p kn x.2.1).1.l=[]∧(bB p kn x.2.2).1.l=[])∧cG p kn x=(x.1,bB p kn x.2.1,bB p kn x.2.2)))):=by
 unfold fo at h;split at h
 ·rename_i h1
  have h1:x.1=0∨x.1=4:=by simpa [vn] using h1
  rw[Bool.and_eq_true]at h;have hb:x.2.2=za:=dt h.2;have hn:=PB h1;refine .inl ⟨h1,hb,?_⟩
  by_cases hy:(bB p kn x.2.1).1.l=[]
  ·refine .inl ⟨hy,?_⟩;simp only[cG,hn]
   rw[if_pos (show 0<1 by omega),if_neg (show ¬1<1 by omega),if_pos ⟨by omega,hy,by simp⟩,hb];rfl
  ·refine .inr ⟨hy,?_⟩;simp only[cG,hn];rw[if_pos (show 0<1 by omega),if_neg (show ¬1<1 by omega),if_neg (fun hh=>hy hh.2.1),hb]
 ·split at h
  ·rename_i h1
   have h1:x.1=1∨x.1=2∨x.1=3:=by simpa [yy,or_assoc] using h1
   have hn:=PC h1;refine .inr ⟨h1,?_⟩
   by_cases hy:(bB p kn x.2.1).1.l=[]∧(bB p kn x.2.2).1.l=[]
   ·refine .inl ⟨hy.1,hy.2,?_⟩;simp only[cG,hn]
    rw[if_pos (show 0<2 by omega),if_pos (show 1<2 by omega),if_pos ⟨by omega,hy.1,.inr hy.2⟩];rfl
   ·refine .inr ⟨hy,?_⟩;simp only[cG,hn];rw[if_pos (show 0<2 by omega),if_pos (show 1<2 by omega),if_neg (fun hh=>hy ⟨hh.2.1,by rcases hh.2.2 with e | e;exact absurd e (by omega);exact e⟩)]
  ·cases h
theorem GU {x:Stmt} (h:dc x=true) (h1:x.1=1∨x.1=3):fo x.2.2=true:=by
 unfold dc at h;split at h
 ·rw[Bool.and_eq_true]at h;exact h.2
 ·rw[if_neg (by omega)]at h;split at h
  ·rw[Bool.and_eq_true]at h;exact h.2
  ·cases h
end Go.Proofs
end
section
namespace Go.Proofs
open Go.Sy
theorem Sq {w:Nat} {n:Nm} (h:kj w=some n):mu n=n:=by
 unfold kj at h;split at h
 ·rw[←Option.some.inj h];simp only[mu,vK]
 ·cases h
theorem Em (p:Prog) (kn:Wd) (a:ks):bB p kn a=a∨∃n,bB p kn a=PD n∧mu n=n:=by
 simp only[bB];split
 ·cases h:kj (kn[(bw a.1.l (varsOf p) 0).toNat]?.getD 0).toNat with
  | none=>exact .inl rfl
  | some n=>exact .inr ⟨n,rfl,Sq h⟩
 ·exact .inl rfl
theorem Sr {n:Nm} (h:mu n=n):RE n=true:=decide_eq_true h.symm
theorem tR {n:Nm} (h:mu n=n):fh (PD n)=true:=by rw[fh,if_pos rfl];exact Sr h
theorem qd {p:Prog} {kn:Wd} {a:ks} (h:fh a=true):fh (bB p kn a)=true:=by
 rcases Em p kn a with e | ⟨n,e,hn⟩
 ·rw[e];exact h
 ·rw[e];exact tR hn
theorem tS {op:Int} {a:ks} (h:op=0∨op=4) (ha:fh a=true):fo (op,a,za)=true:=by
 rw[fo,if_pos (by simpa [vn] using h)];dsimp only
 rw[ha];simp
theorem Kp {op:Int} {a b:ks} (h:op=1∨op=2∨op=3) (ha:fh a=true) (hb:fh b=true):fo (op,a,b)=true:=by
 rw[fo,if_neg (by simp [vn];omega),if_pos (by simpa [yy,or_assoc] using h)];dsimp only
 rw[ha,hb];rfl
theorem GV {x:Expr} (h:fo x=true):fh x.2.1=true∧((x.1=1∨x.1=2∨x.1=3)→fh x.2.2=true):=by
 unfold fo at h;split at h
 ·rename_i h1;rw[Bool.and_eq_true]at h
  have h1:x.1=0∨x.1=4:=by simpa [vn] using h1
  exact⟨h.1,fun h2=>by omega⟩
 ·split at h
  ·rw[Bool.and_eq_true]at h;exact⟨h.1,fun _=>h.2⟩
  ·cases h
theorem xS {p:Prog} {kn:Wd} {x:Expr} (h:fo x=true):fo (cG p kn x)=true:=by
 have h2:=GV h
 rcases uU (p:=p) (kn:=kn) h with ⟨ho,hb,h3⟩ | ⟨ho,h3⟩
 ·rcases h3 with ⟨_,e⟩ | ⟨_,e⟩
  ·rw[e];exact tS (.inl rfl) (tR (IG _ _ _))
  ·rw[e];exact tS ho (qd h2.1)
 ·rcases h3 with ⟨_,_,e⟩ | ⟨_,e⟩
  ·rw[e];exact tS (.inl rfl) (tR (IG _ _ _))
  ·rw[e];exact Kp ho (qd h2.1) (qd (h2.2 ho))
theorem Kq {p:Prog} {kn:Wd} {x:Expr} (h:fo x=true) (h0:x.1=0):(cG p kn x).1=0:=by
 rcases uU (p:=p) (kn:=kn) h with ⟨ho,hb,h3⟩ | ⟨ho,h3⟩
 ·rcases h3 with ⟨_,e⟩ | ⟨_,e⟩
  ·rw[e]
  ·rw[e];exact h0
 ·omega
theorem GW {p:Prog} {kn:Wd} {x:Stmt} (h:dc x=true):dc (jM p kn x)=true:=by
 by_cases h1:x.1=1∨x.1=3
 ·have hE:=GU h h1;rw[jM,if_pos h1]
  rcases h1 with h1 | h1
  ·rw[dc,if_pos h1]at h ⊢;rw[Bool.and_eq_true]at h ⊢;exact⟨h.1,xS hE⟩
  ·rw[dc,if_neg (by omega),if_neg (by omega),if_pos h1]at h;rw[dc,if_neg (by dsimp only;omega),if_neg (by dsimp only;omega),if_pos h1];rw[Bool.and_eq_true,Bool.and_eq_true]at h ⊢;exact⟨⟨h.1.1,decide_eq_true (Kq hE (dt h.1.2))⟩,xS hE⟩
 ·rw[jM,if_neg h1];exact h
theorem uV (p:Prog) (i:Nat) (b:Block):(iu p i b).1=b.2.2.1∧(iu p i b).2.2=b.2.2.2.2:=by
 unfold iu
 split<;>exact⟨rfl,rfl⟩
theorem GX {p:Prog} {i:Nat} {b:Block} (h:fJ b.2.2=true):fJ (iu p i b)=true:=by
 unfold iu;split
 ·rename_i h2;rw[fJ,if_neg (by omega),if_pos h2]at h;rw[fJ,if_neg (by dsimp only;omega),if_pos h2];rw[Bool.and_eq_true,Bool.and_eq_true]at h ⊢;exact⟨h.1,qd h.2⟩
 ·exact h
theorem px (p:Prog) (i:Nat) (b:Block):(cQ p i b).1=b.1∧(cQ p i b).2.2.1=b.2.2.1∧(cQ p i b).2.2.2.2=b.2.2.2.2:=by
 unfold cQ;split
 ·exact⟨rfl,rfl,rfl⟩
 ·exact⟨rfl,(uV p i b).1,(uV p i b).2⟩
theorem tU {p:Prog} {i:Nat} {b:Block} (h:p[i]?=some b):(bQ p)[i]?=some (cQ p i b):=by rw[bQ,List.getElem?_mapIdx,h];rfl
theorem tV {p:Prog} {b':Block} (h:b'∈bQ p):∃i b,p[i]?=some b∧b'=cQ p i b:=by
 obtain⟨i,hi⟩:=List.getElem?_of_mem h;have aj:=(gh.1 hi).1;rw[dQ]at aj;have hb:=aL aj;rw[tU hb]at hi;exact⟨i,p[i],hb,(Option.some.inj hi).symm⟩
theorem Kr {p:Prog} {i:Nat} {b:Block} {x':Stmt} (h:x'∈ke p i b):∃k x,b.2.1[k]?=some x∧x'=jM p (cz p i b k) x:=by
 obtain⟨k,hk⟩:=List.getElem?_of_mem h;have aj:=(gh.1 hk).1;rw[mQ]at aj;have hb:=aL aj;rw[ke,List.getElem?_mapIdx,hb]at hk;exact⟨k,b.2.1[k],hb,(Option.some.inj hk).symm⟩
theorem xU {p:Prog} {i:Nat} {b:Block} {x':Stmt} (h:x'∈(cQ p i b).2.1):∃x∈b.2.1,x'=x∨∃kn,x'=jM p kn x:=by
 unfold cQ at h;split at h
 ·exact⟨x',h,.inl rfl⟩
 ·obtain⟨k,x,hx,e⟩:=Kr h;exact⟨x,dY hx,.inr ⟨_,e⟩⟩
theorem py (p:Prog) (kn:Wd) (a:ks):(bB p kn a).1.l=a.1.l∨(bB p kn a).1.l=[]:=by
 rcases Em p kn a with e | ⟨n,e,_⟩
 ·exact .inl (by rw[e])
 ·exact .inr (by rw[e])
theorem uW (p:Prog) (kn:Wd) (x:Expr):∀a∈[(cG p kn x).2.1,(cG p kn x).2.2],a.1.l≠[]→a.1.l=x.2.1.1.l∨a.1.l=x.2.2.1.l:=by
 intro a ha h0
 obtain⟨y1,Gz⟩:∃y1,y1=if 0<oy x.1 then bB p kn x.2.1 else x.2.1:=⟨_,rfl⟩
 obtain⟨y2,S8⟩:∃y2,y2=if 1<oy x.1 then bB p kn x.2.2 else x.2.2:=⟨_,rfl⟩
 have e:cG p kn x=if 0<oy x.1∧y1.1.l=[]∧(oy x.1=1∨y2.1.l=[]) then (0,(⟨[]⟩,qk x.1 y1.2 y2.2),(⟨[]⟩,(0,0))) else (x.1,y1,y2):=by rw[Gz,S8];rfl
 have n1:y1.1.l=x.2.1.1.l∨y1.1.l=[]:=by
  rw[Gz];split
  ·exact py _ _ _
  ·exact .inl rfl
 have n2:y2.1.l=x.2.2.1.l∨y2.1.l=[]:=by
  rw[S8];split
  ·exact py _ _ _
  ·exact .inl rfl
 rw[e]at ha;split at ha
 ·simp only[List.mem_cons,List.not_mem_nil,or_false]at ha
  rcases ha with rfl | rfl<;>exact absurd rfl h0
 ·simp only[List.mem_cons,List.not_mem_nil,or_false]at ha
  rcases ha with rfl | rfl
  ·rcases n1 with n1 | n1
   ·exact .inl n1
   ·exact absurd n1 h0
  ·rcases n2 with n2 | n2
   ·exact .inr n2
   ·exact absurd n2 h0
theorem Eo {p:Prog} {kn:Wd} {x:Stmt}:∀t∈ie (jM p kn x),t≠[]→t∈ie x:=by
 intro t ht h0;unfold jM at ht;split at ht
 ·simp only[List.mem_cons,List.not_mem_nil,or_false]at ht ⊢
  rcases ht with rfl | rfl | rfl
  ·exact .inl rfl
  ·exact .inr (uW p kn x.2.2 (cG p kn x.2.2).2.1 (by simp) h0)
  ·exact .inr (uW p kn x.2.2 (cG p kn x.2.2).2.2 (by simp) h0)
 ·exact ht
theorem Ks {p:Prog}:∀t∈varsOf (bQ p),t∈varsOf p:=by
 intro t ht
 have h0:t≠[]:=fun e=>by
  have:=sE ht;rw[e]at this;have:=sF (bQ p);omega
 rcases mA (bQ p) ht with h | ⟨b',gr,h⟩
 ·cases h
 ·obtain⟨i,b,hb,rfl⟩:=tV gr;have hm:=dY hb;have hv:=(pw p fQ).1 b hm
  rcases h with h | ⟨x',mj,h⟩
  ·unfold cQ at h;split at h
   ·rw[h]at h0 ⊢;exact hv.2 h0
   ·unfold iu at h;split at h
    ·rcases py p (cz p i b b.2.1.length) b.2.2.2.1 with e | e
     ·rw[h]at h0 ⊢;dsimp only at h0 ⊢;rw[e]at h0 ⊢;exact hv.2 h0
     ·rw[h]at h0;exact absurd e h0
    ·rw[h]at h0 ⊢;exact hv.2 h0
  ·obtain⟨x,hx,e | ⟨kn,e⟩⟩:=xU mj
   ·rw[e]at h;exact hv.1 x hx t h h0
   ·rw[e]at h;exact hv.1 x hx t (Eo t h h0) h0
theorem rj (p:Prog):(varsOf p).Nodup:=by
 have hs:bq (varsOf p):=fI p fQ;exact List.Pairwise.imp (fun {a b} (h:a<b) (e:a=b)=>eQ b (by rw[e]at h;exact h)) hs
theorem yF (p:Prog):(varsOf (bQ p)).length≤(varsOf p).length:=List.Nodup.length_le_of_subset (rj _) (fun t ht=>Ks t ht)
theorem Ep (p:Prog):lE (bQ p)=lE p:=by
 apply List.ext_getElem?;intro i;rw[List.getElem?_map,List.getElem?_map]
 cases h:p[i]? with
 | none =>
  rw[List.getElem?_eq_none (by rw[dQ];exact List.getElem?_eq_none_iff.1 h)]
 | some b=>rw[tU h,Option.map_some,Option.map_some,(px p i b).1]
theorem xV {α β:Type} (f:α→Nat) (g:β→Nat):∀(l:List α) (m:List β),l.length=m.length→(∀(i:Nat) (a:α) (b:β),l[i]?=some a→m[i]?=some b→f a=g b)→(l.map f).sum=(m.map g).sum
 | [],[],_,_=>rfl
 | [],b::m,h,_=>by cases h
 | a::l,[],h,_=>by cases h
 | a::l,b::m,h,h1=>by
  rw[List.map_cons,List.map_cons,List.sum_cons,List.sum_cons,h1 0 a b rfl rfl,xV f g l m (by simpa using h) (fun i a b=>h1 (i+1) a b)]
theorem Er (p:Prog):aw (bQ p)=aw p:=by
 unfold aw
 refine xV _ _ _ _ (dQ p) fun i a b h1 h2=>?_
 rw[tU h2]at h1;rw[←Option.some.inj h1,tQ]
theorem fR {p:Prog} (h:al p=0):aw p≤512:=by
 unfold al at h;split at h
 ·cases h
 ·omega
theorem jN {p:Prog} (h:al p=0):(aF p).Nodup:=by
 unfold al at h;split at h
 ·cases h
 ·split at h
  ·split at h
   ·cases h
   ·split at h
    ·assumption
    ·cases h
  ·cases h
theorem GY {p:Prog} (h:al p=0):al (bQ p)=0:=by
 have hf:=cj h;have h5:=fR h
 have hb:∀b'∈bQ p,bM b'=true:=fun b' gr=>by
  obtain⟨i,b,hb,rfl⟩:=tV gr;have hm:=dY hb;have h1:=hf.2.2.2 b hm;have h2:=fP h1;rw[bM,Bool.and_eq_true,Bool.and_eq_true]at h1;rw[bM,Bool.and_eq_true,Bool.and_eq_true];refine⟨⟨by rw[(px p i b).1];exact h1.1.1,?_⟩,List.all_eq_true.2 fun x' mj=>?_⟩
  ·unfold cQ;split
   ·exact h1.1.2
   ·exact GX h1.1.2
  ·obtain⟨x,hx,e | ⟨kn,e⟩⟩:=xU mj
   ·rw[e];exact h2 x hx
   ·rw[e];exact GW (h2 x hx)
 have hn:aF (bQ p)=aF p:=Ep p
 have hg:∀b'∈bQ p,∀t∈goes b'.2.2,t∈aF (bQ p):=fun b' gr t ht=>by
  obtain⟨i,b,hb,rfl⟩:=tV gr;have hp:=px p i b;rw[hn];refine nU h (dY hb) ?_;unfold goes at ht ⊢;rw[hp.2.1,hp.2.2]at ht;exact ht
 have hd:(aF p).Nodup:=jN h;have hv:=yF p;unfold al;rw[if_neg (by rw[dQ,Er];omega),if_pos (List.all_eq_true.2 hb),if_neg (by omega),if_pos (by rw[hn];exact hd),if_pos (List.all_eq_true.2 fun b hb=>List.all_eq_true.2 fun t ht=>decide_eq_true (hg b hb t ht))]
end Go.Proofs
end
section
namespace Go.Proofs
open Go.Sy
end Go.Proofs
end
section
namespace Go.Proofs
open Go.Sy
end Go.Proofs
end
section
namespace Go.Proofs
open Go.Sy
end Go.Proofs
end
section
namespace Go.Proofs
open Go.Sy
open Tryz
variable {H:Hp} {K:Value→Hp→Prop}
theorem GZ {s:aQ} (hK:K (.bool (!decide (s=[]))) H):aq prog 164 [.string (bs s)] H K:=by
 refine ab af aa rfl func164 call164 ntmps164 results164 rfl rfl ?_;exact hK
def jc (l:List aQ):List aQ:=l.filter fun s=>!decide (s=[])
theorem G0 {l:List aQ} {i:Nat} {s:aQ} (h:l[i]?=some s):jc (l.take (i+1))=if s=[] then jc (l.take i) else jc (l.take i)++[s]:=by
 rw[jc,List.take_add_one,h,Option.toList_some,List.filter_append]
 by_cases hs:s=[]
 ·simp [jc,hs]
 ·simp [jc,hs]
theorem uX {P:Prop} {H:Hp} {a:Option Addr} {n c:Nat} {l:List aQ} (h:RL H a n c (iA l)) {i:Nat} {s:aQ} (hi:l[i]?=some s) (k:∀ad,a=some ad→jz H ad (i:Int) 1 [.string (bs s)]→s.length≤9223372036854775807→P):P :=
 kN h (i:=i) (x:=(⟨s⟩:iz)) (by rw[List.getElem?_map,hi];rfl) fun ad cs h1 h2 h3=>by
  obtain⟨rfl,h4⟩:=h3;exact k ad h1 h2 h4
theorem tW {H:Hp} {a:Option Addr} {n c:Nat} {l:List aQ} (h:RL H a n c (iA l)):∀s∈l,s.length≤9223372036854775807:=fun s hs=>by
 obtain⟨i,hi⟩:=List.getElem?_of_mem hs
 exact uX h hi fun _ _ _ h=>h
theorem Es {l:List aQ} (hl:l.length≤100000) {a:Option Addr} {n c:Nat} {H:Hp} {K:SV→St→Hp→Prop} (ha:RL H a n c (iA l)) (hK:K (.own 0) ⟨[],[(0,.row 9 1 (ay (jc l)))],1⟩ H):
  aY prog 163 [.v (.slice a n c),.fn 164 []] [] 0 H K:=by
 have dd:=ha.aB;rw[List.length_map]at dd;refine aJ af aa func163 call163 ntmps163 results163 rfl rfl ?_
 refine⟨Nat,fun i=>⟨[(1,.fn 164 []),(5,.own 0),(8,.v (.slice a n c)),(9,.v (.int .i64 n)),(10,.v (.int .i64 i))],[(0,.row 9 1 (ay (jc (l.take i))))],1⟩,
  fun i H'=>H'=H∧i≤l.length,fun i=>l.length - i,⟨0,[],?_,rfl,Nat.zero_le _⟩,?_⟩
 ·(repeat' first|exact trivial|refine⟨?_,?_⟩|exact rfl|assumption)
 rintro i H1 _ ⟨rfl,hi⟩;refine⟨fun h=>?_,fun h=>?_⟩
 ·have aj:i<l.length:=by have:=dt h;omega
  have Vj:=G0 (aL aj)
  have hlen:(ay (jc (l.take i))).length≤i:=by
   rw[List.length_map];exact Nat.le_trans (List.length_filter_le _ _) (by rw[List.length_take];omega)
  refine uX ha (aL aj) fun ad e1 hh cN=>?_
  refine⟨ad,⟨by omega,by omega,e1⟩,?_⟩;refine⟨_,hh,?_⟩;refine GZ ?_;refine⟨fun h=>?_,fun h=>?_⟩
  ·have cu:¬l[i]=[]:=nt h;rw[if_neg cu]at Vj
   have e:ay (jc (l.take i))++[[.string (bs l[i])]]=ay (jc (l.take (i+1))):=by rw[Vj,←dC]
   refine⟨⟨by show (_+1)*16≤140737488355328;omega,by show _+1≤9223372036854775807;omega⟩,?_⟩;refine⟨⟨by omega,by omega⟩,i+1,[(0,2)],?_,⟨rfl,aj⟩,by dsimp only;omega⟩
   (repeat' first|exact trivial|refine⟨?_,?_⟩|exact rfl|assumption)
  ·have heq:l[i]=[]:=nf h;rw[if_pos heq]at Vj
   have e:ay (jc (l.take i))=ay (jc (l.take (i+1))):=by rw[Vj]
   refine⟨⟨by omega,by omega⟩,i+1,[(0,0)],?_,⟨rfl,aj⟩,by dsimp only;omega⟩
   (repeat' first|exact trivial|refine⟨?_,?_⟩|exact rfl|assumption)
 ·have aX:i=l.length:=by have:=df h;omega
  rw[aX,List.take_length];exact⟨.own 0,[(0,.row 9 1 (ay (jc l)))],1,[(0,0)],by (repeat' first|exact trivial|refine⟨?_,?_⟩|exact rfl|assumption),hK⟩
def qz (l:List aQ):List aQ:=cY l []
theorem pz:bq ([]:List aQ):=List.Pairwise.nil
theorem lK:∀(vs:List aQ) {o:List aQ},¬[]∈o→¬[]∈cY vs o
 | [],_,h=>h
 | v::r,o,h=>by
  refine lK r (o:=iC v o) fun hm=>?_
  by_cases hv:v=[]
  ·rw[hv,mz]at hm;exact h hm
  ·rcases r8 hm with hm | hm
   ·exact h hm
   ·exact hv hm.symm
theorem tX {l:List aQ} {t:aQ}:t∈qz l↔t∈l∧t≠[]:=by
 constructor
 ·intro h;refine⟨(nB l h).resolve_left (by simp),fun e=>?_⟩;subst e;exact lK l (o:=[]) (by simp) h
 ·intro h;exact (nT l pz).1 t h.1 h.2
theorem Et (l:List aQ):aR (jc l)=qz l:=by
 refine (B9 (l':=qz l) ?_ fun t=>?_).symm
 ·exact eb l pz
 ·rw[tX,jc,List.mem_filter];simp
theorem kq {l:List aQ} (hl:l.length≤100000) {a:Option Addr} {n c:Nat} (ha:RL H a n c (iA l)) (hK:∀a1 n1 c1 H',Le H H'→RL H' a1 n1 c1 (iA (qz l))→K (.slice a1 n1 c1) H'):
  aq prog 106 [.slice a n c] H K:=by
 have Ia:=tW ha;have hle:(jc l).length≤l.length:=List.length_filter_le _ _;refine ab af aa rfl func106 call106 ntmps106 results106 rfl rfl ?_;refine⟨[],rfl,Es hl ha ?_⟩;refine⟨[0],rfl,Ge (l:=jc l) (by omega) fun l' th hp hg=>?_⟩;refine⟨[0],rfl,Gf (l:=l') (by omega) ?_⟩;rw[hg,Et];intro v H6 aI cZ;obtain⟨a7,n7,c7,rfl,dz⟩:=RL.aC (α:=iz) cZ (dU fun s hs=>Ia s (tX.1 hs).1);exact hK _ _ _ _ aI.le dz
end Go.Proofs
end
section
namespace Go.Proofs
open Go.Sy
open Tryz
def ll (x:Stmt):List aQ:=if x.1=1 then (aH x.2.2).map (fun a=>a.1.l) else if x.1=3 then [x.2.2.2.1.1.l] else []
def iR (x:Stmt):List aQ:=qz (ll x)
theorem nV (x:Expr):(aH x).length≤2:=by
 unfold aH;split
 ·simp
 ·split<;>simp
theorem Ng (x:Stmt):(ll x).length≤2:=by
 unfold ll;split
 ·rw[List.length_map];exact nV _
 ·split<;>simp
theorem xW {x:Stmt} (hx:fl x) {H:Hp} {K:Value→Hp→Prop} (hK:∀a1 n1 c1 H',Le H H'→RL H' a1 n1 c1 (iA (iR x))→K (.slice a1 n1 c1) H'):
  aq prog 68 [xk x] H K:=by
 have Ia:∀s∈ll x,s.length≤9223372036854775807:=fun s hs=>by
  unfold ll at hs;split at hs
  ·obtain⟨y,hy,rfl⟩:=List.mem_map.1 hs;exact (jk hx.2.2 y hy).1
  ·split at hs
   ·rw[List.mem_singleton.1 hs];exact hx.2.2.2.1.1
   ·cases hs
 have hlen:=Ng x;refine ab af aa rfl func68 call68 ntmps68 results68 rfl rfl ?_;refine⟨fun h=>?_,fun h=>?_⟩
 ·have hk:x.1=1:=dt h;have hu:ll x=(aH x.2.2).map (fun a=>a.1.l):=if_pos hk
  refine oQ hx.2.2 fun a n c H1 ak bh=>?_
  have dd:=bh.aB;have xh:=nV x.2.2
  refine⟨Nat,fun i=>⟨[(3,.own 0),(12,.v (.slice a n c)),(13,.v (.int .i64 n)),(14,.v (.int .i64 i))],[(0,.row 9 1 (ay ((ll x).take i)))],1⟩,
   fun i H'=>H'=H1∧i≤(aH x.2.2).length,fun i=>(aH x.2.2).length - i,⟨0,[],?_,rfl,Nat.zero_le _⟩,?_⟩
  ·(repeat' first|exact trivial|refine⟨?_,?_⟩|exact rfl|assumption)
  rintro i H2 _ ⟨rfl,hi⟩
  have rO:(ay ((ll x).take i)).length≤2:=by rw[List.length_map,List.length_take];omega
  refine⟨fun h=>?_,fun h=>?_⟩
  ·have aj:i<(aH x.2.2).length:=by have:=dt h;omega
   have WR:(ll x)[i]?=some (aH x.2.2)[i].1.l:=by rw[hu,List.getElem?_map,aL aj];rfl
   have e:ay ((ll x).take i)++[[.string (bs (aH x.2.2)[i].1.l)]]=ay ((ll x).take (i+1)):=by
    rw[List.take_add_one,WR,Option.toList_some,←dC]
   refine Bc bh (aL aj) fun ad e1 hh _=>?_
   refine⟨ad,⟨by omega,by omega,e1⟩,?_⟩;refine⟨_,hh,?_⟩;refine⟨⟨by show (_+1)*16≤140737488355328;omega,by show _+1≤9223372036854775807;omega⟩,?_⟩;refine⟨⟨by omega,by omega⟩,i+1,[(0,3)],?_,⟨rfl,aj⟩,by dsimp only;omega⟩
   (repeat' first|exact trivial|refine⟨?_,?_⟩|exact rfl|assumption)
  ·have aX:i=(aH x.2.2).length:=by have:=df h;omega
   have e:(ll x).take i=ll x:=List.take_of_length_le (by rw[hu,List.length_map];omega);rw[e];intro v H6 aI cZ;obtain⟨a7,n7,c7,rfl,dz⟩:=RL.aC (α:=iz) cZ (dU Ia)
   refine kq (l:=ll x) (by omega) dz fun a1 n1 c1 H7 cS hr=>?_
   exact hK _ _ _ _ ((ak.trans aI.le).trans cS) hr
 ·have hk:¬x.1=1:=df h;refine⟨fun h=>?_,fun h=>?_⟩
  ·have kJ:x.1=3:=dt h
   have hu:ll x=[x.2.2.2.1.1.l]:=by rw[ll,if_neg hk,if_pos kJ]
   refine⟨⟨by show 1*16≤140737488355328;decide,by show 1≤9223372036854775807;decide⟩,?_⟩;intro v H6 aI cZ
   have Wi:aW H6 v 1 (ay (ll x)):=by rw[hu];exact cZ
   obtain⟨a7,n7,c7,rfl,dz⟩:=RL.aC (α:=iz) Wi (dU Ia)
   refine kq (l:=ll x) (by omega) dz fun a1 n1 c1 H7 cS hr=>?_
   exact hK _ _ _ _ (aI.le.trans cS) hr
  ·have kJ:¬x.1=3:=df h
   have hu:ll x=[]:=by rw[ll,if_neg hk,if_neg kJ]
   refine kq (l:=[]) (by decide) bz fun a1 n1 c1 H7 cS hr=>?_
   rw[iR,hu]at hK;exact hK _ _ _ _ cS hr
end Go.Proofs
end
section
namespace Go.Proofs
open Go.Sy
open Tryz
def G1 (a:ks):Block:=(⟨[]⟩,[],(0,a,⟨[]⟩,⟨[]⟩))
def lp (x:Stmt):List ks:=if x.1=1 then aH x.2.2 else if x.1=3 then [x.2.2.2.1] else []
theorem Ss (x:Stmt):ll x=(lp x).map (fun a=>a.1.l):=by
 unfold ll lp;split
 ·rfl
 ·split<;>rfl
def Nh (x:Stmt):Prog:=(G1 (⟨[]⟩,0,0))::(lp x).map G1
theorem Kt (x:Stmt):varsOf (Nh x)=iR x:=by
 rw[iR,qz,Ss]
 have h:∀(l:List ks) (o:List aQ),(l.map G1).foldl dW o=cY (l.map fun a=>a.1.l) o:=by
  intro l
  induction l with
  | nil=>exact fun _=>rfl
  | cons a r ih=>intro o;rw[List.map_cons,List.map_cons,List.foldl_cons,ih];rfl
 rw[Nh,varsOf,List.foldl_cons,h]
 rfl
abbrev G2 (a:ks):List Value:=[.string (bs []),.slice none 0 0,.int .i64 0,.string (bs a.1.l),.int .i64 a.2.1,.int .i64 a.2.2,.string (bs []),.string (bs [])]
theorem PE {H:Hp}:∀ {l:List ks},(∀a∈l,lW a)→RC (α:=Block) H (l.map G2) (l.map G1):=by
 intro l h;refine⟨by rw[List.length_map,List.length_map],fun i cs b h1 h2=>?_⟩;rw[List.getElem?_map]at h1 h2
 cases h3:l[i]? with
 | none=>rw[h3]at h1;cases h1
 | some a =>
  rw[h3]at h1 h2
  cases h1;cases h2
  have ha:=h a (dY h3);exact dD (b:=G1 a) bz (Nat.zero_le _) ⟨⟨by show (_:Int)≤0;decide,by show (0:Int)≤_;decide⟩,ha,Nat.zero_le _,Nat.zero_le _⟩
abbrev aZ:ks:=(⟨[]⟩,0,0)
theorem xX {x:Stmt} (hx:fl x) {H:Hp} {K:Value→Hp→Prop} (hK:∀a1 n1 c1 H',Le H H'→RL H' a1 n1 c1 (iA (iR x))→K (.slice a1 n1 c1) H'):
  aq prog 238 [xk x] H K:=by
 rw[←Kt]at hK;have xh:=nV x.2.2
 have hZ:lW aZ:=⟨Nat.zero_le _,⟨by show (_:Int)≤0;decide,by show (0:Int)≤_;decide⟩,⟨by show (_:Int)≤0;decide,by show (0:Int)≤_;decide⟩⟩
 have iG:∀a∈aZ::lp x,lW a:=fun a ha=>by
  rcases List.mem_cons.1 ha with rfl | ha
  ·exact hZ
  ·unfold lp at ha;split at ha
   ·exact jk hx.2.2 a ha
   ·split at ha
    ·rw[List.mem_singleton.1 ha];exact hx.2.2.2.1
    ·cases ha
 have Iy:(lp x).length≤2:=by
  unfold lp;split
  ·exact xh
  ·split<;>simp
 have Su:iE (Nh x)<400000:=by
  have h:∀(l:List ks),((l.map G1).map fun b:Block=>3*b.2.1.length+1).sum=l.length:=fun l=>by
   induction l with
   | nil=>rfl
   | cons a r ih=>simp only[List.map_cons,List.sum_cons,ih,List.length_cons];show 3*0+1+_=_;omega
  have h2:=h (aZ::lp x);rw[List.length_cons]at h2;have h3:iE (Nh x)=((List.map G1 (aZ::lp x)).map fun b:Block=>3*b.2.1.length+1).sum:=rfl;omega
 have fin:∀(H1:Hp),Le H H1→∀v H6,Le H1 H6→aW H6 v 8 ((aZ::lp x).map G2)→∃a n c,v = .slice a n c∧RL H6 a n c (Nh x):=fun H1 ak v H6 aI cZ =>
  RL.aC (α:=Block) cZ (PE iG)
 refine ab af aa rfl func238 call238 ntmps238 results238 rfl rfl ?_;refine⟨fun h=>?_,fun h=>?_⟩
 ·have hk:x.1=1:=dt h;have hu:lp x=aH x.2.2:=if_pos hk
  refine oR hx.2.2 fun a n c H1 ak bh=>?_
  have dd:=bh.aB
  refine⟨Nat,fun i=>⟨[(1,.ptr 0 0),(3,.ptr 2 0),(14,.v (.slice a n c)),(15,.v (.int .i64 n)),(16,.v (.int .i64 i))],[(0,.cells 61 (vL (Qq x))),(1,.row 66 8 ((aZ::(lp x).take i).map G2)),(2,.cells 24 [.own 1])],3⟩,
   fun i H'=>H'=H1∧i≤(aH x.2.2).length,fun i=>(aH x.2.2).length - i,⟨0,[(0,0),(1,1),(2,2)],?_,rfl,Nat.zero_le _⟩,?_⟩
  ·(repeat' first|exact trivial|refine⟨?_,?_⟩|exact rfl|assumption)
  rintro i H2 _ ⟨rfl,hi⟩
  have rO:((aZ::(lp x).take i).map G2).length≤3:=by rw[List.length_map,List.length_cons,List.length_take];omega
  refine⟨fun h=>?_,fun h=>?_⟩
  ·have aj:i<(aH x.2.2).length:=by have:=dt h;omega
   have WR:(lp x)[i]?=some (aH x.2.2)[i]:=by rw[hu,aL aj]
   have e:(aZ::(lp x).take i).map G2++[G2 (aH x.2.2)[i]]=(aZ::(lp x).take (i+1)).map G2:=by
    rw[List.take_add_one,WR,Option.toList_some,List.map_cons,List.map_cons,List.map_append];rfl
   refine Bc bh (aL aj) fun ad e1 hh _=>?_
   refine⟨ad,⟨by omega,by omega,e1⟩,?_⟩;refine⟨_,hh,?_⟩;refine⟨⟨by show (_+1)*112≤140737488355328;omega,by show _+1≤9223372036854775807;omega⟩,?_⟩;refine⟨⟨by omega,by omega⟩,i+1,[(0,0),(1,5),(2,2)],?_,⟨rfl,aj⟩,by dsimp only;omega⟩
   (repeat' first|exact trivial|refine⟨?_,?_⟩|exact rfl|assumption)
  ·have aX:i=(aH x.2.2).length:=by have:=df h;omega
   have e:(lp x).take i=lp x:=List.take_of_length_le (by rw[hu];omega);rw[e];refine⟨fun h=>absurd (dt h) (by omega),fun _=>?_⟩;intro v H6 aI cZ;obtain⟨a7,n7,c7,rfl,dz⟩:=fin H2 ak v H6 aI.le cZ
   refine eh dz Su fun a1 n1 c1 H7 cS hr=>?_
   exact hK _ _ _ _ ((ak.trans aI.le).trans cS) hr
 ·have hk:¬x.1=1:=df h;refine⟨fun h=>?_,fun h=>?_⟩
  ·have kJ:x.1=3:=dt h
   have hu:lp x=[x.2.2.2.1]:=by rw[lp,if_neg hk,if_pos kJ]
   refine⟨⟨by show (1+1)*112≤140737488355328;decide,by show 1+1≤9223372036854775807;decide⟩,?_⟩;intro v H6 aI cZ;obtain⟨a7,n7,c7,rfl,dz⟩:=fin H (Le.refl H) v H6 aI.le (by rw[hu];exact cZ)
   refine eh dz Su fun a1 n1 c1 H7 cS hr=>?_
   exact hK _ _ _ _ (aI.le.trans cS) hr
  ·have kJ:¬x.1=3:=df h
   have hu:lp x=[]:=by rw[lp,if_neg hk,if_neg kJ]
   intro v H6 aI cZ;obtain⟨a7,n7,c7,rfl,dz⟩:=fin H (Le.refl H) v H6 aI.le (by rw[hu];exact cZ)
   refine eh dz Su fun a1 n1 c1 H7 cS hr=>?_
   exact hK _ _ _ _ (aI.le.trans cS) hr
end Go.Proofs
end
section
namespace Go.Proofs
open Go.Sy
end Go.Proofs
end
section
namespace Go.Proofs
open Go.Sy
end Go.Proofs
end
section
namespace Go.Proofs
open Go.Sy
end Go.Proofs
end
section
namespace Go.Proofs
open Go.Sy
theorem Eu:∀ {p:Prog} {b:Block},b∈p→b.2.1.length≤aw p
 | [],_,h=>by cases h
 | x::r,b,h=>by
  unfold aw;rw[List.map_cons,List.sum_cons]
  rcases List.mem_cons.1 h with rfl | h
  ·omega
  ·have:=Eu h;unfold aw at this;omega
end Go.Proofs
end
section
namespace Go.Proofs
open Go.Sy
theorem qe {q:Prog} {t:aQ} (h:t∈aF q):∃b,(0≤jr q t∧jr q t=bw t (lE q) 0)∧q[(jr q t).toNat]?=some b∧b.1.l=t:=by
 have h1:=sD t (lE q) 0 (by omega) h
 have e:jr q t=bw t (lE q) 0:=by unfold jr;omega
 have h2:(q.map fun b:Block=>b.1.l)[(bw t (lE q) 0 - 0).toNat]?=some t:=h1.2.2;rw[List.getElem?_map,Int.sub_zero]at h2
 cases hb:q[(bw t (lE q) 0).toNat]? with
 | none=>rw[hb]at h2;cases h2
 | some b =>
  rw[hb]at h2;exact⟨b,⟨by rw[e];exact h1.1,e⟩,by rw[e];exact hb,Option.some.inj h2⟩
theorem Ev {q:Prog} {i:Nat} {b:Block} (h:q[i]?=some b):(aF q)[i]?=some b.1.l:=by
 show (q.map fun b:Block=>b.1.l)[i]?=_
 rw[List.getElem?_map,h];rfl
theorem xY {q:Prog} (hn:(aF q).Nodup) {i j:Nat} {b b':Block} (h1:q[i]?=some b) (h2:q[j]?=some b') (h:b.1.l=b'.1.l):i=j:=by
 have e1:=Ev h1;have e2:=Ev h2;rw[h]at e1;obtain⟨l1,g1⟩:=gh.1 e1;obtain⟨l2,g2⟩:=gh.1 e2;exact (List.getElem_inj hn).1 (g1.trans g2.symm)
theorem xZ {q:Prog} {b:Block} (h:b∈q):b.1.l∈aF q:=List.mem_map.2 ⟨b,h,rfl⟩
theorem Sv {q:Prog} (hn:(aF q).Nodup) {i:Nat} {b:Block} (h:q[i]?=some b):jr q b.1.l=(i:Int):=by
 obtain⟨b',h1,h2,h3⟩:=qe (xZ (dY h));have:=xY hn h2 h h3;omega
theorem kz {q:Prog} {i:Nat} {b:Block} (hb:q[i]?=some b) {t:aQ} (ht:t∈goes b.2.2) (hn:t∈aF q):((i:Int),jr q t)∈aG q:=by
 obtain⟨_,h1,_,_⟩:=qe hn
 have hg:eN q i t=[((i:Int),jr q t)]:=by rw[eN,if_pos (by omega),h1.2]
 refine Ek q 0 hb ?_;rw[Nat.zero_add,eB];unfold goes at ht;split at ht
 ·rename_i h1;rw[List.mem_singleton.1 ht]at hg;rw[if_pos (.inl h1),hg];rw[List.mem_singleton.1 ht];simp
 ·split at ht
  ·rename_i h1;rw[if_pos (.inr h1),if_pos h1];simp only[List.mem_cons,List.not_mem_nil,or_false]at ht
   rcases ht with e | e
   ·rw[e]at hg ⊢;rw[hg];simp
   ·rw[e]at hg ⊢;rw[hg];simp
  ·cases ht
theorem Ew {p:Prog}:∀(l:List Block) (i:Nat) (e:cV),e∈cO p l i→∃j b,l[j]?=some b∧e∈eB p (i+j) b
 | [],_,e,h=>by cases h
 | b::r,i,e,h=>by
  rw[cO,List.mem_append]at h
  rcases h with h | h
  ·exact⟨0,b,rfl,h⟩
  ·obtain⟨j,b',h1,h2⟩:=Ew r (i+1) e h;exact⟨j+1,b',h1,by rw[show i+(j+1)=i+1+j by omega];exact h2⟩
theorem Ey {q:Prog} {e:cV} (h:e∈aG q):∃(i:Nat) (b:Block) (t:aQ),q[i]?=some b∧e.1=(i:Int)∧t∈goes b.2.2∧t∈aF q∧e.2=jr q t:=by
 obtain⟨j,b,h1,h2⟩:=Ew q 0 e h;rw[Nat.zero_add]at h2
 have hN:∀t,e∈eN q j t→e.1=(j:Int)∧t∈aF q∧e.2=jr q t:=fun t ht=>by
  unfold eN at ht;split at ht
  ·rename_i h0;rw[List.mem_singleton]at ht;have hm:t∈aF q:=mS (i:=0) (by omega) h0;rw[ht];exact⟨rfl,hm,by unfold jr;dsimp only;omega⟩
  ·cases ht
 unfold eB at h2
 rcases List.mem_append.1 h2 with h3 | h3
 ·split at h3
  ·rename_i h4;have:=hN _ h3;refine⟨j,b,_,h1,this.1,?_,this.2.1,this.2.2⟩;unfold goes
   rcases h4 with h4 | h4
   ·rw[if_pos h4];simp
   ·rw[if_neg (by omega),if_pos h4];simp
  ·cases h3
 ·split at h3
  ·rename_i h4;have:=hN _ h3;refine⟨j,b,_,h1,this.1,?_,this.2.1,this.2.2⟩;unfold goes
   rw[if_neg (by omega),if_pos h4];simp
  ·cases h3
structure Kept (p q:Prog):Prop where
 vq:al p=0
 src:∀b'∈q,∃b∈p,b'=mD b
 nd:(aF q).Nodup
 head:∃b,p[0]?=some b∧q[0]?=some (mD b)
 closed:∀b'∈q,∀t∈goes b'.2.2,t∈aF q
theorem mT {q:Prog} {R:List Int} {n:Nat} {b:Block}:b∈cm q R n↔∃k,k<n∧(k:Int)∈R∧q[k]?=some b:=by
 rw[cm,List.mem_filterMap];constructor
 ·rintro⟨k,h1,h2⟩;obtain⟨h3,h4⟩:=List.mem_filter.1 h1;exact⟨k,List.mem_range.1 h3,dt h4,h2⟩
 ·rintro⟨k,h1,h2,h3⟩;exact⟨k,List.mem_filter.2 ⟨List.mem_range.2 h1,decide_eq_true h2⟩,h3⟩
theorem Ab (q:Prog):(List.range q.length).filterMap (fun k=>q[k]?)=q:=by
 have h:∀(l:Prog),(List.range l.length).filterMap (fun k=>l[k]?)=l:=fun l=>by
  induction l with
  | nil=>rfl
  | cons b r ih =>
   rw[List.length_cons,List.range_succ_eq_map,List.filterMap_cons];simp only[List.getElem?_cons_zero,List.filterMap_map]
   congr 1
 exact h q
theorem Ac (q:Prog) (R:List Int):(cm q R q.length).Sublist q:=by
 have h:=List.Sublist.filterMap (fun k=>q[k]?) (List.filter_sublist (p:=fun (k:Nat)=>decide ((k:Int)∈R)) (l:=List.range q.length));rw[Ab]at h;exact h
theorem Ku {q:Prog} {R:List Int} (h:∀k,k<q.length→(k:Int)∈R):cm q R q.length=q:=by
 rw[cm,List.filter_eq_self.2 (fun k hk=>decide_eq_true (h k (List.mem_range.1 hk))),Ab]
theorem Kv (t:Term):∀u∈goes (eJ t),u∈goes t:=by
 intro u hu;unfold eJ at hu;split at hu
 ·rename_i h2
  have e:goes t=[t.2.2.1.l,t.2.2.2.l]:=by rw[goes,if_neg (by omega),if_pos h2]
  split at hu
  ·rw[goes,if_pos rfl]at hu
   rw[e,List.mem_singleton.1 hu];simp
  ·split at hu
   ·rw[goes,if_pos rfl]at hu
    rw[e,List.mem_singleton.1 hu];simp
   ·exact hu
 ·exact hu
theorem Kw (t:Term):eJ (eJ t)=eJ t:=by
 by_cases h2:t.1=2
 ·by_cases h3:t.2.1.1.l=[]∧t.2.1.2=(0,0)
  ·have e:eJ t=(1,za,t.2.2.2,⟨[]⟩):=by rw[eJ,if_pos h2,if_pos h3]
   rw[e,eJ,if_neg (show ¬(1:Int)=2 by decide)]
  ·by_cases h4:t.2.1.1.l=[]∨t.2.2.1.l=t.2.2.2.l
   ·have e:eJ t=(1,za,t.2.2.1,⟨[]⟩):=by rw[eJ,if_pos h2,if_neg h3,if_pos h4]
    rw[e,eJ,if_neg (show ¬(1:Int)=2 by decide)]
   ·have e:eJ t=t:=by rw[eJ,if_pos h2,if_neg h3,if_neg h4]
    rw[e,e]
 ·have e:eJ t=t:=by rw[eJ,if_neg h2]
  rw[e,e]
theorem pA (p:Prog):aF (aP p)=aF p:=by
 show (p.map mD).map _=p.map _
 rw[List.map_map];rfl
theorem tY {p:Prog} {i:Nat} {b:Block} (h:p[i]?=some b):(aP p)[i]?=some (mD b):=by
 show (p.map mD)[i]?=_
 rw[List.getElem?_map,h];rfl
theorem Ez {p:Prog} (h:al p=0) {b:Block} (hb:b∈p):∀t∈goes (mD b).2.2,t∈aF p:=fun _ ht=>nU h hb (Kv _ _ ht)
theorem Kx {p:Prog} (h:al p=0) {R:List Int} (hR:cy (p.length:Nat) (aR (aG (aP p))) [0] R):Kept p (cm (aP p) R p.length):=by
 have hl:(aP p).length=p.length:=cB p;have hf:=cj h;have h0:(0:Int)∈R:=hR.sj 0 (by simp) (decide_eq_true (by omega));refine⟨h,?_,?_,?_,?_⟩
 ·intro b' gr;obtain⟨k,_,_,h3⟩:=mT.1 gr;obtain⟨b,hb,e⟩:=List.mem_map.1 (dY h3);exact⟨b,hb,e.symm⟩
 ·have h1:=(Ac (aP p) R).map (fun b:Block=>b.1.l);rw[hl]at h1
  have h2:(aF (aP p)).Nodup:=by rw[pA];exact jN h
  exact List.Nodup.sublist h1 h2
 ·have aj:0<p.length:=by omega
  refine⟨p[0],aL aj,?_⟩
  have e:p.length=(p.length - 1)+1:=by omega
  rw[cm,e,List.range_succ_eq_map,List.filter_cons,if_pos (decide_eq_true (by exact h0)),List.filterMap_cons,tY (aL aj)]
  rfl
 ·intro b' gr t ht;obtain⟨k,h1,h2,h3⟩:=mT.1 gr;obtain⟨b,hb,e⟩:=List.mem_map.1 (dY h3)
  have hn:t∈aF (aP p):=by rw[pA];rw[←e]at ht;exact Ez h hb t ht
  obtain⟨b2,h4,h5,h6⟩:=qe hn;have WS:=kz h3 ht hn;have aj:=(gh.1 h5).1;rw[hl]at aj;have kX:jr (aP p) t∈R:=hR.closed _ h2 _ (lG.2 ⟨(bJ _ _).2 WS,decide_eq_true (by omega),decide_eq_true (by omega)⟩);rw[←h6];refine xZ (mT.2 ⟨(jr (aP p) t).toNat,aj,?_,h5⟩);rw[Int.toNat_of_nonneg h4.1];exact kX
theorem Ky {p q:Prog} (h:Kept p q):∀t∈varsOf q,t∈varsOf p:=by
 intro t ht
 have h0:t≠[]:=fun e=>by
  have:=sE ht;rw[e]at this;have:=sF q;omega
 rcases mA q ht with h1 | ⟨b',gr,h1⟩
 ·cases h1
 ·obtain⟨b,hb,rfl⟩:=h.src b' gr;have hv:=(pw p fQ).1 b hb
  rcases h1 with h1 | ⟨x,hx,h1⟩
  ·have e:(eJ b.2.2).2.1.1.l=b.2.2.2.1.1.l∨(eJ b.2.2).2.1.1.l=[]:=by
    unfold eJ;split
    ·split
     ·exact .inr rfl
     ·split
      ·exact .inr rfl
      ·exact .inl rfl
    ·exact .inl rfl
   have h1:t=(eJ b.2.2).2.1.1.l:=h1
   rcases e with e | e
   ·rw[h1,e]at h0 ⊢;exact hv.2 h0
   ·rw[h1,e]at h0;exact absurd rfl h0
  ·exact hv.1 x hx t h1 h0
end Go.Proofs
end
section
namespace Go.Proofs
open Go.Sy
theorem sG {p:Prog} {t:aQ}:t∈varsOf p↔t≠[]∧∃b∈p,t=b.2.2.2.1.1.l∨∃s∈b.2.1,t∈ie s:=by
 constructor
 ·intro ht;refine⟨fun e=>?_,?_⟩
  ·have h1:=sE ht;rw[e]at h1;have:=sF p;omega
  ·rcases mA p ht with h | h
   ·cases h
   ·exact h
 ·rintro⟨h0,b,hb,h⟩;have hv:=(pw p fQ).1 b hb
  rcases h with h | ⟨s,hs,h⟩
  ·rw[h]at h0 ⊢;exact hv.2 h0
  ·exact hv.1 s hs t h h0
theorem EA {q:Prog} (h1:1≤q.length) (h2:q.length≤128) (h3:aw q≤512) (h4:∀b∈q,bM b=true) (h5:(varsOf q).length≤64) (h6:(aF q).Nodup) (h7:∀b∈q,∀t∈goes b.2.2,t∈aF q):al q=0:=by
 unfold al;rw[if_neg (by omega),if_pos (List.all_eq_true.2 h4),if_neg (by omega),if_pos h6,if_pos (List.all_eq_true.2 fun b hb=>List.all_eq_true.2 fun t ht=>decide_eq_true (h7 b hb t ht))]
structure Whole (q:Prog):Prop where
 vq:al q=0
 ends:aP q=q
 all:∀S:Int→Prop,S 0→(∀e∈aG q,S e.1→S e.2)→∀i:Nat,i<q.length→S (i:Int)
structure x4 (q:Prog) (a t:Nat) (x y:Block):Prop where
 hx:q[a]?=some x
 hy:q[t]?=some y
 k:x.2.2.1=1
 to:jr q x.2.2.2.2.1.l=(t:Int)
 pos:0<t
 ne:t≠a
 one:∀e∈aG q,e.2=(t:Int)→e.1=(a:Int)
theorem x5 {q:Prog} {z:Nat×Nat}:∀ {i:Nat},fL q i=some z→∃j,MP q j=some z
 | 0,h=>by cases h
 | i+1,h=>by
  rw[ij]at h
  cases h1:fL q i with
  | some x=>rw[h1]at h;cases h;exact x5 h1
  | none=>rw[h1]at h;exact⟨i,h⟩
theorem PF {q:Prog} {a t:Nat} (h:ja q=some (a,t)):∃x y,x4 q a t x y:=by
 obtain⟨j,hj⟩:=x5 h;unfold MP at hj;split at hj
 ·rename_i x hx;split at hj
  ·rename_i ca;simp only[Iq,Bool.and_eq_true,decide_eq_true_eq,Bool.not_eq_true',decide_eq_false_iff_not]at ca;simp only[Option.some.injEq,Prod.mk.injEq]at hj;obtain⟨rfl,rfl⟩:=hj;obtain⟨⟨⟨hk,ns⟩,cu⟩,kX⟩:=ca;have hr:=p5 q x
   have aj:(zJ q x).toNat<q.length:=by omega
   have Wj:jr q x.2.2.2.2.1.l=zJ q x:=by unfold jr zJ at *;omega
   have iG:x.2.2.2.2.1.l∈aF q:=mS (i:=0) (by omega) (Int.le_of_lt ns);refine⟨x,q[(zJ q x).toNat],hx,aL aj,hk,by omega,by omega,by omega,fun e he y9=>?_⟩;have WS:=kz hx (t:=x.2.2.2.2.1.l) (by rw[goes,if_pos hk];simp) iG;rw[mH,List.countP_eq_length_filter]at kX;obtain⟨z,hz⟩:=List.length_eq_one_iff.1 kX
   have m1:e∈(aR (aG q)).filter fun e=>decide (e.2=zJ q x):=List.mem_filter.2 ⟨(bJ _ _).2 he,decide_eq_true (by omega)⟩
   have m2:((j:Int),jr q x.2.2.2.2.1.l)∈(aR (aG q)).filter fun e=>decide (e.2=zJ q x):=List.mem_filter.2 ⟨(bJ _ _).2 WS,decide_eq_true Wj⟩
   rw[hz,List.mem_singleton]at m1 m2;rw[m1,←m2]
  ·cases hj
 ·cases hj
def Ad (t i:Nat):Nat:=if i<t then i else i - 1
theorem mU {q:Prog} {a t:Nat} {x y:Block} (P:x4 q a t x y) {i:Nat} {b:Block} (hi:i≠t) (hb:q[i]?=some b):(ej q a t)[Ad t i]?=some (if i=a then ft x y else b):=by
 have aj:=(gh.1 P.hx).1;rw[mI P.hx P.hy,List.getElem?_eraseIdx]
 have e:(if Ad t i<t then (q.set a (ft x y))[Ad t i]? else (q.set a (ft x y))[Ad t i+1]?)=(q.set a (ft x y))[i]?:=by
  unfold Ad
  by_cases h:i<t
  ·rw[if_pos h,if_pos h]
  ·rw[if_neg h,if_neg (by omega),show i - 1+1=i by omega]
 rw[e,List.getElem?_set]
 by_cases h:a=i
 ·rw[if_pos h,if_pos (by omega),if_pos h.symm]
 ·rw[if_neg h,if_neg (fun h2=>h h2.symm),hb]
theorem sH {q:Prog} {a t:Nat} {x y:Block} (P:x4 q a t x y) {j:Nat} {b':Block} (hj:(ej q a t)[j]?=some b'):∃i b,i≠t∧j=Ad t i∧q[i]?=some b∧b'=if i=a then ft x y else b:=by
 have hlen:=jm (gh.1 P.hy).1 (gh.1 P.hx).1;have eD:=(gh.1 hj).1
 have key:∀i,i≠t→j=Ad t i→i<q.length→∃i b,i≠t∧j=Ad t i∧q[i]?=some b∧b'=if i=a then ft x y else b:=fun i h1 h2 h3=>by
  have h4:=mU P h1 (aL h3);rw[←h2,hj]at h4;exact⟨i,q[i],h1,h2,aL h3,Option.some.inj h4⟩
 by_cases h:j<t
 ·exact key j (by omega) (by rw[Ad,if_pos h]) (by omega)
 ·exact key (j+1) (by omega) (by rw[Ad,if_neg (by omega)];omega) (by omega)
theorem Ni {q:Prog} {a t:Nat} {x y:Block} (P:x4 q a t x y):(aF (ej q a t)).Sublist (aF q):=by
 have e:(q.set a (ft x y)).map (fun b:Block=>b.1.l)=q.map fun b:Block=>b.1.l:=by
  apply List.ext_getElem?;intro i;rw[List.getElem?_map,List.getElem?_map,List.getElem?_set]
  by_cases h:a=i
  ·have aj:=(gh.1 P.hx).1
   rw[if_pos h,if_pos (by omega),←h,P.hx];rfl
  ·rw[if_neg h]
 show ((ej q a t).map _).Sublist _;rw[mI P.hx P.hy];have h:=(List.eraseIdx_sublist (q.set a (ft x y)) t).map (fun b:Block=>b.1.l);rw[e]at h;exact h
theorem IH {q:Prog} (hc:al q=0) {a t:Nat} {x y:Block} (P:x4 q a t x y):(aF (ej q a t)).Nodup:=List.Nodup.sublist (Ni P) (jN hc)
theorem Nj {q:Prog} (hc:al q=0) {a t:Nat} {x y:Block} (P:x4 q a t x y) {u:aQ} (hu:u∈aF q) (cu:jr q u≠(t:Int)):
  ∃j:Nat,j≠t∧j<q.length∧jr q u=(j:Int)∧jr (ej q a t) u=((Ad t j:Nat):Int)∧u∈aF (ej q a t):=by
 obtain⟨b,h1,h2,h3⟩:=qe hu
 have hj:(jr q u).toNat≠t:=by omega
 have h4:=mU P hj h2
 have hn:(if (jr q u).toNat=a then ft x y else b).1.l=u:=by
  split
  ·rename_i h5;rw[h5,P.hx]at h2
   rw[←h3,←Option.some.inj h2];rfl
  ·exact h3
 have h5:=Sv (IH hc P) h4;rw[hn]at h5;refine⟨(jr q u).toNat,hj,(gh.1 h2).1,by omega,h5,?_⟩;rw[←hn];exact xZ (dY h4)
theorem Kz {q:Prog} (hc:al q=0) {a t:Nat} {x y:Block} (P:x4 q a t x y):x.2.2.2.1.1.l=[]:=by
 have hB:=(cj hc).2.2.2 x (dY P.hx);rw[bM,Bool.and_eq_true,Bool.and_eq_true]at hB;have hT:=hB.1.2;unfold fJ at hT;rw[if_pos P.k]at hT;simp only[Bool.and_eq_true,decide_eq_true_eq]at hT
 rw[hT.2.2];rfl
abbrev ZC:LO aQ where
 lt a b:=a<b
 dec a b:=inferInstanceAs (Decidable (a<b))
 Th:=inferInstance
 irrefl:=eQ
 trans:=ku
 NU:=vN
theorem G3 {l m:List aQ} (hl:bq l) (hm:bq m) (h:∀x,x∈l↔x∈m):l=m:=@jd aQ ZC l m hl hm h
theorem KA {q:Prog} (hc:al q=0) {a t:Nat} {x y:Block} (P:x4 q a t x y):varsOf (ej q a t)=varsOf q:=by
 refine G3 (fI _ fQ) (fI _ fQ) fun u=>?_
 have Sw:(ej q a t)[Ad t a]?=some (ft x y):=by
  have:=mU P P.ne.symm P.hx;rwa[if_pos rfl]at this
 have Q8:=dY Sw;constructor
 ·intro h;obtain⟨h0,b',gr,h⟩:=sG.1 h;obtain⟨j,hj⟩:=List.getElem?_of_mem gr;obtain⟨i,b,h1,h2,h3,h4⟩:=sH P hj;refine sG.2 ⟨h0,?_⟩;split at h4
  ·rw[h4]at h
   rcases h with h | ⟨s,hs,h⟩
   ·exact⟨y,dY P.hy,.inl h⟩
   ·rcases List.mem_append.1 hs with hs | hs
    ·exact⟨x,dY P.hx,.inr ⟨s,hs,h⟩⟩
    ·exact⟨y,dY P.hy,.inr ⟨s,hs,h⟩⟩
  ·rw[h4]at h;exact⟨b,dY h3,h⟩
 ·intro h;obtain⟨h0,b,hb,h⟩:=sG.1 h;obtain⟨i,hi⟩:=List.getElem?_of_mem hb;refine sG.2 ⟨h0,?_⟩
  by_cases e1:i=t
  ·rw[e1,P.hy]at hi;have e:=Option.some.inj hi;rw[←e]at h
   rcases h with h | ⟨s,hs,h⟩
   ·exact⟨_,Q8,.inl h⟩
   ·exact⟨_,Q8,.inr ⟨s,List.mem_append.2 (.inr hs),h⟩⟩
  ·by_cases e2:i=a
   ·rw[e2,P.hx]at hi;have e:=Option.some.inj hi;rw[←e]at h
    rcases h with h | ⟨s,hs,h⟩
    ·rw[Kz hc P]at h;exact absurd h h0
    ·exact⟨_,Q8,.inr ⟨s,List.mem_append.2 (.inl hs),h⟩⟩
   ·have h2:=mU P e1 hi;rw[if_neg e2]at h2;exact⟨b,dY h2,h⟩
theorem tZ {q:Prog} (hc:al q=0) {a t:Nat} {x y:Block} (P:x4 q a t x y) {i:Nat} {b:Block} (hb:q[i]?=some b) (hi:i≠a) {u:aQ} (hu:u∈goes b.2.2):
  ∃j:Nat,j≠t∧j<q.length∧jr q u=(j:Int)∧jr (ej q a t) u=((Ad t j:Nat):Int)∧u∈aF (ej q a t):=by
 have hn:=nU hc (dY hb) hu
 refine Nj hc P hn fun e=>?_
 have:=P.one _ (kz hb hu hn) e;dsimp only at this;omega
theorem G4 {q:Prog} (hc:al q=0) {a t:Nat} {x y:Block} (P:x4 q a t x y):al (ej q a t)=0:=by
 have hf:=cj hc;have lx:=(gh.1 P.hx).1;have ly:=(gh.1 P.hy).1;have cu:=P.ne;have hlen:=jm ly lx;refine EA (by omega) (by omega) ?_ ?_ ?_ (IH hc P) ?_
 ·rw[lH P.ne ly lx];exact fR hc
 ·intro b' gr;obtain⟨j,hj⟩:=List.getElem?_of_mem gr;obtain⟨i,b,h1,h2,h3,h4⟩:=sH P hj;split at h4
  ·have hX:=hf.2.2.2 x (dY P.hx);have hY:=hf.2.2.2 y (dY P.hy);rw[bM,Bool.and_eq_true,Bool.and_eq_true]at hX hY;rw[h4,bM,Bool.and_eq_true,Bool.and_eq_true];refine⟨⟨hX.1.1,hY.1.2⟩,?_⟩;show (x.2.1++y.2.1).all dc=true
   rw[List.all_append,hX.2,hY.2];rfl
  ·rw[h4];exact hf.2.2.2 b (dY h3)
 ·rw[KA hc P];exact hf.2.2.1
 ·intro b' gr u hu;obtain⟨j,hj⟩:=List.getElem?_of_mem gr;obtain⟨i,b,h1,h2,h3,h4⟩:=sH P hj;split at h4
  ·rw[h4]at hu;obtain⟨_,_,_,_,_,h5⟩:=tZ hc P P.hy cu hu;exact h5
  ·rename_i h6;rw[h4]at hu;obtain⟨_,_,_,_,_,h5⟩:=tZ hc P h3 h6 hu;exact h5
theorem G5 {q:Prog} (hw:Whole q) {a t:Nat} {x y:Block} (P:x4 q a t x y):Whole (ej q a t):=by
 have hc:=hw.vq;have lx:=(gh.1 P.hx).1;have ly:=(gh.1 P.hy).1;have hlen:=jm ly lx
 have Sw:(ej q a t)[Ad t a]?=some (ft x y):=by
  have:=mU P P.ne.symm P.hx;rwa[if_pos rfl]at this
 have hE:∀b∈q,eJ b.2.2=b.2.2:=fun b hb=>by
  obtain⟨i,hi⟩:=List.getElem?_of_mem hb;have h1:=tY hi;rw[hw.ends,hi]at h1;have h2:=Option.some.inj h1;show (mD b).2.2=_;rw[←h2]
 refine⟨G4 hc P,?_,?_⟩
 ·show (ej q a t).map mD=_;refine (List.map_congr_left fun b' gr=>?_).trans (List.map_id _);obtain⟨j,hj⟩:=List.getElem?_of_mem gr;obtain⟨i,b,h1,h2,h3,h4⟩:=sH P hj
  have e:eJ b'.2.2=b'.2.2:=by
   split at h4
   ·rw[h4];exact hE y (dY P.hy)
   ·rw[h4];exact hE b (dY h3)
  show (b'.1,b'.2.1,eJ b'.2.2)=b';rw[e]
 ·intro S h0 hS j hj;have ns:=P.pos
  have key:=hw.all (fun i=>S (if i=(t:Int) then ((Ad t a:Nat):Int) else ((Ad t i.toNat:Nat):Int))) (by
   rw[if_neg (by omega),show Ad t (0:Int).toNat=0 by unfold Ad;rw[if_pos (by exact ns)];rfl]
   exact h0) (fun e he hs=>by
   obtain⟨i,b,u,h1,h2,h3,h4,h5⟩:=Ey he
   by_cases e1:i=a
   ·have e2:=e1▸h1;rw[P.hx]at e2;have e2:=Option.some.inj e2;rw[←e2,goes,if_pos P.k,List.mem_singleton]at h3;rw[h5,h3,P.to,if_pos rfl];rw[h2,if_neg (by have:=P.ne;omega),e1,Int.toNat_natCast]at hs;exact hs
   ·obtain⟨j,g1,g2,g3,g4,g5⟩:=tZ hc P h1 e1 h3;rw[h5,g3,if_neg (by omega),Int.toNat_natCast]
    by_cases e3:i=t
    ·rw[h2,if_pos (by omega)]at hs;have e4:=e3▸h1;rw[P.hy]at e4;have e4:=Option.some.inj e4;rw[←e4]at h3;have:=hS _ (kz Sw (t:=u) h3 g5) hs
     try dsimp only at this
     rw[g4]at this;exact this
    ·rw[h2,if_neg (by omega),Int.toNat_natCast]at hs;have h6:=mU P e3 h1;rw[if_neg e1]at h6;have:=hS _ (kz h6 (t:=u) h3 g5) hs
     try dsimp only at this
     rw[g4]at this
     exact this)
  by_cases h:j<t
  ·have:=key j (by omega)
   try dsimp only at this
   rw[if_neg (by omega),Int.toNat_natCast,Ad,if_pos h]at this;exact this
  ·have:=key (j+1) (by omega)
   try dsimp only at this
   rw[if_neg (by omega),Int.toNat_natCast,Ad,if_neg (by omega),Nat.add_sub_cancel]at this;exact this
inductive Ends (p:Prog) (yE:List Nm):IF→Nat→List Nm→Prop
 | stop {s:IF} (h:(PA p (Pz p yE s)).2=false):Ends p yE s 1 (PA p (Pz p yE s)).1.2.2.2
 | step {s:IF} {k:Nat} {o:List Nm} (h:(PA p (Pz p yE s)).2=true) (hr:Ends p yE (PA p (Pz p yE s)).1 k o):Ends p yE s (k+1) o
theorem G6 {b:Block} (h:bM b=true):bM (mD b)=true:=by
 rw[bM,Bool.and_eq_true,Bool.and_eq_true]at h ⊢;refine⟨⟨h.1.1,?_⟩,h.2⟩;have hT:=h.1.2;show fJ (eJ b.2.2)=true;unfold eJ;split
 ·rename_i h2;unfold fJ at hT;rw[if_neg (by omega),if_pos h2,Bool.and_eq_true,Bool.and_eq_true]at hT;split
  ·rw[fJ,if_pos rfl]
   rw[hT.1.2];rfl
  ·split
   ·rw[fJ,if_pos rfl]
    rw[hT.1.1];rfl
   ·rw[fJ,if_neg (by omega),if_pos h2,hT.1.1,hT.1.2,hT.2];rfl
 ·exact hT
theorem PG (f:Block→Nat) {l m:Prog} (h:l.Sublist m):(l.map f).sum≤(m.map f).sum:=by
 induction h with
 | slnil=>exact Nat.le_refl _
 | cons a _ ih=>rw[List.map_cons,List.sum_cons];omega
 | cons_cons a _ ih=>rw[List.map_cons,List.map_cons,List.sum_cons,List.sum_cons];omega
theorem G7 {p:Prog} (h:al p=0) {R:List Int} (hR:cy (p.length:Nat) (aR (aG (aP p))) [0] R):Whole (cm (aP p) R p.length):=by
 have hK:=Kx h hR;have hl:(aP p).length=p.length:=cB p;have hf:=cj h;have wS:=Ac (aP p) R;rw[hl]at wS;obtain⟨b0,_,LC⟩:=hK.head;have S9:=(gh.1 LC).1;have B1:=wS.length_le
 have ZD:(aF (aP p)).Nodup:=by rw[pA];exact jN h
 refine⟨EA (by omega) (by omega) ?_ ?_ ?_ hK.nd hK.closed,?_,?_⟩
 ·have h1:=PG (fun b=>b.2.1.length) wS;have h2:aw (aP p)=aw p:=o0 p;have h3:=fR h;unfold aw at h2 h3 ⊢;omega
 ·intro b' gr;obtain⟨b,hb,rfl⟩:=hK.src b' gr;exact G6 (hf.2.2.2 b hb)
 ·exact Nat.le_trans (List.Nodup.length_le_of_subset (rj _) (fun t ht=>Ky hK t ht)) hf.2.2.1
 ·show (cm (aP p) R p.length).map mD=_;refine (List.map_congr_left fun b' gr=>?_).trans (List.map_id _);obtain⟨b,hb,rfl⟩:=hK.src b' gr
  show (b.1,b.2.1,eJ (eJ b.2.2))=(b.1,b.2.1,eJ b.2.2)
  rw[Kw]
 ·intro S h0 hS j hj
  have key:=hR.least (fun i=>∃(b:Block) (j:Nat),(aP p)[i.toNat]?=some b∧(cm (aP p) R p.length)[j]?=some b∧S (j:Int)) (fun x hx _=>by
    rw[List.mem_singleton]at hx;obtain⟨b,g1,g2⟩:=hK.head;subst hx
    exact⟨mD b,0,tY g1,g2,h0⟩) (fun x hx z hz=>by
    obtain⟨b,j,g1,g2,g3⟩:=hx;obtain⟨g4,g5,g6⟩:=lG.1 hz;obtain⟨i,b2,u,k1,k2,k3,k4,k5⟩:=Ey ((bJ _ _).1 g4);dsimp only at k2 k5;rw[k2,Int.toNat_natCast,k1]at g1;have e:=Option.some.inj g1;subst e;have hu:=hK.closed _ (dY g2) u k3;have Vk:=hS _ (kz g2 k3 hu) g3;dsimp only at Vk;obtain⟨b3,m1,m2,m3⟩:=qe hu;obtain⟨b4,n1,n2,n3⟩:=qe k4;obtain⟨k',_,_,o3⟩:=mT.1 (dY m2);have e2:=xY ZD n2 o3 (n3.trans m3.symm);refine⟨b3,(jr (cm (aP p) R p.length) u).toNat,?_,m2,?_⟩
    ·rw[k5,e2];exact o3
    ·rw[Int.toNat_of_nonneg m1.1];exact Vk)
  have T3:=aL hj;generalize (cm (aP p) R p.length)[j]=b at T3;obtain⟨k,_,h2,h3⟩:=mT.1 (dY T3);obtain⟨b2,j2,g1,g2,g3⟩:=key _ h2;rw[Int.toNat_natCast,h3]at g1;have e:=Option.some.inj g1;subst e;have:=xY hK.nd g2 T3 rfl;subst this;exact g3
end Go.Proofs
end
section
namespace Go.Proofs
open Go.Sy
end Go.Proofs
end
section
namespace Go.Proofs
open Go.Sy
end Go.Proofs
end
section
namespace Go.Proofs
open Go.Sy
end Go.Proofs
end
section
namespace Go.Proofs
open Go.Sy
end Go.Proofs
end
section
namespace Go.Proofs
open Go.Sy
theorem j6 (b c:iz):decide (sl (bs b.l)=sl (bs c.l))=decide (b=c):=by
 obtain⟨b⟩:=b;obtain⟨c⟩:=c;rw[decide_eq_decide,dM,dM];exact⟨fun h=>by cases h;rfl,fun h=>by cases h;rfl⟩
theorem BD (s t:Stmt):(!(decide (s.1=t.1)&&(decide (sl (bs s.2.1.l)=sl (bs t.2.1.l))&&(decide (s.2.2.1=t.2.2.1)&&(decide (sl (bs s.2.2.2.1.1.l)=sl (bs t.2.2.2.1.1.l))&&(decide (s.2.2.2.1.2.1=t.2.2.2.1.2.1)&&(decide (s.2.2.2.1.2.2=t.2.2.2.1.2.2)&&true)&&true)&&(decide (sl (bs s.2.2.2.2.1.l)=sl (bs t.2.2.2.2.1.l))&&(decide (s.2.2.2.2.2.1=t.2.2.2.2.2.1)&&(decide (s.2.2.2.2.2.2=t.2.2.2.2.2.2)&&true)&&true)&&true))&&true))))=decide (s≠t):=by
 rw[j6,j6,j6];obtain⟨a,b,c,⟨d,e,f⟩,g,h,i⟩:=s;obtain⟨a',b',c',⟨d',e',f'⟩,g',h',i'⟩:=t;rw[Bool.eq_iff_iff];simp [and_assoc,or_assoc]
theorem Nk (s t:Term):(!(decide (s.1=t.1)&&(decide (sl (bs s.2.1.1.l)=sl (bs t.2.1.1.l))&&(decide (s.2.1.2.1=t.2.1.2.1)&&(decide (s.2.1.2.2=t.2.1.2.2)&&true)&&true)&&(decide (sl (bs s.2.2.1.l)=sl (bs t.2.2.1.l))&&(decide (sl (bs s.2.2.2.l)=sl (bs t.2.2.2.l))&&true)))))=decide (s≠t):=by
 rw[j6,j6,j6];obtain⟨a,⟨d,e,f⟩,g,h⟩:=s;obtain⟨a',⟨d',e',f'⟩,g',h'⟩:=t;rw[Bool.eq_iff_iff];simp [and_assoc,or_assoc]
end Go.Proofs
end
section
namespace Go.Proofs
open Go.Sy
def XO (x y:Stmt):Bool:=decide (x≠y)
end Go.Proofs
end
section
namespace Go.Proofs
open Go.Sy
open Tryz
variable {H:Hp} {K:Value→Hp→Prop}
theorem G8 {x y:List Stmt} {a a2:Option Addr} {n c n2 k2:Nat} (ha:RL H a n c x) (hb:RL H a2 n2 k2 y) (hK:K (.bool (decide (x=y))) H):aq prog 63 [.slice a n c,.slice a2 n2 k2] H K:=by
 have hn:=ha.aB;have lv:=hb.aB;have eI:=ha.le;refine ab af aa rfl func63 call63 ntmps63 results63 rfl rfl ?_;refine⟨fun h=>?_,fun h=>?_⟩
 ·have h1:¬n=n2:=by have:=nt h;omega
  exact aA hK (decide_eq_false (fun e=>h1 (by rw[hn,lv,e])))
 ·have h1:n=n2:=by have:=nf h;omega
  refine⟨Nat,fun i=>⟨[(0,.v (.slice a n c)),(1,.v (.slice a2 n2 k2)),(11,.v (.slice a n c)),(12,.v (.int .i64 n)),(13,.v (.int .i64 i))],[],0⟩,
   fun i H'=>H'=H∧i≤x.length∧∀j<i,x[j]?=y[j]?,fun i=>x.length - i,⟨0,[],?_,rfl,Nat.zero_le _,fun j hj=>(by cases hj)⟩,?_⟩
  ·(repeat' first|exact trivial|refine⟨?_,?_⟩|exact rfl|assumption)
  rintro i H1 _ ⟨rfl,hi,hx⟩;refine⟨fun h=>?_,fun h=>?_⟩
  ·have aj:i<x.length:=by have:=dt h;omega
   have dK:i<y.length:=by omega
   have ex:=aL aj;have ey:=aL dK
   refine du ha ex fun ad q1 hh _=>?_
   refine du hb ey fun iy q2 gj _=>?_
   refine⟨some ([],[0,1,2,3,4,5,6,7,8]),by kernel_rfl,?_⟩;refine⟨ad,⟨by omega,by omega,q1⟩,?_⟩;refine⟨_,hh,?_⟩;refine⟨iy,⟨by omega,by omega,q2⟩,?_⟩;refine⟨_,gj,?_⟩;refine⟨fun h=>?_,fun h=>?_⟩
   ·have h1:XO x[i] y[i]=true:=(BD _ _).symm.trans h;have cu:¬x[i]=y[i]:=dt h1;exact aA hK (decide_eq_false (fun e=>cu (by subst e;rfl)))
   ·have h1:XO x[i] y[i]=false:=(BD _ _).symm.trans h
    have heq:x[i]=y[i]:=by
     have:=df h1;exact Classical.not_not.1 this
    refine⟨⟨by omega,by omega⟩,i+1,[],?_,⟨rfl,aj,fun j hj=>?_⟩,by dsimp only;omega⟩
    ·(repeat' first|exact trivial|refine⟨?_,?_⟩|exact rfl|assumption)
    ·rcases Nat.lt_succ_iff_lt_or_eq.1 hj with h | h
     ·exact hx j h
     ·rw[h,ex,ey,heq]
  ·have aX:i=x.length:=by have:=df h;omega
   exact aA hK (decide_eq_true (dX (by omega) (fun j hj=>hx j (by omega))))
theorem Nl (s t:Term):(decide (s.1=t.1)&&(decide (sl (bs s.2.1.1.l)=sl (bs t.2.1.1.l))&&(decide (s.2.1.2.1=t.2.1.2.1)&&(decide (s.2.1.2.2=t.2.1.2.2)&&true)&&true)&&(decide (sl (bs s.2.2.1.l)=sl (bs t.2.2.1.l))&&(decide (sl (bs s.2.2.2.l)=sl (bs t.2.2.2.l))&&true))))=decide (s=t):=by
 rw[j6,j6,j6];obtain⟨a,⟨d,e,f⟩,g,h⟩:=s;obtain⟨a',⟨d',e',f'⟩,g',h'⟩:=t;rw[Bool.eq_iff_iff];simp [and_assoc]
abbrev UD (v:Value) (b:Block):List Value:=[.string (bs b.1.l),v,.int .i64 b.2.2.1,.string (bs b.2.2.2.1.1.l),.int .i64 b.2.2.2.1.2.1,.int .i64 b.2.2.2.1.2.2,.string (bs b.2.2.2.2.1.l),.string (bs b.2.2.2.2.2.l)]
theorem G9 {x y:Block} {a a2:Option Addr} {n c n2 k2:Nat} (ha:RL H a n c x.2.1) (hb:RL H a2 n2 k2 y.2.1) (hK:K (.bool (decide (x=y))) H):aq prog 62 [.agg (UD (.slice a n c) x).toArray,.agg (UD (.slice a2 n2 k2) y).toArray] H K:=by
 have hF:¬x=y→K (.bool false) H:=fun h=>by rw[decide_eq_false h]at hK;exact hK
 refine ab af aa rfl func62 call62 ntmps62 results62 rfl rfl ?_;refine⟨fun h=>?_,fun h=>?_⟩
 ·have h1:x.1=y.1:=by
   have:=(j6 x.1 y.1).symm.trans h;exact dt this
  refine⟨fun h=>?_,fun h=>?_⟩
  ·have h2:x.2.2=y.2.2:=dt ((Nl x.2.2 y.2.2).symm.trans h);refine G8 ha hb ?_
   have e:decide (x=y)=decide (x.2.1=y.2.1):=by
    rw[decide_eq_decide];exact⟨fun e=>by rw[e],fun e=>Prod.ext h1 (Prod.ext e h2)⟩
   rw[e]at hK;exact hK
  ·have h2:¬x.2.2=y.2.2:=df ((Nl x.2.2 y.2.2).symm.trans h)
   exact hF fun e=>h2 (by rw[e])
 ·have h1:¬x.1=y.1:=by
   have:=(j6 x.1 y.1).symm.trans h;exact df this
  exact hF fun e=>h1 (by rw[e])
theorem EB {A B:Prog} {a a2:Option Addr} {n c n2 k2:Nat} {H:Hp} {K:SV→St→Hp→Prop} (ha:RL H a n c A) (hb:RL H a2 n2 k2 B) (hK:K (.v (.bool (decide (A=B)))) ⟨[],[],0⟩ H):
  aY prog 61 [.v (.slice a n c),.v (.slice a2 n2 k2),.fn 62 []] [] 0 H K:=by
 have hn:=ha.aB;have lv:=hb.aB;have eI:=ha.le
 have hF:¬A=B→K (.v (.bool false)) ⟨[],[],0⟩ H:=fun h=>by rw[decide_eq_false h]at hK;exact hK
 refine aJ af aa func61 call61 ntmps61 results61 rfl rfl ?_;refine⟨fun h=>?_,fun h=>?_⟩
 ·have h1:¬n=n2:=by have:=nt h;omega
  exact⟨.v (.bool false),[],0,[],by (repeat' first|exact trivial|refine⟨?_,?_⟩|exact rfl|assumption),hF (fun e=>h1 (by rw[hn,lv,e]))⟩
 ·have h1:n=n2:=by have:=nf h;omega
  refine⟨Nat,fun i=>⟨[(1,.v (.slice a2 n2 k2)),(2,.fn 62 []),(15,.v (.slice a n c)),(16,.v (.int .i64 n)),(17,.v (.int .i64 i))],[],0⟩,
   fun i H'=>H'=H∧i≤A.length∧∀j<i,A[j]?=B[j]?,fun i=>A.length - i,⟨0,[],?_,rfl,Nat.zero_le _,fun j hj=>(by cases hj)⟩,?_⟩
  ·(repeat' first|exact trivial|refine⟨?_,?_⟩|exact rfl|assumption)
  rintro i H1 _ ⟨rfl,hi,hx⟩;refine⟨fun h=>?_,fun h=>?_⟩
  ·have aj:i<A.length:=by have:=dt h;omega
   have dK:i<B.length:=by omega
   have ex:=aL aj;have ey:=aL dK
   refine bF ha ex fun ad a5 n5 c5 q1 hh bh _ _=>?_
   refine bF hb ey fun iy a6 n6 c6 q2 gj bj _ _=>?_
   refine⟨ad,⟨by omega,by omega,q1⟩,?_⟩;refine⟨_,hh,?_⟩;refine⟨iy,⟨by omega,by omega,q2⟩,?_⟩;refine⟨_,gj,?_⟩;refine G9 bh bj ?_;refine⟨fun h=>?_,fun h=>?_⟩
   ·have cu:¬A[i]=B[i]:=nt h;exact⟨.v (.bool false),[],0,[],by (repeat' first|exact trivial|refine⟨?_,?_⟩|exact rfl|assumption),hF (fun e=>cu (by subst e;rfl))⟩
   ·have heq:A[i]=B[i]:=nf h;refine⟨⟨by omega,by omega⟩,i+1,[],?_,⟨rfl,aj,fun j hj=>?_⟩,by dsimp only;omega⟩
    ·(repeat' first|exact trivial|refine⟨?_,?_⟩|exact rfl|assumption)
    ·rcases Nat.lt_succ_iff_lt_or_eq.1 hj with h | h
     ·exact hx j h
     ·rw[h,ex,ey,heq]
  ·have aX:i=A.length:=by have:=df h;omega
   rw[decide_eq_true (dX (by omega) (fun j hj=>hx j (by omega)))]at hK;exact⟨.v (.bool true),[],0,[],by (repeat' first|exact trivial|refine⟨?_,?_⟩|exact rfl|assumption),hK⟩
theorem lL {A B:Prog} {a a2:Option Addr} {n c n2 k2:Nat} (ha:RL H a n c A) (hb:RL H a2 n2 k2 B) (hK:K (.bool (decide (A=B))) H):aq prog 32 [.agg #[.slice a n c],.agg #[.slice a2 n2 k2]] H K:=by
 refine ab af aa rfl func32 call32 ntmps32 results32 rfl rfl ?_;refine⟨[],rfl,EB ha hb ?_⟩;exact hK
end Go.Proofs
end
section
namespace Go.Proofs
open Go.Sy
open Tryz
theorem Nn (b c:iz):(!decide (sl (bs b.l)=sl (bs c.l)))=decide (b≠c):=by
 rw[j6]
 by_cases h:b=c
 ·rw[decide_eq_true h,decide_eq_false (fun h2=>h2 h)];rfl
 ·rw[decide_eq_false h,decide_eq_true h];rfl
theorem rl {A B:Prog} {a a2:Option Addr} {n c n2 c2:Nat} {H:Hp} {K:Value→Hp→Prop} (ha:RL H a n c A) (hb:RL H a2 n2 c2 B) (hK:K (.bool (decide (A=B))) H):aq prog 18 [.agg #[.slice a n c],.agg #[.slice a2 n2 c2]] H K:=by
 have dd:=ha.aB;have eI:=ha.le;have lv:=hb.aB
 have hF:¬A=B→K (.bool false) H:=fun h=>by rw[decide_eq_false h]at hK;exact hK
 refine ab af aa rfl func18 call18 ntmps18 results18 rfl rfl ?_;refine⟨fun h=>hF (fun e=>nt h (by rw[dd,lv,e])),fun h=>?_⟩
 have TZ:n=n2:=by have:=nf h;omega
 refine⟨Nat,fun i=>⟨[(2,.ptr 0 0),(3,.ptr 1 0),(17,.v (.slice a n c)),(18,.v (.int .i64 n)),(19,.v (.int .i64 i))],
   [(0,.cells 24 [.v (.slice a n c)]),(1,.cells 24 [.v (.slice a2 n2 c2)])],2⟩,
  fun i H'=>H'=H∧i≤A.length∧∀j<i,A[j]?=B[j]?,fun i=>A.length - i,⟨0,[(0,0),(1,1)],?_,rfl,Nat.zero_le _,fun j hj=>(by cases hj)⟩,?_⟩
 ·(repeat' first|exact trivial|refine⟨?_,?_⟩|exact rfl|assumption)
 rintro i H1 _ ⟨rfl,hi,hx⟩;refine⟨fun h=>?_,fun h=>?_⟩
 ·have aj:i<A.length:=by have:=dt h;omega
  have dK:i<B.length:=by omega
  refine aD A[i] fun x Ds=>?_
  have oi:A[i]?=some x:=by rw[Ds];exact aL aj
  refine aD B[i] fun y Pj=>?_
  have B5:B[i]?=some y:=by rw[Pj];exact aL dK
  have cu:¬x=y→K (.bool false) H1:=fun h=>hF fun e=>h (by rw[e,B5]at oi;exact (Option.some.inj oi).symm)
  refine bF ha oi fun ad a5 n5 c5 q1 hh ct xw vR=>?_
  refine⟨ad,⟨by omega,by omega,q1⟩,?_⟩;refine⟨_,hh,?_⟩
  refine bF hb B5 fun iy a6 n6 c6 q2 gj ji Wx XK=>?_
  have xl:=ct.aB;have E8:=ji.aB;have RN:=ct.le;refine⟨some ([],[0,1,2,3,4,5,6,7,8,9,10,11,12,13,14,15,16,17,18,19,20,21,22,23,24,25,26,27,28,29,30,31,32]),by kernel_rfl,?_⟩;refine⟨iy,⟨by omega,by omega,q2⟩,?_⟩;refine⟨_,gj,?_⟩;refine⟨fun h=>?_,fun h=>?_⟩
  ·have h1:x.1=y.1:=Classical.not_not.1 (df ((Nn x.1 y.1).symm.trans h));refine⟨iy,⟨by omega,by omega,q2⟩,?_⟩;refine⟨_,gj,?_⟩;refine⟨fun h=>?_,fun h=>?_⟩
   ·have h2:x.2.2=y.2.2:=Classical.not_not.1 (df ((Nk x.2.2 y.2.2).symm.trans h));refine⟨iy,⟨by omega,by omega,q2⟩,?_⟩;refine⟨_,gj,?_⟩;refine⟨fun h=>cu (fun e=>nt h (by rw[xl,E8,e])),fun h=>?_⟩
    have h56:n5=n6:=by have:=nf h;omega
    refine⟨Nat,fun k=>⟨[(2,.ptr 0 0),(3,.ptr 1 0),(5,.v (.int .i64 (i:Nat))),(17,.v (.slice a n c)),(18,.v (.int .i64 n)),(19,.v (.int .i64 (i:Nat))),(58,.v (.slice a5 n5 c5)),(59,.v (.int .i64 n5)),(60,.v (.int .i64 k))],
      [(0,.cells 24 [.v (.slice a n c)]),(1,.cells 24 [.v (.slice a2 n2 c2)])],2⟩,
     fun k H'=>H'=H1∧k≤x.2.1.length∧∀j<k,x.2.1[j]?=y.2.1[j]?,fun k=>x.2.1.length - k,⟨0,[(0,0),(1,1)],?_,rfl,Nat.zero_le _,fun j hj=>(by cases hj)⟩,?_⟩
    ·(repeat' first|exact trivial|refine⟨?_,?_⟩|exact rfl|assumption)
    rintro k H2 _ ⟨rfl,hk,XP⟩;refine⟨fun h=>?_,fun h=>?_⟩
    ·have e8:k<x.2.1.length:=by have:=dt h;omega
     have No:k<y.2.1.length:=by omega
     refine aD x.2.1[k] fun s Be=>?_
     have dy:x.2.1[k]?=some s:=by rw[Be];exact aL e8
     refine aD y.2.1[k] fun t Pg=>?_
     have AO:y.2.1[k]?=some t:=by rw[Pg];exact aL No
     refine du ct dy fun sy q3 ql _=>?_
     refine du ji AO fun Si q4 Sj _=>?_
     refine⟨sy,⟨by omega,by omega,q3⟩,?_⟩;refine⟨_,ql,?_⟩;refine⟨some ([],[0,1,2,3,4,5,6,7,8,9,10]),by kernel_rfl,?_⟩;refine⟨iy,⟨by omega,by omega,q2⟩,?_⟩;refine⟨_,gj,?_⟩;refine⟨Si,⟨by omega,by omega,q4⟩,?_⟩;refine⟨_,Sj,?_⟩;refine⟨fun h=>?_,fun h=>?_⟩
     ·have h3:¬s=t:=dt ((BD s t).symm.trans h)
      exact cu fun e=>h3 (by rw[e,AO]at dy;exact (Option.some.inj dy).symm)
     ·have h3:s=t:=Classical.not_not.1 (df ((BD s t).symm.trans h));refine⟨⟨by omega,by omega⟩,k+1,[(0,0),(1,1)],?_,⟨rfl,by omega,fun j hj=>?_⟩,by dsimp only;omega⟩
      ·(repeat' first|exact trivial|refine⟨?_,?_⟩|exact rfl|assumption)
      ·rcases Nat.lt_succ_iff_lt_or_eq.1 hj with h | h
       ·exact XP j h
       ·rw[h,dy,AO,h3]
    ·have e8:k=x.2.1.length:=by have:=df h;omega
     have h3:x.2.1=y.2.1:=dX (by omega) (fun j hj=>XP j (by omega));have N8:x=y:=Prod.ext h1 (Prod.ext h3 h2);refine⟨⟨by omega,by omega⟩,i+1,[(0,0),(1,1)],?_,⟨rfl,by omega,fun j hj=>?_⟩,by dsimp only;omega⟩
     ·(repeat' first|exact trivial|refine⟨?_,?_⟩|exact rfl|assumption)
     ·rcases Nat.lt_succ_iff_lt_or_eq.1 hj with h | h
      ·exact hx j h
      ·rw[h,oi,B5,N8]
   ·have h2:¬x.2.2=y.2.2:=dt ((Nk x.2.2 y.2.2).symm.trans h)
    exact cu fun e=>h2 (by rw[e])
  ·have h1:¬x.1=y.1:=dt ((Nn x.1 y.1).symm.trans h)
   exact cu fun e=>h1 (by rw[e])
 ·have aX:i=A.length:=by have:=df h;omega
  exact aA hK (decide_eq_true (dX (by omega) (fun j hj=>hx j (by omega))))
end Go.Proofs
end
