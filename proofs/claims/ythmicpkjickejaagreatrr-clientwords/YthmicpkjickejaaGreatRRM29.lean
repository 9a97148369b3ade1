/- Part 'M29' of the proof (Gw1, Gw2, Dl, Mg2, Mg3, Mg4, Mg5, W0, W1, W2, W3, W4, W5, W6, W7, W8, W9, W10, W11, W12, W13, W14, W15, Fo0, Cw2, Rn0, Px0, Px1, W16, Fo1, Fo2, Fo3, Ex1, Ex2, Ex3, Ex4): lemmas, each with its own conditions in its own statement. -/
import Derived.Test.YthmicpkjickejaaGreatRRM12
import Derived.Test.YthmicpkjickejaaGreatRRM22
import Derived.Test.YthmicpkjickejaaGreatRRM27
import Derived.Test.YthmicpkjickejaaGreatRRM28
import Derived.Test.YthmicpkjickejaaGreatRRM3
section
namespace Go.Proofs
open Go.Sy Go.Shelf Go.RowKit Go.Lib
set_option maxRecDepth 20000
end Go.Proofs
end
section
namespace Go.Proofs
open Go.Sy
set_option maxRecDepth 20000
set_option maxHeartbeats 4000000
end Go.Proofs
end
section
namespace Go.Proofs
open Go.Sy
set_option maxRecDepth 20000
end Go.Proofs
end
section
namespace Go.Proofs
open Go.Sy
set_option maxRecDepth 20000
set_option maxHeartbeats 4000000
theorem RC.drop {α:Type} [Enc α] {H:Hp} {css:List (List Value)} {xs:List α} (h:RC H css xs) (k:Nat):RC H (css.drop k) (xs.drop k):=by
 have hl:css.length=xs.length:=h.1;refine⟨by rw[List.length_drop,List.length_drop,hl],fun i cs x h1 h2=>?_⟩;rw[List.getElem?_drop]at h1 h2;exact h.2 _ cs x h1 h2
end Go.Proofs
end
section
namespace Go.Proofs
open Go.Sy
set_option maxRecDepth 20000
set_option maxHeartbeats 4000000
end Go.Proofs
end
section
namespace Go.Proofs
open Go.Sy
set_option maxRecDepth 20000
set_option maxHeartbeats 4000000
theorem of_row_k {α:Type} [Enc α] {P:Prop} {H:Hp} {v:Value} {css:List (List Value)} {xs:List α} (h:RowAt H v (Enc.sz α) css) (hc:RC H css xs) (k:∀a n c,v = .slice a n c→RL H a n c xs→P):P:=by
 obtain⟨a,n,c,e,hr⟩:=RL.of_row h hc;exact k a n c e hr
end Go.Proofs
end
section
namespace Go.Proofs
open Go.Sy
set_option maxRecDepth 20000
set_option maxHeartbeats 4000000
end Go.Proofs
end
section
namespace Go.Proofs
open Go.Sy
set_option maxRecDepth 20000
def wordN (a:Nm):Nat:=(wrp a.1 % 65536).toNat+65536*(wrp a.2 % 65536).toNat
def kOf (a:Nm):Nat:=2+4*wordN a
def kIs (w:Nat):Bool:=(kNum w).isSome||decide (w=0)||decide (w=1)
def kNorm (w:Nat):Nat:=if kIs w then w else 1
theorem wordN_lt (a:Nm):wordN a<4294967296:=by unfold wordN;omega
theorem kOf_lt (a:Nm):kOf a<17179869184:=by have:=wordN_lt a;unfold kOf;omega
theorem or_add (k:Nat) {a b:Nat} (h:a<2 ^ k):a ||| b*2 ^ k=a+b*2 ^ k:=by
 rw[Nat.or_comm,Nat.mul_comm b,←Nat.two_pow_add_eq_or_of_lt h,Nat.add_comm]
theorem bits_or {x y z:Int} {a b:Nat} (hx:x=a) (hy:y=b) (ha:a<18446744073709551616) (hb:b<18446744073709551616) (hz:a ||| b=z.toNat) (hz0:0≤z) (hz1:z<18446744073709551616):
  IntKind.u64.wrap ((BitVec.ofInt IntKind.u64.bits x ||| BitVec.ofInt IntKind.u64.bits y).toNat:Int)=z:=by
 subst hx hy;show IntKind.u64.wrap ((BitVec.ofInt 64 (a:Int) ||| BitVec.ofInt 64 (b:Int)).toNat:Int)=_;rw[BitVec.toNat_or,BitVec.ofInt_natCast,BitVec.ofInt_natCast,BitVec.toNat_ofNat,BitVec.toNat_ofNat,Nat.mod_eq_of_lt (by simpa using ha),Nat.mod_eq_of_lt (by simpa using hb),hz,IntKind.wrap_u64];omega
end Go.Proofs
end
section
namespace Go.Proofs
open Go.Sy
set_option maxRecDepth 20000
set_option maxHeartbeats 4000000
abbrev nmV (a:Nm):Value:=.agg #[.int .i64 a.1,.int .i64 a.2]
theorem kint {K:Value→Hp→Prop} {H:Hp} {k:IntKind} {x y:Int} (h:K (.int k x) H) (e:x=y):K (.int k y) H:=e▸h
theorem gword_spec {a:Nm} {H:Hp} {K:Value→Hp→Prop} (hK:K (.int .u64 (wordN a:Nat)) H):Does Tryz.prog 111 [nmV a] H K:=by
 refine spec_of cxw_ok cx_mix rfl Tryz.func111 Tryz.call111 Tryz.ntmps111 Tryz.results111 rfl rfl ?_;refine⟨some ([],[0,1,5,6,2,3,4,7,8,9,10,11,12]),by kernel_rfl,?_⟩;refine gwrap_spec ?_;refine gwrap_spec ?_;refine⟨by decide,?_⟩;have h1:=wrp_le a.1;have h2:=wrp_le a.2;refine kint hK ((bits_or (a:=(wrp a.1 % 65536).toNat) (b:=(wrp a.2 % 65536).toNat*2 ^ 16) ?_ ?_ (by omega) (by omega) ?_ (by omega) (by have:=wordN_lt a;omega)).symm)
 ·show IntKind.u64.wrap (IntKind.u16.wrap (wrp a.1))=_
  rw[IntKind.wrap_u64,IntKind.wrap_u16];omega
 ·show IntKind.u64.wrap (IntKind.u64.wrap (IntKind.u16.wrap (wrp a.2))*65536)=_
  rw[IntKind.wrap_u64,IntKind.wrap_u64,IntKind.wrap_u16];omega
 ·rw[or_add 16 (by omega),wordN];omega
theorem rword_spec {a:Nm} {H:Hp} {K:Value→Hp→Prop} (hK:K (.int .u64 (wordN a:Nat)) H):Does Tryz.prog 134 [nmV a] H K:=by
 refine spec_of cx_ok cx_mix rfl Tryz.func134 Tryz.call134 Tryz.ntmps134 Tryz.results134 rfl rfl ?_;refine rof_spec ?_;have h1:=wrp_le a.1;have h2:=wrp_le a.2;refine⟨⟨by dsimp only;omega,by dsimp only;omega⟩,?_⟩
 have t1:Int.tmod (wrp a.1+65536) 65536=wrp a.1 % 65536:=by rw[Int.tmod_eq_emod_of_nonneg (by omega)];omega
 have t2:Int.tmod (wrp a.2+65536) 65536=wrp a.2 % 65536:=by rw[Int.tmod_eq_emod_of_nonneg (by omega)];omega
 refine⟨by decide,?_⟩;refine⟨⟨?_,?_⟩,?_⟩
 ·show (0:Int)≤Int.tmod (wrp a.1+65536) 65536;omega
 ·show Int.tmod (wrp a.1+65536) 65536≤18446744073709551615;omega
 refine⟨⟨by dsimp only;omega,by dsimp only;omega⟩,?_⟩;refine⟨by decide,?_⟩;refine⟨⟨?_,?_⟩,?_⟩
 ·show (0:Int)≤Int.tmod (wrp a.2+65536) 65536;omega
 ·show Int.tmod (wrp a.2+65536) 65536≤18446744073709551615;omega
 refine⟨⟨?_,?_⟩,?_⟩
 ·show (0:Int)≤65536*Int.tmod (wrp a.2+65536) 65536;omega
 ·show 65536*Int.tmod (wrp a.2+65536) 65536≤18446744073709551615;omega
 refine⟨⟨?_,?_⟩,?_⟩
 ·show (0:Int)≤Int.tmod (wrp a.1+65536) 65536+65536*Int.tmod (wrp a.2+65536) 65536;omega
 ·show Int.tmod (wrp a.1+65536) 65536+65536*Int.tmod (wrp a.2+65536) 65536≤18446744073709551615;omega
 refine kint hK ?_;show (wordN a:Int)=Int.tmod (wrp a.1+65536) 65536+65536*Int.tmod (wrp a.2+65536) 65536
 rw[t1,t2,wordN];omega
theorem kof_spec {a:Nm} {H:Hp} {K:Value→Hp→Prop} (hK:K (.int .u64 (kOf a:Nat)) H):Does Tryz.prog 59 [nmV a] H K:=by
 refine spec_of cx_ok cx_mix rfl Tryz.func59 Tryz.call59 Tryz.ntmps59 Tryz.results59 rfl rfl ?_;refine gword_spec ?_;have h:=wordN_lt a;refine⟨by decide,?_⟩;refine⟨⟨?_,?_⟩,?_⟩
 ·show (0:Int)≤(wordN a:Int)*4;omega
 ·show (wordN a:Int)*4≤18446744073709551615;omega
 refine kint hK ((bits_or (a:=2) (b:=wordN a*2 ^ 2) rfl (by show (wordN a:Int)*4=_;omega) (by omega) (by omega) ?_ (by omega) (by have:=kOf_lt a;omega)).symm)
 rw[or_add 2 (by omega),kOf];omega
theorem rkof_spec {a:Nm} {H:Hp} {K:Value→Hp→Prop} (hK:K (.int .u64 (kOf a:Nat)) H):Does Tryz.prog 91 [nmV a] H K:=by
 refine spec_of cx_ok cx_mix rfl Tryz.func91 Tryz.call91 Tryz.ntmps91 Tryz.results91 rfl rfl ?_;refine rword_spec ?_;have h:=wordN_lt a;refine⟨⟨by omega,by omega⟩,?_⟩;refine⟨⟨by omega,by omega⟩,?_⟩;exact kint hK (by rw[kOf];omega)
end Go.Proofs
end
section
namespace Go.Proofs
open Go.Sy
set_option maxRecDepth 20000
set_option maxHeartbeats 4000000
theorem rnorm_spec {w:Nat} (hw:w<18446744073709551616) {H:Hp} {K:Value→Hp→Prop} (hK:K (.int .u64 (kNorm w:Nat)) H):Does Tryz.prog 74 [.int .u64 w] H K:=by
 refine spec_of cx_ok cx_mix rfl Tryz.func74 Tryz.call74 Tryz.ntmps74 Tryz.results74 rfl rfl ?_;refine rnum_spec hw ?_;refine⟨fun h=>?_,fun h=>?_⟩
 ·have h0:¬w=0:=by have:=nt h;omega
  refine⟨fun h=>?_,fun h=>?_⟩
  ·have h1:¬(kNum w).isSome=true:=by simpa using h
   refine kint hK ?_
   by_cases h2:w=1
   ·rw[h2];rfl
   ·rw[kNorm,if_neg (by rw[kIs];simp [h0,h2,h1])];rfl
  ·have h1:(kNum w).isSome=true:=by simpa using h
   exact kint hK (by rw[kNorm,if_pos (by rw[kIs,h1];rfl)])
 ·have h0:w=0:=by have:=nf h;omega
  exact kint hK (by rw[h0];rfl)
theorem word_k {P:Prop} {H:Hp} {a:Option Addr} {n c:Nat} {xs:List UInt64} (h:RL H a n c xs) {i:Nat} {x:UInt64} (hi:xs[i]?=some x) (k:∀ad,a=some ad→ElemH H ad (i:Int) 1 [.int .u64 (x.toNat:Nat)]→x.toNat<18446744073709551616→P):P :=
 elem_k h hi fun ad cs h1 h2 h3=>by
  have e:cs=[.int .u64 (x.toNat:Nat)]:=h3;subst e;exact k ad h1 h2 x.toNat_lt
theorem u64_of {w:Nat} (h:w<18446744073709551616):(UInt64.ofNat w).toNat=w:=UInt64.toNat_ofNat_of_lt' (by show w<2 ^ 64;omega)
theorem rc_w {H:Hp} {l:List UInt64}:RC (α:=UInt64) H (l.map fun w=>[Value.int .u64 (w.toNat:Nat)]) l:=by
 refine⟨by simp,fun i cs x h1 h2=>?_⟩;rw[List.getElem?_map,h2]at h1;cases h1;exact rfl
end Go.Proofs
end
section
namespace Go.Proofs
open Go.Sy
set_option maxRecDepth 20000
set_option maxHeartbeats 4000000
abbrev Wd:=List UInt64
abbrev c2 (w:Nat):List (Nat×Bx):=[(0,.cells 3 [.v (.int .i64 3)]),(1,.cells 3 [.v (.int .i64 (w:Nat))])]
end Go.Proofs
end
section
namespace Go.Proofs
open Go.Sy
set_option maxRecDepth 20000
set_option maxHeartbeats 4000000
abbrev Rf:=Int×Nm
abbrev Cd:=Int×Int×Rf×Rf
abbrev refV (r:Rf):List Value:=[.int .i64 r.1,.int .i64 r.2.1,.int .i64 r.2.2]
abbrev codeV (c:Cd):List Value:=[.int .i64 c.1,.int .i64 c.2.1,.int .i64 c.2.2.1.1,.int .i64 c.2.2.1.2.1,.int .i64 c.2.2.1.2.2,.int .i64 c.2.2.2.1,.int .i64 c.2.2.2.2.1,.int .i64 c.2.2.2.2.2]
theorem code_open {H:Hp} {cs:List Value} {c:Cd} (h:Enc.R H cs c):cs=codeV c:=by
 obtain⟨x1,x2,rfl,⟨rfl,_⟩,y1,y2,rfl,⟨rfl,_⟩,z1,z2,rfl,⟨u1,u2,rfl,⟨rfl,_⟩,v1,v2,rfl,⟨rfl,_⟩,⟨rfl,_⟩⟩,⟨u3,u4,rfl,⟨rfl,_⟩,v3,v4,rfl,⟨rfl,_⟩,⟨rfl,_⟩⟩⟩:=h
 rfl
theorem code_k {P:Prop} {H:Hp} {a:Option Addr} {n c:Nat} {xs:List Cd} (h:RL H a n c xs) {i:Nat} {x:Cd} (hi:xs[i]?=some x) (k:∀ad,a=some ad→ElemH H ad (i:Int) 8 (codeV x)→P):P :=
 elem_k h hi fun ad cs h1 h2 h3=>by
  have e:=code_open h3;subst e;exact k ad h1 h2
abbrev vL (l:List Value):List SV:=l.map .v
abbrev c1 (w:Nat):List (Nat×Bx):=[(0,.cells 3 [.v (.int .i64 (w:Nat))])]
abbrev trA (a:Option Addr) (n c:Nat):Value:=.agg #[.slice none 0 0,.slice none 0 0,.slice a n c]
abbrev uRows (l:Wd):List (List Value):=l.map fun w=>[.int .u64 (w.toNat:Nat)]
end Go.Proofs
end
section
namespace Go.Proofs
open Go.Sy
set_option maxRecDepth 20000
set_option maxHeartbeats 4000000
theorem uRows_get {v:Wd} {i:Int} (h0:0≤i) (h1:i<(v.length:Nat)):(uRows v)[i.toNat]?=some [.int .u64 ((v[i.toNat]?.getD 0).toNat:Nat)]:=by
 have h:i.toNat<v.length:=by omega
 rw[List.getElem?_map,List.getElem?_eq_getElem h];rfl
theorem uRows_len (v:Wd):(uRows v).length=v.length:=List.length_map _
theorem uRows_set (v:Wd) (i:Nat) {x:Nat} (hx:x<18446744073709551616):(uRows v).set i [.int .u64 (x:Nat)]=uRows (v.set i (UInt64.ofNat x)):=by
 rw[uRows,uRows,List.map_set,u64_of hx]
abbrev b2 (v:Wd):List (Nat×Bx):=[(0,.cells 25 [.own 1]),(1,.row 66 1 (uRows v))]
end Go.Proofs
end
section
namespace Go.Proofs
open Go.Sy
set_option maxRecDepth 20000
set_option maxHeartbeats 4000000
end Go.Proofs
end
section
namespace Go.Proofs
open Go.Sy
set_option maxRecDepth 20000
set_option maxHeartbeats 4000000
structure Tr3 where
 l:List Cd
instance:Enc Tr3 where
 sz:=3
 R H cs x:=∃a n c,cs=[.slice none 0 0,.slice none 0 0,.slice a n c]∧RL H a n c x.l
 len h:=by obtain⟨_,_,_,rfl,_⟩:=h;rfl
 one h:=by obtain⟨_,_,_,rfl,_⟩:=h;intro u hu;simp at hu;rcases hu with rfl | rfl<;>rfl
 up hle h:=by obtain⟨a,n,c,e,h⟩:=h;exact⟨a,n,c,e,h.up hle⟩
structure Sy3 where
 w:Nat
 m:Nat
 E:List Edg
 ent:List Int
 ini:Wd
 T:List (List Cd)
structure SA where
 ea:Option Addr
 en:Nat
 ec:Nat
 na:Option Addr
 nn:Nat
 nc:Nat
 ia:Option Addr
 ni:Nat
 ic:Nat
 ta:Option Addr
 tn:Nat
 tc:Nat
abbrev sysV (s:Sy3) (z:SA):List Value:=[.int .i64 3,.int .i64 (s.w:Nat),.int .i64 (s.m:Nat),.slice z.ea z.en z.ec,.slice z.na z.nn z.nc,.slice z.ia z.ni z.ic,.slice z.ta z.tn z.tc]
abbrev sysA (s:Sy3) (z:SA):Value:=.agg (sysV s z).toArray
structure SysR (H:Hp) (s:Sy3) (z:SA):Prop where
 e:RL H z.ea z.en z.ec s.E
 n:RL H z.na z.nn z.nc s.ent
 i:RL H z.ia z.ni z.ic s.ini
 t:RL (α:=Tr3) H z.ta z.tn z.tc (s.T.map Tr3.mk)
theorem SysR.up {H H':Hp} {s:Sy3} {z:SA} (h:SysR H s z) (hle:Le H H'):SysR H' s z:=⟨h.e.up hle,h.n.up hle,h.i.up hle,h.t.up hle⟩
theorem trans_k {P:Prop} {H:Hp} {a:Option Addr} {n c:Nat} {T:List (List Cd)} (h:RL (α:=Tr3) H a n c (T.map Tr3.mk)) {i:Nat} {l:List Cd} (hi:T[i]?=some l) (k:∀ad a1 n1 c1,a=some ad→ElemH H ad (i:Int) 3 [.slice none 0 0,.slice none 0 0,.slice a1 n1 c1]→RL H a1 n1 c1 l→P):P :=
 elem_k h (i:=i) (x:=Tr3.mk l) (by rw[List.getElem?_map,hi];rfl) fun ad cs h1 h2 h3=>by
  obtain⟨a1,n1,c1,rfl,h4⟩:=h3;exact k ad a1 n1 c1 h1 h2 h4
end Go.Proofs
end
section
namespace Go.Proofs
open Go.Sy
set_option maxRecDepth 20000
set_option maxHeartbeats 4000000
end Go.Proofs
end
section
namespace Go.Proofs
open Go.Sy
set_option maxRecDepth 20000
set_option maxHeartbeats 4000000
theorem list_eq_take {α:Type} [DecidableEq α] {a b:List α} (hl:a.length=b.length) (h:∀i<a.length,a[i]?=b[i]?):a=b:=by
 apply List.ext_getElem?;intro i
 by_cases hi:i<a.length
 ·exact h i hi
 ·rw[List.getElem?_eq_none (by omega),List.getElem?_eq_none (by omega)]
end Go.Proofs
end
section
namespace Go.Proofs
open Go.Sy
set_option maxRecDepth 20000
set_option maxHeartbeats 4000000
theorem same10_spec {x y:Wd} {a a2:Option Addr} {n c n2 k2:Nat} {H:Hp} {K:Value→Hp→Prop} (ha:RL H a n c x) (hb:RL H a2 n2 k2 y) (hK:K (.bool (decide (x=y))) H):Does Tryz.prog 33 [.slice a n c,.slice a2 n2 k2] H K:=by
 have hn:=ha.n_eq;have hn2:=hb.n_eq;have hmx:=ha.le;refine spec_of cx_ok cx_mix rfl Tryz.func33 Tryz.call33 Tryz.ntmps33 Tryz.results33 rfl rfl ?_;refine⟨fun h=>?_,fun h=>?_⟩
 ·have h1:¬n=n2:=by have:=nt h;omega
  exact kbool hK (decide_eq_false (fun e=>h1 (by rw[hn,hn2,e])))
 ·have h1:n=n2:=by have:=nf h;omega
  refine⟨Nat,fun i=>⟨[(0,.v (.slice a n c)),(1,.v (.slice a2 n2 k2)),(11,.v (.slice a n c)),(12,.v (.int .i64 n)),(13,.v (.int .i64 i))],[],0⟩,
   fun i H'=>H'=H∧i≤x.length∧∀j<i,x[j]?=y[j]?,fun i=>x.length - i,⟨0,[],?_,rfl,Nat.zero_le _,fun j hj=>(by cases hj)⟩,?_⟩
  ·(repeat' (first|exact trivial|refine⟨?_,?_⟩|exact rfl|assumption))
  rintro i H1 _ ⟨rfl,hi,hx⟩;refine⟨fun h=>?_,fun h=>?_⟩
  ·have hlt:i<x.length:=by have:=dt h;omega
   have hlt2:i<y.length:=by omega
   have ex:=List.getElem?_eq_getElem hlt;have ey:=List.getElem?_eq_getElem hlt2
   refine word_k ha ex fun ad q1 hh _=>?_
   refine word_k hb ey fun ad2 q2 hh2 _=>?_
   refine⟨some ([],[0,1,2,3,4,5,6,7,8]),by kernel_rfl,?_⟩;refine⟨ad,⟨by omega,by omega,q1⟩,?_⟩;refine⟨_,hh,?_⟩;refine⟨ad2,⟨by omega,by omega,q2⟩,?_⟩;refine⟨_,hh2,?_⟩;refine⟨fun h=>?_,fun h=>?_⟩
   ·have hne:¬x[i].toNat=y[i].toNat:=by have:=nt h;omega
    exact kbool hK (decide_eq_false (fun e=>hne (by subst e;rfl)))
   ·have heq:x[i]=y[i]:=UInt64.toNat_inj.1 (by have:=nf h;omega);refine⟨⟨by omega,by omega⟩,i+1,[],?_,⟨rfl,hlt,fun j hj=>?_⟩,by dsimp only;omega⟩
    ·(repeat' (first|exact trivial|refine⟨?_,?_⟩|exact rfl|assumption))
    ·rcases Nat.lt_succ_iff_lt_or_eq.1 hj with h | h
     ·exact hx j h
     ·rw[h,ex,ey,heq]
  ·have hil:i=x.length:=by have:=df h;omega
   exact kbool hK (decide_eq_true (list_eq_take (by omega) (fun j hj=>hx j (by omega))))
end Go.Proofs
end
section
namespace Go.Proofs
open Go.Sy
set_option maxRecDepth 20000
set_option maxHeartbeats 4000000
def vIdx (p:Prog) (t:Bs8):Int:=idxS t (varsOf p) 0
def refOf (p:Prog) (a:Atm):Rf:=if 0≤vIdx p a.1.l then (vIdx p a.1.l,(0,0)) else (-1,(wrp a.2.1,wrp a.2.2))
def codeOf (p:Prog) (s:Stmt):List Cd :=
 if vIdx p s.2.1.l<0 then [] else if s.1=1 then [(vIdx p s.2.1.l,s.2.2.1,refOf p s.2.2.2.1,refOf p s.2.2.2.2)] else if s.1=2 then [(vIdx p s.2.1.l,-1,(0,(0,0)),(0,(0,0)))] else []
def codesOf (p:Prog) (l:List Stmt):List Cd:=l.flatMap (codeOf p)
theorem codesOf_take {p:Prog} {l:List Stmt} {i:Nat} {s:Stmt} (h:l[i]?=some s):codesOf p (l.take (i+1))=codesOf p (l.take i)++codeOf p s:=by
 rw[codesOf,List.take_add_one,h,Option.toList_some,List.flatMap_append,←codesOf];simp
theorem codeOf_len (p:Prog) (s:Stmt):(codeOf p s).length≤1:=by
 unfold codeOf
 repeat' split
 all_goals simp
theorem codesOf_len (p:Prog):∀l:List Stmt,(codesOf p l).length≤l.length
 | []=>Nat.le_refl _
 | s::r=>by
  have h1:=codeOf_len p s;have h2:=codesOf_len p r;have e:codesOf p (s::r)=codeOf p s++codesOf p r:=List.flatMap_cons
  rw[e,List.length_append,List.length_cons];omega
theorem vIdx_range (p:Prog) (t:Bs8):vIdx p t = -1∨(0≤vIdx p t∧vIdx p t<((varsOf p).length:Nat)):=by
 have:=idxS_range t (varsOf p) 0 (Int.le_refl 0)
 rcases this with h | ⟨h1,h2⟩
 ·exact .inl h
 ·exact .inr ⟨h1,by rw[vIdx];omega⟩
def rfR (r:Rf):Prop:=inI r.1∧inI r.2.1∧inI r.2.2
def cdR (c:Cd):Prop:=inI c.1∧inI c.2.1∧rfR c.2.2.1∧rfR c.2.2.2
theorem refOf_R (p:Prog) (hv:(varsOf p).length≤1000000) (a:Atm):rfR (refOf p a):=by
 have h1:=vIdx_range p a.1.l;have h2:=wrp_le a.2.1;have h3:=wrp_le a.2.2;unfold refOf;split
 ·exact⟨⟨by dsimp only;omega,by dsimp only;omega⟩,⟨by dsimp only;omega,by dsimp only;omega⟩,⟨by dsimp only;omega,by dsimp only;omega⟩⟩
 ·exact⟨⟨by dsimp only;omega,by dsimp only;omega⟩,⟨by dsimp only;omega,by dsimp only;omega⟩,⟨by dsimp only;omega,by dsimp only;omega⟩⟩
theorem codeOf_R (p:Prog) (hv:(varsOf p).length≤1000000) {s:Stmt} (hs:stmtR s):∀c∈codeOf p s,cdR c:=by
 have h1:=vIdx_range p s.2.1.l
 have hi:inI (vIdx p s.2.1.l):=⟨by omega,by omega⟩
 have z:inI 0:=⟨by decide,by decide⟩
 intro c hc;unfold codeOf at hc;split at hc
 ·cases hc
 ·split at hc
  ·rw[List.mem_singleton]at hc;rw[hc];exact⟨hi,hs.2.2.1,refOf_R p hv _,refOf_R p hv _⟩
  ·split at hc
   ·rw[List.mem_singleton]at hc;rw[hc];exact⟨hi,⟨by dsimp only;omega,by dsimp only;omega⟩,⟨z,z,z⟩,⟨z,z,z⟩⟩
   ·cases hc
theorem code_R {H:Hp} {c:Cd} (h:cdR c):Enc.R H (codeV c) c :=
 ⟨[_],[_,_,_,_,_,_,_],rfl,⟨rfl,h.1⟩,[_],[_,_,_,_,_,_],rfl,⟨rfl,h.2.1⟩,[_,_,_],[_,_,_],rfl,⟨[_],[_,_],rfl,⟨rfl,h.2.2.1.1⟩,[_],[_],rfl,⟨rfl,h.2.2.1.2.1⟩,⟨rfl,h.2.2.1.2.2⟩⟩,⟨[_],[_,_],rfl,⟨rfl,h.2.2.2.1⟩,[_],[_],rfl,⟨rfl,h.2.2.2.2.1⟩,⟨rfl,h.2.2.2.2.2⟩⟩⟩
abbrev cRows (l:List Cd):List (List Value):=l.map codeV
theorem rc_c {H:Hp} {l:List Cd} (h:∀c∈l,cdR c):RC (α:=Cd) H (cRows l) l:=by
 refine⟨by simp,fun i cs x h1 h2=>?_⟩;rw[List.getElem?_map,h2]at h1;cases h1;exact code_R (h x (List.mem_of_getElem? h2))
abbrev bP (a:Option Addr) (n c:Nat):List (Nat×Bx):=[(0,.cells 24 [.v (.slice a n c)])]
theorem ref1_spec {p:Prog} (hc:cnt p<400000) {x:Atm} {a:Option Addr} {n c:Nat} {H:Hp} {K:SV→St→Hp→Prop} (ha:RL H a n c p) (hK:K (.agg (vL (refV (refOf p x)))) ⟨[],bP a n c,1⟩ H):
  DoesG Tryz.prog 112 [.agg (vL (atmV x)),.ptr 0 0] (bP a n c) 1 H K:=by
 refine spec_ofG cx_ok cx_mix Tryz.func112 Tryz.call112 Tryz.ntmps112 Tryz.results112 rfl rfl ?_
 refine var_spec ha hc fun _ _=>?_
 have hr:=vIdx_range p x.1.l;refine⟨fun h=>?_,fun h=>?_⟩
 ·have h0:0≤vIdx p x.1.l:=dt h;have e:refOf p x=(vIdx p x.1.l,(0,0)):=if_pos h0
  have e2:max (idxS x.1.l (varsOf p) 0) 0=vIdx p x.1.l:=by rw[vIdx]at h0 ⊢;omega
  rw[e]at hK;rw[e2];exact⟨.agg (vL (refV (vIdx p x.1.l,(0,0)))),bP a n c,1,[(0,0)],by (repeat' (first|exact trivial|refine⟨?_,?_⟩|exact rfl|assumption)),hK⟩
 ·have h0:¬0≤vIdx p x.1.l:=df h;have e:refOf p x=(-1,(wrp x.2.1,wrp x.2.2)):=if_neg h0;rw[e]at hK;refine gof_spec ?_;exact⟨.agg (vL (refV (-1,(wrp x.2.1,wrp x.2.2)))),bP a n c,1,[(0,0)],by (repeat' (first|exact trivial|refine⟨?_,?_⟩|exact rfl|assumption)),hK⟩
theorem rref_spec {p:Prog} (hc:cnt p<400000) {x:Atm} {a:Option Addr} {n c:Nat} {H:Hp} {K:Value→Hp→Prop} (ha:RL H a n c p) (hK:K (.agg (refV (refOf p x)).toArray) H):
  Does Tryz.prog 136 [.agg #[.slice a n c],.agg (atmV x).toArray] H K:=by
 refine spec_of cx_ok cx_mix rfl Tryz.func136 Tryz.call136 Tryz.ntmps136 Tryz.results136 rfl rfl ?_
 refine rvar_spec ha hc fun _ _=>?_
 have hr:=vIdx_range p x.1.l;refine⟨fun h=>?_,fun h=>?_⟩
 ·have h0:0≤vIdx p x.1.l:=dt h;have e:refOf p x=(vIdx p x.1.l,(0,0)):=if_pos h0;rw[e]at hK;exact hK
 ·have h0:¬0≤vIdx p x.1.l:=df h;have e:refOf p x=(-1,(wrp x.2.1,wrp x.2.2)):=if_neg h0;rw[e]at hK;refine rof_spec ?_;exact hK
theorem codes_spec {p:Prog} (hc:cnt p<400000) (hv:(varsOf p).length≤1000000) {l:List Stmt} (hl:l.length≤1000000) {a a2:Option Addr} {n c n2 k2:Nat} {H:Hp} {K:Value→Hp→Prop} (ha:RL H a n c p) (hb:RL H a2 n2 k2 l)
  (hK:∀a1 n1 c1 H',Le H H'→RL H' a1 n1 c1 (codesOf p l)→K (.slice a1 n1 c1) H'):Does Tryz.prog 60 [.agg #[.slice a n c],.slice a2 n2 k2] H K:=by
 have hn2:=hb.n_eq;refine spec_of cx_ok cx_mix rfl Tryz.func60 Tryz.call60 Tryz.ntmps60 Tryz.results60 rfl rfl ?_
 refine⟨Nat,fun i=>⟨[(2,.ptr 0 0),(5,.fn 112 [.ptr 0 0]),(6,.own 1),(12,.v (.slice a2 n2 k2)),(13,.v (.int .i64 n2)),(14,.v (.int .i64 i))],[(0,.cells 24 [.v (.slice a n c)]),(1,.row 117 8 (cRows (codesOf p (l.take i))))],2⟩,
  fun i H'=>H'=H∧i≤l.length,fun i=>l.length - i,⟨0,[(0,0)],?_,rfl,Nat.zero_le _⟩,?_⟩
 ·(repeat' (first|exact trivial|refine⟨?_,?_⟩|exact rfl|assumption))
 rintro i H1 _ ⟨rfl,hi⟩;have hcl:=codesOf_len p (l.take i);rw[List.length_take]at hcl;have hcl2:(cRows (codesOf p (l.take i))).length=(codesOf p (l.take i)).length:=List.length_map _;refine⟨fun h=>?_,fun h=>?_⟩
 ·have hlt:i<l.length:=by have:=dt h;omega
  refine name_k l[i] fun s hse=>?_
  have hss:l[i]?=some s:=by rw[hse];exact List.getElem?_eq_getElem hlt
  have hst:=codesOf_take (p:=p) hss;have hr:=vIdx_range p s.2.1.l
  refine stmt_k hb hss fun ad q1 hh hsr=>?_
  refine⟨ad,⟨by omega,by omega,q1⟩,?_⟩;refine⟨_,hh,?_⟩
  refine var_spec ha hc fun _ _=>?_
  refine⟨fun h=>?_,fun h=>?_⟩
  ·have h0:vIdx p s.2.1.l<0:=by have:¬0≤vIdx p s.2.1.l:=nt h;omega
   have e:codeOf p s=[]:=if_pos h0;rw[e,List.append_nil]at hst;refine⟨⟨by omega,by omega⟩,i+1,[(0,0),(1,1)],?_,⟨rfl,hlt⟩,by dsimp only;omega⟩
   have er:cRows (codesOf p (l.take i))=cRows (codesOf p (l.take (i+1))):=by rw[hst]
   (repeat' (first|exact trivial|refine⟨?_,?_⟩|exact rfl|assumption))
  ·have h0:0≤vIdx p s.2.1.l:=nf h
   have e2:max (idxS s.2.1.l (varsOf p) 0) 0=vIdx p s.2.1.l:=by rw[vIdx]at h0 ⊢;omega
   rw[e2];refine⟨fun h=>?_,fun h=>?_⟩
   ·have h1:s.1=1:=dt h
    have e:codeOf p s=[(vIdx p s.2.1.l,s.2.2.1,refOf p s.2.2.2.1,refOf p s.2.2.2.2)]:=by rw[codeOf,if_neg (by omega),if_pos h1]
    rw[e]at hst;refine⟨some ([0,1,3],[0,1,2,3,4,5,6,7,8,10,11,12,13,9,14,15,16,17,18]),by kernel_rfl,?_⟩;refine⟨[0],rfl,ref1_spec hc ha ?_⟩;refine⟨[0],rfl,ref1_spec hc ha ?_⟩;refine⟨⟨by show (_+1)*64≤140737488355328;rw[hcl2];omega,by show _+1≤9223372036854775807;rw[hcl2];omega⟩,?_⟩;refine⟨⟨by omega,by omega⟩,i+1,[(0,0),(1,4)],?_,⟨rfl,hlt⟩,by dsimp only;omega⟩
    have er:cRows (codesOf p (l.take (i+1)))=cRows (codesOf p (l.take i))++[codeV (vIdx p s.2.1.l,s.2.2.1,refOf p s.2.2.2.1,refOf p s.2.2.2.2)]:=by rw[hst,cRows,List.map_append];rfl
    have er2:=er.symm
    (repeat' (first|exact trivial|refine⟨?_,?_⟩|exact rfl|assumption))
   ·have h1:¬s.1=1:=df h;refine⟨fun h=>?_,fun h=>?_⟩
    ·have h2:s.1=2:=dt h
     have e:codeOf p s=[(vIdx p s.2.1.l,-1,(0,(0,0)),(0,(0,0)))]:=by rw[codeOf,if_neg (by omega),if_neg h1,if_pos h2]
     rw[e]at hst;refine⟨⟨by show (_+1)*64≤140737488355328;rw[hcl2];omega,by show _+1≤9223372036854775807;rw[hcl2];omega⟩,?_⟩;refine⟨⟨by omega,by omega⟩,i+1,[(0,0),(1,4)],?_,⟨rfl,hlt⟩,by dsimp only;omega⟩
     have er:cRows (codesOf p (l.take (i+1)))=cRows (codesOf p (l.take i))++[codeV (vIdx p s.2.1.l,-1,(0,(0,0)),(0,(0,0)))]:=by rw[hst,cRows,List.map_append];rfl
     have er2:=er.symm
     (repeat' (first|exact trivial|refine⟨?_,?_⟩|exact rfl|assumption))
    ·have h2:¬s.1=2:=df h
     have e:codeOf p s=[]:=by rw[codeOf,if_neg (by omega),if_neg h1,if_neg h2]
     rw[e,List.append_nil]at hst;refine⟨⟨by omega,by omega⟩,i+1,[(0,0),(1,1)],?_,⟨rfl,hlt⟩,by dsimp only;omega⟩
     have er:cRows (codesOf p (l.take i))=cRows (codesOf p (l.take (i+1))):=by rw[hst]
     (repeat' (first|exact trivial|refine⟨?_,?_⟩|exact rfl|assumption))
 ·have hil:i=l.length:=by have:=df h;omega
  rw[hil,List.take_length];intro v H6 hle6 hv6
  have hR:∀c∈codesOf p l,cdR c:=fun c hc=>by
   obtain⟨s,hs,h1⟩:=List.mem_flatMap.1 hc;obtain⟨cs,hr⟩:=rl_mem hb hs;exact codeOf_R p hv (stmt_open hr).2 c h1
  obtain⟨a7,n7,c7,rfl,hr7⟩:=RL.of_row (α:=Cd) hv6 (rc_c hR);exact hK _ _ _ _ hle6.le hr7
theorem rcodes_spec {p:Prog} (hc:cnt p<400000) (hv:(varsOf p).length≤1000000) {l:List Stmt} (hl:l.length≤1000000) {a a2:Option Addr} {n c n2 k2:Nat} {H:Hp} {K:Value→Hp→Prop} (ha:RL H a n c p) (hb:RL H a2 n2 k2 l)
  (hK:∀a1 n1 c1 H',Le H H'→RL H' a1 n1 c1 (codesOf p l)→K (.slice a1 n1 c1) H'):Does Tryz.prog 92 [.agg #[.slice a n c],.slice a2 n2 k2] H K:=by
 have hn2:=hb.n_eq;refine spec_of cx_ok cx_mix rfl Tryz.func92 Tryz.call92 Tryz.ntmps92 Tryz.results92 rfl rfl ?_
 refine⟨Nat,fun i=>⟨[(2,.ptr 0 0),(5,.own 1),(9,.v (.slice a2 n2 k2)),(10,.v (.int .i64 n2)),(11,.v (.int .i64 i))],[(0,.cells 24 [.v (.slice a n c)]),(1,.row 117 8 (cRows (codesOf p (l.take i))))],2⟩,
  fun i H'=>H'=H∧i≤l.length,fun i=>l.length - i,⟨0,[(0,0)],?_,rfl,Nat.zero_le _⟩,?_⟩
 ·(repeat' (first|exact trivial|refine⟨?_,?_⟩|exact rfl|assumption))
 rintro i H1 _ ⟨rfl,hi⟩;have hcl:=codesOf_len p (l.take i);rw[List.length_take]at hcl;have hcl2:(cRows (codesOf p (l.take i))).length=(codesOf p (l.take i)).length:=List.length_map _;refine⟨fun h=>?_,fun h=>?_⟩
 ·have hlt:i<l.length:=by have:=dt h;omega
  refine name_k l[i] fun s hse=>?_
  have hss:l[i]?=some s:=by rw[hse];exact List.getElem?_eq_getElem hlt
  have hst:=codesOf_take (p:=p) hss;have hr:=vIdx_range p s.2.1.l
  refine stmt_k hb hss fun ad q1 hh hsr=>?_
  refine⟨ad,⟨by omega,by omega,q1⟩,?_⟩;refine⟨_,hh,?_⟩
  refine rvar_spec ha hc fun _ _=>?_
  refine⟨fun h=>?_,fun h=>?_⟩
  ·have h0:vIdx p s.2.1.l<0:=dt h;have e:codeOf p s=[]:=if_pos h0;rw[e,List.append_nil]at hst;refine⟨⟨by omega,by omega⟩,i+1,[(0,0),(1,1)],?_,⟨rfl,hlt⟩,by dsimp only;omega⟩
   have er:cRows (codesOf p (l.take i))=cRows (codesOf p (l.take (i+1))):=by rw[hst]
   (repeat' (first|exact trivial|refine⟨?_,?_⟩|exact rfl|assumption))
  ·have h0:0≤vIdx p s.2.1.l:=by have:¬vIdx p s.2.1.l<0:=df h;omega
   refine⟨fun h=>?_,fun h=>?_⟩
   ·have h1:s.1=1:=dt h
    have e:codeOf p s=[(vIdx p s.2.1.l,s.2.2.1,refOf p s.2.2.2.1,refOf p s.2.2.2.2)]:=by rw[codeOf,if_neg (by omega),if_pos h1]
    rw[e]at hst;refine⟨some ([1,3],[0,1,2,3,4,5,6,7,8,10,11,12,13,9,14,15,16,17,18]),by kernel_rfl,?_⟩;refine rref_spec (x:=s.2.2.2.1) hc ha ?_;refine rref_spec (x:=s.2.2.2.2) hc ha ?_;refine⟨⟨by show (_+1)*64≤140737488355328;rw[hcl2];omega,by show _+1≤9223372036854775807;rw[hcl2];omega⟩,?_⟩;refine⟨(fun h=>absurd (dt h) (by omega)),fun _=>?_⟩;refine⟨⟨by omega,by omega⟩,i+1,[(0,0),(1,4)],?_,⟨rfl,hlt⟩,by dsimp only;omega⟩
    have er:cRows (codesOf p (l.take (i+1)))=cRows (codesOf p (l.take i))++[codeV (vIdx p s.2.1.l,s.2.2.1,refOf p s.2.2.2.1,refOf p s.2.2.2.2)]:=by rw[hst,cRows,List.map_append];rfl
    have er2:=er.symm
    (repeat' (first|exact trivial|refine⟨?_,?_⟩|exact rfl|assumption))
   ·have h1:¬s.1=1:=df h;refine⟨fun h=>?_,fun h=>?_⟩
    ·have h2:s.1=2:=dt h
     have e:codeOf p s=[(vIdx p s.2.1.l,-1,(0,(0,0)),(0,(0,0)))]:=by rw[codeOf,if_neg (by omega),if_neg h1,if_pos h2]
     rw[e]at hst;refine⟨⟨by show (_+1)*64≤140737488355328;rw[hcl2];omega,by show _+1≤9223372036854775807;rw[hcl2];omega⟩,?_⟩;refine⟨⟨by omega,by omega⟩,i+1,[(0,0),(1,4)],?_,⟨rfl,hlt⟩,by dsimp only;omega⟩
     have er:cRows (codesOf p (l.take (i+1)))=cRows (codesOf p (l.take i))++[codeV (vIdx p s.2.1.l,-1,(0,(0,0)),(0,(0,0)))]:=by rw[hst,cRows,List.map_append];rfl
     have er2:=er.symm
     (repeat' (first|exact trivial|refine⟨?_,?_⟩|exact rfl|assumption))
    ·have h2:¬s.1=2:=df h
     have e:codeOf p s=[]:=by rw[codeOf,if_neg (by omega),if_neg h1,if_neg h2]
     rw[e,List.append_nil]at hst;refine⟨⟨by omega,by omega⟩,i+1,[(0,0),(1,1)],?_,⟨rfl,hlt⟩,by dsimp only;omega⟩
     have er:cRows (codesOf p (l.take i))=cRows (codesOf p (l.take (i+1))):=by rw[hst]
     (repeat' (first|exact trivial|refine⟨?_,?_⟩|exact rfl|assumption))
 ·have hil:i=l.length:=by have:=df h;omega
  rw[hil,List.take_length];intro v H6 hle6 hv6
  have hR:∀c∈codesOf p l,cdR c:=fun c hc=>by
   obtain⟨s,hs,h1⟩:=List.mem_flatMap.1 hc;obtain⟨cs,hr⟩:=rl_mem hb hs;exact codeOf_R p hv (stmt_open hr).2 c h1
  obtain⟨a7,n7,c7,rfl,hr7⟩:=RL.of_row (α:=Cd) hv6 (rc_c hR);exact hK _ _ _ _ hle6.le hr7
end Go.Proofs
end
section
namespace Go.Proofs
open Go.Sy
set_option maxRecDepth 20000
set_option maxHeartbeats 4000000
def two64:UInt64:=UInt64.ofNat 2
def sysOf (p:Prog):Sy3:=⟨(varsOf p).length,p.length,gSort (edgesOf p),[0],List.replicate (varsOf p).length two64,p.map fun b=>codesOf p b.2.1⟩
theorem kOf_zero:kOf (0,0)=2:=by decide
abbrev zSys:List Value:=[.int .i64 0,.int .i64 0,.int .i64 0,.slice none 0 0,.slice none 0 0,.slice none 0 0,.slice none 0 0]
abbrev iRow0:List (List Value):=[[.int .i64 0]]
theorem two_snoc (i:Nat):uRows (List.replicate (i+1) two64)=uRows (List.replicate i two64)++[[.int .u64 (2:Nat)]]:=by
 rw[List.replicate_succ',uRows,List.map_append];rfl
theorem tr_snoc {H:Hp} {css:List (List Value)} {T:List Tr3} (h:RC (α:=Tr3) H css T) {a:Option Addr} {n c:Nat} {l:List Cd} (hx:RL H a n c l):RC (α:=Tr3) H (css++[[.slice none 0 0,.slice none 0 0,.slice a n c]]) (T++[Tr3.mk l]) :=
 RC.snoc h (show Enc.R (α:=Tr3) H [.slice none 0 0,.slice none 0 0,.slice a n c] (Tr3.mk l) from ⟨a,n,c,rfl,hx⟩)
theorem sysT_take {p:Prog} {i:Nat} {b:Block} (h:p[i]?=some b):((sysOf p).T.map Tr3.mk).take (i+1)=((sysOf p).T.map Tr3.mk).take i++[Tr3.mk (codesOf p b.2.1)]:=by
 have e:((sysOf p).T.map Tr3.mk)[i]?=some (Tr3.mk (codesOf p b.2.1)):=by
  show ((p.map fun b=>codesOf p b.2.1).map Tr3.mk)[i]?=_
  rw[List.getElem?_map,List.getElem?_map,h];rfl
 rw[List.take_add_one,e,Option.toList_some]
theorem vars_small {p:Prog} (h:checkE p=0):(varsOf p).length≤1000000:=by
 unfold checkE at h;split at h
 ·cases h
 ·split at h
  ·split at h
   ·cases h
   ·rename_i h1;omega
  ·cases h
theorem ints_k {P:Prop} {H:Hp} {v:Value} (h:RowAt H v 1 iRow0) (k:∀a n c,v = .slice a n c→RL H a n c [(0:Int)]→P):P:=by
 obtain⟨a,n,c,e,hr⟩:=rI_all (l:=[0]) h (fun z hz=>by rw[List.mem_singleton]at hz;rw[hz];exact⟨by omega,by omega⟩);exact k a n c e hr
theorem psys_spec {p:Prog} (hp:p.length≤12) (hl:∀b∈p,b.2.1.length≤1000000) (hc:stmtsN p≤1000000) (hv:cnt p<400000) {a:Option Addr} {n c:Nat} {H:Hp} {K:Value→Hp→Prop} (ha:RL H a n c p)
  (hbad:checkE p≠0→∀H',Le H H'→K (.tuple #[.agg zSys.toArray,.int .i64 (checkE p)]) H')
  (hK:checkE p=0→∀z H',Le H H'→SysR H' (sysOf p) z→K (.tuple #[sysA (sysOf p) z,.int .i64 0]) H'):Does Tryz.prog 19 [.agg #[.slice a n c]] H K:=by
 have hn:=ha.n_eq;have hmx:=ha.le;refine spec_of cx_ok cx_mix rfl Tryz.func19 Tryz.call19 Tryz.ntmps19 Tryz.results19 rfl rfl ?_
 refine pcheck_spec ha hc hv fun H0 hle0=>?_
 refine⟨fun h=>?_,fun h=>?_⟩
 ·exact hbad (nt h) _ (Le.refl H)
 have he:checkE p=0:=nf h;have hK:=hK he
 refine pvars_spec ha hv fun av nv cv H1 hle1 hrv=>?_
 have hnv:=hrv.n_eq;rw[List.length_map]at hnv
 have hvl:nv≤1000000:=by rw[hnv];exact vars_small he
 refine⟨none,?_⟩
 refine region_plan (α:=Option Addr×Nat×Nat) ?_ ?_
  (.two 5 6 (.two 6 8 (.one [2,3] [0,1,2,3,4,5,6,7,8,9]) (.two 5 8 (.one [2,3] [0,1,2,3,4,5,8,6,7,9]) (.one [2,3] [0,1,2,3,4,8,5,6,7,9])))
   (.two 5 8 (.one [2,3] [0,1,2,3,4,6,5,7,8,9]) (.two 6 8 (.one [2,3] [0,1,2,3,4,6,8,5,7,9]) (.one [2,3] [0,1,2,3,4,8,6,5,7,9]))))
  (fun q=>⟨[(1,.ptr 0 0),(2,.ptr 1 0),(5,.v (.int .i64 nv)),(6,.ptr 2 0)],
   [(0,.cells 24 [.v (.slice a n c)]),(1,.cells 32 (vL zSys)),(2,.cells 32 [.v (.int .i64 3),.v (.int .i64 nv),.v (.int .i64 n),.v (.slice q.1 q.2.1 q.2.2),.own 3,.v (.slice none 0 0),.v (.slice none 0 0)]),(3,.row 3 1 iRow0)],4⟩)
  (fun q H'=>Le H1 H'∧RL H' q.1 q.2.1 q.2.2 (gSort (edgesOf p))) (by kernel_rfl) ⟨⟨?_,?_,?_⟩,?_,?_,?_⟩ ?_
 ·exact⟨cx_ok.tt,cx_ok.eqs⟩
 ·exact cx_mix
 ·refine edges_spec hp (ha.up hle1) fun a2 n2 c2 H2 hle2 hr2=>?_
  refine⟨(a2,n2,c2),[(0,0),(1,1),(2,3),(3,2)],?_,hle2,hr2⟩
  (repeat' (first|exact trivial|refine⟨?_,?_⟩|exact rfl|assumption))
 ·refine edges_spec hp (ha.up hle1) fun a2 n2 c2 H2 hle2 hr2=>?_
  refine⟨(a2,n2,c2),[(0,0),(1,1),(2,2),(3,3)],?_,hle2,hr2⟩
  (repeat' (first|exact trivial|refine⟨?_,?_⟩|exact rfl|assumption))
 ·refine edges_spec hp (ha.up hle1) fun a2 n2 c2 H2 hle2 hr2=>?_
  refine⟨(a2,n2,c2),[(0,0),(1,1),(2,2),(3,3)],?_,hle2,hr2⟩
  (repeat' (first|exact trivial|refine⟨?_,?_⟩|exact rfl|assumption))
 ·refine edges_spec hp (ha.up hle1) fun a2 n2 c2 H2 hle2 hr2=>?_
  refine⟨(a2,n2,c2),[(0,0),(1,1),(2,3),(3,2)],?_,hle2,hr2⟩
  (repeat' (first|exact trivial|refine⟨?_,?_⟩|exact rfl|assumption))
 ·refine edges_spec hp (ha.up hle1) fun a2 n2 c2 H2 hle2 hr2=>?_
  refine⟨(a2,n2,c2),[(0,0),(1,1),(2,3),(3,2)],?_,hle2,hr2⟩
  (repeat' (first|exact trivial|refine⟨?_,?_⟩|exact rfl|assumption))
 ·refine edges_spec hp (ha.up hle1) fun a2 n2 c2 H2 hle2 hr2=>?_
  refine⟨(a2,n2,c2),[(0,0),(1,1),(2,2),(3,3)],?_,hle2,hr2⟩
  (repeat' (first|exact trivial|refine⟨?_,?_⟩|exact rfl|assumption))
 rintro⟨ae,ne,ce⟩ H2 _ ⟨hle2,hre⟩;dsimp only at hre
 refine⟨Nat,fun i=>⟨[(1,.ptr 0 0),(2,.ptr 1 0),(6,.ptr 2 0),(26,.v (.int .i64 nv)),(27,.v (.int .i64 i))],
   [(0,.cells 24 [.v (.slice a n c)]),(1,.cells 32 (vL zSys)),(2,.cells 32 [.v (.int .i64 3),.v (.int .i64 nv),.v (.int .i64 n),.v (.slice ae ne ce),.own 3,.own 4,.v (.slice none 0 0)]),(3,.row 3 1 iRow0),(4,.row 66 1 (uRows (List.replicate i two64)))],5⟩,
  fun i H'=>H'=H2∧i≤nv,fun i=>nv - i,⟨0,[(0,0),(1,1),(2,2),(3,3)],?_,rfl,Nat.zero_le _⟩,?_⟩
 ·(repeat' (first|exact trivial|refine⟨?_,?_⟩|exact rfl|assumption))
 rintro i H3 _ ⟨rfl,hi⟩
 have hil:(uRows (List.replicate i two64)).length=i:=by simp
 refine⟨fun h=>?_,fun h=>?_⟩
 ·have hlt:i<nv:=by have:=dt h;omega
  refine⟨some ([1000000,2,4,5],[0,1,2,3,4,5,6,7]),by kernel_rfl,?_⟩;refine kof_spec (a:=(0,0)) ?_;rw[kOf_zero];refine⟨⟨by show (_+1)*8≤140737488355328;rw[hil];omega,by show _+1≤9223372036854775807;rw[hil];omega⟩,?_⟩;refine⟨⟨by omega,by omega⟩,i+1,[(0,0),(1,1),(2,2),(3,3),(4,6)],?_,⟨rfl,hlt⟩,by dsimp only;omega⟩;have e:=(two_snoc i).symm
  (repeat' (first|exact trivial|refine⟨?_,?_⟩|exact rfl|assumption))
 have hil2:i=nv:=by have:=df h;omega
 rw[hil2]
 refine⟨Nat×List (List Value),fun q=>⟨[(1,.ptr 0 0),(2,.ptr 1 0),(6,.ptr 2 0),(38,.v (.slice a n c)),(39,.v (.int .i64 n)),(40,.v (.int .i64 q.1))],
   [(0,.cells 24 [.v (.slice a n c)]),(1,.cells 32 (vL zSys)),(2,.cells 32 [.v (.int .i64 3),.v (.int .i64 nv),.v (.int .i64 n),.v (.slice ae ne ce),.own 3,.own 4,.own 5]),(3,.row 3 1 iRow0),(4,.row 66 1 (uRows (List.replicate nv two64))),(5,.row 78 3 q.2)],6⟩,
  fun q H'=>Le H3 H'∧q.1≤p.length∧RC (α:=Tr3) H' q.2 (((sysOf p).T.map Tr3.mk).take q.1),fun q=>p.length - q.1,⟨(0,[]),[(0,0),(1,1),(2,2),(3,3),(4,4)],?_,Le.refl _,Nat.zero_le _,RC.nil⟩,?_⟩
 ·(repeat' (first|exact trivial|refine⟨?_,?_⟩|exact rfl|assumption))
 rintro⟨j,css⟩ H4 _ ⟨hle4,hj,hrc⟩;dsimp only at hj hrc;have hle:Le H H4:=(hle1.trans hle2).trans hle4
 have hTl:((sysOf p).T.map Tr3.mk).length=p.length:=by simp [sysOf]
 have hcl:css.length=j:=by have h1:=hrc.1;rw[List.length_take]at h1;omega
 refine⟨fun h=>?_,fun h=>?_⟩
 ·have hlt:j<p.length:=by have:=dt h;dsimp only at this;omega
  refine name_k p[j] fun b hbe=>?_
  have hbb:p[j]?=some b:=by rw[hbe];exact List.getElem?_eq_getElem hlt
  refine block_k (ha.up hle) hbb fun ad a5 n5 c5 q1 hh hr5 hs5 ht5=>?_
  refine⟨ad,⟨by dsimp only;omega,by dsimp only;omega,q1⟩,?_⟩;refine⟨_,hh,?_⟩;refine⟨some ([1000000,2,5,7],[0,1,2,3,4,5,6,7,8,9,10]),by kernel_rfl,?_⟩
  refine codes_spec hv (vars_small he) (hl b (by rw[hbe];exact List.getElem_mem hlt)) (ha.up hle) hr5 fun a6 n6 c6 H5 hle5 hr6=>?_
  refine⟨⟨by show (css.length+1)*72≤140737488355328;omega,by show css.length+1≤9223372036854775807;omega⟩,?_⟩
  have hrc2:RC (α:=Tr3) H5 (css++[[.slice none 0 0,.slice none 0 0,.slice a6 n6 c6]]) (((sysOf p).T.map Tr3.mk).take (j+1)):=by
   rw[sysT_take hbb];exact tr_snoc (RC.up hrc hle5) hr6
  refine⟨⟨by omega,by omega⟩,(j+1,css++[[.slice none 0 0,.slice none 0 0,.slice a6 n6 c6]]),[(0,0),(1,1),(2,2),(3,3),(4,4),(5,8)],?_,⟨hle4.trans hle5,hlt,hrc2⟩,by dsimp only;omega⟩
  (repeat' (first|exact trivial|refine⟨?_,?_⟩|exact rfl|assumption))
 ·have hjl:j=p.length:=by have:=df h;dsimp only at this;omega
  rw[hjl,List.take_of_length_le (by omega)]at hrc;intro v1 H5 hle5 hv1
  refine ints_k hv1 fun na nn nc ev1 hr1=>?_
  subst ev1;intro v2 H6 hle6 hv2
  refine of_row_k (α:=UInt64) hv2 rc_w fun ia ni ic ev2 hr2=>?_
  subst ev2;intro v3 H7 hle7 hv3;have h57:=(hle5.le.trans hle6.le).trans hle7.le
  refine of_row_k (α:=Tr3) hv3 (RC.up hrc h57) fun ta tn tc ev3 hr3=>?_
  subst ev3
  have hsys:SysR H7 (sysOf p) ⟨ae,ne,ce,na,nn,nc,ia,ni,ic,ta,tn,tc⟩:=by
   refine⟨hre.up (hle4.trans h57),hr1.up (hle6.le.trans hle7.le),?_,hr3⟩
   have e:(sysOf p).ini=List.replicate nv two64:=by rw[hnv];rfl
   rw[e];exact hr2.up hle7.le
  have hK:=hK ⟨ae,ne,ce,na,nn,nc,ia,ni,ic,ta,tn,tc⟩ H7 (hle.trans h57) hsys;have e1:(sysOf p).w=nv:=hnv.symm;have e2:(sysOf p).m=n:=hn.symm;rw[sysA,sysV,e1,e2]at hK;exact hK
theorem rsys_spec {p:Prog} (hp:p.length≤12) (hl:∀b∈p,b.2.1.length≤1000000) (hv:cnt p<400000) {a:Option Addr} {n c:Nat} {H:Hp} {K:Value→Hp→Prop} (ha:RL H a n c p)
  (he:checkE p=0) (hK:∀z H',Le H H'→SysR H' (sysOf p) z→K (sysA (sysOf p) z) H'):Does Tryz.prog 50 [.agg #[.slice a n c]] H K:=by
 have hn:=ha.n_eq;have hmx:=ha.le;refine spec_of cx_ok cx_mix rfl Tryz.func50 Tryz.call50 Tryz.ntmps50 Tryz.results50 rfl rfl ?_
 refine rvars_spec ha hv fun av nv cv H1 hle1 hrv=>?_
 have hnv:=hrv.n_eq;rw[List.length_map]at hnv
 have hvl:nv≤1000000:=by rw[hnv];exact vars_small he
 refine⟨none,?_⟩
 refine region_plan (α:=Option Addr×Nat×Nat) ?_ ?_
  (.two 5 6 (.two 6 8 (.one [2,3] [0,1,2,3,4,5,6,7,8,9]) (.two 5 8 (.one [2,3] [0,1,2,3,4,5,8,6,7,9]) (.one [2,3] [0,1,2,3,4,8,5,6,7,9])))
   (.two 5 8 (.one [2,3] [0,1,2,3,4,6,5,7,8,9]) (.two 6 8 (.one [2,3] [0,1,2,3,4,6,8,5,7,9]) (.one [2,3] [0,1,2,3,4,8,6,5,7,9]))))
  (fun q=>⟨[(1,.ptr 0 0),(2,.ptr 1 0),(3,.v (.int .i64 nv)),(4,.ptr 2 0)],
   [(0,.cells 24 [.v (.slice a n c)]),(1,.cells 32 (vL zSys)),(2,.cells 32 [.v (.int .i64 3),.v (.int .i64 nv),.v (.int .i64 n),.v (.slice q.1 q.2.1 q.2.2),.own 3,.v (.slice none 0 0),.v (.slice none 0 0)]),(3,.row 3 1 iRow0)],4⟩)
  (fun q H'=>Le H1 H'∧RL H' q.1 q.2.1 q.2.2 (gSort (edgesOf p))) (by kernel_rfl) ⟨⟨?_,?_,?_⟩,?_,?_,?_⟩ ?_
 ·exact⟨cx_ok.tt,cx_ok.eqs⟩
 ·exact cx_mix
 ·refine redges_spec hp (ha.up hle1) fun a2 n2 c2 H2 hle2 hr2=>?_
  refine⟨(a2,n2,c2),[(0,0),(1,1),(2,3),(3,2)],?_,hle2,hr2⟩
  (repeat' (first|exact trivial|refine⟨?_,?_⟩|exact rfl|assumption))
 ·refine redges_spec hp (ha.up hle1) fun a2 n2 c2 H2 hle2 hr2=>?_
  refine⟨(a2,n2,c2),[(0,0),(1,1),(2,2),(3,3)],?_,hle2,hr2⟩
  (repeat' (first|exact trivial|refine⟨?_,?_⟩|exact rfl|assumption))
 ·refine redges_spec hp (ha.up hle1) fun a2 n2 c2 H2 hle2 hr2=>?_
  refine⟨(a2,n2,c2),[(0,0),(1,1),(2,2),(3,3)],?_,hle2,hr2⟩
  (repeat' (first|exact trivial|refine⟨?_,?_⟩|exact rfl|assumption))
 ·refine redges_spec hp (ha.up hle1) fun a2 n2 c2 H2 hle2 hr2=>?_
  refine⟨(a2,n2,c2),[(0,0),(1,1),(2,3),(3,2)],?_,hle2,hr2⟩
  (repeat' (first|exact trivial|refine⟨?_,?_⟩|exact rfl|assumption))
 ·refine redges_spec hp (ha.up hle1) fun a2 n2 c2 H2 hle2 hr2=>?_
  refine⟨(a2,n2,c2),[(0,0),(1,1),(2,3),(3,2)],?_,hle2,hr2⟩
  (repeat' (first|exact trivial|refine⟨?_,?_⟩|exact rfl|assumption))
 ·refine redges_spec hp (ha.up hle1) fun a2 n2 c2 H2 hle2 hr2=>?_
  refine⟨(a2,n2,c2),[(0,0),(1,1),(2,2),(3,3)],?_,hle2,hr2⟩
  (repeat' (first|exact trivial|refine⟨?_,?_⟩|exact rfl|assumption))
 rintro⟨ae,ne,ce⟩ H2 _ ⟨hle2,hre⟩;dsimp only at hre
 refine⟨Nat,fun i=>⟨[(1,.ptr 0 0),(2,.ptr 1 0),(3,.v (.int .i64 nv)),(4,.ptr 2 0),(5,.v (.int .i64 i))],
   [(0,.cells 24 [.v (.slice a n c)]),(1,.cells 32 (vL zSys)),(2,.cells 32 [.v (.int .i64 3),.v (.int .i64 nv),.v (.int .i64 n),.v (.slice ae ne ce),.own 3,.own 4,.v (.slice none 0 0)]),(3,.row 3 1 iRow0),(4,.row 66 1 (uRows (List.replicate i two64)))],5⟩,
  fun i H'=>H'=H2∧i≤nv,fun i=>nv - i,⟨0,[(0,0),(1,1),(2,2),(3,3)],?_,rfl,Nat.zero_le _⟩,?_⟩
 ·(repeat' (first|exact trivial|refine⟨?_,?_⟩|exact rfl|assumption))
 rintro i H3 _ ⟨rfl,hi⟩
 have hil:(uRows (List.replicate i two64)).length=i:=by simp
 refine⟨fun h=>?_,fun h=>?_⟩
 ·have hlt:i<nv:=by have:=dt h;omega
  refine⟨some ([1000000,2,4,5],[0,1,2,3,4,5,6,7]),by kernel_rfl,?_⟩;refine rkof_spec (a:=(0,0)) ?_;rw[kOf_zero];refine⟨⟨by show (_+1)*8≤140737488355328;rw[hil];omega,by show _+1≤9223372036854775807;rw[hil];omega⟩,?_⟩;refine⟨⟨by omega,by omega⟩,i+1,[(0,0),(1,1),(2,2),(3,3),(4,6)],?_,⟨rfl,hlt⟩,by dsimp only;omega⟩;have e:=(two_snoc i).symm
  (repeat' (first|exact trivial|refine⟨?_,?_⟩|exact rfl|assumption))
 have hil2:i=nv:=by have:=df h;omega
 rw[hil2]
 refine⟨Nat×List (List Value),fun q=>⟨[(1,.ptr 0 0),(2,.ptr 1 0),(4,.ptr 2 0),(32,.v (.slice a n c)),(33,.v (.int .i64 n)),(34,.v (.int .i64 q.1))],
   [(0,.cells 24 [.v (.slice a n c)]),(1,.cells 32 (vL zSys)),(2,.cells 32 [.v (.int .i64 3),.v (.int .i64 nv),.v (.int .i64 n),.v (.slice ae ne ce),.own 3,.own 4,.own 5]),(3,.row 3 1 iRow0),(4,.row 66 1 (uRows (List.replicate nv two64))),(5,.row 78 3 q.2)],6⟩,
  fun q H'=>Le H3 H'∧q.1≤p.length∧RC (α:=Tr3) H' q.2 (((sysOf p).T.map Tr3.mk).take q.1),fun q=>p.length - q.1,⟨(0,[]),[(0,0),(1,1),(2,2),(3,3),(4,4)],?_,Le.refl _,Nat.zero_le _,RC.nil⟩,?_⟩
 ·(repeat' (first|exact trivial|refine⟨?_,?_⟩|exact rfl|assumption))
 rintro⟨j,css⟩ H4 _ ⟨hle4,hj,hrc⟩;dsimp only at hj hrc;have hle:Le H H4:=(hle1.trans hle2).trans hle4
 have hTl:((sysOf p).T.map Tr3.mk).length=p.length:=by simp [sysOf]
 have hcl:css.length=j:=by have h1:=hrc.1;rw[List.length_take]at h1;omega
 refine⟨fun h=>?_,fun h=>?_⟩
 ·have hlt:j<p.length:=by have:=dt h;dsimp only at this;omega
  refine name_k p[j] fun b hbe=>?_
  have hbb:p[j]?=some b:=by rw[hbe];exact List.getElem?_eq_getElem hlt
  refine block_k (ha.up hle) hbb fun ad a5 n5 c5 q1 hh hr5 hs5 ht5=>?_
  refine⟨ad,⟨by dsimp only;omega,by dsimp only;omega,q1⟩,?_⟩;refine⟨_,hh,?_⟩;refine⟨some ([1000000,2,5,7],[0,1,2,3,4,5,6,7,8,9,10]),by kernel_rfl,?_⟩
  refine rcodes_spec hv (vars_small he) (hl b (by rw[hbe];exact List.getElem_mem hlt)) (ha.up hle) hr5 fun a6 n6 c6 H5 hle5 hr6=>?_
  refine⟨⟨by show (css.length+1)*72≤140737488355328;omega,by show css.length+1≤9223372036854775807;omega⟩,?_⟩
  have hrc2:RC (α:=Tr3) H5 (css++[[.slice none 0 0,.slice none 0 0,.slice a6 n6 c6]]) (((sysOf p).T.map Tr3.mk).take (j+1)):=by
   rw[sysT_take hbb];exact tr_snoc (RC.up hrc hle5) hr6
  refine⟨⟨by omega,by omega⟩,(j+1,css++[[.slice none 0 0,.slice none 0 0,.slice a6 n6 c6]]),[(0,0),(1,1),(2,2),(3,3),(4,4),(5,8)],?_,⟨hle4.trans hle5,hlt,hrc2⟩,by dsimp only;omega⟩
  (repeat' (first|exact trivial|refine⟨?_,?_⟩|exact rfl|assumption))
 ·have hjl:j=p.length:=by have:=df h;dsimp only at this;omega
  rw[hjl,List.take_of_length_le (by omega)]at hrc;intro v1 H5 hle5 hv1
  refine ints_k hv1 fun na nn nc ev1 hr1=>?_
  subst ev1;intro v2 H6 hle6 hv2
  refine of_row_k (α:=UInt64) hv2 rc_w fun ia ni ic ev2 hr2=>?_
  subst ev2;intro v3 H7 hle7 hv3;have h57:=(hle5.le.trans hle6.le).trans hle7.le
  refine of_row_k (α:=Tr3) hv3 (RC.up hrc h57) fun ta tn tc ev3 hr3=>?_
  subst ev3
  have hsys:SysR H7 (sysOf p) ⟨ae,ne,ce,na,nn,nc,ia,ni,ic,ta,tn,tc⟩:=by
   refine⟨hre.up (hle4.trans h57),hr1.up (hle6.le.trans hle7.le),?_,hr3⟩
   have e:(sysOf p).ini=List.replicate nv two64:=by rw[hnv];rfl
   rw[e];exact hr2.up hle7.le
  have hK:=hK ⟨ae,ne,ce,na,nn,nc,ia,ni,ic,ta,tn,tc⟩ H7 (hle.trans h57) hsys;have e1:(sysOf p).w=nv:=hnv.symm;have e2:(sysOf p).m=n:=hn.symm;rw[sysA,sysV,e1,e2]at hK;exact hK
end Go.Proofs
end
section
namespace Go.Proofs
open Go.Sy
set_option maxRecDepth 20000
set_option maxHeartbeats 4000000
theorem exprB_op {x:Expr} (h:exprB x=true):0≤x.1∧x.1≤4:=by
 unfold exprB at h;split at h
 ·rename_i h1;simp only[op1,Bool.or_eq_true,decide_eq_true_eq]at h1;omega
 ·split at h
  ·rename_i h1;simp only[op2,Bool.or_eq_true,decide_eq_true_eq]at h1;omega
  ·cases h
theorem check_facts {p:Prog} (h:checkE p=0):1≤p.length∧p.length≤128∧(varsOf p).length≤64∧∀b∈p,blockB b=true:=by
 unfold checkE at h;split at h
 ·cases h
 ·rename_i h0;split at h
  ·rename_i h1;split at h
   ·cases h
   ·refine⟨by omega,by omega,by omega,fun b hb=>List.all_eq_true.1 h1 b hb⟩
  ·cases h
theorem block_stmts {b:Block} (h:blockB b=true):∀s∈b.2.1,stmtB s=true:=by
 rw[blockB,Bool.and_eq_true]at h
 exact fun s hs=>List.all_eq_true.1 h.2 s hs
end Go.Proofs
end
section
namespace Go.Proofs
open Go.Sy
set_option maxRecDepth 20000
set_option maxHeartbeats 4000000
theorem same16_spec {l:List Cd} {a a2:Option Addr} {n c n2 k2:Nat} {H:Hp} {K:Value→Hp→Prop} (ha:RL H a n c l) (hb:RL H a2 n2 k2 l) (hK:K (.bool true) H):Does Tryz.prog 34 [trA a n c,trA a2 n2 k2] H K:=by
 have hn:=ha.n_eq;have hn2:=hb.n_eq;have hmx:=ha.le;refine spec_of cx_ok cx_mix rfl Tryz.func34 Tryz.call34 Tryz.ntmps34 Tryz.results34 rfl rfl ?_;refine⟨(fun h=>absurd (nt h) (by omega)),fun _=>?_⟩
 refine⟨Nat,fun i=>⟨[(2,.ptr 0 0),(3,.ptr 1 0),(15,.v (.int .i64 n)),(16,.v (.int .i64 i))],[(0,.cells 78 [.v (.slice none 0 0),.v (.slice none 0 0),.v (.slice a n c)]),(1,.cells 78 [.v (.slice none 0 0),.v (.slice none 0 0),.v (.slice a2 n2 k2)])],2⟩,
  fun i H'=>H'=H∧i≤l.length,fun i=>l.length - i,⟨0,[(0,0),(1,1)],?_,rfl,Nat.zero_le _⟩,?_⟩
 ·(repeat' (first|exact trivial|refine⟨?_,?_⟩|exact rfl|assumption))
 rintro i H1 _ ⟨rfl,hi⟩;refine⟨fun h=>?_,fun h=>?_⟩
 ·have hlt:i<l.length:=by have:=dt h;omega
  have ex:=List.getElem?_eq_getElem hlt
  refine code_k ha ex fun ad q1 hh=>?_
  refine code_k hb ex fun ad2 q2 hh2=>?_
  refine⟨some ([],[0,1,2,3,4,5,6,7,8,9,10]),by kernel_rfl,?_⟩;refine⟨ad,⟨by omega,by omega,q1⟩,?_⟩;refine⟨_,hh,?_⟩;refine⟨ad2,⟨by omega,by omega,q2⟩,?_⟩;refine⟨_,hh2,?_⟩;refine⟨(fun h=>absurd h (by simp)),fun _=>?_⟩;refine⟨⟨by omega,by omega⟩,i+1,[(0,0),(1,1)],?_,⟨rfl,hlt⟩,by dsimp only;omega⟩
  (repeat' (first|exact trivial|refine⟨?_,?_⟩|exact rfl|assumption))
 ·refine same10_spec (x:=[]) (y:=[]) ?_ ?_ ?_
  ·exact rl_nil
  ·exact rl_nil
  refine⟨fun _=>?_,(fun h=>by simp at h)⟩;refine same10_spec (x:=[]) (y:=[]) rl_nil rl_nil ?_;exact hK
theorem alike_spec {s:Sy3} {z y:SA} {H:Hp} {K:Value→Hp→Prop} (hz:SysR H s z) (hy:SysR H s y) (hK:K (.bool true) H):Does Tryz.prog 9 [sysA s z,sysA s y] H K:=by
 have hn:=hz.t.n_eq;have hn2:=hy.t.n_eq;have hmx:=hz.t.le;rw[List.length_map]at hn hn2;refine spec_of cx_ok cx_mix rfl Tryz.func9 Tryz.call9 Tryz.ntmps9 Tryz.results9 rfl rfl ?_;refine⟨fun _=>?_,(fun h=>by simp at h)⟩;refine⟨fun _=>?_,(fun h=>by simp at h)⟩;refine⟨fun _=>?_,(fun h=>by simp at h)⟩;refine same_spec hz.e hy.e ?_;refine⟨fun _=>?_,(fun h=>by simp at h)⟩;refine ints_spec hz.n hy.n ?_;refine⟨fun _=>?_,(fun h=>by simp at h)⟩;refine same10_spec hz.i hy.i ?_;refine⟨fun _=>?_,(fun h=>by simp at h)⟩;refine⟨(fun h=>absurd (nt h) (by omega)),fun _=>?_⟩
 refine⟨Nat,fun i=>⟨[(2,.ptr 0 0),(3,.ptr 1 0),(60,.v (.int .i64 z.tn)),(61,.v (.int .i64 i))],[(0,.cells 32 (vL (sysV s z))),(1,.cells 32 (vL (sysV s y)))],2⟩,
  fun i H'=>H'=H∧i≤s.T.length,fun i=>s.T.length - i,⟨0,[(0,0),(1,1)],?_,rfl,Nat.zero_le _⟩,?_⟩
 ·(repeat' (first|exact trivial|refine⟨?_,?_⟩|exact rfl|assumption))
 rintro i H1 _ ⟨rfl,hi⟩;refine⟨fun h=>?_,fun h=>?_⟩
 ·have hlt:i<s.T.length:=by have:=dt h;omega
  have ex:=List.getElem?_eq_getElem hlt
  refine trans_k hz.t ex fun ad a1 n1 c1 q1 hh hr=>?_
  refine trans_k hy.t ex fun ad2 a2 n2 c2 q2 hh2 hr2=>?_
  refine⟨some ([],[0,1,2,3,4,5,6,7,8,9,10,11]),by kernel_rfl,?_⟩;refine⟨ad,⟨by omega,by omega,q1⟩,?_⟩;refine⟨_,hh,?_⟩;refine⟨ad2,⟨by omega,by omega,q2⟩,?_⟩;refine⟨_,hh2,?_⟩;refine same16_spec hr hr2 ?_;refine⟨(fun h=>by cases h),fun _=>?_⟩;refine⟨⟨by omega,by omega⟩,i+1,[(0,0),(1,1)],?_,⟨rfl,hlt⟩,by dsimp only;omega⟩
  (repeat' (first|exact trivial|refine⟨?_,?_⟩|exact rfl|assumption))
 ·exact hK
end Go.Proofs
end
section
namespace Go.Proofs
open Go.Sy
set_option maxRecDepth 20000
set_option maxHeartbeats 4000000
theorem alike0_spec {H:Hp} {K:Value→Hp→Prop} (hK:K (.bool true) H):Does Tryz.prog 9 [.agg zSys.toArray,.agg zSys.toArray] H K:=by
 refine spec_of cx_ok cx_mix rfl Tryz.func9 Tryz.call9 Tryz.ntmps9 Tryz.results9 rfl rfl ?_;refine⟨fun _=>?_,(fun h=>by simp at h)⟩;refine⟨fun _=>?_,(fun h=>by simp at h)⟩;refine⟨fun _=>?_,(fun h=>by simp at h)⟩;refine same_spec (l:=[]) (m:=[]) rl_nil rl_nil ?_;refine⟨fun _=>?_,(fun h=>by simp at h)⟩;refine ints_spec (l:=[]) (m:=[]) rl_nil rl_nil ?_;refine⟨fun _=>?_,(fun h=>by simp at h)⟩;refine same10_spec (x:=[]) (y:=[]) rl_nil rl_nil ?_;refine⟨fun _=>?_,(fun h=>by simp at h)⟩;refine⟨(fun h=>absurd rfl (nt h)),fun _=>?_⟩
 refine⟨Nat,fun i=>⟨[(60,.v (.int .i64 (0:Nat))),(61,.v (.int .i64 i))],[],0⟩,
  fun i H'=>H'=H∧i≤0,fun i=>0,⟨0,[],?_,rfl,Nat.zero_le _⟩,?_⟩
 ·(repeat' (first|exact trivial|refine⟨?_,?_⟩|exact rfl|assumption))
 rintro i H1 _ ⟨rfl,hi⟩;refine⟨fun h=>?_,fun h=>?_⟩
 ·have:=dt h;omega
 ·exact hK
end Go.Proofs
end
section
namespace Go.Proofs
open Go.Sy
set_option maxRecDepth 20000
set_option maxHeartbeats 4000000
def nAt (op:Int):Nat:=if op=0∨op=4 then 1 else if op=1∨op=2∨op=3 then 2 else 0
theorem atomsOf_len (x:Expr):(atomsOf x).length=nAt x.1:=by
 unfold atomsOf nAt op1 op2
 by_cases h0:x.1=0∨x.1=4
 ·rw[if_pos h0,if_pos (by simpa using h0)];rfl
 ·rw[if_neg h0,if_neg (by simpa using h0)]
  by_cases h1:x.1=1∨x.1=2∨x.1=3
  ·rw[if_pos h1,if_pos (by simpa [or_assoc] using h1)];rfl
  ·rw[if_neg h1,if_neg (by simpa [or_assoc] using h1)];rfl
theorem vratoms_spec {x:Expr} (hx:exprR x) {H:Hp} {K:Value→Hp→Prop} (hK:∀a c H',Le H H'→K (.slice a (nAt x.1) c) H'):Does Tryz.prog 78 [exprA x] H K:=by
 refine ratoms_spec hx fun a n c H' hle hr=>?_
 have hn:=hr.n_eq;rw[atomsOf_len]at hn;rw[hn];exact hK _ _ _ hle
end Go.Proofs
end
section
/- Plain words: the texts of numbers, of what is known, of atoms and of expressions: the program's and the document's. -/
namespace Go.Proofs
open Go.Sy
set_option maxRecDepth 20000
set_option maxHeartbeats 4000000
theorem wrp_inZ (n:Int) : -9223372036854775807≤wrp n∧wrp n≤9223372036854775807:=by have:=wrp_le n;omega
theorem gtext_spec {a:Nm} {H:Hp} {K:Value→Hp→Prop} (hK:K (.string (bs (nTx a))) H):Does Tryz.prog 68 [numV a] H K:=by
 refine spec_of cx_ok cx_mix rfl Tryz.func68 Tryz.call68 Tryz.ntmps68 Tryz.results68 rfl rfl ?_;refine gof_spec ?_;have h1:=wrp_dg a.1;have h2:=wrp_dg a.2;refine⟨fun h=>?_,fun h=>?_⟩
 ·have h0:wrp a.2=0:=dt h;refine gdig_spec (wrp_inZ a.1) ?_;rw[nTx,if_pos h0]at hK;exact hK
 ·have h0:¬wrp a.2=0:=df h;rw[nTx,if_neg h0]at hK;refine⟨some ([],[0,1,5,6,2,3,4,7,8,9,10]),by kernel_rfl,?_⟩;refine gdig_spec (wrp_inZ a.1) ?_;refine⟨by show 1+(dgS (wrp a.1)).length≤_;omega,?_⟩;refine⟨by show ([40]++dgS (wrp a.1)).length+1≤_;rw[List.length_append,List.length_singleton];omega,?_⟩;refine gdig_spec (wrp_inZ a.2) ?_;refine⟨by show ([40]++dgS (wrp a.1)++[44]).length+(dgS (wrp a.2)).length≤_;simp only[List.length_append,List.length_singleton];omega,?_⟩;refine⟨by show ([40]++dgS (wrp a.1)++[44]++dgS (wrp a.2)).length+1≤_;simp only[List.length_append,List.length_singleton];omega,?_⟩;exact hK
theorem rtext01_spec {a:Nm} {H:Hp} {K:Value→Hp→Prop} (hK:K (.string (bs (nTx a))) H):Does Tryz.prog 76 [numV a] H K:=by
 refine spec_of cx_ok cx_mix rfl Tryz.func76 Tryz.call76 Tryz.ntmps76 Tryz.results76 rfl rfl ?_;refine rof_spec ?_;have h1:=wrp_dg a.1;have h2:=wrp_dg a.2;refine⟨fun h=>?_,fun h=>?_⟩
 ·have h0:wrp a.2=0:=dt h;refine rdig_spec (wrp_inZ a.1) ?_;rw[nTx,if_pos h0]at hK;exact hK
 ·have h0:¬wrp a.2=0:=df h;rw[nTx,if_neg h0]at hK;refine⟨some ([],[0,1,5,6,2,3,4,7,8,9,10]),by kernel_rfl,?_⟩;refine rdig_spec (wrp_inZ a.1) ?_;refine⟨by show 1+(dgS (wrp a.1)).length≤_;omega,?_⟩;refine⟨by show ([40]++dgS (wrp a.1)).length+1≤_;rw[List.length_append,List.length_singleton];omega,?_⟩;refine rdig_spec (wrp_inZ a.2) ?_;refine⟨by show ([40]++dgS (wrp a.1)++[44]).length+(dgS (wrp a.2)).length≤_;simp only[List.length_append,List.length_singleton];omega,?_⟩;refine⟨by show ([40]++dgS (wrp a.1)++[44]++dgS (wrp a.2)).length+1≤_;simp only[List.length_append,List.length_singleton];omega,?_⟩;exact hK
theorem ktext_spec {w:Nat} (hw:w<18446744073709551616) {H:Hp} {K:Value→Hp→Prop} (hK:K (.string (bs (kTx w))) H):Does Tryz.prog 25 [.int .u64 w] H K:=by
 refine spec_of cx_ok cx_mix rfl Tryz.func25 Tryz.call25 Tryz.ntmps25 Tryz.results25 rfl rfl ?_;refine knum_spec hw ?_;rw[kTx]at hK
 cases e:kNum w with
 | some a =>
  rw[e]at hK;refine⟨fun _=>?_,fun h=>by cases h⟩;refine gtext_spec ?_;exact hK
 | none =>
  rw[e]at hK;refine⟨fun h=>absurd h (by decide),fun _=>?_⟩;dsimp only at hK;refine⟨fun h=>?_,fun h=>?_⟩
  ·have h0:w=0:=by have:=dt h;omega
   rw[if_pos h0]at hK;exact hK
  ·have h0:¬w=0:=by have:=df h;omega
   rw[if_neg h0]at hK;exact hK
theorem rktext_spec {w:Nat} (hw:w<18446744073709551616) {H:Hp} {K:Value→Hp→Prop} (hK:K (.string (bs (kTx w))) H):Does Tryz.prog 37 [.int .u64 w] H K:=by
 refine spec_of cx_ok cx_mix rfl Tryz.func37 Tryz.call37 Tryz.ntmps37 Tryz.results37 rfl rfl ?_;refine rnorm_spec hw ?_;rw[kTx]at hK
 have hw2:kNorm w<18446744073709551616:=by unfold kNorm;split<;>omega
 refine⟨fun h=>?_,fun h=>?_⟩
 ·have h0:kNorm w=0:=by have:=dt h;omega
  have h1:w=0:=by
   unfold kNorm at h0
   split at h0<;>omega
  subst h1;exact hK
 ·have h0:¬kNorm w=0:=by have:=df h;omega
  refine⟨fun h=>?_,fun h=>?_⟩
  ·have h1:kNorm w=1:=by have:=dt h;omega
   have h2:kNum w=none∧¬w=0:=by
    refine⟨?_,fun e=>by rw[e]at h1;exact absurd h1 (by decide)⟩
    cases e:kNum w with
    | none=>rfl
    | some a =>
     have h5:kNorm w=w:=by rw[kNorm,if_pos (by rw[kIs,e];rfl)]
     rw[h5]at h1;rw[h1]at e
     have e2:kNum 1=none:=by decide
     rw[e2]at e;cases e
   rw[h2.1]at hK;dsimp only at hK;rw[if_neg h2.2]at hK;exact hK
  ·have h1:¬kNorm w=1:=by have:=df h;omega
   have h2:kNorm w=w∧∃a,kNum w=some a:=by
    have h5:kIs w=true:=by
     cases e:kIs w with
     | true=>rfl
     | false=>exact absurd (by rw[kNorm,e];rfl) h1
    have h6:kNorm w=w:=by rw[kNorm,if_pos h5]
    refine⟨h6,?_⟩;rw[h6]at h0 h1
    cases e:kNum w with
    | some a=>exact⟨a,rfl⟩
    | none=>rw[kIs,e,decide_eq_false h0,decide_eq_false h1]at h5;cases h5
   obtain⟨h3,a,h4⟩:=h2;rw[h3];refine rnum_spec hw ?_;rw[h4]at hK ⊢;refine rtext01_spec ?_;exact hK
theorem patom_spec {a:Atm} {H:Hp} {K:Value→Hp→Prop} (hK:K (.string (bs (aTx a))) H):Does Tryz.prog 123 [atmA a] H K:=by
 refine spec_of cx_ok cx_mix rfl Tryz.func123 Tryz.call123 Tryz.ntmps123 Tryz.results123 rfl rfl ?_;rw[aTx]at hK;refine⟨fun h=>?_,fun h=>?_⟩
 ·have h0:¬a.1.l=[]:=nt h;rw[if_neg h0]at hK;exact hK
 ·have h0:a.1.l=[]:=nf h;rw[if_pos h0]at hK;refine gtext_spec (a:=a.2) ?_;exact hK
theorem ratom5_spec {a:Atm} {H:Hp} {K:Value→Hp→Prop} (hK:K (.string (bs (aTx a))) H):Does Tryz.prog 125 [atmA a] H K:=by
 refine spec_of cx_ok cx_mix rfl Tryz.func125 Tryz.call125 Tryz.ntmps125 Tryz.results125 rfl rfl ?_;rw[aTx]at hK;refine⟨fun h=>?_,fun h=>?_⟩
 ·have h0:¬a.1.l=[]:=nt h;rw[if_neg h0]at hK;exact hK
 ·have h0:a.1.l=[]:=nf h;rw[if_pos h0]at hK;refine rtext01_spec (a:=a.2) ?_;exact hK
theorem aTx_len2 {a:Atm} (h:a.1.l.length≤1000000):(aTx a).length≤1000045:=by
 rw[aTx];split
 ·have:=nTx_len a.2;omega
 ·omega
theorem pexpr1 {u v:Atm} {H:Hp} {K:Value→Hp→Prop} (hK:K (.string (bs (xTx (1,u,v)))) H) (h1:u.1.l.length≤1000000) (h2:v.1.l.length≤1000000):Does Tryz.prog 71 [exprA (1,u,v)] H K:=by
 have h3:=aTx_len2 h1;have h4:=aTx_len2 h2;have e9:xTx (1,u,v)=aTx u++[32,43,32]++aTx v:=rfl;rw[e9]at hK;refine spec_of cx_ok cx_mix rfl Tryz.func71 Tryz.call71 Tryz.ntmps71 Tryz.results71 rfl rfl ?_;refine⟨fun h=>absurd (show (1:Int)=0 from dt h) (by decide),fun _=>?_⟩
 (refine⟨fun _=>?_,fun h=>absurd rfl (df h)⟩;refine⟨fun _=>?_,fun h=>absurd rfl (df h)⟩)
 refine⟨some ([],[0,1,3,4,5,6,8,9,2,7,10,11,12]),by kernel_rfl,?_⟩;refine⟨⟨show (0:Int)≤1 by decide,show (1:Int)<((4:Nat):Int) by decide⟩,?_⟩;refine patom_spec (a:=u) ?_;refine⟨by show (aTx u).length+3≤_;omega,?_⟩;refine patom_spec (a:=v) ?_;refine⟨by show (aTx u++[32,43,32]).length+(aTx v).length≤_;rw[List.length_append];show (aTx u).length+3+(aTx v).length≤_;omega,?_⟩;exact hK
theorem pexpr2 {u v:Atm} {H:Hp} {K:Value→Hp→Prop} (hK:K (.string (bs (xTx (2,u,v)))) H) (h1:u.1.l.length≤1000000) (h2:v.1.l.length≤1000000):Does Tryz.prog 71 [exprA (2,u,v)] H K:=by
 have h3:=aTx_len2 h1;have h4:=aTx_len2 h2;have e9:xTx (2,u,v)=aTx u++[32,45,32]++aTx v:=rfl;rw[e9]at hK;refine spec_of cx_ok cx_mix rfl Tryz.func71 Tryz.call71 Tryz.ntmps71 Tryz.results71 rfl rfl ?_;refine⟨fun h=>absurd (show (2:Int)=0 from dt h) (by decide),fun _=>?_⟩
 (refine⟨fun h=>absurd (show (2:Int)=1 from dt h) (by decide),fun _=>?_⟩;refine⟨fun _=>?_,fun h=>absurd rfl (df h)⟩;refine⟨fun _=>?_,fun h=>absurd rfl (df h)⟩)
 refine⟨some ([],[0,1,3,4,5,6,8,9,2,7,10,11,12]),by kernel_rfl,?_⟩;refine⟨⟨show (0:Int)≤2 by decide,show (2:Int)<((4:Nat):Int) by decide⟩,?_⟩;refine patom_spec (a:=u) ?_;refine⟨by show (aTx u).length+3≤_;omega,?_⟩;refine patom_spec (a:=v) ?_;refine⟨by show (aTx u++[32,45,32]).length+(aTx v).length≤_;rw[List.length_append];show (aTx u).length+3+(aTx v).length≤_;omega,?_⟩;exact hK
theorem pexpr3 {u v:Atm} {H:Hp} {K:Value→Hp→Prop} (hK:K (.string (bs (xTx (3,u,v)))) H) (h1:u.1.l.length≤1000000) (h2:v.1.l.length≤1000000):Does Tryz.prog 71 [exprA (3,u,v)] H K:=by
 have h3:=aTx_len2 h1;have h4:=aTx_len2 h2;have e9:xTx (3,u,v)=aTx u++[32,42,32]++aTx v:=rfl;rw[e9]at hK;refine spec_of cx_ok cx_mix rfl Tryz.func71 Tryz.call71 Tryz.ntmps71 Tryz.results71 rfl rfl ?_;refine⟨fun h=>absurd (show (3:Int)=0 from dt h) (by decide),fun _=>?_⟩
 (refine⟨fun h=>absurd (show (3:Int)=1 from dt h) (by decide),fun _=>?_⟩;refine⟨fun h=>absurd (show (3:Int)=2 from dt h) (by decide),fun _=>?_⟩;refine⟨fun _=>?_,fun h=>absurd rfl (df h)⟩)
 refine⟨some ([],[0,1,3,4,5,6,8,9,2,7,10,11,12]),by kernel_rfl,?_⟩;refine⟨⟨show (0:Int)≤3 by decide,show (3:Int)<((4:Nat):Int) by decide⟩,?_⟩;refine patom_spec (a:=u) ?_;refine⟨by show (aTx u).length+3≤_;omega,?_⟩;refine patom_spec (a:=v) ?_;refine⟨by show (aTx u++[32,42,32]).length+(aTx v).length≤_;rw[List.length_append];show (aTx u).length+3+(aTx v).length≤_;omega,?_⟩;exact hK
theorem pexprT_spec {x:Expr} {H:Hp} {K:Value→Hp→Prop} (hK:K (.string (bs (xTx x))) H) (h1:x.2.1.1.l.length≤1000000) (h2:x.2.2.1.l.length≤1000000):Does Tryz.prog 71 [exprA x] H K:=by
 obtain⟨k,u,v⟩:=x;have h3:=aTx_len2 h1
 by_cases k1:k=1
 ·subst k1;exact pexpr1 hK h1 h2
 by_cases k2:k=2
 ·subst k2;exact pexpr2 hK h1 h2
 by_cases k3:k=3
 ·subst k3;exact pexpr3 hK h1 h2
 refine spec_of cx_ok cx_mix rfl Tryz.func71 Tryz.call71 Tryz.ntmps71 Tryz.results71 rfl rfl ?_;refine⟨fun h=>?_,fun h=>?_⟩
 ·have h0:k=0:=dt h;refine patom_spec (a:=u) ?_;rw[xTx,if_pos h0]at hK;exact hK
 ·have h0:¬k=0:=df h;refine⟨fun h=>absurd (dt h) k1,fun _=>?_⟩;refine⟨fun h=>absurd (dt h) k2,fun _=>?_⟩;refine⟨fun h=>absurd (dt h) k3,fun _=>?_⟩;rw[xTx,if_neg h0,if_neg k1,if_neg k2,if_neg k3]at hK;refine⟨fun h=>?_,fun h=>?_⟩
  ·have h4:k=4:=dt h;rw[if_pos h4]at hK;refine patom_spec (a:=u) ?_;exact⟨by show 5+(aTx u).length≤_;have h3:(aTx u).length≤1000045:=h3;omega,hK⟩
  ·have h4:¬k=4:=df h;rw[if_neg h4]at hK;exact hK
theorem rexprT_spec {x:Expr} (hx:exprR x) {H:Hp} {K:Value→Hp→Prop} (hK:∀H',Le H H'→K (.string (bs (xTx x))) H') (h1:x.2.1.1.l.length≤1000000) (h2:x.2.2.1.l.length≤1000000):Does Tryz.prog 79 [exprA x] H K:=by
 have h3:=aTx_len2 h1;have h4:=aTx_len2 h2;refine spec_of cx_ok cx_mix rfl Tryz.func79 Tryz.call79 Tryz.ntmps79 Tryz.results79 rfl rfl ?_
 refine vratoms_spec hx fun a c H1 hle1=>?_
 refine⟨fun h=>?_,fun h=>?_⟩
 ·have hno:nAt x.1=0:=by have:=dt h;omega
  have e:xTx x=[]:=by
   unfold nAt at hno;split at hno
   ·omega
   ·split at hno
    ·omega
    ·rw[xTx,if_neg (by omega),if_neg (by omega),if_neg (by omega),if_neg (by omega),if_neg (by omega)]
  rw[e]at hK;exact hK _ (by first | exact hle1 | exact Le.refl H)
 ·have hno:¬nAt x.1=0:=by have:=df h;omega
  refine⟨fun h=>?_,fun h=>?_⟩
  ·have h0:x.1=0:=dt h;refine ratom5_spec (a:=x.2.1) ?_;rw[xTx,if_pos h0]at hK;exact hK _ (by first | exact hle1 | exact Le.refl H)
  ·have h0:¬x.1=0:=df h;refine⟨fun h=>?_,fun h=>?_⟩
   ·have h5:x.1=4:=dt h;refine ratom5_spec (a:=x.2.1) ?_;rw[xTx,if_neg h0,if_neg (by omega),if_neg (by omega),if_neg (by omega),if_pos h5]at hK;exact⟨by show 5+(aTx x.2.1).length≤_;omega,hK _ (by first | exact hle1 | exact Le.refl H)⟩
   ·have h5:¬x.1=4:=df h;refine⟨fun h=>?_,fun h=>?_⟩
    ·have hs:x.1=2:=dt h;refine⟨fun h=>absurd (dt h) (by omega),fun _=>?_⟩
     have e9:xTx x=aTx x.2.1++[32,45,32]++aTx x.2.2:=by
      obtain⟨k,u,v⟩:=x;have hs:k=2:=hs;subst hs
      rfl
     rw[e9]at hK;refine⟨some ([],[0,1,3,5,6,2,4,7,8,9]),by kernel_rfl,?_⟩;refine ratom5_spec (a:=x.2.1) ?_;refine⟨by show (aTx x.2.1).length+3≤_;omega,?_⟩;refine ratom5_spec (a:=x.2.2) ?_;refine⟨by show (aTx x.2.1++[32,45,32]).length+(aTx x.2.2).length≤_;rw[List.length_append];show (aTx x.2.1).length+3+(aTx x.2.2).length≤_;omega,?_⟩;exact hK _ (by first | exact hle1 | exact Le.refl H)
    ·have hn2:¬x.1=2:=df h;refine⟨fun h=>?_,fun h=>?_⟩
     ·have hs:x.1=3:=dt h
      have e9:xTx x=aTx x.2.1++[32,42,32]++aTx x.2.2:=by
       obtain⟨k,u,v⟩:=x;have hs:k=3:=hs;subst hs
       rfl
      rw[e9]at hK;refine⟨some ([],[0,1,3,5,6,2,4,7,8,9]),by kernel_rfl,?_⟩;refine ratom5_spec (a:=x.2.1) ?_;refine⟨by show (aTx x.2.1).length+3≤_;omega,?_⟩;refine ratom5_spec (a:=x.2.2) ?_;refine⟨by show (aTx x.2.1++[32,42,32]).length+(aTx x.2.2).length≤_;rw[List.length_append];show (aTx x.2.1).length+3+(aTx x.2.2).length≤_;omega,?_⟩;exact hK _ (by first | exact hle1 | exact Le.refl H)
     ·have hn3:¬x.1=3:=df h
      have hs:x.1=1:=by
       unfold nAt at hno;split at hno
       ·omega
       ·split at hno
        ·omega
        ·exact absurd rfl hno
      have e9:xTx x=aTx x.2.1++[32,43,32]++aTx x.2.2:=by
       obtain⟨k,u,v⟩:=x;have hs:k=1:=hs;subst hs
       rfl
      rw[e9]at hK;refine⟨some ([],[0,1,3,5,6,2,4,7,8,9]),by kernel_rfl,?_⟩;refine ratom5_spec (a:=x.2.1) ?_;refine⟨by show (aTx x.2.1).length+3≤_;omega,?_⟩;refine ratom5_spec (a:=x.2.2) ?_;refine⟨by show (aTx x.2.1++[32,43,32]).length+(aTx x.2.2).length≤_;rw[List.length_append];show (aTx x.2.1).length+3+(aTx x.2.2).length≤_;omega,?_⟩;exact hK _ (by first | exact hle1 | exact Le.refl H)
theorem texprname_spec {x:Expr} {H:Hp} {K:Value→Hp→Prop} (hK:K (.string (bs (xTx x))) H) (h1:x.2.1.1.l.length≤1000000) (h2:x.2.2.1.l.length≤1000000):Does Tryz.prog 29 [exprA x] H K:=by
 refine spec_of cx_ok cx_mix rfl Tryz.func29 Tryz.call29 Tryz.ntmps29 Tryz.results29 rfl rfl ?_;refine pexprT_spec (x:=x) ?_ h1 h2;exact hK
theorem rexprname_spec {x:Expr} (hx:exprR x) {H:Hp} {K:Value→Hp→Prop} (hK:∀H',Le H H'→K (.string (bs (xTx x))) H') (h1:x.2.1.1.l.length≤1000000) (h2:x.2.2.1.l.length≤1000000):Does Tryz.prog 41 [exprA x] H K:=by
 refine spec_of cx_ok cx_mix rfl Tryz.func41 Tryz.call41 Tryz.ntmps41 Tryz.results41 rfl rfl ?_;refine rexprT_spec hx (fun H1 hle1=>?_) h1 h2;exact hK _ (by first | exact hle1 | exact Le.refl H)
end Go.Proofs
end
section
namespace Go.Proofs
open Go.Sy
set_option maxRecDepth 20000
set_option maxHeartbeats 4000000
theorem insAt_has {i:Nat} {s:Bs8} {l:List Bs8} (_h:i≤l.length):s∈insAt i s l∧∀t∈l,t∈insAt i s l:=by
 rw[insAt];refine⟨by simp,fun t ht=>?_⟩;rw[←List.take_append_drop i l]at ht
 rcases List.mem_append.1 ht with ht | ht
 ·simp [ht]
 ·simp [ht]
theorem putS_has {l:List Bs8} (hl:SortedS l) (s:Bs8):(s≠[]→s∈putS s l)∧∀t∈l,t∈putS s l:=by
 by_cases h0:s=[]
 ·rw[h0,putS_nil];exact⟨fun h=>absurd rfl h,fun t h=>h⟩
 ·obtain⟨i,hi,h1,h2⟩:=lower hl s
  have e:=putS_at h0 hi h1 (fun x hx=>h2 x (by
   have hlt:=(List.getElem?_eq_some_iff.1 hx).1;rw[List.drop_eq_getElem_cons hlt,(List.getElem?_eq_some_iff.1 hx).2]
   exact List.mem_cons_self))
  rw[e];split
  ·rename_i hx;exact⟨fun _=>List.mem_of_getElem? hx,fun t h=>h⟩
  ·have:=insAt_has (s:=s) hi;exact⟨fun _=>this.1,this.2⟩
theorem putAll_has:∀(vs:List Bs8) {o:List Bs8},SortedS o→(∀s∈vs,s≠[]→s∈putAll vs o)∧∀t∈o,t∈putAll vs o
 | [],_,_=>⟨fun s h=>(by cases h),fun t h=>h⟩
 | v::r,o,ho=>by
  have h1:=putS_has ho v;have h2:=putAll_has r (putS_sorted ho v);refine⟨fun s hs h0=>?_,fun t ht=>h2.2 t (h1.2 t ht)⟩
  rcases List.mem_cons.1 hs with rfl | hs
  ·exact h2.2 _ (h1.1 h0)
  ·exact h2.1 s hs h0
theorem bVars_has:∀(l:List Stmt) {o:List Bs8},SortedS o→(∀x∈l,∀s∈sVars x,s≠[]→s∈bVars o l)∧∀t∈o,t∈bVars o l
 | [],_,_=>⟨fun s h=>(by cases h),fun t h=>h⟩
 | x::r,o,ho=>by
  have h1:=putAll_has (sVars x) ho;have h2:=bVars_has r (putAll_sorted (sVars x) ho);refine⟨fun y hy s hs h0=>?_,fun t ht=>h2.2 t (h1.2 t ht)⟩
  rcases List.mem_cons.1 hy with rfl | hy
  ·exact h2.2 _ (h1.1 s hs h0)
  ·exact h2.1 y hy s hs h0
theorem blkVars_sorted {o:List Bs8} (ho:SortedS o) (b:Block):SortedS (blkVars o b):=putAll_sorted _ (bVars_sorted _ ho)
theorem blkVars_has {o:List Bs8} (ho:SortedS o) (b:Block):(∀x∈b.2.1,∀s∈sVars x,s≠[]→s∈blkVars o b)∧(b.2.2.2.1.1.l≠[]→b.2.2.2.1.1.l∈blkVars o b)∧∀t∈o,t∈blkVars o b:=by
 have h1:=bVars_has b.2.1 ho;have h2:=putAll_has [b.2.2.2.1.1.l] (bVars_sorted b.2.1 ho);exact⟨fun x hx s hs h0=>h2.2 s (h1.1 x hx s hs h0),fun h0=>h2.1 _ (List.mem_singleton.2 rfl) h0,fun t ht=>h2.2 t (h1.2 t ht)⟩
theorem vars_has:∀(p:Prog) {o:List Bs8},SortedS o→(∀b∈p,(∀x∈b.2.1,∀s∈sVars x,s≠[]→s∈p.foldl blkVars o)∧(b.2.2.2.1.1.l≠[]→b.2.2.2.1.1.l∈p.foldl blkVars o))∧∀t∈o,t∈p.foldl blkVars o
 | [],_,_=>⟨fun s h=>(by cases h),fun t h=>h⟩
 | b::r,o,ho=>by
  have h1:=blkVars_has ho b;have h2:=vars_has r (blkVars_sorted ho b);refine⟨fun b' hb=>?_,fun t ht=>h2.2 t (h1.2.2 t ht)⟩
  rcases List.mem_cons.1 hb with rfl | hb
  ·exact⟨fun x hx s hs h0=>h2.2 _ (h1.1 x hx s hs h0),fun h0=>h2.2 _ (h1.2.1 h0)⟩
  ·exact h2.1 b' hb
theorem nil_sorted:SortedS []:=by simp [SortedS]
theorem idxS_at (t:Bs8):∀(l:List Bs8) (i:Int),0≤i→t∈l→i≤idxS t l i∧idxS t l i<i+l.length∧l[(idxS t l i - i).toNat]?=some t
 | [],_,_,h=>by cases h
 | x::r,i,h0,h=>by
  rw[idxS];split
  ·rename_i e;refine⟨Int.le_refl _,by simp only[List.length_cons];omega,?_⟩;rw[show (i - i).toNat=0 by omega,List.getElem?_cons_zero,e]
  ·rename_i e
   rcases List.mem_cons.1 h with h | h
   ·exact absurd h.symm e
   ·have:=idxS_at t r (i+1) (by omega) h;simp only[List.length_cons];refine⟨by omega,by omega,?_⟩;rw[show (idxS t r (i+1) - i).toNat=(idxS t r (i+1) - (i+1)).toNat+1 by omega,List.getElem?_cons_succ];exact this.2.2
theorem idxS_some {t:Bs8}:∀ {l:List Bs8} {i:Int},0≤i→0≤idxS t l i→t∈l
 | [],i,_,h=>by rw[idxS]at h;omega
 | x::r,i,h0,h=>by
  rw[idxS]at h;split at h
  ·rename_i e
   rw[e];exact List.mem_cons_self
  ·exact List.mem_cons_of_mem _ (idxS_some (by omega) h)
end Go.Proofs
end
section
namespace Go.Proofs
open Go.Sy
set_option maxRecDepth 20000
set_option maxHeartbeats 4000000
end Go.Proofs
end
section
namespace Go.Proofs
open Go.Sy
set_option maxRecDepth 20000
set_option maxHeartbeats 4000000
theorem stmtB_var {s:Stmt} (h:stmtB s=true):(s.1=1∧0≤s.2.2.1∧s.2.2.1≤4∧s.2.1.l≠[])∨(s.1=2∧s.2.1.l≠[])∨(s.1=3∧s.2.1.l=[]):=by
 have hn:∀t:Bs8,nmB t=true→t≠[]:=fun t ht e=>by rw[e]at ht;exact absurd ht (by decide)
 unfold stmtB at h;split at h
 ·rename_i h1;rw[Bool.and_eq_true]at h;have:=exprB_op h.2;exact .inl ⟨h1,this.1,this.2,hn _ h.1⟩
 ·split at h
  ·rename_i h1;rw[Bool.and_eq_true]at h;exact .inr (.inl ⟨h1,hn _ h.1⟩)
  ·split at h
   ·rename_i h1;rw[Bool.and_eq_true,Bool.and_eq_true]at h;exact .inr (.inr ⟨h1,dt h.1.1⟩)
   ·cases h
end Go.Proofs
end
section
namespace Go.Proofs
open Go.Sy
set_option maxRecDepth 20000
set_option maxHeartbeats 4000000
end Go.Proofs
end
section
namespace Go.Proofs
open Go.Sy
set_option maxRecDepth 20000
set_option maxHeartbeats 4000000
end Go.Proofs
end
section
namespace Go.Proofs
open Go.Sy
set_option maxRecDepth 20000
set_option maxHeartbeats 4000000
end Go.Proofs
end
section
namespace Go.Proofs
open Go.Sy
set_option maxRecDepth 20000
set_option maxHeartbeats 4000000
abbrev stV (s:Stmt):List Value:=.int .i64 s.1 :: .string (bs s.2.1.l) :: .int .i64 s.2.2.1::(atmV s.2.2.2.1++atmV s.2.2.2.2)
structure FamI (H H':Hp) (vs:List Value) (p:Prog):Prop where
 len:vs.length=p.length
 new:∀(i:Nat) (v:Value) (b:Block),vs[i]?=some v→p[i]?=some b→NewAt 57 9 (b.2.1.map stV) H v H'
 dis:vs.Pairwise fun v u=>∀g,v.ownBlock=some g→u.ownBlock≠some g
theorem newAt_up {e:TypeId} {sz:Nat} {xs:List (List Value)} {H H2 H3:Hp} {x:Value} (h:NewAt e sz xs H x H2) (hle:Le H2 H3):NewAt e sz xs H x H3:=by
 rcases h with h1 | ⟨g,cap,c,h1,h2,h3,h4⟩
 ·exact .inl h1
 ·exact .inr ⟨g,cap,c,h1,h2,hle _ _ h3,h4⟩
theorem newAt_down {e:TypeId} {sz:Nat} {xs:List (List Value)} {H H1 H2:Hp} {x:Value} (h:NewAt e sz xs H1 x H2) (hle:Le H H1):NewAt e sz xs H x H2:=by
 rcases h with h1 | ⟨g,cap,c,h1,h2,h3⟩
 ·exact .inl h1
 ·refine .inr ⟨g,cap,c,h1,?_,h3⟩
  cases hg:H g with
  | none=>rfl
  | some o=>rw[hle _ _ hg]at h2;cases h2
theorem FamI.up {H H' H2:Hp} {vs:List Value} {p:Prog} (h:FamI H H' vs p) (hle:Le H' H2):FamI H H2 vs p:=⟨h.len,fun i v b h1 h2=>newAt_up (h.new i v b h1 h2) hle,h.dis⟩
theorem FamI.snoc {H H1 H2:Hp} {vs:List Value} {p:Prog} (h:FamI H H1 vs p) (hle0:Le H H1) {v:Value} {b:Block} (hv:LeN 57 9 (b.2.1.map stV) H1 v H2):FamI H H2 (vs++[v]) (p++[b]):=by
 refine⟨by rw[List.length_append,List.length_append,h.len];rfl,fun i u c h1 h2=>?_,?_⟩
 ·rw[List.getElem?_append]at h1 h2;have hl:=h.len;split at h1
  ·rename_i hi;rw[if_pos (by omega)]at h2;exact newAt_up (h.new i u c h1 h2) hv.le
  ·rename_i hi;rw[if_neg (by omega)]at h2
   have e1:i - vs.length=0:=by
    have:=(List.getElem?_eq_some_iff.1 h1).1
    simp at this;omega
   rw[e1]at h1;rw[←hl,e1]at h2;cases h1;cases h2;exact newAt_down hv.new hle0
 ·rw[List.pairwise_append];refine⟨h.dis,List.pairwise_singleton _ _,fun u hu w hw g hg hg'=>?_⟩;rw[List.mem_singleton]at hw;subst hw;obtain⟨i,hi⟩:=List.getElem?_of_mem hu;have hlt:=(List.getElem?_eq_some_iff.1 hi).1;have hb:p[i]?=some (p[i]'(by have:=h.len;omega)):=List.getElem?_eq_getElem _;obtain⟨_,o,ho⟩:=(h.new i u _ hi hb).fresh hg;have:=(hv.new.fresh hg').1;rw[ho]at this;cases this
end Go.Proofs
end
section
namespace Go.Proofs
open Go.Sy
set_option maxRecDepth 20000
set_option maxHeartbeats 4000000
end Go.Proofs
end
section
namespace Go.Proofs
open Go.Sy
set_option maxRecDepth 20000
set_option maxHeartbeats 4000000
end Go.Proofs
end
section
namespace Go.Proofs
open Go.Sy
set_option maxRecDepth 20000
set_option maxHeartbeats 4000000
end Go.Proofs
end
section
namespace Go.Proofs
open Go.Sy
set_option maxRecDepth 20000
set_option maxHeartbeats 4000000
end Go.Proofs
end
