/- Part 'M19' of the proof (N1, N2, N3, G1, P1, F1, F2, P2, P6): lemmas, each with its own conditions in its own statement. -/
import Derived.Test.YtheokcjommfopaaGreatDoorM0
import Derived.Test.YtheokcjommfopaaGreatDoorM1
import Derived.Test.YtheokcjommfopaaGreatDoorM16
import Derived.Test.YtheokcjommfopaaGreatDoorM18
set_option maxRecDepth 20000
set_option maxHeartbeats 4000000
section
namespace Go.Proofs
open Go.Sy
open Tryz
variable {H:Hp} {K:Value→Hp→Prop}
def jF (c:UInt8):Bool:=(decide (97≤(c.toNat:Int))&&decide ((c.toNat:Int)≤122))||(decide (65≤(c.toNat:Int))&&decide ((c.toNat:Int)≤90))||decide ((c.toNat:Int)=95)
def wW (c:UInt8):Bool:=decide (48≤(c.toNat:Int))&&decide ((c.toNat:Int)≤57)
theorem uw {c:UInt8} (hK:K (.bool (jF c)) H):aq prog 136 [.int .u8 c.toNat] H K:=by
 refine ab af aa rfl func136 call136 ntmps136 results136 rfl rfl ?_;refine⟨fun h1=>?_,fun h1=>?_⟩
 ·refine⟨fun h2=>?_,fun h2=>?_⟩
  ·refine⟨fun h3=>?_,fun h3=>?_⟩
   ·refine⟨fun h4=>?_,fun h4=>?_⟩
    ·exact aA hK (by simp [jF,h1,h2,h3,h4])
    ·exact aA hK (by simp [jF,h1,h2,h3,h4])
   ·exact aA hK (by simp [jF,h1,h2,h3])
  ·exact aA hK (by simp [jF,h1,h2])
 ·refine⟨fun h3=>?_,fun h3=>?_⟩
  ·refine⟨fun h4=>?_,fun h4=>?_⟩
   ·exact aA hK (by simp [jF,h1,h3,h4])
   ·exact aA hK (by simp [jF,h1,h3,h4])
  ·exact aA hK (by simp [jF,h1,h3])
theorem FQ {c:UInt8} (hK:K (.bool (wW c)) H):aq prog 138 [.int .u8 c.toNat] H K:=by
 refine ab af aa rfl func138 call138 ntmps138 results138 rfl rfl ?_;refine⟨fun h=>?_,fun h=>?_⟩
 ·exact aA hK (by simp only[wW,h,Bool.true_and])
 ·exact aA hK (by rw[wW,h];rfl)
theorem oM {c:UInt8} (hK:K (.bool (jF c)) H):aq prog 53 [.int .u8 c.toNat] H K:=by
 refine ab af aa rfl func53 call53 ntmps53 results53 rfl rfl ?_;refine⟨fun h1=>?_,fun h1=>?_⟩
 ·refine⟨fun h2=>?_,fun h2=>?_⟩
  ·refine⟨fun h3=>?_,fun h3=>?_⟩
   ·refine⟨fun h4=>?_,fun h4=>?_⟩
    ·exact aA hK (by simp [jF,h1,h2,h3,h4])
    ·exact aA hK (by simp [jF,h1,h2,h3,h4])
   ·exact aA hK (by simp [jF,h1,h2,h3])
  ·exact aA hK (by simp [jF,h1,h2])
 ·refine⟨fun h3=>?_,fun h3=>?_⟩
  ·refine⟨fun h4=>?_,fun h4=>?_⟩
   ·exact aA hK (by simp [jF,h1,h3,h4])
   ·exact aA hK (by simp [jF,h1,h3,h4])
  ·exact aA hK (by simp [jF,h1,h3])
theorem yx {c:UInt8} (hK:K (.bool (wW c)) H):aq prog 55 [.int .u8 c.toNat] H K:=by
 refine ab af aa rfl func55 call55 ntmps55 results55 rfl rfl ?_;refine⟨fun h=>?_,fun h=>?_⟩
 ·exact aA hK (by simp only[wW,h,Bool.true_and])
 ·exact aA hK (by rw[wW,h];rfl)
theorem jw (s:List UInt8) (f:UInt8→Bool) {i:Nat} {c:UInt8} (h:s[i]?=some c):(s.take (i+1)).all f=((s.take i).all f&&f c):=by
 rw[List.take_add_one,h,Option.toList_some,List.all_append];simp
theorem all_false (s:List UInt8) (f:UInt8→Bool) {i:Nat} {c:UInt8} (h:s[i]?=some c) (hf:f c=false):s.all f=false:=by
 rw[List.all_eq_false];exact⟨c,dY h,by simp [hf]⟩
end Go.Proofs
end
section
namespace Go.Proofs
open Go.Sy
open Tryz
def words:List (List UInt8):=[[98,108,111,99,107],[103,111,116,111],[105,102],[116,104,101,110],[101,108,115,101],[114,101,116],[105,110],[111,117,116],[99,111,110,106]]
def C9 (s:List UInt8):Bool:=words.any fun w=>decide (s=w)
theorem Da {β:Type} (f:List UInt8→β) {k:Nat} (h:k<9):(words.map f)[k]?=some (f (words.getD k [])):=by
 have:k<words.length:=h
 rw[List.getElem?_map,List.getD_eq_getElem?_getD,aL this];rfl
theorem zn (s:List UInt8) {k:Nat} (h:k<9):((words.take (k+1)).any fun w=>decide (s=w))=(((words.take k).any fun w=>decide (s=w))||decide (s=words.getD k [])):=by
 have hl:k<words.length:=h;rw[List.take_add_one,aL hl,List.getD_eq_getElem?_getD,aL hl,Option.toList_some,List.any_append];simp
theorem zo (s:List UInt8) {k:Nat} (h:k<9) (he:s=words.getD k []):C9 s=true:=by
 have hl:k<words.length:=h;unfold C9;rw[List.any_eq_true];refine⟨words.getD k [],?_,by simpa using he⟩;rw[List.getD_eq_getElem?_getD,aL hl];exact List.getElem_mem hl
theorem Js {s:List UInt8} {H:Hp} {K:Value→Hp→Prop} (hK:K (.bool (C9 s)) H):aq prog 137 [.string (bs s)] H K:=by
 refine ab af aa rfl func137 call137 ntmps137 results137 rfl rfl ?_;refine⟨Nat,fun k=>⟨[(0,.v (.string (bs s))),(5,.agg (words.map fun w=>.v (.string (bs w)))),(6,.v (.int .i64 k))],[],0⟩,fun k H'=>H'=H∧k≤9∧((words.take k).any fun w=>decide (s=w))=false,fun k=>9 - k,⟨0,[],?_,rfl,by omega,rfl⟩,?_⟩
 ·exact⟨⟨rfl,⟨rfl,rfl⟩,rfl,trivial⟩,trivial⟩
 rintro k H1 _ ⟨rfl,hk,Mn⟩;refine⟨fun h=>?_,fun h=>?_⟩
 ·have aj:k<9:=by have:=dt h;omega
  refine⟨_,⟨by omega,by omega,Da _ aj⟩,?_⟩;refine⟨fun h=>?_,fun h=>?_⟩
  ·exact aA hK (zo s aj (of_decide_eq_true h))
  ·refine⟨⟨by omega,by omega⟩,k+1,[],?_,⟨rfl,by omega,by rw[zn s aj,Mn,Bool.false_or];exact h⟩,by dsimp only;omega⟩;exact⟨⟨rfl,⟨rfl,rfl⟩,rfl,trivial⟩,trivial⟩
 ·have A3:k=9:=by have:=df h;omega
  subst A3;exact aA hK Mn
end Go.Proofs
end
section
namespace Go.Proofs
open Go.Sy
open Tryz
variable {H:Hp} {K:Value→Hp→Prop}
theorem A4 {s:List UInt8} (hK:K (.bool (C9 s)) H):aq prog 54 [.string (bs s)] H K:=by
 refine ab af aa rfl func54 call54 ntmps54 results54 rfl rfl ?_;refine⟨Nat,fun k=>⟨[(0,.v (.string (bs s))),(5,.own 0),(6,.v (.int .i64 9)),(7,.v (.int .i64 k))],[(0,.row 9 1 (words.map fun w=>[.string (bs w)]))],1⟩,fun k H'=>H'=H∧k≤9∧((words.take k).any fun w=>decide (s=w))=false,fun k=>9 - k,⟨0,[(0,0)],?_,rfl,by omega,rfl⟩,?_⟩
 ·exact⟨⟨rfl,rfl,rfl,rfl,trivial⟩,⟨rfl,trivial⟩⟩
 rintro k H1 _ ⟨rfl,hk,Mn⟩;refine⟨fun h=>?_,fun h=>?_⟩
 ·have aj:k<9:=by have:=dt h;omega
  have hl:(words.map fun w=>[Value.string (bs w)]).length=9:=rfl;refine⟨⟨by omega,by omega⟩,?_⟩;refine⟨_,Da _ aj,?_⟩;refine⟨fun h=>?_,fun h=>?_⟩
  ·exact aA hK (zo s aj (of_decide_eq_true h))
  ·refine⟨⟨by omega,by omega⟩,k+1,[(0,0)],?_,⟨rfl,by omega,by rw[zn s aj,Mn,Bool.false_or];exact h⟩,by dsimp only;omega⟩;exact⟨⟨rfl,rfl,rfl,rfl,trivial⟩,⟨rfl,trivial⟩⟩
 ·have A3:k=9:=by have:=df h;omega
  subst A3;exact aA hK Mn
def Db (c:UInt8):Bool:=jF c||wW c
def oA (s:List UInt8):Bool:=decide (1≤s.length)&&decide (s.length≤12)&&jF (s.headD 0)&&!C9 s&&s.all Db
theorem vJ {s:List UInt8} {c:UInt8} (h:s[0]?=some c):s.headD 0=c:=by
 cases s with
 | nil=>cases h
 | cons x r=>simpa using h
theorem gT {s:List UInt8} (hK:K (.bool (oA s)) H) (hs:s.length≤9223372036854775807):aq prog 87 [.string (bs s)] H K:=by
 have j1:(sl (bs s)).length=s.length:=rfl;refine ab af aa rfl func87 call87 ntmps87 results87 rfl rfl ?_;refine⟨fun h1=>?_,fun h1=>?_⟩
 ·have CL:¬((s.length:Int)<1):=of_decide_eq_false h1;refine⟨fun h2=>?_,fun h2=>?_⟩
  ·have NZ:¬(12<(s.length:Int)):=of_decide_eq_false h2
   have h0:0<s.length:=by omega
   have zd:=aL h0;refine⟨_,⟨by omega,zd⟩,?_⟩;refine uw ?_;refine⟨fun h3=>?_,fun h3=>?_⟩
   ·have Rz:jF s[0]=true:=by simpa using h3
    refine Js ?_;refine⟨fun h4=>?_,fun h4=>?_⟩
    ·exact aA hK (by simp [oA,h4])
    ·have oL:oA s=s.all Db:=by
      unfold oA;rw[vJ zd,Rz,h4,decide_eq_true (show 1≤s.length by omega),decide_eq_true (show s.length≤12 by omega)]
      rfl
     refine⟨Nat,fun i=>⟨[(0,.v (.string (bs s))),(23,.v (.int .i64 s.length)),(24,.v (.int .i64 i))],[],0⟩,fun i H'=>H'=H∧i≤s.length∧(s.take i).all Db=true,fun i=>s.length - i,⟨0,[],?_,rfl,by omega,rfl⟩,?_⟩
     ·exact⟨⟨rfl,rfl,rfl,trivial⟩,trivial⟩
     rintro i H1 _ ⟨rfl,hi,dm⟩;refine⟨fun h=>?_,fun h=>?_⟩
     ·have aj:i<s.length:=by have:=dt h;omega
      have hx:=aL aj;refine⟨_,⟨by omega,hx⟩,?_⟩;refine uw ?_;refine⟨fun h5=>?_,fun h5=>?_⟩
      ·have OX:jF s[i]=false:=by simpa using h5
       refine⟨_,⟨by omega,hx⟩,?_⟩;refine FQ ?_;refine⟨fun h6=>?_,fun h6=>?_⟩
       ·have Ov:wW s[i]=false:=by simpa using h6
        exact aA hK (by rw[oL,all_false s Db hx (by rw[Db,OX,Ov];rfl)])
       ·have Ov:wW s[i]=true:=by simpa using h6
        refine⟨⟨by omega,by omega⟩,i+1,[],?_,⟨rfl,by omega,by rw[jw s Db hx,dm,Db,OX,Ov];rfl⟩,by dsimp only;omega⟩;exact⟨⟨rfl,rfl,rfl,trivial⟩,trivial⟩
      ·have OX:jF s[i]=true:=by simpa using h5
       refine⟨⟨by omega,by omega⟩,i+1,[],?_,⟨rfl,by omega,by rw[jw s Db hx,dm,Db,OX];rfl⟩,by dsimp only;omega⟩;exact⟨⟨rfl,rfl,rfl,trivial⟩,trivial⟩
     ·have aX:i=s.length:=by have:=df h;omega
      rw[aX,List.take_length]at dm;exact aA hK (by rw[oL,dm])
   ·have Rz:jF s[0]=false:=by simpa using h3
    exact aA hK (by simp only[oA,vJ zd,Rz,Bool.and_false,Bool.false_and])
  ·have NZ:12<(s.length:Int):=of_decide_eq_true h2;exact aA hK (by simp only[oA,decide_eq_false (show ¬s.length≤12 by omega),Bool.and_false,Bool.false_and])
 ·have CL:(s.length:Int)<1:=of_decide_eq_true h1;exact aA hK (by simp only[oA,decide_eq_false (show ¬1≤s.length by omega),Bool.false_and])
theorem dZ {s:List UInt8} (hK:K (.bool (oA s)) H) (hs:s.length≤9223372036854775807):aq prog 25 [.string (bs s)] H K:=by
 have j1:(sl (bs s)).length=s.length:=rfl;refine ab af aa rfl func25 call25 ntmps25 results25 rfl rfl ?_;refine⟨fun h1=>?_,fun h1=>?_⟩
 ·have CL:¬((s.length:Int)=0):=of_decide_eq_false h1;refine⟨fun h2=>?_,fun h2=>?_⟩
  ·have NZ:¬(12<(s.length:Int)):=of_decide_eq_false h2
   have h0:0<s.length:=by omega
   have zd:=aL h0;refine⟨_,⟨by omega,zd⟩,?_⟩;refine oM ?_;refine⟨fun h3=>?_,fun h3=>?_⟩
   ·have Rz:jF s[0]=true:=by simpa using h3
    refine A4 ?_;refine⟨fun h4=>?_,fun h4=>?_⟩
    ·exact aA hK (by simp [oA,h4])
    ·have oL:oA s=s.all Db:=by
      unfold oA;rw[vJ zd,Rz,h4,decide_eq_true (show 1≤s.length by omega),decide_eq_true (show s.length≤12 by omega)]
      rfl
     refine⟨Nat,fun i=>⟨[(0,.v (.string (bs s))),(3,.v (.int .i64 i))],[],0⟩,fun i H'=>H'=H∧i≤s.length∧(s.take i).all Db=true,fun i=>s.length - i,⟨0,[],?_,rfl,by omega,rfl⟩,?_⟩
     ·exact⟨⟨rfl,rfl,trivial⟩,trivial⟩
     rintro i H1 _ ⟨rfl,hi,dm⟩;refine⟨fun h=>?_,fun h=>?_⟩
     ·have aj:i<s.length:=by have:=dt h;omega
      have hx:=aL aj;refine⟨_,⟨by omega,hx⟩,?_⟩;refine oM ?_;refine⟨fun h5=>?_,fun h5=>?_⟩
      ·have OX:jF s[i]=false:=by simpa using h5
       refine⟨_,⟨by omega,hx⟩,?_⟩;refine yx ?_;refine⟨fun h6=>?_,fun h6=>?_⟩
       ·have Ov:wW s[i]=false:=by simpa using h6
        exact aA hK (by rw[oL,all_false s Db hx (by rw[Db,OX,Ov];rfl)])
       ·have Ov:wW s[i]=true:=by simpa using h6
        refine⟨⟨by omega,by omega⟩,i+1,[],?_,⟨rfl,by omega,by rw[jw s Db hx,dm,Db,OX,Ov];rfl⟩,by dsimp only;omega⟩;exact⟨⟨rfl,rfl,trivial⟩,trivial⟩
      ·have OX:jF s[i]=true:=by simpa using h5
       refine⟨⟨by omega,by omega⟩,i+1,[],?_,⟨rfl,by omega,by rw[jw s Db hx,dm,Db,OX];rfl⟩,by dsimp only;omega⟩;exact⟨⟨rfl,rfl,trivial⟩,trivial⟩
     ·have aX:i=s.length:=by have:=df h;omega
      rw[aX,List.take_length]at dm;exact aA hK (by rw[oL,dm])
   ·have Rz:jF s[0]=false:=by simpa using h3
    exact aA hK (by simp only[oA,vJ zd,Rz,Bool.and_false,Bool.false_and])
  ·have NZ:12<(s.length:Int):=of_decide_eq_true h2;exact aA hK (by simp only[oA,decide_eq_false (show ¬s.length≤12 by omega),Bool.and_false,Bool.false_and])
 ·have CL:(s.length:Int)=0:=of_decide_eq_true h1;exact aA hK (by simp only[oA,decide_eq_false (show ¬1≤s.length by omega),Bool.false_and])
end Go.Proofs
end
section
namespace Go.Proofs
open Go.Sy
open Tryz
variable {H:Hp} {K:Value→Hp→Prop}
def fu (n:Int):Int:=(n+32768) % 65536 - 32768
def mu (a:Nm):Nm:=(fu a.1,fu a.2)
def qk (op:Int) (a b:Nm):Nm:=if op=0 then mu a else if op=1 then mu ((mu a).1+(mu b).1,(mu a).2+(mu b).2) else if op=2 then mu ((mu a).1 - (mu b).1,(mu a).2 - (mu b).2)
 else if op=3 then mu ((mu a).1*(mu b).1 - (mu a).2*(mu b).2,(mu a).1*(mu b).2+(mu a).2*(mu b).1) else if op=4 then mu ((mu a).1,0 - (mu a).2) else (0,0)
def iB (op:Int):Bool:=decide (0≤op∧op≤4)
theorem bK (n:Int) : -32768≤fu n∧fu n≤32767:=by unfold fu;omega
theorem RA {n:Int} (h : -32768≤n∧n≤32767):fu n=n:=by unfold fu;omega
theorem vK (n:Int):fu (fu n)=fu n:=RA (bK n)
abbrev kK (a:Nm):Value:=.agg #[.int .i64 a.1,.int .i64 a.2]
theorem ny {n:Int} (hK:K (.int .i64 (fu n)) H):aq prog 227 [.int .i64 n] H K:=by
 refine ab af aa rfl func227 call227 ntmps227 results227 rfl rfl ?_;refine⟨by decide,?_⟩
 have e:fu n=if 32767<n.tmod 65536 then n.tmod 65536 - 65536 else if n.tmod 65536 < -32768 then n.tmod 65536+65536 else n.tmod 65536:=by
  unfold fu;have:=Int.tmod_add_mul_tdiv n 65536
  rcases Int.le_total 0 n with h | h
  ·have:=Int.tmod_nonneg 65536 h;have:=Int.tmod_lt_of_pos n (show (0:Int)<65536 by omega);split
   ·omega
   ·split<;>omega
  ·have:=Int.lt_tmod_of_pos n (show (0:Int)<65536 by omega)
   have:n.tmod 65536≤0:=by
    have:=Int.tmod_nonneg (a:=-n) 65536 (by omega);rw[Int.neg_tmod]at this;omega
   split
   ·omega
   ·split<;>omega
 refine⟨fun h=>?_,fun h=>?_⟩
 ·have h:=dt h;rw[if_pos h]at e;rw[e]at hK;have:=Int.tmod_lt_of_pos n (show (0:Int)<65536 by omega);exact⟨⟨by omega,by omega⟩,hK⟩
 ·have h:=df h;rw[if_neg h]at e;have:=Int.lt_tmod_of_pos n (show (0:Int)<65536 by omega);refine⟨fun h=>?_,fun h=>?_⟩
  ·have h:=dt h;rw[if_pos h]at e;rw[e]at hK;exact⟨⟨by omega,by omega⟩,hK⟩
  ·have h:=df h;rw[if_neg h]at e;rw[e]at hK;exact hK
theorem wX {n:Int} (hK:K (.int .i64 (fu n)) H):aq prog 146 [.int .i64 n] H K:=by
 refine ab af aa rfl func146 call146 ntmps146 results146 rfl rfl ?_;have h1:=Int.lt_tmod_of_pos n (show (0:Int)<65536 by omega);have h2:=Int.tmod_lt_of_pos n (show (0:Int)<65536 by omega);have h3:=Int.tmod_add_mul_tdiv n 65536
 have e:(n.tmod 65536+98304).tmod 65536 - 32768=fu n:=by
  rw[Int.tmod_eq_emod_of_nonneg (by omega)];unfold fu;omega
 rw[←e]at hK;have h4:=Int.lt_tmod_of_pos (n.tmod 65536+98304) (show (0:Int)<65536 by omega);have h5:=Int.tmod_lt_of_pos (n.tmod 65536+98304) (show (0:Int)<65536 by omega);exact⟨by decide,⟨by omega,by omega⟩,by decide,⟨by omega,by omega⟩,hK⟩
theorem mv {a b:Int} (hK:K (kK (fu a,fu b)) H):aq prog 167 [.int .i64 a,.int .i64 b] H K:=by
 refine ab af aa rfl func167 call167 ntmps167 results167 rfl rfl ?_;refine ny ?_;refine ny ?_;exact hK
theorem gJ {a b:Int} (hK:K (kK (fu a,fu b)) H):aq prog 95 [.int .i64 a,.int .i64 b] H K:=by
 refine ab af aa rfl func95 call95 ntmps95 results95 rfl rfl ?_;refine wX ?_;refine wX ?_;exact hK
theorem gS {n:Int} (h : -9007199254740991≤n∧n≤9007199254740991):n.natAbs<9007199254740992:=by omega
theorem eO {a:Nm} (hK:∀x y,FV x (fu a.1)→FV y (fu a.2)→y<18446744073709551616→K (.complex .f64 x y) H):aq prog 321 [kK a] H K:=by
 refine ab af aa rfl func321 call321 ntmps321 results321 rfl rfl ?_;refine mv ?_;have h1:=bK a.1;have h2:=bK a.2;refine⟨rfl,?_⟩;exact hK _ _ (yL (gS (by omega))) (yL (gS (by omega))) (K1 _)
theorem nz {x y:Nat} {p q:Int} (hx:FV x p) (hy:FV y q) (hp : -9007199254740991≤p∧p≤9007199254740991) (hq : -9007199254740991≤q∧q≤9007199254740991) (hK:K (kK (fu p,fu q)) H):aq prog 320 [.complex .f64 x y] H K:=by
 refine ab af aa rfl func320 call320 ntmps320 results320 rfl rfl ?_;refine⟨p,Cc hx ⟨by omega,by omega⟩,?_⟩;refine⟨q,Cc hy ⟨by omega,by omega⟩,?_⟩;refine mv ?_;exact hK
theorem Jt {a b:Nm} (hK:K (kK (qk 1 a b)) H):aq prog 278 [kK a,kK b] H K:=by
 refine ab af aa rfl func278 call278 ntmps278 results278 rfl rfl ?_;refine⟨some ([2],[0,2,1,3,4,5,6]),by kernel_rfl,?_⟩
 refine eO fun x y hx hy _=>?_
 refine eO fun x' y' mj E4 _=>?_
 have h1:=bK a.1;have h2:=bK a.2;have h3:=bK b.1;have h4:=bK b.2;obtain⟨r,e1,hr⟩:=Fb hx mj (gS (by omega));obtain⟨r',e2,iX⟩:=Fb hy E4 (gS (by omega));refine⟨rfl,r,r',by rw[cSumBits,e1,e2];rfl,?_⟩;refine nz hr iX (by omega) (by omega) ?_;exact hK
theorem Ju {a b:Nm} (hK:K (kK (qk 2 a b)) H):aq prog 279 [kK a,kK b] H K:=by
 refine ab af aa rfl func279 call279 ntmps279 results279 rfl rfl ?_;refine⟨some ([2],[0,2,1,3,4,5,6]),by kernel_rfl,?_⟩
 refine eO fun x y hx hy _=>?_
 refine eO fun x' y' mj E4 _=>?_
 have h1:=bK a.1;have h2:=bK a.2;have h3:=bK b.1;have h4:=bK b.2;obtain⟨r,e1,hr⟩:=Fc hx mj (gS (by omega));obtain⟨r',e2,iX⟩:=Fc hy E4 (gS (by omega));refine⟨rfl,r,r',by rw[cSumBits,e1,e2];rfl,?_⟩;refine nz hr iX (by omega) (by omega) ?_;exact hK
theorem hU {a b:Int} (h1 : -32768≤a∧a≤32767) (h2 : -32768≤b∧b≤32767) : -1073741824≤a*b∧a*b≤1073741824:=by
 have h:(a*b).natAbs≤32768*32768:=by
  rw[Int.natAbs_mul];exact Nat.mul_le_mul (by omega) (by omega)
 omega
theorem Jv {a b:Nm} (hK:K (kK (qk 3 a b)) H):aq prog 280 [kK a,kK b] H K:=by
 refine ab af aa rfl func280 call280 ntmps280 results280 rfl rfl ?_;refine⟨some ([2],[0,2,1,3,4,5,6]),by kernel_rfl,?_⟩
 refine eO fun x y hx hy _=>?_
 refine eO fun x' y' mj E4 _=>?_
 have h1:=hU (bK a.1) (bK b.1);have h2:=hU (bK a.2) (bK b.2);have h3:=hU (bK a.1) (bK b.2);have h4:=hU (bK a.2) (bK b.1);obtain⟨r1,e1,bh⟩:=An hx mj (gS (by omega));obtain⟨r2,e2,bj⟩:=An hy E4 (gS (by omega));obtain⟨r3,e3,db⟩:=An hx E4 (gS (by omega));obtain⟨r4,e4,fm⟩:=An hy mj (gS (by omega));obtain⟨r5,e5,ct⟩:=Fc bh bj (gS (by omega));obtain⟨r6,e6,ji⟩:=Fb db fm (gS (by omega))
 have e:cMulBits x y x' y'=some (r5,r6):=by
  unfold cMulBits;rw[e1,Option.bind_some,e2,Option.bind_some,e5,Option.bind_some,e3,Option.bind_some,e4,Option.bind_some,e6]
  rfl
 refine⟨rfl,rfl,r5,r6,e,?_⟩;refine nz ct ji (by omega) (by omega) ?_;exact hK
theorem FR {a b:Nm} (hK:K (kK (qk 4 a b)) H):aq prog 281 [kK a] H K:=by
 refine ab af aa rfl func281 call281 ntmps281 results281 rfl rfl ?_
 refine eO fun x y hx hy S8=>?_
 have h1:=bK a.1;have h2:=bK a.2;refine⟨rfl,?_⟩;have hz:=QO hy S8;rw[←Int.zero_sub]at hz;refine nz hx hz (by omega) (by omega) ?_;exact hK
theorem mw {op:Int} {a b:Nm} (hK:K (.tuple #[kK (qk op a b),.int .i64 (if iB op then 0 else 10)]) H):aq prog 228 [.int .i64 op,kK a,kK b] H K:=by
 refine ab af aa rfl func228 call228 ntmps228 results228 rfl rfl ?_;refine .inl ⟨1,?_⟩;refine⟨fun h=>?_,fun h=>?_⟩
 ·have h:=dt h;subst h;refine mv ?_;exact hK
 have h0:=df h;refine⟨fun h=>?_,fun h=>?_⟩
 ·have h:=dt h;subst h;refine Jt ?_;exact hK
 have h1:=df h;refine⟨fun h=>?_,fun h=>?_⟩
 ·have h:=dt h;subst h;refine Ju ?_;exact hK
 have h2:=df h;refine⟨fun h=>?_,fun h=>?_⟩
 ·have h:=dt h;subst h;refine Jv ?_;exact hK
 have h3:=df h;refine⟨fun h=>?_,fun h=>?_⟩
 ·have h:=dt h;subst h;refine FR (b:=b) ?_;exact hK
 have h4:=df h;have e1:iB op=false:=decide_eq_false (by omega)
 have e2:qk op a b=(0,0):=by rw[qk,if_neg h0,if_neg h1,if_neg h2,if_neg h3,if_neg h4]
 rw[e1,e2]at hK;exact hK
theorem oN {op:Int} {a b:Nm} (hK:K (.tuple #[kK (qk op a b),.bool (iB op)]) H):aq prog 132 [.int .i64 op,kK a,kK b] H K:=by
 refine ab af aa rfl func132 call132 ntmps132 results132 rfl rfl ?_;refine gJ ?_;refine gJ ?_;have l1:=bK a.1;have l2:=bK a.2;have l3:=bK b.1;have l4:=bK b.2;refine⟨fun h=>?_,fun h=>?_⟩
 ·have h:=dt h;subst h;exact hK
 have h0:=df h;refine⟨fun h=>?_,fun h=>?_⟩
 ·have h:=dt h;subst h;refine⟨⟨by omega,by omega⟩,⟨by omega,by omega⟩,?_⟩;refine gJ ?_;exact hK
 have h1:=df h;refine⟨fun h=>?_,fun h=>?_⟩
 ·have h:=dt h;subst h;refine⟨⟨by omega,by omega⟩,⟨by omega,by omega⟩,?_⟩;refine gJ ?_;exact hK
 have h2:=df h;refine⟨fun h=>?_,fun h=>?_⟩
 ·have h:=dt h;subst h;have k1:=hU l1 l3;have k2:=hU l2 l4;have k3:=hU l1 l4;have k4:=hU l2 l3;refine⟨⟨Int.le_trans (by decide) k1.1,Int.le_trans k1.2 (by decide)⟩,⟨Int.le_trans (by decide) k2.1,Int.le_trans k2.2 (by decide)⟩,⟨by dsimp only;omega,by dsimp only;omega⟩,⟨Int.le_trans (by decide) k3.1,Int.le_trans k3.2 (by decide)⟩,⟨Int.le_trans (by decide) k4.1,Int.le_trans k4.2 (by decide)⟩,⟨by dsimp only;omega,by dsimp only;omega⟩,?_⟩;refine gJ ?_;exact hK
 have h3:=df h;refine⟨fun h=>?_,fun h=>?_⟩
 ·have h:=dt h;subst h;refine⟨⟨by omega,by omega⟩,?_⟩;refine gJ ?_;exact hK
 have h4:=df h;have e1:iB op=false:=decide_eq_false (by omega)
 have e2:qk op a b=(0,0):=by rw[qk,if_neg h0,if_neg h1,if_neg h2,if_neg h3,if_neg h4]
 rw[e1,e2]at hK;exact hK
end Go.Proofs
end
section
namespace Go.Proofs
open Go.Sy
open Tryz
variable {H:Hp} {K:Value→Hp→Prop}
theorem qP {l:List aQ} {t:aQ} {a:Option Addr} {n c:Nat} (ha:RL H a n c (iA l)) (hK:K (.int .i64 (bw t l 0)) H):aq prog 69 [.slice a n c,.string (bs t)] H K:=by
 have dd:=ha.aB;rw[List.length_map]at dd;have eI:=ha.le;refine ab af aa rfl func69 call69 ntmps69 results69 rfl rfl ?_;refine⟨Nat,fun i=>⟨[(0,.v (.slice a n c)),(1,.v (.string (bs t))),(7,.v (.int .i64 n)),(8,.v (.int .i64 i))],[],0⟩,fun i H'=>H'=H∧i≤l.length∧bw t l 0=bw t (l.drop i) i,fun i=>l.length - i,⟨0,[],?_,rfl,by omega,rfl⟩,?_⟩
 ·exact⟨⟨rfl,rfl,rfl,rfl,trivial⟩,trivial⟩
 rintro i H1 _ ⟨rfl,hi,hx⟩;refine⟨fun h=>?_,fun h=>?_⟩
 ·have aj:i<l.length:=by have:=dt h;omega
  obtain⟨ad,cs,e1,hh,rfl,vi⟩:=ha.elem (A1 aj);rw[tu aj]at hx;refine⟨ad,⟨by omega,by omega,e1⟩,?_⟩;refine⟨_,hh,?_⟩;refine⟨fun h=>?_,fun h=>?_⟩
  ·have he:t=l[i]:=dt h;rw[if_pos he.symm]at hx;rw[hx]at hK;exact hK
  ·have he:¬t=l[i]:=df h;rw[if_neg (fun h=>he h.symm)]at hx;refine⟨⟨by omega,by omega⟩,i+1,[],?_,⟨rfl,by omega,hx⟩,by dsimp only;omega⟩;exact⟨⟨rfl,rfl,rfl,rfl,trivial⟩,trivial⟩
 ·have aX:i=l.length:=by have:=df h;omega
  rw[aX,List.drop_length,bw]at hx;rw[hx]at hK;exact hK
theorem wY {l:List aQ} {t:aQ} {a:Option Addr} {n c:Nat} (ha:RL H a n c (iA l)) (hK:K (.tuple #[.int .i64 (max (bw t l 0) 0),.bool (decide (0≤bw t l 0))]) H):aq prog 170 [.slice a n c,.string (bs t)] H K:=by
 refine ab af aa rfl func170 call170 ntmps170 results170 rfl rfl ?_;refine qP ha ?_;exact hK
theorem Dc {p:Prog} {a:Option Addr} {n c:Nat} (ha:RL H a n c p) (hK:∀b,(b=true→FO p)→K (.bool b) H):aq prog 8 [.agg #[.slice a n c]] H K:=by
 have dd:=ha.aB;have eI:=ha.le;have hF:=hK false (fun h=>by cases h);refine ab af aa rfl func8 call8 ntmps8 results8 rfl rfl ?_;refine⟨fun h=>?_,fun h=>?_⟩
 ·exact hF
 have YL:p.length≤12:=by have:=df h;omega
 refine⟨Nat,fun i=>⟨[(12,.v (.slice a n c)),(13,.v (.int .i64 n)),(14,.v (.int .i64 i))],[],0⟩,
  fun i H'=>H'=H∧i≤p.length∧∀b∈p.take i,vI b,fun i=>p.length - i,⟨0,[],?_,rfl,by omega,by simp⟩,?_⟩
 ·exact⟨⟨rfl,rfl,rfl,trivial⟩,trivial⟩
 rintro i H1 _ ⟨rfl,hi,dm⟩;refine⟨fun h=>?_,fun h=>?_⟩
 ·have aj:i<p.length:=by have:=dt h;omega
  have hx:=aL aj
  obtain⟨b,hb⟩:∃b,b=p[i]:=⟨_,rfl⟩
  rw[←hb]at hx;obtain⟨ad,cs,e1,hh,r1⟩:=ha.elem hx;obtain⟨a2,n2,c2,rfl,bj,Ii,wM⟩:=cX r1;have lv:=bj.aB;have TV:=bj.le;refine⟨ad,⟨by omega,by omega,e1⟩,?_⟩;refine⟨_,hh,?_⟩;refine⟨fun h=>?_,fun h=>hF⟩
  have g1:b.2.1.length≤12:=by have:=df h;omega
  refine⟨fun h=>?_,fun h=>hF⟩
  have g2:b.1.l.length≤40:=by have:=df h;simp only[dM]at this;omega
  refine⟨fun h=>?_,fun h=>hF⟩
  have g3:b.2.2.2.2.1.l.length≤40:=by have:=df h;simp only[dM]at this;omega
  refine⟨fun h=>?_,fun h=>hF⟩
  have g4:b.2.2.2.2.2.l.length≤40:=by have:=df h;simp only[dM]at this;omega
  refine⟨fun h=>hF,fun h=>?_⟩
  have g5:b.2.2.2.1.1.l.length≤40:=by have:=df h;simp only[dM]at this;omega
  refine⟨Nat,fun j=>⟨[(12,.v (.slice a n c)),(13,.v (.int .i64 n)),(14,.v (.int .i64 i)),(51,.v (.slice a2 n2 c2)),(52,.v (.int .i64 n2)),(53,.v (.int .i64 j))],[],0⟩,
   fun j H'=>H'=H1∧j≤b.2.1.length∧∀s∈b.2.1.take j,Mm s,fun j=>b.2.1.length - j,⟨0,[],?_,rfl,by omega,by simp⟩,?_⟩
  ·exact⟨⟨rfl,rfl,rfl,rfl,rfl,rfl,trivial⟩,trivial⟩
  rintro j H2 _ ⟨rfl,hj,Ia⟩;refine⟨fun h=>?_,fun h=>?_⟩
  ·have Dd:j<b.2.1.length:=by have:=dt h;omega
   have Qr:=aL Dd;have gq:=bj.elem Qr;obtain⟨iy,N4,e2,gj,r2⟩:=gq;have bc:=hC r2;obtain⟨TW,vM⟩:=bc;rw[TW]at gj;refine⟨iy,⟨by omega,by omega,e2⟩,?_⟩;refine⟨_,gj,?_⟩;refine⟨fun h=>?_,fun h=>hF⟩
   have k1:b.2.1[j].2.1.l.length≤40:=by have:=df h;simp only[dM]at this;omega
   refine⟨fun h=>?_,fun h=>hF⟩
   have k2:b.2.1[j].2.2.2.1.1.l.length≤40:=by have:=df h;simp only[dM]at this;omega
   refine⟨fun h=>hF,fun h=>?_⟩
   have k3:b.2.1[j].2.2.2.2.1.l.length≤40:=by have:=df h;simp only[dM]at this;omega
   refine⟨⟨by omega,by omega⟩,j+1,[],?_,⟨rfl,by omega,lX Qr Ia ⟨k1,k2,k3⟩⟩,by dsimp only;omega⟩;exact⟨⟨rfl,rfl,rfl,rfl,rfl,rfl,trivial⟩,trivial⟩
  ·have eD:j=b.2.1.length:=by have:=df h;omega
   rw[eD,List.take_length]at Ia;refine⟨⟨by omega,by omega⟩,i+1,[],?_,⟨rfl,by omega,lX hx dm ⟨⟨g1,g2,g3,g4,g5⟩,Ia⟩⟩,by dsimp only;omega⟩;exact⟨⟨rfl,rfl,rfl,trivial⟩,trivial⟩
 ·have aX:i=p.length:=by have:=df h;omega
  rw[aX,List.take_length]at dm
  exact hK true fun _=>⟨YL,dm⟩
end Go.Proofs
end
section
namespace Go.Proofs
open Go.Sy
open Tryz
variable {H:Hp} {K:Value→Hp→Prop}
def tv (x y:Int):Int:=if x<y then -1 else if y<x then 1 else 0
theorem zp {x:Int} (hK:K (.bool false) H):aq prog 249 [.int .i64 x] H K:=by
 refine ab af aa rfl func249 call249 ntmps249 results249 rfl rfl ?_;exact aA hK (by simp)
theorem De {x y:Int} (hK:K (.int .i64 (tv x y)) H):aq prog 204 [.int .i64 x,.int .i64 y] H K:=by
 refine ab af aa rfl func204 call204 ntmps204 results204 rfl rfl ?_;refine zp ?_;refine zp ?_;refine⟨(fun h=>by cases h),fun _=>?_⟩;refine⟨(fun h=>by cases h),fun _=>?_⟩;refine⟨fun h=>?_,fun h=>?_⟩
 ·rw[tv,if_pos (dt h)]at hK;exact hK
 ·rw[tv,if_neg (df h)]at hK;refine⟨fun h=>?_,fun h=>?_⟩
  ·rw[if_pos (dt h)]at hK;exact hK
  ·rw[if_neg (df h)]at hK;exact hK
def RB (a b:Int):Int:=if a≠0 then a else b
theorem OY {x y:Int} {a:Option Addr} {n c:Nat} (ha:RL H a n c [x,y]) (hK:K (.int .i64 (RB x y)) H):aq prog 203 [.slice a n c] H K:=by
 have dd:n=2:=ha.aB;refine ab af aa rfl func203 call203 ntmps203 results203 rfl rfl ?_;refine⟨Nat,fun i=>⟨[(3,.v (.int .i64 0)),(6,.v (.slice a n c)),(7,.v (.int .i64 n)),(8,.v (.int .i64 i))],[],0⟩,fun i H'=>H'=H∧i≤2∧(0<i→x=0)∧(1<i→y=0),fun i=>2 - i,⟨0,[],?_,rfl,by omega,by omega,by omega⟩,?_⟩
 ·exact⟨⟨rfl,rfl,rfl,rfl,trivial⟩,trivial⟩
 rintro i H1 _ ⟨rfl,hi,h0,h1⟩;refine⟨fun h=>?_,fun h=>?_⟩
 ·have aj:i<2:=by have:=dt h;omega
  have hx:=aL (l:=[x,y]) (i:=i) aj;obtain⟨ad,cs,e1,hh,r1⟩:=ha.elem hx;obtain⟨rfl,-⟩:=r1;refine⟨ad,⟨by omega,by omega,e1⟩,?_⟩;refine⟨_,hh,?_⟩;refine⟨fun h=>?_,fun h=>?_⟩
  ·have cu:[x,y][i]≠0:=nt h
   have e:RB x y=[x,y][i]:=by
    match i,aj with
    | 0,_=>exact if_pos cu
    | 1,_=>exact if_neg (by simpa using h0 (by omega))
   rw[e]at hK;exact hK
  ·have he:[x,y][i]=0:=nf h;refine⟨⟨by omega,by omega⟩,i+1,[],?_,⟨rfl,by omega,fun _=>?_,fun _=>?_⟩,by dsimp only;omega⟩
   ·exact⟨⟨rfl,rfl,rfl,rfl,trivial⟩,trivial⟩
   ·match i,aj with
    | 0,_=>exact he
    | 1,_=>exact h0 (by omega)
   ·match i,aj with
    | 0,_=>omega
    | 1,_=>exact he
 ·have aX:i=2:=by have:=df h;omega
  have e:RB x y=0:=by
   rw[RB,if_neg (by simpa using h0 (by omega))];exact h1 (by omega)
  rw[e]at hK;exact hK
def wZ (a b:cV):Int:=RB (tv a.1 b.1) (tv a.2 b.2)
theorem OZ (x y:Int):oh (tv x y):=by
 unfold tv oh;split
 ·omega
 ·split<;>omega
theorem Jw {a b:cV} (hK:∀H',Le H H'→K (.int .i64 (wZ a b)) H'):aq prog 202 [.agg #[.int .i64 a.1,.int .i64 a.2],.agg #[.int .i64 b.1,.int .i64 b.2]] H K:=by
 refine ab af aa rfl func202 call202 ntmps202 results202 rfl rfl ?_;refine⟨some ([],[0,1,2,3,5,6,7,8,4,9,10,11,12]),by kernel_rfl,?_⟩;refine De ?_;refine De ?_;intro x H1 hle hx;have L4:aW H1 x 1 (au [tv a.1 b.1,tv a.2 b.2]):=hx
 have hr:=RL.aC (α:=Int) L4 (cD (fun n hn=>by
  simp only[List.mem_cons,List.not_mem_nil,or_false]at hn
  rcases hn with rfl | rfl<;>exact OZ _ _))
 obtain⟨a2,n2,c2,e,hr⟩:=hr;rw[e];refine OY hr ?_;exact hK _ (Le.refl H)
theorem Df {a b:cV} (hK:K (.bool (decide (a=b))) H):aq prog 206 [.agg #[.int .i64 a.1,.int .i64 a.2],.agg #[.int .i64 b.1,.int .i64 b.2]] H K:=by
 refine ab af aa rfl func206 call206 ntmps206 results206 rfl rfl ?_;refine aA hK ?_;rw[Bool.eq_iff_iff];simp [Prod.ext_iff]
theorem Dg {l:List cV} {a:Option Addr} {n c:Nat} {H:Hp} {K:SV→St→Hp→Prop} (ha:RL H a n c l) (hn:l.length<8000000000000) (hK:K (.own 0) ⟨[],[(0,.row 172 2 (ao l))],1⟩ H):aY prog 200 [.v (.slice a n c)] [] 0 H K:=by
 refine aJ af aa func200 call200 ntmps200 results200 rfl rfl ?_;refine⟨fun h=>?_,fun h=>?_⟩
 ·have YM:a=none:=by cases a<;>simp_all
  subst YM;have hl:=A2 ha;subst hl;exact⟨.own 0,[(0,.row 172 2 (ao []))],1,[],⟨⟨⟨rfl,rfl,rfl⟩,trivial⟩,⟨rfl,trivial⟩⟩,hK⟩
 ·refine⟨ao l,OW ha,⟨⟨by show (0+(ao l).length)*16≤_;rw[List.length_map];omega,by show 0+(ao l).length≤_;rw[List.length_map];omega⟩,?_⟩⟩;exact⟨.own 0,[(0,.row 172 2 (ao l))],1,[(0,1)],⟨⟨rfl,trivial⟩,⟨rfl,trivial⟩⟩,hK⟩
end Go.Proofs
end
section
namespace Go.Proofs
open Go.Sy
open Tryz
theorem qQ {α:Type} [LO α]:∀(m:List α) (x y:α),bm (m++[x,y])=if x=y then bm (m++[x]) else bm (m++[x])++[y]
 | [],x,y=>by
  simp only[List.nil_append,bm]
  split<;>simp_all
 | [a],x,y=>by
  have ih:=qQ [] x y;simp only[List.nil_append]at ih;simp only[List.cons_append,List.nil_append];rw[bm,ih]
  split<;>rename_i h1<;>split<;>rename_i h2<;>simp [bm,h1]
 | a::b::m,x,y=>by
  have ih:=qQ (b::m) x y;simp only[List.cons_append]at ih ⊢;rw[bm,ih]
  conv=>rhs;rw[bm]
  split<;>rename_i h1<;>split<;>rename_i h2<;>simp
theorem jj {α:Type} [LO α] {l:List α} {j:Nat} (hj:j+1<l.length):bm (l.take (j+2))=if l[j]=l[j+1] then bm (l.take (j+1)) else bm (l.take (j+1))++[l[j+1]]:=by
 have e1:l.take (j+1)=l.take j++[l[j]]:=by rw[List.take_add_one,aL (by omega)];rfl
 have e2:l.take (j+2)=l.take j++[l[j],l[j+1]]:=by
  rw[List.take_add_one,aL hj,e1,Option.toList_some,List.append_assoc];rfl
 rw[e2,e1,qQ]
theorem pV {l:List cV} {i:Nat} (h:i<l.length):(ao l)[i]?=some [.int .i64 l[i].1,.int .i64 l[i].2]:=by rw[List.getElem?_map,aL h];rfl
theorem Jy (l:List cV) (i:Nat) (x:cV):(ao l).set i [.int .i64 x.1,.int .i64 x.2]=ao (l.set i x):=(List.map_set).symm
theorem FT {l:List cV} (hn:l.length<8000000000000) {H:Hp} {K:SV→St→Hp→Prop}
  (hK:K (.own 1) ⟨[],[(0,.dead),(1,.row 172 2 (ao (bm l)))],2⟩ H):aY prog 205 [.own 0,.fn 206 []] [(0,.row 172 2 (ao l))] 1 H K:=by
 refine aJ af aa func205 call205 ntmps205 results205 rfl rfl ?_;have gq:(ao l).length=l.length:=List.length_map _;refine⟨fun h=>?_,fun h=>?_⟩
 ·have h2:l.length<2:=by have:=dt h;rw[gq]at this;omega
  have e:bm l=l:=by
   match l,h2 with
   | [],_=>rfl
   | [_],_=>rfl
  rw[e]at hK;exact⟨.own 1,[(0,.dead),(1,.row 172 2 (ao l))],2,[(1,0)],⟨⟨rfl,trivial⟩,⟨trivial,rfl,trivial⟩⟩,hK⟩
 ·have h2:2≤l.length:=by have:=df h;rw[gq]at this;omega
  refine⟨Nat,fun k=>⟨[(0,.own 0),(1,.fn 206 []),(5,.v (.int .i64 k))],[(0,.row 172 2 (ao l))],1⟩,fun k H'=>H'=H∧1≤k∧k≤l.length∧bm (l.take k)=l.take k,fun k=>l.length - k,⟨1,[(0,0)],?_,rfl,by omega,by omega,?_⟩,?_⟩
  ·exact⟨⟨rfl,⟨rfl,rfl⟩,rfl,trivial⟩,⟨rfl,trivial⟩⟩
  ·match l,h2 with
   | x::r,_=>simp [bm]
  rintro k H1 _ ⟨rfl,og,hk,hg⟩;refine⟨fun h=>?_,fun h=>?_⟩
  ·have aj:k<l.length:=by have:=dt h;rw[gq]at this;omega
   refine⟨some ([],[0,1,2,3,4,5,6,7,8,9,10]),by kernel_rfl,?_⟩
   have g1:(ao l)[((k:Int)).toNat]?=some [.int .i64 l[k].1,.int .i64 l[k].2]:=by rw[Int.toNat_natCast];exact pV aj
   have kY:k - 1<l.length:=by omega
   have g2:(ao l)[((k:Int) - 1).toNat]?=some [.int .i64 l[k - 1].1,.int .i64 l[k - 1].2]:=by
    rw[show ((k:Int) - 1).toNat=k - 1 by omega];exact pV kY
   refine⟨⟨by omega,by rw[gq];omega⟩,?_⟩;refine⟨_,g1,?_⟩;refine⟨⟨by omega,by omega⟩,?_⟩;refine⟨⟨by omega,by rw[gq];omega⟩,?_⟩;refine⟨_,g2,?_⟩;refine Df (a:=l[k]) (b:=l[k - 1]) ?_
   obtain⟨j,hj⟩:∃j,k=j+1:=⟨k - 1,by omega⟩
   have zq:bm (l.take (k+1))=if l[k - 1]=l[k] then bm (l.take k) else bm (l.take k)++[l[k]]:=by
    subst hj;exact jj aj
   refine⟨fun h=>?_,fun h=>?_⟩
   ·have he:l[k]=l[k - 1]:=dt h;rw[if_pos he.symm,hg]at zq;refine .inr ?_;refine⟨⟨by omega,by rw[gq];omega,by omega⟩,?_⟩;refine .inl ?_
    have wS:(((ao l).length:Int)).toNat - ((k:Int)).toNat=l.length - k:=by rw[gq];rfl
    refine⟨Nat×Nat×List cV,fun q=>⟨[(0,.own 0),(1,.fn 206 []),(5,.v (.int .i64 q.1)),(6,.sub 0 2 k (l.length - k)),(7,.v (.int .i64 q.2.1))],[(0,.row 172 2 (ao q.2.2))],1⟩,
     fun q H'=>H'=H1∧q.2.2.length=l.length∧1≤q.2.1∧k+q.2.1≤l.length∧1≤q.1∧q.1+1≤k+q.2.1∧q.2.2.take q.1=bm (l.take (k+q.2.1))∧∀j,k+q.2.1≤j+1→q.2.2[j]?=l[j]?,
     fun q=>l.length - (k+q.2.1),⟨(k,1,l),[(0,0)],?_,rfl,rfl,Nat.le_refl _,aj,og,Nat.le_refl _,zq.symm,fun _ _=>rfl⟩,?_⟩
    ·exact⟨⟨rfl,⟨rfl,rfl⟩,rfl,⟨rfl,rfl,rfl,wS⟩,rfl,trivial⟩,⟨rfl,trivial⟩⟩
    rintro⟨k',k2,cur⟩ H2 _ ⟨rfl,c1,c2,c3,c4,c5,c6,c7⟩;simp only at c1 c2 c3 c4 c5 c6 c7
    have Dh:(ao cur).length=l.length:=by rw[List.length_map,c1]
    refine .inl ?_;refine⟨fun h=>?_,fun h=>?_⟩
    ·have dK:k+k2<l.length:=by have:=dt h;simp only at this;omega
     refine⟨some ([],[0,1,2,3,4,5,6,7,8,9,10,11]),by kernel_rfl,?_⟩;have hA:=c7 (k+k2) (by omega);rw[aL dK]at hA;have hB:=c7 (k+k2 - 1) (by omega);rw[aL (by omega:k+k2 - 1<l.length)]at hB
     have gA:(ao cur)[((k:Int)+((k',k2,cur).snd.fst:Int)).toNat]?=some [.int .i64 l[k+k2].1,.int .i64 l[k+k2].2]:=by
      rw[show ((k:Int)+((k',k2,cur).snd.fst:Int)).toNat=k+k2 by simp only;omega,List.getElem?_map,hA];rfl
     have gB:(ao cur)[((k:Int)+(((k',k2,cur).snd.fst:Int) - 1)).toNat]?=some [.int .i64 l[k+k2 - 1].1,.int .i64 l[k+k2 - 1].2]:=by
      rw[show ((k:Int)+(((k',k2,cur).snd.fst:Int) - 1)).toNat=k+k2 - 1 by simp only;omega,List.getElem?_map,hB];rfl
     refine⟨⟨by simp only;omega,by simp only;omega,by simp only;omega⟩,?_⟩;refine⟨_,gA,?_⟩;refine⟨⟨by simp only;omega,by simp only;omega⟩,?_⟩;refine⟨⟨by simp only;omega,by simp only;omega,by simp only;omega⟩,?_⟩;refine⟨_,gB,?_⟩;refine Df (a:=l[k+k2]) (b:=l[k+k2 - 1]) ?_
     have hE:bm (l.take (k+(k2+1)))=if l[k+k2 - 1]=l[k+k2] then bm (l.take (k+k2)) else bm (l.take (k+k2))++[l[k+k2]]:=by
      obtain⟨j,hj⟩:∃j,k+k2=j+1:=⟨k+k2 - 1,by omega⟩
      have:=jj (l:=l) (j:=j) (by omega);rw[show k+(k2+1)=j+2 by omega];simp only[hj,Nat.add_sub_cancel];exact this
     refine⟨fun h=>?_,fun h=>?_⟩
     ·have cu:¬l[k+k2]=l[k+k2 - 1]:=by
       intro e;rw[decide_eq_true e]at h;cases h
      rw[if_neg (fun e=>cu e.symm)]at hE;refine .inl ?_;refine⟨⟨by simp only;omega,by simp only;omega,by simp only;omega⟩,?_⟩;refine⟨_,gA,?_⟩;refine⟨⟨by simp only;omega,by simp only;rw[Dh];omega⟩,?_⟩
      have lQ:k'<cur.length:=by omega
      refine⟨[.int .i64 cur[k'].1,.int .i64 cur[k'].2],by show (ao cur)[((k':Nat):Int).toNat]?=_;rw[Int.toNat_natCast];exact pV lQ,?_⟩
      have e5:(ao cur).set ((k':Int)).toNat [.int .i64 l[k+k2].1,.int .i64 l[k+k2].2]=ao (cur.set k' l[k+k2]):=by
       rw[Int.toNat_natCast];exact Jy cur k' _
      refine⟨⟨by simp only;omega,by simp only;omega⟩,?_⟩;refine⟨⟨by simp only;omega,by simp only;omega⟩,(k'+1,k2+1,cur.set k' l[k+k2]),[(0,0)],?_,⟨rfl,by simp only[List.length_set];exact c1,by simp only;omega,by simp only;omega,by simp only;omega,by simp only;omega,?_,fun j hj=>?_⟩,by simp only;omega⟩
      ·exact⟨⟨rfl,⟨rfl,rfl⟩,rfl,⟨rfl,rfl,rfl,rfl⟩,rfl,trivial⟩,⟨e5,trivial⟩⟩
      ·simp only;rw[hE,←c6,List.take_add_one,List.getElem?_set_self lQ,Option.toList_some,List.take_set_of_le (Nat.le_refl _)]
      ·simp only at hj ⊢;rw[List.getElem?_set_ne (by omega)];exact c7 j (by omega)
     ·have he:l[k+k2]=l[k+k2 - 1]:=by
       cases hh:decide (l[k+k2]=l[k+k2 - 1]) with
       | true=>exact dt hh
       | false=>rw[hh]at h;cases h
      rw[if_pos he.symm]at hE;refine⟨⟨by simp only;omega,by simp only;omega⟩,(k',k2+1,cur),[(0,0)],?_,⟨rfl,c1,by simp only;omega,by simp only;omega,c4,by simp only;omega,?_,fun j hj=>c7 j (by simp only at hj;omega)⟩,by simp only;omega⟩
      ·exact⟨⟨rfl,⟨rfl,rfl⟩,rfl,⟨rfl,rfl,rfl,rfl⟩,rfl,trivial⟩,⟨rfl,trivial⟩⟩
      ·simp only;rw[hE,←c6]
    ·have Mo:k+k2=l.length:=by have:=df h;simp only at this;omega
     rw[Mo,List.take_length]at c6
     have lQ:k'≤cur.length:=by omega
     refine .inr ?_;refine⟨⟨by simp only;omega,by simp only;rw[Dh];omega,by simp only;rw[Dh];omega⟩,?_⟩;refine⟨by show ((k':Nat):Int).toNat+(((ao cur).length:Int).toNat - ((k':Nat):Int).toNat)≤(ao cur).length;simp only[Int.toNat_natCast];rw[Dh];omega,?_⟩
     have fC:∀(z:List (List Value)),((ao cur).take ((k':Nat):Int).toNat++z).take ((k':Nat):Int).toNat=ao (bm l):=fun z=>by
      rw[Int.toNat_natCast,List.take_append_of_le_length (by rw[List.length_take];omega),List.take_take,Nat.min_self,←List.map_take,c6]
     refine .inl ⟨⟨by simp only;omega,?_⟩,?_⟩
     ·show ((k':Nat):Int)≤((((ao cur).take ((k':Nat):Int).toNat++List.replicate _ _++_:List (List Value)).length:Nat):Int);rw[List.length_append,List.length_append,List.length_take,Int.toNat_natCast,Dh];omega
     ·refine⟨.own 1,[(0,.dead),(1,.row 172 2 (ao (bm l)))],2,[(1,1)],⟨⟨rfl,trivial⟩,⟨trivial,?_,trivial⟩⟩,hK⟩;have:=fC (List.replicate (((ao cur).length:Int).toNat - ((k':Nat):Int).toNat) [.int .i64 0,.int .i64 0]++(ao cur).drop (((k':Nat):Int).toNat+(((ao cur).length:Int).toNat - ((k':Nat):Int).toNat)));rw[←List.append_assoc]at this;exact this
   ·have he:¬l[k]=l[k - 1]:=df h;rw[if_neg (fun e=>he e.symm),hg]at zq;refine⟨⟨by omega,by omega⟩,k+1,[(0,0)],?_,⟨rfl,by omega,by omega,?_⟩,by dsimp only;omega⟩
    ·exact⟨⟨rfl,⟨rfl,rfl⟩,rfl,trivial⟩,⟨rfl,trivial⟩⟩
    ·rw[zq,List.take_add_one,aL aj];rfl
  ·have e8:k=l.length:=by have:=df h;rw[gq]at this;omega
   rw[e8,List.take_length]at hg;rw[hg]at hK;exact⟨.own 1,[(0,.dead),(1,.row 172 2 (ao l))],2,[(1,0)],⟨⟨rfl,trivial⟩,⟨trivial,rfl,trivial⟩⟩,hK⟩
end Go.Proofs
end
section
namespace Go.Proofs
open Go.Sy
open Tryz
variable {H:Hp} {K:Value→Hp→Prop}
theorem kt {x y:Int} (hK:K (.bool (decide (0≤y∧y<x))) H):aq prog 179 [.int .i64 x,.int .i64 y] H K:=by
 refine ab af aa rfl func179 call179 ntmps179 results179 rfl rfl ?_;refine⟨fun h=>?_,fun h=>?_⟩
 ·have h1:0≤y:=dt h;refine aA hK ?_;simp [h1]
 ·have h1:¬0≤y:=df h;refine aA hK ?_;simp [h1]
def dV {α:Type} (p:α→Bool):List α→Nat→List Int
 | [],_=>[]
 | x::r,i=>if p x then (i:Int)::dV p r (i+1) else dV p r (i+1)
theorem zr {α:Type} (p:α→Bool):∀(l:List α) (x:α) (i:Nat),dV p (l++[x]) i=dV p l i++(if p x then [((i+l.length:Nat):Int)] else [])
 | [],x,i=>by simp only[List.nil_append,dV,List.length_nil,Nat.add_zero]
 | y::r,x,i=>by
  rw[List.cons_append,dV,dV,zr p r x (i+1),List.length_cons,show i+1+r.length=i+(r.length+1) by omega]
  cases p y<;>rfl
theorem w4 {α:Type} (p:α→Bool):∀(l:List α) (i:Nat),(dV p l i).length≤l.length
 | [],i=>Nat.le_refl _
 | y::r,i=>by
  have:=w4 p r (i+1);rw[dV,List.length_cons];split
  ·rw[List.length_cons];omega
  ·omega
theorem zu {α:Type} (p:α→Bool) {l:List α} {i:Nat} (h:i<l.length):dV p (l.take (i+1)) 0=dV p (l.take i) 0++(if p l[i] then [(i:Int)] else []):=by
 rw[List.take_add_one,aL h,Option.toList_some,zr,Nat.zero_add,List.length_take,Nat.min_eq_left (by omega)]
def b7 (b:Block):Bool:=decide (b.2.2.1=3)
def A5 (p:Prog):List Int:=dV b7 p 0
theorem lY {x:Value} {H:Hp} {l:List Int} (h:aW H x 1 (au l)) (hl:∀n∈l,oh n):∃a n c,x = .slice a n c∧RL H a n c l:=RL.aC (α:=Int) h (cD hl)
theorem A6 {α:Type} (p:α→Bool):∀(l:List α) (i:Nat),i+l.length≤9223372036854775807→∀n∈dV p l i,oh n
 | [],_,_=>by simp [dV]
 | x::r,i,h=>by
  have ih:=A6 p r (i+1) (by rw[List.length_cons]at h;omega);rw[List.length_cons]at h;rw[dV];split
  ·intro n hn
   rcases List.mem_cons.1 hn with rfl | hn
   ·exact⟨by omega,by omega⟩
   ·exact ih n hn
  ·exact ih
theorem nA {p:Prog} (hp:p.length≤12) {t:aQ} {a:Option Addr} {n c:Nat} (ha:RL H a n c p)
 (hK:∀H',Le H H'→K (.tuple #[.int .i64 (max (bw t (p.map (·.1.l)) 0) 0),.bool (decide (0≤bw t (p.map (·.1.l)) 0))]) H'):aq prog 110 [.agg #[.slice a n c],.string (bs t)] H K:=by
 have dd:=ha.aB;have eI:=ha.le;refine ab af aa rfl func110 call110 ntmps110 results110 rfl rfl ?_
 refine⟨Nat,fun i=>⟨[(1,.v (.string (bs t))),(6,.own 0),(10,.v (.slice a n c)),(11,.v (.int .i64 n)),(12,.v (.int .i64 i))],[(0,.row 9 1 (ay ((p.take i).map (·.1.l))))],1⟩,
  fun i H'=>H'=H∧i≤p.length,fun i=>p.length - i,⟨0,[],?_,rfl,by omega⟩,?_⟩
 ·exact⟨⟨rfl,⟨rfl,rfl,rfl⟩,rfl,rfl,rfl,trivial⟩,⟨rfl,trivial⟩⟩
 rintro i H1 _ ⟨rfl,hi⟩;refine⟨fun h=>?_,fun h=>?_⟩
 ·have aj:i<p.length:=by have:=dt h;omega
  obtain⟨ad,cs,q1,hh,r1⟩:=ha.elem (aL aj);obtain⟨a2,n2,c2,rfl,bj,Ii,wM⟩:=cX r1
  have gq:(ay ((p.take i).map (·.1.l))).length=i:=by simp;omega
  refine⟨ad,⟨by omega,by omega,q1⟩,?_⟩;refine⟨_,hh,?_⟩;refine⟨⟨by show ((ay ((p.take i).map (·.1.l))).length+1)*16≤_;omega,by show (ay ((p.take i).map (·.1.l))).length+1≤_;omega⟩,?_⟩
  have bL:ay ((p.take i).map (·.1.l))++[[.string (bs p[i].1.l)]]=ay ((p.take (i+1)).map (·.1.l)):=by
   rw[List.take_add_one,aL aj,Option.toList_some,List.map_append];exact (List.map_append (f:=fun s=>[Value.string (bs s)]) (l₁:=(p.take i).map (·.1.l)) (l₂:=[p[i].1.l])).symm
  refine⟨⟨by omega,by omega⟩,i+1,[(0,3)],?_,⟨rfl,by omega⟩,by dsimp only;omega⟩;exact⟨⟨rfl,rfl,rfl,rfl,rfl,trivial⟩,⟨bL,trivial⟩⟩
 ·have aX:i=p.length:=by have:=df h;omega
  intro x H2 ah hx;rw[aX,List.take_length]at hx
  have bf:RC (α:=iz) H2 (ay (p.map (·.1.l))) (iA (p.map (·.1.l))):=dU (fun s hs=>by
   obtain⟨b,hb,rfl⟩:=List.mem_map.1 hs;obtain⟨cs,hr⟩:=qO ha hb;obtain⟨_,_,_,_,_,h5,_⟩:=cX hr
   exact h5)
  obtain⟨a1,n1,c1,rfl,hr⟩:=RL.aC (α:=iz) hx bf;refine wY hr ?_;exact hK _ (Le.refl H1)
theorem Mp {p:Prog} {t:aQ} {i:Nat} (h:i<p.length):bw t ((p.map (·.1.l)).drop i) i=if p[i].1.l=t then (i:Int) else bw t ((p.map (·.1.l)).drop (i+1)) (i+1:Nat):=by
 have h2:i<(p.map (·.1.l)).length:=by rw[List.length_map];exact h
 rw[tu h2,List.getElem_map]
theorem jG {p:Prog} (hp:p.length≤12) {t:aQ} {a:Option Addr} {n c:Nat} (ha:RL H a n c p)
 (hK:K (.int .i64 (bw t (p.map (·.1.l)) 0)) H):aq prog 126 [.agg #[.slice a n c],.string (bs t)] H K:=by
 have dd:=ha.aB;have eI:=ha.le;refine ab af aa rfl func126 call126 ntmps126 results126 rfl rfl ?_
 refine⟨Nat,fun i=>⟨[(1,.v (.string (bs t))),(8,.v (.slice a n c)),(9,.v (.int .i64 n)),(10,.v (.int .i64 i))],[],0⟩,
  fun i H'=>H'=H∧i≤p.length∧bw t (p.map (·.1.l)) 0=bw t ((p.map (·.1.l)).drop i) i,fun i=>p.length - i,⟨0,[],?_,rfl,by omega,rfl⟩,?_⟩
 ·exact⟨⟨rfl,rfl,rfl,rfl,trivial⟩,trivial⟩
 rintro i H1 _ ⟨rfl,hi,hx⟩;refine⟨fun h=>?_,fun h=>?_⟩
 ·have aj:i<p.length:=by have:=dt h;omega
  obtain⟨ad,cs,q1,hh,r1⟩:=ha.elem (aL aj);obtain⟨a2,n2,c2,rfl,bj,Ii,wM⟩:=cX r1;rw[Mp aj]at hx;refine⟨ad,⟨by omega,by omega,q1⟩,?_⟩;refine⟨_,hh,?_⟩;refine⟨fun h=>?_,fun h=>?_⟩
  ·have he:p[i].1.l=t:=dt h;rw[if_pos he]at hx;rw[hx]at hK;exact hK
  ·have he:¬p[i].1.l=t:=df h;rw[if_neg he]at hx;refine⟨⟨by omega,by omega⟩,i+1,[],?_,⟨rfl,by omega,hx⟩,by dsimp only;omega⟩;exact⟨⟨rfl,rfl,rfl,rfl,trivial⟩,trivial⟩
 ·have aX:i=p.length:=by have:=df h;omega
  rw[aX,show (p.map (·.1.l)).drop p.length=[] by rw[←List.length_map (·.1.l),List.drop_length],bw]at hx;rw[hx]at hK;exact hK
end Go.Proofs
end
section
namespace Go.Proofs
open Go.Sy
open Tryz
def rX (m:Int) (e:cV):Bool:=!(decide (0≤e.1∧e.1<m))||!(decide (0≤e.2∧e.2<m))
theorem Mq {m:Int} {e:cV} {H:Hp} {K:SV→St→Hp→Prop}
  (hK:K (.v (.bool (rX m e))) ⟨[],[(0,.cells 3 [.v (.int .i64 m)])],1⟩ H):aY prog 261 [.agg [.v (.int .i64 e.1),.v (.int .i64 e.2)],.ptr 0 0] [(0,.cells 3 [.v (.int .i64 m)])] 1 H K:=by
 refine aJ af aa func261 call261 ntmps261 results261 rfl rfl ?_;refine kt ?_;refine⟨fun h=>?_,fun h=>?_⟩
 ·refine kt ?_
  have e1:rX m e=!(decide (0≤e.2∧e.2<m)):=by rw[rX,h];rfl
  rw[e1]at hK;exact⟨.v (.bool (!(decide (0≤e.2∧e.2<m)))),[(0,.cells 3 [.v (.int .i64 m)])],1,[(0,0)],⟨⟨rfl,trivial⟩,⟨⟨rfl,trivial⟩,trivial⟩⟩,hK⟩
 ·have e1:rX m e=true:=by rw[rX,h];rfl
  rw[e1]at hK;exact⟨.v (.bool true),[(0,.cells 3 [.v (.int .i64 m)])],1,[(0,0)],⟨⟨rfl,trivial⟩,⟨⟨rfl,trivial⟩,trivial⟩⟩,hK⟩
def rY (f:cV→Bool):List cV→Int→Int
 | [],_=>-1
 | x::r,i=>if f x then i else rY f r (i+1)
theorem Jz {f:cV→Bool} {l:List cV} {i:Nat} (h:i<l.length):rY f (l.drop i) i=if f l[i] then (i:Int) else rY f (l.drop (i+1)) (i+1:Nat):=by
 rw[List.drop_eq_getElem_cons h,rY];rfl
theorem tw {f:cV→Bool}:∀(l:List cV) (i:Int),0≤i→(0≤rY f l i↔∃x∈l,f x=true)
 | [],i,_=>by simp [rY]
 | x::r,i,h=>by
  rw[rY];split
  ·rename_i h1;exact⟨fun _=>⟨x,List.mem_cons_self,h1⟩,fun _=>h⟩
  ·rename_i h1;rw[tw r (i+1) (by omega)];constructor
   ·rintro⟨y,hy,h2⟩;exact⟨y,List.mem_cons_of_mem _ hy,h2⟩
   ·rintro⟨y,hy,h2⟩
    rcases List.mem_cons.1 hy with rfl | hy
    ·exact absurd h2 h1
    ·exact⟨y,hy,h2⟩
theorem Di {m:Int} {l:List cV} {a:Option Addr} {n c:Nat} {H:Hp} {K:SV→St→Hp→Prop} (ha:RL H a n c l)
  (hK:K (.v (.int .i64 (rY (rX m) l 0))) ⟨[],[(0,.cells 3 [.v (.int .i64 m)])],1⟩ H):aY prog 311 [.v (.slice a n c),.fn 261 [.ptr 0 0]] [(0,.cells 3 [.v (.int .i64 m)])] 1 H K:=by
 have dd:=ha.aB;have eI:=ha.le;refine aJ af aa func311 call311 ntmps311 results311 rfl rfl ?_;refine⟨Nat,fun i=>⟨[(0,.v (.slice a n c)),(1,.fn 261 [.ptr 0 0]),(7,.v (.int .i64 n)),(8,.v (.int .i64 i))],[(0,.cells 3 [.v (.int .i64 m)])],1⟩,fun i H'=>H'=H∧i≤l.length∧rY (rX m) l 0=rY (rX m) (l.drop i) i,fun i=>l.length - i,⟨0,[(0,0)],?_,rfl,by omega,rfl⟩,?_⟩
 ·exact⟨⟨rfl,⟨rfl,rfl⟩,rfl,rfl,trivial⟩,⟨⟨rfl,trivial⟩,trivial⟩⟩
 rintro i H1 _ ⟨rfl,hi,hx⟩;refine⟨fun h=>?_,fun h=>?_⟩
 ·have aj:i<l.length:=by have:=dt h;omega
  obtain⟨ad,cs,q1,hh,r1⟩:=ha.elem (aL aj);obtain⟨rfl,-⟩:=fX r1;rw[Jz aj]at hx;refine⟨ad,⟨by omega,by omega,q1⟩,?_⟩;refine⟨_,hh,?_⟩;refine⟨[0],rfl,Mq (e:=l[i]) ?_⟩;refine⟨fun h=>?_,fun h=>?_⟩
  ·rw[if_pos h]at hx;rw[hx]at hK;exact⟨.v (.int .i64 i),[(0,.cells 3 [.v (.int .i64 m)])],1,[(0,0)],⟨⟨rfl,trivial⟩,⟨⟨rfl,trivial⟩,trivial⟩⟩,hK⟩
  ·have h':¬rX m l[i]=true:=by rw[h];decide
   rw[if_neg h']at hx;refine⟨⟨by omega,by omega⟩,i+1,[(0,0)],?_,⟨rfl,by omega,hx⟩,by dsimp only;omega⟩;exact⟨⟨rfl,⟨rfl,rfl⟩,rfl,rfl,trivial⟩,⟨⟨rfl,trivial⟩,trivial⟩⟩
 ·have aX:i=l.length:=by have:=df h;omega
  rw[aX,List.drop_length,rY]at hx;rw[hx]at hK;exact⟨.v (.int .i64 (-1)),[(0,.cells 3 [.v (.int .i64 m)])],1,[(0,0)],⟨⟨rfl,trivial⟩,⟨⟨rfl,trivial⟩,trivial⟩⟩,hK⟩
theorem FU {m:Int} {l:List cV} {a:Option Addr} {n c:Nat} {H:Hp} {K:SV→St→Hp→Prop} (ha:RL H a n c l)
  (hK:K (.v (.bool (decide (0≤rY (rX m) l 0)))) ⟨[],[(0,.cells 3 [.v (.int .i64 m)])],1⟩ H):aY prog 260 [.v (.slice a n c),.fn 261 [.ptr 0 0]] [(0,.cells 3 [.v (.int .i64 m)])] 1 H K:=by
 refine aJ af aa func260 call260 ntmps260 results260 rfl rfl ?_;refine⟨[0],rfl,Di ha ?_⟩;exact⟨.v (.bool (decide (0≤rY (rX m) l 0))),[(0,.cells 3 [.v (.int .i64 m)])],1,[(0,0)],⟨⟨rfl,trivial⟩,⟨⟨rfl,trivial⟩,trivial⟩⟩,hK⟩
def lZ (m:Int) (l:List cV):Bool:=decide (1≤m)&&decide (m≤256)&&decide (l.length≤1024)&&!decide (0≤rY (rX m) l 0)
theorem FW {m:Int} {l:List cV} {a:Option Addr} {n c:Nat} {H:Hp} {K:Value→Hp→Prop} (ha:RL H a n c l)
  (hK:K (.bool (lZ m l)) H):aq prog 217 [.int .i64 m,.slice a n c] H K:=by
 have dd:=ha.aB;refine ab af aa rfl func217 call217 ntmps217 results217 rfl rfl ?_;refine⟨fun h=>?_,fun h=>?_⟩
 ·have h1:¬m<1:=df h;refine⟨fun h=>?_,fun h=>?_⟩
  ·have h2:¬m>256:=df h;refine⟨fun h=>?_,fun h=>?_⟩
   ·have h3:¬l.length≤1024:=by have:=dt h;omega
    refine aA hK ?_
    rw[lZ,decide_eq_false h3];simp
   ·have h3:l.length≤1024:=by have:=df h;omega
    refine⟨[0],rfl,FU (m:=m) ha ?_⟩;refine aA hK ?_
    rw[lZ,decide_eq_true h3,decide_eq_true (by omega:1≤m),decide_eq_true (by omega:m≤256)];rfl
  ·have h2:¬m≤256:=by have:=dt h;omega
   refine aA hK ?_
   rw[lZ,decide_eq_false h2];simp
 ·have h1:¬1≤m:=by have:=dt h;omega
  refine aA hK ?_
  rw[lZ,decide_eq_false h1];simp
end Go.Proofs
end
