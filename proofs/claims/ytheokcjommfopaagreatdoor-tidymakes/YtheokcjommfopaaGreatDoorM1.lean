/- Part 'M1' of the proof (Fl): lemmas, each with its own conditions in its own statement. -/
import Derived.Laws.ComplexArith
set_option maxRecDepth 20000
set_option maxHeartbeats 4000000
namespace Go.Sy
open Ieee
def s3 (d:Datum) (n:Int):Prop:=∃s m i,d = .number s m i∧(∀k:Nat,-(k:Int)≤i→m*2 ^ (i+k).toNat=n.natAbs*2 ^ k)∧(n≠0→s=decide (n<0))
def FV (x:Nat) (n:Int):Prop:=s3 (double.read x) n
theorem vt {s:Bool} {m:Nat} {i:Int} {n:Int} (k:Nat) (h1 : -(k:Int)≤i) (h2:m*2 ^ (i+k).toNat=n.natAbs*2 ^ k) (h3:n≠0→s=decide (n<0)):s3 (.number s m i) n:=by
 refine⟨s,m,i,rfl,fun j hj=>?_,h3⟩
 have e1:m*2 ^ (i+j).toNat*2 ^ k=n.natAbs*2 ^ j*2 ^ k:=by
  have a:(i+j).toNat+k=(i+k).toNat+j:=by omega
  rw[Nat.mul_assoc,←Nat.pow_add,a,Nat.pow_add,←Nat.mul_assoc,h2];rw[Nat.mul_assoc,Nat.mul_assoc,Nat.mul_comm (2 ^ k)]
 exact Nat.eq_of_mul_eq_mul_right (Nat.two_pow_pos k) e1
theorem v7 {s:Bool} {m:Nat} {i n:Int} (h:∀k:Nat,-(k:Int)≤i→m*2 ^ (i+k).toNat=n.natAbs*2 ^ k) (hs:n≠0→s=decide (n<0)) (k:Nat) (hk : -(k:Int)≤i):
  signed s m (i+k).toNat=n*2 ^ k:=by
 have h1:=h k hk;unfold signed;rw[Nat.shiftLeft_eq,h1]
 have e:((n.natAbs*2 ^ k:Nat):Int)=(n.natAbs:Int)*2 ^ k:=by push_cast;rfl
 rw[e]
 by_cases hn:n=0
 ·subst hn;simp
 ·rw[hs hn]
  by_cases aj:n<0
  ·have:(n.natAbs:Int) = -n:=by omega
   rw[this,if_pos (by simpa using aj),←Int.neg_mul];simp
  ·have:(n.natAbs:Int)=n:=by omega
   rw[this,if_neg (by simpa using aj)]
theorem Ca {d d':Datum} {a b:Int} (h:s3 d a) (h':s3 d' b):∃r,d.sum d'=some r∧s3 r (a+b):=by
 obtain⟨s,m,i,rfl,h1,h2⟩:=h;obtain⟨t,n,j,rfl,h3,h4⟩:=h';refine⟨_,rfl,?_⟩
 obtain⟨k,hk⟩:∃k:Nat,-(k:Int)≤min i j∧0≤min i j+k:=⟨(- min i j).toNat,by omega,by omega⟩
 have cP:∀x:Int,min i j≤x→(x - min i j).toNat+(min i j+k).toNat=(x+k).toNat:=fun x hx=>by omega
 have key:∀(u:Bool) (q:Nat) (x:Int),min i j≤x→signed u q (x - min i j).toNat*2 ^ (min i j+k).toNat=signed u q (x+k).toNat:=fun u q x hx=>by
  rw[←cP x hx];unfold signed;simp only[Nat.shiftLeft_eq,Nat.pow_add]
  split<;>push_cast<;>simp only[Int.neg_mul,Int.mul_assoc]
 have hv:(signed s m (i - min i j).toNat+signed t n (j - min i j).toNat)*2 ^ (min i j+k).toNat=(a+b)*2 ^ k:=by
  rw[Int.add_mul,key s m i (by omega),key t n j (by omega),v7 h1 h2 k (by omega),v7 h3 h4 k (by omega),Int.add_mul]
 generalize signed s m (i - min i j).toNat+signed t n (j - min i j).toNat=v at hv;have qo:(0:Int)<2 ^ (min i j+k).toNat:=Int.pow_pos (by decide);have UW:(0:Int)<2 ^ k:=Int.pow_pos (by decide);refine vt k hk.1 ?_ ?_
 ·have:=congrArg Int.natAbs hv;rw[Int.natAbs_mul,Int.natAbs_mul,Int.natAbs_pow,Int.natAbs_pow]at this;exact this
 ·intro cu
  have N9:v≠0:=by
   rintro rfl;rw[Int.zero_mul]at hv
   rcases Int.mul_eq_zero.1 hv.symm with h | h
   ·exact cu h
   ·omega
  rw[if_neg N9]
  congr 1
  apply propext;constructor
  ·intro aj;have h5:v*2 ^ (min i j+k).toNat<0:=Int.mul_neg_of_neg_of_pos aj qo;rw[hv]at h5;apply Classical.byContradiction;intro vu;have:=Int.mul_nonneg (a:=a+b) (b:=2 ^ k) (by omega) (by omega);omega
  ·intro aj;have h5:(a+b)*2 ^ k<0:=Int.mul_neg_of_neg_of_pos aj UW;rw[←hv]at h5;apply Classical.byContradiction;intro vu;have:=Int.mul_nonneg (a:=v) (b:=2 ^ (min i j+k).toNat) (by omega) (by omega);omega
theorem Cb {d:Datum} {a:Int} (h:s3 d a):s3 d.opposite (-a):=by
 obtain⟨s,m,i,rfl,h1,h2⟩:=h;refine⟨!s,m,i,rfl,fun k hk=>by rw[h1 k hk,Int.natAbs_neg],fun cu=>?_⟩;rw[h2 (by omega)]
 by_cases h:a<0
 ·simp only[h,decide_true,Bool.not_true];exact (decide_eq_false (by omega)).symm
 ·simp only[h,decide_false,Bool.not_false];exact (decide_eq_true (by omega)).symm
theorem IV {d d':Datum} {a b:Int} (h:s3 d a) (h':s3 d' b):∃r,d.product d'=some r∧s3 r (a*b):=by
 obtain⟨s,m,i,rfl,h1,h2⟩:=h;obtain⟨t,n,j,rfl,h3,h4⟩:=h';refine⟨_,rfl,?_⟩
 obtain⟨k,hk⟩:∃k:Nat,-(k:Int)≤i:=⟨(-i).toNat,by omega⟩
 obtain⟨l,hl⟩:∃k:Nat,-(k:Int)≤j:=⟨(-j).toNat,by omega⟩
 refine vt (k+l) (by omega) ?_ ?_
 ·have e:(i+j+(k+l:Nat)).toNat=(i+k).toNat+(j+l).toNat:=by omega
  rw[e,Nat.pow_add,Int.natAbs_mul,Nat.pow_add,Nat.mul_mul_mul_comm,h1 k hk,h3 l hl,Nat.mul_mul_mul_comm]
 ·intro cu
  have ha:a≠0:=by rintro rfl;simp at cu
  have hb:b≠0:=by rintro rfl;simp at cu
  rw[h2 ha,h4 hb]
  rcases Int.lt_or_gt_of_ne ha with h | h<;>rcases Int.lt_or_gt_of_ne hb with h' | h'
  ·have:=Int.mul_pos_of_neg_of_neg h h'
   rw[decide_eq_true h,decide_eq_true h',decide_eq_false (by omega)];rfl
  ·have:=Int.mul_neg_of_neg_of_pos h h'
   rw[decide_eq_true h,decide_eq_false (by omega),decide_eq_true this];rfl
  ·have:=Int.mul_neg_of_pos_of_neg h h'
   rw[decide_eq_false (by omega),decide_eq_true h',decide_eq_true this];rfl
  ·have:=Int.mul_pos h h'
   rw[decide_eq_false (by omega),decide_eq_false (by omega),decide_eq_false (by omega)];rfl
theorem ki {m:Nat} (h0:m≠0):∀k:Nat,(m*2 ^ k).log2=m.log2+k
 | 0=>by simp
 | k+1=>by
  have h1:m*2 ^ k≠0:=Nat.mul_ne_zero h0 (Nat.ne_of_gt (Nat.two_pow_pos k));rw[Nat.pow_succ,←Nat.mul_assoc,Nat.mul_comm _ 2,Nat.log2_two_mul h1,ki h0 k];omega
theorem yK (s:Bool) (q drop:Nat) (h:drop≤(q*2 ^ drop).log2+2):Toward.even.cut s (q*2 ^ drop) drop=q:=by
 unfold Toward.cut;dsimp only;rw[Nat.min_eq_left h,Nat.one_shiftLeft,Nat.mul_div_cancel _ (Nat.two_pow_pos drop),Nat.mul_mod_left];have hp:=Nat.two_pow_pos drop
 have e:(2 ^ drop == 0)=false:=by simp
 simp
theorem IW (s:Bool) {r:Nat} (h1:4503599627370496≤r) (h2:r<9218868437227405312):double.read (double.word s r) = .number s (4503599627370496+r % 4503599627370496) (-1074+(r / 4503599627370496 - 1:Nat)):=by
 have e2:double.leastPlace = -1074:=by decide
 have e3:double.infRung=9218868437227405312:=by decide
 have e4:double.binade=4503599627370496:=by decide
 have e6:double.signWeight=9223372036854775808:=by decide
 unfold Format.read;dsimp only;rw[e2,e3,e4,e6]
 have hw:double.word s r=(bif s then 9223372036854775808 else 0)+r:=by
  unfold Format.word;rw[e6];cases s
  ·rw[if_neg (by decide),cond_false,Nat.zero_add]
  ·rw[if_pos rfl,cond_true]
 have h3:double.word s r % 9223372036854775808=r:=by
  rw[hw];cases s
  ·rw[cond_false];omega
  ·rw[cond_true];omega
 have h4:(double.word s r / 9223372036854775808 % 2 == 1)=s:=by
  rw[hw];cases s
  ·rw[cond_false,show (0+r) / 9223372036854775808 % 2=0 by omega];rfl
  ·rw[cond_true,show (9223372036854775808+r) / 9223372036854775808 % 2=1 by omega];rfl
 rw[h3,h4,if_neg (by omega),if_pos h2]
theorem KX {lg q f:Nat} (Oa:lg<53) (hf:q=4503599627370496+f) (HA:f<4503599627370496):min ((lg+1022)*4503599627370496+q) 9218868437227405312=(lg+1023)*4503599627370496+f:=by omega
theorem Ob {lg f:Nat}:4503599627370496≤(lg+1023)*4503599627370496+f:=by omega
theorem Oc {lg f:Nat} (Oa:lg<53) (HA:f<4503599627370496):(lg+1023)*4503599627370496+f<9218868437227405312:=by omega
theorem KY {lg f:Nat} (HA:f<4503599627370496):((lg+1023)*4503599627370496+f) % 4503599627370496=f:=by omega
theorem KZ {lg f:Nat} (HA:f<4503599627370496):((lg+1023)*4503599627370496+f) / 4503599627370496=lg+1023:=by omega
theorem Od {s:Bool} {m lg q N:Nat} {i:Int} (hL:i+m.log2=lg) (Oa:lg<53) (hq:q=N*2 ^ (52 - lg)) (h1:∀k:Nat,-(k:Int)≤i→m*2 ^ (i+k).toNat=N*2 ^ k):
  Toward.even.cut s (m <<< (i - ((lg:Int) - 52)).toNat) (((lg:Int) - 52) - i).toNat=q:=by
 by_cases hc:(lg:Int) - 52≤i
 ·have e0:(((lg:Int) - 52) - i).toNat=0:=by omega
  have e1:=h1 (52 - lg) (by omega)
  have e2:(i+(52 - lg:Nat)).toNat=(i - ((lg:Int) - 52)).toNat:=by omega
  rw[e2,←hq]at e1;rw[e0,Nat.shiftLeft_eq,e1];have:=yK s q 0 (by omega);rw[Nat.pow_zero,Nat.mul_one]at this;exact this
 ·have e0:(i - ((lg:Int) - 52)).toNat=0:=by omega
  obtain⟨drop,hd⟩:∃drop:Nat,drop=(((lg:Int) - 52) - i).toNat:=⟨_,rfl⟩
  have e1:=h1 (drop+(52 - lg)) (by omega)
  have e2:(i+(drop+(52 - lg):Nat)).toNat=0:=by omega
  rw[e2,Nat.pow_zero,Nat.mul_one,Nat.pow_add,Nat.mul_comm (2 ^ drop),←Nat.mul_assoc,←hq]at e1;rw[e0,Nat.shiftLeft_zero,←hd,e1];refine yK s q drop ?_;rw[←e1];omega
theorem Oe {s:Bool} {m lg q f:Nat} {i:Int} (hm:m≠0) (hL:i+m.log2=lg) (Oa:lg<53) (hk:Toward.even.cut s (m <<< (i - ((lg:Int) - 52)).toNat) (((lg:Int) - 52) - i).toNat=q) (hf:q=4503599627370496+f) (HA:f<4503599627370496):
  double.nearest s m i=double.word s ((lg+1023)*4503599627370496+f):=by
 unfold Format.nearest;rw[if_neg hm];have e1:(double.fractionBits:Int)=(52:Nat):=rfl
 have e2:double.leastPlace = -1074:=by decide
 have e3:double.infRung=9218868437227405312:=by decide
 have e4:double.binade=4503599627370496:=by decide
 have Tj:max (i+m.log2 - (52:Nat)) (-1074)=(lg:Int) - 52:=by omega
 have e5:((lg:Int) - 52 - -1074).toNat=lg+1022:=by omega
 dsimp only;rw[e1,e2,Tj,hk,e3,e4,e5,KX Oa hf HA]
theorem pJ {d:Datum} {n:Int} (h:s3 d n) (hn:n.natAbs<9007199254740992):FV (double.write d) n:=by
 obtain⟨s,m,i,rfl,h1,h2⟩:=h
 by_cases hm:m=0
 ·subst hm
  have SY:n=0:=by
   obtain⟨k,hk⟩:∃k:Nat,-(k:Int)≤i:=⟨(-i).toNat,by omega⟩
   have:=h1 k hk;rw[Nat.zero_mul]at this;have hp:=Nat.two_pow_pos k
   rcases Nat.mul_eq_zero.1 this.symm with h | h
   ·omega
   ·omega
  subst SY;show s3 (double.read (double.nearest s 0 i)) 0
  have e:double.nearest s 0 i=double.word s 0:=by unfold Format.nearest;rw[if_pos rfl]
  rw[e];cases s
  ·exact⟨false,0,-1074,by decide,fun k _=>by simp,fun h=>absurd rfl h⟩
  ·exact⟨true,0,-1074,by decide,fun k _=>by simp,fun h=>absurd rfl h⟩
 ·have SY:n≠0:=by
   rintro rfl
   obtain⟨k,hk⟩:∃k:Nat,-(k:Int)≤i:=⟨(-i).toNat,by omega⟩
   have:=h1 k hk;rw[Int.natAbs_zero,Nat.zero_mul]at this
   have hp:=Nat.two_pow_pos (i+k).toNat
   rcases Nat.mul_eq_zero.1 this with h | h
   ·exact hm h
   ·omega
  have Fa:n.natAbs≠0:=by omega
  have hL:i+m.log2=n.natAbs.log2:=by
   obtain⟨k,hk⟩:∃k:Nat,-(k:Int)≤i:=⟨(-i).toNat,by omega⟩
   have e:=congrArg Nat.log2 (h1 k hk);rw[ki hm,ki Fa]at e;omega
  have Oa:n.natAbs.log2<53:=(Nat.log2_lt Fa).2 (Nat.lt_of_lt_of_le hn (by decide));have Xc:2 ^ n.natAbs.log2≤n.natAbs:=Nat.log2_self_le Fa;have Xd:n.natAbs<2 ^ (n.natAbs.log2+1):=Nat.lt_log2_self;generalize n.natAbs.log2=lg at hL Oa Xc Xd
  obtain⟨q,hq⟩:∃q,q=n.natAbs*2 ^ (52 - lg):=⟨_,rfl⟩
  have Vs:4503599627370496≤q:=by
   rw[hq,show (4503599627370496:Nat)=2 ^ lg*2 ^ (52 - lg) by rw[←Nat.pow_add,show lg+(52 - lg)=52 by omega]];exact Nat.mul_le_mul_right _ Xc
  have E0:q<9007199254740992:=by
   rw[hq,show (9007199254740992:Nat)=2 ^ (lg+1)*2 ^ (52 - lg) by rw[←Nat.pow_add,show lg+1+(52 - lg)=53 by omega]];exact Nat.mul_lt_mul_of_pos_right Xd (Nat.two_pow_pos _)
  obtain⟨f,hf⟩:∃f,q=4503599627370496+f:=⟨q - 4503599627370496,by omega⟩
  have HA:f<4503599627370496:=by omega
  show s3 (double.read (double.nearest s m i)) n;rw[Oe hm hL Oa (Od hL Oa hq h1) hf HA,IW s Ob (Oc Oa HA),KY HA,KZ HA,←hf]
  have h5:(-1074:Int)+((lg+1023 - 1:Nat):Int)=(lg:Int) - 52:=by omega
  rw[h5];refine vt (52 - lg) (by omega) ?_ h2
  have:((lg:Int) - 52+(52 - lg:Nat)).toNat=0:=by omega
  rw[this,Nat.pow_zero,Nat.mul_one,hq]
theorem yL {n:Int} (hn:n.natAbs<9007199254740992):FV (floatOfInt .f64 n) n :=
 pJ (d:=.number (decide (n<0)) n.natAbs 0) (vt 0 (by omega) (by simp) fun _=>rfl) hn
theorem K1 (n:Int):floatOfInt .f64 n<18446744073709551616:=by
 have h:=double.write_lt (.number (decide (n<0)) n.natAbs 0)
 have e:(2:Nat) ^ double.width=18446744073709551616:=by decide
 rw[e]at h;exact h
theorem Fb {x y:Nat} {a b:Int} (h:FV x a) (h':FV y b) (hn:(a+b).natAbs<9007199254740992):∃r,floatBits .add .f64 x y=some r∧FV r (a+b):=by
 obtain⟨d,h1,h2⟩:=Ca h h';refine⟨double.write d,?_,pJ h2 hn⟩;show ((double.read x).sum (double.read y)).map double.write=_
 rw[h1];rfl
theorem Fc {x y:Nat} {a b:Int} (h:FV x a) (h':FV y b) (hn:(a - b).natAbs<9007199254740992):∃r,floatBits .sub .f64 x y=some r∧FV r (a - b):=by
 obtain⟨d,h1,h2⟩:=Ca h (Cb h');rw[←Int.sub_eq_add_neg]at h2;refine⟨double.write d,?_,pJ h2 hn⟩;show ((double.read x).sum (double.read y).opposite).map double.write=_
 rw[h1];rfl
theorem An {x y:Nat} {a b:Int} (h:FV x a) (h':FV y b) (hn:(a*b).natAbs<9007199254740992):∃r,floatBits .mul .f64 x y=some r∧FV r (a*b):=by
 obtain⟨d,h1,h2⟩:=IV h h';refine⟨double.write d,?_,pJ h2 hn⟩;show ((double.read x).product (double.read y)).map double.write=_
 rw[h1];rfl
theorem Cc {x:Nat} {a:Int} (h:FV x a) (h1 : -9223372036854775808≤a∧a≤9223372036854775807):floatToIntVal .f64 x .i64=some a:=by
 unfold floatToIntVal
 have e:(FloatKind.f64.decode x).toInt .zero=some a:=by
  show (double.read x).toInt .zero=some a;obtain⟨s,m,i,e,h2,h3⟩:=h;rw[e];show some (signed s (Toward.zero.cut s (m <<< i.toNat) (-i).toNat) 0)=some a
  congr 1
  have hc:Toward.zero.cut s (m <<< i.toNat) (-i).toNat=a.natAbs:=by
   have hk:=h2 (-i).toNat (by omega)
   unfold Toward.cut;dsimp only;rw[Nat.shiftLeft_eq]
   by_cases hi:0≤i
   ·have e0:(-i).toNat=0:=by omega
    rw[e0]at hk ⊢
    have e1:(i+(0:Nat)).toNat=i.toNat:=by omega
    rw[e1]at hk
    rw[hk];simp
   ·have e0:i.toNat=0:=by omega
    have e1:(i+((-i).toNat:Nat)).toNat=0:=by omega
    rw[e1,Nat.pow_zero,Nat.mul_one]at hk;rw[e0,Nat.pow_zero,Nat.mul_one,hk];generalize (-i).toNat=k
    by_cases ha:a.natAbs=0
    ·rw[ha];simp
    ·rw[ki ha,Nat.min_eq_left (by omega),Nat.one_shiftLeft,Nat.mul_div_cancel _ (Nat.two_pow_pos k)];simp
  rw[hc];unfold signed;rw[Nat.shiftLeft_zero]
  by_cases ha:a=0
  ·subst ha;simp
  ·rw[h3 ha]
   by_cases hl:a<0
   ·rw[if_pos (by simpa using hl)];omega
   ·rw[if_neg (by simpa using hl)];omega
 rw[e];have h2:IntKind.i64.min≤a∧a≤IntKind.i64.max:=h1;simp only[h2,and_self,if_true]
theorem QO {x:Nat} {a:Int} (h:FV x a) (hx:x<18446744073709551616):FV (Op.negFloat .f64 x) (-a):=by
 have e:double.read (Op.negFloat .f64 x)=(double.read x).opposite:=by
  have e6:double.signWeight=2 ^ 63:=rfl;have hb:Op.negFloat .f64 x=x ^^^ 2 ^ 63:=rfl
  have h1:(x ^^^ 2 ^ 63) % 2 ^ 63=x % 2 ^ 63:=by
   rw[Nat.xor_mod_two_pow,Nat.mod_self,Nat.xor_zero]
  have h2:(x ^^^ 2 ^ 63) / 2 ^ 63=x / 2 ^ 63 ^^^ 1:=by
   rw[Nat.xor_div_two_pow,Nat.div_self (Nat.two_pow_pos 63)]
  have h3:x / 2 ^ 63=0∨x / 2 ^ 63=1:=by
   have:x / 2 ^ 63<2:=Nat.div_lt_of_lt_mul (Nat.lt_of_lt_of_le hx (by decide));omega
  rw[hb];unfold Format.read;dsimp only;rw[e6,h1,h2]
  have h4:((x / 2 ^ 63 ^^^ 1) % 2 == 1)=!(x / 2 ^ 63 % 2 == 1):=by
   rcases h3 with h3 | h3<;>rw[h3]<;>rfl
  rw[h4];split
  ·rfl
  ·split
   ·rfl
   ·split<;>rfl
 unfold FV;rw[e];exact Cb h
end Go.Sy
