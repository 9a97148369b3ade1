/- Part 'M1' of the proof (Fl): lemmas, each with its own conditions in its own statement. -/
import Derived.Laws.ComplexArith
namespace Go.Sy
open Ieee
def DVal (d:Datum) (n:Int):Prop:=∃s m i,d = .number s m i∧(∀k:Nat,-(k:Int)≤i→m*2 ^ (i+k).toNat=n.natAbs*2 ^ k)∧(n≠0→s=decide (n<0))
def FV (x:Nat) (n:Int):Prop:=DVal (double.read x) n
theorem dval_of {s:Bool} {m:Nat} {i:Int} {n:Int} (k:Nat) (h1 : -(k:Int)≤i) (h2:m*2 ^ (i+k).toNat=n.natAbs*2 ^ k) (h3:n≠0→s=decide (n<0)):DVal (.number s m i) n:=by
 refine⟨s,m,i,rfl,fun j hj=>?_,h3⟩
 have e1:m*2 ^ (i+j).toNat*2 ^ k=n.natAbs*2 ^ j*2 ^ k:=by
  have a:(i+j).toNat+k=(i+k).toNat+j:=by omega
  rw[Nat.mul_assoc,←Nat.pow_add,a,Nat.pow_add,←Nat.mul_assoc,h2];rw[Nat.mul_assoc,Nat.mul_assoc,Nat.mul_comm (2 ^ k)]
 exact Nat.eq_of_mul_eq_mul_right (Nat.two_pow_pos k) e1
theorem signed_val {s:Bool} {m:Nat} {i n:Int} (h:∀k:Nat,-(k:Int)≤i→m*2 ^ (i+k).toNat=n.natAbs*2 ^ k) (hs:n≠0→s=decide (n<0)) (k:Nat) (hk : -(k:Int)≤i):
  signed s m (i+k).toNat=n*2 ^ k:=by
 have h1:=h k hk;unfold signed;rw[Nat.shiftLeft_eq,h1]
 have e:((n.natAbs*2 ^ k:Nat):Int)=(n.natAbs:Int)*2 ^ k:=by push_cast;rfl
 rw[e]
 by_cases hn:n=0
 ·subst hn;simp
 ·rw[hs hn]
  by_cases hlt:n<0
  ·have:(n.natAbs:Int) = -n:=by omega
   rw[this,if_pos (by simpa using hlt),←Int.neg_mul];simp
  ·have:(n.natAbs:Int)=n:=by omega
   rw[this,if_neg (by simpa using hlt)]
theorem dval_sum {d d':Datum} {a b:Int} (h:DVal d a) (h':DVal d' b):∃r,d.sum d'=some r∧DVal r (a+b):=by
 obtain⟨s,m,i,rfl,h1,h2⟩:=h;obtain⟨t,n,j,rfl,h3,h4⟩:=h';refine⟨_,rfl,?_⟩
 obtain⟨k,hk⟩:∃k:Nat,-(k:Int)≤min i j∧0≤min i j+k:=⟨(- min i j).toNat,by omega,by omega⟩
 have hbase:∀x:Int,min i j≤x→(x - min i j).toNat+(min i j+k).toNat=(x+k).toNat:=fun x hx=>by omega
 have key:∀(u:Bool) (q:Nat) (x:Int),min i j≤x→signed u q (x - min i j).toNat*2 ^ (min i j+k).toNat=signed u q (x+k).toNat:=fun u q x hx=>by
  rw[←hbase x hx];unfold signed;simp only[Nat.shiftLeft_eq,Nat.pow_add]
  split<;>push_cast<;>simp only[Int.neg_mul,Int.mul_assoc]
 have hv:(signed s m (i - min i j).toNat+signed t n (j - min i j).toNat)*2 ^ (min i j+k).toNat=(a+b)*2 ^ k:=by
  rw[Int.add_mul,key s m i (by omega),key t n j (by omega),signed_val h1 h2 k (by omega),signed_val h3 h4 k (by omega),Int.add_mul]
 generalize signed s m (i - min i j).toNat+signed t n (j - min i j).toNat=v at hv;have hp1:(0:Int)<2 ^ (min i j+k).toNat:=Int.pow_pos (by decide);have hp2:(0:Int)<2 ^ k:=Int.pow_pos (by decide);refine dval_of k hk.1 ?_ ?_
 ·have:=congrArg Int.natAbs hv;rw[Int.natAbs_mul,Int.natAbs_mul,Int.natAbs_pow,Int.natAbs_pow]at this;exact this
 ·intro hne
  have hv0:v≠0:=by
   rintro rfl;rw[Int.zero_mul]at hv
   rcases Int.mul_eq_zero.1 hv.symm with h | h
   ·exact hne h
   ·omega
  rw[if_neg hv0]
  congr 1
  apply propext;constructor
  ·intro hlt;have h5:v*2 ^ (min i j+k).toNat<0:=Int.mul_neg_of_neg_of_pos hlt hp1;rw[hv]at h5;apply Classical.byContradiction;intro hge;have:=Int.mul_nonneg (a:=a+b) (b:=2 ^ k) (by omega) (by omega);omega
  ·intro hlt;have h5:(a+b)*2 ^ k<0:=Int.mul_neg_of_neg_of_pos hlt hp2;rw[←hv]at h5;apply Classical.byContradiction;intro hge;have:=Int.mul_nonneg (a:=v) (b:=2 ^ (min i j+k).toNat) (by omega) (by omega);omega
theorem dval_opp {d:Datum} {a:Int} (h:DVal d a):DVal d.opposite (-a):=by
 obtain⟨s,m,i,rfl,h1,h2⟩:=h;refine⟨!s,m,i,rfl,fun k hk=>by rw[h1 k hk,Int.natAbs_neg],fun hne=>?_⟩;rw[h2 (by omega)]
 by_cases h:a<0
 ·simp only[h,decide_true,Bool.not_true];exact (decide_eq_false (by omega)).symm
 ·simp only[h,decide_false,Bool.not_false];exact (decide_eq_true (by omega)).symm
theorem dval_prod {d d':Datum} {a b:Int} (h:DVal d a) (h':DVal d' b):∃r,d.product d'=some r∧DVal r (a*b):=by
 obtain⟨s,m,i,rfl,h1,h2⟩:=h;obtain⟨t,n,j,rfl,h3,h4⟩:=h';refine⟨_,rfl,?_⟩
 obtain⟨k,hk⟩:∃k:Nat,-(k:Int)≤i:=⟨(-i).toNat,by omega⟩
 obtain⟨l,hl⟩:∃k:Nat,-(k:Int)≤j:=⟨(-j).toNat,by omega⟩
 refine dval_of (k+l) (by omega) ?_ ?_
 ·have e:(i+j+(k+l:Nat)).toNat=(i+k).toNat+(j+l).toNat:=by omega
  rw[e,Nat.pow_add,Int.natAbs_mul,Nat.pow_add,Nat.mul_mul_mul_comm,h1 k hk,h3 l hl,Nat.mul_mul_mul_comm]
 ·intro hne
  have ha:a≠0:=by rintro rfl;simp at hne
  have hb:b≠0:=by rintro rfl;simp at hne
  rw[h2 ha,h4 hb]
  rcases Int.lt_or_gt_of_ne ha with h | h<;>rcases Int.lt_or_gt_of_ne hb with h' | h'
  ·have:=Int.mul_pos_of_neg_of_neg h h'
   rw[decide_eq_true h,decide_eq_true h',decide_eq_false (by omega)];rfl
  ·have:=Int.mul_neg_of_neg_of_pos h h'
   rw[decide_eq_true h,decide_eq_false (by omega),decide_eq_true this];rfl
  ·have:=Int.mul_neg_of_pos_of_neg h h'
   rw[decide_eq_false (by omega),decide_eq_true h',decide_eq_true this];rfl
  ·have:=Int.mul_pos h h'
   rw[decide_eq_false (by omega),decide_eq_false (by omega),decide_eq_false (by omega)];rfl
theorem log2_mul_pow {m:Nat} (h0:m≠0):∀k:Nat,(m*2 ^ k).log2=m.log2+k
 | 0=>by simp
 | k+1=>by
  have h1:m*2 ^ k≠0:=Nat.mul_ne_zero h0 (Nat.ne_of_gt (Nat.two_pow_pos k));rw[Nat.pow_succ,←Nat.mul_assoc,Nat.mul_comm _ 2,Nat.log2_two_mul h1,log2_mul_pow h0 k];omega
theorem cut_exact (s:Bool) (q drop:Nat) (h:drop≤(q*2 ^ drop).log2+2):Toward.even.cut s (q*2 ^ drop) drop=q:=by
 unfold Toward.cut;dsimp only;rw[Nat.min_eq_left h,Nat.one_shiftLeft,Nat.mul_div_cancel _ (Nat.two_pow_pos drop),Nat.mul_mod_left];have hp:=Nat.two_pow_pos drop
 have e:(2 ^ drop == 0)=false:=by simp
 simp
theorem read_word (s:Bool) {r:Nat} (h1:4503599627370496≤r) (h2:r<9218868437227405312):double.read (double.word s r) = .number s (4503599627370496+r % 4503599627370496) (-1074+(r / 4503599627370496 - 1:Nat)):=by
 have e2:double.leastPlace = -1074:=by decide
 have e3:double.infRung=9218868437227405312:=by decide
 have e4:double.binade=4503599627370496:=by decide
 have e6:double.signWeight=9223372036854775808:=by decide
 unfold Format.read;dsimp only;rw[e2,e3,e4,e6]
 have hw:double.word s r=(bif s then 9223372036854775808 else 0)+r:=by
  unfold Format.word;rw[e6];cases s
  ·rw[if_neg (by decide),cond_false,Nat.zero_add]
  ·rw[if_pos rfl,cond_true]
 have h3:double.word s r % 9223372036854775808=r:=by
  rw[hw];cases s
  ·rw[cond_false];omega
  ·rw[cond_true];omega
 have h4:(double.word s r / 9223372036854775808 % 2 == 1)=s:=by
  rw[hw];cases s
  ·rw[cond_false,show (0+r) / 9223372036854775808 % 2=0 by omega];rfl
  ·rw[cond_true,show (9223372036854775808+r) / 9223372036854775808 % 2=1 by omega];rfl
 rw[h3,h4,if_neg (by omega),if_pos h2]
theorem rung_min {lg q f:Nat} (hlg:lg<53) (hf:q=4503599627370496+f) (hf2:f<4503599627370496):min ((lg+1022)*4503599627370496+q) 9218868437227405312=(lg+1023)*4503599627370496+f:=by omega
theorem rung_lo {lg f:Nat}:4503599627370496≤(lg+1023)*4503599627370496+f:=by omega
theorem rung_hi {lg f:Nat} (hlg:lg<53) (hf2:f<4503599627370496):(lg+1023)*4503599627370496+f<9218868437227405312:=by omega
theorem rung_mod {lg f:Nat} (hf2:f<4503599627370496):((lg+1023)*4503599627370496+f) % 4503599627370496=f:=by omega
theorem rung_div {lg f:Nat} (hf2:f<4503599627370496):((lg+1023)*4503599627370496+f) / 4503599627370496=lg+1023:=by omega
theorem kept_eq {s:Bool} {m lg q N:Nat} {i:Int} (hL:i+m.log2=lg) (hlg:lg<53) (hq:q=N*2 ^ (52 - lg)) (h1:∀k:Nat,-(k:Int)≤i→m*2 ^ (i+k).toNat=N*2 ^ k):
  Toward.even.cut s (m <<< (i - ((lg:Int) - 52)).toNat) (((lg:Int) - 52) - i).toNat=q:=by
 by_cases hc:(lg:Int) - 52≤i
 ·have e0:(((lg:Int) - 52) - i).toNat=0:=by omega
  have e1:=h1 (52 - lg) (by omega)
  have e2:(i+(52 - lg:Nat)).toNat=(i - ((lg:Int) - 52)).toNat:=by omega
  rw[e2,←hq]at e1;rw[e0,Nat.shiftLeft_eq,e1];have:=cut_exact s q 0 (by omega);rw[Nat.pow_zero,Nat.mul_one]at this;exact this
 ·have e0:(i - ((lg:Int) - 52)).toNat=0:=by omega
  obtain⟨drop,hd⟩:∃drop:Nat,drop=(((lg:Int) - 52) - i).toNat:=⟨_,rfl⟩
  have e1:=h1 (drop+(52 - lg)) (by omega)
  have e2:(i+(drop+(52 - lg):Nat)).toNat=0:=by omega
  rw[e2,Nat.pow_zero,Nat.mul_one,Nat.pow_add,Nat.mul_comm (2 ^ drop),←Nat.mul_assoc,←hq]at e1;rw[e0,Nat.shiftLeft_zero,←hd,e1];refine cut_exact s q drop ?_;rw[←e1];omega
theorem near_eq {s:Bool} {m lg q f:Nat} {i:Int} (hm:m≠0) (hL:i+m.log2=lg) (hlg:lg<53) (hk:Toward.even.cut s (m <<< (i - ((lg:Int) - 52)).toNat) (((lg:Int) - 52) - i).toNat=q) (hf:q=4503599627370496+f) (hf2:f<4503599627370496):
  double.nearest s m i=double.word s ((lg+1023)*4503599627370496+f):=by
 unfold Format.nearest;rw[if_neg hm];have e1:(double.fractionBits:Int)=(52:Nat):=rfl
 have e2:double.leastPlace = -1074:=by decide
 have e3:double.infRung=9218868437227405312:=by decide
 have e4:double.binade=4503599627370496:=by decide
 have hlast:max (i+m.log2 - (52:Nat)) (-1074)=(lg:Int) - 52:=by omega
 have e5:((lg:Int) - 52 - -1074).toNat=lg+1022:=by omega
 dsimp only;rw[e1,e2,hlast,hk,e3,e4,e5,rung_min hlg hf hf2]
theorem write_val {d:Datum} {n:Int} (h:DVal d n) (hn:n.natAbs<9007199254740992):FV (double.write d) n:=by
 obtain⟨s,m,i,rfl,h1,h2⟩:=h
 by_cases hm:m=0
 ·subst hm
  have hn0:n=0:=by
   obtain⟨k,hk⟩:∃k:Nat,-(k:Int)≤i:=⟨(-i).toNat,by omega⟩
   have:=h1 k hk;rw[Nat.zero_mul]at this;have hp:=Nat.two_pow_pos k
   rcases Nat.mul_eq_zero.1 this.symm with h | h
   ·omega
   ·omega
  subst hn0;show DVal (double.read (double.nearest s 0 i)) 0
  have e:double.nearest s 0 i=double.word s 0:=by unfold Format.nearest;rw[if_pos rfl]
  rw[e];cases s
  ·exact⟨false,0,-1074,by decide,fun k _=>by simp,fun h=>absurd rfl h⟩
  ·exact⟨true,0,-1074,by decide,fun k _=>by simp,fun h=>absurd rfl h⟩
 ·have hn0:n≠0:=by
   rintro rfl
   obtain⟨k,hk⟩:∃k:Nat,-(k:Int)≤i:=⟨(-i).toNat,by omega⟩
   have:=h1 k hk;rw[Int.natAbs_zero,Nat.zero_mul]at this
   have hp:=Nat.two_pow_pos (i+k).toNat
   rcases Nat.mul_eq_zero.1 this with h | h
   ·exact hm h
   ·omega
  have hna:n.natAbs≠0:=by omega
  have hL:i+m.log2=n.natAbs.log2:=by
   obtain⟨k,hk⟩:∃k:Nat,-(k:Int)≤i:=⟨(-i).toNat,by omega⟩
   have e:=congrArg Nat.log2 (h1 k hk);rw[log2_mul_pow hm,log2_mul_pow hna]at e;omega
  have hlg:n.natAbs.log2<53:=(Nat.log2_lt hna).2 (Nat.lt_of_lt_of_le hn (by decide));have hlo:2 ^ n.natAbs.log2≤n.natAbs:=Nat.log2_self_le hna;have hhi:n.natAbs<2 ^ (n.natAbs.log2+1):=Nat.lt_log2_self;generalize n.natAbs.log2=lg at hL hlg hlo hhi
  obtain⟨q,hq⟩:∃q,q=n.natAbs*2 ^ (52 - lg):=⟨_,rfl⟩
  have hq1:4503599627370496≤q:=by
   rw[hq,show (4503599627370496:Nat)=2 ^ lg*2 ^ (52 - lg) by rw[←Nat.pow_add,show lg+(52 - lg)=52 by omega]];exact Nat.mul_le_mul_right _ hlo
  have hq2:q<9007199254740992:=by
   rw[hq,show (9007199254740992:Nat)=2 ^ (lg+1)*2 ^ (52 - lg) by rw[←Nat.pow_add,show lg+1+(52 - lg)=53 by omega]];exact Nat.mul_lt_mul_of_pos_right hhi (Nat.two_pow_pos _)
  obtain⟨f,hf⟩:∃f,q=4503599627370496+f:=⟨q - 4503599627370496,by omega⟩
  have hf2:f<4503599627370496:=by omega
  show DVal (double.read (double.nearest s m i)) n;rw[near_eq hm hL hlg (kept_eq hL hlg hq h1) hf hf2,read_word s rung_lo (rung_hi hlg hf2),rung_mod hf2,rung_div hf2,←hf]
  have h5:(-1074:Int)+((lg+1023 - 1:Nat):Int)=(lg:Int) - 52:=by omega
  rw[h5];refine dval_of (52 - lg) (by omega) ?_ h2
  have:((lg:Int) - 52+(52 - lg:Nat)).toNat=0:=by omega
  rw[this,Nat.pow_zero,Nat.mul_one,hq]
theorem fv_of_int {n:Int} (hn:n.natAbs<9007199254740992):FV (floatOfInt .f64 n) n :=
 write_val (d:=.number (decide (n<0)) n.natAbs 0) (dval_of 0 (by omega) (by simp) fun _=>rfl) hn
theorem ofInt_lt (n:Int):floatOfInt .f64 n<18446744073709551616:=by
 have h:=double.write_lt (.number (decide (n<0)) n.natAbs 0)
 have e:(2:Nat) ^ double.width=18446744073709551616:=by decide
 rw[e]at h;exact h
theorem fv_add {x y:Nat} {a b:Int} (h:FV x a) (h':FV y b) (hn:(a+b).natAbs<9007199254740992):∃r,floatBits .add .f64 x y=some r∧FV r (a+b):=by
 obtain⟨d,h1,h2⟩:=dval_sum h h';refine⟨double.write d,?_,write_val h2 hn⟩;show ((double.read x).sum (double.read y)).map double.write=_
 rw[h1];rfl
theorem fv_sub {x y:Nat} {a b:Int} (h:FV x a) (h':FV y b) (hn:(a - b).natAbs<9007199254740992):∃r,floatBits .sub .f64 x y=some r∧FV r (a - b):=by
 obtain⟨d,h1,h2⟩:=dval_sum h (dval_opp h');rw[←Int.sub_eq_add_neg]at h2;refine⟨double.write d,?_,write_val h2 hn⟩;show ((double.read x).sum (double.read y).opposite).map double.write=_
 rw[h1];rfl
theorem fv_mul {x y:Nat} {a b:Int} (h:FV x a) (h':FV y b) (hn:(a*b).natAbs<9007199254740992):∃r,floatBits .mul .f64 x y=some r∧FV r (a*b):=by
 obtain⟨d,h1,h2⟩:=dval_prod h h';refine⟨double.write d,?_,write_val h2 hn⟩;show ((double.read x).product (double.read y)).map double.write=_
 rw[h1];rfl
theorem fv_toInt {x:Nat} {a:Int} (h:FV x a) (h1 : -9223372036854775808≤a∧a≤9223372036854775807):floatToIntVal .f64 x .i64=some a:=by
 unfold floatToIntVal
 have e:(FloatKind.f64.decode x).toInt .zero=some a:=by
  show (double.read x).toInt .zero=some a;obtain⟨s,m,i,e,h2,h3⟩:=h;rw[e];show some (signed s (Toward.zero.cut s (m <<< i.toNat) (-i).toNat) 0)=some a
  congr 1
  have hc:Toward.zero.cut s (m <<< i.toNat) (-i).toNat=a.natAbs:=by
   have hk:=h2 (-i).toNat (by omega)
   unfold Toward.cut;dsimp only;rw[Nat.shiftLeft_eq]
   by_cases hi:0≤i
   ·have e0:(-i).toNat=0:=by omega
    rw[e0]at hk ⊢
    have e1:(i+(0:Nat)).toNat=i.toNat:=by omega
    rw[e1]at hk
    rw[hk];simp
   ·have e0:i.toNat=0:=by omega
    have e1:(i+((-i).toNat:Nat)).toNat=0:=by omega
    rw[e1,Nat.pow_zero,Nat.mul_one]at hk;rw[e0,Nat.pow_zero,Nat.mul_one,hk];generalize (-i).toNat=k
    by_cases ha:a.natAbs=0
    ·rw[ha];simp
    ·rw[log2_mul_pow ha,Nat.min_eq_left (by omega),Nat.one_shiftLeft,Nat.mul_div_cancel _ (Nat.two_pow_pos k)];simp
  rw[hc];unfold signed;rw[Nat.shiftLeft_zero]
  by_cases ha:a=0
  ·subst ha;simp
  ·rw[h3 ha]
   by_cases hl:a<0
   ·rw[if_pos (by simpa using hl)];omega
   ·rw[if_neg (by simpa using hl)];omega
 rw[e];have h2:IntKind.i64.min≤a∧a≤IntKind.i64.max:=h1;simp only[h2,and_self,if_true]
theorem fv_neg {x:Nat} {a:Int} (h:FV x a) (hx:x<18446744073709551616):FV (Op.negFloat .f64 x) (-a):=by
 have e:double.read (Op.negFloat .f64 x)=(double.read x).opposite:=by
  have e6:double.signWeight=2 ^ 63:=rfl;have hb:Op.negFloat .f64 x=x ^^^ 2 ^ 63:=rfl
  have h1:(x ^^^ 2 ^ 63) % 2 ^ 63=x % 2 ^ 63:=by
   rw[Nat.xor_mod_two_pow,Nat.mod_self,Nat.xor_zero]
  have h2:(x ^^^ 2 ^ 63) / 2 ^ 63=x / 2 ^ 63 ^^^ 1:=by
   rw[Nat.xor_div_two_pow,Nat.div_self (Nat.two_pow_pos 63)]
  have h3:x / 2 ^ 63=0∨x / 2 ^ 63=1:=by
   have:x / 2 ^ 63<2:=Nat.div_lt_of_lt_mul (Nat.lt_of_lt_of_le hx (by decide));omega
  rw[hb];unfold Format.read;dsimp only;rw[e6,h1,h2]
  have h4:((x / 2 ^ 63 ^^^ 1) % 2 == 1)=!(x / 2 ^ 63 % 2 == 1):=by
   rcases h3 with h3 | h3<;>rw[h3]<;>rfl
  rw[h4];split
  ·rfl
  ·split
   ·rfl
   ·split<;>rfl
 unfold FV;rw[e];exact dval_opp h
end Go.Sy
