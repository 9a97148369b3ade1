/- Part 'M32' of the proof (Bt0, Bt1, Bt2, Bt3, Bt4, Bt5, Bt6, Bt7, Bt8, Bt9, Bt10, Lv3, Lv4, Lv5, Bx0): lemmas, each with its own conditions in its own statement. -/
import Derived.Test.YtheokcjommfopaaGreatDoorM2
import Derived.Test.YtheokcjommfopaaGreatDoorM28
import Derived.Test.YtheokcjommfopaaGreatDoorM30
import Derived.Test.YtheokcjommfopaaGreatDoorM31
set_option maxRecDepth 20000
set_option maxHeartbeats 4000000
section
namespace Go.Proofs
open Go.Sy
def aM (l:Wd) (n:Nat):Bool:=(l[n / 64]?.getD 0).toNat.testBit (n % 64)
def sI (k:Nat):UInt64:=UInt64.ofNat (2 ^ k)
theorem Ae {k:Nat} (h:k<64):(sI k).toNat=2 ^ k:=by
 rw[sI,UInt64.toNat_ofNat'];exact Nat.mod_eq_of_lt (Nat.pow_lt_pow_right (by omega) h)
def rm (l:Wd) (n:Nat):Wd:=l.set (n / 64) ((l[n / 64]?.getD 0) ||| sI (n % 64))
theorem EC (l:Wd) (n:Nat):(rm l n).length=l.length:=List.length_set
theorem Ha (x y:UInt64) (k:Nat):(x ||| y).toNat.testBit k=(x.toNat.testBit k||y.toNat.testBit k):=by
 rw[UInt64.toNat_or,Nat.testBit_or]
theorem II (x y:UInt64) (k:Nat):(x &&& y).toNat.testBit k=(x.toNat.testBit k&&y.toNat.testBit k):=by
 rw[UInt64.toNat_and,Nat.testBit_and]
theorem ED (x y:UInt64) (k:Nat):(x &&& ~~~y).toNat.testBit k=(x.toNat.testBit k&&!y.toNat.testBit k):=by
 rw[II]
 have h:(~~~y).toNat.testBit k=(decide (k<64)&&!y.toNat.testBit k):=by
  show (~~~y).toBitVec.getLsbD k=_
  rw[UInt64.toBitVec_not,BitVec.getLsbD_not];rfl
 rw[h]
 by_cases hk:k<64
 ·simp [hk]
 ·have:x.toNat.testBit k=false:=Nat.testBit_lt_two_pow (Nat.lt_of_lt_of_le x.toNat_lt (Nat.pow_le_pow_right (by omega) (by omega)));simp [this]
theorem PH {k j:Nat} (h:k<64):(sI k).toNat.testBit j=decide (k=j):=by rw[Ae h,Nat.testBit_two_pow]
theorem Af {l:Wd} {n:Nat} (h:n<64*l.length) (m:Nat):aM (rm l n) m=(decide (m=n)||aM l m):=by
 unfold aM rm
 by_cases hw:n / 64=m / 64
 ·rw[hw,List.getElem?_set_self (by omega),Option.getD_some,Ha,PH (Nat.mod_lt _ (by omega)),Bool.or_comm]
  congr 1
  by_cases hm:m=n
  ·simp [hm]
  ·have:¬n % 64=m % 64:=by omega
   simp [hm,this]
 ·rw[List.getElem?_set_ne hw]
  have hm:¬m=n:=by intro e;rw[e]at hw;exact hw rfl
  simp [hm]
theorem kA {l:Wd} {m:Nat} (h:64*l.length≤m):aM l m=false:=by
 unfold aM;rw[List.getElem?_eq_none (by omega)];exact Nat.zero_testBit _
theorem sJ {a b:Wd} (hl:a.length=b.length) (h:∀m,aM a m=aM b m):a=b:=by
 apply List.ext_getElem hl;intro i h1 h2;apply UInt64.toNat_inj.1;apply Nat.eq_of_testBit_eq;intro j
 by_cases hj:j<64
 ·have:=h (64*i+j);unfold aM at this;rw[show (64*i+j) / 64=i by omega,show (64*i+j) % 64=j by omega,aL h1,aL h2]at this;exact this
 ·have h3:∀x:UInt64,x.toNat.testBit j=false:=fun x=>Nat.testBit_lt_two_pow (Nat.lt_of_lt_of_le x.toNat_lt (Nat.pow_le_pow_right (by omega) (by omega)))
  rw[h3,h3]
def aU (w:Nat):Nat:=(w+63) / 64
def okB (w:Nat) (l:Wd):Prop:=l.length=aU w∧∀m,w≤m→aM l m=false
def dn (w:Nat):Wd:=List.replicate (aU w) 0
theorem nW (k m:Nat):aM (List.replicate k 0) m=false:=by
 unfold aM;rw[List.getElem?_replicate]
 split<;>exact Nat.zero_testBit _
theorem ek (w:Nat):okB w (dn w):=⟨List.length_replicate,fun m _=>nW _ m⟩
def iD (w:Nat) (o:Wd) (n:Int):Wd:=if 0≤n∧n<(w:Int) then rm o n.toNat else o
theorem Np (w:Nat) (o:Wd) (n:Int):(iD w o n).length=o.length:=by unfold iD;split<;>simp [EC]
def Hb (w:Nat) (l:List Int):Wd:=l.foldl (iD w) (dn w)
theorem Sx {w m:Nat} (h:m<w):m<64*aU w:=by unfold aU;omega
theorem PI {w:Nat} {o:Wd} (ho:o.length=aU w) (n:Int) (m:Nat):aM (iD w o n) m=(decide (m<w∧(m:Int)=n)||aM o m):=by
 unfold iD;split
 ·rename_i h
  have h1:n.toNat<w:=by omega
  rw[Af (by rw[ho];exact Sx h1)]
  congr 1
  by_cases hm:m=n.toNat
  ·have e:m<w∧(m:Int)=n:=⟨by omega,by omega⟩
   rw[decide_eq_true hm,decide_eq_true e]
  ·have e:¬(m<w∧(m:Int)=n):=fun h=>hm (by omega)
   rw[decide_eq_false hm,decide_eq_false e]
 ·rename_i h
  have e:¬(m<w∧(m:Int)=n):=fun h2=>h (by omega)
  rw[decide_eq_false e,Bool.false_or]
theorem mV {w:Nat}:∀(l:List Int) (o:Wd),o.length=aU w→(l.foldl (iD w) o).length=aU w∧∀m,aM (l.foldl (iD w) o) m=(decide (m<w∧(m:Int)∈l)||aM o m)
 | [],o,h=>⟨h,fun m=>by simp⟩
 | n::r,o,h=>by
  obtain⟨h1,h2⟩:=mV r (iD w o n) (by rw[Np,h]);refine⟨h1,fun m=>?_⟩;rw[List.foldl_cons,h2,PI h,←Bool.or_assoc]
  congr 1
  by_cases a:m<w<;>by_cases b:(m:Int)=n<;>by_cases c:(m:Int)∈r<;>simp [a,b,c]
theorem BE (w:Nat) (l:List Int):(Hb w l).length=aU w:=(mV l _ List.length_replicate).1
theorem x6 (w:Nat) (l:List Int) (m:Nat):aM (Hb w l) m=decide (m<w∧(m:Int)∈l):=by
 rw[Hb,(mV l (dn w) (ek w).1).2,dn,nW,Bool.or_false]
theorem Nq (w:Nat) (l:List Int):okB w (Hb w l):=⟨BE w l,fun m h=>by rw[x6];exact decide_eq_false (fun h2=>by omega)⟩
def sK (w:Nat):Wd:=Hb w ((List.range w).map fun i:Nat=>(i:Int))
theorem Nr (w m:Nat):aM (sK w) m=decide (m<w):=by
 rw[sK,x6]
 by_cases h:m<w
 ·rw[decide_eq_true h];exact decide_eq_true ⟨h,List.mem_map.2 ⟨m,List.mem_range.2 h,rfl⟩⟩
 ·rw[decide_eq_false h];exact decide_eq_false (fun h2=>h h2.1)
theorem sL (w:Nat):okB w (sK w):=Nq _ _
def vW (a b:Wd):Wd:=List.zipWith (fun x y=>x ||| y) a b
def PJ (a b:Wd):Wd:=List.zipWith (fun x y=>x &&& y) a b
def iw (a b:Wd):Wd:=List.zipWith (fun x y=>x &&& ~~~y) a b
theorem vX {f:UInt64→UInt64→UInt64} {g:Bool→Bool→Bool} (hf:∀x y k,(f x y).toNat.testBit k=g (x.toNat.testBit k) (y.toNat.testBit k)) (hg:g false false=false) {a b:Wd} (hl:a.length=b.length) (m:Nat):aM (List.zipWith f a b) m=g (aM a m) (aM b m):=by
 by_cases hm:m / 64<a.length
 ·unfold aM;rw[List.getElem?_zipWith,aL hm,aL (by omega:m / 64<b.length)];exact hf _ _ _
 ·rw[kA (by rw[List.length_zipWith];omega),kA (l:=a) (by omega),kA (l:=b) (by omega),hg]
theorem BF {a b:Wd} (hl:a.length=b.length) (m:Nat):aM (vW a b) m=(aM a m||aM b m):=vX (g:=fun x y=>x||y) Ha rfl hl m
theorem Ns {a b:Wd} (hl:a.length=b.length) (m:Nat):aM (PJ a b) m=(aM a m&&aM b m):=vX (g:=fun x y=>x&&y) II rfl hl m
theorem ua {a b:Wd} (hl:a.length=b.length) (m:Nat):aM (iw a b) m=(aM a m&&!aM b m):=vX (g:=fun x y=>x&&!y) ED rfl hl m
theorem BG {f:UInt64→UInt64→UInt64} {w:Nat} {a b:Wd} (ha:a.length=aU w) (hb:b.length=aU w):(List.zipWith f a b).length=aU w:=by rw[List.length_zipWith,ha,hb,Nat.min_self]
theorem ub {w:Nat} {a b:Wd} (ha:okB w a) (hb:okB w b):okB w (vW a b):=⟨BG ha.1 hb.1,fun m h=>by rw[BF (ha.1.trans hb.1.symm),ha.2 m h,hb.2 m h];rfl⟩
theorem PK {w:Nat} {a b:Wd} (ha:okB w a) (hb:okB w b):okB w (PJ a b):=⟨BG ha.1 hb.1,fun m h=>by rw[Ns (ha.1.trans hb.1.symm),ha.2 m h];rfl⟩
theorem gQ {w:Nat} {a b:Wd} (ha:okB w a) (hb:okB w b):okB w (iw a b):=⟨BG ha.1 hb.1,fun m h=>by rw[ua (ha.1.trans hb.1.symm),ha.2 m h];rfl⟩
theorem KB {w:Nat} {a:Wd} (ha:okB w a):iw a (sK w)=dn w:=by
 refine sJ (by rw[(gQ ha (sL w)).1,(ek w).1]) fun m=>?_
 rw[ua (ha.1.trans (sL w).1.symm),Nr,dn,nW]
 by_cases h:m<w
 ·simp [h]
 ·rw[ha.2 m (by omega)];rfl
def kf (g:Bool→Bool→Bool) (a b:Wd) (n:Nat) (o:Wd):Wd:=(List.range n).foldl (fun o m=>if g (aM a m) (aM b m) then rm o m else o) o
theorem x7 (g:Bool→Bool→Bool) (a b:Wd) (n:Nat) (o:Wd):kf g a b (n+1) o=if g (aM a n) (aM b n) then rm (kf g a b n o) n else kf g a b n o:=by
 rw[kf,List.range_succ,List.foldl_append];rfl
theorem uc {g:Bool→Bool→Bool} {a b o:Wd} (ho:∀m,aM o m=false):∀(n:Nat),n≤64*o.length→(kf g a b n o).length=o.length∧∀m,aM (kf g a b n o) m=(decide (m<n)&&g (aM a m) (aM b m))
 | 0,_=>⟨rfl,fun m=>by simp [kf,ho]⟩
 | n+1,h=>by
  obtain⟨h1,h2⟩:=uc ho n (by omega);rw[x7];split
  ·rename_i hg;refine⟨by rw[EC,h1],fun m=>?_⟩;rw[Af (by rw[h1];omega),h2]
   by_cases e:m=n
   ·subst e;simp [hg]
   ·by_cases h3:m<n
    ·simp [e,h3,show m<n+1 by omega]
    ·simp [e,h3,show ¬m<n+1 by omega]
  ·rename_i hg;refine⟨h1,fun m=>?_⟩;rw[h2]
   by_cases e:m=n
   ·subst e;simp [hg]
   ·by_cases h3:m<n
    ·simp [h3,show m<n+1 by omega]
    ·simp [h3,show ¬m<n+1 by omega]
theorem Nt {f:UInt64→UInt64→UInt64} {g:Bool→Bool→Bool} (hf:∀x y k,(f x y).toNat.testBit k=g (x.toNat.testBit k) (y.toNat.testBit k)) (hg:g false false=false) {a b:Wd} (hl:a.length=b.length):kf g a b (64*a.length) (List.replicate a.length 0)=List.zipWith f a b:=by
 have hr:(List.replicate a.length (0:UInt64)).length=a.length:=List.length_replicate;obtain⟨h1,h2⟩:=uc (g:=g) (a:=a) (b:=b) (o:=List.replicate a.length 0) (nW _) (64*a.length) (by rw[hr];exact Nat.le_refl _)
 refine sJ (by rw[h1,hr,List.length_zipWith,←hl,Nat.min_self]) fun m=>?_
 rw[h2,vX hf hg hl]
 by_cases h:m<64*a.length
 ·simp [h]
 ·rw[kA (l:=a) (by omega),kA (l:=b) (by omega),hg,Bool.and_false]
theorem rp (f:BitVec 64→BitVec 64→BitVec 64) (x y:UInt64):Sy.bits .u64 f (x.toNat:Nat) (y.toNat:Nat) = .v (.int .u64 ((UInt64.ofBitVec (f x.toBitVec y.toBitVec)).toNat:Nat)):=by
 have h1:∀x:UInt64,BitVec.ofInt 64 (x.toNat:Int)=x.toBitVec:=fun x=>by
  rw[BitVec.ofInt_natCast];exact BitVec.ofNat_toNat ..
 show SV.v (.int .u64 (IntKind.u64.wrap (f (BitVec.ofInt 64 (x.toNat:Int)) (BitVec.ofInt 64 (y.toNat:Int))).toNat))=_;rw[h1,h1,IntKind.wrap_u64];have h2:=(f x.toBitVec y.toBitVec).isLt;rw[show (((f x.toBitVec y.toBitVec).toNat:Int)) % 18446744073709551616=((f x.toBitVec y.toBitVec).toNat:Int) by omega]
 rfl
end Go.Proofs
end
section
namespace Go.Proofs
open Go.Sy
open Tryz
variable {H:Hp} {K:Value→Hp→Prop}
theorem ud {w:Nat} (hw:w≤1024) (hK:K (.int .i64 (w:Nat)) H):aq prog 149 [.int .i64 (w:Nat)] H K:=by
 refine ab af aa rfl func149 call149 ntmps149 results149 rfl rfl ?_;exact cT hK (by omega)
theorem kU {w:Nat} (hw:w≤1024) (hK:K (.int .i64 (aU w:Nat)) H):aq prog 148 [.int .i64 (w:Nat)] H K:=by
 refine ab af aa rfl func148 call148 ntmps148 results148 rfl rfl ?_;refine ud hw ?_;refine⟨⟨by omega,by omega⟩,?_⟩;refine⟨⟨by omega,by omega⟩,?_⟩
 have e:((w:Int)+64 - 1).tdiv 64=(aU w:Nat):=by rw[Int.tdiv_eq_ediv_of_nonneg (by omega),aU];omega
 have hs:aU w≤16:=by unfold aU;omega
 refine⟨by decide,⟨by rw[e];omega,by rw[e];omega⟩,?_⟩;exact cT hK e.symm
theorem Ag {n:Int} (h:0≤n):(1:Int)*2 ^ (min (Int.tmod n 64).toNat 64)=((sI (n.toNat % 64)).toNat:Nat):=by
 have e:(Int.tmod n 64).toNat=n.toNat % 64:=by rw[Int.tmod_eq_emod_of_nonneg h];omega
 rw[e,Nat.min_eq_left (by omega),Ae (by omega),Int.one_mul]
 push_cast;rfl
theorem nX {n:Int} (h:0≤n):(0:Int)≤1*2 ^ (min (Int.tmod n 64).toNat 64)∧(1:Int)*2 ^ (min (Int.tmod n 64).toNat 64)≤18446744073709551615:=by
 rw[Ag h];have:=(sI (n.toNat % 64)).toNat_lt;omega
theorem sM {n:Int} (h:0≤n):0≤Int.tmod n 64:=Int.tmod_nonneg _ h
theorem Sz {x:UInt64} {n:Int} (h:0≤n):Sy.bits .u64 (·||| ·) (x.toNat:Nat) ((1:Int)*2 ^ (min (Int.tmod n 64).toNat 64)) = .v (.int .u64 ((x ||| sI (n.toNat % 64)).toNat:Nat)):=by
 rw[Ag h];exact rp (·||| ·) x (sI _)
theorem PL {x:UInt64} {n:Int} (h:0≤n):IntKind.u64.wrap ((BitVec.ofInt 64 (x.toNat:Nat) ||| BitVec.ofInt 64 ((1:Int)*2 ^ (min (Int.tmod n 64).toNat 64))).toNat:Nat)=((x ||| sI (n.toNat % 64)).toNat:Nat):=by
 have:=Sz (x:=x) h;exact (Value.int.inj (SV.v.inj this)).2
theorem BH {w:Nat} {u:Wd} {n:Int} (h0:0≤n) (h1:n<(w:Int)):(aV u).set (n.toNat / 64) [.int .u64 (IntKind.u64.wrap ((BitVec.ofInt 64 ((u[n.toNat / 64]?.getD 0).toNat:Nat) ||| BitVec.ofInt 64 ((1:Int)*2 ^ (min (Int.tmod n 64).toNat 64))).toNat:Nat))]=aV (iD w u n):=by
 rw[PL h0,jo _ _ (UInt64.toNat_lt _),iD,if_pos ⟨h0,h1⟩,rm,UInt64.ofNat_toNat]
theorem bo {w:Nat} (hw:w≤1024) {l:List Int} {a:Option Addr} {n c:Nat} (ha:RL H a n c l) (hK:∀a1 n1 c1 H',Le H H'→RL H' a1 n1 c1 (Hb w l)→K (.slice a1 n1 c1) H'):
  aq prog 99 [.int .i64 (w:Nat),.slice a n c] H K:=by
 have dd:=ha.aB;have eI:=ha.le
 have cN:aU w≤16:=by unfold aU;omega
 refine ab af aa rfl func99 call99 ntmps99 results99 rfl rfl ?_;refine kU hw ?_;refine⟨⟨rfl,by omega,by show (aU w:Int)*8≤_;omega,by omega⟩,?_⟩
 refine⟨Nat×Wd,fun z=>⟨[(0,.v (.int .i64 (w:Nat))),(5,.own 0),(11,.v (.slice a n c)),(12,.v (.int .i64 n)),(13,.v (.int .i64 z.1))],[(0,.row 126 1 (aV z.2))],1⟩,
  fun z H'=>H'=H∧z.1≤l.length∧z.2=(l.take z.1).foldl (iD w) (dn w),fun z=>l.length - z.1,⟨(0,dn w),[(0,0)],?_,rfl,Nat.zero_le _,rfl⟩,?_⟩
 ·have e:List.replicate ((aU w:Nat):Int).toNat [Value.int .u64 0]=aV (dn w):=by rw[dn,aV,List.map_replicate];rfl
  (repeat' first|exact trivial|refine⟨?_,?_⟩|exact rfl|assumption)
 rintro⟨i,u⟩ H1 _ ⟨rfl,hi,hu⟩;dsimp only at hi hu
 have Iy:u.length=aU w:=by rw[hu];exact (mV _ _ (ek w).1).1
 refine⟨fun h=>?_,fun h=>?_⟩
 ·have aj:i<l.length:=by have:=dt h;dsimp only at this;omega
  have bc:(l.take (i+1)).foldl (iD w) (dn w)=iD w u l[i]:=by
   rw[List.take_add_one,aL aj,Option.toList_some,List.foldl_append,←hu];rfl
  refine xo ha (aL aj) fun ad e1 hh=>?_
  refine⟨ad,⟨by dsimp only;omega,by dsimp only;omega,e1⟩,?_⟩;refine⟨_,hh,?_⟩;refine⟨fun h=>?_,fun h=>?_⟩
  ·have h0:0≤l[i]:=dt h;refine ud hw ?_;refine⟨fun h=>?_,fun h=>?_⟩
   ·have h1:l[i]<(w:Int):=dt h
    have h2:Int.tdiv l[i] 64=(l[i].toNat / 64:Nat):=by rw[Int.tdiv_eq_ediv_of_nonneg h0];omega
    have h3:l[i].toNat / 64<u.length:=by rw[Iy,aU];omega
    have e:=BH (u:=u) h0 h1;refine⟨some ([0],[0,1,2,3,4,5,6,7,8,9,10]),by kernel_rfl,?_⟩;refine⟨by decide,⟨by rw[h2];omega,by rw[h2];omega⟩,?_⟩;rw[h2];refine⟨⟨by omega,by rw[bn];dsimp only;omega⟩,?_⟩;refine⟨_,cK (v:=u) (i:=(l[i].toNat / 64:Nat)) (by omega) (by omega),?_⟩;refine⟨by decide,?_⟩;refine⟨sM h0,nX h0,?_⟩;refine⟨⟨by omega,by rw[bn];dsimp only;omega⟩,?_⟩;refine⟨_,cK (v:=u) (i:=(l[i].toNat / 64:Nat)) (by omega) (by omega),?_⟩;refine⟨⟨by dsimp only;omega,by dsimp only;omega⟩,(i+1,iD w u l[i]),[(0,0)],?_,⟨rfl,aj,bc.symm⟩,by dsimp only;omega⟩
    (repeat' first|exact trivial|refine⟨?_,?_⟩|exact rfl|assumption)
   ·have h1:¬l[i]<(w:Int):=df h;have e:iD w u l[i]=u:=if_neg (fun h=>h1 h.2);refine⟨⟨by dsimp only;omega,by dsimp only;omega⟩,(i+1,u),[(0,0)],?_,⟨rfl,aj,by rw[bc,e]⟩,by dsimp only;omega⟩
    (repeat' first|exact trivial|refine⟨?_,?_⟩|exact rfl|assumption)
  ·have h1:¬0≤l[i]:=df h;have e:iD w u l[i]=u:=if_neg (fun h=>h1 h.1);refine⟨⟨by dsimp only;omega,by dsimp only;omega⟩,(i+1,u),[(0,0)],?_,⟨rfl,aj,by rw[bc,e]⟩,by dsimp only;omega⟩
   (repeat' first|exact trivial|refine⟨?_,?_⟩|exact rfl|assumption)
 ·have aX:i=l.length:=by have:=df h;dsimp only at this;omega
  rw[aX,List.take_length]at hu;intro v H6 aI cZ;dsimp only at cZ;obtain⟨a7,n7,c7,rfl,dz⟩:=RL.aC (α:=UInt64) cZ jJ;refine hK _ _ _ _ aI.le ?_
  rw[Hb,←hu];exact dz
end Go.Proofs
end
section
namespace Go.Proofs
open Go.Sy
open Tryz
variable {H:Hp} {K:Value→Hp→Prop}
theorem x8 {w:Nat} (hw:w≤1024) (hK:∀a1 n1 c1 H',Le H H'→RL H' a1 n1 c1 (sK w)→K (.slice a1 n1 c1) H'):
  aq prog 219 [.int .i64 (w:Nat)] H K:=by
 have cN:aU w≤16:=by unfold aU;omega
 refine ab af aa rfl func219 call219 ntmps219 results219 rfl rfl ?_;refine kU hw ?_;refine⟨⟨rfl,by omega,by show (aU w:Int)*8≤_;omega,by omega⟩,?_⟩;refine ud hw ?_
 refine⟨Nat×Wd,fun z=>⟨[(3,.own 0),(9,.v (.int .i64 (w:Nat))),(10,.v (.int .i64 z.1))],[(0,.row 126 1 (aV z.2))],1⟩,
  fun z H'=>H'=H∧z.1≤w∧z.2=((List.range z.1).map fun i:Nat=>(i:Int)).foldl (iD w) (dn w),fun z=>w - z.1,⟨(0,dn w),[(0,0)],?_,rfl,Nat.zero_le _,rfl⟩,?_⟩
 ·have e:List.replicate ((aU w:Nat):Int).toNat [Value.int .u64 0]=aV (dn w):=by rw[dn,aV,List.map_replicate];rfl
  (repeat' first|exact trivial|refine⟨?_,?_⟩|exact rfl|assumption)
 rintro⟨i,u⟩ H1 _ ⟨rfl,hi,hu⟩;dsimp only at hi hu
 have Iy:u.length=aU w:=by rw[hu];exact (mV _ _ (ek w).1).1
 refine⟨fun h=>?_,fun h=>?_⟩
 ·have aj:i<w:=by have:=dt h;dsimp only at this;omega
  have bc:((List.range (i+1)).map fun i:Nat=>(i:Int)).foldl (iD w) (dn w)=iD w u (i:Nat):=by
   rw[List.range_succ,List.map_append,List.foldl_append,←hu];rfl
  have h0:(0:Int)≤(i:Nat):=by omega
  have h1:((i:Nat):Int)<(w:Int):=by omega
  have h2:Int.tdiv (i:Nat) 64=(((i:Nat):Int).toNat / 64:Nat):=by rw[Int.tdiv_eq_ediv_of_nonneg h0];omega
  have h3:((i:Nat):Int).toNat / 64<u.length:=by rw[Iy,aU];omega
  have e:=BH (u:=u) h0 h1;refine⟨some ([0],[0,1,2,3,4,5,6,7,8,9,10]),by kernel_rfl,?_⟩;refine⟨by decide,⟨by rw[h2];omega,by rw[h2];omega⟩,?_⟩;rw[h2];refine⟨⟨by omega,by rw[bn];dsimp only;omega⟩,?_⟩;refine⟨_,cK (v:=u) (i:=(((i:Nat):Int).toNat / 64:Nat)) (by omega) (by omega),?_⟩;refine⟨by decide,?_⟩;refine⟨sM h0,nX h0,?_⟩;refine⟨⟨by omega,by rw[bn];dsimp only;omega⟩,?_⟩;refine⟨_,cK (v:=u) (i:=(((i:Nat):Int).toNat / 64:Nat)) (by omega) (by omega),?_⟩;refine⟨⟨by dsimp only;omega,by dsimp only;omega⟩,(i+1,iD w u (i:Nat)),[(0,0)],?_,⟨rfl,aj,bc.symm⟩,by dsimp only;omega⟩
  (repeat' first|exact trivial|refine⟨?_,?_⟩|exact rfl|assumption)
 ·have aX:i=w:=by have:=df h;dsimp only at this;omega
  rw[aX]at hu;intro v H6 aI cZ;dsimp only at cZ;obtain⟨a7,n7,c7,rfl,dz⟩:=RL.aC (α:=UInt64) cZ jJ;refine hK _ _ _ _ aI.le ?_
  rw[sK,Hb,←hu];exact dz
theorem nY {l:Wd} {a:Option Addr} {n c:Nat} {i:Nat} {x:UInt64} (hi:l[i]?=some x) (ha:RL H a n c l) (hK:K (.int .u64 (x.toNat:Nat)) H):aq prog 250 [.slice a n c,.int .i64 (i:Nat)] H K:=by
 have dd:=ha.aB;have aj:=(gh.1 hi).1;refine ab af aa rfl func250 call250 ntmps250 results250 rfl rfl ?_;refine⟨(fun h=>absurd (dt h) (by omega)),fun _=>?_⟩
 refine dO ha hi fun ad q1 hh hr=>?_
 refine⟨ad,⟨by omega,by omega,q1⟩,?_⟩;refine⟨_,hh,?_⟩;exact hK
theorem Nu {x y:UInt64} (hK:K (.int .u64 ((x ||| y).toNat:Nat)) H):aq prog 208 [.int .u64 (x.toNat:Nat),.int .u64 (y.toNat:Nat)] H K:=by
 refine ab af aa rfl func208 call208 ntmps208 results208 rfl rfl ?_;exact cT hK (Value.int.inj (SV.v.inj (rp (·||| ·) x y))).2.symm
theorem Hc {x y:UInt64} (hK:K (.int .u64 ((x &&& ~~~y).toNat:Nat)) H):aq prog 209 [.int .u64 (x.toNat:Nat),.int .u64 (y.toNat:Nat)] H K:=by
 refine ab af aa rfl func209 call209 ntmps209 results209 rfl rfl ?_;exact cT hK (Value.int.inj (SV.v.inj (rp (fun a b=>a &&& ~~~b) x y))).2.symm
theorem qf {f:UInt64→UInt64→UInt64} {a b:Wd} {i:Nat} {x y:UInt64} (hx:a[i]?=some x) (hy:b[i]?=some y):aV ((List.zipWith f a b).take (i+1))=aV ((List.zipWith f a b).take i)++[[.int .u64 ((f x y).toNat:Nat)]]:=by
 have h:(List.zipWith f a b)[i]?=some (f x y):=by rw[List.getElem?_zipWith,hx,hy]
 rw[List.take_add_one,h,Option.toList_some,aV,List.map_append];rfl
theorem EE {w:Nat} (hw:w≤1024) {x y:Wd} (hx:x.length=aU w) (hy:y.length=aU w) {a a2:Option Addr} {n c n2 k2:Nat} {H:Hp} {K:SV→St→Hp→Prop} (ha:RL H a n c x) (hb:RL H a2 n2 k2 y) (hK:K (.own 0) ⟨[],[(0,.row 126 1 (aV (vW x y)))],1⟩ H):
  aY prog 207 [.v (.slice a n c),.v (.slice a2 n2 k2),.fn 208 []] [] 0 H K:=by
 have dd:=ha.aB;have lv:=hb.aB
 have cN:aU w≤16:=by unfold aU;omega
 refine aJ af aa func207 call207 ntmps207 results207 rfl rfl ?_
 have hm:max ((n:Nat):Int) (n2:Nat)=(n:Nat):=by omega
 refine⟨Nat,fun i=>⟨[(0,.v (.slice a n c)),(1,.v (.slice a2 n2 k2)),(2,.fn 208 []),(7,.own 0),(13,.v (.int .i64 (n:Nat))),(14,.v (.int .i64 i))],[(0,.row 126 1 (aV ((vW x y).take i)))],1⟩,
  fun i H'=>H'=H∧i≤n,fun i=>n - i,⟨0,[],?_,rfl,Nat.zero_le _⟩,?_⟩
 ·have e:SV.v (.int .i64 (max ((n:Nat):Int) (n2:Nat)))=SV.v (.int .i64 (n:Nat)):=by rw[hm]
  (repeat' first|exact trivial|refine⟨?_,?_⟩|exact rfl|assumption)
 rintro i H1 _ ⟨rfl,hi⟩
 have rO:(aV ((vW x y).take i)).length=i:=by rw[bn,List.length_take,vW,List.length_zipWith];omega
 refine⟨fun h=>?_,fun h=>?_⟩
 ·have aj:i<n:=by have:=dt h;omega
  have ex:x[i]?=some (x[i]'(by omega)):=aL _;have ey:y[i]?=some (y[i]'(by omega)):=aL _;refine nY ex ha ?_;refine nY ey hb ?_;refine Nu ?_;refine⟨⟨by show (_+1)*8≤140737488355328;rw[rO];omega,by show _+1≤9223372036854775807;rw[rO];omega⟩,?_⟩;have e:=(qf (f:=(fun x y=>x ||| y)) ex ey).symm;refine⟨⟨by omega,by omega⟩,i+1,[(0,2)],?_,⟨rfl,aj⟩,by dsimp only;omega⟩
  (repeat' first|exact trivial|refine⟨?_,?_⟩|exact rfl|assumption)
 ·have aX:i=n:=by have:=df h;omega
  have e:(vW x y).take i=vW x y:=List.take_of_length_le (by rw[vW,List.length_zipWith];omega);rw[e];exact⟨.own 0,[(0,.row 126 1 (aV (vW x y)))],1,[(0,0)],by (repeat' first|exact trivial|refine⟨?_,?_⟩|exact rfl|assumption),hK⟩
theorem ix {w:Nat} (hw:w≤1024) {x y:Wd} (hx:x.length=aU w) (hy:y.length=aU w) {a a2:Option Addr} {n c n2 k2:Nat} (ha:RL H a n c x) (hb:RL H a2 n2 k2 y) (hK:∀a1 n1 c1 H',Le H H'→RL H' a1 n1 c1 (vW x y)→K (.slice a1 n1 c1) H'):
  aq prog 152 [.slice a n c,.slice a2 n2 k2] H K:=by
 refine ab af aa rfl func152 call152 ntmps152 results152 rfl rfl ?_;refine⟨[],rfl,EE hw hx hy ha hb ?_⟩;intro v H6 aI cZ;obtain⟨a7,n7,c7,rfl,dz⟩:=RL.aC (α:=UInt64) cZ jJ;exact hK _ _ _ _ aI.le dz
theorem yG {w:Nat} (hw:w≤1024) {x y:Wd} (hx:x.length=aU w) (hy:y.length=aU w) {a a2:Option Addr} {n c n2 k2:Nat} {H:Hp} {K:SV→St→Hp→Prop} (ha:RL H a n c x) (hb:RL H a2 n2 k2 y) (hK:K (.own 0) ⟨[],[(0,.row 126 1 (aV (iw x y)))],1⟩ H):
  aY prog 207 [.v (.slice a n c),.v (.slice a2 n2 k2),.fn 209 []] [] 0 H K:=by
 have dd:=ha.aB;have lv:=hb.aB
 have cN:aU w≤16:=by unfold aU;omega
 refine aJ af aa func207 call207 ntmps207 results207 rfl rfl ?_
 have hm:max ((n:Nat):Int) (n2:Nat)=(n:Nat):=by omega
 refine⟨Nat,fun i=>⟨[(0,.v (.slice a n c)),(1,.v (.slice a2 n2 k2)),(2,.fn 209 []),(7,.own 0),(13,.v (.int .i64 (n:Nat))),(14,.v (.int .i64 i))],[(0,.row 126 1 (aV ((iw x y).take i)))],1⟩,
  fun i H'=>H'=H∧i≤n,fun i=>n - i,⟨0,[],?_,rfl,Nat.zero_le _⟩,?_⟩
 ·have e:SV.v (.int .i64 (max ((n:Nat):Int) (n2:Nat)))=SV.v (.int .i64 (n:Nat)):=by rw[hm]
  (repeat' first|exact trivial|refine⟨?_,?_⟩|exact rfl|assumption)
 rintro i H1 _ ⟨rfl,hi⟩
 have rO:(aV ((iw x y).take i)).length=i:=by rw[bn,List.length_take,iw,List.length_zipWith];omega
 refine⟨fun h=>?_,fun h=>?_⟩
 ·have aj:i<n:=by have:=dt h;omega
  have ex:x[i]?=some (x[i]'(by omega)):=aL _;have ey:y[i]?=some (y[i]'(by omega)):=aL _;refine nY ex ha ?_;refine nY ey hb ?_;refine Hc ?_;refine⟨⟨by show (_+1)*8≤140737488355328;rw[rO];omega,by show _+1≤9223372036854775807;rw[rO];omega⟩,?_⟩;have e:=(qf (f:=(fun x y=>x &&& ~~~y)) ex ey).symm;refine⟨⟨by omega,by omega⟩,i+1,[(0,2)],?_,⟨rfl,aj⟩,by dsimp only;omega⟩
  (repeat' first|exact trivial|refine⟨?_,?_⟩|exact rfl|assumption)
 ·have aX:i=n:=by have:=df h;omega
  have e:(iw x y).take i=iw x y:=List.take_of_length_le (by rw[iw,List.length_zipWith];omega);rw[e];exact⟨.own 0,[(0,.row 126 1 (aV (iw x y)))],1,[(0,0)],by (repeat' first|exact trivial|refine⟨?_,?_⟩|exact rfl|assumption),hK⟩
theorem jO {w:Nat} (hw:w≤1024) {x y:Wd} (hx:x.length=aU w) (hy:y.length=aU w) {a a2:Option Addr} {n c n2 k2:Nat} (ha:RL H a n c x) (hb:RL H a2 n2 k2 y) (hK:∀a1 n1 c1 H',Le H H'→RL H' a1 n1 c1 (iw x y)→K (.slice a1 n1 c1) H'):
  aq prog 153 [.slice a n c,.slice a2 n2 k2] H K:=by
 refine ab af aa rfl func153 call153 ntmps153 results153 rfl rfl ?_;refine⟨[],rfl,yG hw hx hy ha hb ?_⟩;intro v H6 aI cZ;obtain⟨a7,n7,c7,rfl,dz⟩:=RL.aC (α:=UInt64) cZ jJ;exact hK _ _ _ _ aI.le dz
end Go.Proofs
end
section
namespace Go.Proofs
open Go.Sy
open Tryz
variable {H:Hp} {K:Value→Hp→Prop}
theorem Hd (hK:K (.int .i64 0) H):aq prog 336 [.int .u64 0] H K:=by
 refine ab af aa rfl func336 call336 ntmps336 results336 rfl rfl ?_
 repeat' (first | exact cT hK (by decide) | refine⟨by decide,?_⟩ | refine⟨⟨by decide,by decide⟩,?_⟩)
theorem He {w:Nat} (hw:w≤1024) {a:Option Addr} {n c:Nat} (ha:RL H a n c (dn w)) (hK:K (.int .i64 0) H):aq prog 332 [.slice a n c] H K:=by
 have dd:=ha.aB;rw[(ek w).1]at dd
 have cN:aU w≤16:=by unfold aU;omega
 refine ab af aa rfl func332 call332 ntmps332 results332 rfl rfl ?_
 refine⟨Nat,fun i=>⟨[(3,.v (.int .i64 0)),(6,.v (.slice a n c)),(7,.v (.int .i64 n)),(8,.v (.int .i64 i))],[],0⟩,
  fun i H'=>H'=H∧i≤n,fun i=>n - i,⟨0,[],?_,rfl,Nat.zero_le _⟩,?_⟩
 ·(repeat' first|exact trivial|refine⟨?_,?_⟩|exact rfl|assumption)
 rintro i H1 _ ⟨rfl,hi⟩;refine⟨fun h=>?_,fun h=>?_⟩
 ·have aj:i<n:=by have:=dt h;omega
  have ex:(dn w)[i]?=some 0:=by rw[dn,List.getElem?_replicate,if_pos (by omega)]
  refine dO ha ex fun ad q1 hh hr=>?_
  refine⟨ad,⟨by omega,by omega,q1⟩,?_⟩;refine⟨_,hh,?_⟩;refine Hd ?_;refine⟨⟨by decide,by decide⟩,?_⟩;refine⟨⟨by omega,by omega⟩,i+1,[],?_,⟨rfl,aj⟩,by dsimp only;omega⟩
  (repeat' first|exact trivial|refine⟨?_,?_⟩|exact rfl|assumption)
 ·exact hK
theorem BI {w:Nat} (hw:w≤1024) {x y:Wd} (hx:okB w x) (hy:y=sK w) {a a2:Option Addr} {n c n2 k2:Nat} (ha:RL H a n c x) (hb:RL H a2 n2 k2 y) (hK:∀H',Le H H'→K (.bool true) H'):
  aq prog 309 [.slice a n c,.slice a2 n2 k2] H K:=by
 subst hy;refine ab af aa rfl func309 call309 ntmps309 results309 rfl rfl ?_
 refine jO hw hx.1 (sL w).1 ha hb fun a1 n1 c1 H1 ak bh=>?_
 rw[KB hx]at bh;refine He hw bh ?_;exact hK _ ak
theorem kV {w:Nat} (hw:w≤1024) {x:Wd} (hx:okB w x) {a:Option Addr} {n c:Nat} (ha:RL H a n c x) (hK:∀H',Le H H'→K (.bool true) H'):aq prog 256 [.slice a n c,.int .i64 (w:Nat)] H K:=by
 have dd:=ha.aB;rw[hx.1]at dd;refine ab af aa rfl func256 call256 ntmps256 results256 rfl rfl ?_;refine kU hw ?_;refine⟨fun _=>?_,(fun h=>absurd (by rw[dd]) (df h))⟩
 refine x8 hw fun a1 n1 c1 H1 ak bh=>?_
 refine BI hw hx rfl (ha.up ak) bh fun H2 ah=>?_
 exact hK _ ak
theorem qA {w:Nat} (hw:w≤1024) (hK:K (.int .i64 (w:Nat)) H):aq prog 326 [.int .i64 (w:Nat)] H K:=by
 refine ab af aa rfl func326 call326 ntmps326 results326 rfl rfl ?_;exact cT hK (by omega)
theorem sN {w:Nat} (hw:w≤1024) (hK:K (.int .i64 (aU w:Nat)) H):aq prog 325 [.int .i64 (w:Nat)] H K:=by
 refine ab af aa rfl func325 call325 ntmps325 results325 rfl rfl ?_;refine qA hw ?_
 have e:((w:Int)+63).tdiv 64=(aU w:Nat):=by rw[Int.tdiv_eq_ediv_of_nonneg (by omega),aU];omega
 have hs:aU w≤16:=by unfold aU;omega
 refine⟨⟨by omega,by omega⟩,?_⟩;refine⟨by decide,⟨by rw[e];omega,by rw[e];omega⟩,?_⟩;exact cT hK e.symm
theorem PM (x:UInt64) {n:Int} (h:0≤n):IntKind.u64.wrap ((BitVec.ofInt 64 (Int.fdiv (x.toNat:Nat) (2 ^ (min (Int.tmod n 64).toNat 64))) &&& BitVec.ofInt 64 1).toNat:Nat)=(if x.toNat.testBit (n.toNat % 64) then 1 else 0):=by
 have e:(Int.tmod n 64).toNat=n.toNat % 64:=by rw[Int.tmod_eq_emod_of_nonneg h];omega
 have hp:(2:Int) ^ (n.toNat % 64)=((2 ^ (n.toNat % 64):Nat):Int):=by push_cast;rfl
 have hd:Int.fdiv (x.toNat:Nat) (((2 ^ (n.toNat % 64):Nat):Int))=((x.toNat / 2 ^ (n.toNat % 64):Nat):Int):=by
  rw[Int.fdiv_eq_ediv_of_nonneg _ (Int.natCast_nonneg _)];rfl
 have hx:=x.toNat_lt;have h1:x.toNat / 2 ^ (n.toNat % 64)<2 ^ 64:=Nat.lt_of_le_of_lt (Nat.div_le_self _ _) hx;rw[e,Nat.min_eq_left (by omega),hp,hd,IntKind.wrap_u64]
 have h2:(BitVec.ofInt 64 ((x.toNat / 2 ^ (n.toNat % 64):Nat):Int) &&& BitVec.ofInt 64 1).toNat=x.toNat / 2 ^ (n.toNat % 64) % 2:=by
  rw[BitVec.toNat_and,BitVec.ofInt_natCast,BitVec.toNat_ofNat,Nat.mod_eq_of_lt h1];exact Nat.and_one_is_mod _
 rw[h2,Nat.testBit_eq_decide_div_mod_eq]
 by_cases h3:x.toNat / 2 ^ (n.toNat % 64) % 2=1
 ·rw[h3];simp
 ·have h4:x.toNat / 2 ^ (n.toNat % 64) % 2=0:=by omega
  rw[h4];simp
theorem pB {l:Wd} {a:Option Addr} {n c:Nat} {i:Nat} (hi:i≤1000000) (ha:RL H a n c l) (hK:K (.bool (aM l i)) H):aq prog 244 [.slice a n c,.int .i64 (i:Nat)] H K:=by
 have dd:=ha.aB
 have h0:(0:Int)≤(i:Nat):=by omega
 have h2:Int.tdiv (i:Nat) 64=(i / 64:Nat):=by rw[Int.tdiv_eq_ediv_of_nonneg h0];omega
 have hle:=ha.le;refine ab af aa rfl func244 call244 ntmps244 results244 rfl rfl ?_;refine⟨fun _=>?_,(fun h=>absurd h0 (df h))⟩;refine⟨by decide,⟨by rw[h2];omega,by rw[h2];omega⟩,?_⟩;rw[h2];refine⟨fun h=>?_,fun h=>?_⟩
 ·have aj:i / 64<l.length:=by have:=dt h;omega
  refine⟨by decide,⟨by rw[h2];omega,by rw[h2];omega⟩,?_⟩;rw[h2]
  refine dO ha (aL aj) fun ad q1 hh hr=>?_
  refine⟨ad,⟨by omega,by omega,q1⟩,?_⟩;refine⟨_,hh,?_⟩;refine⟨by decide,?_⟩;refine⟨sM h0,?_⟩;have hb:=PM l[i / 64] h0;refine aA hK (Eq.symm ?_)
  have hv:aM l i=l[i / 64].toNat.testBit (i % 64):=by rw[aM,aL aj];rfl
  rw[hv];refine (congrArg (fun z:Int=>decide (z=1)) hb).trans ?_;show decide ((if l[i / 64].toNat.testBit (i % 64) then (1:Int) else 0)=1)=_
  cases l[i / 64].toNat.testBit (i % 64)<;>rfl
 ·have aj:¬i / 64<l.length:=by have:=df h;omega
  have e:aM l i=false:=kA (by omega);rw[e]at hK;exact hK
end Go.Proofs
end
section
namespace Go.Proofs
open Go.Sy
open Tryz
variable {H:Hp} {K:Value→Hp→Prop}
noncomputable def ZE:Cx:={ P:=prog,tt:=tt,n:=0,wrap:=false,base:=0,gf:=245::cx.gf,eqs:=cx.eqs,xf:=[] }
theorem Nv:eH ZE:=⟨af.tt,af.eqs⟩
theorem jx {w:Nat} (hw:w≤1024) {u:Wd} (Iy:u.length=aU w) {k:Int} (h0:0≤k) (h1:k<(w:Int)) {H:Hp} {K:SV→St→Hp→Prop} (hK:K (.own 1) ⟨[],[(1,.row 126 1 (aV (iD w u k)))],2⟩ H):
  aY prog 245 [.own 0,.v (.int .i64 k)] [(0,.row 126 1 (aV u))] 1 H K:=by
 have cN:aU w≤16:=by unfold aU;omega
 have h2:Int.tdiv k 64=(k.toNat / 64:Nat):=by rw[Int.tdiv_eq_ediv_of_nonneg h0];omega
 have h3:k.toNat / 64<u.length:=by rw[Iy,aU];omega
 have e:=BH (u:=u) h0 h1;refine aJ af aa func245 call245 ntmps245 results245 rfl rfl ?_;refine⟨⟨by show (0+(aV u).length)*8≤140737488355328;rw[bn];omega,by show 0+(aV u).length≤9223372036854775807;rw[bn];omega⟩,?_⟩;refine⟨some ([0,1,2],[0,1,2,3,4,5,6,7,8,9,10,11,12,13]),by kernel_rfl,?_⟩;refine⟨by decide,⟨by rw[h2];omega,by rw[h2];omega⟩,?_⟩;rw[h2];refine⟨by decide,⟨by rw[h2];omega,by rw[h2];omega⟩,?_⟩;rw[h2];refine⟨⟨by omega,by show _<(((aV u).length:Nat):Int);rw[bn];omega⟩,?_⟩;refine⟨_,cK (v:=u) (i:=(k.toNat / 64:Nat)) (by omega) (by omega),?_⟩;refine⟨by decide,?_⟩;refine⟨sM h0,nX h0,?_⟩;refine⟨⟨by omega,by show _<(((aV u).length:Nat):Int);rw[bn];omega⟩,?_⟩;refine⟨_,cK (v:=u) (i:=(k.toNat / 64:Nat)) (by omega) (by omega),?_⟩;exact⟨.own 1,[(1,.row 126 1 (aV (iD w u k)))],2,[(1,2)],by (repeat' first|exact trivial|refine⟨?_,?_⟩|exact rfl|assumption),hK⟩
theorem bt {w:Nat} (hw:w≤1024) {l:List Int} {a:Option Addr} {n c:Nat} (ha:RL H a n c l) (hK:∀a1 n1 c1 H',Le H H'→RL H' a1 n1 c1 (Hb w l)→K (.slice a1 n1 c1) H'):
  aq prog 293 [.int .i64 (w:Nat),.slice a n c] H K:=by
 have dd:=ha.aB;have eI:=ha.le
 have cN:aU w≤16:=by unfold aU;omega
 refine ab Nv aa rfl func293 call293 ntmps293 results293 rfl rfl ?_;refine sN hw ?_;refine⟨⟨rfl,by omega,by show (aU w:Int)*8≤_;omega,by omega⟩,?_⟩
 refine⟨Nat×Wd,fun z=>⟨[(0,.v (.int .i64 (w:Nat))),(5,.own 0),(11,.v (.slice a n c)),(12,.v (.int .i64 n)),(13,.v (.int .i64 z.1))],[(0,.row 126 1 (aV z.2))],1⟩,
  fun z H'=>H'=H∧z.1≤l.length∧z.2=(l.take z.1).foldl (iD w) (dn w),fun z=>l.length - z.1,⟨(0,dn w),[(0,0)],?_,rfl,Nat.zero_le _,rfl⟩,?_⟩
 ·have e:List.replicate ((aU w:Nat):Int).toNat [Value.int .u64 0]=aV (dn w):=by rw[dn,aV,List.map_replicate];rfl
  (repeat' first|exact trivial|refine⟨?_,?_⟩|exact rfl|assumption)
 rintro⟨i,u⟩ H1 _ ⟨rfl,hi,hu⟩;dsimp only at hi hu
 have Iy:u.length=aU w:=by rw[hu];exact (mV _ _ (ek w).1).1
 refine⟨fun h=>?_,fun h=>?_⟩
 ·have aj:i<l.length:=by have:=dt h;dsimp only at this;omega
  have bc:(l.take (i+1)).foldl (iD w) (dn w)=iD w u l[i]:=by
   rw[List.take_add_one,aL aj,Option.toList_some,List.foldl_append,←hu];rfl
  refine xo ha (aL aj) fun ad e1 hh=>?_
  refine⟨ad,⟨by dsimp only;omega,by dsimp only;omega,e1⟩,?_⟩;refine⟨_,hh,?_⟩;refine⟨fun h=>?_,fun h=>?_⟩
  ·have h0:0≤l[i]:=dt h;refine qA hw ?_;refine⟨fun h=>?_,fun h=>?_⟩
   ·have h1:l[i]<(w:Int):=dt h;refine⟨[0],rfl,jx hw Iy h0 h1 ?_⟩;refine⟨⟨by dsimp only;omega,by dsimp only;omega⟩,(i+1,iD w u l[i]),[(0,1)],?_,⟨rfl,aj,bc.symm⟩,by dsimp only;omega⟩
    (repeat' first|exact trivial|refine⟨?_,?_⟩|exact rfl|assumption)
   ·have h1:¬l[i]<(w:Int):=df h;have e:iD w u l[i]=u:=if_neg (fun h=>h1 h.2);refine⟨⟨by dsimp only;omega,by dsimp only;omega⟩,(i+1,u),[(0,0)],?_,⟨rfl,aj,by rw[bc,e]⟩,by dsimp only;omega⟩
    (repeat' first|exact trivial|refine⟨?_,?_⟩|exact rfl|assumption)
  ·have h1:¬0≤l[i]:=df h;have e:iD w u l[i]=u:=if_neg (fun h=>h1 h.1);refine⟨⟨by dsimp only;omega,by dsimp only;omega⟩,(i+1,u),[(0,0)],?_,⟨rfl,aj,by rw[bc,e]⟩,by dsimp only;omega⟩
   (repeat' first|exact trivial|refine⟨?_,?_⟩|exact rfl|assumption)
 ·have aX:i=l.length:=by have:=df h;dsimp only at this;omega
  rw[aX,List.take_length]at hu;intro v H6 aI cZ;dsimp only at cZ;obtain⟨a7,n7,c7,rfl,dz⟩:=RL.aC (α:=UInt64) cZ jJ;refine hK _ _ _ _ aI.le ?_
  rw[Hb,←hu];exact dz
theorem sO {how:Nat} {f:UInt64→UInt64→UInt64} {g:Bool→Bool→Bool} (hf:∀x y k,(f x y).toNat.testBit k=g (x.toNat.testBit k) (y.toNat.testBit k)) (hg:g false false=false) (hh:(how=1∧g=fun x y=>x||y)∨(how=3∧g=fun x y=>x&&!y)) {w:Nat} (hw:w≤1024) {x y:Wd} (hx:x.length=aU w) (hy:y.length=aU w) {a a2:Option Addr} {n c n2 k2:Nat} (ha:RL H a n c x) (hb:RL H a2 n2 k2 y) (hK:∀a1 n1 c1 H',Le H H'→RL H' a1 n1 c1 (List.zipWith f x y)→K (.slice a1 n1 c1) H'):
  aq prog 194 [.slice a n c,.slice a2 n2 k2,.int .i64 (how:Nat)] H K:=by
 have dd:=ha.aB;have lv:=hb.aB
 have cN:aU w≤16:=by unfold aU;omega
 have hm:max ((n:Nat):Int) (n2:Nat)=(n:Nat):=by omega
 rw[←Nt hf hg (hx.trans hy.symm)]at hK;refine ab Nv aa rfl func194 call194 ntmps194 results194 rfl rfl ?_
 have e:List.replicate (max ((n:Nat):Int) (n2:Nat)).toNat [Value.int .u64 0]=aV (List.replicate x.length 0):=by rw[hm,dd,aV,List.map_replicate];rfl
 refine⟨⟨rfl,by omega,by show (max ((n:Nat):Int) (n2:Nat))*8≤_;omega,by omega⟩,?_⟩
 refine⟨Nat×Wd,fun z=>⟨[(0,.v (.slice a n c)),(1,.v (.slice a2 n2 k2)),(2,.v (.int .i64 (how:Nat))),(7,.own 0),(8,.v (.int .i64 z.1))],[(0,.row 126 1 (aV z.2))],1⟩,
  fun z H'=>H'=H∧z.1≤64*x.length∧z.2=kf g x y z.1 (List.replicate x.length 0),fun z=>64*x.length - z.1,⟨(0,List.replicate x.length 0),[(0,0)],?_,rfl,Nat.zero_le _,rfl⟩,?_⟩
 ·(repeat' first|exact trivial|refine⟨?_,?_⟩|exact rfl|assumption)
 rintro⟨i,u⟩ H1 _ ⟨rfl,hi,hu⟩;dsimp only at hi hu;have rO:(List.replicate x.length (0:UInt64)).length=x.length:=List.length_replicate
 have Iy:u.length=x.length:=by rw[hu];exact (uc (nW _) i (by rw[rO];exact hi)).1.trans rO
 have Ro:(aV u).length=n:=by rw[bn,Iy,dd]
 refine⟨⟨by dsimp only;omega,by dsimp only;omega⟩,?_⟩;refine⟨fun h=>?_,fun h=>?_⟩
 ·have aj:i<64*x.length:=by have:=dt h;dsimp only at this;rw[Ro]at this;omega
  have h0:(0:Int)≤(i:Nat):=by omega
  have bc:kf g x y (i+1) (List.replicate x.length 0)=if g (aM x i) (aM y i) then rm u i else u:=by
   rw[x7,←hu]
  refine pB (by omega) ha ?_;refine pB (by omega) hb ?_
  have j1:u.length=aU (64*x.length):=by rw[Iy,aU];omega
  have h1:((i:Nat):Int)<((64*x.length:Nat):Int):=by omega
  have WU:iD (64*x.length) u (i:Nat)=rm u i:=by rw[iD,if_pos ⟨h0,h1⟩];rfl
  rcases hh with ⟨rfl,rfl⟩ | ⟨rfl,rfl⟩
  ·refine⟨fun _=>?_,(fun h=>absurd rfl (df h))⟩;refine⟨fun h=>?_,fun h=>?_⟩
   ·have zd:aM x i=false:=h;refine⟨fun h=>?_,fun h=>?_⟩
    ·have kk:kf (fun x y=>x||y) x y (i+1) (List.replicate x.length 0)=u:=by rw[bc];simp [zd,show aM y i=false from h]
     refine⟨fun h=>absurd (dt h) (by decide),fun _=>?_⟩;refine⟨fun h=>absurd (dt h) (by decide),fun _=>?_⟩;refine⟨⟨by dsimp only;omega,by dsimp only;omega⟩,(i+1,u),[(0,0)],?_,⟨rfl,aj,kk.symm⟩,by dsimp only;omega⟩
     (repeat' first|exact trivial|refine⟨?_,?_⟩|exact rfl|assumption)
    ·have kk:kf (fun x y=>x||y) x y (i+1) (List.replicate x.length 0)=rm u i:=by rw[bc];simp [zd,show aM y i=true from h]
     refine⟨[0],rfl,jx (w:=64*x.length) (by omega) j1 h0 h1 ?_⟩;refine⟨⟨by dsimp only;omega,by dsimp only;omega⟩,(i+1,rm u i),[(0,1)],?_,⟨rfl,aj,kk.symm⟩,by dsimp only;omega⟩;rw[WU]
     (repeat' first|exact trivial|refine⟨?_,?_⟩|exact rfl|assumption)
   ·have kk:kf (fun x y=>x||y) x y (i+1) (List.replicate x.length 0)=rm u i:=by rw[bc];simp [show aM x i=true from h]
    refine⟨[0],rfl,jx (w:=64*x.length) (by omega) j1 h0 h1 ?_⟩;refine⟨⟨by dsimp only;omega,by dsimp only;omega⟩,(i+1,rm u i),[(0,1)],?_,⟨rfl,aj,kk.symm⟩,by dsimp only;omega⟩;rw[WU]
    (repeat' first|exact trivial|refine⟨?_,?_⟩|exact rfl|assumption)
  ·refine⟨fun h=>absurd (dt h) (by decide),fun _=>?_⟩;refine⟨fun h=>absurd (dt h) (by decide),fun _=>?_⟩;refine⟨fun _=>?_,(fun h=>absurd rfl (df h))⟩;refine⟨fun h=>?_,fun h=>?_⟩
   ·have zd:aM x i=true:=h;refine⟨fun h=>?_,fun h=>?_⟩
    ·have kk:kf (fun x y=>x&&!y) x y (i+1) (List.replicate x.length 0)=rm u i:=by rw[bc];simp [zd,show (!aM y i)=true from h]
     refine⟨[0],rfl,jx (w:=64*x.length) (by omega) j1 h0 h1 ?_⟩;refine⟨⟨by dsimp only;omega,by dsimp only;omega⟩,(i+1,rm u i),[(0,1)],?_,⟨rfl,aj,kk.symm⟩,by dsimp only;omega⟩;rw[WU]
     (repeat' first|exact trivial|refine⟨?_,?_⟩|exact rfl|assumption)
    ·have kk:kf (fun x y=>x&&!y) x y (i+1) (List.replicate x.length 0)=u:=by rw[bc];simp [zd,show (!aM y i)=false from h]
     refine⟨⟨by dsimp only;omega,by dsimp only;omega⟩,(i+1,u),[(0,0)],?_,⟨rfl,aj,kk.symm⟩,by dsimp only;omega⟩
     (repeat' first|exact trivial|refine⟨?_,?_⟩|exact rfl|assumption)
   ·have kk:kf (fun x y=>x&&!y) x y (i+1) (List.replicate x.length 0)=u:=by rw[bc];simp [show aM x i=false from h]
    refine⟨⟨by dsimp only;omega,by dsimp only;omega⟩,(i+1,u),[(0,0)],?_,⟨rfl,aj,kk.symm⟩,by dsimp only;omega⟩
    (repeat' first|exact trivial|refine⟨?_,?_⟩|exact rfl|assumption)
 ·have aX:i=64*x.length:=by have:=df h;dsimp only at this;rw[Ro]at this;omega
  rw[aX]at hu;intro v H6 aI cZ;dsimp only at cZ;obtain⟨a7,n7,c7,rfl,dz⟩:=RL.aC (α:=UInt64) cZ jJ;refine hK _ _ _ _ aI.le ?_
  rw[←hu];exact dz
end Go.Proofs
end
section
namespace Go.Proofs
namespace Bt
open Go.Sy
open Tryz
variable {H:Hp} {K:Value→Hp→Prop}
def uJ (wh:Nat) (x y:UInt64):UInt64:=if wh=1 then x ||| y else x &&& y
def jP (wh:Nat) (a b:Wd):Wd:=List.zipWith (uJ wh) a b
def rq (wh w:Nat):Wd:=if wh=2 then sK w else dn w
def Wh (wh:Nat):Prop:=wh=1∨wh=2
theorem BJ (wh w:Nat):okB w (rq wh w):=by
 unfold rq;split
 ·exact sL w
 ·exact ek w
theorem KC {wh:Nat} (h:wh≠1) (a b:Wd):jP wh a b=PJ a b:=by
 unfold jP PJ
 congr 1
 funext x y;rw[uJ,if_neg h]
theorem sP {wh w:Nat} {a b:Wd} (ha:okB w a) (hb:okB w b):okB w (jP wh a b):=by
 by_cases h:wh=1
 ·subst h;exact ub ha hb
 ·rw[KC h];exact PK ha hb
def yH (t:Wd×Wd) (x:Wd):Wd:=vW (iw x t.2) t.1
theorem BK {w:Nat} {t:Wd×Wd} (h1:okB w t.1) (h2:okB w t.2) {x:Wd} (hx:okB w x):okB w (yH t x):=ub (gQ hx h2) h1
theorem dE {wh n:Nat} (js:Wh wh) (hn:n≤1024) (hK:K (.bool true) H):aq prog 215 [.int .i64 (wh:Nat),.int .i64 (n:Nat)] H K:=by
 rcases js with rfl | rfl
 ·refine ab af aa rfl func215 call215 ntmps215 results215 rfl rfl ?_;refine⟨(fun h=>absurd h (by decide)),fun _=>?_⟩;refine⟨fun _=>?_,(fun h=>absurd (by omega) (df h))⟩;exact aA hK (by rw[decide_eq_true (by omega)])
 ·refine ab af aa rfl func215 call215 ntmps215 results215 rfl rfl ?_;refine⟨fun _=>?_,(fun h=>absurd h (by decide))⟩;refine⟨(fun h=>absurd h (by decide)),fun _=>?_⟩;refine⟨fun _=>?_,(fun h=>absurd (by omega) (df h))⟩;exact aA hK (by rw[decide_eq_true (by omega)])
theorem gN {wh n:Nat} (js:Wh wh) (hn:n≤1024) (hK:K (.int .i64 (aU n:Nat)) H):aq prog 220 [.int .i64 (wh:Nat),.int .i64 (n:Nat)] H K:=by
 have h:=js
 rcases h with rfl | rfl
 ·refine ab af aa rfl func220 call220 ntmps220 results220 rfl rfl ?_;refine dE js hn ?_;refine⟨(fun h=>by cases h),fun _=>?_⟩;refine⟨fun _=>?_,(fun h=>absurd h (by decide))⟩;exact kU hn hK
 ·refine ab af aa rfl func220 call220 ntmps220 results220 rfl rfl ?_;refine dE js hn ?_;refine⟨(fun h=>by cases h),fun _=>?_⟩;refine⟨(fun h=>absurd h (by decide)),fun _=>?_⟩;refine⟨fun _=>?_,(fun h=>absurd h (by decide))⟩;exact kU hn hK
theorem eM {wh n:Nat} (js:Wh wh) (hn:n≤1024) (hK:∀a n1 c H',Le H H'→RL H' a n1 c (rq wh n)→K (.slice a n1 c) H'):aq prog 159 [.int .i64 (wh:Nat),.int .i64 (n:Nat)] H K:=by
 have cN:aU n≤16:=by unfold aU;omega
 have h:=js
 rcases h with rfl | rfl
 ·refine ab af aa rfl func159 call159 ntmps159 results159 rfl rfl ?_;refine⟨(fun h=>absurd (dt h) (by decide)),fun _=>?_⟩;refine gN js hn ?_;refine⟨⟨rfl,by omega,by show (aU n:Int)*8≤_;omega,by omega⟩,?_⟩;intro v H1 ak hv
  have e:aW H1 v 1 ((dn n).map fun w=>[Value.int .u64 (w.toNat:Nat)]):=by
   rw[dn,List.map_replicate];exact hv
  obtain⟨a,n1,c,rfl,hr⟩:=RL.aC (α:=UInt64) e jJ;exact hK _ _ _ _ ak.le hr
 ·refine ab af aa rfl func159 call159 ntmps159 results159 rfl rfl ?_;refine⟨fun _=>?_,(fun h=>absurd rfl (df h))⟩;refine dE js hn ?_;refine⟨fun _=>?_,(fun h=>by cases h)⟩;refine x8 hn ?_;exact hK
theorem fM {wh n:Nat} (js:Wh wh) (hn:n≤1024) (hK:K (.int .i64 (n:Nat)) H):aq prog 157 [.int .i64 (wh:Nat),.int .i64 (n:Nat)] H K:=by
 refine ab af aa rfl func157 call157 ntmps157 results157 rfl rfl ?_;refine dE js hn ?_;refine⟨(fun h=>by cases h),fun _=>?_⟩;refine⟨fun h=>absurd (dt h) (by unfold Wh at js;omega),fun _=>?_⟩;exact hK
theorem dF {wh w:Nat} (js:Wh wh) (hw:w≤1024) {l:Wd} (hl:okB w l) {a:Option Addr} {n c:Nat} (ha:RL H a n c l) (hK:K (.bool true) H):aq prog 216 [.int .i64 (wh:Nat),.int .i64 (w:Nat),.slice a n c] H K:=by
 have dd:=ha.aB;have LS:=hl.1;refine ab af aa rfl func216 call216 ntmps216 results216 rfl rfl ?_;refine dE js hw ?_;refine⟨fun _=>?_,(fun h=>by cases h)⟩;refine gN js hw ?_;refine⟨(fun h=>absurd (by rw[dd,LS]) (nt h)),fun _=>?_⟩;refine⟨fun _=>?_,fun h=>absurd (nf h) (by unfold Wh at js;omega)⟩
 refine kV hw hl ha fun H1 ak=>?_
 exact hK
theorem nG {wh:Nat} (js:Wh wh) {x y:UInt64} (hK:K (.int .u64 ((uJ wh x y).toNat:Nat)) H):aq prog 255 [.int .i64 (wh:Nat),.int .u64 (x.toNat:Nat),.int .u64 (y.toNat:Nat)] H K:=by
 rcases js with rfl | rfl
 ·refine ab af aa rfl func255 call255 ntmps255 results255 rfl rfl ?_;refine⟨fun _=>?_,(fun h=>absurd rfl (df h))⟩;exact cT hK (Value.int.inj (SV.v.inj (rp (·||| ·) x y))).2.symm
 ·refine ab af aa rfl func255 call255 ntmps255 results255 rfl rfl ?_;refine⟨(fun h=>absurd (dt h) (by decide)),fun _=>?_⟩;refine⟨fun _=>?_,(fun h=>absurd rfl (df h))⟩;exact cT hK (Value.int.inj (SV.v.inj (rp (·&&& ·) x y))).2.symm
abbrev c2 (wh w:Nat):List (Nat×Bx):=[(0,.cells 3 [.v (.int .i64 (wh:Nat))]),(1,.cells 3 [.v (.int .i64 (w:Nat))])]
theorem tM {wh w:Nat} (js:Wh wh) (hw:w≤1024) {l:Wd} (hl:okB w l) {a:Option Addr} {n c:Nat} {H:Hp} {K:SV→St→Hp→Prop} (ha:RL H a n c l) (hK:K (.v (.bool false)) ⟨[],c2 wh w,2⟩ H):
  aY prog 307 [.v (.slice a n c),.ptr 0 0,.ptr 1 0] (c2 wh w) 2 H K:=by
 refine aJ af aa func307 call307 ntmps307 results307 rfl rfl ?_;refine dF js hw hl ha ?_;exact⟨.v (.bool false),c2 wh w,2,[(0,0),(1,1)],by (repeat' first|exact trivial|refine⟨?_,?_⟩|exact rfl|assumption),hK⟩
theorem o4 {wh w:Nat} (js:Wh wh) (hw:w≤1024) {l:List Wd} (hl:∀x∈l,okB w x) {a:Option Addr} {n c:Nat} {H:Hp} {K:SV→St→Hp→Prop} (ha:RL H a n c l) (hK:K (.v (.int .i64 (-1))) ⟨[],c2 wh w,2⟩ H):
  aY prog 306 [.v (.slice a n c),.fn 307 [.ptr 0 0,.ptr 1 0]] (c2 wh w) 2 H K:=by
 have dd:=ha.aB;have eI:=ha.le;refine aJ af aa func306 call306 ntmps306 results306 rfl rfl ?_
 refine⟨Nat,fun j=>⟨[(0,.v (.slice a n c)),(1,.fn 307 [.ptr 0 0,.ptr 1 0]),(7,.v (.int .i64 n)),(8,.v (.int .i64 j))],c2 wh w,2⟩,
  fun j H'=>H'=H∧j≤l.length,fun j=>l.length - j,⟨0,[(0,0),(1,1)],?_,rfl,by omega⟩,?_⟩
 ·(repeat' first|exact trivial|refine⟨?_,?_⟩|exact rfl|assumption)
 rintro j H1 _ ⟨rfl,hi⟩;refine⟨fun h=>?_,fun h=>?_⟩
 ·have aj:j<l.length:=by have:=dt h;omega
  refine dj ha (aL aj) fun ad a5 n5 c5 q1 hh hr=>?_
  refine⟨ad,⟨by omega,by omega,q1⟩,?_⟩;refine⟨_,hh,?_⟩;refine⟨[0,1],rfl,tM js hw (hl _ (List.getElem_mem aj)) hr ?_⟩;refine⟨(fun h=>by cases h),fun _=>?_⟩;refine⟨⟨by omega,by omega⟩,j+1,[(0,0),(1,1)],?_,⟨rfl,by omega⟩,by dsimp only;omega⟩
  (repeat' first|exact trivial|refine⟨?_,?_⟩|exact rfl|assumption)
 ·exact⟨.v (.int .i64 (-1)),c2 wh w,2,[(0,0),(1,1)],by (repeat' first|exact trivial|refine⟨?_,?_⟩|exact rfl|assumption),hK⟩
theorem qY {wh w:Nat} (js:Wh wh) (hw:w≤1024) {l:List Wd} (hl:∀x∈l,okB w x) {a:Option Addr} {n c:Nat} {H:Hp} {K:SV→St→Hp→Prop} (ha:RL H a n c l) (hK:K (.v (.bool false)) ⟨[],c2 wh w,2⟩ H):
  aY prog 251 [.v (.slice a n c),.fn 307 [.ptr 0 0,.ptr 1 0]] (c2 wh w) 2 H K:=by
 refine aJ af aa func251 call251 ntmps251 results251 rfl rfl ?_;refine⟨[0,1],rfl,o4 js hw hl ha ?_⟩;exact⟨.v (.bool false),c2 wh w,2,[(0,0),(1,1)],by (repeat' first|exact trivial|refine⟨?_,?_⟩|exact rfl|assumption),hK⟩
theorem l8 {wh w:Nat} (js:Wh wh) (hw:w≤1024) {l:List Wd} (hl:∀x∈l,okB w x) {a:Option Addr} {n c:Nat} (ha:RL H a n c l) (hK:K (.int .i64 0) H):aq prog 254 [.int .i64 (wh:Nat),.int .i64 (w:Nat),.slice a n c] H K:=by
 refine ab af aa rfl func254 call254 ntmps254 results254 rfl rfl ?_;refine dE js hw ?_;refine⟨(fun h=>by cases h),fun _=>?_⟩;refine⟨[0,1],rfl,qY js hw hl ha ?_⟩;refine⟨(fun h=>by cases h),fun _=>?_⟩;exact hK
theorem nH {wh w:Nat} (js:Wh wh) (hw:w≤1024) {x y:Wd} (hx:okB w x) (hy:okB w y) {a a2:Option Addr} {n c n2 k2:Nat} (ha:RL H a n c x) (hb:RL H a2 n2 k2 y) (hK:∀a1 n1 c1 H',Le H H'→RL H' a1 n1 c1 (jP wh x y)→K (.tuple #[.slice a1 n1 c1,.int .i64 0]) H'):
  aq prog 212 [.int .i64 (wh:Nat),.int .i64 (w:Nat),.slice a n c,.slice a2 n2 k2] H K:=by
 have dd:=ha.aB;have lv:=hb.aB;have TI:=hx.1;have Gz:=hy.1
 have cN:aU w≤16:=by unfold aU;omega
 refine ab af aa rfl func212 call212 ntmps212 results212 rfl rfl ?_;intro v H1 ak hv;have rO:RC (α:=Wd) H1 [[.slice a n c],[.slice a2 n2 k2]] [x,y]:=((RC.nil (α:=Wd)).snoc (show cq.R (α:=Wd) H1 [.slice a n c] x from ⟨a,n,c,rfl,ha.up ak.le⟩)).snoc (show cq.R (α:=Wd) H1 [.slice a2 n2 k2] y from ⟨a2,n2,k2,rfl,hb.up ak.le⟩);obtain⟨a3,n3,c3,rfl,db⟩:=RL.aC (α:=Wd) hv rO;refine l8 js hw (l:=[x,y]) (fun z hz=>?_) db ?_
 ·simp only[List.mem_cons,List.not_mem_nil,or_false]at hz
  rcases hz with rfl | rfl
  ·exact hx
  ·exact hy
 refine⟨(fun h=>absurd rfl (nt h)),fun _=>?_⟩;have eD:(jP wh x y).length=aU w:=(sP hx hy).1
 refine⟨Nat,fun i=>⟨[(0,.v (.int .i64 (wh:Nat))),(2,.v (.slice a n c)),(3,.v (.slice a2 n2 k2)),(11,.own 0),(22,.v (.slice a n c)),(23,.v (.int .i64 n)),(24,.v (.int .i64 i))],[(0,.row 126 1 (aV ((jP wh x y).take i)))],1⟩,
  fun i H'=>H'=H∧i≤x.length,fun i=>x.length - i,⟨0,[],?_,rfl,Nat.zero_le _⟩,?_⟩
 ·(repeat' first|exact trivial|refine⟨?_,?_⟩|exact rfl|assumption)
 rintro i H2 _ ⟨rfl,hi⟩
 have xD:(aV ((jP wh x y).take i)).length=i:=by rw[bn,List.length_take];omega
 refine⟨fun h=>?_,fun h=>?_⟩
 ·have aj:i<x.length:=by have:=dt h;omega
  have dK:i<y.length:=by omega
  refine dO ha (aL aj) fun ad q1 hh hr=>?_
  refine dO hb (aL dK) fun iy q2 gj bj=>?_
  refine⟨some ([0,1],[0,1,2,3,4,5,6,7,8,9,10,11,12,13]),by kernel_rfl,?_⟩;refine⟨ad,⟨by omega,by omega,q1⟩,?_⟩;refine⟨_,hh,?_⟩;refine⟨iy,⟨by omega,by omega,q2⟩,?_⟩;refine⟨_,gj,?_⟩;refine nG js ?_;refine⟨⟨by show (_+1)*8≤140737488355328;rw[xD];omega,by show _+1≤9223372036854775807;rw[xD];omega⟩,?_⟩;have e:=(qf (f:=uJ wh) (aL aj) (aL dK)).symm;refine⟨⟨by omega,by omega⟩,i+1,[(0,2)],?_,⟨rfl,aj⟩,by dsimp only;omega⟩
  (repeat' first|exact trivial|refine⟨?_,?_⟩|exact rfl|assumption)
 ·have aX:i=x.length:=by have:=df h;omega
  have e:(jP wh x y).take i=jP wh x y:=List.take_of_length_le (by omega);rw[e];intro v H3 az yl;obtain⟨a5,n5,c5,rfl,ct⟩:=RL.aC (α:=UInt64) yl jJ;exact hK _ _ _ _ az.le ct
theorem jK {wh n:Nat} (js:Wh wh) (hn:n≤1024) (hK:K (.bool true) H):aq prog 243 [.int .i64 (wh:Nat),.int .i64 (n:Nat)] H K:=by
 unfold Wh at js;refine ab af aa rfl func243 call243 ntmps243 results243 rfl rfl ?_;refine⟨fun _=>?_,(fun h=>absurd (by omega) (df h))⟩;refine⟨fun _=>?_,(fun h=>absurd (by omega) (df h))⟩;refine⟨fun _=>?_,(fun h=>absurd (by omega) (df h))⟩;exact aA hK (by rw[decide_eq_true (by omega)])
theorem o5 {wh n:Nat} (js:Wh wh) (hn:n≤1024) (hK:K (.int .i64 (aU n:Nat)) H):aq prog 295 [.int .i64 (wh:Nat),.int .i64 (n:Nat)] H K:=by
 refine ab af aa rfl func295 call295 ntmps295 results295 rfl rfl ?_;refine jK js hn ?_;refine⟨(fun h=>by cases h),fun _=>?_⟩;refine⟨fun h=>absurd (dt h) (by unfold Wh at js;omega),fun _=>?_⟩;exact sN hn hK
theorem BL {w:Nat} (hw:w≤1024) (hK:∀a1 n1 c1 H',Le H H'→RL H' a1 n1 c1 (sK w)→K (.slice a1 n1 c1) H'):
  aq prog 294 [.int .i64 (w:Nat)] H K:=by
 refine ab af aa rfl func294 call294 ntmps294 results294 rfl rfl ?_
 refine⟨Nat,fun i=>⟨[(0,.v (.int .i64 (w:Nat))),(3,.own 0),(4,.v (.int .i64 i))],[(0,.row 3 1 (au ((List.range i).map fun k:Nat=>(k:Int))))],1⟩,
  fun i H'=>H'=H∧i≤w,fun i=>w - i,⟨0,[],?_,rfl,Nat.zero_le _⟩,?_⟩
 ·(repeat' first|exact trivial|refine⟨?_,?_⟩|exact rfl|assumption)
 rintro i H1 _ ⟨rfl,hi⟩
 have rO:(au ((List.range i).map fun k:Nat=>(k:Int))).length=i:=by simp [au]
 refine⟨fun h=>?_,fun h=>?_⟩
 ·have aj:i<w:=by have:=dt h;omega
  refine⟨⟨by show (_+1)*8≤140737488355328;rw[rO];omega,by show _+1≤9223372036854775807;rw[rO];omega⟩,?_⟩
  have e:au ((List.range i).map fun k:Nat=>(k:Int))++[[.int .i64 (i:Nat)]]=au ((List.range (i+1)).map fun k:Nat=>(k:Int)):=by
   rw[List.range_succ,List.map_append,au,au,List.map_append];rfl
  refine⟨⟨by omega,by omega⟩,i+1,[(0,2)],?_,⟨rfl,aj⟩,by dsimp only;omega⟩
  (repeat' first|exact trivial|refine⟨?_,?_⟩|exact rfl|assumption)
 ·have aX:i=w:=by have:=df h;omega
  subst aX;intro v H6 aI cZ
  have kX:∀x∈((List.range i).map fun k:Nat=>(k:Int)),oh x:=fun x hx=>by
   obtain⟨k,hk,rfl⟩:=List.mem_map.1 hx;have:=List.mem_range.1 hk;exact⟨by omega,by omega⟩
  obtain⟨a7,n7,c7,rfl,dz⟩:=RL.aC (α:=Int) cZ (cD kX)
  refine bt hw dz fun a1 n1 c1 H7 cS hr=>?_
  exact hK _ _ _ _ (aI.le.trans cS) hr
theorem mK {wh n:Nat} (js:Wh wh) (hn:n≤1024) (hK:∀a n1 c H',Le H H'→RL H' a n1 c (rq wh n)→K (.slice a n1 c) H'):aq prog 239 [.int .i64 (wh:Nat),.int .i64 (n:Nat)] H K:=by
 have cN:aU n≤16:=by unfold aU;omega
 have h:=js
 rcases h with rfl | rfl
 ·refine ab af aa rfl func239 call239 ntmps239 results239 rfl rfl ?_;refine jK js hn ?_;refine⟨fun _=>?_,(fun h=>by cases h)⟩;refine⟨(fun h=>absurd h (by decide)),fun _=>?_⟩;refine o5 js hn ?_;refine⟨⟨rfl,by omega,by show (aU n:Int)*8≤_;omega,by omega⟩,?_⟩;intro v H1 ak hv
  have e:aW H1 v 1 ((dn n).map fun w=>[Value.int .u64 (w.toNat:Nat)]):=by
   rw[dn,List.map_replicate];exact hv
  obtain⟨a,n1,c,rfl,hr⟩:=RL.aC (α:=UInt64) e jJ;exact hK _ _ _ _ ak.le hr
 ·refine ab af aa rfl func239 call239 ntmps239 results239 rfl rfl ?_;refine jK js hn ?_;refine⟨fun _=>?_,(fun h=>by cases h)⟩;refine⟨fun _=>?_,(fun h=>absurd h (by decide))⟩;exact BL hn hK
theorem nI {wh n:Nat} (js:Wh wh) (hn:n≤1024) (hK:K (.int .i64 (n:Nat)) H):aq prog 191 [.int .i64 (wh:Nat),.int .i64 (n:Nat)] H K:=by
 refine ab af aa rfl func191 call191 ntmps191 results191 rfl rfl ?_;refine jK js hn ?_;refine⟨(fun h=>by cases h),fun _=>?_⟩;refine⟨fun h=>absurd (dt h) (by unfold Wh at js;omega),fun _=>?_⟩;exact hK
theorem nJ {wh:Nat} (js:Wh wh) {x y:UInt64} (hK:K (.int .u64 ((uJ wh x y).toNat:Nat)) H):aq prog 297 [.int .i64 (wh:Nat),.int .u64 (x.toNat:Nat),.int .u64 (y.toNat:Nat)] H K:=by
 rcases js with rfl | rfl
 ·refine ab af aa rfl func297 call297 ntmps297 results297 rfl rfl ?_;refine⟨fun _=>?_,(fun h=>absurd rfl (df h))⟩;exact cT hK (Value.int.inj (SV.v.inj (rp (·||| ·) x y))).2.symm
 ·refine ab af aa rfl func297 call297 ntmps297 results297 rfl rfl ?_;refine⟨(fun h=>absurd (dt h) (by decide)),fun _=>?_⟩;refine⟨fun _=>?_,(fun h=>absurd rfl (df h))⟩;exact cT hK (Value.int.inj (SV.v.inj (rp (·&&& ·) x y))).2.symm
theorem o6 {wh w:Nat} (js:Wh wh) (hw:w≤1024) {x y:Wd} (hx:okB w x) (hy:okB w y) {a a2:Option Addr} {n c n2 k2:Nat} (ha:RL H a n c x) (hb:RL H a2 n2 k2 y) (hK:∀a1 n1 c1 H',Le H H'→RL H' a1 n1 c1 (jP wh x y)→K (.slice a1 n1 c1) H'):
  aq prog 241 [.int .i64 (wh:Nat),.slice a n c,.slice a2 n2 k2] H K:=by
 have dd:=ha.aB;have lv:=hb.aB;have TI:=hx.1;have Gz:=hy.1
 have cN:aU w≤16:=by unfold aU;omega
 refine ab af aa rfl func241 call241 ntmps241 results241 rfl rfl ?_;have eD:(jP wh x y).length=aU w:=(sP hx hy).1
 refine⟨Nat,fun i=>⟨[(0,.v (.int .i64 (wh:Nat))),(1,.v (.slice a n c)),(2,.v (.slice a2 n2 k2)),(7,.own 0),(10,.v (.int .i64 n)),(11,.v (.int .i64 i))],[(0,.row 126 1 (aV ((jP wh x y).take i)))],1⟩,
  fun i H'=>H'=H∧i≤x.length,fun i=>x.length - i,⟨0,[],?_,rfl,Nat.zero_le _⟩,?_⟩
 ·(repeat' first|exact trivial|refine⟨?_,?_⟩|exact rfl|assumption)
 rintro i H2 _ ⟨rfl,hi⟩
 have xD:(aV ((jP wh x y).take i)).length=i:=by rw[bn,List.length_take];omega
 refine⟨fun h=>?_,fun h=>?_⟩
 ·have aj:i<x.length:=by have:=dt h;omega
  have dK:i<y.length:=by omega
  refine dO ha (aL aj) fun ad q1 hh hr=>?_
  refine dO hb (aL dK) fun iy q2 gj bj=>?_
  refine⟨some ([0,1],[0,1,2,3,4,5,6,7,8,9,10,11,12,13]),by kernel_rfl,?_⟩;refine⟨ad,⟨by omega,by omega,q1⟩,?_⟩;refine⟨_,hh,?_⟩;refine⟨iy,⟨by omega,by omega,q2⟩,?_⟩;refine⟨_,gj,?_⟩;refine nJ js ?_;refine⟨⟨by show (_+1)*8≤140737488355328;rw[xD];omega,by show _+1≤9223372036854775807;rw[xD];omega⟩,?_⟩;have e:=(qf (f:=uJ wh) (aL aj) (aL dK)).symm;refine⟨⟨by omega,by omega⟩,i+1,[(0,2)],?_,⟨rfl,aj⟩,by dsimp only;omega⟩
  (repeat' first|exact trivial|refine⟨?_,?_⟩|exact rfl|assumption)
 ·have aX:i=x.length:=by have:=df h;omega
  have e:(jP wh x y).take i=jP wh x y:=List.take_of_length_le (by omega);rw[e];intro v H3 az yl;obtain⟨a5,n5,c5,rfl,ct⟩:=RL.aC (α:=UInt64) yl jJ;exact hK _ _ _ _ az.le ct
end Bt
end Go.Proofs
end
section
namespace Go.Proofs
namespace Bt
open Go.Sy
open Tryz
variable {H:Hp} {K:Value→Hp→Prop}
structure TA where
 ga:Option Addr
 gn:Nat
 gc:Nat
 ka:Option Addr
 kn:Nat
 kc:Nat
abbrev Hf (z:TA):List Value:=[.slice z.ga z.gn z.gc,.slice z.ka z.kn z.kc,.slice none 0 0]
abbrev QG (z:TA):Value:=.agg (Hf z).toArray
structure B7 (H:Hp) (t:Wd×Wd) (z:TA):Prop where
 g:RL H z.ga z.gn z.gc t.1
 k:RL H z.ka z.kn z.kc t.2
theorem B7.up {H H':Hp} {t:Wd×Wd} {z:TA} (h:B7 H t z) (hle:Le H H'):B7 H' t z:=⟨h.g.up hle,h.k.up hle⟩
def UE (w:Nat) (t:Wd×Wd):Prop:=okB w t.1∧okB w t.2
theorem jL {wh w:Nat} (js:Wh wh) (hw:w≤1024) {t:Wd×Wd} (ht:UE w t) {z:TA} (hr:B7 H t z) (hK:K (.int .i64 0) H):aq prog 218 [.int .i64 (wh:Nat),.int .i64 (w:Nat),QG z] H K:=by
 have h:=js
 rcases h with rfl | rfl
 ·refine ab af aa rfl func218 call218 ntmps218 results218 rfl rfl ?_;refine⟨fun _=>?_,(fun h=>absurd (dt h) (by omega))⟩;refine⟨(fun h=>absurd (dt h) (by omega)),fun _=>?_⟩;refine⟨fun _=>?_,(fun h=>absurd h (by decide))⟩;refine⟨fun _=>?_,(fun h=>absurd h (by decide))⟩
  refine kV hw ht.1 hr.g fun H1 ak=>?_
  refine⟨fun _=>?_,(fun h=>by cases h)⟩
  refine kV hw ht.2 hr.k fun H2 ah=>?_
  refine⟨fun _=>?_,(fun h=>by cases h)⟩;refine⟨(fun h=>absurd h (by decide)),fun _=>?_⟩;exact hK
 ·refine ab af aa rfl func218 call218 ntmps218 results218 rfl rfl ?_;refine⟨fun _=>?_,(fun h=>absurd (dt h) (by omega))⟩;refine⟨(fun h=>absurd (dt h) (by omega)),fun _=>?_⟩;refine⟨(fun h=>absurd h (by decide)),fun _=>?_⟩;refine⟨fun _=>?_,(fun h=>absurd h (by decide))⟩
  refine kV hw ht.1 hr.g fun H1 ak=>?_
  refine⟨fun _=>?_,(fun h=>by cases h)⟩
  refine kV hw ht.2 hr.k fun H2 ah=>?_
  refine⟨fun _=>?_,(fun h=>by cases h)⟩;refine⟨(fun h=>absurd h (by decide)),fun _=>?_⟩;exact hK
theorem il {wh w:Nat} (js:Wh wh) (hw:w≤1024) {x:Wd} (hx:okB w x) {t:Wd×Wd} (ht:UE w t) {z:TA} {a:Option Addr} {n c:Nat} (ha:RL H a n c x) (hr:B7 H t z) (hK:∀a1 n1 c1 H',Le H H'→RL H' a1 n1 c1 (yH t x)→K (.tuple #[.slice a1 n1 c1,.int .i64 0]) H'):
  aq prog 161 [.int .i64 (wh:Nat),.int .i64 (w:Nat),QG z,.slice a n c] H K:=by
 refine ab af aa rfl func161 call161 ntmps161 results161 rfl rfl ?_;refine jL js hw ht hr ?_;refine⟨(fun h=>absurd rfl (nt h)),fun _=>?_⟩;refine dF js hw hx ha ?_;refine⟨(fun h=>by cases h),fun _=>?_⟩;refine⟨fun _=>?_,fun h=>absurd (nf h) (by unfold Wh at js;omega)⟩;refine⟨some ([],[0,1,2,4,5,3,6,7,8]),by kernel_rfl,?_⟩
 refine jO hw hx.1 ht.2.1 ha hr.k fun a1 n1 c1 H1 ak bh=>?_
 refine ix hw (gQ hx ht.2).1 ht.1.1 bh (hr.up ak).g fun a2 n2 c2 H2 ah bj=>?_
 exact hK _ _ _ _ (ak.trans ah) bj
theorem lI {wh w:Nat} (js:Wh wh) (hw:w≤1024) {x:Wd} (hx:okB w x) {t:Wd×Wd} (ht:UE w t) {z:TA} {a:Option Addr} {n c:Nat} (ha:RL H a n c x) (hr:B7 H t z) (hK:∀a1 n1 c1 H',Le H H'→RL H' a1 n1 c1 (yH t x)→K (.slice a1 n1 c1) H'):
  aq prog 133 [.int .i64 (wh:Nat),QG z,.slice a n c] H K:=by
 refine ab af aa rfl func133 call133 ntmps133 results133 rfl rfl ?_;refine⟨fun _=>?_,fun h=>absurd (nf h) (by unfold Wh at js;omega)⟩;refine⟨some ([],[0,1,2,4,5,3,6,7]),by kernel_rfl,?_⟩
 refine sO (how:=3) ED rfl (.inr ⟨rfl,rfl⟩) hw hx.1 ht.2.1 ha hr.k fun a1 n1 c1 H1 ak bh=>?_
 refine sO (how:=1) Ha rfl (.inl ⟨rfl,rfl⟩) hw (gQ hx ht.2).1 ht.1.1 bh (hr.up ak).g fun a2 n2 c2 H2 ah bj=>?_
 exact hK _ _ _ _ (ak.trans ah) bj
end Bt
end Go.Proofs
end
section
namespace Go.Proofs
namespace Bt
open Go.Sy
open Tryz
variable {H:Hp} {K:Value→Hp→Prop}
structure qB where
 t:Wd×Wd
instance:cq qB where
 sz:=3
 R H cs x:=∃z:TA,cs=Hf z∧B7 H x.t z
 len h:=by obtain⟨_,rfl,_⟩:=h;rfl
 one h:=by obtain⟨_,rfl,_⟩:=h;intro u hu;simp at hu;rcases hu with rfl | rfl | rfl<;>rfl
 up hle h:=by obtain⟨z,e,h⟩:=h;exact⟨z,e,h.up hle⟩
structure gY where
 wh:Nat
 w:Nat
 m:Nat
 E:List cV
 vo:List Int
 vp:Wd
 T:List (Wd×Wd)
abbrev fc (s:gY) (z:SA):List Value:=[.int .i64 (s.wh:Nat),.int .i64 (s.w:Nat),.int .i64 (s.m:Nat),.slice z.ea z.en z.ec,.slice z.na z.nn z.nc,.slice z.ia z.ni z.ic,.slice z.ta z.tn z.tc]
abbrev dG (s:gY) (z:SA):Value:=.agg (fc s z).toArray
structure dB (H:Hp) (s:gY) (z:SA):Prop where
 e:RL H z.ea z.en z.ec s.E
 n:RL H z.na z.nn z.nc s.vo
 i:RL H z.ia z.ni z.ic s.vp
 t:RL (α:=qB) H z.ta z.tn z.tc (s.T.map qB.mk)
theorem dB.up {H H':Hp} {s:gY} {z:SA} (h:dB H s z) (hle:Le H H'):dB H' s z:=⟨h.e.up hle,h.n.up hle,h.i.up hle,h.t.up hle⟩
structure gd (s:gY):Prop where
 wh:Wh s.wh
 w:s.w≤1024
 m:1≤s.m∧s.m≤256
 El:s.E.length≤1024
 En:∀e∈s.E,(0≤e.1∧e.1<(s.m:Nat))∧0≤e.2∧e.2<(s.m:Nat)
 vo:∀v∈s.vo,0≤v∧v<(s.m:Nat)
 vp:okB s.w s.vp
 Tl:s.T.length=s.m
 T:∀t∈s.T,UE s.w t
theorem km {P:Prop} {H:Hp} {a:Option Addr} {n c:Nat} {T:List (Wd×Wd)} (h:RL (α:=qB) H a n c (T.map qB.mk)) {i:Nat} {t:Wd×Wd} (hi:T[i]?=some t) (k:∀ad z,a=some ad→jz H ad (i:Int) 3 (Hf z)→B7 H t z→P):P :=
 kN h (i:=i) (x:=qB.mk t) (by rw[List.getElem?_map,hi];rfl) fun ad cs h1 h2 h3=>by
  obtain⟨z,rfl,h4⟩:=h3;exact k ad z h1 h2 h4
theorem xG {s:gY} (h:gd s):lZ (s.m:Nat) s.E=true:=by
 have h1:=h.m;have h2:=h.El;rw[lZ,decide_eq_true (by omega),decide_eq_true (by omega),decide_eq_true h2];simp only[Bool.true_and,Bool.not_eq_true',decide_eq_false_iff_not];intro h0;obtain⟨e,he,h3⟩:=(tw s.E 0 (Int.le_refl 0)).1 h0;have h4:=h.En e he;rw[rX,decide_eq_true h4.1,decide_eq_true h4.2]at h3;cases h3
theorem fN {s:gY} {z:SA} (ho:gd s) (hs:dB H s z) (hK:∀H',Le H H'→K (.int .i64 0) H'):aq prog 158 [dG s z] H K:=by
 have hm:=ho.m;have hw:=ho.w;have Bo:=hs.t.aB;rw[List.length_map,ho.Tl]at Bo;have TZ:=hs.n.aB;have yu:=hs.n.le;refine ab af aa rfl func158 call158 ntmps158 results158 rfl rfl ?_;refine .inl ⟨0,?_⟩;refine⟨none,?_⟩
 refine bH (α:=Unit) ?_ ?_ (.one [] [0,1,2,3,4,5,6,7,8,9,10,11,12,13,14,15,16,17,18])
  (fun _=>⟨[(1,.ptr 0 0),(26,.v (.bool false))],[(0,.cells 106 (vL (fc s z)))],1⟩) (fun _ H'=>Le H H') (by kernel_rfl) ?_ ?_
 ·exact⟨af.tt,af.eqs⟩
 ·exact aa
 ·refine fM ho.wh hw ?_;refine⟨fun _=>?_,fun _=>?_⟩
  ·refine eM ho.wh hw fun a1 n1 c1 H1 ak bh=>?_
   refine dF ho.wh hw (BJ s.wh s.w) bh ?_;exact⟨(),[(0,0)],by (repeat' first|exact trivial|refine⟨?_,?_⟩|exact rfl|assumption),ak⟩
  ·exact⟨(),[(0,0)],by (repeat' first|exact trivial|refine⟨?_,?_⟩|exact rfl|assumption),Le.refl H⟩
 rintro _ H1 _ hle;refine⟨(fun h=>by cases h),fun _=>?_⟩;have hs:=hs.up hle;refine xH (xG ho) hs.e ?_;refine⟨fun _=>?_,(fun h=>by cases h)⟩;refine⟨(fun h=>absurd (by rw[Bo]) (nt h)),fun _=>?_⟩
 refine⟨Nat,fun i=>⟨[(1,.ptr 0 0),(42,.v (.slice z.na z.nn z.nc)),(43,.v (.int .i64 z.nn)),(44,.v (.int .i64 i))],[(0,.cells 106 (vL (fc s z)))],1⟩,
  fun i H'=>H'=H1∧i≤s.vo.length,fun i=>s.vo.length - i,⟨0,[(0,0)],?_,rfl,Nat.zero_le _⟩,?_⟩
 ·(repeat' first|exact trivial|refine⟨?_,?_⟩|exact rfl|assumption)
 rintro i H2 _ ⟨rfl,hi⟩;refine⟨fun h=>?_,fun h=>?_⟩
 ·have aj:i<s.vo.length:=by have:=dt h;omega
  have hv:=ho.vo _ (List.getElem_mem aj)
  refine xo hs.n (aL aj) fun ad e1 hh=>?_
  refine⟨ad,⟨by omega,by omega,e1⟩,?_⟩;refine⟨_,hh,?_⟩;refine⟨fun _=>?_,(fun h=>absurd (dt h) (by omega))⟩;refine⟨(fun h=>absurd (dt h) (by omega)),fun _=>?_⟩;refine⟨⟨by omega,by omega⟩,i+1,[(0,0)],?_,⟨rfl,aj⟩,by dsimp only;omega⟩
  (repeat' first|exact trivial|refine⟨?_,?_⟩|exact rfl|assumption)
 refine dF ho.wh hw ho.vp hs.i ?_;refine⟨(fun h=>by cases h),fun _=>?_⟩
 refine⟨Nat,fun i=>⟨[(1,.ptr 0 0),(66,.v (.slice z.ta z.tn z.tc)),(67,.v (.int .i64 z.tn)),(68,.v (.int .i64 i))],[(0,.cells 106 (vL (fc s z)))],1⟩,
  fun i H'=>H'=H2∧i≤s.T.length,fun i=>s.T.length - i,⟨0,[(0,0)],?_,rfl,Nat.zero_le _⟩,?_⟩
 ·(repeat' first|exact trivial|refine⟨?_,?_⟩|exact rfl|assumption)
 rintro j H3 _ ⟨rfl,hj⟩;have Ur:=ho.Tl;refine⟨fun h=>?_,fun h=>?_⟩
 ·have aj:j<s.T.length:=by have:=dt h;omega
  refine km hs.t (aL aj) fun ad zt e1 hh bh=>?_
  refine⟨ad,⟨by omega,by omega,e1⟩,?_⟩;refine⟨_,hh,?_⟩;refine jL ho.wh hw (ho.T _ (List.getElem_mem aj)) bh ?_;refine⟨(fun h=>absurd rfl (nt h)),fun _=>?_⟩;refine⟨⟨by omega,by omega⟩,j+1,[(0,0)],?_,⟨rfl,aj⟩,by dsimp only;omega⟩
  (repeat' first|exact trivial|refine⟨?_,?_⟩|exact rfl|assumption)
 ·exact hK _ hle
theorem qZ {s:gY} {z:SA} (ho:gd s) {v:Nat} (hv:v<s.m) (hs:dB H s z) (hK:K (.int .i64 0) H):aq prog 160 [dG s z,.int .i64 (v:Nat)] H K:=by
 refine ab af aa rfl func160 call160 ntmps160 results160 rfl rfl ?_
 refine fN (s:=s) (z:=z) ho hs fun _ _=>?_
 refine⟨(fun h=>absurd rfl (nt h)),fun _=>?_⟩;refine⟨fun _=>?_,(fun h=>absurd (dt h) (by omega))⟩;refine⟨(fun h=>absurd (dt h) (by omega)),fun _=>?_⟩;exact hK
def cg (s:gY) (v:Nat):Wd:=if (v:Int)∈s.vo then s.vp else rq s.wh s.w
theorem mL {s:gY} (ho:gd s) (v:Nat):okB s.w (cg s v):=by
 unfold cg;split
 ·exact ho.vp
 ·exact BJ _ _
theorem o8 {s:gY} {z:SA} (ho:gd s) {v:Nat} (hs:dB H s z) (hK:∀a1 n1 c1 H',Le H H'→RL H' a1 n1 c1 (cg s v)→K (.slice a1 n1 c1) H'):aq prog 211 [dG s z,.int .i64 (v:Nat)] H K:=by
 have hi:=ho.vp.1;have hw:=ho.w
 have cN:aU s.w≤16:=by unfold aU;omega
 refine ab af aa rfl func211 call211 ntmps211 results211 rfl rfl ?_;refine kO hs.n ?_;refine⟨fun h=>?_,fun h=>?_⟩
 ·have hm:(v:Int)∈s.vo:=dt h;have e:cg s v=s.vp:=if_pos hm;rw[e]at hK;exact uN (by omega) hs.i hK
 ·have hm:¬(v:Int)∈s.vo:=df h;have e:cg s v=rq s.wh s.w:=if_neg hm;rw[e]at hK;exact eM ho.wh hw hK
def yn (s:gY) (v:Nat):Wd×Wd:=s.T[v]?.getD (dn s.w,dn s.w)
theorem j4 {s:gY} (ho:gd s) (v:Nat):UE s.w (yn s v):=by
 unfold yn
 cases h:s.T[v]? with
 | none=>exact⟨ek _,ek _⟩
 | some t=>exact ho.T t (dY h)
theorem nK {s:gY} (ho:gd s) {v:Nat} (hv:v<s.m):s.T[v]?=some (yn s v):=by
 have:v<s.T.length:=by rw[ho.Tl];exact hv
 rw[yn,aL this];rfl
theorem tN {s:gY} {z:SA} (ho:gd s) {v:Nat} (hv:v<s.m) {x:Wd} (hx:okB s.w x) {a:Option Addr} {n c:Nat} (hs:dB H s z) (ha:RL H a n c x) (hK:∀a1 n1 c1 H',Le H H'→RL H' a1 n1 c1 (yH (yn s v) x)→K (.tuple #[.slice a1 n1 c1,.int .i64 0]) H'):
  aq prog 104 [dG s z,.int .i64 (v:Nat),.slice a n c] H K:=by
 have Bo:=hs.t.aB;rw[List.length_map,ho.Tl]at Bo;refine ab af aa rfl func104 call104 ntmps104 results104 rfl rfl ?_;refine qZ (s:=s) (z:=z) ho hv hs ?_;refine⟨(fun h=>absurd rfl (nt h)),fun _=>?_⟩
 refine km hs.t (nK ho hv) fun ad zt e1 hh bh=>?_
 refine⟨some ([],[0,1,2,3,4,5,6,7,8,9,10,11,12,13,14]),by kernel_rfl,?_⟩;refine⟨ad,⟨by omega,by omega,e1⟩,?_⟩;refine⟨_,hh,?_⟩
 refine il ho.wh ho.w hx (j4 ho v) ha bh fun a2 n2 c2 H2 ah bj=>?_
 exact hK _ _ _ _ ah bj
theorem iP {s:gY} {z:SA} (ho:gd s) (hs:dB H s z) (hK:∀v css H3 H',Le H H3→RC (α:=Wd) H3 css (List.replicate s.m (rq s.wh s.w))→qp 103 1 css H3 v H'→aW H' v 1 css→K (.tuple #[v,.int .i64 0]) H'):aq prog 103 [dG s z] H K:=by
 have hm:=ho.m;have hw:=ho.w;refine ab af aa rfl func103 call103 ntmps103 results103 rfl rfl ?_
 refine fN (s:=s) (z:=z) ho hs fun _ _=>?_
 refine⟨(fun h=>absurd rfl (nt h)),fun _=>?_⟩;refine⟨⟨rfl,by omega,by show (s.m:Int)*24≤_;omega,by omega⟩,?_⟩
 refine⟨Nat×List (List Value),fun q=>⟨[(1,.ptr 0 0),(5,.own 1),(16,.v (.int .i64 (s.m:Nat))),(17,.v (.int .i64 q.1))],[(0,.cells 106 (vL (fc s z))),(1,.row 103 1 q.2)],2⟩,
  fun q H'=>Le H H'∧q.1≤s.m∧RC (α:=Wd) H' q.2 (gl (fun _=>rq s.wh s.w) s.m q.1),fun q=>s.m - q.1,⟨(0,List.replicate s.m [.slice none 0 0]),[(0,0),(1,1)],?_,Le.refl H,Nat.zero_le _,by simpa [gl] using p7⟩,?_⟩
 ·have e:SV.v (.int .i64 ((List.replicate (s.m:Int).toNat [Value.slice none 0 0]).length:Nat))=SV.v (.int .i64 (s.m:Nat)):=by simp
  (repeat' first|exact trivial|refine⟨?_,?_⟩|exact rfl|assumption)
 rintro⟨i,css⟩ H1 _ ⟨ak,hi,bf⟩;dsimp only at hi bf
 have fC:css.length=s.m:=by have h1:=bf.1;rw[p8 _ hi]at h1;exact h1
 refine⟨fun h=>?_,fun h=>?_⟩
 ·have aj:i<s.m:=by have:=dt h;dsimp only at this;omega
  refine eM ho.wh hw fun a1 n1 c1 H2 ah bh=>?_
  have b8:=RC.up bf ah
  refine lJ b8 (p9 _ aj) fun a0 n0 c0 hg _=>?_
  have rB:css[(i:Int).toNat]?=_:=hg;refine⟨⟨by dsimp only;omega,by dsimp only;omega⟩,?_⟩;refine⟨_,rB,?_⟩
  have nC:RC (α:=Wd) H2 (css.set i [.slice a1 n1 c1]) (gl (fun _=>rq s.wh s.w) s.m (i+1)):=by
   rw[←qa _ aj];exact o9 b8 bh
  refine⟨⟨by dsimp only;omega,by dsimp only;omega⟩,(i+1,css.set i [.slice a1 n1 c1]),[(0,0),(1,1)],?_,⟨ak.trans ah,aj,nC⟩,by dsimp only;omega⟩
  (repeat' first|exact trivial|refine⟨?_,?_⟩|exact rfl|assumption)
 ·have aX:i=s.m:=by have:=df h;dsimp only at this;omega
  rw[aX,nL,map_const]at bf;intro v H6 aI cZ;exact hK v css H1 H6 ak bf aI cZ
end Bt
end Go.Proofs
end
section
namespace Go.Proofs
namespace Bt
open Go.Sy
open Tryz
variable {H:Hp} {K:Value→Hp→Prop}
structure j5 (s:gY) (A:List Wd):Prop where
 len:A.length=s.m
 ok:∀x∈A,okB s.w x
def mM (A:List Wd) (v:Nat):Wd:=A[v]?.getD []
theorem eS {s:gY} {A:List Wd} (h:j5 s A) {v:Nat} (hv:v<s.m):A[v]?=some (mM A v):=by
 have:v<A.length:=by rw[h.len];exact hv
 rw[mM,aL this];rfl
theorem fO {s:gY} {A:List Wd} (h:j5 s A) {v:Nat} (hv:v<s.m):okB s.w (mM A v):=h.ok _ (dY (eS h hv))
def GD (s:gY) (A:List Wd) (e:cV):Wd:=yH (yn s e.1.toNat) (mM A e.1.toNat)
def cM (s:gY) (A out:List Wd) (e:cV):List Wd:=out.set e.2.toNat (jP s.wh (mM out e.2.toNat) (GD s A e))
def da (s:gY):List Wd:=(List.range s.m).map (cg s)
def cW (s:gY) (A:List Wd):List Wd:=s.E.foldl (cM s A) (da s)
theorem mN {s:gY} (ho:gd s):j5 s (da s):=⟨by simp [da],fun x hx=>by
 obtain⟨v,_,rfl⟩:=List.mem_map.1 hx
 exact mL ho v⟩
theorem ko {s:gY} (ho:gd s) {A:List Wd} (hA:j5 s A) {e:cV} (he:0≤e.1∧e.1<(s.m:Nat)):okB s.w (GD s A e):=BK (j4 ho _).1 (j4 ho _).2 (fO hA (by omega))
theorem xI {s:gY} (ho:gd s) {A out:List Wd} (hA:j5 s A) (hO:j5 s out) {e:cV} (he:0≤e.1∧e.1<(s.m:Nat)) (y9:0≤e.2∧e.2<(s.m:Nat)):j5 s (cM s A out e):=by
 refine⟨by rw[cM,List.length_set];exact hO.len,fun x hx=>?_⟩
 rcases List.mem_or_eq_of_mem_set hx with hx | rfl
 ·exact hO.ok x hx
 ·exact sP (fO hO (by omega)) (ko ho hA he)
theorem nM {s:gY} (ho:gd s) {A:List Wd} (hA:j5 s A):∀(l:List cV) {out:List Wd},(∀e∈l,(0≤e.1∧e.1<(s.m:Nat))∧0≤e.2∧e.2<(s.m:Nat))→j5 s out→j5 s (l.foldl (cM s A) out)
 | [],_,_,h=>h
 | e::r,out,hl,h=>by
  have h1:=hl e List.mem_cons_self;exact nM ho hA r (out:=cM s A out e) (fun e he=>hl e (List.mem_cons_of_mem _ he)) (xI ho hA h h1.1 h1.2)
theorem iQ {s:gY} (ho:gd s) {A:List Wd} (hA:j5 s A):j5 s (cW s A):=nM ho hA s.E ho.En (mN ho)
abbrev bS (s:gY) (z:SA):List (Nat×Bx):=[(0,.cells 106 (vL (fc s z)))]
theorem tO {s:gY} {z:SA} (ho:gd s) {l:Wd} (hl:okB s.w l) {a:Option Addr} {n c:Nat} {H:Hp} {K:SV→St→Hp→Prop} (ha:RL H a n c l) (hK:K (.v (.bool false)) ⟨[],bS s z,1⟩ H):
  aY prog 252 [.v (.slice a n c),.ptr 0 0] (bS s z) 1 H K:=by
 refine aJ af aa func252 call252 ntmps252 results252 rfl rfl ?_;refine dF ho.wh ho.w hl ha ?_;exact⟨.v (.bool false),bS s z,1,[(0,0)],by (repeat' first|exact trivial|refine⟨?_,?_⟩|exact rfl|assumption),hK⟩
theorem pb {s:gY} {z:SA} (ho:gd s) {l:List Wd} (hl:∀x∈l,okB s.w x) {a:Option Addr} {n c:Nat} {H:Hp} {K:SV→St→Hp→Prop} (ha:RL H a n c l) (hK:K (.v (.int .i64 (-1))) ⟨[],bS s z,1⟩ H):
  aY prog 306 [.v (.slice a n c),.fn 252 [.ptr 0 0]] (bS s z) 1 H K:=by
 have dd:=ha.aB;have eI:=ha.le;refine aJ af aa func306 call306 ntmps306 results306 rfl rfl ?_
 refine⟨Nat,fun j=>⟨[(0,.v (.slice a n c)),(1,.fn 252 [.ptr 0 0]),(7,.v (.int .i64 n)),(8,.v (.int .i64 j))],bS s z,1⟩,
  fun j H'=>H'=H∧j≤l.length,fun j=>l.length - j,⟨0,[(0,0)],?_,rfl,by omega⟩,?_⟩
 ·(repeat' first|exact trivial|refine⟨?_,?_⟩|exact rfl|assumption)
 rintro j H1 _ ⟨rfl,hi⟩;refine⟨fun h=>?_,fun h=>?_⟩
 ·have aj:j<l.length:=by have:=dt h;omega
  refine dj ha (aL aj) fun ad a5 n5 c5 q1 hh hr=>?_
  refine⟨ad,⟨by omega,by omega,q1⟩,?_⟩;refine⟨_,hh,?_⟩;refine⟨[0],rfl,tO (s:=s) (z:=z) ho (hl _ (List.getElem_mem aj)) hr ?_⟩;refine⟨(fun h=>by cases h),fun _=>?_⟩;refine⟨⟨by omega,by omega⟩,j+1,[(0,0)],?_,⟨rfl,by omega⟩,by dsimp only;omega⟩
  (repeat' first|exact trivial|refine⟨?_,?_⟩|exact rfl|assumption)
 ·exact⟨.v (.int .i64 (-1)),bS s z,1,[(0,0)],by (repeat' first|exact trivial|refine⟨?_,?_⟩|exact rfl|assumption),hK⟩
theorem q5 {s:gY} {z:SA} (ho:gd s) {l:List Wd} (hl:∀x∈l,okB s.w x) {a:Option Addr} {n c:Nat} {H:Hp} {K:SV→St→Hp→Prop} (ha:RL H a n c l) (hK:K (.v (.bool false)) ⟨[],bS s z,1⟩ H):
  aY prog 251 [.v (.slice a n c),.fn 252 [.ptr 0 0]] (bS s z) 1 H K:=by
 refine aJ af aa func251 call251 ntmps251 results251 rfl rfl ?_;refine⟨[0],rfl,pb (s:=s) (z:=z) ho hl ha ?_⟩;exact⟨.v (.bool false),bS s z,1,[(0,0)],by (repeat' first|exact trivial|refine⟨?_,?_⟩|exact rfl|assumption),hK⟩
theorem nN {s:gY} {z:SA} (ho:gd s) {A:List Wd} (hA:j5 s A) {a:Option Addr} {n c:Nat} (ha:RL H a n c A) (hK:K (.bool true) H):aq prog 210 [dG s z,.slice a n c] H K:=by
 have dd:=ha.aB;have hl:=hA.len;refine ab af aa rfl func210 call210 ntmps210 results210 rfl rfl ?_;refine⟨fun _=>?_,(fun h=>absurd (by rw[dd,hl]) (df h))⟩;refine⟨[0],rfl,q5 (s:=s) (z:=z) ho hA.ok ha ?_⟩;exact hK
theorem q8 {s:gY} {z:SA} (ho:gd s) {A:List Wd} (hA:j5 s A) {a:Option Addr} {n c:Nat} (hs:dB H s z) (ha:RL H a n c A) (hK:∀a1 n1 c1 H',Le H H'→RL H' a1 n1 c1 (cW s A)→K (.tuple #[.slice a1 n1 c1,.int .i64 0]) H'):
  aq prog 155 [dG s z,.slice a n c] H K:=by
 have hm:=ho.m;have hw:=ho.w;have cu:=hs.e.aB;have yu:=hs.e.le;have Fa:=ha.aB;have xh:=hA.len;have Bo:=hs.t.aB;rw[List.length_map,ho.Tl]at Bo;refine ab af aa rfl func155 call155 ntmps155 results155 rfl rfl ?_
 refine fN (s:=s) (z:=z) ho hs fun _ _=>?_
 refine⟨(fun h=>absurd rfl (nt h)),fun _=>?_⟩;refine nN (s:=s) (z:=z) ho hA ha ?_;refine⟨(fun h=>by cases h),fun _=>?_⟩;refine⟨⟨rfl,by omega,by show (s.m:Int)*24≤_;omega,by omega⟩,?_⟩
 refine⟨Nat×List (List Value),fun q=>⟨[(1,.v (.slice a n c)),(2,.ptr 0 0),(7,.own 1),(26,.v (.int .i64 (s.m:Nat))),(27,.v (.int .i64 q.1))],[(0,.cells 106 (vL (fc s z))),(1,.row 103 1 q.2)],2⟩,
  fun q H'=>Le H H'∧q.1≤s.m∧RC (α:=Wd) H' q.2 (gl (cg s) s.m q.1),fun q=>s.m - q.1,⟨(0,List.replicate s.m [.slice none 0 0]),[(0,0),(1,1)],?_,Le.refl H,Nat.zero_le _,by simpa [gl] using p7⟩,?_⟩
 ·have e:SV.v (.int .i64 ((List.replicate (s.m:Int).toNat [Value.slice none 0 0]).length:Nat))=SV.v (.int .i64 (s.m:Nat)):=by simp
  (repeat' first|exact trivial|refine⟨?_,?_⟩|exact rfl|assumption)
 rintro⟨i,css⟩ H1 _ ⟨ak,hi,bf⟩;dsimp only at hi bf
 have fC:css.length=s.m:=by have h1:=bf.1;rw[p8 _ hi]at h1;exact h1
 refine⟨fun h=>?_,fun h=>?_⟩
 ·have aj:i<s.m:=by have:=dt h;dsimp only at this;omega
  refine o8 (s:=s) (z:=z) ho (hs.up ak) fun a1 n1 c1 H2 ah bh=>?_
  have b8:=RC.up bf ah
  refine lJ b8 (p9 _ aj) fun a0 n0 c0 hg _=>?_
  have rB:css[(i:Int).toNat]?=_:=hg;refine⟨⟨by dsimp only;omega,by dsimp only;omega⟩,?_⟩;refine⟨_,rB,?_⟩
  have nC:RC (α:=Wd) H2 (css.set i [.slice a1 n1 c1]) (gl (cg s) s.m (i+1)):=by
   rw[←qa _ aj];exact o9 b8 bh
  refine⟨⟨by dsimp only;omega,by dsimp only;omega⟩,(i+1,css.set i [.slice a1 n1 c1]),[(0,0),(1,1)],?_,⟨ak.trans ah,aj,nC⟩,by dsimp only;omega⟩
  (repeat' first|exact trivial|refine⟨?_,?_⟩|exact rfl|assumption)
 have aX:i=s.m:=by have:=df h;dsimp only at this;omega
 rw[aX,nL]at bf
 refine⟨Nat×List (List Value),fun q=>⟨[(1,.v (.slice a n c)),(2,.ptr 0 0),(7,.own 1),(38,.v (.slice z.ea z.en z.ec)),(39,.v (.int .i64 z.en)),(40,.v (.int .i64 q.1))],[(0,.cells 106 (vL (fc s z))),(1,.row 103 1 q.2)],2⟩,
  fun q H'=>Le H1 H'∧q.1≤s.E.length∧RC (α:=Wd) H' q.2 ((s.E.take q.1).foldl (cM s A) (da s)),fun q=>s.E.length - q.1,⟨(0,css),[(0,0),(1,1)],?_,Le.refl H1,Nat.zero_le _,bf⟩,?_⟩
 ·(repeat' first|exact trivial|refine⟨?_,?_⟩|exact rfl|assumption)
 rintro⟨j,css⟩ H2 _ ⟨ah,hj,bf⟩;dsimp only at hj bf;have ca:j5 s ((s.E.take j).foldl (cM s A) (da s)):=nM ho hA _ (fun e he=>ho.En e (List.mem_of_mem_take he)) (mN ho)
 have fC:css.length=s.m:=by have h1:=bf.1;rw[ca.len]at h1;exact h1
 have hle:=ak.trans ah;refine⟨fun h=>?_,fun h=>?_⟩
 ·have aj:j<s.E.length:=by have:=dt h;dsimp only at this;omega
  refine aD s.E[j] fun e yw=>?_
  have sr:s.E[j]?=some e:=by rw[yw];exact aL aj
  have D0:=ho.En e (by rw[yw];exact List.getElem_mem aj)
  have bc:(s.E.take (j+1)).foldl (cM s A) (da s)=cM s A ((s.E.take j).foldl (cM s A) (da s)) e:=by
   rw[List.take_add_one,sr,Option.toList_some,List.foldl_append];rfl
  have N2:=hs.up hle
  have Ke:e.1.toNat<s.m:=by omega
  have Us:e.2.toNat<s.m:=by omega
  have Pq:((e.1.toNat:Nat):Int)=e.1:=Int.toNat_of_nonneg D0.1.1
  refine qV N2.e sr fun ad q1 hh=>?_
  refine⟨ad,⟨by dsimp only;omega,by dsimp only;omega,q1⟩,?_⟩;refine⟨_,hh,?_⟩
  refine km N2.t (nK ho Ke) fun iy zt q2 gj bj=>?_
  rw[Pq]at gj
  refine dj (ha.up hle) (eS hA Ke) fun sy a3 n3 c3 q3 ql db=>?_
  rw[Pq]at ql;refine⟨some ([],[0,1,2,3,4,5,6,7,8,9,10,11,12,13,14,15,16,17,18,19,20]),by kernel_rfl,?_⟩;refine⟨iy,⟨by omega,by omega,q2⟩,?_⟩;refine⟨_,gj,?_⟩;refine⟨sy,⟨by omega,by omega,q3⟩,?_⟩;refine⟨_,ql,?_⟩
  refine il ho.wh hw (fO hA Ke) (j4 ho _) db bj fun a4 n4 c4 H4 aN fm=>?_
  have MY:=RC.up bf aN
  refine lJ MY (eS ca Us) fun a5 n5 c5 hg ct=>?_
  refine⟨some ([1],[0,1,2,3,4,5,6,7,8,9,10,11,12,13,14,15,16,17,18]),by kernel_rfl,?_⟩;refine⟨⟨D0.2.1,by show e.2<(css.length:Int);omega⟩,?_⟩;refine⟨_,hg,?_⟩
  refine nH ho.wh hw (fO ca Us) (ko ho hA D0.1) ct fm fun a6 n6 c6 H6 aI ji=>?_
  have Sb:RC (α:=Wd) H6 (css.set e.2.toNat [.slice a6 n6 c6]) ((s.E.take (j+1)).foldl (cM s A) (da s)):=by
   rw[bc];exact o9 (RC.up MY aI) ji
  refine⟨⟨D0.2.1,by show e.2<(css.length:Int);omega⟩,?_⟩;refine⟨_,hg,?_⟩;refine⟨⟨by dsimp only;omega,by dsimp only;omega⟩,(j+1,css.set e.2.toNat [.slice a6 n6 c6]),[(0,0),(1,1)],?_,⟨(ah.trans aN).trans aI,aj,Sb⟩,by dsimp only;omega⟩
  (repeat' first|exact trivial|refine⟨?_,?_⟩|exact rfl|assumption)
 ·have eD:j=s.E.length:=by have:=df h;dsimp only at this;omega
  rw[eD,List.take_length]at bf;intro v H6 aI cZ;obtain⟨a7,n7,c7,rfl,dz⟩:=RL.aC (α:=Wd) cZ (RC.up bf aI.le);exact hK _ _ _ _ (hle.trans aI.le) dz
end Bt
end Go.Proofs
end
section
namespace Go.Proofs
namespace Bt
open Go.Sy
open Tryz
variable {H:Hp} {K:Value→Hp→Prop}
def dA (s:gY):Nat:=s.m*s.w+1
theorem eT {s:gY} (ho:gd s):dA s≤1000000:=by
 have h1:=ho.m;have h2:=ho.w;have:s.m*s.w≤256*1024:=Nat.mul_le_mul h1.2 (by omega)
 unfold dA;omega
theorem pc {s:gY} {z:SA} (ho:gd s) (hK:K (.int .i64 (dA s:Nat)) H):aq prog 102 [dG s z] H K:=by
 have hE:=eT ho
 have ee:((s.m:Int))*((s.w:Nat):Int)=((s.m*s.w:Nat):Int):=by push_cast;rfl
 refine ab af aa rfl func102 call102 ntmps102 results102 rfl rfl ?_;refine⟨some ([],[0,1,2,3,4,5,6,7,8,9]),by kernel_rfl,?_⟩;refine fM ho.wh ho.w ?_;unfold dA at hE;refine⟨⟨by rw[ee];omega,by rw[ee];omega⟩,?_⟩;refine⟨⟨by rw[ee];omega,by rw[ee];omega⟩,?_⟩;exact cT hK (by rw[ee,dA];push_cast;rfl)
def b6 (s:gY):Nat→List Wd→List Wd
 | 0,A=>A
 | k+1,A=>if A=cW s A then A else b6 s k (cW s A)
def eU (s:gY):List Wd:=List.replicate s.m (rq s.wh s.w)
theorem kp (s:gY):j5 s (eU s):=⟨List.length_replicate,fun x hx=>by rw[(List.mem_replicate.1 hx).2];exact BJ _ _⟩
def cU (s:gY):List Wd:=b6 s (dA s) (eU s)
theorem pd {s:gY} (ho:gd s):∀(k:Nat) {A:List Wd},j5 s A→j5 s (b6 s k A)
 | 0,_,h=>h
 | k+1,A,h=>by
  rw[b6];split
  ·exact h
  ·exact pd ho k (iQ ho h)
theorem fg {s:gY} (ho:gd s):j5 s (cU s):=pd ho _ (kp s)
abbrev bI (s:gY) (z:SA) (a:Option Addr) (n c:Nat):List (Nat×Bx):=[(0,.cells 106 (vL (fc s z))),(1,.cells 109 [.v (.slice a n c)])]
theorem kT {s:gY} {z:SA} (ho:gd s) {A:List Wd} (hA:j5 s A) {a:Option Addr} {n c:Nat} {H:Hp} {K:SV→St→Hp→Prop} (hs:dB H s z) (ha:RL H a n c A) (hK:∀a1 n1 c1 H',Le H H'→RL H' a1 n1 c1 (cW s A)→K (.v (.slice a1 n1 c1)) ⟨[],bI s z a n c,2⟩ H'):
  aY prog 154 [.ptr 0 0,.ptr 1 0] (bI s z a n c) 2 H K:=by
 refine aJ af aa func154 call154 ntmps154 results154 rfl rfl ?_
 refine q8 (s:=s) (z:=z) ho hA hs ha fun a1 n1 c1 H1 ak bh=>?_
 exact⟨.v (.slice a1 n1 c1),bI s z a n c,2,[(0,0),(1,1)],by (repeat' first|exact trivial|refine⟨?_,?_⟩|exact rfl|assumption),hK _ _ _ _ ak bh⟩
theorem nP {s:gY} {z:SA} (ho:gd s) {most:Nat} (Ut:most≤1000000) (hs:dB H s z) (hK:∀a1 n1 c1 k H',Le H H'→RL H' a1 n1 c1 (b6 s most (eU s))→K (.tuple #[.slice a1 n1 c1,.int .i64 k,.int .i64 0]) H'):
  aq prog 101 [dG s z,.int .i64 (most:Nat)] H K:=by
 refine ab af aa rfl func101 call101 ntmps101 results101 rfl rfl ?_
 refine .inr ⟨Nat×List Wd×(Option Addr×Nat×Nat),fun _=>0,fun q=>⟨[(1,.v (.int .i64 (most:Nat))),(2,.ptr 0 0),(7,.ptr 1 0),(9,.v (.int .i64 q.1)),(10,.fn 154 [.ptr 0 0,.ptr 1 0])],bI s z q.2.2.1 q.2.2.2.1 q.2.2.2.2,2⟩,
  fun q H'=>Le H H'∧RL H' q.2.2.1 q.2.2.2.1 q.2.2.2.2 q.2.1∧j5 s q.2.1∧q.1≤most∧b6 s most (eU s)=b6 s (most - q.1) q.2.1,fun q=>most - q.1,?_,?_⟩
 ·refine iP (s:=s) (z:=z) ho hs fun v css H3 H1 az bf ak hv=>?_
  obtain⟨a,n,c,rfl,hr⟩:=RL.aC (α:=Wd) hv (RC.up bf ak.le);have hle:Le H H1:=az.trans ak.le;have hr:RL H1 a n c (eU s):=hr;have hA:=kp s;have hI:b6 s most (eU s)=b6 s (most - 0) (eU s):=rfl;refine⟨fun h=>absurd rfl (nt h),fun _=>?_⟩;refine⟨[0,1],rfl,kT (s:=s) (z:=z) ho hA (hs.up hle) hr fun a2 n2 c2 H2 ah bj=>?_⟩;have MZ:=iQ ho hA;refine⟨fun h=>?_,fun h=>?_⟩
  ·have aj:0<most:=by have:=dt h; omega
   have bc:b6 s (most - 0) (eU s)=if (eU s)=cW s (eU s) then (eU s) else b6 s (most - (0+1)) (cW s (eU s)):=by
    rw[show most - 0=(most - (0+1))+1 by omega,b6]
   refine nO (hr.up ah) bj ?_;refine⟨fun h=>?_,fun h=>?_⟩
   ·have cu:=nt h;rw[bc,if_neg cu]at hI;refine⟨⟨by  omega,by  omega⟩,?_⟩;refine⟨(0+1,cW s (eU s),(a2,n2,c2)),[(0,0),(1,1)],rfl,?_,⟨hle.trans ah,bj,MZ,aj,hI⟩⟩
    (repeat' first|exact trivial|refine⟨?_,?_⟩|exact rfl|assumption)
   ·have heq:=nf h;rw[bc,if_pos heq]at hI;rw[hI]at hK;exact hK _ _ _ _ _ (hle.trans ah) (hr.up ah)
  ·have vu:¬0<most:=by have:=df h; omega
   rw[show most - 0=0 by omega,b6]at hI;rw[hI]at hK;exact hK _ _ _ _ _ (hle.trans ah) (hr.up ah)
 ·rintro⟨k,A,a,n,c⟩ H1 _ ⟨hle,hr,hA,hk,hI⟩;dsimp only at hr hA hk hI;refine⟨[0,1],rfl,kT (s:=s) (z:=z) ho hA (hs.up hle) hr fun a2 n2 c2 H2 ah bj=>?_⟩;have MZ:=iQ ho hA;refine⟨fun h=>?_,fun h=>?_⟩
  ·have aj:k<most:=by have:=dt h;dsimp only at this;omega
   have bc:b6 s (most - k) A=if A=cW s A then A else b6 s (most - (k+1)) (cW s A):=by
    rw[show most - k=(most - (k+1))+1 by omega,b6]
   refine nO (hr.up ah) bj ?_;refine⟨fun h=>?_,fun h=>?_⟩
   ·have cu:=nt h;rw[bc,if_neg cu]at hI;refine⟨⟨by dsimp only;omega,by dsimp only;omega⟩,?_⟩;refine⟨(k+1,cW s A,(a2,n2,c2)),[(0,0),(1,1)],rfl,?_,⟨hle.trans ah,bj,MZ,aj,hI⟩,by dsimp only;omega⟩
    (repeat' first|exact trivial|refine⟨?_,?_⟩|exact rfl|assumption)
   ·have heq:=nf h;rw[bc,if_pos heq]at hI;rw[hI]at hK;exact hK _ _ _ _ _ (hle.trans ah) (hr.up ah)
  ·have vu:¬k<most:=by have:=df h;dsimp only at this;omega
   rw[show most - k=0 by omega,b6]at hI;rw[hI]at hK;exact hK _ _ _ _ _ (hle.trans ah) (hr.up ah)
theorem pf {s:gY} {z:SA} (ho:gd s) (hs:dB H s z) (hK:∀a1 n1 c1 k H',Le H H'→RL H' a1 n1 c1 (cU s)→K (.tuple #[.slice a1 n1 c1,.int .i64 k,.int .i64 0]) H'):aq prog 65 [dG s z] H K:=by
 refine ab af aa rfl func65 call65 ntmps65 results65 rfl rfl ?_;refine⟨some ([],[0,1,2,3,4,5,6,7,8,9]),by kernel_rfl,?_⟩;refine pc (s:=s) (z:=z) ho ?_
 refine nP (s:=s) (z:=z) ho (eT ho) hs fun a1 n1 c1 k H1 ak bh=>?_
 exact hK _ _ _ _ _ ak bh
def sA (s:gY) (A:List Wd):List Wd:=(List.range s.m).map fun v=>yH (yn s v) (mM A v)
theorem tP {s:gY} {z:SA} (ho:gd s) {H:Hp} {K:SV→St→Hp→Prop} (hs:dB H s z) (hK:∀css H',Le H H'→RC (α:=Wd) H' css (eU s)→K (.eo [.own 0,.v (.int .i64 0)]) ⟨[],[(0,.row 103 1 css)],1⟩ H'):
  aY prog 103 [.agg (vL (fc s z))] [] 0 H K:=by
 refine fF (args:=[dG s z]) (fun _=>rfl) (iP (s:=s) (z:=z) ho hs (K:=fun v H'=>∃x css H3,v = .tuple #[x,.int .i64 0]∧Le H H3∧RC (α:=Wd) H3 css (eU s)∧qp 103 1 css H3 x H') (fun v css H3 H' h1 h2 h3 _=>⟨v,css,H3,rfl,h1,h2,h3⟩)) ?_;rintro v H2 hle ⟨x,css,H3,rfl,h1,h2,h3⟩;refine .inr ⟨103,1,css,x,.eo [.own 0,.v (.int .i64 0)],fun ρ hρ=>?_,rfl,(qp.base h1 h3).new,M3 h2,fun H' ah iF=>hK css H' ah (RC.up h2 fun b o hb=>iF b o (h3.le b o hb) fun e=>?_)⟩
 ·show Value.tuple #[ρ.val 0,.int .i64 0]=_;rw[hρ]
 ·rcases h3.new with ⟨h4,_⟩ | ⟨g,cap,cc,h4,h5,_⟩
  ·rw[h4]at e;cases e
  ·rw[h4]at e;simp only[Value.ownBlock,Option.some.injEq]at e;subst e;rw[h5]at hb;cases hb
noncomputable def WA:Cx:={ P:=prog,tt:=tt,n:=0,wrap:=false,base:=0,gf:=103::cx.gf,eqs:=cx.eqs,xf:=[] }
theorem GG:eH WA:=⟨af.tt,af.eqs⟩
theorem q9 {s:gY} {z:SA} (ho:gd s) {A:List Wd} (hA:j5 s A) {a:Option Addr} {n c:Nat} (hs:dB H s z) (ha:RL H a n c A) (hK:∀a1 n1 c1 H',Le H H'→RL H' a1 n1 c1 (sA s A)→K (.tuple #[.slice a1 n1 c1,.int .i64 0]) H'):aq prog 66 [dG s z,.slice a n c] H K:=by
 have hm:=ho.m;have hw:=ho.w;have Fa:=ha.aB;have xh:=hA.len;refine ab GG aa rfl func66 call66 ntmps66 results66 rfl rfl ?_;refine⟨[],rfl,tP (s:=s) (z:=z) ho hs fun GH H1 ak M4=>?_⟩
 have M5:GH.length=s.m:=by have h1:=M4.1;rw[(kp s).len]at h1;exact h1
 refine⟨fun h=>absurd rfl (nt h),fun _=>?_⟩;refine⟨fun h=>absurd (by rw[Fa,xh,M5]) (nt h),fun _=>?_⟩
 refine⟨Nat×List (List Value),fun q=>⟨[(1,.v (.slice a n c)),(2,.ptr 0 0),(6,.own 1),(23,.v (.int .i64 (s.m:Nat))),(24,.v (.int .i64 q.1))],[(0,.cells 106 (vL (fc s z))),(1,.row 103 1 q.2)],2⟩,
  fun q H'=>Le H H'∧q.1≤s.m∧RC (α:=Wd) H' q.2 (ox (fun v=>yH (yn s v) (mM A v)) (rq s.wh s.w) s.m q.1),fun q=>s.m - q.1,⟨(0,GH),[(0,0),(1,1)],?_,ak,Nat.zero_le _,by rw[zW];exact M4⟩,?_⟩
 ·have e:SV.v (.int .i64 (GH.length:Nat))=SV.v (.int .i64 (s.m:Nat)):=by rw[M5]
  (repeat' first|exact trivial|refine⟨?_,?_⟩|exact rfl|assumption)
 rintro⟨i,css⟩ H2 _ ⟨ah,hi,bf⟩;dsimp only at hi bf
 have fC:css.length=s.m:=by have h1:=bf.1;simpa [ox] using h1
 refine⟨fun h=>?_,fun h=>?_⟩
 ·have aj:i<s.m:=by have:=dt h;dsimp only at this;omega
  refine dj (ha.up ah) (eS hA aj) fun ad a5 n5 c5 q1 hh bh=>?_
  refine⟨some ([1],[0,1,2,3,4,5,6,7,8,9,10,11,12,13,14]),by kernel_rfl,?_⟩;refine⟨ad,⟨by dsimp only;omega,by dsimp only;omega,q1⟩,?_⟩;refine⟨_,hh,?_⟩
  refine tN (s:=s) (z:=z) ho aj (fO hA aj) (hs.up ah) bh fun a6 n6 c6 H3 az ji=>?_
  have b8:=RC.up bf az
  refine lJ b8 (D4 _ _ aj) fun a0 n0 c0 hg _=>?_
  have rB:css[(i:Int).toNat]?=_:=hg;refine⟨⟨by dsimp only;omega,by dsimp only;omega⟩,?_⟩;refine⟨_,rB,?_⟩
  have nC:RC (α:=Wd) H3 (css.set i [.slice a6 n6 c6]) (ox (fun v=>yH (yn s v) (mM A v)) (rq s.wh s.w) s.m (i+1)):=by
   rw[←D5 _ _ aj];exact o9 b8 ji
  refine⟨fun h=>absurd rfl (nt h),fun _=>?_⟩;refine⟨⟨by dsimp only;omega,by dsimp only;omega⟩,(i+1,css.set i [.slice a6 n6 c6]),[(0,0),(1,1)],?_,⟨ah.trans az,aj,nC⟩,by dsimp only;omega⟩
  (repeat' first|exact trivial|refine⟨?_,?_⟩|exact rfl|assumption)
 ·have aX:i=s.m:=by have:=df h;dsimp only at this;omega
  rw[aX,zX]at bf;intro v H6 aI cZ;obtain⟨a7,n7,c7,rfl,dz⟩:=RL.aC (α:=Wd) cZ (RC.up bf aI.le);exact hK _ _ _ _ (ah.trans aI.le) dz
end Bt
end Go.Proofs
end
section
namespace Go.Proofs
namespace Bt
open Go.Sy
open Tryz
variable {H:Hp} {K:Value→Hp→Prop}
theorem nQ {s:gY} {z:SA} (ho:gd s) (hK:K (.int .i64 (dA s:Nat)) H):aq prog 129 [dG s z] H K:=by
 have hE:=eT ho
 have ee:((s.m:Int))*((s.w:Nat):Int)=((s.m*s.w:Nat):Int):=by push_cast;rfl
 refine ab af aa rfl func129 call129 ntmps129 results129 rfl rfl ?_;refine⟨some ([],[0,1,2,3,4,5,6,7,8,9]),by kernel_rfl,?_⟩;refine nI ho.wh ho.w ?_;unfold dA at hE;refine⟨⟨by rw[ee];omega,by rw[ee];omega⟩,?_⟩;refine⟨⟨by rw[ee];omega,by rw[ee];omega⟩,?_⟩;exact cT hK (by rw[ee,dA];push_cast;rfl)
theorem qb {s:gY} {z:SA} (ho:gd s) {v:Int} (hv:0≤v∧v<(s.m:Nat)) {x:Wd} (hx:okB s.w x) {a:Option Addr} {n c:Nat} (hs:dB H s z) (ha:RL H a n c x) (hK:∀a1 n1 c1 H',Le H H'→RL H' a1 n1 c1 (yH (yn s v.toNat) x)→K (.slice a1 n1 c1) H'):
  aq prog 237 [dG s z,.int .i64 v,.slice a n c] H K:=by
 have Bo:=hs.t.aB;rw[List.length_map,ho.Tl]at Bo;refine ab af aa rfl func237 call237 ntmps237 results237 rfl rfl ?_
 refine km hs.t (nK ho (v:=v.toNat) (by omega)) fun ad zt e1 hh bh=>?_
 rw[Int.toNat_of_nonneg hv.1]at hh;refine⟨some ([],[0,1,2,3,4,5,6,7,8,9]),by kernel_rfl,?_⟩;refine⟨ad,⟨by omega,by omega,e1⟩,?_⟩;refine⟨_,hh,?_⟩
 refine lI ho.wh ho.w hx (j4 ho v.toNat) ha bh fun a2 n2 c2 H2 ah bj=>?_
 exact hK _ _ _ _ ah bj
theorem pg {s:gY} {z:SA} (ho:gd s) {v:Nat} (hs:dB H s z) (hK:∀a1 n1 c1 H',Le H H'→RL H' a1 n1 c1 (cg s v)→K (.slice a1 n1 c1) H'):aq prog 240 [dG s z,.int .i64 (v:Nat)] H K:=by
 have hi:=ho.vp.1;have hw:=ho.w
 have cN:aU s.w≤16:=by unfold aU;omega
 refine ab af aa rfl func240 call240 ntmps240 results240 rfl rfl ?_;refine Io hs.n ?_;refine⟨fun h=>?_,fun h=>?_⟩
 ·have hm:(v:Int)∈s.vo:=dt h;have e:cg s v=s.vp:=if_pos hm;rw[e]at hK;obtain⟨css,gF,bf⟩:=hs.i.row;have fC:css.length=s.vp.length:=bf.1;refine⟨css,gF,?_⟩;refine⟨⟨by show (0+css.length)*8≤140737488355328;omega,by show 0+css.length≤9223372036854775807;omega⟩,?_⟩;intro y H1 ak hy;obtain⟨a1,n1,c1,rfl,hr⟩:=RL.aC (α:=UInt64) hy (RC.up bf ak.le);exact hK _ _ _ _ ak.le hr
 ·have hm:¬(v:Int)∈s.vo:=df h;have e:cg s v=rq s.wh s.w:=if_neg hm;rw[e]at hK;exact mK ho.wh hw hK
theorem nR {s:gY} {z:SA} (ho:gd s) (hK:∀a1 n1 c1 H',Le H H'→RL H' a1 n1 c1 (eU s)→K (.slice a1 n1 c1) H'):aq prog 188 [dG s z] H K:=by
 have hm:=ho.m;have hw:=ho.w;refine ab af aa rfl func188 call188 ntmps188 results188 rfl rfl ?_
 refine⟨Nat×List (List Value),fun q=>⟨[(1,.ptr 0 0),(3,.own 1),(4,.v (.int .i64 q.1))],[(0,.cells 106 (vL (fc s z))),(1,.row 103 1 q.2)],2⟩,
  fun q H'=>Le H H'∧q.1≤s.m∧RC (α:=Wd) H' q.2 (List.replicate q.1 (rq s.wh s.w)),fun q=>s.m - q.1,⟨(0,[]),[(0,0)],?_,Le.refl H,Nat.zero_le _,RC.nil⟩,?_⟩
 ·(repeat' first|exact trivial|refine⟨?_,?_⟩|exact rfl|assumption)
 rintro⟨i,css⟩ H1 _ ⟨ak,hi,bf⟩;dsimp only at hi bf
 have fC:css.length=i:=by have h1:=bf.1;simpa using h1
 refine⟨fun h=>?_,fun h=>?_⟩
 ·have aj:i<s.m:=by have:=dt h;dsimp only at this;omega
  refine mK ho.wh hw fun a1 n1 c1 H2 ah bh=>?_
  refine⟨⟨by show (css.length+1)*24≤140737488355328;omega,by show css.length+1≤9223372036854775807;omega⟩,?_⟩
  have b8:RC (α:=Wd) H2 (css++[[.slice a1 n1 c1]]) (List.replicate (i+1) (rq s.wh s.w)):=by
   rw[List.replicate_succ'];exact vU (RC.up bf ah) bh
  refine⟨⟨by dsimp only;omega,by dsimp only;omega⟩,(i+1,css++[[.slice a1 n1 c1]]),[(0,0),(1,3)],?_,⟨ak.trans ah,aj,b8⟩,by dsimp only;omega⟩
  (repeat' first|exact trivial|refine⟨?_,?_⟩|exact rfl|assumption)
 ·have aX:i=s.m:=by have:=df h;dsimp only at this;omega
  rw[aX]at bf;intro v H6 aI cZ;obtain⟨a7,n7,c7,rfl,dz⟩:=RL.aC (α:=Wd) cZ (RC.up bf aI.le);exact hK _ _ _ _ (ak.trans aI.le) dz
def eE (s:gY) (A:List Wd) (v:Nat) (x:Wd) (e:cV):Wd:=if e.2=(v:Int) then jP s.wh x (GD s A e) else x
def gP (s:gY) (A:List Wd):List Wd:=(List.range s.m).map fun v=>s.E.foldl (eE s A v) (cg s v)
theorem sB {s:gY} {A:List Wd} {v:Nat}:∀(l:List cV) (L:List Wd),v<L.length→(∀e∈l,0≤e.2∧e.2<(L.length:Nat))→(l.foldl (cM s A) L)[v]?=some (l.foldl (eE s A v) (mM L v))
 | [],L,h,_=>by rw[List.foldl_nil,List.foldl_nil,mM,aL h];rfl
 | e::r,L,h,he=>by
  have h1:=he e List.mem_cons_self
  have hl:(cM s A L e).length=L.length:=by rw[cM,List.length_set]
  rw[List.foldl_cons,List.foldl_cons,sB r (cM s A L e) (by rw[hl];exact h) (fun e' JU=>by rw[hl];exact he e' (List.mem_cons_of_mem _ JU))]
  congr 2
  rw[eE]
  by_cases hv:e.2=(v:Int)
  ·have xr:e.2.toNat=v:=by omega
   rw[if_pos hv,cM,xr,mM,List.getElem?_set_self h];rfl
  ·have xr:e.2.toNat≠v:=by omega
   rw[if_neg hv,cM,mM,List.getElem?_set_ne xr];rfl
theorem xJ {s:gY} (ho:gd s) (A:List Wd):gP s A=cW s A:=by
 have j1:(da s).length=s.m:=by simp [da]
 have yk:∀(l:List cV) (L:List Wd),(l.foldl (cM s A) L).length=L.length:=by
  intro l
  induction l with
  | nil=>exact fun _=>rfl
  | cons e r ih=>intro L;rw[List.foldl_cons,ih,cM,List.length_set]
 apply List.ext_getElem?;intro v
 by_cases hv:v<s.m
 ·rw[cW,sB s.E (da s) (by omega) (fun e he=>by rw[j1];exact (ho.En e he).2),gP,List.getElem?_map,List.getElem?_range hv]
  have:mM (da s) v=cg s v:=by rw[mM,da,List.getElem?_map,List.getElem?_range hv];rfl
  rw[this];rfl
 ·rw[List.getElem?_eq_none (by simp [gP];omega),List.getElem?_eq_none (by rw[cW,yk,j1];omega)]
theorem ph {s:gY} (ho:gd s) {A:List Wd} (hA:j5 s A) {v:Nat}:∀(l:List cV) {x:Wd},(∀e∈l,0≤e.1∧e.1<(s.m:Nat))→okB s.w x→okB s.w (l.foldl (eE s A v) x)
 | [],_,_,h=>h
 | e::r,x,hl,h=>by
  refine ph ho hA r (x:=eE s A v x e) (fun e he=>hl e (List.mem_cons_of_mem _ he)) ?_;unfold eE;split
  ·exact sP h (ko ho hA (hl e List.mem_cons_self))
  ·exact h
theorem rb {s:gY} {z:SA} (ho:gd s) {A:List Wd} (hA:j5 s A) {a:Option Addr} {n c:Nat} (hs:dB H s z) (ha:RL H a n c A) (hK:∀a1 n1 c1 H',Le H H'→RL H' a1 n1 c1 (cW s A)→K (.slice a1 n1 c1) H'):
  aq prog 189 [dG s z,.slice a n c] H K:=by
 have hm:=ho.m;have hw:=ho.w;have cu:=hs.e.aB;have yu:=hs.e.le;have Fa:=ha.aB;have xh:=hA.len;rw[←xJ ho]at hK;refine ab af aa rfl func189 call189 ntmps189 results189 rfl rfl ?_
 refine⟨Nat×List (List Value),fun q=>⟨[(1,.v (.slice a n c)),(2,.ptr 0 0),(5,.own 1),(6,.v (.int .i64 q.1))],[(0,.cells 106 (vL (fc s z))),(1,.row 103 1 q.2)],2⟩,
  fun q H'=>Le H H'∧q.1≤s.m∧RC (α:=Wd) H' q.2 ((gP s A).take q.1),fun q=>s.m - q.1,⟨(0,[]),[(0,0)],?_,Le.refl H,Nat.zero_le _,RC.nil⟩,?_⟩
 ·(repeat' first|exact trivial|refine⟨?_,?_⟩|exact rfl|assumption)
 rintro⟨i,css⟩ H1 _ ⟨ak,hi,bf⟩;dsimp only at hi bf
 have rO:(gP s A).length=s.m:=by simp [gP]
 have fC:css.length=i:=by have h1:=bf.1;rw[List.length_take]at h1;omega
 refine⟨fun h=>?_,fun h=>?_⟩
 ·have aj:i<s.m:=by have:=dt h;dsimp only at this;omega
  have bc:(gP s A).take (i+1)=(gP s A).take i++[s.E.foldl (eE s A i) (cg s i)]:=by
   rw[List.take_add_one,gP,List.getElem?_map,List.getElem?_range aj];rfl
  refine pg (s:=s) (z:=z) ho (hs.up ak) fun a1 n1 c1 H2 ah bh=>?_
  refine⟨Nat×Wd×(Option Addr×Nat×Nat),fun q=>⟨[(1,.v (.slice a n c)),(2,.ptr 0 0),(5,.own 1),(6,.v (.int .i64 (i:Nat))),(7,.v (.slice q.2.2.1 q.2.2.2.1 q.2.2.2.2)),(20,.v (.slice z.ea z.en z.ec)),(21,.v (.int .i64 z.en)),(22,.v (.int .i64 q.1))],[(0,.cells 106 (vL (fc s z))),(1,.row 103 1 css)],2⟩,
   fun q H'=>Le H2 H'∧q.1≤s.E.length∧RL H' q.2.2.1 q.2.2.2.1 q.2.2.2.2 q.2.1∧q.2.1=(s.E.take q.1).foldl (eE s A i) (cg s i),fun q=>s.E.length - q.1,⟨(0,cg s i,(a1,n1,c1)),[(0,0),(1,1)],?_,Le.refl H2,Nat.zero_le _,bh,rfl⟩,?_⟩
  ·(repeat' first|exact trivial|refine⟨?_,?_⟩|exact rfl|assumption)
  rintro⟨j,x,a2,n2,c2⟩ H3 _ ⟨az,hj,bj,hx⟩;dsimp only at hj bj hx
  have WB:okB s.w x:=by rw[hx];exact ph ho hA _ (fun e he=>(ho.En e (List.mem_of_mem_take he)).1) (mL ho i)
  have hle:=(ak.trans ah).trans az;refine⟨fun h=>?_,fun h=>?_⟩
  ·have eD:j<s.E.length:=by have:=dt h;dsimp only at this;omega
   refine aD s.E[j] fun e yw=>?_
   have sr:s.E[j]?=some e:=by rw[yw];exact aL eD
   have D0:=ho.En e (by rw[yw];exact List.getElem_mem eD)
   have kk:(s.E.take (j+1)).foldl (eE s A i) (cg s i)=eE s A i x e:=by
    rw[hx,List.take_add_one,sr,Option.toList_some,List.foldl_append];rfl
   refine qV (hs.up hle).e sr fun ad q1 hh=>?_
   refine⟨ad,⟨by dsimp only;omega,by dsimp only;omega,q1⟩,?_⟩;refine⟨_,hh,?_⟩;refine⟨fun h=>?_,fun h=>?_⟩
   ·have y9:e.2=(i:Int):=dt h
    have Ke:e.1.toNat<s.m:=by omega
    have Pq:((e.1.toNat:Nat):Int)=e.1:=Int.toNat_of_nonneg D0.1.1
    refine dj (ha.up hle) (eS hA Ke) fun sy a3 n3 c3 q3 ql db=>?_
    rw[Pq]at ql;refine⟨some ([],[0,1,2,3,4,5,6,7,8,9,10,11,12,13]),by kernel_rfl,?_⟩;refine⟨sy,⟨by omega,by omega,q3⟩,?_⟩;refine⟨_,ql,?_⟩
    refine qb (s:=s) (z:=z) ho D0.1 (fO hA Ke) (hs.up hle) db fun a4 n4 c4 H4 aN fm=>?_
    refine o6 ho.wh hw WB (ko ho hA D0.1) (bj.up aN) fm fun a5 n5 c5 H5 aK ct=>?_
    refine⟨⟨by omega,by omega⟩,(j+1,eE s A i x e,(a5,n5,c5)),[(0,0),(1,1)],?_,⟨(az.trans aN).trans aK,eD,by rw[eE,if_pos y9];exact ct,kk.symm⟩,by dsimp only;omega⟩
    (repeat' first|exact trivial|refine⟨?_,?_⟩|exact rfl|assumption)
   ·have y9:¬e.2=(i:Int):=df h;refine⟨⟨by dsimp only;omega,by dsimp only;omega⟩,(j+1,x,(a2,n2,c2)),[(0,0),(1,1)],?_,⟨az,eD,bj,by rw[kk,eE,if_neg y9]⟩,by dsimp only;omega⟩
    (repeat' first|exact trivial|refine⟨?_,?_⟩|exact rfl|assumption)
  ·have eD:j=s.E.length:=by have:=df h;dsimp only at this;omega
   rw[eD,List.take_length]at hx;refine⟨⟨by show (css.length+1)*24≤140737488355328;omega,by show css.length+1≤9223372036854775807;omega⟩,?_⟩
   have b8:RC (α:=Wd) H3 (css++[[.slice a2 n2 c2]]) ((gP s A).take (i+1)):=by
    rw[bc,←hx];exact vU (RC.up bf (ah.trans az)) bj
   refine⟨⟨by omega,by omega⟩,(i+1,css++[[.slice a2 n2 c2]]),[(0,0),(1,3)],?_,⟨hle,aj,b8⟩,by dsimp only;omega⟩
   (repeat' first|exact trivial|refine⟨?_,?_⟩|exact rfl|assumption)
 ·have aX:i=s.m:=by have:=df h;dsimp only at this;omega
  rw[aX,List.take_of_length_le (by omega)]at bf;intro v H6 aI cZ;obtain⟨a7,n7,c7,rfl,dz⟩:=RL.aC (α:=Wd) cZ (RC.up bf aI.le);exact hK _ _ _ _ (ak.trans aI.le) dz
theorem pj {s:gY} {z:SA} (ho:gd s) {most:Nat} (Ut:most≤1000000) (hs:dB H s z) (hK:∀a1 n1 c1 k H',Le H H'→RL H' a1 n1 c1 (b6 s most (eU s))→K (.tuple #[.slice a1 n1 c1,.int .i64 k]) H'):
  aq prog 128 [dG s z,.int .i64 (most:Nat)] H K:=by
 refine ab af aa rfl func128 call128 ntmps128 results128 rfl rfl ?_
 refine nR (s:=s) (z:=z) ho fun a n c H1 ak bh=>?_
 refine⟨Nat×List Wd×(Option Addr×Nat×Nat),fun q=>⟨[(1,.v (.int .i64 (most:Nat))),(2,.ptr 0 0),(6,.v (.slice q.2.2.1 q.2.2.2.1 q.2.2.2.2)),(7,.v (.int .i64 q.1))],[(0,.cells 106 (vL (fc s z)))],1⟩,
  fun q H'=>Le H H'∧RL H' q.2.2.1 q.2.2.2.1 q.2.2.2.2 q.2.1∧j5 s q.2.1∧q.1≤most∧b6 s most (eU s)=b6 s (most - q.1) q.2.1,fun q=>most - q.1,⟨(0,eU s,(a,n,c)),[(0,0)],?_,ak,bh,kp s,Nat.zero_le _,rfl⟩,?_⟩
 ·(repeat' first|exact trivial|refine⟨?_,?_⟩|exact rfl|assumption)
 rintro⟨k,A,a,n,c⟩ H2 _ ⟨hle,hr,hA,hk,hI⟩;dsimp only at hr hA hk hI;refine⟨fun h=>?_,fun h=>?_⟩
 ·have aj:k<most:=by have:=dt h;dsimp only at this;omega
  have bc:b6 s (most - k) A=if A=cW s A then A else b6 s (most - (k+1)) (cW s A):=by
   rw[show most - k=(most - (k+1))+1 by omega,b6]
  refine rb (s:=s) (z:=z) ho hA (hs.up hle) hr fun a2 n2 c2 H3 az db=>?_
  have MZ:=iQ ho hA;refine uO (hr.up az) db ?_;refine⟨fun h=>?_,fun h=>?_⟩
  ·have heq:=dt h;rw[bc,if_pos heq]at hI;rw[hI]at hK;exact hK _ _ _ _ _ (hle.trans az) (hr.up az)
  ·have cu:=df h;rw[bc,if_neg cu]at hI;refine⟨⟨by dsimp only;omega,by dsimp only;omega⟩,(k+1,cW s A,(a2,n2,c2)),[(0,0)],?_,⟨hle.trans az,db,MZ,aj,hI⟩,by dsimp only;omega⟩
   (repeat' first|exact trivial|refine⟨?_,?_⟩|exact rfl|assumption)
 ·have vu:k=most:=by have:=df h;dsimp only at this;omega
  rw[show most - k=0 by omega,b6]at hI;rw[hI]at hK;exact hK _ _ _ _ _ hle hr
theorem pk {s:gY} {z:SA} (ho:gd s) (hs:dB H s z) (hK:∀a1 n1 c1 H',Le H H'→RL H' a1 n1 c1 (cU s)→K (.slice a1 n1 c1) H'):aq prog 81 [dG s z] H K:=by
 refine ab af aa rfl func81 call81 ntmps81 results81 rfl rfl ?_;refine⟨some ([],[0,1,2,3,4,5,6,7,8]),by kernel_rfl,?_⟩;refine nQ (s:=s) (z:=z) ho ?_
 refine pj (s:=s) (z:=z) ho (eT ho) hs fun a1 n1 c1 k H1 ak bh=>?_
 exact hK _ _ _ _ ak bh
end Bt
end Go.Proofs
end
section
namespace Go.Proofs
open Go.Sy
open Tryz
def qm (V:List aQ) (v:aQ):Wd:=Hb V.length [bw v V 0]
def qn (V:List aQ) (k:Wd) (g:Wd) (l:List aQ):Wd:=l.foldl (fun g v=>vW g (iw (qm V v) k)) g
def lq (V:List aQ) (z:Wd×Wd) (s:Stmt):Wd×Wd:=(qn V z.2 z.1 (iR s),if s.1=3 then z.2 else vW z.2 (qm V s.2.1.l))
def yp (V:List aQ) (b:Block):Wd×Wd :=
 let z:=b.2.1.foldl (lq V) (dn V.length,dn V.length)
 (qn V z.2 z.1 (qz [b.2.2.2.1.1.l]),z.2)
theorem fq (V:List aQ) (v:aQ):okB V.length (qm V v):=Nq _ _
theorem BM {V:List aQ} {k:Wd} (hk:okB V.length k):∀(l:List aQ) {g:Wd},okB V.length g→okB V.length (qn V k g l)
 | [],_,h=>h
 | v::r,g,h=>BM hk r (g:=vW g (iw (qm V v) k)) (ub h (gQ (fq V v) hk))
theorem BN {V:List aQ} {z:Wd×Wd} (h:okB V.length z.1∧okB V.length z.2) (s:Stmt):okB V.length (lq V z s).1∧okB V.length (lq V z s).2:=by
 refine⟨BM h.2 _ h.1,?_⟩;show okB V.length (if s.1=3 then z.2 else vW z.2 (qm V s.2.1.l));split
 ·exact h.2
 ·exact ub h.2 (fq _ _)
theorem EF {V:List aQ}:∀(l:List Stmt) {z:Wd×Wd},okB V.length z.1∧okB V.length z.2→okB V.length (l.foldl (lq V) z).1∧okB V.length (l.foldl (lq V) z).2
 | [],_,h=>h
 | s::r,z,h=>EF r (z:=lq V z s) (BN h s)
theorem Nw (V:List aQ) (b:Block):okB V.length (yp V b).1∧okB V.length (yp V b).2:=by
 have h:=EF (V:=V) b.2.1 (z:=(dn V.length,dn V.length)) ⟨ek _,ek _⟩;exact⟨BM h.2 _ h.1,h.2⟩
abbrev bV (a:Option Addr) (n c:Nat):List (Nat×Bx):=[(0,.cells 71 [.v (.slice a n c)])]
theorem mW {V:List aQ} (hV:V.length≤1024) {v:aQ} {a:Option Addr} {n c:Nat} {H:Hp} {K:SV→St→Hp→Prop} (ha:RL H a n c (iA V)) (hK:∀a1 n1 c1 H',Le H H'→RL H' a1 n1 c1 (qm V v)→K (.v (.slice a1 n1 c1)) ⟨[],bV a n c,1⟩ H'):
  aY prog 150 [.v (.string (bs v)),.ptr 0 0] (bV a n c) 1 H K:=by
 have dd:=ha.aB;rw[List.length_map]at dd;refine aJ af aa func150 call150 ntmps150 results150 rfl rfl ?_;refine⟨some ([1],[0,1,2,3,4,5,6,7]),by kernel_rfl,?_⟩;refine qP ha ?_;intro y H1 ak hy
 have Vl:oh (bw v V 0):=by
  rcases fG v V 0 (Int.le_refl 0) with h | h
  ·rw[h];exact⟨by decide,by decide⟩
  ·exact⟨by omega,by omega⟩
 obtain⟨a7,n7,c7,rfl,dz⟩:=RL.aC (α:=Int) (xs:=[bw v V 0]) (css:=au [bw v V 0]) hy (cD fun x hx=>by rw[List.mem_singleton.1 hx];exact Vl);rw[show ((n:Nat):Int)=(V.length:Nat) by rw[dd]]
 refine bo hV dz fun a1 n1 c1 H2 ah hr=>?_
 exact⟨.v (.slice a1 n1 c1),bV a n c,1,[(0,0)],by (repeat' first|exact trivial|refine⟨?_,?_⟩|exact rfl|assumption),hK _ _ _ _ (ak.le.trans ah) hr⟩
abbrev bU (g k:Option Addr×Nat×Nat) (a:Option Addr) (n c:Nat):List (Nat×Bx) :=
 [(0,.cells 71 [.v (.slice a n c)]),(1,.cells 103 [.v (.slice g.1 g.2.1 g.2.2)]),(2,.cells 103 [.v (.slice k.1 k.2.1 k.2.2)]),(3,.cells 190 [.fn 150 [.ptr 0 0]])]
theorem EG {V:List aQ} (hV:V.length≤1024) {l:List aQ} {kill gen:Wd} (hk:okB V.length kill) (hg:okB V.length gen) {g k:Option Addr×Nat×Nat} {a a2:Option Addr} {n c n2 k2:Nat} {H:Hp} {K:SV→St→Hp→Prop} (ha:RL H a n c (iA V)) (hb:RL H a2 n2 k2 (iA l)) (LM:RL H g.1 g.2.1 g.2.2 gen) (WV:RL H k.1 k.2.1 k.2.2 kill)
  (hK:∀g' H',Le H H'→RL H' g'.1 g'.2.1 g'.2.2 (qn V kill gen l)→K (.eo []) ⟨[],bU g' k a n c,4⟩ H'):
  aY prog 151 [.v (.slice a2 n2 k2),.ptr 1 0,.ptr 3 0,.ptr 2 0] (bU g k a n c) 4 H K:=by
 have lv:=hb.aB;rw[List.length_map]at lv;have eI:=hb.le;refine aJ af aa func151 call151 ntmps151 results151 rfl rfl ?_
 refine⟨Nat×Wd×(Option Addr×Nat×Nat),fun q=>⟨[(1,.ptr 1 0),(2,.ptr 3 0),(3,.ptr 2 0),(7,.v (.slice a2 n2 k2)),(8,.v (.int .i64 n2)),(9,.v (.int .i64 q.1))],bU q.2.2 k a n c,4⟩,
  fun q H'=>Le H H'∧q.1≤l.length∧RL H' q.2.2.1 q.2.2.2.1 q.2.2.2.2 q.2.1∧okB V.length q.2.1∧q.2.1=qn V kill gen (l.take q.1),fun q=>l.length - q.1,⟨(0,gen,g),[(0,0),(1,1),(2,2),(3,3)],?_,Le.refl H,Nat.zero_le _,LM,hg,rfl⟩,?_⟩
 ·(repeat' first|exact trivial|refine⟨?_,?_⟩|exact rfl|assumption)
 rintro⟨i,u,g1,g2,g3⟩ H1 _ ⟨hle,hi,hr,hu,hx⟩;dsimp only at hi hr hu hx;refine⟨fun h=>?_,fun h=>?_⟩
 ·have aj:i<l.length:=by have:=dt h;dsimp only at this;omega
  have bc:qn V kill gen (l.take (i+1))=vW u (iw (qm V l[i]) kill):=by
   rw[qn,List.take_add_one,aL aj,Option.toList_some,List.foldl_append,hx];rfl
  refine uX (hb.up hle) (aL aj) fun ad e1 hh _=>?_
  refine⟨ad,⟨by dsimp only;omega,by dsimp only;omega,e1⟩,?_⟩;refine⟨_,hh,?_⟩;refine⟨none,?_⟩
  refine bH (α:=Option Addr×Nat×Nat) ?_ ?_ (.two 0 3 (.one [1000000,0,1] [0,1,2,4,3,5,6,7]) (.two 0 5 (.one [1000000,0,1] [1,2,4,3,0,5,6,7]) (.one [1000000,0,1] [1,2,4,3,5,0,6,7])))
   (fun g'=>⟨[(1,.ptr 1 0),(2,.ptr 3 0),(3,.ptr 2 0),(7,.v (.slice a2 n2 k2)),(8,.v (.int .i64 n2)),(9,.v (.int .i64 i))],bU g' k a n c,4⟩) (fun g' H'=>Le H H'∧RL H' g'.1 g'.2.1 g'.2.2 (vW u (iw (qm V l[i]) kill))) (by kernel_rfl) ⟨?_,?_,?_⟩ ?_
  ·exact⟨af.tt,af.eqs⟩
  ·exact aa
  ·refine⟨[0],rfl,mW hV (ha.up hle) fun a3 n3 c3 H3 az db=>?_⟩
   refine jO hV (fq V _).1 hk.1 db (WV.up (hle.trans az)) fun a4 n4 c4 H4 aN fm=>?_
   refine ix hV hu.1 (gQ (fq V _) hk).1 (hr.up (az.trans aN)) fm fun a5 n5 c5 H5 aK ct=>?_
   exact⟨(a5,n5,c5),[(0,0),(1,1),(2,2),(3,3)],by (repeat' first|exact trivial|refine⟨?_,?_⟩|exact rfl|assumption),((hle.trans az).trans aN).trans aK,ct⟩
  ·refine⟨[0],rfl,mW hV (ha.up hle) fun a3 n3 c3 H3 az db=>?_⟩
   refine jO hV (fq V _).1 hk.1 db (WV.up (hle.trans az)) fun a4 n4 c4 H4 aN fm=>?_
   refine ix hV hu.1 (gQ (fq V _) hk).1 (hr.up (az.trans aN)) fm fun a5 n5 c5 H5 aK ct=>?_
   exact⟨(a5,n5,c5),[(0,0),(1,1),(2,2),(3,3)],by (repeat' first|exact trivial|refine⟨?_,?_⟩|exact rfl|assumption),((hle.trans az).trans aN).trans aK,ct⟩
  ·refine⟨[0],rfl,mW hV (ha.up hle) fun a3 n3 c3 H3 az db=>?_⟩
   refine jO hV (fq V _).1 hk.1 db (WV.up (hle.trans az)) fun a4 n4 c4 H4 aN fm=>?_
   refine ix hV hu.1 (gQ (fq V _) hk).1 (hr.up (az.trans aN)) fm fun a5 n5 c5 H5 aK ct=>?_
   exact⟨(a5,n5,c5),[(0,0),(1,1),(2,2),(3,3)],by (repeat' first|exact trivial|refine⟨?_,?_⟩|exact rfl|assumption),((hle.trans az).trans aN).trans aK,ct⟩
  rintro⟨g4,g5,g6⟩ H4 _ ⟨aN,fm⟩;refine⟨⟨by omega,by omega⟩,(i+1,vW u (iw (qm V l[i]) kill),(g4,g5,g6)),[(0,0),(1,1),(2,2),(3,3)],?_,⟨aN,aj,fm,ub hu (gQ (fq _ _) hk),bc.symm⟩,by dsimp only;omega⟩
  (repeat' first|exact trivial|refine⟨?_,?_⟩|exact rfl|assumption)
 ·have aX:i=l.length:=by have:=df h;dsimp only at this;omega
  rw[aX,List.take_length]at hx;rw[hx]at hr;exact⟨.eo [],bU (g1,g2,g3) k a n c,4,[(0,0),(1,1),(2,2),(3,3)],by (repeat' first|exact trivial|refine⟨?_,?_⟩|exact rfl|assumption),hK (g1,g2,g3) H1 hle hr⟩
end Go.Proofs
end
section
namespace Go.Proofs
open Go.Sy
open Tryz
abbrev rr (v:Value) (b:Block):List Value:=[.string (bs b.1.l),v,.int .i64 b.2.2.1,.string (bs b.2.2.2.1.1.l),.int .i64 b.2.2.2.1.2.1,.int .i64 b.2.2.2.1.2.2,.string (bs b.2.2.2.2.1.l),.string (bs b.2.2.2.2.2.l)]
abbrev PN (v:Value) (b:Block):Value:=.agg (rr v b).toArray
theorem EH {V:List aQ} (hV:V.length≤1024) {b:Block} (hb:b.2.1.length≤100000) (hT:gi b.2.2) {a la:Option Addr} {n c ln lc:Nat} {H:Hp} {K:Value→Hp→Prop} (ha:RL H a n c (iA V)) (hl:RL H la ln lc b.2.1) (hK:∀z H',Le H H'→Bt.B7 H' (yp V b) z→K (Bt.QG z) H'):
  aq prog 100 [.slice a n c,PN (.slice la ln lc) b] H K:=by
 have hn:=ha.aB;rw[List.length_map]at hn;subst hn;have QE:=hl.aB;refine ab af aa rfl func100 call100 ntmps100 results100 rfl rfl ?_;refine⟨none,?_⟩
 refine bH (α:=(Option Addr×Nat×Nat)×(Option Addr×Nat×Nat)) ?_ ?_ (.two 2 6 (.two 2 7 (.two 5 6 (.two 5 7 (.two 6 7 (.one [1000000,3,4] [0,1,3,4,2,5,6,7,8,9]) (.one [1000000,3,4] [0,1,3,4,2,5,7,6,8,9])) (.one [1000000,3,4] [0,1,3,4,2,7,5,6,8,9])) (.two 5 7 (.one [1000000,3,4] [0,1,3,4,2,6,5,7,8,9]) (.two 6 7 (.one [1000000,3,4] [0,1,3,4,2,6,7,5,8,9]) (.one [1000000,3,4] [0,1,3,4,2,7,6,5,8,9])))) (.two 5 6 (.one [1000000,3,4] [0,1,3,4,7,2,5,6,8,9]) (.one [1000000,3,4] [0,1,3,4,7,2,6,5,8,9]))) (.two 2 7 (.two 5 7 (.one [1000000,3,4] [0,1,3,4,6,2,5,7,8,9]) (.one [1000000,3,4] [0,1,3,4,6,2,7,5,8,9])) (.two 6 7 (.one [1000000,3,4] [0,1,3,4,6,7,2,5,8,9]) (.one [1000000,3,4] [0,1,3,4,7,6,2,5,8,9]))))
  (fun q=>⟨[(2,.ptr 0 0),(3,.ptr 1 0),(4,.ptr 2 0),(5,.ptr 3 0),(6,.ptr 4 0)],[(0,.cells 71 [.v (.slice a V.length c)]),(1,.cells 66 (vL (rr (.slice la ln lc) b))),(2,.cells 143 [.v (.slice none 0 0),.v (.slice none 0 0),.v (.slice none 0 0)]),(3,.cells 103 [.v (.slice q.1.1 q.1.2.1 q.1.2.2)]),(4,.cells 103 [.v (.slice q.2.1 q.2.2.1 q.2.2.2)])],5⟩)
  (fun q H'=>Le H H'∧RL H' q.1.1 q.1.2.1 q.1.2.2 (dn V.length)∧RL H' q.2.1 q.2.2.1 q.2.2.2 (dn V.length)) (by kernel_rfl) ?_ ?_
 ·exact⟨af.tt,af.eqs⟩
 ·exact aa
 ·refine⟨?_,?_⟩
  ·refine⟨?_,?_⟩
   ·refine⟨?_,?_⟩
    ·refine⟨?_,?_⟩
     ·refine⟨?_,?_⟩
      ·refine bo hV (l:=[]) bz fun g1 g2 g3 H1 ak rC=>?_
       refine bo hV (l:=[]) bz fun k1 k2 k3 H2 ah og=>?_
       exact⟨((g1,g2,g3),(k1,k2,k3)),[(0,0),(1,1),(2,2),(3,3),(4,4)],by (repeat' first|exact trivial|refine⟨?_,?_⟩|exact rfl|assumption),ak.trans ah,rC.up ah,og⟩
      ·refine bo hV (l:=[]) bz fun g1 g2 g3 H1 ak rC=>?_
       refine bo hV (l:=[]) bz fun k1 k2 k3 H2 ah og=>?_
       exact⟨((g1,g2,g3),(k1,k2,k3)),[(0,0),(1,1),(2,2),(3,4),(4,3)],by (repeat' first|exact trivial|refine⟨?_,?_⟩|exact rfl|assumption),ak.trans ah,rC.up ah,og⟩
     ·refine bo hV (l:=[]) bz fun g1 g2 g3 H1 ak rC=>?_
      refine bo hV (l:=[]) bz fun k1 k2 k3 H2 ah og=>?_
      exact⟨((g1,g2,g3),(k1,k2,k3)),[(0,0),(1,1),(2,2),(3,4),(4,3)],by (repeat' first|exact trivial|refine⟨?_,?_⟩|exact rfl|assumption),ak.trans ah,rC.up ah,og⟩
    ·refine⟨?_,?_⟩
     ·refine bo hV (l:=[]) bz fun g1 g2 g3 H1 ak rC=>?_
      refine bo hV (l:=[]) bz fun k1 k2 k3 H2 ah og=>?_
      exact⟨((g1,g2,g3),(k1,k2,k3)),[(0,0),(1,1),(2,2),(3,3),(4,4)],by (repeat' first|exact trivial|refine⟨?_,?_⟩|exact rfl|assumption),ak.trans ah,rC.up ah,og⟩
     ·refine⟨?_,?_⟩
      ·refine bo hV (l:=[]) bz fun g1 g2 g3 H1 ak rC=>?_
       refine bo hV (l:=[]) bz fun k1 k2 k3 H2 ah og=>?_
       exact⟨((g1,g2,g3),(k1,k2,k3)),[(0,0),(1,1),(2,2),(3,3),(4,4)],by (repeat' first|exact trivial|refine⟨?_,?_⟩|exact rfl|assumption),ak.trans ah,rC.up ah,og⟩
      ·refine bo hV (l:=[]) bz fun g1 g2 g3 H1 ak rC=>?_
       refine bo hV (l:=[]) bz fun k1 k2 k3 H2 ah og=>?_
       exact⟨((g1,g2,g3),(k1,k2,k3)),[(0,0),(1,1),(2,2),(3,4),(4,3)],by (repeat' first|exact trivial|refine⟨?_,?_⟩|exact rfl|assumption),ak.trans ah,rC.up ah,og⟩
   ·refine⟨?_,?_⟩
    ·refine bo hV (l:=[]) bz fun g1 g2 g3 H1 ak rC=>?_
     refine bo hV (l:=[]) bz fun k1 k2 k3 H2 ah og=>?_
     exact⟨((g1,g2,g3),(k1,k2,k3)),[(0,0),(1,1),(2,2),(3,4),(4,3)],by (repeat' first|exact trivial|refine⟨?_,?_⟩|exact rfl|assumption),ak.trans ah,rC.up ah,og⟩
    ·refine bo hV (l:=[]) bz fun g1 g2 g3 H1 ak rC=>?_
     refine bo hV (l:=[]) bz fun k1 k2 k3 H2 ah og=>?_
     exact⟨((g1,g2,g3),(k1,k2,k3)),[(0,0),(1,1),(2,2),(3,4),(4,3)],by (repeat' first|exact trivial|refine⟨?_,?_⟩|exact rfl|assumption),ak.trans ah,rC.up ah,og⟩
  ·refine⟨?_,?_⟩
   ·refine⟨?_,?_⟩
    ·refine bo hV (l:=[]) bz fun g1 g2 g3 H1 ak rC=>?_
     refine bo hV (l:=[]) bz fun k1 k2 k3 H2 ah og=>?_
     exact⟨((g1,g2,g3),(k1,k2,k3)),[(0,0),(1,1),(2,2),(3,3),(4,4)],by (repeat' first|exact trivial|refine⟨?_,?_⟩|exact rfl|assumption),ak.trans ah,rC.up ah,og⟩
    ·refine bo hV (l:=[]) bz fun g1 g2 g3 H1 ak rC=>?_
     refine bo hV (l:=[]) bz fun k1 k2 k3 H2 ah og=>?_
     exact⟨((g1,g2,g3),(k1,k2,k3)),[(0,0),(1,1),(2,2),(3,3),(4,4)],by (repeat' first|exact trivial|refine⟨?_,?_⟩|exact rfl|assumption),ak.trans ah,rC.up ah,og⟩
   ·refine⟨?_,?_⟩
    ·refine bo hV (l:=[]) bz fun g1 g2 g3 H1 ak rC=>?_
     refine bo hV (l:=[]) bz fun k1 k2 k3 H2 ah og=>?_
     exact⟨((g1,g2,g3),(k1,k2,k3)),[(0,0),(1,1),(2,2),(3,3),(4,4)],by (repeat' first|exact trivial|refine⟨?_,?_⟩|exact rfl|assumption),ak.trans ah,rC.up ah,og⟩
    ·refine bo hV (l:=[]) bz fun g1 g2 g3 H1 ak rC=>?_
     refine bo hV (l:=[]) bz fun k1 k2 k3 H2 ah og=>?_
     exact⟨((g1,g2,g3),(k1,k2,k3)),[(0,0),(1,1),(2,2),(3,4),(4,3)],by (repeat' first|exact trivial|refine⟨?_,?_⟩|exact rfl|assumption),ak.trans ah,rC.up ah,og⟩
 rintro⟨⟨g1,g2,g3⟩,⟨k1,k2,k3⟩⟩ H1 _ ⟨ak,rC,og⟩
 refine⟨Nat×(Wd×Wd)×(Option Addr×Nat×Nat)×(Option Addr×Nat×Nat),fun q=>⟨[(3,.ptr 1 0),(4,.ptr 2 0),(5,.ptr 3 0),(6,.ptr 4 0),(7,.ptr 5 0),(8,.fn 151 [.ptr 3 0,.ptr 5 0,.ptr 4 0]),(20,.v (.slice la ln lc)),(21,.v (.int .i64 ln)),(22,.v (.int .i64 q.1))],
  [(0,.cells 71 [.v (.slice a V.length c)]),(1,.cells 66 (vL (rr (.slice la ln lc) b))),(2,.cells 143 [.v (.slice none 0 0),.v (.slice none 0 0),.v (.slice none 0 0)]),(3,.cells 103 [.v (.slice q.2.2.1.1 q.2.2.1.2.1 q.2.2.1.2.2)]),(4,.cells 103 [.v (.slice q.2.2.2.1 q.2.2.2.2.1 q.2.2.2.2.2)]),(5,.cells 190 [.fn 150 [.ptr 0 0]])],6⟩,
  fun q H'=>Le H H'∧q.1≤b.2.1.length∧RL H' q.2.2.1.1 q.2.2.1.2.1 q.2.2.1.2.2 q.2.1.1∧RL H' q.2.2.2.1 q.2.2.2.2.1 q.2.2.2.2.2 q.2.1.2∧(okB V.length q.2.1.1∧okB V.length q.2.1.2)∧q.2.1=(b.2.1.take q.1).foldl (lq V) (dn V.length,dn V.length),
  fun q=>b.2.1.length - q.1,⟨(0,(dn V.length,dn V.length),(g1,g2,g3),(k1,k2,k3)),[(0,0),(1,1),(2,2),(3,3),(4,4),(5,5)],?_,ak,Nat.zero_le _,rC,og,⟨ek _,ek _⟩,rfl⟩,?_⟩
 ·(repeat' first|exact trivial|refine⟨?_,?_⟩|exact rfl|assumption)
 rintro⟨i,z,⟨g1,g2,g3⟩,⟨k1,k2,k3⟩⟩ H2 _ ⟨ah,hi,rB,kY,hz,hx⟩;dsimp only at hi rB kY hz hx;refine⟨fun h=>?_,fun h=>?_⟩
 ·have aj:i<b.2.1.length:=by have:=dt h;dsimp only at this;omega
  refine aD b.2.1[i] fun s hs=>?_
  have dy:b.2.1[i]?=some s:=by rw[hs];exact aL aj
  have bc:(b.2.1.take (i+1)).foldl (lq V) (dn V.length,dn V.length)=lq V z s:=by
   rw[hx,List.take_add_one,dy,Option.toList_some,List.foldl_append];rfl
  have Jc:=BN hz s
  refine du (hl.up ah) dy fun ad e1 hh SB=>?_
  refine⟨ad,⟨by dsimp only;omega,by dsimp only;omega,e1⟩,?_⟩;refine⟨_,hh,?_⟩
  refine xW SB fun u1 u2 u3 H3 az N0=>?_
  refine⟨[0,3,4,5],rfl,EG (g:=(g1,g2,g3)) (k:=(k1,k2,k3)) hV hz.2 hz.1 (ha.up (ah.trans az)) N0 (rB.up az) (kY.up az) fun g' H4 aN XQ=>?_⟩;have IJ:=(ah.trans az).trans aN;refine⟨fun h=>?_,fun h=>?_⟩
  ·have kJ:¬s.1=3:=nt h
   have yI:lq V z s=(qn V z.2 z.1 (iR s),vW z.2 (qm V s.2.1.l)):=by rw[lq,if_neg kJ]
   refine⟨none,?_⟩
   refine bH (α:=Option Addr×Nat×Nat) ?_ ?_ (.two 0 4 (.one [1000000,0,4] [0,1,2,3,4,5,6]) (.one [1000000,0,4] [1,2,3,4,0,5,6]))
    (fun k'=>⟨[(3,.ptr 1 0),(4,.ptr 2 0),(5,.ptr 3 0),(6,.ptr 4 0),(7,.ptr 5 0),(8,.fn 151 [.ptr 3 0,.ptr 5 0,.ptr 4 0]),(20,.v (.slice la ln lc)),(21,.v (.int .i64 ln)),(22,.v (.int .i64 i))],
  [(0,.cells 71 [.v (.slice a V.length c)]),(1,.cells 66 (vL (rr (.slice la ln lc) b))),(2,.cells 143 [.v (.slice none 0 0),.v (.slice none 0 0),.v (.slice none 0 0)]),(3,.cells 103 [.v (.slice g'.1 g'.2.1 g'.2.2)]),(4,.cells 103 [.v (.slice k'.1 k'.2.1 k'.2.2)]),(5,.cells 190 [.fn 150 [.ptr 0 0]])],6⟩)
    (fun k' H'=>Le H4 H'∧RL H' k'.1 k'.2.1 k'.2.2 (vW z.2 (qm V s.2.1.l))) (by kernel_rfl) ⟨?_,?_⟩ ?_
   ·exact⟨af.tt,af.eqs⟩
   ·exact aa
   ·refine⟨[0],rfl,mW hV (ha.up IJ) fun a3 n3 c3 H5 aK ct=>?_⟩
    refine ix hV hz.2.1 (fq V _).1 (kY.up ((az.trans aN).trans aK)) ct fun a6 n6 c6 H6 aI ji=>?_
    exact⟨(a6,n6,c6),[(0,0),(1,1),(2,2),(3,3),(4,4),(5,5)],by (repeat' first|exact trivial|refine⟨?_,?_⟩|exact rfl|assumption),aK.trans aI,ji⟩
   ·refine⟨[0],rfl,mW hV (ha.up IJ) fun a3 n3 c3 H5 aK ct=>?_⟩
    refine ix hV hz.2.1 (fq V _).1 (kY.up ((az.trans aN).trans aK)) ct fun a6 n6 c6 H6 aI ji=>?_
    exact⟨(a6,n6,c6),[(0,0),(1,1),(2,2),(3,3),(4,4),(5,5)],by (repeat' first|exact trivial|refine⟨?_,?_⟩|exact rfl|assumption),aK.trans aI,ji⟩
   rintro⟨k4,k5,k6⟩ H6 _ ⟨aI,ZF⟩;refine⟨⟨by omega,by omega⟩,(i+1,lq V z s,g',(k4,k5,k6)),[(0,0),(1,1),(2,2),(3,3),(4,4),(5,5)],?_,⟨IJ.trans aI,aj,by rw[yI];exact XQ.up aI,by rw[yI];exact ZF,Jc,bc.symm⟩,by dsimp only;omega⟩
   (repeat' first|exact trivial|refine⟨?_,?_⟩|exact rfl|assumption)
  ·have kJ:s.1=3:=nf h
   have yI:lq V z s=(qn V z.2 z.1 (iR s),z.2):=by rw[lq,if_pos kJ]
   refine⟨⟨by dsimp only;omega,by dsimp only;omega⟩,(i+1,lq V z s,g',(k1,k2,k3)),[(0,0),(1,1),(2,2),(3,3),(4,4),(5,5)],?_,⟨IJ,aj,by rw[yI];exact XQ,by rw[yI];exact kY.up (az.trans aN),Jc,bc.symm⟩,by dsimp only;omega⟩
   (repeat' first|exact trivial|refine⟨?_,?_⟩|exact rfl|assumption)
 ·have aX:i=b.2.1.length:=by have:=df h;dsimp only at this;omega
  rw[aX,List.take_length]at hx;intro v H6 aI cZ;obtain⟨a7,n7,c7,rfl,dz⟩:=RL.aC (α:=iz) (css:=ay [b.2.2.2.1.1.l]) (xs:=iA [b.2.2.2.1.1.l]) cZ (dU fun s hs=>by rw[List.mem_singleton.1 hs];exact hT.2.1.1)
  refine kq (l:=[b.2.2.2.1.1.l]) (by show 1≤100000;omega) dz fun u1 u2 u3 H7 cS ZG=>?_
  have EI:=aI.le.trans cS;refine⟨[0,3,4,5],rfl,EG (g:=(g1,g2,g3)) (k:=(k1,k2,k3)) hV hz.2 hz.1 (ha.up (ah.trans EI)) ZG (rB.up EI) (kY.up EI) fun g' H8 jR ZH=>?_⟩
  have ZI:yp V b=(qn V z.2 z.1 (qz [b.2.2.2.1.1.l]),z.2):=by rw[yp,←hx]
  refine hK ⟨g'.1,g'.2.1,g'.2.2,k1,k2,k3⟩ H8 ((ah.trans EI).trans jR) ?_;rw[ZI];exact⟨ZH,kY.up (EI.trans jR)⟩
end Go.Proofs
end
section
namespace Go.Proofs
open Go.Sy
open Tryz
variable {H:Hp} {K:Value→Hp→Prop}
theorem jt {p:Prog} (hp:p.length≤12) {a:Option Addr} {n c:Nat} (ha:RL H a n c p)
 (hK:∀a1 n1 c1 H',Le H H'→RL H' a1 n1 c1 (A5 p)→K (.slice a1 n1 c1) H'):aq prog 98 [.agg #[.slice a n c]] H K:=by
 have dd:=ha.aB;have eI:=ha.le;refine ab af aa rfl func98 call98 ntmps98 results98 rfl rfl ?_
 refine⟨Nat,fun i=>⟨[(3,.own 0),(7,.v (.slice a n c)),(8,.v (.int .i64 n)),(9,.v (.int .i64 i))],[(0,.row 3 1 (au (dV b7 (p.take i) 0)))],1⟩,
  fun i H'=>H'=H∧i≤p.length,fun i=>p.length - i,⟨0,[],?_,rfl,by omega⟩,?_⟩
 ·exact⟨⟨⟨rfl,rfl,rfl⟩,rfl,rfl,rfl,trivial⟩,⟨rfl,trivial⟩⟩
 rintro i H1 _ ⟨rfl,hi⟩;refine⟨fun h=>?_,fun h=>?_⟩
 ·have aj:i<p.length:=by have:=dt h;omega
  obtain⟨ad,cs,q1,hh,r1⟩:=ha.elem (aL aj);obtain⟨a2,n2,c2,rfl,bj,Ii,wM⟩:=cX r1;have bc:=zu b7 aj;have hlen:=w4 b7 (p.take i) 0;rw[List.length_take,Nat.min_eq_left (by omega)]at hlen;have gq:(au (dV b7 (p.take i) 0)).length=(dV b7 (p.take i) 0).length:=List.length_map _;refine⟨ad,⟨by omega,by omega,q1⟩,?_⟩;refine⟨_,hh,?_⟩;refine⟨fun h=>?_,fun h=>?_⟩
  ·have he:b7 p[i]=true:=h;rw[he,if_pos rfl]at bc;refine⟨⟨by show ((au (dV b7 (p.take i) 0)).length+1)*8≤_;omega,by show (au (dV b7 (p.take i) 0)).length+1≤_;omega⟩,?_⟩
   have bL:au (dV b7 (p.take i) 0)++[[.int .i64 (i:Int)]]=au (dV b7 (p.take (i+1)) 0):=by rw[bc];simp
   refine⟨⟨by omega,by omega⟩,i+1,[(0,3)],?_,⟨rfl,by omega⟩,by dsimp only;omega⟩;exact⟨⟨rfl,rfl,rfl,rfl,trivial⟩,⟨bL,trivial⟩⟩
  ·have he:b7 p[i]=false:=h;rw[he]at bc
   have bL:au (dV b7 (p.take i) 0)=au (dV b7 (p.take (i+1)) 0):=by rw[bc];simp
   refine⟨⟨by omega,by omega⟩,i+1,[(0,0)],?_,⟨rfl,by omega⟩,by dsimp only;omega⟩;exact⟨⟨rfl,rfl,rfl,rfl,trivial⟩,⟨bL,trivial⟩⟩
 ·have aX:i=p.length:=by have:=df h;omega
  intro x H2 ah hx;rw[aX,List.take_length]at hx;obtain⟨a1,n1,c1,rfl,hr⟩:=lY hx (A6 _ _ _ (by omega));exact hK _ _ _ _ ah hr
theorem BO {p:Prog} (h:al p=0):(varsOf p).length≤64:=by
 unfold al at h;split at h
 ·cases h
 ·split at h
  ·split at h
   ·cases h
   ·omega
  ·cases h
def ck (p:Prog):Bt.gY:=⟨1,(varsOf p).length,p.length,aR (iZ (aR (aG p))),A5 p,dn (varsOf p).length,p.map (yp (varsOf p))⟩
theorem iS {H:Hp} {css:List (List Value)} {T:List Bt.qB} (h:RC (α:=Bt.qB) H css T) {z:Bt.TA} {t:Wd×Wd} (hx:Bt.B7 H t z):RC (α:=Bt.qB) H (css++[Bt.Hf z]) (T++[Bt.qB.mk t]) :=
 RC.snoc h (show cq.R (α:=Bt.qB) H (Bt.Hf z) (Bt.qB.mk t) from ⟨z,rfl,hx⟩)
theorem eW {p:Prog} {i:Nat} {b:Block} (h:p[i]?=some b):((ck p).T.map Bt.qB.mk).take (i+1)=((ck p).T.map Bt.qB.mk).take i++[Bt.qB.mk (yp (varsOf p) b)]:=by
 have e:((ck p).T.map Bt.qB.mk)[i]?=some (Bt.qB.mk (yp (varsOf p) b)):=by
  show ((p.map (yp (varsOf p))).map Bt.qB.mk)[i]?=_
  rw[List.getElem?_map,List.getElem?_map,h];rfl
 rw[List.take_add_one,e,Option.toList_some]
theorem eF {p:Prog} (hp:p.length≤12):(aR (aG p)).length≤1000000:=by
 have h1:=dP (aG p);have h2:=fa p p 0;rw[aG]at h1 ⊢;omega
theorem KD {p:Prog} (hp:p.length≤12) (hl:∀b∈p,b.2.1.length≤100000) (hc:aw p≤1000000) (hv:iE p<400000) {a:Option Addr} {n c:Nat} (ha:RL H a n c p)
  (fK:al p≠0→∀H',Le H H'→K (.tuple #[.agg mP.toArray,.int .i64 (al p)]) H')
  (hK:al p=0→∀z H',Le H H'→Bt.dB H' (ck p) z→K (.tuple #[Bt.dG (ck p) z,.int .i64 0]) H'):aq prog 64 [.agg #[.slice a n c]] H K:=by
 have hn:=ha.aB;have eI:=ha.le;refine ab af aa rfl func64 call64 ntmps64 results64 rfl rfl ?_
 refine eL ha hc hv fun H0 yv=>?_
 refine⟨fun h=>?_,fun h=>?_⟩
 ·exact fK (nt h) _ (Le.refl H)
 have he:al p=0:=nf h;have hK:=hK he;have Nx:=BO he
 refine kM ha hv fun av nv cv H1 ak yo=>?_
 have uQ:=yo.aB;rw[List.length_map]at uQ;subst uQ;refine⟨none,?_⟩
 refine bH (α:=SA) ?_ ?_
  (.two 6 14 (.two 7 14 (.two 9 14 (.two 12 14 (.two 13 14 (.one [2] [0,1,2,3,4,5,8,10,11,6,7,9,12,13,14,15]) (.one [2] [0,1,2,3,4,5,8,10,11,6,7,9,12,14,13,15])) (.one [2] [0,1,2,3,4,5,8,10,11,6,7,9,14,12,13,15])) (.one [2] [0,1,2,3,4,5,8,10,11,6,7,14,9,12,13,15])) (.one [2] [0,1,2,3,4,5,8,10,11,6,14,7,9,12,13,15])) (.one [2] [0,1,2,3,4,5,8,10,11,14,6,7,9,12,13,15]))
  (fun z=>⟨[(1,.ptr 0 0),(2,.ptr 1 0),(5,.v (.slice av (varsOf p).length cv)),(6,.ptr 2 0)],
   [(0,.cells 24 [.v (.slice a n c)]),(1,.cells 106 (vL mP)),(2,.cells 106 (vL (Bt.fc ⟨1,(varsOf p).length,n,[],[],[],[]⟩ z)))],3⟩)
  (fun z H'=>Le H1 H'∧z.ta=none∧z.tn=0∧z.tc=0∧RL H' z.ea z.en z.ec (aR (iZ (aR (aG p))))∧RL H' z.na z.nn z.nc (A5 p)∧RL H' z.ia z.ni z.ic (dn (varsOf p).length)) (by kernel_rfl) ?_ ?_
 ·exact⟨af.tt,af.eqs⟩
 ·exact aa
 ·refine⟨?_,?_⟩
  ·refine⟨?_,?_⟩
   ·refine⟨?_,?_⟩
    ·refine⟨?_,?_⟩
     ·refine⟨?_,?_⟩
      ·refine cI hp (ha.up ak) fun e1 e2 e3 H2 ah bj=>?_
       refine eR (eF hp) bj fun f1 f2 f3 H3 az db=>?_
       refine jt hp (ha.up ((ak.trans ah).trans az)) fun x1 x2 x3 H4 aN fm=>?_
       refine bo (w:=(varsOf p).length) (l:=[]) (by omega) bz fun w1 w2 w3 H5 aK ct=>?_
       exact⟨⟨f1,f2,f3,x1,x2,x3,w1,w2,w3,none,0,0⟩,[(0,0),(1,1),(2,2)],by (repeat' first|exact trivial|refine⟨?_,?_⟩|exact rfl|assumption),((ah.trans az).trans aN).trans aK,rfl,rfl,rfl,db.up (aN.trans aK),fm.up aK,ct⟩
      ·refine cI hp (ha.up ak) fun e1 e2 e3 H2 ah bj=>?_
       refine eR (eF hp) bj fun f1 f2 f3 H3 az db=>?_
       refine jt hp (ha.up ((ak.trans ah).trans az)) fun x1 x2 x3 H4 aN fm=>?_
       refine bo (w:=(varsOf p).length) (l:=[]) (by omega) bz fun w1 w2 w3 H5 aK ct=>?_
       exact⟨⟨f1,f2,f3,x1,x2,x3,w1,w2,w3,none,0,0⟩,[(0,0),(1,1),(2,2)],by (repeat' first|exact trivial|refine⟨?_,?_⟩|exact rfl|assumption),((ah.trans az).trans aN).trans aK,rfl,rfl,rfl,db.up (aN.trans aK),fm.up aK,ct⟩
     ·refine cI hp (ha.up ak) fun e1 e2 e3 H2 ah bj=>?_
      refine eR (eF hp) bj fun f1 f2 f3 H3 az db=>?_
      refine jt hp (ha.up ((ak.trans ah).trans az)) fun x1 x2 x3 H4 aN fm=>?_
      refine bo (w:=(varsOf p).length) (l:=[]) (by omega) bz fun w1 w2 w3 H5 aK ct=>?_
      exact⟨⟨f1,f2,f3,x1,x2,x3,w1,w2,w3,none,0,0⟩,[(0,0),(1,1),(2,2)],by (repeat' first|exact trivial|refine⟨?_,?_⟩|exact rfl|assumption),((ah.trans az).trans aN).trans aK,rfl,rfl,rfl,db.up (aN.trans aK),fm.up aK,ct⟩
    ·refine cI hp (ha.up ak) fun e1 e2 e3 H2 ah bj=>?_
     refine eR (eF hp) bj fun f1 f2 f3 H3 az db=>?_
     refine jt hp (ha.up ((ak.trans ah).trans az)) fun x1 x2 x3 H4 aN fm=>?_
     refine bo (w:=(varsOf p).length) (l:=[]) (by omega) bz fun w1 w2 w3 H5 aK ct=>?_
     exact⟨⟨f1,f2,f3,x1,x2,x3,w1,w2,w3,none,0,0⟩,[(0,0),(1,1),(2,2)],by (repeat' first|exact trivial|refine⟨?_,?_⟩|exact rfl|assumption),((ah.trans az).trans aN).trans aK,rfl,rfl,rfl,db.up (aN.trans aK),fm.up aK,ct⟩
   ·refine cI hp (ha.up ak) fun e1 e2 e3 H2 ah bj=>?_
    refine eR (eF hp) bj fun f1 f2 f3 H3 az db=>?_
    refine jt hp (ha.up ((ak.trans ah).trans az)) fun x1 x2 x3 H4 aN fm=>?_
    refine bo (w:=(varsOf p).length) (l:=[]) (by omega) bz fun w1 w2 w3 H5 aK ct=>?_
    exact⟨⟨f1,f2,f3,x1,x2,x3,w1,w2,w3,none,0,0⟩,[(0,0),(1,1),(2,2)],by (repeat' first|exact trivial|refine⟨?_,?_⟩|exact rfl|assumption),((ah.trans az).trans aN).trans aK,rfl,rfl,rfl,db.up (aN.trans aK),fm.up aK,ct⟩
  ·refine cI hp (ha.up ak) fun e1 e2 e3 H2 ah bj=>?_
   refine eR (eF hp) bj fun f1 f2 f3 H3 az db=>?_
   refine jt hp (ha.up ((ak.trans ah).trans az)) fun x1 x2 x3 H4 aN fm=>?_
   refine bo (w:=(varsOf p).length) (l:=[]) (by omega) bz fun w1 w2 w3 H5 aK ct=>?_
   exact⟨⟨f1,f2,f3,x1,x2,x3,w1,w2,w3,none,0,0⟩,[(0,0),(1,1),(2,2)],by (repeat' first|exact trivial|refine⟨?_,?_⟩|exact rfl|assumption),((ah.trans az).trans aN).trans aK,rfl,rfl,rfl,db.up (aN.trans aK),fm.up aK,ct⟩
 rintro⟨ea,en,ec,na,nn,nc,ia,ni,ic,ta,tn,tc⟩ H2 _ ⟨ah,Uq,XR,XS,UF,XT,UG⟩;dsimp only at Uq XR XS UF XT UG;subst Uq XR XS
 refine⟨Nat×List (List Value),fun q=>⟨[(1,.ptr 0 0),(2,.ptr 1 0),(5,.v (.slice av (varsOf p).length cv)),(6,.ptr 2 0),(32,.v (.slice a n c)),(33,.v (.int .i64 n)),(34,.v (.int .i64 q.1))],
   [(0,.cells 24 [.v (.slice a n c)]),(1,.cells 106 (vL mP)),(2,.cells 106 [.v (.int .i64 (1:Nat)),.v (.int .i64 ((varsOf p).length:Nat)),.v (.int .i64 n),.v (.slice ea en ec),.v (.slice na nn nc),.v (.slice ia ni ic),.own 3]),(3,.row 143 3 q.2)],4⟩,
  fun q H'=>Le H2 H'∧q.1≤p.length∧RC (α:=Bt.qB) H' q.2 (((ck p).T.map Bt.qB.mk).take q.1),fun q=>p.length - q.1,⟨(0,[]),[(0,0),(1,1),(2,2)],?_,Le.refl _,Nat.zero_le _,RC.nil⟩,?_⟩
 ·(repeat' first|exact trivial|refine⟨?_,?_⟩|exact rfl|assumption)
 rintro⟨j,css⟩ H4 _ ⟨aN,hj,bf⟩;dsimp only at hj bf;have hle:Le H H4:=(ak.trans ah).trans aN
 have Ur:((ck p).T.map Bt.qB.mk).length=p.length:=by simp [ck]
 have fC:css.length=j:=by have h1:=bf.1;rw[List.length_take]at h1;omega
 refine⟨fun h=>?_,fun h=>?_⟩
 ·have aj:j<p.length:=by have:=dt h;dsimp only at this;omega
  refine aD p[j] fun b gV=>?_
  have bG:p[j]?=some b:=by rw[gV];exact aL aj
  refine bF (ha.up hle) bG fun ad a5 n5 c5 q1 hh ct xw vR=>?_
  refine⟨ad,⟨by dsimp only;omega,by dsimp only;omega,q1⟩,?_⟩;refine⟨_,hh,?_⟩;refine⟨some ([1000000,2,3,5],[0,1,2,3,4,5,6,7,8]),by kernel_rfl,?_⟩
  refine EH (V:=varsOf p) (by omega) (hl b (by rw[gV];exact List.getElem_mem aj)) vR (yo.up (ah.trans aN)) ct fun zt H5 aK ji=>?_
  refine⟨⟨by show (css.length+1)*72≤140737488355328;omega,by show css.length+1≤9223372036854775807;omega⟩,?_⟩
  have b8:RC (α:=Bt.qB) H5 (css++[Bt.Hf zt]) (((ck p).T.map Bt.qB.mk).take (j+1)):=by
   rw[eW bG];exact iS (RC.up bf aK) ji
  refine⟨⟨by omega,by omega⟩,(j+1,css++[Bt.Hf zt]),[(0,0),(1,1),(2,2),(3,6)],?_,⟨aN.trans aK,aj,b8⟩,by dsimp only;omega⟩
  (repeat' first|exact trivial|refine⟨?_,?_⟩|exact rfl|assumption)
 ·have eD:j=p.length:=by have:=df h;dsimp only at this;omega
  rw[eD,List.take_of_length_le (by omega)]at bf;intro v3 H7 cS yl
  refine bZ (α:=Bt.qB) yl (RC.up bf cS.le) fun ta tn tc Se db=>?_
  subst Se
  have GJ:Bt.dB H7 (ck p) ⟨ea,en,ec,na,nn,nc,ia,ni,ic,ta,tn,tc⟩ :=
   ⟨UF.up (aN.trans cS.le),XT.up (aN.trans cS.le),UG.up (aN.trans cS.le),db⟩
  have hK:=hK ⟨ea,en,ec,na,nn,nc,ia,ni,ic,ta,tn,tc⟩ H7 (hle.trans cS.le) GJ;have e2:(ck p).m=n:=hn.symm;rw[Bt.dG,Bt.fc,e2]at hK;exact hK
end Go.Proofs
end
section
namespace Go.Proofs
namespace Bt
open Go.Sy
end Bt
end Go.Proofs
end
