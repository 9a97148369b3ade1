/- Part 'M31' of the proof (Bt0, Bt1, Bt2, Bt3, Bt4, Bt5, Bt6, Bt7, Bt8, Bt9, Bt10, Bx0): lemmas, each with its own conditions in its own statement. -/
import Derived.Test.YthmicpkjickejaaGreatRRM2
import Derived.Test.YthmicpkjickejaaGreatRRM29
section
namespace Go.Proofs
open Go.Sy
set_option maxRecDepth 20000
def bitAt (l:Wd) (n:Nat):Bool:=(l[n / 64]?.getD 0).toNat.testBit (n % 64)
def one64 (k:Nat):UInt64:=UInt64.ofNat (2 ^ k)
theorem one64_nat {k:Nat} (h:k<64):(one64 k).toNat=2 ^ k:=by
 rw[one64,UInt64.toNat_ofNat'];exact Nat.mod_eq_of_lt (Nat.pow_lt_pow_right (by omega) h)
def setB (l:Wd) (n:Nat):Wd:=l.set (n / 64) ((l[n / 64]?.getD 0) ||| one64 (n % 64))
theorem setB_len (l:Wd) (n:Nat):(setB l n).length=l.length:=List.length_set
theorem bit_or (x y:UInt64) (k:Nat):(x ||| y).toNat.testBit k=(x.toNat.testBit k||y.toNat.testBit k):=by
 rw[UInt64.toNat_or,Nat.testBit_or]
theorem bit_and (x y:UInt64) (k:Nat):(x &&& y).toNat.testBit k=(x.toNat.testBit k&&y.toNat.testBit k):=by
 rw[UInt64.toNat_and,Nat.testBit_and]
theorem bit_diff (x y:UInt64) (k:Nat):(x &&& ~~~y).toNat.testBit k=(x.toNat.testBit k&&!y.toNat.testBit k):=by
 rw[bit_and]
 have h:(~~~y).toNat.testBit k=(decide (k<64)&&!y.toNat.testBit k):=by
  show (~~~y).toBitVec.getLsbD k=_
  rw[UInt64.toBitVec_not,BitVec.getLsbD_not];rfl
 rw[h]
 by_cases hk:k<64
 ·simp [hk]
 ·have:x.toNat.testBit k=false:=Nat.testBit_lt_two_pow (Nat.lt_of_lt_of_le x.toNat_lt (Nat.pow_le_pow_right (by omega) (by omega)));simp [this]
theorem bit_one {k j:Nat} (h:k<64):(one64 k).toNat.testBit j=decide (k=j):=by rw[one64_nat h,Nat.testBit_two_pow]
theorem bitAt_set {l:Wd} {n:Nat} (h:n<64*l.length) (m:Nat):bitAt (setB l n) m=(decide (m=n)||bitAt l m):=by
 unfold bitAt setB
 by_cases hw:n / 64=m / 64
 ·rw[hw,List.getElem?_set_self (by omega),Option.getD_some,bit_or,bit_one (Nat.mod_lt _ (by omega)),Bool.or_comm]
  congr 1
  by_cases hm:m=n
  ·simp [hm]
  ·have:¬n % 64=m % 64:=by omega
   simp [hm,this]
 ·rw[List.getElem?_set_ne hw]
  have hm:¬m=n:=by intro e;rw[e]at hw;exact hw rfl
  simp [hm]
theorem bitAt_out {l:Wd} {m:Nat} (h:64*l.length≤m):bitAt l m=false:=by
 unfold bitAt;rw[List.getElem?_eq_none (by omega)];exact Nat.zero_testBit _
theorem bits_ext {a b:Wd} (hl:a.length=b.length) (h:∀m,bitAt a m=bitAt b m):a=b:=by
 apply List.ext_getElem hl;intro i h1 h2;apply UInt64.toNat_inj.1;apply Nat.eq_of_testBit_eq;intro j
 by_cases hj:j<64
 ·have:=h (64*i+j);unfold bitAt at this;rw[show (64*i+j) / 64=i by omega,show (64*i+j) % 64=j by omega,List.getElem?_eq_getElem h1,List.getElem?_eq_getElem h2]at this;exact this
 ·have h3:∀x:UInt64,x.toNat.testBit j=false:=fun x=>Nat.testBit_lt_two_pow (Nat.lt_of_lt_of_le x.toNat_lt (Nat.pow_le_pow_right (by omega) (by omega)))
  rw[h3,h3]
def sizeB (w:Nat):Nat:=(w+63) / 64
def okB (w:Nat) (l:Wd):Prop:=l.length=sizeB w∧∀m,w≤m→bitAt l m=false
def nilB (w:Nat):Wd:=List.replicate (sizeB w) 0
theorem bit_nil (k m:Nat):bitAt (List.replicate k 0) m=false:=by
 unfold bitAt;rw[List.getElem?_replicate]
 split<;>exact Nat.zero_testBit _
theorem nilB_ok (w:Nat):okB w (nilB w):=⟨List.length_replicate,fun m _=>bit_nil _ m⟩
def putB (w:Nat) (o:Wd) (n:Int):Wd:=if 0≤n∧n<(w:Int) then setB o n.toNat else o
theorem putB_len (w:Nat) (o:Wd) (n:Int):(putB w o n).length=o.length:=by unfold putB;split<;>simp [setB_len]
def ofB (w:Nat) (l:List Int):Wd:=l.foldl (putB w) (nilB w)
theorem room_b {w m:Nat} (h:m<w):m<64*sizeB w:=by unfold sizeB;omega
theorem bit_put {w:Nat} {o:Wd} (ho:o.length=sizeB w) (n:Int) (m:Nat):bitAt (putB w o n) m=(decide (m<w∧(m:Int)=n)||bitAt o m):=by
 unfold putB;split
 ·rename_i h
  have h1:n.toNat<w:=by omega
  rw[bitAt_set (by rw[ho];exact room_b h1)]
  congr 1
  by_cases hm:m=n.toNat
  ·have e:m<w∧(m:Int)=n:=⟨by omega,by omega⟩
   rw[decide_eq_true hm,decide_eq_true e]
  ·have e:¬(m<w∧(m:Int)=n):=fun h=>hm (by omega)
   rw[decide_eq_false hm,decide_eq_false e]
 ·rename_i h
  have e:¬(m<w∧(m:Int)=n):=fun h2=>h (by omega)
  rw[decide_eq_false e,Bool.false_or]
theorem put_fold {w:Nat}:∀(l:List Int) (o:Wd),o.length=sizeB w→(l.foldl (putB w) o).length=sizeB w∧∀m,bitAt (l.foldl (putB w) o) m=(decide (m<w∧(m:Int)∈l)||bitAt o m)
 | [],o,h=>⟨h,fun m=>by simp⟩
 | n::r,o,h=>by
  obtain⟨h1,h2⟩:=put_fold r (putB w o n) (by rw[putB_len,h]);refine⟨h1,fun m=>?_⟩;rw[List.foldl_cons,h2,bit_put h,←Bool.or_assoc]
  congr 1
  by_cases a:m<w<;>by_cases b:(m:Int)=n<;>by_cases c:(m:Int)∈r<;>simp [a,b,c]
theorem ofB_len (w:Nat) (l:List Int):(ofB w l).length=sizeB w:=(put_fold l _ List.length_replicate).1
theorem bit_of (w:Nat) (l:List Int) (m:Nat):bitAt (ofB w l) m=decide (m<w∧(m:Int)∈l):=by
 rw[ofB,(put_fold l (nilB w) (nilB_ok w).1).2,nilB,bit_nil,Bool.or_false]
theorem ofB_ok (w:Nat) (l:List Int):okB w (ofB w l):=⟨ofB_len w l,fun m h=>by rw[bit_of];exact decide_eq_false (fun h2=>by omega)⟩
def bOr (a b:Wd):Wd:=List.zipWith (fun x y=>x ||| y) a b
def bDiff (a b:Wd):Wd:=List.zipWith (fun x y=>x &&& ~~~y) a b
theorem bit_zip {f:UInt64→UInt64→UInt64} {g:Bool→Bool→Bool} (hf:∀x y k,(f x y).toNat.testBit k=g (x.toNat.testBit k) (y.toNat.testBit k)) (hg:g false false=false) {a b:Wd} (hl:a.length=b.length) (m:Nat):bitAt (List.zipWith f a b) m=g (bitAt a m) (bitAt b m):=by
 by_cases hm:m / 64<a.length
 ·unfold bitAt;rw[List.getElem?_zipWith,List.getElem?_eq_getElem hm,List.getElem?_eq_getElem (by omega:m / 64<b.length)];exact hf _ _ _
 ·rw[bitAt_out (by rw[List.length_zipWith];omega),bitAt_out (l:=a) (by omega),bitAt_out (l:=b) (by omega),hg]
theorem bit_bOr {a b:Wd} (hl:a.length=b.length) (m:Nat):bitAt (bOr a b) m=(bitAt a m||bitAt b m):=bit_zip (g:=fun x y=>x||y) bit_or rfl hl m
theorem bit_bDiff {a b:Wd} (hl:a.length=b.length) (m:Nat):bitAt (bDiff a b) m=(bitAt a m&&!bitAt b m):=bit_zip (g:=fun x y=>x&&!y) bit_diff rfl hl m
theorem zip_len {f:UInt64→UInt64→UInt64} {w:Nat} {a b:Wd} (ha:a.length=sizeB w) (hb:b.length=sizeB w):(List.zipWith f a b).length=sizeB w:=by rw[List.length_zipWith,ha,hb,Nat.min_self]
theorem bOr_ok {w:Nat} {a b:Wd} (ha:okB w a) (hb:okB w b):okB w (bOr a b):=⟨zip_len ha.1 hb.1,fun m h=>by rw[bit_bOr (ha.1.trans hb.1.symm),ha.2 m h,hb.2 m h];rfl⟩
theorem bDiff_ok {w:Nat} {a b:Wd} (ha:okB w a) (hb:okB w b):okB w (bDiff a b):=⟨zip_len ha.1 hb.1,fun m h=>by rw[bit_bDiff (ha.1.trans hb.1.symm),ha.2 m h];rfl⟩
theorem bits64 (f:BitVec 64→BitVec 64→BitVec 64) (x y:UInt64):Sy.bits .u64 f (x.toNat:Nat) (y.toNat:Nat) = .v (.int .u64 ((UInt64.ofBitVec (f x.toBitVec y.toBitVec)).toNat:Nat)):=by
 have h1:∀x:UInt64,BitVec.ofInt 64 (x.toNat:Int)=x.toBitVec:=fun x=>by
  rw[BitVec.ofInt_natCast];exact BitVec.ofNat_toNat ..
 show SV.v (.int .u64 (IntKind.u64.wrap (f (BitVec.ofInt 64 (x.toNat:Int)) (BitVec.ofInt 64 (y.toNat:Int))).toNat))=_;rw[h1,h1,IntKind.wrap_u64];have h2:=(f x.toBitVec y.toBitVec).isLt;rw[show (((f x.toBitVec y.toBitVec).toNat:Int)) % 18446744073709551616=((f x.toBitVec y.toBitVec).toNat:Int) by omega]
 rfl
end Go.Proofs
end
section
namespace Go.Proofs
open Go.Sy
set_option maxRecDepth 20000
set_option maxHeartbeats 4000000
theorem wcut_spec {w:Nat} (hw:w≤1024) {H:Hp} {K:Value→Hp→Prop} (hK:K (.int .i64 (w:Nat)) H):Does Tryz.prog 100 [.int .i64 (w:Nat)] H K:=by
 refine spec_of cx_ok cx_mix rfl Tryz.func100 Tryz.call100 Tryz.ntmps100 Tryz.results100 rfl rfl ?_;exact kint hK (by omega)
theorem wsize_spec {w:Nat} (hw:w≤1024) {H:Hp} {K:Value→Hp→Prop} (hK:K (.int .i64 (sizeB w:Nat)) H):Does Tryz.prog 99 [.int .i64 (w:Nat)] H K:=by
 refine spec_of cx_ok cx_mix rfl Tryz.func99 Tryz.call99 Tryz.ntmps99 Tryz.results99 rfl rfl ?_;refine wcut_spec hw ?_;refine⟨⟨by omega,by omega⟩,?_⟩;refine⟨⟨by omega,by omega⟩,?_⟩
 have e:((w:Int)+64 - 1).tdiv 64=(sizeB w:Nat):=by rw[Int.tdiv_eq_ediv_of_nonneg (by omega),sizeB];omega
 have hs:sizeB w≤16:=by unfold sizeB;omega
 refine⟨by decide,⟨by rw[e];omega,by rw[e];omega⟩,?_⟩;exact kint hK e.symm
theorem one_shift {n:Int} (h:0≤n):(1:Int)*2 ^ (min (Int.tmod n 64).toNat 64)=((one64 (n.toNat % 64)).toNat:Nat):=by
 have e:(Int.tmod n 64).toNat=n.toNat % 64:=by rw[Int.tmod_eq_emod_of_nonneg h];omega
 rw[e,Nat.min_eq_left (by omega),one64_nat (by omega),Int.one_mul]
 push_cast;rfl
theorem one_shift_le {n:Int} (h:0≤n):(0:Int)≤1*2 ^ (min (Int.tmod n 64).toNat 64)∧(1:Int)*2 ^ (min (Int.tmod n 64).toNat 64)≤18446744073709551615:=by
 rw[one_shift h];have:=(one64 (n.toNat % 64)).toNat_lt;omega
theorem tmod_pos {n:Int} (h:0≤n):0≤Int.tmod n 64:=Int.tmod_nonneg _ h
theorem or_one {x:UInt64} {n:Int} (h:0≤n):Sy.bits .u64 (·||| ·) (x.toNat:Nat) ((1:Int)*2 ^ (min (Int.tmod n 64).toNat 64)) = .v (.int .u64 ((x ||| one64 (n.toNat % 64)).toNat:Nat)):=by
 rw[one_shift h];exact bits64 (·||| ·) x (one64 _)
theorem or_oneI {x:UInt64} {n:Int} (h:0≤n):IntKind.u64.wrap ((BitVec.ofInt 64 (x.toNat:Nat) ||| BitVec.ofInt 64 ((1:Int)*2 ^ (min (Int.tmod n 64).toNat 64))).toNat:Nat)=((x ||| one64 (n.toNat % 64)).toNat:Nat):=by
 have:=or_one (x:=x) h;exact (Value.int.inj (SV.v.inj this)).2
theorem put_row {w:Nat} {u:Wd} {n:Int} (h0:0≤n) (h1:n<(w:Int)):(uRows u).set (n.toNat / 64) [.int .u64 (IntKind.u64.wrap ((BitVec.ofInt 64 ((u[n.toNat / 64]?.getD 0).toNat:Nat) ||| BitVec.ofInt 64 ((1:Int)*2 ^ (min (Int.tmod n 64).toNat 64))).toNat:Nat))]=uRows (putB w u n):=by
 rw[or_oneI h0,uRows_set _ _ (UInt64.toNat_lt _),putB,if_pos ⟨h0,h1⟩,setB,UInt64.ofNat_toNat]
theorem wof_spec {w:Nat} (hw:w≤1024) {l:List Int} {a:Option Addr} {n c:Nat} {H:Hp} {K:Value→Hp→Prop} (ha:RL H a n c l) (hK:∀a1 n1 c1 H',Le H H'→RL H' a1 n1 c1 (ofB w l)→K (.slice a1 n1 c1) H'):
  Does Tryz.prog 55 [.int .i64 (w:Nat),.slice a n c] H K:=by
 have hn1:=ha.n_eq;have hmx:=ha.le
 have hsz:sizeB w≤16:=by unfold sizeB;omega
 refine spec_of cx_ok cx_mix rfl Tryz.func55 Tryz.call55 Tryz.ntmps55 Tryz.results55 rfl rfl ?_;refine wsize_spec hw ?_;refine⟨⟨rfl,by omega,by show (sizeB w:Int)*8≤_;omega,by omega⟩,?_⟩
 refine⟨Nat×Wd,fun z=>⟨[(0,.v (.int .i64 (w:Nat))),(5,.own 0),(11,.v (.slice a n c)),(12,.v (.int .i64 n)),(13,.v (.int .i64 z.1))],[(0,.row 66 1 (uRows z.2))],1⟩,
  fun z H'=>H'=H∧z.1≤l.length∧z.2=(l.take z.1).foldl (putB w) (nilB w),fun z=>l.length - z.1,⟨(0,nilB w),[(0,0)],?_,rfl,Nat.zero_le _,rfl⟩,?_⟩
 ·have e:List.replicate ((sizeB w:Nat):Int).toNat [Value.int .u64 0]=uRows (nilB w):=by rw[nilB,uRows,List.map_replicate];rfl
  (repeat' (first|exact trivial|refine⟨?_,?_⟩|exact rfl|assumption))
 rintro⟨i,u⟩ H1 _ ⟨rfl,hi,hu⟩;dsimp only at hi hu
 have hul:u.length=sizeB w:=by rw[hu];exact (put_fold _ _ (nilB_ok w).1).1
 refine⟨fun h=>?_,fun h=>?_⟩
 ·have hlt:i<l.length:=by have:=dt h;dsimp only at this;omega
  have hst:(l.take (i+1)).foldl (putB w) (nilB w)=putB w u l[i]:=by
   rw[List.take_add_one,List.getElem?_eq_getElem hlt,Option.toList_some,List.foldl_append,←hu];rfl
  refine int_k ha (List.getElem?_eq_getElem hlt) fun ad e1 hh=>?_
  refine⟨ad,⟨by dsimp only;omega,by dsimp only;omega,e1⟩,?_⟩;refine⟨_,hh,?_⟩;refine⟨fun h=>?_,fun h=>?_⟩
  ·have h0:0≤l[i]:=dt h;refine wcut_spec hw ?_;refine⟨fun h=>?_,fun h=>?_⟩
   ·have h1:l[i]<(w:Int):=dt h
    have h2:Int.tdiv l[i] 64=(l[i].toNat / 64:Nat):=by rw[Int.tdiv_eq_ediv_of_nonneg h0];omega
    have h3:l[i].toNat / 64<u.length:=by rw[hul,sizeB];omega
    have e:=put_row (u:=u) h0 h1;refine⟨some ([0],[0,1,2,3,4,5,6,7,8,9,10]),by kernel_rfl,?_⟩;refine⟨by decide,⟨by rw[h2];omega,by rw[h2];omega⟩,?_⟩;rw[h2];refine⟨⟨by omega,by rw[uRows_len];dsimp only;omega⟩,?_⟩;refine⟨_,uRows_get (v:=u) (i:=(l[i].toNat / 64:Nat)) (by omega) (by omega),?_⟩;refine⟨by decide,?_⟩;refine⟨tmod_pos h0,one_shift_le h0,?_⟩;refine⟨⟨by omega,by rw[uRows_len];dsimp only;omega⟩,?_⟩;refine⟨_,uRows_get (v:=u) (i:=(l[i].toNat / 64:Nat)) (by omega) (by omega),?_⟩;refine⟨⟨by dsimp only;omega,by dsimp only;omega⟩,(i+1,putB w u l[i]),[(0,0)],?_,⟨rfl,hlt,hst.symm⟩,by dsimp only;omega⟩
    (repeat' (first|exact trivial|refine⟨?_,?_⟩|exact rfl|assumption))
   ·have h1:¬l[i]<(w:Int):=df h;have e:putB w u l[i]=u:=if_neg (fun h=>h1 h.2);refine⟨⟨by dsimp only;omega,by dsimp only;omega⟩,(i+1,u),[(0,0)],?_,⟨rfl,hlt,by rw[hst,e]⟩,by dsimp only;omega⟩
    (repeat' (first|exact trivial|refine⟨?_,?_⟩|exact rfl|assumption))
  ·have h1:¬0≤l[i]:=df h;have e:putB w u l[i]=u:=if_neg (fun h=>h1 h.1);refine⟨⟨by dsimp only;omega,by dsimp only;omega⟩,(i+1,u),[(0,0)],?_,⟨rfl,hlt,by rw[hst,e]⟩,by dsimp only;omega⟩
   (repeat' (first|exact trivial|refine⟨?_,?_⟩|exact rfl|assumption))
 ·have hil:i=l.length:=by have:=df h;dsimp only at this;omega
  rw[hil,List.take_length]at hu;intro v H6 hle6 hv6;dsimp only at hv6;obtain⟨a7,n7,c7,rfl,hr7⟩:=RL.of_row (α:=UInt64) hv6 rc_w;refine hK _ _ _ _ hle6.le ?_
  rw[ofB,←hu];exact hr7
end Go.Proofs
end
section
namespace Go.Proofs
open Go.Sy
set_option maxRecDepth 20000
set_option maxHeartbeats 4000000
theorem wword_spec {l:Wd} {a:Option Addr} {n c:Nat} {i:Nat} {x:UInt64} (hi:l[i]?=some x) {H:Hp} {K:Value→Hp→Prop} (ha:RL H a n c l) (hK:K (.int .u64 (x.toNat:Nat)) H):Does Tryz.prog 72 [.slice a n c,.int .i64 (i:Nat)] H K:=by
 have hn1:=ha.n_eq;have hlt:=(List.getElem?_eq_some_iff.1 hi).1;refine spec_of cx_ok cx_mix rfl Tryz.func72 Tryz.call72 Tryz.ntmps72 Tryz.results72 rfl rfl ?_;refine⟨(fun h=>absurd (dt h) (by omega)),fun _=>?_⟩
 refine word_k ha hi fun ad q1 hh hr=>?_
 refine⟨ad,⟨by omega,by omega,q1⟩,?_⟩;refine⟨_,hh,?_⟩;exact hK
theorem or1_spec {x y:UInt64} {H:Hp} {K:Value→Hp→Prop} (hK:K (.int .u64 ((x ||| y).toNat:Nat)) H):Does Tryz.prog 151 [.int .u64 (x.toNat:Nat),.int .u64 (y.toNat:Nat)] H K:=by
 refine spec_of cx_ok cx_mix rfl Tryz.func151 Tryz.call151 Tryz.ntmps151 Tryz.results151 rfl rfl ?_;exact kint hK (Value.int.inj (SV.v.inj (bits64 (·||| ·) x y))).2.symm
theorem diff1_spec {x y:UInt64} {H:Hp} {K:Value→Hp→Prop} (hK:K (.int .u64 ((x &&& ~~~y).toNat:Nat)) H):Does Tryz.prog 152 [.int .u64 (x.toNat:Nat),.int .u64 (y.toNat:Nat)] H K:=by
 refine spec_of cx_ok cx_mix rfl Tryz.func152 Tryz.call152 Tryz.ntmps152 Tryz.results152 rfl rfl ?_;exact kint hK (Value.int.inj (SV.v.inj (bits64 (fun a b=>a &&& ~~~b) x y))).2.symm
theorem zRow_snoc {f:UInt64→UInt64→UInt64} {a b:Wd} {i:Nat} {x y:UInt64} (hx:a[i]?=some x) (hy:b[i]?=some y):uRows ((List.zipWith f a b).take (i+1))=uRows ((List.zipWith f a b).take i)++[[.int .u64 ((f x y).toNat:Nat)]]:=by
 have h:(List.zipWith f a b)[i]?=some (f x y):=by rw[List.getElem?_zipWith,hx,hy]
 rw[List.take_add_one,h,Option.toList_some,uRows,List.map_append];rfl
theorem bothor_spec {w:Nat} (hw:w≤1024) {x y:Wd} (hx:x.length=sizeB w) (hy:y.length=sizeB w) {a a2:Option Addr} {n c n2 k2:Nat} {H:Hp} {K:SV→St→Hp→Prop} (ha:RL H a n c x) (hb:RL H a2 n2 k2 y) (hK:K (.own 0) ⟨[],[(0,.row 66 1 (uRows (bOr x y)))],1⟩ H):
  DoesG Tryz.prog 150 [.v (.slice a n c),.v (.slice a2 n2 k2),.fn 151 []] [] 0 H K:=by
 have hn1:=ha.n_eq;have hn2:=hb.n_eq
 have hsz:sizeB w≤16:=by unfold sizeB;omega
 refine spec_ofG cx_ok cx_mix Tryz.func150 Tryz.call150 Tryz.ntmps150 Tryz.results150 rfl rfl ?_
 have hm:max ((n:Nat):Int) (n2:Nat)=(n:Nat):=by omega
 refine⟨Nat,fun i=>⟨[(0,.v (.slice a n c)),(1,.v (.slice a2 n2 k2)),(2,.fn 151 []),(7,.own 0),(13,.v (.int .i64 (n:Nat))),(14,.v (.int .i64 i))],[(0,.row 66 1 (uRows ((bOr x y).take i)))],1⟩,
  fun i H'=>H'=H∧i≤n,fun i=>n - i,⟨0,[],?_,rfl,Nat.zero_le _⟩,?_⟩
 ·have e:SV.v (.int .i64 (max ((n:Nat):Int) (n2:Nat)))=SV.v (.int .i64 (n:Nat)):=by rw[hm]
  (repeat' (first|exact trivial|refine⟨?_,?_⟩|exact rfl|assumption))
 rintro i H1 _ ⟨rfl,hi⟩
 have hrl:(uRows ((bOr x y).take i)).length=i:=by rw[uRows_len,List.length_take,bOr,List.length_zipWith];omega
 refine⟨fun h=>?_,fun h=>?_⟩
 ·have hlt:i<n:=by have:=dt h;omega
  have ex:x[i]?=some (x[i]'(by omega)):=List.getElem?_eq_getElem _;have ey:y[i]?=some (y[i]'(by omega)):=List.getElem?_eq_getElem _;refine wword_spec ex ha ?_;refine wword_spec ey hb ?_;refine or1_spec ?_;refine⟨⟨by show (_+1)*8≤140737488355328;rw[hrl];omega,by show _+1≤9223372036854775807;rw[hrl];omega⟩,?_⟩;have e:=(zRow_snoc (f:=(fun x y=>x ||| y)) ex ey).symm;refine⟨⟨by omega,by omega⟩,i+1,[(0,2)],?_,⟨rfl,hlt⟩,by dsimp only;omega⟩
  (repeat' (first|exact trivial|refine⟨?_,?_⟩|exact rfl|assumption))
 ·have hil:i=n:=by have:=df h;omega
  have e:(bOr x y).take i=bOr x y:=List.take_of_length_le (by rw[bOr,List.length_zipWith];omega);rw[e];exact⟨.own 0,[(0,.row 66 1 (uRows (bOr x y)))],1,[(0,0)],by (repeat' (first|exact trivial|refine⟨?_,?_⟩|exact rfl|assumption)),hK⟩
theorem wunion_spec {w:Nat} (hw:w≤1024) {x y:Wd} (hx:x.length=sizeB w) (hy:y.length=sizeB w) {a a2:Option Addr} {n c n2 k2:Nat} {H:Hp} {K:Value→Hp→Prop} (ha:RL H a n c x) (hb:RL H a2 n2 k2 y) (hK:∀a1 n1 c1 H',Le H H'→RL H' a1 n1 c1 (bOr x y)→K (.slice a1 n1 c1) H'):
  Does Tryz.prog 104 [.slice a n c,.slice a2 n2 k2] H K:=by
 refine spec_of cx_ok cx_mix rfl Tryz.func104 Tryz.call104 Tryz.ntmps104 Tryz.results104 rfl rfl ?_;refine⟨[],rfl,bothor_spec hw hx hy ha hb ?_⟩;intro v H6 hle6 hv6;obtain⟨a7,n7,c7,rfl,hr7⟩:=RL.of_row (α:=UInt64) hv6 rc_w;exact hK _ _ _ _ hle6.le hr7
theorem bothdiff_spec {w:Nat} (hw:w≤1024) {x y:Wd} (hx:x.length=sizeB w) (hy:y.length=sizeB w) {a a2:Option Addr} {n c n2 k2:Nat} {H:Hp} {K:SV→St→Hp→Prop} (ha:RL H a n c x) (hb:RL H a2 n2 k2 y) (hK:K (.own 0) ⟨[],[(0,.row 66 1 (uRows (bDiff x y)))],1⟩ H):
  DoesG Tryz.prog 150 [.v (.slice a n c),.v (.slice a2 n2 k2),.fn 152 []] [] 0 H K:=by
 have hn1:=ha.n_eq;have hn2:=hb.n_eq
 have hsz:sizeB w≤16:=by unfold sizeB;omega
 refine spec_ofG cx_ok cx_mix Tryz.func150 Tryz.call150 Tryz.ntmps150 Tryz.results150 rfl rfl ?_
 have hm:max ((n:Nat):Int) (n2:Nat)=(n:Nat):=by omega
 refine⟨Nat,fun i=>⟨[(0,.v (.slice a n c)),(1,.v (.slice a2 n2 k2)),(2,.fn 152 []),(7,.own 0),(13,.v (.int .i64 (n:Nat))),(14,.v (.int .i64 i))],[(0,.row 66 1 (uRows ((bDiff x y).take i)))],1⟩,
  fun i H'=>H'=H∧i≤n,fun i=>n - i,⟨0,[],?_,rfl,Nat.zero_le _⟩,?_⟩
 ·have e:SV.v (.int .i64 (max ((n:Nat):Int) (n2:Nat)))=SV.v (.int .i64 (n:Nat)):=by rw[hm]
  (repeat' (first|exact trivial|refine⟨?_,?_⟩|exact rfl|assumption))
 rintro i H1 _ ⟨rfl,hi⟩
 have hrl:(uRows ((bDiff x y).take i)).length=i:=by rw[uRows_len,List.length_take,bDiff,List.length_zipWith];omega
 refine⟨fun h=>?_,fun h=>?_⟩
 ·have hlt:i<n:=by have:=dt h;omega
  have ex:x[i]?=some (x[i]'(by omega)):=List.getElem?_eq_getElem _;have ey:y[i]?=some (y[i]'(by omega)):=List.getElem?_eq_getElem _;refine wword_spec ex ha ?_;refine wword_spec ey hb ?_;refine diff1_spec ?_;refine⟨⟨by show (_+1)*8≤140737488355328;rw[hrl];omega,by show _+1≤9223372036854775807;rw[hrl];omega⟩,?_⟩;have e:=(zRow_snoc (f:=(fun x y=>x &&& ~~~y)) ex ey).symm;refine⟨⟨by omega,by omega⟩,i+1,[(0,2)],?_,⟨rfl,hlt⟩,by dsimp only;omega⟩
  (repeat' (first|exact trivial|refine⟨?_,?_⟩|exact rfl|assumption))
 ·have hil:i=n:=by have:=df h;omega
  have e:(bDiff x y).take i=bDiff x y:=List.take_of_length_le (by rw[bDiff,List.length_zipWith];omega);rw[e];exact⟨.own 0,[(0,.row 66 1 (uRows (bDiff x y)))],1,[(0,0)],by (repeat' (first|exact trivial|refine⟨?_,?_⟩|exact rfl|assumption)),hK⟩
theorem wminus_spec {w:Nat} (hw:w≤1024) {x y:Wd} (hx:x.length=sizeB w) (hy:y.length=sizeB w) {a a2:Option Addr} {n c n2 k2:Nat} {H:Hp} {K:Value→Hp→Prop} (ha:RL H a n c x) (hb:RL H a2 n2 k2 y) (hK:∀a1 n1 c1 H',Le H H'→RL H' a1 n1 c1 (bDiff x y)→K (.slice a1 n1 c1) H'):
  Does Tryz.prog 105 [.slice a n c,.slice a2 n2 k2] H K:=by
 refine spec_of cx_ok cx_mix rfl Tryz.func105 Tryz.call105 Tryz.ntmps105 Tryz.results105 rfl rfl ?_;refine⟨[],rfl,bothdiff_spec hw hx hy ha hb ?_⟩;intro v H6 hle6 hv6;obtain⟨a7,n7,c7,rfl,hr7⟩:=RL.of_row (α:=UInt64) hv6 rc_w;exact hK _ _ _ _ hle6.le hr7
end Go.Proofs
end
section
namespace Go.Proofs
open Go.Sy
set_option maxRecDepth 20000
set_option maxHeartbeats 4000000
theorem r10width_spec {w:Nat} (hw:w≤1024) {H:Hp} {K:Value→Hp→Prop} (hK:K (.int .i64 (w:Nat)) H):Does Tryz.prog 129 [.int .i64 (w:Nat)] H K:=by
 refine spec_of cx_ok cx_mix rfl Tryz.func129 Tryz.call129 Tryz.ntmps129 Tryz.results129 rfl rfl ?_;exact kint hK (by omega)
theorem r10size_spec {w:Nat} (hw:w≤1024) {H:Hp} {K:Value→Hp→Prop} (hK:K (.int .i64 (sizeB w:Nat)) H):Does Tryz.prog 128 [.int .i64 (w:Nat)] H K:=by
 refine spec_of cx_ok cx_mix rfl Tryz.func128 Tryz.call128 Tryz.ntmps128 Tryz.results128 rfl rfl ?_;refine r10width_spec hw ?_
 have e:((w:Int)+63).tdiv 64=(sizeB w:Nat):=by rw[Int.tdiv_eq_ediv_of_nonneg (by omega),sizeB];omega
 have hs:sizeB w≤16:=by unfold sizeB;omega
 refine⟨⟨by omega,by omega⟩,?_⟩;refine⟨by decide,⟨by rw[e];omega,by rw[e];omega⟩,?_⟩;exact kint hK e.symm
theorem shr_bit (x:UInt64) {n:Int} (h:0≤n):IntKind.u64.wrap ((BitVec.ofInt 64 (Int.fdiv (x.toNat:Nat) (2 ^ (min (Int.tmod n 64).toNat 64))) &&& BitVec.ofInt 64 1).toNat:Nat)=(if x.toNat.testBit (n.toNat % 64) then 1 else 0):=by
 have e:(Int.tmod n 64).toNat=n.toNat % 64:=by rw[Int.tmod_eq_emod_of_nonneg h];omega
 have hp:(2:Int) ^ (n.toNat % 64)=((2 ^ (n.toNat % 64):Nat):Int):=by push_cast;rfl
 have hd:Int.fdiv (x.toNat:Nat) (((2 ^ (n.toNat % 64):Nat):Int))=((x.toNat / 2 ^ (n.toNat % 64):Nat):Int):=by
  rw[Int.fdiv_eq_ediv_of_nonneg _ (Int.natCast_nonneg _)];rfl
 have hx:=x.toNat_lt;have h1:x.toNat / 2 ^ (n.toNat % 64)<2 ^ 64:=Nat.lt_of_le_of_lt (Nat.div_le_self _ _) hx;rw[e,Nat.min_eq_left (by omega),hp,hd,IntKind.wrap_u64]
 have h2:(BitVec.ofInt 64 ((x.toNat / 2 ^ (n.toNat % 64):Nat):Int) &&& BitVec.ofInt 64 1).toNat=x.toNat / 2 ^ (n.toNat % 64) % 2:=by
  rw[BitVec.toNat_and,BitVec.ofInt_natCast,BitVec.toNat_ofNat,Nat.mod_eq_of_lt h1];exact Nat.and_one_is_mod _
 rw[h2,Nat.testBit_eq_decide_div_mod_eq]
 by_cases h3:x.toNat / 2 ^ (n.toNat % 64) % 2=1
 ·rw[h3];simp
 ·have h4:x.toNat / 2 ^ (n.toNat % 64) % 2=0:=by omega
  rw[h4];simp
theorem r10has_spec {l:Wd} {a:Option Addr} {n c:Nat} {i:Nat} (hi:i≤1000000) {H:Hp} {K:Value→Hp→Prop} (ha:RL H a n c l) (hK:K (.bool (bitAt l i)) H):Does Tryz.prog 36 [.slice a n c,.int .i64 (i:Nat)] H K:=by
 have hn1:=ha.n_eq
 have h0:(0:Int)≤(i:Nat):=by omega
 have h2:Int.tdiv (i:Nat) 64=(i / 64:Nat):=by rw[Int.tdiv_eq_ediv_of_nonneg h0];omega
 have hle:=ha.le;refine spec_of cx_ok cx_mix rfl Tryz.func36 Tryz.call36 Tryz.ntmps36 Tryz.results36 rfl rfl ?_;refine⟨fun _=>?_,(fun h=>absurd h0 (df h))⟩;refine⟨by decide,⟨by rw[h2];omega,by rw[h2];omega⟩,?_⟩;rw[h2];refine⟨fun h=>?_,fun h=>?_⟩
 ·have hlt:i / 64<l.length:=by have:=dt h;omega
  refine⟨by decide,⟨by rw[h2];omega,by rw[h2];omega⟩,?_⟩;rw[h2]
  refine word_k ha (List.getElem?_eq_getElem hlt) fun ad q1 hh hr=>?_
  refine⟨ad,⟨by omega,by omega,q1⟩,?_⟩;refine⟨_,hh,?_⟩;refine⟨by decide,?_⟩;refine⟨tmod_pos h0,?_⟩;have hb:=shr_bit l[i / 64] h0;refine kbool hK (Eq.symm ?_)
  have hv:bitAt l i=l[i / 64].toNat.testBit (i % 64):=by rw[bitAt,List.getElem?_eq_getElem hlt];rfl
  rw[hv];refine (congrArg (fun z:Int=>decide (z=1)) hb).trans ?_;show decide ((if l[i / 64].toNat.testBit (i % 64) then (1:Int) else 0)=1)=_
  cases l[i / 64].toNat.testBit (i % 64)<;>rfl
 ·have hlt:¬i / 64<l.length:=by have:=df h;omega
  have e:bitAt l i=false:=bitAt_out (by omega);rw[e]at hK;exact hK
end Go.Proofs
end
section
namespace Go.Proofs
open Go.Sy
set_option maxRecDepth 20000
set_option maxHeartbeats 4000000
noncomputable def cxB:Cx:={ P:=Tryz.prog,tt:=tt,n:=0,wrap:=false,base:=0,gf:=130::cx.gf,eqs:=cx.eqs,xf:=[] }
theorem cxB_ok:TOK cxB:=⟨cx_ok.tt,cx_ok.eqs⟩
theorem r10withG_spec {w:Nat} (hw:w≤1024) {u:Wd} (hul:u.length=sizeB w) {k:Int} (h0:0≤k) (h1:k<(w:Int)) {H:Hp} {K:SV→St→Hp→Prop} (hK:K (.own 1) ⟨[],[(1,.row 66 1 (uRows (putB w u k)))],2⟩ H):
  DoesG Tryz.prog 130 [.own 0,.v (.int .i64 k)] [(0,.row 66 1 (uRows u))] 1 H K:=by
 have hsz:sizeB w≤16:=by unfold sizeB;omega
 have h2:Int.tdiv k 64=(k.toNat / 64:Nat):=by rw[Int.tdiv_eq_ediv_of_nonneg h0];omega
 have h3:k.toNat / 64<u.length:=by rw[hul,sizeB];omega
 have e:=put_row (u:=u) h0 h1;refine spec_ofG cx_ok cx_mix Tryz.func130 Tryz.call130 Tryz.ntmps130 Tryz.results130 rfl rfl ?_;refine⟨⟨by show (0+(uRows u).length)*8≤140737488355328;rw[uRows_len];omega,by show 0+(uRows u).length≤9223372036854775807;rw[uRows_len];omega⟩,?_⟩;refine⟨some ([0,1,2],[0,1,2,3,4,5,6,7,8,9,10,11,12,13]),by kernel_rfl,?_⟩;refine⟨by decide,⟨by rw[h2];omega,by rw[h2];omega⟩,?_⟩;rw[h2];refine⟨by decide,⟨by rw[h2];omega,by rw[h2];omega⟩,?_⟩;rw[h2];refine⟨⟨by omega,by show _<(((uRows u).length:Nat):Int);rw[uRows_len];omega⟩,?_⟩;refine⟨_,uRows_get (v:=u) (i:=(k.toNat / 64:Nat)) (by omega) (by omega),?_⟩;refine⟨by decide,?_⟩;refine⟨tmod_pos h0,one_shift_le h0,?_⟩;refine⟨⟨by omega,by show _<(((uRows u).length:Nat):Int);rw[uRows_len];omega⟩,?_⟩;refine⟨_,uRows_get (v:=u) (i:=(k.toNat / 64:Nat)) (by omega) (by omega),?_⟩;exact⟨.own 1,[(1,.row 66 1 (uRows (putB w u k)))],2,[(1,2)],by (repeat' (first|exact trivial|refine⟨?_,?_⟩|exact rfl|assumption)),hK⟩
theorem r10of_spec {w:Nat} (hw:w≤1024) {l:List Int} {a:Option Addr} {n c:Nat} {H:Hp} {K:Value→Hp→Prop} (ha:RL H a n c l) (hK:∀a1 n1 c1 H',Le H H'→RL H' a1 n1 c1 (ofB w l)→K (.slice a1 n1 c1) H'):
  Does Tryz.prog 87 [.int .i64 (w:Nat),.slice a n c] H K:=by
 have hn1:=ha.n_eq;have hmx:=ha.le
 have hsz:sizeB w≤16:=by unfold sizeB;omega
 refine spec_of cxB_ok cx_mix rfl Tryz.func87 Tryz.call87 Tryz.ntmps87 Tryz.results87 rfl rfl ?_;refine r10size_spec hw ?_;refine⟨⟨rfl,by omega,by show (sizeB w:Int)*8≤_;omega,by omega⟩,?_⟩
 refine⟨Nat×Wd,fun z=>⟨[(0,.v (.int .i64 (w:Nat))),(5,.own 0),(11,.v (.slice a n c)),(12,.v (.int .i64 n)),(13,.v (.int .i64 z.1))],[(0,.row 66 1 (uRows z.2))],1⟩,
  fun z H'=>H'=H∧z.1≤l.length∧z.2=(l.take z.1).foldl (putB w) (nilB w),fun z=>l.length - z.1,⟨(0,nilB w),[(0,0)],?_,rfl,Nat.zero_le _,rfl⟩,?_⟩
 ·have e:List.replicate ((sizeB w:Nat):Int).toNat [Value.int .u64 0]=uRows (nilB w):=by rw[nilB,uRows,List.map_replicate];rfl
  (repeat' (first|exact trivial|refine⟨?_,?_⟩|exact rfl|assumption))
 rintro⟨i,u⟩ H1 _ ⟨rfl,hi,hu⟩;dsimp only at hi hu
 have hul:u.length=sizeB w:=by rw[hu];exact (put_fold _ _ (nilB_ok w).1).1
 refine⟨fun h=>?_,fun h=>?_⟩
 ·have hlt:i<l.length:=by have:=dt h;dsimp only at this;omega
  have hst:(l.take (i+1)).foldl (putB w) (nilB w)=putB w u l[i]:=by
   rw[List.take_add_one,List.getElem?_eq_getElem hlt,Option.toList_some,List.foldl_append,←hu];rfl
  refine int_k ha (List.getElem?_eq_getElem hlt) fun ad e1 hh=>?_
  refine⟨ad,⟨by dsimp only;omega,by dsimp only;omega,e1⟩,?_⟩;refine⟨_,hh,?_⟩;refine⟨fun h=>?_,fun h=>?_⟩
  ·have h0:0≤l[i]:=dt h;refine r10width_spec hw ?_;refine⟨fun h=>?_,fun h=>?_⟩
   ·have h1:l[i]<(w:Int):=dt h;refine⟨[0],rfl,r10withG_spec hw hul h0 h1 ?_⟩;refine⟨⟨by dsimp only;omega,by dsimp only;omega⟩,(i+1,putB w u l[i]),[(0,1)],?_,⟨rfl,hlt,hst.symm⟩,by dsimp only;omega⟩
    (repeat' (first|exact trivial|refine⟨?_,?_⟩|exact rfl|assumption))
   ·have h1:¬l[i]<(w:Int):=df h;have e:putB w u l[i]=u:=if_neg (fun h=>h1 h.2);refine⟨⟨by dsimp only;omega,by dsimp only;omega⟩,(i+1,u),[(0,0)],?_,⟨rfl,hlt,by rw[hst,e]⟩,by dsimp only;omega⟩
    (repeat' (first|exact trivial|refine⟨?_,?_⟩|exact rfl|assumption))
  ·have h1:¬0≤l[i]:=df h;have e:putB w u l[i]=u:=if_neg (fun h=>h1 h.1);refine⟨⟨by dsimp only;omega,by dsimp only;omega⟩,(i+1,u),[(0,0)],?_,⟨rfl,hlt,by rw[hst,e]⟩,by dsimp only;omega⟩
   (repeat' (first|exact trivial|refine⟨?_,?_⟩|exact rfl|assumption))
 ·have hil:i=l.length:=by have:=df h;dsimp only at this;omega
  rw[hil,List.take_length]at hu;intro v H6 hle6 hv6;dsimp only at hv6;obtain⟨a7,n7,c7,rfl,hr7⟩:=RL.of_row (α:=UInt64) hv6 rc_w;refine hK _ _ _ _ hle6.le ?_
  rw[ofB,←hu];exact hr7
end Go.Proofs
end
section
namespace Go.Proofs
namespace Bt
open Go.Sy
set_option maxRecDepth 20000
set_option maxHeartbeats 4000000
end Bt
end Go.Proofs
end
section
namespace Go.Proofs
namespace Bt
open Go.Sy
set_option maxRecDepth 20000
set_option maxHeartbeats 4000000
structure TA where
 ga:Option Addr
 gn:Nat
 gc:Nat
 ka:Option Addr
 kn:Nat
 kc:Nat
abbrev trV (z:TA):List Value:=[.slice z.ga z.gn z.gc,.slice z.ka z.kn z.kc,.slice none 0 0]
abbrev trA (z:TA):Value:=.agg (trV z).toArray
structure TrR (H:Hp) (t:Wd×Wd) (z:TA):Prop where
 g:RL H z.ga z.gn z.gc t.1
 k:RL H z.ka z.kn z.kc t.2
theorem TrR.up {H H':Hp} {t:Wd×Wd} {z:TA} (h:TrR H t z) (hle:Le H H'):TrR H' t z:=⟨h.g.up hle,h.k.up hle⟩
end Bt
end Go.Proofs
end
section
namespace Go.Proofs
namespace Bt
open Go.Sy
set_option maxRecDepth 20000
set_option maxHeartbeats 4000000
structure TrB where
 t:Wd×Wd
instance:Enc TrB where
 sz:=3
 R H cs x:=∃z:TA,cs=trV z∧TrR H x.t z
 len h:=by obtain⟨_,rfl,_⟩:=h;rfl
 one h:=by obtain⟨_,rfl,_⟩:=h;intro u hu;simp at hu;rcases hu with rfl | rfl | rfl<;>rfl
 up hle h:=by obtain⟨z,e,h⟩:=h;exact⟨z,e,h.up hle⟩
structure SyB where
 wh:Nat
 w:Nat
 m:Nat
 E:List Edg
 ent:List Int
 ini:Wd
 T:List (Wd×Wd)
abbrev sysV (s:SyB) (z:SA):List Value:=[.int .i64 (s.wh:Nat),.int .i64 (s.w:Nat),.int .i64 (s.m:Nat),.slice z.ea z.en z.ec,.slice z.na z.nn z.nc,.slice z.ia z.ni z.ic,.slice z.ta z.tn z.tc]
abbrev sysA (s:SyB) (z:SA):Value:=.agg (sysV s z).toArray
structure SysR (H:Hp) (s:SyB) (z:SA):Prop where
 e:RL H z.ea z.en z.ec s.E
 n:RL H z.na z.nn z.nc s.ent
 i:RL H z.ia z.ni z.ic s.ini
 t:RL (α:=TrB) H z.ta z.tn z.tc (s.T.map TrB.mk)
theorem SysR.up {H H':Hp} {s:SyB} {z:SA} (h:SysR H s z) (hle:Le H H'):SysR H' s z:=⟨h.e.up hle,h.n.up hle,h.i.up hle,h.t.up hle⟩
theorem trans_k {P:Prop} {H:Hp} {a:Option Addr} {n c:Nat} {T:List (Wd×Wd)} (h:RL (α:=TrB) H a n c (T.map TrB.mk)) {i:Nat} {t:Wd×Wd} (hi:T[i]?=some t) (k:∀ad z,a=some ad→ElemH H ad (i:Int) 3 (trV z)→TrR H t z→P):P :=
 elem_k h (i:=i) (x:=TrB.mk t) (by rw[List.getElem?_map,hi];rfl) fun ad cs h1 h2 h3=>by
  obtain⟨z,rfl,h4⟩:=h3;exact k ad z h1 h2 h4
end Bt
end Go.Proofs
end
section
namespace Go.Proofs
namespace Bt
open Go.Sy
set_option maxRecDepth 20000
set_option maxHeartbeats 4000000
end Bt
end Go.Proofs
end
section
namespace Go.Proofs
namespace Bt
open Go.Sy
set_option maxRecDepth 20000
set_option maxHeartbeats 4000000
end Bt
end Go.Proofs
end
section
namespace Go.Proofs
namespace Bt
open Go.Sy
set_option maxRecDepth 20000
set_option maxHeartbeats 4000000
end Bt
end Go.Proofs
end
section
namespace Go.Proofs
namespace Bt
open Go.Sy
set_option maxRecDepth 20000
set_option maxHeartbeats 4000000
end Bt
end Go.Proofs
end
