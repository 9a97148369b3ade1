/- Part 'M32' of the proof (Bt0, Bt1, Bt2, Bt3, Bt4, Bt5, Bt6, Bt7, Bt8, Bt9, Bt10, Lv3, Lv4, Lv5, Bx0): lemmas, each with its own conditions in its own statement. -/
import Derived.Test.YtheokcjommfopaaGreatDoorM2
import Derived.Test.YtheokcjommfopaaGreatDoorM28
import Derived.Test.YtheokcjommfopaaGreatDoorM30
import Derived.Test.YtheokcjommfopaaGreatDoorM31
section
namespace Go.Proofs
open Go.Sy
set_option maxRecDepth 20000
def bitAt (l:Wd) (n:Nat):Bool:=(l[n / 64]?.getD 0).toNat.testBit (n % 64)
def one64 (k:Nat):UInt64:=UInt64.ofNat (2 ^ k)
theorem one64_nat {k:Nat} (h:k<64):(one64 k).toNat=2 ^ k:=by
 rw[one64,UInt64.toNat_ofNat'];exact Nat.mod_eq_of_lt (Nat.pow_lt_pow_right (by omega) h)
def setB (l:Wd) (n:Nat):Wd:=l.set (n / 64) ((l[n / 64]?.getD 0) ||| one64 (n % 64))
theorem setB_len (l:Wd) (n:Nat):(setB l n).length=l.length:=List.length_set
theorem bit_or (x y:UInt64) (k:Nat):(x ||| y).toNat.testBit k=(x.toNat.testBit k||y.toNat.testBit k):=by
 rw[UInt64.toNat_or,Nat.testBit_or]
theorem bit_and (x y:UInt64) (k:Nat):(x &&& y).toNat.testBit k=(x.toNat.testBit k&&y.toNat.testBit k):=by
 rw[UInt64.toNat_and,Nat.testBit_and]
theorem bit_diff (x y:UInt64) (k:Nat):(x &&& ~~~y).toNat.testBit k=(x.toNat.testBit k&&!y.toNat.testBit k):=by
 rw[bit_and]
 have h:(~~~y).toNat.testBit k=(decide (k<64)&&!y.toNat.testBit k):=by
  show (~~~y).toBitVec.getLsbD k=_
  rw[UInt64.toBitVec_not,BitVec.getLsbD_not];rfl
 rw[h]
 by_cases hk:k<64
 ·simp [hk]
 ·have:x.toNat.testBit k=false:=Nat.testBit_lt_two_pow (Nat.lt_of_lt_of_le x.toNat_lt (Nat.pow_le_pow_right (by omega) (by omega)));simp [this]
theorem bit_one {k j:Nat} (h:k<64):(one64 k).toNat.testBit j=decide (k=j):=by rw[one64_nat h,Nat.testBit_two_pow]
theorem bitAt_set {l:Wd} {n:Nat} (h:n<64*l.length) (m:Nat):bitAt (setB l n) m=(decide (m=n)||bitAt l m):=by
 unfold bitAt setB
 by_cases hw:n / 64=m / 64
 ·rw[hw,List.getElem?_set_self (by omega),Option.getD_some,bit_or,bit_one (Nat.mod_lt _ (by omega)),Bool.or_comm]
  congr 1
  by_cases hm:m=n
  ·simp [hm]
  ·have:¬n % 64=m % 64:=by omega
   simp [hm,this]
 ·rw[List.getElem?_set_ne hw]
  have hm:¬m=n:=by intro e;rw[e]at hw;exact hw rfl
  simp [hm]
theorem bitAt_out {l:Wd} {m:Nat} (h:64*l.length≤m):bitAt l m=false:=by
 unfold bitAt;rw[List.getElem?_eq_none (by omega)];exact Nat.zero_testBit _
theorem bits_ext {a b:Wd} (hl:a.length=b.length) (h:∀m,bitAt a m=bitAt b m):a=b:=by
 apply List.ext_getElem hl;intro i h1 h2;apply UInt64.toNat_inj.1;apply Nat.eq_of_testBit_eq;intro j
 by_cases hj:j<64
 ·have:=h (64*i+j);unfold bitAt at this;rw[show (64*i+j) / 64=i by omega,show (64*i+j) % 64=j by omega,List.getElem?_eq_getElem h1,List.getElem?_eq_getElem h2]at this;exact this
 ·have h3:∀x:UInt64,x.toNat.testBit j=false:=fun x=>Nat.testBit_lt_two_pow (Nat.lt_of_lt_of_le x.toNat_lt (Nat.pow_le_pow_right (by omega) (by omega)))
  rw[h3,h3]
def sizeB (w:Nat):Nat:=(w+63) / 64
def okB (w:Nat) (l:Wd):Prop:=l.length=sizeB w∧∀m,w≤m→bitAt l m=false
def nilB (w:Nat):Wd:=List.replicate (sizeB w) 0
theorem bit_nil (k m:Nat):bitAt (List.replicate k 0) m=false:=by
 unfold bitAt;rw[List.getElem?_replicate]
 split<;>exact Nat.zero_testBit _
theorem nilB_ok (w:Nat):okB w (nilB w):=⟨List.length_replicate,fun m _=>bit_nil _ m⟩
def putB (w:Nat) (o:Wd) (n:Int):Wd:=if 0≤n∧n<(w:Int) then setB o n.toNat else o
theorem putB_len (w:Nat) (o:Wd) (n:Int):(putB w o n).length=o.length:=by unfold putB;split<;>simp [setB_len]
def ofB (w:Nat) (l:List Int):Wd:=l.foldl (putB w) (nilB w)
theorem room_b {w m:Nat} (h:m<w):m<64*sizeB w:=by unfold sizeB;omega
theorem bit_put {w:Nat} {o:Wd} (ho:o.length=sizeB w) (n:Int) (m:Nat):bitAt (putB w o n) m=(decide (m<w∧(m:Int)=n)||bitAt o m):=by
 unfold putB;split
 ·rename_i h
  have h1:n.toNat<w:=by omega
  rw[bitAt_set (by rw[ho];exact room_b h1)]
  congr 1
  by_cases hm:m=n.toNat
  ·have e:m<w∧(m:Int)=n:=⟨by omega,by omega⟩
   rw[decide_eq_true hm,decide_eq_true e]
  ·have e:¬(m<w∧(m:Int)=n):=fun h=>hm (by omega)
   rw[decide_eq_false hm,decide_eq_false e]
 ·rename_i h
  have e:¬(m<w∧(m:Int)=n):=fun h2=>h (by omega)
  rw[decide_eq_false e,Bool.false_or]
theorem put_fold {w:Nat}:∀(l:List Int) (o:Wd),o.length=sizeB w→(l.foldl (putB w) o).length=sizeB w∧∀m,bitAt (l.foldl (putB w) o) m=(decide (m<w∧(m:Int)∈l)||bitAt o m)
 | [],o,h=>⟨h,fun m=>by simp⟩
 | n::r,o,h=>by
  obtain⟨h1,h2⟩:=put_fold r (putB w o n) (by rw[putB_len,h]);refine⟨h1,fun m=>?_⟩;rw[List.foldl_cons,h2,bit_put h,←Bool.or_assoc]
  congr 1
  by_cases a:m<w<;>by_cases b:(m:Int)=n<;>by_cases c:(m:Int)∈r<;>simp [a,b,c]
theorem ofB_len (w:Nat) (l:List Int):(ofB w l).length=sizeB w:=(put_fold l _ List.length_replicate).1
theorem bit_of (w:Nat) (l:List Int) (m:Nat):bitAt (ofB w l) m=decide (m<w∧(m:Int)∈l):=by
 rw[ofB,(put_fold l (nilB w) (nilB_ok w).1).2,nilB,bit_nil,Bool.or_false]
theorem ofB_ok (w:Nat) (l:List Int):okB w (ofB w l):=⟨ofB_len w l,fun m h=>by rw[bit_of];exact decide_eq_false (fun h2=>by omega)⟩
def fullB (w:Nat):Wd:=ofB w ((List.range w).map fun i:Nat=>(i:Int))
theorem bit_full (w m:Nat):bitAt (fullB w) m=decide (m<w):=by
 rw[fullB,bit_of]
 by_cases h:m<w
 ·rw[decide_eq_true h];exact decide_eq_true ⟨h,List.mem_map.2 ⟨m,List.mem_range.2 h,rfl⟩⟩
 ·rw[decide_eq_false h];exact decide_eq_false (fun h2=>h h2.1)
theorem fullB_ok (w:Nat):okB w (fullB w):=ofB_ok _ _
def bOr (a b:Wd):Wd:=List.zipWith (fun x y=>x ||| y) a b
def bAnd (a b:Wd):Wd:=List.zipWith (fun x y=>x &&& y) a b
def bDiff (a b:Wd):Wd:=List.zipWith (fun x y=>x &&& ~~~y) a b
theorem bit_zip {f:UInt64→UInt64→UInt64} {g:Bool→Bool→Bool} (hf:∀x y k,(f x y).toNat.testBit k=g (x.toNat.testBit k) (y.toNat.testBit k)) (hg:g false false=false) {a b:Wd} (hl:a.length=b.length) (m:Nat):bitAt (List.zipWith f a b) m=g (bitAt a m) (bitAt b m):=by
 by_cases hm:m / 64<a.length
 ·unfold bitAt;rw[List.getElem?_zipWith,List.getElem?_eq_getElem hm,List.getElem?_eq_getElem (by omega:m / 64<b.length)];exact hf _ _ _
 ·rw[bitAt_out (by rw[List.length_zipWith];omega),bitAt_out (l:=a) (by omega),bitAt_out (l:=b) (by omega),hg]
theorem bit_bOr {a b:Wd} (hl:a.length=b.length) (m:Nat):bitAt (bOr a b) m=(bitAt a m||bitAt b m):=bit_zip (g:=fun x y=>x||y) bit_or rfl hl m
theorem bit_bAnd {a b:Wd} (hl:a.length=b.length) (m:Nat):bitAt (bAnd a b) m=(bitAt a m&&bitAt b m):=bit_zip (g:=fun x y=>x&&y) bit_and rfl hl m
theorem bit_bDiff {a b:Wd} (hl:a.length=b.length) (m:Nat):bitAt (bDiff a b) m=(bitAt a m&&!bitAt b m):=bit_zip (g:=fun x y=>x&&!y) bit_diff rfl hl m
theorem zip_len {f:UInt64→UInt64→UInt64} {w:Nat} {a b:Wd} (ha:a.length=sizeB w) (hb:b.length=sizeB w):(List.zipWith f a b).length=sizeB w:=by rw[List.length_zipWith,ha,hb,Nat.min_self]
theorem bOr_ok {w:Nat} {a b:Wd} (ha:okB w a) (hb:okB w b):okB w (bOr a b):=⟨zip_len ha.1 hb.1,fun m h=>by rw[bit_bOr (ha.1.trans hb.1.symm),ha.2 m h,hb.2 m h];rfl⟩
theorem bAnd_ok {w:Nat} {a b:Wd} (ha:okB w a) (hb:okB w b):okB w (bAnd a b):=⟨zip_len ha.1 hb.1,fun m h=>by rw[bit_bAnd (ha.1.trans hb.1.symm),ha.2 m h];rfl⟩
theorem bDiff_ok {w:Nat} {a b:Wd} (ha:okB w a) (hb:okB w b):okB w (bDiff a b):=⟨zip_len ha.1 hb.1,fun m h=>by rw[bit_bDiff (ha.1.trans hb.1.symm),ha.2 m h];rfl⟩
theorem diff_full {w:Nat} {a:Wd} (ha:okB w a):bDiff a (fullB w)=nilB w:=by
 refine bits_ext (by rw[(bDiff_ok ha (fullB_ok w)).1,(nilB_ok w).1]) fun m=>?_
 rw[bit_bDiff (ha.1.trans (fullB_ok w).1.symm),bit_full,nilB,bit_nil]
 by_cases h:m<w
 ·simp [h]
 ·rw[ha.2 m (by omega)];rfl
theorem bits64 (f:BitVec 64→BitVec 64→BitVec 64) (x y:UInt64):Sy.bits .u64 f (x.toNat:Nat) (y.toNat:Nat) = .v (.int .u64 ((UInt64.ofBitVec (f x.toBitVec y.toBitVec)).toNat:Nat)):=by
 have h1:∀x:UInt64,BitVec.ofInt 64 (x.toNat:Int)=x.toBitVec:=fun x=>by
  rw[BitVec.ofInt_natCast];exact BitVec.ofNat_toNat ..
 show SV.v (.int .u64 (IntKind.u64.wrap (f (BitVec.ofInt 64 (x.toNat:Int)) (BitVec.ofInt 64 (y.toNat:Int))).toNat))=_;rw[h1,h1,IntKind.wrap_u64];have h2:=(f x.toBitVec y.toBitVec).isLt;rw[show (((f x.toBitVec y.toBitVec).toNat:Int)) % 18446744073709551616=((f x.toBitVec y.toBitVec).toNat:Int) by omega]
 rfl
end Go.Proofs
end
section
namespace Go.Proofs
open Go.Sy
set_option maxRecDepth 20000
set_option maxHeartbeats 4000000
theorem wcut_spec {w:Nat} (hw:w≤1024) {H:Hp} {K:Value→Hp→Prop} (hK:K (.int .i64 (w:Nat)) H):Does Tryz.prog 149 [.int .i64 (w:Nat)] H K:=by
 refine spec_of cx_ok cx_mix rfl Tryz.func149 Tryz.call149 Tryz.ntmps149 Tryz.results149 rfl rfl ?_;exact kint hK (by omega)
theorem wsize_spec {w:Nat} (hw:w≤1024) {H:Hp} {K:Value→Hp→Prop} (hK:K (.int .i64 (sizeB w:Nat)) H):Does Tryz.prog 148 [.int .i64 (w:Nat)] H K:=by
 refine spec_of cx_ok cx_mix rfl Tryz.func148 Tryz.call148 Tryz.ntmps148 Tryz.results148 rfl rfl ?_;refine wcut_spec hw ?_;refine⟨⟨by omega,by omega⟩,?_⟩;refine⟨⟨by omega,by omega⟩,?_⟩
 have e:((w:Int)+64 - 1).tdiv 64=(sizeB w:Nat):=by rw[Int.tdiv_eq_ediv_of_nonneg (by omega),sizeB];omega
 have hs:sizeB w≤16:=by unfold sizeB;omega
 refine⟨by decide,⟨by rw[e];omega,by rw[e];omega⟩,?_⟩;exact kint hK e.symm
theorem one_shift {n:Int} (h:0≤n):(1:Int)*2 ^ (min (Int.tmod n 64).toNat 64)=((one64 (n.toNat % 64)).toNat:Nat):=by
 have e:(Int.tmod n 64).toNat=n.toNat % 64:=by rw[Int.tmod_eq_emod_of_nonneg h];omega
 rw[e,Nat.min_eq_left (by omega),one64_nat (by omega),Int.one_mul]
 push_cast;rfl
theorem one_shift_le {n:Int} (h:0≤n):(0:Int)≤1*2 ^ (min (Int.tmod n 64).toNat 64)∧(1:Int)*2 ^ (min (Int.tmod n 64).toNat 64)≤18446744073709551615:=by
 rw[one_shift h];have:=(one64 (n.toNat % 64)).toNat_lt;omega
theorem tmod_pos {n:Int} (h:0≤n):0≤Int.tmod n 64:=Int.tmod_nonneg _ h
theorem or_one {x:UInt64} {n:Int} (h:0≤n):Sy.bits .u64 (·||| ·) (x.toNat:Nat) ((1:Int)*2 ^ (min (Int.tmod n 64).toNat 64)) = .v (.int .u64 ((x ||| one64 (n.toNat % 64)).toNat:Nat)):=by
 rw[one_shift h];exact bits64 (·||| ·) x (one64 _)
theorem or_oneI {x:UInt64} {n:Int} (h:0≤n):IntKind.u64.wrap ((BitVec.ofInt 64 (x.toNat:Nat) ||| BitVec.ofInt 64 ((1:Int)*2 ^ (min (Int.tmod n 64).toNat 64))).toNat:Nat)=((x ||| one64 (n.toNat % 64)).toNat:Nat):=by
 have:=or_one (x:=x) h;exact (Value.int.inj (SV.v.inj this)).2
theorem put_row {w:Nat} {u:Wd} {n:Int} (h0:0≤n) (h1:n<(w:Int)):(uRows u).set (n.toNat / 64) [.int .u64 (IntKind.u64.wrap ((BitVec.ofInt 64 ((u[n.toNat / 64]?.getD 0).toNat:Nat) ||| BitVec.ofInt 64 ((1:Int)*2 ^ (min (Int.tmod n 64).toNat 64))).toNat:Nat))]=uRows (putB w u n):=by
 rw[or_oneI h0,uRows_set _ _ (UInt64.toNat_lt _),putB,if_pos ⟨h0,h1⟩,setB,UInt64.ofNat_toNat]
theorem wof_spec {w:Nat} (hw:w≤1024) {l:List Int} {a:Option Addr} {n c:Nat} {H:Hp} {K:Value→Hp→Prop} (ha:RL H a n c l) (hK:∀a1 n1 c1 H',Le H H'→RL H' a1 n1 c1 (ofB w l)→K (.slice a1 n1 c1) H'):
  Does Tryz.prog 99 [.int .i64 (w:Nat),.slice a n c] H K:=by
 have hn1:=ha.n_eq;have hmx:=ha.le
 have hsz:sizeB w≤16:=by unfold sizeB;omega
 refine spec_of cx_ok cx_mix rfl Tryz.func99 Tryz.call99 Tryz.ntmps99 Tryz.results99 rfl rfl ?_;refine wsize_spec hw ?_;refine⟨⟨rfl,by omega,by show (sizeB w:Int)*8≤_;omega,by omega⟩,?_⟩
 refine⟨Nat×Wd,fun z=>⟨[(0,.v (.int .i64 (w:Nat))),(5,.own 0),(11,.v (.slice a n c)),(12,.v (.int .i64 n)),(13,.v (.int .i64 z.1))],[(0,.row 126 1 (uRows z.2))],1⟩,
  fun z H'=>H'=H∧z.1≤l.length∧z.2=(l.take z.1).foldl (putB w) (nilB w),fun z=>l.length - z.1,⟨(0,nilB w),[(0,0)],?_,rfl,Nat.zero_le _,rfl⟩,?_⟩
 ·have e:List.replicate ((sizeB w:Nat):Int).toNat [Value.int .u64 0]=uRows (nilB w):=by rw[nilB,uRows,List.map_replicate];rfl
  (repeat' (first|exact trivial|refine⟨?_,?_⟩|exact rfl|assumption))
 rintro⟨i,u⟩ H1 _ ⟨rfl,hi,hu⟩;dsimp only at hi hu
 have hul:u.length=sizeB w:=by rw[hu];exact (put_fold _ _ (nilB_ok w).1).1
 refine⟨fun h=>?_,fun h=>?_⟩
 ·have hlt:i<l.length:=by have:=dt h;dsimp only at this;omega
  have hst:(l.take (i+1)).foldl (putB w) (nilB w)=putB w u l[i]:=by
   rw[List.take_add_one,List.getElem?_eq_getElem hlt,Option.toList_some,List.foldl_append,←hu];rfl
  refine int_k ha (List.getElem?_eq_getElem hlt) fun ad e1 hh=>?_
  refine⟨ad,⟨by dsimp only;omega,by dsimp only;omega,e1⟩,?_⟩;refine⟨_,hh,?_⟩;refine⟨fun h=>?_,fun h=>?_⟩
  ·have h0:0≤l[i]:=dt h;refine wcut_spec hw ?_;refine⟨fun h=>?_,fun h=>?_⟩
   ·have h1:l[i]<(w:Int):=dt h
    have h2:Int.tdiv l[i] 64=(l[i].toNat / 64:Nat):=by rw[Int.tdiv_eq_ediv_of_nonneg h0];omega
    have h3:l[i].toNat / 64<u.length:=by rw[hul,sizeB];omega
    have e:=put_row (u:=u) h0 h1;refine⟨some ([0],[0,1,2,3,4,5,6,7,8,9,10]),by kernel_rfl,?_⟩;refine⟨by decide,⟨by rw[h2];omega,by rw[h2];omega⟩,?_⟩;rw[h2];refine⟨⟨by omega,by rw[uRows_len];dsimp only;omega⟩,?_⟩;refine⟨_,uRows_get (v:=u) (i:=(l[i].toNat / 64:Nat)) (by omega) (by omega),?_⟩;refine⟨by decide,?_⟩;refine⟨tmod_pos h0,one_shift_le h0,?_⟩;refine⟨⟨by omega,by rw[uRows_len];dsimp only;omega⟩,?_⟩;refine⟨_,uRows_get (v:=u) (i:=(l[i].toNat / 64:Nat)) (by omega) (by omega),?_⟩;refine⟨⟨by dsimp only;omega,by dsimp only;omega⟩,(i+1,putB w u l[i]),[(0,0)],?_,⟨rfl,hlt,hst.symm⟩,by dsimp only;omega⟩
    (repeat' (first|exact trivial|refine⟨?_,?_⟩|exact rfl|assumption))
   ·have h1:¬l[i]<(w:Int):=df h;have e:putB w u l[i]=u:=if_neg (fun h=>h1 h.2);refine⟨⟨by dsimp only;omega,by dsimp only;omega⟩,(i+1,u),[(0,0)],?_,⟨rfl,hlt,by rw[hst,e]⟩,by dsimp only;omega⟩
    (repeat' (first|exact trivial|refine⟨?_,?_⟩|exact rfl|assumption))
  ·have h1:¬0≤l[i]:=df h;have e:putB w u l[i]=u:=if_neg (fun h=>h1 h.1);refine⟨⟨by dsimp only;omega,by dsimp only;omega⟩,(i+1,u),[(0,0)],?_,⟨rfl,hlt,by rw[hst,e]⟩,by dsimp only;omega⟩
   (repeat' (first|exact trivial|refine⟨?_,?_⟩|exact rfl|assumption))
 ·have hil:i=l.length:=by have:=df h;dsimp only at this;omega
  rw[hil,List.take_length]at hu;intro v H6 hle6 hv6;dsimp only at hv6;obtain⟨a7,n7,c7,rfl,hr7⟩:=RL.of_row (α:=UInt64) hv6 rc_w;refine hK _ _ _ _ hle6.le ?_
  rw[ofB,←hu];exact hr7
end Go.Proofs
end
section
namespace Go.Proofs
open Go.Sy
set_option maxRecDepth 20000
set_option maxHeartbeats 4000000
theorem wfull_spec {w:Nat} (hw:w≤1024) {H:Hp} {K:Value→Hp→Prop} (hK:∀a1 n1 c1 H',Le H H'→RL H' a1 n1 c1 (fullB w)→K (.slice a1 n1 c1) H'):
  Does Tryz.prog 219 [.int .i64 (w:Nat)] H K:=by
 have hsz:sizeB w≤16:=by unfold sizeB;omega
 refine spec_of cx_ok cx_mix rfl Tryz.func219 Tryz.call219 Tryz.ntmps219 Tryz.results219 rfl rfl ?_;refine wsize_spec hw ?_;refine⟨⟨rfl,by omega,by show (sizeB w:Int)*8≤_;omega,by omega⟩,?_⟩;refine wcut_spec hw ?_
 refine⟨Nat×Wd,fun z=>⟨[(3,.own 0),(9,.v (.int .i64 (w:Nat))),(10,.v (.int .i64 z.1))],[(0,.row 126 1 (uRows z.2))],1⟩,
  fun z H'=>H'=H∧z.1≤w∧z.2=((List.range z.1).map fun i:Nat=>(i:Int)).foldl (putB w) (nilB w),fun z=>w - z.1,⟨(0,nilB w),[(0,0)],?_,rfl,Nat.zero_le _,rfl⟩,?_⟩
 ·have e:List.replicate ((sizeB w:Nat):Int).toNat [Value.int .u64 0]=uRows (nilB w):=by rw[nilB,uRows,List.map_replicate];rfl
  (repeat' (first|exact trivial|refine⟨?_,?_⟩|exact rfl|assumption))
 rintro⟨i,u⟩ H1 _ ⟨rfl,hi,hu⟩;dsimp only at hi hu
 have hul:u.length=sizeB w:=by rw[hu];exact (put_fold _ _ (nilB_ok w).1).1
 refine⟨fun h=>?_,fun h=>?_⟩
 ·have hlt:i<w:=by have:=dt h;dsimp only at this;omega
  have hst:((List.range (i+1)).map fun i:Nat=>(i:Int)).foldl (putB w) (nilB w)=putB w u (i:Nat):=by
   rw[List.range_succ,List.map_append,List.foldl_append,←hu];rfl
  have h0:(0:Int)≤(i:Nat):=by omega
  have h1:((i:Nat):Int)<(w:Int):=by omega
  have h2:Int.tdiv (i:Nat) 64=(((i:Nat):Int).toNat / 64:Nat):=by rw[Int.tdiv_eq_ediv_of_nonneg h0];omega
  have h3:((i:Nat):Int).toNat / 64<u.length:=by rw[hul,sizeB];omega
  have e:=put_row (u:=u) h0 h1;refine⟨some ([0],[0,1,2,3,4,5,6,7,8,9,10]),by kernel_rfl,?_⟩;refine⟨by decide,⟨by rw[h2];omega,by rw[h2];omega⟩,?_⟩;rw[h2];refine⟨⟨by omega,by rw[uRows_len];dsimp only;omega⟩,?_⟩;refine⟨_,uRows_get (v:=u) (i:=(((i:Nat):Int).toNat / 64:Nat)) (by omega) (by omega),?_⟩;refine⟨by decide,?_⟩;refine⟨tmod_pos h0,one_shift_le h0,?_⟩;refine⟨⟨by omega,by rw[uRows_len];dsimp only;omega⟩,?_⟩;refine⟨_,uRows_get (v:=u) (i:=(((i:Nat):Int).toNat / 64:Nat)) (by omega) (by omega),?_⟩;refine⟨⟨by dsimp only;omega,by dsimp only;omega⟩,(i+1,putB w u (i:Nat)),[(0,0)],?_,⟨rfl,hlt,hst.symm⟩,by dsimp only;omega⟩
  (repeat' (first|exact trivial|refine⟨?_,?_⟩|exact rfl|assumption))
 ·have hil:i=w:=by have:=df h;dsimp only at this;omega
  rw[hil]at hu;intro v H6 hle6 hv6;dsimp only at hv6;obtain⟨a7,n7,c7,rfl,hr7⟩:=RL.of_row (α:=UInt64) hv6 rc_w;refine hK _ _ _ _ hle6.le ?_
  rw[fullB,ofB,←hu];exact hr7
theorem wword_spec {l:Wd} {a:Option Addr} {n c:Nat} {i:Nat} {x:UInt64} (hi:l[i]?=some x) {H:Hp} {K:Value→Hp→Prop} (ha:RL H a n c l) (hK:K (.int .u64 (x.toNat:Nat)) H):Does Tryz.prog 250 [.slice a n c,.int .i64 (i:Nat)] H K:=by
 have hn1:=ha.n_eq;have hlt:=(List.getElem?_eq_some_iff.1 hi).1;refine spec_of cx_ok cx_mix rfl Tryz.func250 Tryz.call250 Tryz.ntmps250 Tryz.results250 rfl rfl ?_;refine⟨(fun h=>absurd (dt h) (by omega)),fun _=>?_⟩
 refine word_k ha hi fun ad q1 hh hr=>?_
 refine⟨ad,⟨by omega,by omega,q1⟩,?_⟩;refine⟨_,hh,?_⟩;exact hK
theorem or1_spec {x y:UInt64} {H:Hp} {K:Value→Hp→Prop} (hK:K (.int .u64 ((x ||| y).toNat:Nat)) H):Does Tryz.prog 208 [.int .u64 (x.toNat:Nat),.int .u64 (y.toNat:Nat)] H K:=by
 refine spec_of cx_ok cx_mix rfl Tryz.func208 Tryz.call208 Tryz.ntmps208 Tryz.results208 rfl rfl ?_;exact kint hK (Value.int.inj (SV.v.inj (bits64 (·||| ·) x y))).2.symm
theorem diff1_spec {x y:UInt64} {H:Hp} {K:Value→Hp→Prop} (hK:K (.int .u64 ((x &&& ~~~y).toNat:Nat)) H):Does Tryz.prog 209 [.int .u64 (x.toNat:Nat),.int .u64 (y.toNat:Nat)] H K:=by
 refine spec_of cx_ok cx_mix rfl Tryz.func209 Tryz.call209 Tryz.ntmps209 Tryz.results209 rfl rfl ?_;exact kint hK (Value.int.inj (SV.v.inj (bits64 (fun a b=>a &&& ~~~b) x y))).2.symm
theorem zRow_snoc {f:UInt64→UInt64→UInt64} {a b:Wd} {i:Nat} {x y:UInt64} (hx:a[i]?=some x) (hy:b[i]?=some y):uRows ((List.zipWith f a b).take (i+1))=uRows ((List.zipWith f a b).take i)++[[.int .u64 ((f x y).toNat:Nat)]]:=by
 have h:(List.zipWith f a b)[i]?=some (f x y):=by rw[List.getElem?_zipWith,hx,hy]
 rw[List.take_add_one,h,Option.toList_some,uRows,List.map_append];rfl
theorem bothor_spec {w:Nat} (hw:w≤1024) {x y:Wd} (hx:x.length=sizeB w) (hy:y.length=sizeB w) {a a2:Option Addr} {n c n2 k2:Nat} {H:Hp} {K:SV→St→Hp→Prop} (ha:RL H a n c x) (hb:RL H a2 n2 k2 y) (hK:K (.own 0) ⟨[],[(0,.row 126 1 (uRows (bOr x y)))],1⟩ H):
  DoesG Tryz.prog 207 [.v (.slice a n c),.v (.slice a2 n2 k2),.fn 208 []] [] 0 H K:=by
 have hn1:=ha.n_eq;have hn2:=hb.n_eq
 have hsz:sizeB w≤16:=by unfold sizeB;omega
 refine spec_ofG cx_ok cx_mix Tryz.func207 Tryz.call207 Tryz.ntmps207 Tryz.results207 rfl rfl ?_
 have hm:max ((n:Nat):Int) (n2:Nat)=(n:Nat):=by omega
 refine⟨Nat,fun i=>⟨[(0,.v (.slice a n c)),(1,.v (.slice a2 n2 k2)),(2,.fn 208 []),(7,.own 0),(13,.v (.int .i64 (n:Nat))),(14,.v (.int .i64 i))],[(0,.row 126 1 (uRows ((bOr x y).take i)))],1⟩,
  fun i H'=>H'=H∧i≤n,fun i=>n - i,⟨0,[],?_,rfl,Nat.zero_le _⟩,?_⟩
 ·have e:SV.v (.int .i64 (max ((n:Nat):Int) (n2:Nat)))=SV.v (.int .i64 (n:Nat)):=by rw[hm]
  (repeat' (first|exact trivial|refine⟨?_,?_⟩|exact rfl|assumption))
 rintro i H1 _ ⟨rfl,hi⟩
 have hrl:(uRows ((bOr x y).take i)).length=i:=by rw[uRows_len,List.length_take,bOr,List.length_zipWith];omega
 refine⟨fun h=>?_,fun h=>?_⟩
 ·have hlt:i<n:=by have:=dt h;omega
  have ex:x[i]?=some (x[i]'(by omega)):=List.getElem?_eq_getElem _;have ey:y[i]?=some (y[i]'(by omega)):=List.getElem?_eq_getElem _;refine wword_spec ex ha ?_;refine wword_spec ey hb ?_;refine or1_spec ?_;refine⟨⟨by show (_+1)*8≤140737488355328;rw[hrl];omega,by show _+1≤9223372036854775807;rw[hrl];omega⟩,?_⟩;have e:=(zRow_snoc (f:=(fun x y=>x ||| y)) ex ey).symm;refine⟨⟨by omega,by omega⟩,i+1,[(0,2)],?_,⟨rfl,hlt⟩,by dsimp only;omega⟩
  (repeat' (first|exact trivial|refine⟨?_,?_⟩|exact rfl|assumption))
 ·have hil:i=n:=by have:=df h;omega
  have e:(bOr x y).take i=bOr x y:=List.take_of_length_le (by rw[bOr,List.length_zipWith];omega);rw[e];exact⟨.own 0,[(0,.row 126 1 (uRows (bOr x y)))],1,[(0,0)],by (repeat' (first|exact trivial|refine⟨?_,?_⟩|exact rfl|assumption)),hK⟩
theorem wunion_spec {w:Nat} (hw:w≤1024) {x y:Wd} (hx:x.length=sizeB w) (hy:y.length=sizeB w) {a a2:Option Addr} {n c n2 k2:Nat} {H:Hp} {K:Value→Hp→Prop} (ha:RL H a n c x) (hb:RL H a2 n2 k2 y) (hK:∀a1 n1 c1 H',Le H H'→RL H' a1 n1 c1 (bOr x y)→K (.slice a1 n1 c1) H'):
  Does Tryz.prog 152 [.slice a n c,.slice a2 n2 k2] H K:=by
 refine spec_of cx_ok cx_mix rfl Tryz.func152 Tryz.call152 Tryz.ntmps152 Tryz.results152 rfl rfl ?_;refine⟨[],rfl,bothor_spec hw hx hy ha hb ?_⟩;intro v H6 hle6 hv6;obtain⟨a7,n7,c7,rfl,hr7⟩:=RL.of_row (α:=UInt64) hv6 rc_w;exact hK _ _ _ _ hle6.le hr7
theorem bothdiff_spec {w:Nat} (hw:w≤1024) {x y:Wd} (hx:x.length=sizeB w) (hy:y.length=sizeB w) {a a2:Option Addr} {n c n2 k2:Nat} {H:Hp} {K:SV→St→Hp→Prop} (ha:RL H a n c x) (hb:RL H a2 n2 k2 y) (hK:K (.own 0) ⟨[],[(0,.row 126 1 (uRows (bDiff x y)))],1⟩ H):
  DoesG Tryz.prog 207 [.v (.slice a n c),.v (.slice a2 n2 k2),.fn 209 []] [] 0 H K:=by
 have hn1:=ha.n_eq;have hn2:=hb.n_eq
 have hsz:sizeB w≤16:=by unfold sizeB;omega
 refine spec_ofG cx_ok cx_mix Tryz.func207 Tryz.call207 Tryz.ntmps207 Tryz.results207 rfl rfl ?_
 have hm:max ((n:Nat):Int) (n2:Nat)=(n:Nat):=by omega
 refine⟨Nat,fun i=>⟨[(0,.v (.slice a n c)),(1,.v (.slice a2 n2 k2)),(2,.fn 209 []),(7,.own 0),(13,.v (.int .i64 (n:Nat))),(14,.v (.int .i64 i))],[(0,.row 126 1 (uRows ((bDiff x y).take i)))],1⟩,
  fun i H'=>H'=H∧i≤n,fun i=>n - i,⟨0,[],?_,rfl,Nat.zero_le _⟩,?_⟩
 ·have e:SV.v (.int .i64 (max ((n:Nat):Int) (n2:Nat)))=SV.v (.int .i64 (n:Nat)):=by rw[hm]
  (repeat' (first|exact trivial|refine⟨?_,?_⟩|exact rfl|assumption))
 rintro i H1 _ ⟨rfl,hi⟩
 have hrl:(uRows ((bDiff x y).take i)).length=i:=by rw[uRows_len,List.length_take,bDiff,List.length_zipWith];omega
 refine⟨fun h=>?_,fun h=>?_⟩
 ·have hlt:i<n:=by have:=dt h;omega
  have ex:x[i]?=some (x[i]'(by omega)):=List.getElem?_eq_getElem _;have ey:y[i]?=some (y[i]'(by omega)):=List.getElem?_eq_getElem _;refine wword_spec ex ha ?_;refine wword_spec ey hb ?_;refine diff1_spec ?_;refine⟨⟨by show (_+1)*8≤140737488355328;rw[hrl];omega,by show _+1≤9223372036854775807;rw[hrl];omega⟩,?_⟩;have e:=(zRow_snoc (f:=(fun x y=>x &&& ~~~y)) ex ey).symm;refine⟨⟨by omega,by omega⟩,i+1,[(0,2)],?_,⟨rfl,hlt⟩,by dsimp only;omega⟩
  (repeat' (first|exact trivial|refine⟨?_,?_⟩|exact rfl|assumption))
 ·have hil:i=n:=by have:=df h;omega
  have e:(bDiff x y).take i=bDiff x y:=List.take_of_length_le (by rw[bDiff,List.length_zipWith];omega);rw[e];exact⟨.own 0,[(0,.row 126 1 (uRows (bDiff x y)))],1,[(0,0)],by (repeat' (first|exact trivial|refine⟨?_,?_⟩|exact rfl|assumption)),hK⟩
theorem wminus_spec {w:Nat} (hw:w≤1024) {x y:Wd} (hx:x.length=sizeB w) (hy:y.length=sizeB w) {a a2:Option Addr} {n c n2 k2:Nat} {H:Hp} {K:Value→Hp→Prop} (ha:RL H a n c x) (hb:RL H a2 n2 k2 y) (hK:∀a1 n1 c1 H',Le H H'→RL H' a1 n1 c1 (bDiff x y)→K (.slice a1 n1 c1) H'):
  Does Tryz.prog 153 [.slice a n c,.slice a2 n2 k2] H K:=by
 refine spec_of cx_ok cx_mix rfl Tryz.func153 Tryz.call153 Tryz.ntmps153 Tryz.results153 rfl rfl ?_;refine⟨[],rfl,bothdiff_spec hw hx hy ha hb ?_⟩;intro v H6 hle6 hv6;obtain⟨a7,n7,c7,rfl,hr7⟩:=RL.of_row (α:=UInt64) hv6 rc_w;exact hK _ _ _ _ hle6.le hr7
end Go.Proofs
end
section
namespace Go.Proofs
open Go.Sy
set_option maxRecDepth 20000
set_option maxHeartbeats 4000000
theorem ones0_spec {H:Hp} {K:Value→Hp→Prop} (hK:K (.int .i64 0) H):Does Tryz.prog 336 [.int .u64 0] H K:=by
 refine spec_of cx_ok cx_mix rfl Tryz.func336 Tryz.call336 Tryz.ntmps336 Tryz.results336 rfl rfl ?_
 repeat' (first | exact kint hK (by decide) | refine⟨by decide,?_⟩ | refine⟨⟨by decide,by decide⟩,?_⟩)
theorem wlen0_spec {w:Nat} (hw:w≤1024) {a:Option Addr} {n c:Nat} {H:Hp} {K:Value→Hp→Prop} (ha:RL H a n c (nilB w)) (hK:K (.int .i64 0) H):Does Tryz.prog 332 [.slice a n c] H K:=by
 have hn1:=ha.n_eq;rw[(nilB_ok w).1]at hn1
 have hsz:sizeB w≤16:=by unfold sizeB;omega
 refine spec_of cx_ok cx_mix rfl Tryz.func332 Tryz.call332 Tryz.ntmps332 Tryz.results332 rfl rfl ?_
 refine⟨Nat,fun i=>⟨[(3,.v (.int .i64 0)),(6,.v (.slice a n c)),(7,.v (.int .i64 n)),(8,.v (.int .i64 i))],[],0⟩,
  fun i H'=>H'=H∧i≤n,fun i=>n - i,⟨0,[],?_,rfl,Nat.zero_le _⟩,?_⟩
 ·(repeat' (first|exact trivial|refine⟨?_,?_⟩|exact rfl|assumption))
 rintro i H1 _ ⟨rfl,hi⟩;refine⟨fun h=>?_,fun h=>?_⟩
 ·have hlt:i<n:=by have:=dt h;omega
  have ex:(nilB w)[i]?=some 0:=by rw[nilB,List.getElem?_replicate,if_pos (by omega)]
  refine word_k ha ex fun ad q1 hh hr=>?_
  refine⟨ad,⟨by omega,by omega,q1⟩,?_⟩;refine⟨_,hh,?_⟩;refine ones0_spec ?_;refine⟨⟨by decide,by decide⟩,?_⟩;refine⟨⟨by omega,by omega⟩,i+1,[],?_,⟨rfl,hlt⟩,by dsimp only;omega⟩
  (repeat' (first|exact trivial|refine⟨?_,?_⟩|exact rfl|assumption))
 ·exact hK
theorem wwithin_spec {w:Nat} (hw:w≤1024) {x y:Wd} (hx:okB w x) (hy:y=fullB w) {a a2:Option Addr} {n c n2 k2:Nat} {H:Hp} {K:Value→Hp→Prop} (ha:RL H a n c x) (hb:RL H a2 n2 k2 y) (hK:∀H',Le H H'→K (.bool true) H'):
  Does Tryz.prog 309 [.slice a n c,.slice a2 n2 k2] H K:=by
 subst hy;refine spec_of cx_ok cx_mix rfl Tryz.func309 Tryz.call309 Tryz.ntmps309 Tryz.results309 rfl rfl ?_
 refine wminus_spec hw hx.1 (fullB_ok w).1 ha hb fun a1 n1 c1 H1 hle1 hr1=>?_
 rw[diff_full hx]at hr1;refine wlen0_spec hw hr1 ?_;exact hK _ hle1
theorem wfits_spec {w:Nat} (hw:w≤1024) {x:Wd} (hx:okB w x) {a:Option Addr} {n c:Nat} {H:Hp} {K:Value→Hp→Prop} (ha:RL H a n c x) (hK:∀H',Le H H'→K (.bool true) H'):Does Tryz.prog 256 [.slice a n c,.int .i64 (w:Nat)] H K:=by
 have hn1:=ha.n_eq;rw[hx.1]at hn1;refine spec_of cx_ok cx_mix rfl Tryz.func256 Tryz.call256 Tryz.ntmps256 Tryz.results256 rfl rfl ?_;refine wsize_spec hw ?_;refine⟨fun _=>?_,(fun h=>absurd (by rw[hn1]) (df h))⟩
 refine wfull_spec hw fun a1 n1 c1 H1 hle1 hr1=>?_
 refine wwithin_spec hw hx rfl (ha.up hle1) hr1 fun H2 hle2=>?_
 exact hK _ hle1
end Go.Proofs
end
section
namespace Go.Proofs
open Go.Sy
set_option maxRecDepth 20000
set_option maxHeartbeats 4000000
end Go.Proofs
end
section
namespace Go.Proofs
namespace Bt
open Go.Sy
set_option maxRecDepth 20000
set_option maxHeartbeats 4000000
def uJ (wh:Nat) (x y:UInt64):UInt64:=if wh=1 then x ||| y else x &&& y
def bJoin (wh:Nat) (a b:Wd):Wd:=List.zipWith (uJ wh) a b
def bBot (wh w:Nat):Wd:=if wh=2 then fullB w else nilB w
def Wh (wh:Nat):Prop:=wh=1∨wh=2
theorem bBot_ok (wh w:Nat):okB w (bBot wh w):=by
 unfold bBot;split
 ·exact fullB_ok w
 ·exact nilB_ok w
theorem bJoin_or (a b:Wd):bJoin 1 a b=bOr a b:=rfl
theorem bJoin_and {wh:Nat} (h:wh≠1) (a b:Wd):bJoin wh a b=bAnd a b:=by
 unfold bJoin bAnd
 congr 1
 funext x y;rw[uJ,if_neg h]
theorem bJoin_ok {wh w:Nat} {a b:Wd} (ha:okB w a) (hb:okB w b):okB w (bJoin wh a b):=by
 by_cases h:wh=1
 ·subst h;exact bOr_ok ha hb
 ·rw[bJoin_and h];exact bAnd_ok ha hb
def bApp (t:Wd×Wd) (x:Wd):Wd:=bOr (bDiff x t.2) t.1
theorem bApp_ok {w:Nat} {t:Wd×Wd} (h1:okB w t.1) (h2:okB w t.2) {x:Wd} (hx:okB w x):okB w (bApp t x):=bOr_ok (bDiff_ok hx h2) h1
theorem latis_spec {wh n:Nat} (hwh:Wh wh) (hn:n≤1024) {H:Hp} {K:Value→Hp→Prop} (hK:K (.bool true) H):Does Tryz.prog 215 [.int .i64 (wh:Nat),.int .i64 (n:Nat)] H K:=by
 rcases hwh with rfl | rfl
 ·refine spec_of cx_ok cx_mix rfl Tryz.func215 Tryz.call215 Tryz.ntmps215 Tryz.results215 rfl rfl ?_;refine⟨(fun h=>absurd h (by decide)),fun _=>?_⟩;refine⟨fun _=>?_,(fun h=>absurd (by omega) (df h))⟩;exact kbool hK (by rw[decide_eq_true (by omega)])
 ·refine spec_of cx_ok cx_mix rfl Tryz.func215 Tryz.call215 Tryz.ntmps215 Tryz.results215 rfl rfl ?_;refine⟨fun _=>?_,(fun h=>absurd h (by decide))⟩;refine⟨(fun h=>absurd h (by decide)),fun _=>?_⟩;refine⟨fun _=>?_,(fun h=>absurd (by omega) (df h))⟩;exact kbool hK (by rw[decide_eq_true (by omega)])
theorem latwords_spec {wh n:Nat} (hwh:Wh wh) (hn:n≤1024) {H:Hp} {K:Value→Hp→Prop} (hK:K (.int .i64 (sizeB n:Nat)) H):Does Tryz.prog 220 [.int .i64 (wh:Nat),.int .i64 (n:Nat)] H K:=by
 have h:=hwh
 rcases h with rfl | rfl
 ·refine spec_of cx_ok cx_mix rfl Tryz.func220 Tryz.call220 Tryz.ntmps220 Tryz.results220 rfl rfl ?_;refine latis_spec hwh hn ?_;refine⟨(fun h=>by cases h),fun _=>?_⟩;refine⟨fun _=>?_,(fun h=>absurd h (by decide))⟩;exact wsize_spec hn hK
 ·refine spec_of cx_ok cx_mix rfl Tryz.func220 Tryz.call220 Tryz.ntmps220 Tryz.results220 rfl rfl ?_;refine latis_spec hwh hn ?_;refine⟨(fun h=>by cases h),fun _=>?_⟩;refine⟨(fun h=>absurd h (by decide)),fun _=>?_⟩;refine⟨fun _=>?_,(fun h=>absurd h (by decide))⟩;exact wsize_spec hn hK
theorem latbot_spec {wh n:Nat} (hwh:Wh wh) (hn:n≤1024) {H:Hp} {K:Value→Hp→Prop} (hK:∀a n1 c H',Le H H'→RL H' a n1 c (bBot wh n)→K (.slice a n1 c) H'):Does Tryz.prog 159 [.int .i64 (wh:Nat),.int .i64 (n:Nat)] H K:=by
 have hsz:sizeB n≤16:=by unfold sizeB;omega
 have h:=hwh
 rcases h with rfl | rfl
 ·refine spec_of cx_ok cx_mix rfl Tryz.func159 Tryz.call159 Tryz.ntmps159 Tryz.results159 rfl rfl ?_;refine⟨(fun h=>absurd (dt h) (by decide)),fun _=>?_⟩;refine latwords_spec hwh hn ?_;refine⟨⟨rfl,by omega,by show (sizeB n:Int)*8≤_;omega,by omega⟩,?_⟩;intro v H1 hle1 hv
  have e:RowAt H1 v 1 ((nilB n).map fun w=>[Value.int .u64 (w.toNat:Nat)]):=by
   rw[nilB,List.map_replicate];exact hv
  obtain⟨a,n1,c,rfl,hr⟩:=RL.of_row (α:=UInt64) e rc_w;exact hK _ _ _ _ hle1.le hr
 ·refine spec_of cx_ok cx_mix rfl Tryz.func159 Tryz.call159 Tryz.ntmps159 Tryz.results159 rfl rfl ?_;refine⟨fun _=>?_,(fun h=>absurd rfl (df h))⟩;refine latis_spec hwh hn ?_;refine⟨fun _=>?_,(fun h=>by cases h)⟩;refine wfull_spec hn ?_;exact hK
theorem latheight_spec {wh n:Nat} (hwh:Wh wh) (hn:n≤1024) {H:Hp} {K:Value→Hp→Prop} (hK:K (.int .i64 (n:Nat)) H):Does Tryz.prog 157 [.int .i64 (wh:Nat),.int .i64 (n:Nat)] H K:=by
 refine spec_of cx_ok cx_mix rfl Tryz.func157 Tryz.call157 Tryz.ntmps157 Tryz.results157 rfl rfl ?_;refine latis_spec hwh hn ?_;refine⟨(fun h=>by cases h),fun _=>?_⟩;refine⟨fun h=>absurd (dt h) (by unfold Wh at hwh;omega),fun _=>?_⟩;exact hK
theorem latIs_spec {wh w:Nat} (hwh:Wh wh) (hw:w≤1024) {l:Wd} (hl:okB w l) {a:Option Addr} {n c:Nat} {H:Hp} {K:Value→Hp→Prop} (ha:RL H a n c l) (hK:K (.bool true) H):Does Tryz.prog 216 [.int .i64 (wh:Nat),.int .i64 (w:Nat),.slice a n c] H K:=by
 have hn1:=ha.n_eq;have hl1:=hl.1;refine spec_of cx_ok cx_mix rfl Tryz.func216 Tryz.call216 Tryz.ntmps216 Tryz.results216 rfl rfl ?_;refine latis_spec hwh hw ?_;refine⟨fun _=>?_,(fun h=>by cases h)⟩;refine latwords_spec hwh hw ?_;refine⟨(fun h=>absurd (by rw[hn1,hl1]) (nt h)),fun _=>?_⟩;refine⟨fun _=>?_,fun h=>absurd (nf h) (by unfold Wh at hwh;omega)⟩
 refine wfits_spec hw hl ha fun H1 hle1=>?_
 exact hK
theorem latword_spec {wh:Nat} (hwh:Wh wh) {x y:UInt64} {H:Hp} {K:Value→Hp→Prop} (hK:K (.int .u64 ((uJ wh x y).toNat:Nat)) H):Does Tryz.prog 255 [.int .i64 (wh:Nat),.int .u64 (x.toNat:Nat),.int .u64 (y.toNat:Nat)] H K:=by
 rcases hwh with rfl | rfl
 ·refine spec_of cx_ok cx_mix rfl Tryz.func255 Tryz.call255 Tryz.ntmps255 Tryz.results255 rfl rfl ?_;refine⟨fun _=>?_,(fun h=>absurd rfl (df h))⟩;exact kint hK (Value.int.inj (SV.v.inj (bits64 (·||| ·) x y))).2.symm
 ·refine spec_of cx_ok cx_mix rfl Tryz.func255 Tryz.call255 Tryz.ntmps255 Tryz.results255 rfl rfl ?_;refine⟨(fun h=>absurd (dt h) (by decide)),fun _=>?_⟩;refine⟨fun _=>?_,(fun h=>absurd rfl (df h))⟩;exact kint hK (Value.int.inj (SV.v.inj (bits64 (·&&& ·) x y))).2.symm
abbrev c2 (wh w:Nat):List (Nat×Bx):=[(0,.cells 3 [.v (.int .i64 (wh:Nat))]),(1,.cells 3 [.v (.int .i64 (w:Nat))])]
theorem chk1_spec {wh w:Nat} (hwh:Wh wh) (hw:w≤1024) {l:Wd} (hl:okB w l) {a:Option Addr} {n c:Nat} {H:Hp} {K:SV→St→Hp→Prop} (ha:RL H a n c l) (hK:K (.v (.bool false)) ⟨[],c2 wh w,2⟩ H):
  DoesG Tryz.prog 307 [.v (.slice a n c),.ptr 0 0,.ptr 1 0] (c2 wh w) 2 H K:=by
 refine spec_ofG cx_ok cx_mix Tryz.func307 Tryz.call307 Tryz.ntmps307 Tryz.results307 rfl rfl ?_;refine latIs_spec hwh hw hl ha ?_;exact⟨.v (.bool false),c2 wh w,2,[(0,0),(1,1)],by (repeat' (first|exact trivial|refine⟨?_,?_⟩|exact rfl|assumption)),hK⟩
theorem indexV_spec {wh w:Nat} (hwh:Wh wh) (hw:w≤1024) {l:List Wd} (hl:∀x∈l,okB w x) {a:Option Addr} {n c:Nat} {H:Hp} {K:SV→St→Hp→Prop} (ha:RL H a n c l) (hK:K (.v (.int .i64 (-1))) ⟨[],c2 wh w,2⟩ H):
  DoesG Tryz.prog 306 [.v (.slice a n c),.fn 307 [.ptr 0 0,.ptr 1 0]] (c2 wh w) 2 H K:=by
 have hn1:=ha.n_eq;have hmx:=ha.le;refine spec_ofG cx_ok cx_mix Tryz.func306 Tryz.call306 Tryz.ntmps306 Tryz.results306 rfl rfl ?_
 refine⟨Nat,fun j=>⟨[(0,.v (.slice a n c)),(1,.fn 307 [.ptr 0 0,.ptr 1 0]),(7,.v (.int .i64 n)),(8,.v (.int .i64 j))],c2 wh w,2⟩,
  fun j H'=>H'=H∧j≤l.length,fun j=>l.length - j,⟨0,[(0,0),(1,1)],?_,rfl,by omega⟩,?_⟩
 ·(repeat' (first|exact trivial|refine⟨?_,?_⟩|exact rfl|assumption))
 rintro j H1 _ ⟨rfl,hi⟩;refine⟨fun h=>?_,fun h=>?_⟩
 ·have hlt:j<l.length:=by have:=dt h;omega
  refine list_k ha (List.getElem?_eq_getElem hlt) fun ad a5 n5 c5 q1 hh hr=>?_
  refine⟨ad,⟨by omega,by omega,q1⟩,?_⟩;refine⟨_,hh,?_⟩;refine⟨[0,1],rfl,chk1_spec hwh hw (hl _ (List.getElem_mem hlt)) hr ?_⟩;refine⟨(fun h=>by cases h),fun _=>?_⟩;refine⟨⟨by omega,by omega⟩,j+1,[(0,0),(1,1)],?_,⟨rfl,by omega⟩,by dsimp only;omega⟩
  (repeat' (first|exact trivial|refine⟨?_,?_⟩|exact rfl|assumption))
 ·exact⟨.v (.int .i64 (-1)),c2 wh w,2,[(0,0),(1,1)],by (repeat' (first|exact trivial|refine⟨?_,?_⟩|exact rfl|assumption)),hK⟩
theorem contV_spec {wh w:Nat} (hwh:Wh wh) (hw:w≤1024) {l:List Wd} (hl:∀x∈l,okB w x) {a:Option Addr} {n c:Nat} {H:Hp} {K:SV→St→Hp→Prop} (ha:RL H a n c l) (hK:K (.v (.bool false)) ⟨[],c2 wh w,2⟩ H):
  DoesG Tryz.prog 251 [.v (.slice a n c),.fn 307 [.ptr 0 0,.ptr 1 0]] (c2 wh w) 2 H K:=by
 refine spec_ofG cx_ok cx_mix Tryz.func251 Tryz.call251 Tryz.ntmps251 Tryz.results251 rfl rfl ?_;refine⟨[0,1],rfl,indexV_spec hwh hw hl ha ?_⟩;exact⟨.v (.bool false),c2 wh w,2,[(0,0),(1,1)],by (repeat' (first|exact trivial|refine⟨?_,?_⟩|exact rfl|assumption)),hK⟩
theorem latcheck_spec {wh w:Nat} (hwh:Wh wh) (hw:w≤1024) {l:List Wd} (hl:∀x∈l,okB w x) {a:Option Addr} {n c:Nat} {H:Hp} {K:Value→Hp→Prop} (ha:RL H a n c l) (hK:K (.int .i64 0) H):Does Tryz.prog 254 [.int .i64 (wh:Nat),.int .i64 (w:Nat),.slice a n c] H K:=by
 refine spec_of cx_ok cx_mix rfl Tryz.func254 Tryz.call254 Tryz.ntmps254 Tryz.results254 rfl rfl ?_;refine latis_spec hwh hw ?_;refine⟨(fun h=>by cases h),fun _=>?_⟩;refine⟨[0,1],rfl,contV_spec hwh hw hl ha ?_⟩;refine⟨(fun h=>by cases h),fun _=>?_⟩;exact hK
theorem latjoin_spec {wh w:Nat} (hwh:Wh wh) (hw:w≤1024) {x y:Wd} (hx:okB w x) (hy:okB w y) {a a2:Option Addr} {n c n2 k2:Nat} {H:Hp} {K:Value→Hp→Prop} (ha:RL H a n c x) (hb:RL H a2 n2 k2 y) (hK:∀a1 n1 c1 H',Le H H'→RL H' a1 n1 c1 (bJoin wh x y)→K (.tuple #[.slice a1 n1 c1,.int .i64 0]) H'):
  Does Tryz.prog 212 [.int .i64 (wh:Nat),.int .i64 (w:Nat),.slice a n c,.slice a2 n2 k2] H K:=by
 have hn1:=ha.n_eq;have hn2:=hb.n_eq;have hx1:=hx.1;have hy1:=hy.1
 have hsz:sizeB w≤16:=by unfold sizeB;omega
 refine spec_of cx_ok cx_mix rfl Tryz.func212 Tryz.call212 Tryz.ntmps212 Tryz.results212 rfl rfl ?_;intro v H1 hle1 hv;have hrl:RC (α:=Wd) H1 [[.slice a n c],[.slice a2 n2 k2]] [x,y]:=((RC.nil (α:=Wd)).snoc (show Enc.R (α:=Wd) H1 [.slice a n c] x from ⟨a,n,c,rfl,ha.up hle1.le⟩)).snoc (show Enc.R (α:=Wd) H1 [.slice a2 n2 k2] y from ⟨a2,n2,k2,rfl,hb.up hle1.le⟩);obtain⟨a3,n3,c3,rfl,hr3⟩:=RL.of_row (α:=Wd) hv hrl;refine latcheck_spec hwh hw (l:=[x,y]) (fun z hz=>?_) hr3 ?_
 ·simp only[List.mem_cons,List.not_mem_nil,or_false]at hz
  rcases hz with rfl | rfl
  ·exact hx
  ·exact hy
 refine⟨(fun h=>absurd rfl (nt h)),fun _=>?_⟩;have hjl:(bJoin wh x y).length=sizeB w:=(bJoin_ok hx hy).1
 refine⟨Nat,fun i=>⟨[(0,.v (.int .i64 (wh:Nat))),(2,.v (.slice a n c)),(3,.v (.slice a2 n2 k2)),(11,.own 0),(22,.v (.slice a n c)),(23,.v (.int .i64 n)),(24,.v (.int .i64 i))],[(0,.row 126 1 (uRows ((bJoin wh x y).take i)))],1⟩,
  fun i H'=>H'=H∧i≤x.length,fun i=>x.length - i,⟨0,[],?_,rfl,Nat.zero_le _⟩,?_⟩
 ·(repeat' (first|exact trivial|refine⟨?_,?_⟩|exact rfl|assumption))
 rintro i H2 _ ⟨rfl,hi⟩
 have hrl2:(uRows ((bJoin wh x y).take i)).length=i:=by rw[uRows_len,List.length_take];omega
 refine⟨fun h=>?_,fun h=>?_⟩
 ·have hlt:i<x.length:=by have:=dt h;omega
  have hlt2:i<y.length:=by omega
  refine word_k ha (List.getElem?_eq_getElem hlt) fun ad q1 hh hr=>?_
  refine word_k hb (List.getElem?_eq_getElem hlt2) fun ad2 q2 hh2 hr2=>?_
  refine⟨some ([0,1],[0,1,2,3,4,5,6,7,8,9,10,11,12,13]),by kernel_rfl,?_⟩;refine⟨ad,⟨by omega,by omega,q1⟩,?_⟩;refine⟨_,hh,?_⟩;refine⟨ad2,⟨by omega,by omega,q2⟩,?_⟩;refine⟨_,hh2,?_⟩;refine latword_spec hwh ?_;refine⟨⟨by show (_+1)*8≤140737488355328;rw[hrl2];omega,by show _+1≤9223372036854775807;rw[hrl2];omega⟩,?_⟩;have e:=(zRow_snoc (f:=uJ wh) (List.getElem?_eq_getElem hlt) (List.getElem?_eq_getElem hlt2)).symm;refine⟨⟨by omega,by omega⟩,i+1,[(0,2)],?_,⟨rfl,hlt⟩,by dsimp only;omega⟩
  (repeat' (first|exact trivial|refine⟨?_,?_⟩|exact rfl|assumption))
 ·have hil:i=x.length:=by have:=df h;omega
  have e:(bJoin wh x y).take i=bJoin wh x y:=List.take_of_length_le (by omega);rw[e];intro v H3 hle3 hv3;obtain⟨a5,n5,c5,rfl,hr5⟩:=RL.of_row (α:=UInt64) hv3 rc_w;exact hK _ _ _ _ hle3.le hr5
end Bt
end Go.Proofs
end
section
namespace Go.Proofs
namespace Bt
open Go.Sy
set_option maxRecDepth 20000
set_option maxHeartbeats 4000000
structure TA where
 ga:Option Addr
 gn:Nat
 gc:Nat
 ka:Option Addr
 kn:Nat
 kc:Nat
abbrev trV (z:TA):List Value:=[.slice z.ga z.gn z.gc,.slice z.ka z.kn z.kc,.slice none 0 0]
abbrev trA (z:TA):Value:=.agg (trV z).toArray
structure TrR (H:Hp) (t:Wd×Wd) (z:TA):Prop where
 g:RL H z.ga z.gn z.gc t.1
 k:RL H z.ka z.kn z.kc t.2
theorem TrR.up {H H':Hp} {t:Wd×Wd} {z:TA} (h:TrR H t z) (hle:Le H H'):TrR H' t z:=⟨h.g.up hle,h.k.up hle⟩
def okT (w:Nat) (t:Wd×Wd):Prop:=okB w t.1∧okB w t.2
theorem tcheck_spec {wh w:Nat} (hwh:Wh wh) (hw:w≤1024) {t:Wd×Wd} (ht:okT w t) {z:TA} {H:Hp} {K:Value→Hp→Prop} (hr:TrR H t z) (hK:K (.int .i64 0) H):Does Tryz.prog 218 [.int .i64 (wh:Nat),.int .i64 (w:Nat),trA z] H K:=by
 have h:=hwh
 rcases h with rfl | rfl
 ·refine spec_of cx_ok cx_mix rfl Tryz.func218 Tryz.call218 Tryz.ntmps218 Tryz.results218 rfl rfl ?_;refine⟨fun _=>?_,(fun h=>absurd (dt h) (by omega))⟩;refine⟨(fun h=>absurd (dt h) (by omega)),fun _=>?_⟩;refine⟨fun _=>?_,(fun h=>absurd h (by decide))⟩;refine⟨fun _=>?_,(fun h=>absurd h (by decide))⟩
  refine wfits_spec hw ht.1 hr.g fun H1 hle1=>?_
  refine⟨fun _=>?_,(fun h=>by cases h)⟩
  refine wfits_spec hw ht.2 hr.k fun H2 hle2=>?_
  refine⟨fun _=>?_,(fun h=>by cases h)⟩;refine⟨(fun h=>absurd h (by decide)),fun _=>?_⟩;exact hK
 ·refine spec_of cx_ok cx_mix rfl Tryz.func218 Tryz.call218 Tryz.ntmps218 Tryz.results218 rfl rfl ?_;refine⟨fun _=>?_,(fun h=>absurd (dt h) (by omega))⟩;refine⟨(fun h=>absurd (dt h) (by omega)),fun _=>?_⟩;refine⟨(fun h=>absurd h (by decide)),fun _=>?_⟩;refine⟨fun _=>?_,(fun h=>absurd h (by decide))⟩
  refine wfits_spec hw ht.1 hr.g fun H1 hle1=>?_
  refine⟨fun _=>?_,(fun h=>by cases h)⟩
  refine wfits_spec hw ht.2 hr.k fun H2 hle2=>?_
  refine⟨fun _=>?_,(fun h=>by cases h)⟩;refine⟨(fun h=>absurd h (by decide)),fun _=>?_⟩;exact hK
theorem tapply_spec {wh w:Nat} (hwh:Wh wh) (hw:w≤1024) {x:Wd} (hx:okB w x) {t:Wd×Wd} (ht:okT w t) {z:TA} {a:Option Addr} {n c:Nat} {H:Hp} {K:Value→Hp→Prop} (ha:RL H a n c x) (hr:TrR H t z) (hK:∀a1 n1 c1 H',Le H H'→RL H' a1 n1 c1 (bApp t x)→K (.tuple #[.slice a1 n1 c1,.int .i64 0]) H'):
  Does Tryz.prog 161 [.int .i64 (wh:Nat),.int .i64 (w:Nat),trA z,.slice a n c] H K:=by
 refine spec_of cx_ok cx_mix rfl Tryz.func161 Tryz.call161 Tryz.ntmps161 Tryz.results161 rfl rfl ?_;refine tcheck_spec hwh hw ht hr ?_;refine⟨(fun h=>absurd rfl (nt h)),fun _=>?_⟩;refine latIs_spec hwh hw hx ha ?_;refine⟨(fun h=>by cases h),fun _=>?_⟩;refine⟨fun _=>?_,fun h=>absurd (nf h) (by unfold Wh at hwh;omega)⟩;refine⟨some ([],[0,1,2,4,5,3,6,7,8]),by kernel_rfl,?_⟩
 refine wminus_spec hw hx.1 ht.2.1 ha hr.k fun a1 n1 c1 H1 hle1 hr1=>?_
 refine wunion_spec hw (bDiff_ok hx ht.2).1 ht.1.1 hr1 (hr.up hle1).g fun a2 n2 c2 H2 hle2 hr2=>?_
 exact hK _ _ _ _ (hle1.trans hle2) hr2
end Bt
end Go.Proofs
end
section
namespace Go.Proofs
namespace Bt
open Go.Sy
set_option maxRecDepth 20000
set_option maxHeartbeats 4000000
structure TrB where
 t:Wd×Wd
instance:Enc TrB where
 sz:=3
 R H cs x:=∃z:TA,cs=trV z∧TrR H x.t z
 len h:=by obtain⟨_,rfl,_⟩:=h;rfl
 one h:=by obtain⟨_,rfl,_⟩:=h;intro u hu;simp at hu;rcases hu with rfl | rfl | rfl<;>rfl
 up hle h:=by obtain⟨z,e,h⟩:=h;exact⟨z,e,h.up hle⟩
structure SyB where
 wh:Nat
 w:Nat
 m:Nat
 E:List Edg
 ent:List Int
 ini:Wd
 T:List (Wd×Wd)
abbrev sysV (s:SyB) (z:SA):List Value:=[.int .i64 (s.wh:Nat),.int .i64 (s.w:Nat),.int .i64 (s.m:Nat),.slice z.ea z.en z.ec,.slice z.na z.nn z.nc,.slice z.ia z.ni z.ic,.slice z.ta z.tn z.tc]
abbrev sysA (s:SyB) (z:SA):Value:=.agg (sysV s z).toArray
structure SysR (H:Hp) (s:SyB) (z:SA):Prop where
 e:RL H z.ea z.en z.ec s.E
 n:RL H z.na z.nn z.nc s.ent
 i:RL H z.ia z.ni z.ic s.ini
 t:RL (α:=TrB) H z.ta z.tn z.tc (s.T.map TrB.mk)
theorem SysR.up {H H':Hp} {s:SyB} {z:SA} (h:SysR H s z) (hle:Le H H'):SysR H' s z:=⟨h.e.up hle,h.n.up hle,h.i.up hle,h.t.up hle⟩
structure OkS (s:SyB):Prop where
 wh:Wh s.wh
 w:s.w≤1024
 m:1≤s.m∧s.m≤256
 El:s.E.length≤1024
 En:∀e∈s.E,(0≤e.1∧e.1<(s.m:Nat))∧0≤e.2∧e.2<(s.m:Nat)
 ent:∀v∈s.ent,0≤v∧v<(s.m:Nat)
 ini:okB s.w s.ini
 Tl:s.T.length=s.m
 T:∀t∈s.T,okT s.w t
theorem trans_k {P:Prop} {H:Hp} {a:Option Addr} {n c:Nat} {T:List (Wd×Wd)} (h:RL (α:=TrB) H a n c (T.map TrB.mk)) {i:Nat} {t:Wd×Wd} (hi:T[i]?=some t) (k:∀ad z,a=some ad→ElemH H ad (i:Int) 3 (trV z)→TrR H t z→P):P :=
 elem_k h (i:=i) (x:=TrB.mk t) (by rw[List.getElem?_map,hi];rfl) fun ad cs h1 h2 h3=>by
  obtain⟨z,rfl,h4⟩:=h3;exact k ad z h1 h2 h4
theorem right_ok {s:SyB} (h:OkS s):rightE (s.m:Nat) s.E=true:=by
 have h1:=h.m;have h2:=h.El;rw[rightE,decide_eq_true (by omega),decide_eq_true (by omega),decide_eq_true h2];simp only[Bool.true_and,Bool.not_eq_true',decide_eq_false_iff_not];intro h0;obtain⟨e,he,h3⟩:=(idxB_none s.E 0 (Int.le_refl 0)).1 h0;have h4:=h.En e he;rw[badE,decide_eq_true h4.1,decide_eq_true h4.2]at h3;cases h3
theorem scheck_spec {s:SyB} {z:SA} (ho:OkS s) {H:Hp} {K:Value→Hp→Prop} (hs:SysR H s z) (hK:∀H',Le H H'→K (.int .i64 0) H'):Does Tryz.prog 158 [sysA s z] H K:=by
 have hm:=ho.m;have hw:=ho.w;have htn:=hs.t.n_eq;rw[List.length_map,ho.Tl]at htn;have hnn:=hs.n.n_eq;have hnx:=hs.n.le;refine spec_of cx_ok cx_mix rfl Tryz.func158 Tryz.call158 Tryz.ntmps158 Tryz.results158 rfl rfl ?_;refine .inl ⟨0,?_⟩;refine⟨none,?_⟩
 refine region_plan (α:=Unit) ?_ ?_ (.one [] [0,1,2,3,4,5,6,7,8,9,10,11,12,13,14,15,16,17,18])
  (fun _=>⟨[(1,.ptr 0 0),(26,.v (.bool false))],[(0,.cells 106 (vL (sysV s z)))],1⟩) (fun _ H'=>Le H H') (by kernel_rfl) ?_ ?_
 ·exact⟨cx_ok.tt,cx_ok.eqs⟩
 ·exact cx_mix
 ·refine latheight_spec ho.wh hw ?_;refine⟨fun _=>?_,fun _=>?_⟩
  ·refine latbot_spec ho.wh hw fun a1 n1 c1 H1 hle1 hr1=>?_
   refine latIs_spec ho.wh hw (bBot_ok s.wh s.w) hr1 ?_;exact⟨(),[(0,0)],by (repeat' (first|exact trivial|refine⟨?_,?_⟩|exact rfl|assumption)),hle1⟩
  ·exact⟨(),[(0,0)],by (repeat' (first|exact trivial|refine⟨?_,?_⟩|exact rfl|assumption)),Le.refl H⟩
 rintro _ H1 _ hle;refine⟨(fun h=>by cases h),fun _=>?_⟩;have hs:=hs.up hle;refine right_true (right_ok ho) hs.e ?_;refine⟨fun _=>?_,(fun h=>by cases h)⟩;refine⟨(fun h=>absurd (by rw[htn]) (nt h)),fun _=>?_⟩
 refine⟨Nat,fun i=>⟨[(1,.ptr 0 0),(42,.v (.slice z.na z.nn z.nc)),(43,.v (.int .i64 z.nn)),(44,.v (.int .i64 i))],[(0,.cells 106 (vL (sysV s z)))],1⟩,
  fun i H'=>H'=H1∧i≤s.ent.length,fun i=>s.ent.length - i,⟨0,[(0,0)],?_,rfl,Nat.zero_le _⟩,?_⟩
 ·(repeat' (first|exact trivial|refine⟨?_,?_⟩|exact rfl|assumption))
 rintro i H2 _ ⟨rfl,hi⟩;refine⟨fun h=>?_,fun h=>?_⟩
 ·have hlt:i<s.ent.length:=by have:=dt h;omega
  have hv:=ho.ent _ (List.getElem_mem hlt)
  refine int_k hs.n (List.getElem?_eq_getElem hlt) fun ad e1 hh=>?_
  refine⟨ad,⟨by omega,by omega,e1⟩,?_⟩;refine⟨_,hh,?_⟩;refine⟨fun _=>?_,(fun h=>absurd (dt h) (by omega))⟩;refine⟨(fun h=>absurd (dt h) (by omega)),fun _=>?_⟩;refine⟨⟨by omega,by omega⟩,i+1,[(0,0)],?_,⟨rfl,hlt⟩,by dsimp only;omega⟩
  (repeat' (first|exact trivial|refine⟨?_,?_⟩|exact rfl|assumption))
 refine latIs_spec ho.wh hw ho.ini hs.i ?_;refine⟨(fun h=>by cases h),fun _=>?_⟩
 refine⟨Nat,fun i=>⟨[(1,.ptr 0 0),(66,.v (.slice z.ta z.tn z.tc)),(67,.v (.int .i64 z.tn)),(68,.v (.int .i64 i))],[(0,.cells 106 (vL (sysV s z)))],1⟩,
  fun i H'=>H'=H2∧i≤s.T.length,fun i=>s.T.length - i,⟨0,[(0,0)],?_,rfl,Nat.zero_le _⟩,?_⟩
 ·(repeat' (first|exact trivial|refine⟨?_,?_⟩|exact rfl|assumption))
 rintro j H3 _ ⟨rfl,hj⟩;have hTl:=ho.Tl;refine⟨fun h=>?_,fun h=>?_⟩
 ·have hlt:j<s.T.length:=by have:=dt h;omega
  refine trans_k hs.t (List.getElem?_eq_getElem hlt) fun ad zt e1 hh hr1=>?_
  refine⟨ad,⟨by omega,by omega,e1⟩,?_⟩;refine⟨_,hh,?_⟩;refine tcheck_spec ho.wh hw (ho.T _ (List.getElem_mem hlt)) hr1 ?_;refine⟨(fun h=>absurd rfl (nt h)),fun _=>?_⟩;refine⟨⟨by omega,by omega⟩,j+1,[(0,0)],?_,⟨rfl,hlt⟩,by dsimp only;omega⟩
  (repeat' (first|exact trivial|refine⟨?_,?_⟩|exact rfl|assumption))
 ·exact hK _ hle
theorem snode_spec {s:SyB} {z:SA} (ho:OkS s) {v:Nat} (hv:v<s.m) {H:Hp} {K:Value→Hp→Prop} (hs:SysR H s z) (hK:K (.int .i64 0) H):Does Tryz.prog 160 [sysA s z,.int .i64 (v:Nat)] H K:=by
 refine spec_of cx_ok cx_mix rfl Tryz.func160 Tryz.call160 Tryz.ntmps160 Tryz.results160 rfl rfl ?_
 refine scheck_spec (s:=s) (z:=z) ho hs fun _ _=>?_
 refine⟨(fun h=>absurd rfl (nt h)),fun _=>?_⟩;refine⟨fun _=>?_,(fun h=>absurd (dt h) (by omega))⟩;refine⟨(fun h=>absurd (dt h) (by omega)),fun _=>?_⟩;exact hK
def vStart (s:SyB) (v:Nat):Wd:=if (v:Int)∈s.ent then s.ini else bBot s.wh s.w
theorem vStart_ok {s:SyB} (ho:OkS s) (v:Nat):okB s.w (vStart s v):=by
 unfold vStart;split
 ·exact ho.ini
 ·exact bBot_ok _ _
theorem sstart_spec {s:SyB} {z:SA} (ho:OkS s) {v:Nat} {H:Hp} {K:Value→Hp→Prop} (hs:SysR H s z) (hK:∀a1 n1 c1 H',Le H H'→RL H' a1 n1 c1 (vStart s v)→K (.slice a1 n1 c1) H'):Does Tryz.prog 211 [sysA s z,.int .i64 (v:Nat)] H K:=by
 have hi:=ho.ini.1;have hw:=ho.w
 have hsz:sizeB s.w≤16:=by unfold sizeB;omega
 refine spec_of cx_ok cx_mix rfl Tryz.func211 Tryz.call211 Tryz.ntmps211 Tryz.results211 rfl rfl ?_;refine containsN_spec hs.n ?_;refine⟨fun h=>?_,fun h=>?_⟩
 ·have hm:(v:Int)∈s.ent:=dt h;have e:vStart s v=s.ini:=if_pos hm;rw[e]at hK;exact cloneU_spec (by omega) hs.i hK
 ·have hm:¬(v:Int)∈s.ent:=df h;have e:vStart s v=bBot s.wh s.w:=if_neg hm;rw[e]at hK;exact latbot_spec ho.wh hw hK
def tAt (s:SyB) (v:Nat):Wd×Wd:=s.T[v]?.getD (nilB s.w,nilB s.w)
theorem tAt_ok {s:SyB} (ho:OkS s) (v:Nat):okT s.w (tAt s v):=by
 unfold tAt
 cases h:s.T[v]? with
 | none=>exact⟨nilB_ok _,nilB_ok _⟩
 | some t=>exact ho.T t (List.mem_of_getElem? h)
theorem tAt_get {s:SyB} (ho:OkS s) {v:Nat} (hv:v<s.m):s.T[v]?=some (tAt s v):=by
 have:v<s.T.length:=by rw[ho.Tl];exact hv
 rw[tAt,List.getElem?_eq_getElem this];rfl
theorem sout_spec {s:SyB} {z:SA} (ho:OkS s) {v:Nat} (hv:v<s.m) {x:Wd} (hx:okB s.w x) {a:Option Addr} {n c:Nat} {H:Hp} {K:Value→Hp→Prop} (hs:SysR H s z) (ha:RL H a n c x) (hK:∀a1 n1 c1 H',Le H H'→RL H' a1 n1 c1 (bApp (tAt s v) x)→K (.tuple #[.slice a1 n1 c1,.int .i64 0]) H'):
  Does Tryz.prog 104 [sysA s z,.int .i64 (v:Nat),.slice a n c] H K:=by
 have htn:=hs.t.n_eq;rw[List.length_map,ho.Tl]at htn;refine spec_of cx_ok cx_mix rfl Tryz.func104 Tryz.call104 Tryz.ntmps104 Tryz.results104 rfl rfl ?_;refine snode_spec (s:=s) (z:=z) ho hv hs ?_;refine⟨(fun h=>absurd rfl (nt h)),fun _=>?_⟩
 refine trans_k hs.t (tAt_get ho hv) fun ad zt e1 hh hr1=>?_
 refine⟨some ([],[0,1,2,3,4,5,6,7,8,9,10,11,12,13,14]),by kernel_rfl,?_⟩;refine⟨ad,⟨by omega,by omega,e1⟩,?_⟩;refine⟨_,hh,?_⟩
 refine tapply_spec ho.wh ho.w hx (tAt_ok ho v) ha hr1 fun a2 n2 c2 H2 hle2 hr2=>?_
 exact hK _ _ _ _ hle2 hr2
theorem sbottom_spec {s:SyB} {z:SA} (ho:OkS s) {H:Hp} {K:Value→Hp→Prop} (hs:SysR H s z) (hK:∀v css H3 H',Le H H3→RC (α:=Wd) H3 css (List.replicate s.m (bBot s.wh s.w))→LeN 103 1 css H3 v H'→RowAt H' v 1 css→K (.tuple #[v,.int .i64 0]) H'):Does Tryz.prog 103 [sysA s z] H K:=by
 have hm:=ho.m;have hw:=ho.w;refine spec_of cx_ok cx_mix rfl Tryz.func103 Tryz.call103 Tryz.ntmps103 Tryz.results103 rfl rfl ?_
 refine scheck_spec (s:=s) (z:=z) ho hs fun _ _=>?_
 refine⟨(fun h=>absurd rfl (nt h)),fun _=>?_⟩;refine⟨⟨rfl,by omega,by show (s.m:Int)*24≤_;omega,by omega⟩,?_⟩
 refine⟨Nat×List (List Value),fun q=>⟨[(1,.ptr 0 0),(5,.own 1),(16,.v (.int .i64 (s.m:Nat))),(17,.v (.int .i64 q.1))],[(0,.cells 106 (vL (sysV s z))),(1,.row 103 1 q.2)],2⟩,
  fun q H'=>Le H H'∧q.1≤s.m∧RC (α:=Wd) H' q.2 (fillV (fun _=>bBot s.wh s.w) s.m q.1),fun q=>s.m - q.1,⟨(0,List.replicate s.m [.slice none 0 0]),[(0,0),(1,1)],?_,Le.refl H,Nat.zero_le _,by simpa [fillV] using nilRow_rc⟩,?_⟩
 ·have e:SV.v (.int .i64 ((List.replicate (s.m:Int).toNat [Value.slice none 0 0]).length:Nat))=SV.v (.int .i64 (s.m:Nat)):=by simp
  (repeat' (first|exact trivial|refine⟨?_,?_⟩|exact rfl|assumption))
 rintro⟨i,css⟩ H1 _ ⟨hle1,hi,hrc⟩;dsimp only at hi hrc
 have hcl:css.length=s.m:=by have h1:=hrc.1;rw[fillV_len _ hi]at h1;exact h1
 refine⟨fun h=>?_,fun h=>?_⟩
 ·have hlt:i<s.m:=by have:=dt h;dsimp only at this;omega
  refine latbot_spec ho.wh hw fun a1 n1 c1 H2 hle2 hr1=>?_
  have hrc2:=RC.up hrc hle2
  refine wdrow_k hrc2 (fillV_get _ hlt) fun a0 n0 c0 hg _=>?_
  have hg2:css[(i:Int).toNat]?=_:=hg;refine⟨⟨by dsimp only;omega,by dsimp only;omega⟩,?_⟩;refine⟨_,hg2,?_⟩
  have hrc3:RC (α:=Wd) H2 (css.set i [.slice a1 n1 c1]) (fillV (fun _=>bBot s.wh s.w) s.m (i+1)):=by
   rw[←fillV_set _ hlt];exact wd_set hrc2 hr1
  refine⟨⟨by dsimp only;omega,by dsimp only;omega⟩,(i+1,css.set i [.slice a1 n1 c1]),[(0,0),(1,1)],?_,⟨hle1.trans hle2,hlt,hrc3⟩,by dsimp only;omega⟩
  (repeat' (first|exact trivial|refine⟨?_,?_⟩|exact rfl|assumption))
 ·have hil:i=s.m:=by have:=df h;dsimp only at this;omega
  rw[hil,fillV_full,map_const]at hrc;intro v H6 hle6 hv6;exact hK v css H1 H6 hle1 hrc hle6 hv6
end Bt
end Go.Proofs
end
section
namespace Go.Proofs
namespace Bt
open Go.Sy
set_option maxRecDepth 20000
set_option maxHeartbeats 4000000
structure OkA (s:SyB) (A:List Wd):Prop where
 len:A.length=s.m
 ok:∀x∈A,okB s.w x
def aAt (A:List Wd) (v:Nat):Wd:=A[v]?.getD []
theorem aAt_get {s:SyB} {A:List Wd} (h:OkA s A) {v:Nat} (hv:v<s.m):A[v]?=some (aAt A v):=by
 have:v<A.length:=by rw[h.len];exact hv
 rw[aAt,List.getElem?_eq_getElem this];rfl
theorem aAt_ok {s:SyB} {A:List Wd} (h:OkA s A) {v:Nat} (hv:v<s.m):okB s.w (aAt A v):=h.ok _ (List.mem_of_getElem? (aAt_get h hv))
def appE (s:SyB) (A:List Wd) (e:Edg):Wd:=bApp (tAt s e.1.toNat) (aAt A e.1.toNat)
def stepE (s:SyB) (A out:List Wd) (e:Edg):List Wd:=out.set e.2.toNat (bJoin s.wh (aAt out e.2.toNat) (appE s A e))
def starts (s:SyB):List Wd:=(List.range s.m).map (vStart s)
def stepS (s:SyB) (A:List Wd):List Wd:=s.E.foldl (stepE s A) (starts s)
theorem starts_ok {s:SyB} (ho:OkS s):OkA s (starts s):=⟨by simp [starts],fun x hx=>by
 obtain⟨v,_,rfl⟩:=List.mem_map.1 hx
 exact vStart_ok ho v⟩
theorem appE_ok {s:SyB} (ho:OkS s) {A:List Wd} (hA:OkA s A) {e:Edg} (he:0≤e.1∧e.1<(s.m:Nat)):okB s.w (appE s A e):=bApp_ok (tAt_ok ho _).1 (tAt_ok ho _).2 (aAt_ok hA (by omega))
theorem stepE_ok {s:SyB} (ho:OkS s) {A out:List Wd} (hA:OkA s A) (hO:OkA s out) {e:Edg} (he:0≤e.1∧e.1<(s.m:Nat)) (he2:0≤e.2∧e.2<(s.m:Nat)):OkA s (stepE s A out e):=by
 refine⟨by rw[stepE,List.length_set];exact hO.len,fun x hx=>?_⟩
 rcases List.mem_or_eq_of_mem_set hx with hx | rfl
 ·exact hO.ok x hx
 ·exact bJoin_ok (aAt_ok hO (by omega)) (appE_ok ho hA he)
theorem fold_ok {s:SyB} (ho:OkS s) {A:List Wd} (hA:OkA s A):∀(l:List Edg) {out:List Wd},(∀e∈l,(0≤e.1∧e.1<(s.m:Nat))∧0≤e.2∧e.2<(s.m:Nat))→OkA s out→OkA s (l.foldl (stepE s A) out)
 | [],_,_,h=>h
 | e::r,out,hl,h=>by
  have h1:=hl e List.mem_cons_self;exact fold_ok ho hA r (out:=stepE s A out e) (fun e he=>hl e (List.mem_cons_of_mem _ he)) (stepE_ok ho hA h h1.1 h1.2)
theorem stepS_ok {s:SyB} (ho:OkS s) {A:List Wd} (hA:OkA s A):OkA s (stepS s A):=fold_ok ho hA s.E ho.En (starts_ok ho)
abbrev bS (s:SyB) (z:SA):List (Nat×Bx):=[(0,.cells 106 (vL (sysV s z)))]
theorem val1_spec {s:SyB} {z:SA} (ho:OkS s) {l:Wd} (hl:okB s.w l) {a:Option Addr} {n c:Nat} {H:Hp} {K:SV→St→Hp→Prop} (ha:RL H a n c l) (hK:K (.v (.bool false)) ⟨[],bS s z,1⟩ H):
  DoesG Tryz.prog 252 [.v (.slice a n c),.ptr 0 0] (bS s z) 1 H K:=by
 refine spec_ofG cx_ok cx_mix Tryz.func252 Tryz.call252 Tryz.ntmps252 Tryz.results252 rfl rfl ?_;refine latIs_spec ho.wh ho.w hl ha ?_;exact⟨.v (.bool false),bS s z,1,[(0,0)],by (repeat' (first|exact trivial|refine⟨?_,?_⟩|exact rfl|assumption)),hK⟩
theorem indexW_spec {s:SyB} {z:SA} (ho:OkS s) {l:List Wd} (hl:∀x∈l,okB s.w x) {a:Option Addr} {n c:Nat} {H:Hp} {K:SV→St→Hp→Prop} (ha:RL H a n c l) (hK:K (.v (.int .i64 (-1))) ⟨[],bS s z,1⟩ H):
  DoesG Tryz.prog 306 [.v (.slice a n c),.fn 252 [.ptr 0 0]] (bS s z) 1 H K:=by
 have hn1:=ha.n_eq;have hmx:=ha.le;refine spec_ofG cx_ok cx_mix Tryz.func306 Tryz.call306 Tryz.ntmps306 Tryz.results306 rfl rfl ?_
 refine⟨Nat,fun j=>⟨[(0,.v (.slice a n c)),(1,.fn 252 [.ptr 0 0]),(7,.v (.int .i64 n)),(8,.v (.int .i64 j))],bS s z,1⟩,
  fun j H'=>H'=H∧j≤l.length,fun j=>l.length - j,⟨0,[(0,0)],?_,rfl,by omega⟩,?_⟩
 ·(repeat' (first|exact trivial|refine⟨?_,?_⟩|exact rfl|assumption))
 rintro j H1 _ ⟨rfl,hi⟩;refine⟨fun h=>?_,fun h=>?_⟩
 ·have hlt:j<l.length:=by have:=dt h;omega
  refine list_k ha (List.getElem?_eq_getElem hlt) fun ad a5 n5 c5 q1 hh hr=>?_
  refine⟨ad,⟨by omega,by omega,q1⟩,?_⟩;refine⟨_,hh,?_⟩;refine⟨[0],rfl,val1_spec (s:=s) (z:=z) ho (hl _ (List.getElem_mem hlt)) hr ?_⟩;refine⟨(fun h=>by cases h),fun _=>?_⟩;refine⟨⟨by omega,by omega⟩,j+1,[(0,0)],?_,⟨rfl,by omega⟩,by dsimp only;omega⟩
  (repeat' (first|exact trivial|refine⟨?_,?_⟩|exact rfl|assumption))
 ·exact⟨.v (.int .i64 (-1)),bS s z,1,[(0,0)],by (repeat' (first|exact trivial|refine⟨?_,?_⟩|exact rfl|assumption)),hK⟩
theorem contW_spec {s:SyB} {z:SA} (ho:OkS s) {l:List Wd} (hl:∀x∈l,okB s.w x) {a:Option Addr} {n c:Nat} {H:Hp} {K:SV→St→Hp→Prop} (ha:RL H a n c l) (hK:K (.v (.bool false)) ⟨[],bS s z,1⟩ H):
  DoesG Tryz.prog 251 [.v (.slice a n c),.fn 252 [.ptr 0 0]] (bS s z) 1 H K:=by
 refine spec_ofG cx_ok cx_mix Tryz.func251 Tryz.call251 Tryz.ntmps251 Tryz.results251 rfl rfl ?_;refine⟨[0],rfl,indexW_spec (s:=s) (z:=z) ho hl ha ?_⟩;exact⟨.v (.bool false),bS s z,1,[(0,0)],by (repeat' (first|exact trivial|refine⟨?_,?_⟩|exact rfl|assumption)),hK⟩
theorem svalues_spec {s:SyB} {z:SA} (ho:OkS s) {A:List Wd} (hA:OkA s A) {a:Option Addr} {n c:Nat} {H:Hp} {K:Value→Hp→Prop} (ha:RL H a n c A) (hK:K (.bool true) H):Does Tryz.prog 210 [sysA s z,.slice a n c] H K:=by
 have hn1:=ha.n_eq;have hl:=hA.len;refine spec_of cx_ok cx_mix rfl Tryz.func210 Tryz.call210 Tryz.ntmps210 Tryz.results210 rfl rfl ?_;refine⟨fun _=>?_,(fun h=>absurd (by rw[hn1,hl]) (df h))⟩;refine⟨[0],rfl,contW_spec (s:=s) (z:=z) ho hA.ok ha ?_⟩;exact hK
theorem sstep_spec {s:SyB} {z:SA} (ho:OkS s) {A:List Wd} (hA:OkA s A) {a:Option Addr} {n c:Nat} {H:Hp} {K:Value→Hp→Prop} (hs:SysR H s z) (ha:RL H a n c A) (hK:∀a1 n1 c1 H',Le H H'→RL H' a1 n1 c1 (stepS s A)→K (.tuple #[.slice a1 n1 c1,.int .i64 0]) H'):
  Does Tryz.prog 155 [sysA s z,.slice a n c] H K:=by
 have hm:=ho.m;have hw:=ho.w;have hne:=hs.e.n_eq;have hnx:=hs.e.le;have hna:=ha.n_eq;have hal:=hA.len;have htn:=hs.t.n_eq;rw[List.length_map,ho.Tl]at htn;refine spec_of cx_ok cx_mix rfl Tryz.func155 Tryz.call155 Tryz.ntmps155 Tryz.results155 rfl rfl ?_
 refine scheck_spec (s:=s) (z:=z) ho hs fun _ _=>?_
 refine⟨(fun h=>absurd rfl (nt h)),fun _=>?_⟩;refine svalues_spec (s:=s) (z:=z) ho hA ha ?_;refine⟨(fun h=>by cases h),fun _=>?_⟩;refine⟨⟨rfl,by omega,by show (s.m:Int)*24≤_;omega,by omega⟩,?_⟩
 refine⟨Nat×List (List Value),fun q=>⟨[(1,.v (.slice a n c)),(2,.ptr 0 0),(7,.own 1),(26,.v (.int .i64 (s.m:Nat))),(27,.v (.int .i64 q.1))],[(0,.cells 106 (vL (sysV s z))),(1,.row 103 1 q.2)],2⟩,
  fun q H'=>Le H H'∧q.1≤s.m∧RC (α:=Wd) H' q.2 (fillV (vStart s) s.m q.1),fun q=>s.m - q.1,⟨(0,List.replicate s.m [.slice none 0 0]),[(0,0),(1,1)],?_,Le.refl H,Nat.zero_le _,by simpa [fillV] using nilRow_rc⟩,?_⟩
 ·have e:SV.v (.int .i64 ((List.replicate (s.m:Int).toNat [Value.slice none 0 0]).length:Nat))=SV.v (.int .i64 (s.m:Nat)):=by simp
  (repeat' (first|exact trivial|refine⟨?_,?_⟩|exact rfl|assumption))
 rintro⟨i,css⟩ H1 _ ⟨hle1,hi,hrc⟩;dsimp only at hi hrc
 have hcl:css.length=s.m:=by have h1:=hrc.1;rw[fillV_len _ hi]at h1;exact h1
 refine⟨fun h=>?_,fun h=>?_⟩
 ·have hlt:i<s.m:=by have:=dt h;dsimp only at this;omega
  refine sstart_spec (s:=s) (z:=z) ho (hs.up hle1) fun a1 n1 c1 H2 hle2 hr1=>?_
  have hrc2:=RC.up hrc hle2
  refine wdrow_k hrc2 (fillV_get _ hlt) fun a0 n0 c0 hg _=>?_
  have hg2:css[(i:Int).toNat]?=_:=hg;refine⟨⟨by dsimp only;omega,by dsimp only;omega⟩,?_⟩;refine⟨_,hg2,?_⟩
  have hrc3:RC (α:=Wd) H2 (css.set i [.slice a1 n1 c1]) (fillV (vStart s) s.m (i+1)):=by
   rw[←fillV_set _ hlt];exact wd_set hrc2 hr1
  refine⟨⟨by dsimp only;omega,by dsimp only;omega⟩,(i+1,css.set i [.slice a1 n1 c1]),[(0,0),(1,1)],?_,⟨hle1.trans hle2,hlt,hrc3⟩,by dsimp only;omega⟩
  (repeat' (first|exact trivial|refine⟨?_,?_⟩|exact rfl|assumption))
 have hil:i=s.m:=by have:=df h;dsimp only at this;omega
 rw[hil,fillV_full]at hrc
 refine⟨Nat×List (List Value),fun q=>⟨[(1,.v (.slice a n c)),(2,.ptr 0 0),(7,.own 1),(38,.v (.slice z.ea z.en z.ec)),(39,.v (.int .i64 z.en)),(40,.v (.int .i64 q.1))],[(0,.cells 106 (vL (sysV s z))),(1,.row 103 1 q.2)],2⟩,
  fun q H'=>Le H1 H'∧q.1≤s.E.length∧RC (α:=Wd) H' q.2 ((s.E.take q.1).foldl (stepE s A) (starts s)),fun q=>s.E.length - q.1,⟨(0,css),[(0,0),(1,1)],?_,Le.refl H1,Nat.zero_le _,hrc⟩,?_⟩
 ·(repeat' (first|exact trivial|refine⟨?_,?_⟩|exact rfl|assumption))
 rintro⟨j,css⟩ H2 _ ⟨hle2,hj,hrc⟩;dsimp only at hj hrc;have hok:OkA s ((s.E.take j).foldl (stepE s A) (starts s)):=fold_ok ho hA _ (fun e he=>ho.En e (List.mem_of_mem_take he)) (starts_ok ho)
 have hcl:css.length=s.m:=by have h1:=hrc.1;rw[hok.len]at h1;exact h1
 have hle:=hle1.trans hle2;refine⟨fun h=>?_,fun h=>?_⟩
 ·have hlt:j<s.E.length:=by have:=dt h;dsimp only at this;omega
  refine name_k s.E[j] fun e hee=>?_
  have hee2:s.E[j]?=some e:=by rw[hee];exact List.getElem?_eq_getElem hlt
  have hen:=ho.En e (by rw[hee];exact List.getElem_mem hlt)
  have hst:(s.E.take (j+1)).foldl (stepE s A) (starts s)=stepE s A ((s.E.take j).foldl (stepE s A) (starts s)) e:=by
   rw[List.take_add_one,hee2,Option.toList_some,List.foldl_append];rfl
  have hs2:=hs.up hle
  have e1n:e.1.toNat<s.m:=by omega
  have e2n:e.2.toNat<s.m:=by omega
  have ei1:((e.1.toNat:Nat):Int)=e.1:=Int.toNat_of_nonneg hen.1.1
  refine edge_k hs2.e hee2 fun ad q1 hh=>?_
  refine⟨ad,⟨by dsimp only;omega,by dsimp only;omega,q1⟩,?_⟩;refine⟨_,hh,?_⟩
  refine trans_k hs2.t (tAt_get ho e1n) fun ad2 zt q2 hh2 hr2=>?_
  rw[ei1]at hh2
  refine list_k (ha.up hle) (aAt_get hA e1n) fun ad3 a3 n3 c3 q3 hh3 hr3=>?_
  rw[ei1]at hh3;refine⟨some ([],[0,1,2,3,4,5,6,7,8,9,10,11,12,13,14,15,16,17,18,19,20]),by kernel_rfl,?_⟩;refine⟨ad2,⟨by omega,by omega,q2⟩,?_⟩;refine⟨_,hh2,?_⟩;refine⟨ad3,⟨by omega,by omega,q3⟩,?_⟩;refine⟨_,hh3,?_⟩
  refine tapply_spec ho.wh hw (aAt_ok hA e1n) (tAt_ok ho _) hr3 hr2 fun a4 n4 c4 H4 hle4 hr4=>?_
  have hrc4:=RC.up hrc hle4
  refine wdrow_k hrc4 (aAt_get hok e2n) fun a5 n5 c5 hg hr5=>?_
  refine⟨some ([1],[0,1,2,3,4,5,6,7,8,9,10,11,12,13,14,15,16,17,18]),by kernel_rfl,?_⟩;refine⟨⟨hen.2.1,by show e.2<(css.length:Int);omega⟩,?_⟩;refine⟨_,hg,?_⟩
  refine latjoin_spec ho.wh hw (aAt_ok hok e2n) (appE_ok ho hA hen.1) hr5 hr4 fun a6 n6 c6 H6 hle6 hr6=>?_
  have hrc6:RC (α:=Wd) H6 (css.set e.2.toNat [.slice a6 n6 c6]) ((s.E.take (j+1)).foldl (stepE s A) (starts s)):=by
   rw[hst];exact wd_set (RC.up hrc4 hle6) hr6
  refine⟨⟨hen.2.1,by show e.2<(css.length:Int);omega⟩,?_⟩;refine⟨_,hg,?_⟩;refine⟨⟨by dsimp only;omega,by dsimp only;omega⟩,(j+1,css.set e.2.toNat [.slice a6 n6 c6]),[(0,0),(1,1)],?_,⟨(hle2.trans hle4).trans hle6,hlt,hrc6⟩,by dsimp only;omega⟩
  (repeat' (first|exact trivial|refine⟨?_,?_⟩|exact rfl|assumption))
 ·have hjl:j=s.E.length:=by have:=df h;dsimp only at this;omega
  rw[hjl,List.take_length]at hrc;intro v H6 hle6 hv6;obtain⟨a7,n7,c7,rfl,hr7⟩:=RL.of_row (α:=Wd) hv6 (RC.up hrc hle6.le);exact hK _ _ _ _ (hle.trans hle6.le) hr7
end Bt
end Go.Proofs
end
section
namespace Go.Proofs
namespace Bt
open Go.Sy
set_option maxRecDepth 20000
set_option maxHeartbeats 4000000
def enoughS (s:SyB):Nat:=s.m*s.w+1
theorem enoughS_le {s:SyB} (ho:OkS s):enoughS s≤1000000:=by
 have h1:=ho.m;have h2:=ho.w;have:s.m*s.w≤256*1024:=Nat.mul_le_mul h1.2 (by omega)
 unfold enoughS;omega
theorem enough_spec {s:SyB} {z:SA} (ho:OkS s) {H:Hp} {K:Value→Hp→Prop} (hK:K (.int .i64 (enoughS s:Nat)) H):Does Tryz.prog 102 [sysA s z] H K:=by
 have hE:=enoughS_le ho
 have ee:((s.m:Int))*((s.w:Nat):Int)=((s.m*s.w:Nat):Int):=by push_cast;rfl
 refine spec_of cx_ok cx_mix rfl Tryz.func102 Tryz.call102 Tryz.ntmps102 Tryz.results102 rfl rfl ?_;refine⟨some ([],[0,1,2,3,4,5,6,7,8,9]),by kernel_rfl,?_⟩;refine latheight_spec ho.wh ho.w ?_;unfold enoughS at hE;refine⟨⟨by rw[ee];omega,by rw[ee];omega⟩,?_⟩;refine⟨⟨by rw[ee];omega,by rw[ee];omega⟩,?_⟩;exact kint hK (by rw[ee,enoughS];push_cast;rfl)
def iterN (s:SyB):Nat→List Wd→List Wd
 | 0,A=>A
 | k+1,A=>if A=stepS s A then A else iterN s k (stepS s A)
def bots (s:SyB):List Wd:=List.replicate s.m (bBot s.wh s.w)
theorem bots_ok (s:SyB):OkA s (bots s):=⟨List.length_replicate,fun x hx=>by rw[(List.mem_replicate.1 hx).2];exact bBot_ok _ _⟩
def solveS (s:SyB):List Wd:=iterN s (enoughS s) (bots s)
theorem iterN_ok {s:SyB} (ho:OkS s):∀(k:Nat) {A:List Wd},OkA s A→OkA s (iterN s k A)
 | 0,_,h=>h
 | k+1,A,h=>by
  rw[iterN];split
  ·exact h
  ·exact iterN_ok ho k (stepS_ok ho h)
theorem solveS_ok {s:SyB} (ho:OkS s):OkA s (solveS s):=iterN_ok ho _ (bots_ok s)
abbrev bI (s:SyB) (z:SA) (a:Option Addr) (n c:Nat):List (Nat×Bx):=[(0,.cells 106 (vL (sysV s z))),(1,.cells 109 [.v (.slice a n c)])]
theorem istep_spec {s:SyB} {z:SA} (ho:OkS s) {A:List Wd} (hA:OkA s A) {a:Option Addr} {n c:Nat} {H:Hp} {K:SV→St→Hp→Prop} (hs:SysR H s z) (ha:RL H a n c A) (hK:∀a1 n1 c1 H',Le H H'→RL H' a1 n1 c1 (stepS s A)→K (.v (.slice a1 n1 c1)) ⟨[],bI s z a n c,2⟩ H'):
  DoesG Tryz.prog 154 [.ptr 0 0,.ptr 1 0] (bI s z a n c) 2 H K:=by
 refine spec_ofG cx_ok cx_mix Tryz.func154 Tryz.call154 Tryz.ntmps154 Tryz.results154 rfl rfl ?_
 refine sstep_spec (s:=s) (z:=z) ho hA hs ha fun a1 n1 c1 H1 hle1 hr1=>?_
 exact⟨.v (.slice a1 n1 c1),bI s z a n c,2,[(0,0),(1,1)],by (repeat' (first|exact trivial|refine⟨?_,?_⟩|exact rfl|assumption)),hK _ _ _ _ hle1 hr1⟩
theorem iterate_spec {s:SyB} {z:SA} (ho:OkS s) {most:Nat} (hmo:most≤1000000) {H:Hp} {K:Value→Hp→Prop} (hs:SysR H s z) (hK:∀a1 n1 c1 k H',Le H H'→RL H' a1 n1 c1 (iterN s most (bots s))→K (.tuple #[.slice a1 n1 c1,.int .i64 k,.int .i64 0]) H'):
  Does Tryz.prog 101 [sysA s z,.int .i64 (most:Nat)] H K:=by
 refine spec_of cx_ok cx_mix rfl Tryz.func101 Tryz.call101 Tryz.ntmps101 Tryz.results101 rfl rfl ?_
 refine .inr ⟨Nat×List Wd×(Option Addr×Nat×Nat),fun _=>0,fun q=>⟨[(1,.v (.int .i64 (most:Nat))),(2,.ptr 0 0),(7,.ptr 1 0),(9,.v (.int .i64 q.1)),(10,.fn 154 [.ptr 0 0,.ptr 1 0])],bI s z q.2.2.1 q.2.2.2.1 q.2.2.2.2,2⟩,
  fun q H'=>Le H H'∧RL H' q.2.2.1 q.2.2.2.1 q.2.2.2.2 q.2.1∧OkA s q.2.1∧q.1≤most∧iterN s most (bots s)=iterN s (most - q.1) q.2.1,fun q=>most - q.1,?_,?_⟩
 ·refine sbottom_spec (s:=s) (z:=z) ho hs fun v css H3 H1 hle3 hrc hle1 hv=>?_
  obtain⟨a,n,c,rfl,hr⟩:=RL.of_row (α:=Wd) hv (RC.up hrc hle1.le);have hle:Le H H1:=hle3.trans hle1.le;have hr:RL H1 a n c (bots s):=hr;have hA:=bots_ok s;have hI:iterN s most (bots s)=iterN s (most - 0) (bots s):=rfl;refine⟨fun h=>absurd rfl (nt h),fun _=>?_⟩;refine⟨[0,1],rfl,istep_spec (s:=s) (z:=z) ho hA (hs.up hle) hr fun a2 n2 c2 H2 hle2 hr2=>?_⟩;have hA2:=stepS_ok ho hA;refine⟨fun h=>?_,fun h=>?_⟩
  ·have hlt:0<most:=by have:=dt h; omega
   have hst:iterN s (most - 0) (bots s)=if (bots s)=stepS s (bots s) then (bots s) else iterN s (most - (0+1)) (stepS s (bots s)):=by
    rw[show most - 0=(most - (0+1))+1 by omega,iterN]
   refine lsame_spec (hr.up hle2) hr2 ?_;refine⟨fun h=>?_,fun h=>?_⟩
   ·have hne:=nt h;rw[hst,if_neg hne]at hI;refine⟨⟨by  omega,by  omega⟩,?_⟩;refine⟨(0+1,stepS s (bots s),(a2,n2,c2)),[(0,0),(1,1)],rfl,?_,⟨hle.trans hle2,hr2,hA2,hlt,hI⟩⟩
    (repeat' (first|exact trivial|refine⟨?_,?_⟩|exact rfl|assumption))
   ·have heq:=nf h;rw[hst,if_pos heq]at hI;rw[hI]at hK;exact hK _ _ _ _ _ (hle.trans hle2) (hr.up hle2)
  ·have hge:¬0<most:=by have:=df h; omega
   rw[show most - 0=0 by omega,iterN]at hI;rw[hI]at hK;exact hK _ _ _ _ _ (hle.trans hle2) (hr.up hle2)
 ·rintro⟨k,A,a,n,c⟩ H1 _ ⟨hle,hr,hA,hk,hI⟩;dsimp only at hr hA hk hI;refine⟨[0,1],rfl,istep_spec (s:=s) (z:=z) ho hA (hs.up hle) hr fun a2 n2 c2 H2 hle2 hr2=>?_⟩;have hA2:=stepS_ok ho hA;refine⟨fun h=>?_,fun h=>?_⟩
  ·have hlt:k<most:=by have:=dt h;dsimp only at this;omega
   have hst:iterN s (most - k) A=if A=stepS s A then A else iterN s (most - (k+1)) (stepS s A):=by
    rw[show most - k=(most - (k+1))+1 by omega,iterN]
   refine lsame_spec (hr.up hle2) hr2 ?_;refine⟨fun h=>?_,fun h=>?_⟩
   ·have hne:=nt h;rw[hst,if_neg hne]at hI;refine⟨⟨by dsimp only;omega,by dsimp only;omega⟩,?_⟩;refine⟨(k+1,stepS s A,(a2,n2,c2)),[(0,0),(1,1)],rfl,?_,⟨hle.trans hle2,hr2,hA2,hlt,hI⟩,by dsimp only;omega⟩
    (repeat' (first|exact trivial|refine⟨?_,?_⟩|exact rfl|assumption))
   ·have heq:=nf h;rw[hst,if_pos heq]at hI;rw[hI]at hK;exact hK _ _ _ _ _ (hle.trans hle2) (hr.up hle2)
  ·have hge:¬k<most:=by have:=df h;dsimp only at this;omega
   rw[show most - k=0 by omega,iterN]at hI;rw[hI]at hK;exact hK _ _ _ _ _ (hle.trans hle2) (hr.up hle2)
theorem lsolve_spec {s:SyB} {z:SA} (ho:OkS s) {H:Hp} {K:Value→Hp→Prop} (hs:SysR H s z) (hK:∀a1 n1 c1 k H',Le H H'→RL H' a1 n1 c1 (solveS s)→K (.tuple #[.slice a1 n1 c1,.int .i64 k,.int .i64 0]) H'):Does Tryz.prog 65 [sysA s z] H K:=by
 refine spec_of cx_ok cx_mix rfl Tryz.func65 Tryz.call65 Tryz.ntmps65 Tryz.results65 rfl rfl ?_;refine⟨some ([],[0,1,2,3,4,5,6,7,8,9]),by kernel_rfl,?_⟩;refine enough_spec (s:=s) (z:=z) ho ?_
 refine iterate_spec (s:=s) (z:=z) ho (enoughS_le ho) hs fun a1 n1 c1 k H1 hle1 hr1=>?_
 exact hK _ _ _ _ _ hle1 hr1
def outsS (s:SyB) (A:List Wd):List Wd:=(List.range s.m).map fun v=>bApp (tAt s v) (aAt A v)
theorem botG_spec {s:SyB} {z:SA} (ho:OkS s) {H:Hp} {K:SV→St→Hp→Prop} (hs:SysR H s z) (hK:∀css H',Le H H'→RC (α:=Wd) H' css (bots s)→K (.tup [.own 0,.v (.int .i64 0)]) ⟨[],[(0,.row 103 1 css)],1⟩ H'):
  DoesG Tryz.prog 103 [.agg (vL (sysV s z))] [] 0 H K:=by
 refine doesG_thawR (args:=[sysA s z]) (fun _=>rfl) (sbottom_spec (s:=s) (z:=z) ho hs (K:=fun v H'=>∃x css H3,v = .tuple #[x,.int .i64 0]∧Le H H3∧RC (α:=Wd) H3 css (bots s)∧LeN 103 1 css H3 x H') (fun v css H3 H' h1 h2 h3 _=>⟨v,css,H3,rfl,h1,h2,h3⟩)) ?_;rintro v H2 hle ⟨x,css,H3,rfl,h1,h2,h3⟩;refine .inr ⟨103,1,css,x,.tup [.own 0,.v (.int .i64 0)],fun ρ hρ=>?_,rfl,(LeN.base h1 h3).new,rc_one h2,fun H' hle2 hkeep=>hK css H' hle2 (RC.up h2 fun b o hb=>hkeep b o (h3.le b o hb) fun e=>?_)⟩
 ·show Value.tuple #[ρ.val 0,.int .i64 0]=_;rw[hρ]
 ·rcases h3.new with ⟨h4,_⟩ | ⟨g,cap,cc,h4,h5,_⟩
  ·rw[h4]at e;cases e
  ·rw[h4]at e;simp only[Value.ownBlock,Option.some.injEq]at e;subst e;rw[h5]at hb;cases hb
noncomputable def cxO:Cx:={ P:=Tryz.prog,tt:=tt,n:=0,wrap:=false,base:=0,gf:=103::cx.gf,eqs:=cx.eqs,xf:=[] }
theorem cxO_ok:TOK cxO:=⟨cx_ok.tt,cx_ok.eqs⟩
theorem louts_spec {s:SyB} {z:SA} (ho:OkS s) {A:List Wd} (hA:OkA s A) {a:Option Addr} {n c:Nat} {H:Hp} {K:Value→Hp→Prop} (hs:SysR H s z) (ha:RL H a n c A) (hK:∀a1 n1 c1 H',Le H H'→RL H' a1 n1 c1 (outsS s A)→K (.tuple #[.slice a1 n1 c1,.int .i64 0]) H'):Does Tryz.prog 66 [sysA s z,.slice a n c] H K:=by
 have hm:=ho.m;have hw:=ho.w;have hna:=ha.n_eq;have hal:=hA.len;refine spec_of cxO_ok cx_mix rfl Tryz.func66 Tryz.call66 Tryz.ntmps66 Tryz.results66 rfl rfl ?_;refine⟨[],rfl,botG_spec (s:=s) (z:=z) ho hs fun css0 H1 hle1 hrc0=>?_⟩
 have hcl0:css0.length=s.m:=by have h1:=hrc0.1;rw[(bots_ok s).len]at h1;exact h1
 refine⟨fun h=>absurd rfl (nt h),fun _=>?_⟩;refine⟨fun h=>absurd (by rw[hna,hal,hcl0]) (nt h),fun _=>?_⟩
 refine⟨Nat×List (List Value),fun q=>⟨[(1,.v (.slice a n c)),(2,.ptr 0 0),(6,.own 1),(23,.v (.int .i64 (s.m:Nat))),(24,.v (.int .i64 q.1))],[(0,.cells 106 (vL (sysV s z))),(1,.row 103 1 q.2)],2⟩,
  fun q H'=>Le H H'∧q.1≤s.m∧RC (α:=Wd) H' q.2 (mixV (fun v=>bApp (tAt s v) (aAt A v)) (bBot s.wh s.w) s.m q.1),fun q=>s.m - q.1,⟨(0,css0),[(0,0),(1,1)],?_,hle1,Nat.zero_le _,by rw[mixV_zero];exact hrc0⟩,?_⟩
 ·have e:SV.v (.int .i64 (css0.length:Nat))=SV.v (.int .i64 (s.m:Nat)):=by rw[hcl0]
  (repeat' (first|exact trivial|refine⟨?_,?_⟩|exact rfl|assumption))
 rintro⟨i,css⟩ H2 _ ⟨hle2,hi,hrc⟩;dsimp only at hi hrc
 have hcl:css.length=s.m:=by have h1:=hrc.1;simpa [mixV] using h1
 refine⟨fun h=>?_,fun h=>?_⟩
 ·have hlt:i<s.m:=by have:=dt h;dsimp only at this;omega
  refine list_k (ha.up hle2) (aAt_get hA hlt) fun ad a5 n5 c5 q1 hh hr1=>?_
  refine⟨some ([1],[0,1,2,3,4,5,6,7,8,9,10,11,12,13,14]),by kernel_rfl,?_⟩;refine⟨ad,⟨by dsimp only;omega,by dsimp only;omega,q1⟩,?_⟩;refine⟨_,hh,?_⟩
  refine sout_spec (s:=s) (z:=z) ho hlt (aAt_ok hA hlt) (hs.up hle2) hr1 fun a6 n6 c6 H3 hle3 hr6=>?_
  have hrc2:=RC.up hrc hle3
  refine wdrow_k hrc2 (mixV_get _ _ hlt) fun a0 n0 c0 hg _=>?_
  have hg2:css[(i:Int).toNat]?=_:=hg;refine⟨⟨by dsimp only;omega,by dsimp only;omega⟩,?_⟩;refine⟨_,hg2,?_⟩
  have hrc3:RC (α:=Wd) H3 (css.set i [.slice a6 n6 c6]) (mixV (fun v=>bApp (tAt s v) (aAt A v)) (bBot s.wh s.w) s.m (i+1)):=by
   rw[←mixV_set _ _ hlt];exact wd_set hrc2 hr6
  refine⟨fun h=>absurd rfl (nt h),fun _=>?_⟩;refine⟨⟨by dsimp only;omega,by dsimp only;omega⟩,(i+1,css.set i [.slice a6 n6 c6]),[(0,0),(1,1)],?_,⟨hle2.trans hle3,hlt,hrc3⟩,by dsimp only;omega⟩
  (repeat' (first|exact trivial|refine⟨?_,?_⟩|exact rfl|assumption))
 ·have hil:i=s.m:=by have:=df h;dsimp only at this;omega
  rw[hil,mixV_full]at hrc;intro v H6 hle6 hv6;obtain⟨a7,n7,c7,rfl,hr7⟩:=RL.of_row (α:=Wd) hv6 (RC.up hrc hle6.le);exact hK _ _ _ _ (hle2.trans hle6.le) hr7
end Bt
end Go.Proofs
end
section
namespace Go.Proofs
namespace Bt
open Go.Sy
set_option maxRecDepth 20000
set_option maxHeartbeats 4000000
def joinE (s:SyB) (A:List Wd) (v:Nat) (x:Wd) (e:Edg):Wd:=if e.2=(v:Int) then bJoin s.wh x (appE s A e) else x
def stepR (s:SyB) (A:List Wd):List Wd:=(List.range s.m).map fun v=>s.E.foldl (joinE s A v) (vStart s v)
theorem fold_at {s:SyB} {A:List Wd} {v:Nat}:∀(l:List Edg) (L:List Wd),v<L.length→(∀e∈l,0≤e.2∧e.2<(L.length:Nat))→(l.foldl (stepE s A) L)[v]?=some (l.foldl (joinE s A v) (aAt L v))
 | [],L,h,_=>by rw[List.foldl_nil,List.foldl_nil,aAt,List.getElem?_eq_getElem h];rfl
 | e::r,L,h,he=>by
  have h1:=he e List.mem_cons_self
  have hl:(stepE s A L e).length=L.length:=by rw[stepE,List.length_set]
  rw[List.foldl_cons,List.foldl_cons,fold_at r (stepE s A L e) (by rw[hl];exact h) (fun e' he'=>by rw[hl];exact he e' (List.mem_cons_of_mem _ he'))]
  congr 2
  rw[joinE]
  by_cases hv:e.2=(v:Int)
  ·have hv2:e.2.toNat=v:=by omega
   rw[if_pos hv,stepE,hv2,aAt,List.getElem?_set_self h];rfl
  ·have hv2:e.2.toNat≠v:=by omega
   rw[if_neg hv,stepE,aAt,List.getElem?_set_ne hv2];rfl
theorem stepR_eq {s:SyB} (ho:OkS s) (A:List Wd):stepR s A=stepS s A:=by
 have hsl:(starts s).length=s.m:=by simp [starts]
 have hfl:∀(l:List Edg) (L:List Wd),(l.foldl (stepE s A) L).length=L.length:=by
  intro l
  induction l with
  | nil=>exact fun _=>rfl
  | cons e r ih=>intro L;rw[List.foldl_cons,ih,stepE,List.length_set]
 apply List.ext_getElem?;intro v
 by_cases hv:v<s.m
 ·rw[stepS,fold_at s.E (starts s) (by omega) (fun e he=>by rw[hsl];exact (ho.En e he).2),stepR,List.getElem?_map,List.getElem?_range hv]
  have:aAt (starts s) v=vStart s v:=by rw[aAt,starts,List.getElem?_map,List.getElem?_range hv];rfl
  rw[this];rfl
 ·rw[List.getElem?_eq_none (by simp [stepR];omega),List.getElem?_eq_none (by rw[stepS,hfl,hsl];omega)]
end Bt
end Go.Proofs
end
section
namespace Go.Proofs
open Go.Sy
set_option maxRecDepth 20000
set_option maxHeartbeats 4000000
def oneV (V:List Bs8) (v:Bs8):Wd:=ofB V.length [idxS v V 0]
def useF (V:List Bs8) (k:Wd) (g:Wd) (l:List Bs8):Wd:=l.foldl (fun g v=>bOr g (bDiff (oneV V v) k)) g
def stmF (V:List Bs8) (z:Wd×Wd) (s:Stmt):Wd×Wd:=(useF V z.2 z.1 (usesS s),if s.1=3 then z.2 else bOr z.2 (oneV V s.2.1.l))
def trF (V:List Bs8) (b:Block):Wd×Wd :=
 let z:=b.2.1.foldl (stmF V) (nilB V.length,nilB V.length)
 (useF V z.2 z.1 (nmsOf [b.2.2.2.1.1.l]),z.2)
theorem oneV_ok (V:List Bs8) (v:Bs8):okB V.length (oneV V v):=ofB_ok _ _
theorem useF_ok {V:List Bs8} {k:Wd} (hk:okB V.length k):∀(l:List Bs8) {g:Wd},okB V.length g→okB V.length (useF V k g l)
 | [],_,h=>h
 | v::r,g,h=>useF_ok hk r (g:=bOr g (bDiff (oneV V v) k)) (bOr_ok h (bDiff_ok (oneV_ok V v) hk))
theorem stmF_ok {V:List Bs8} {z:Wd×Wd} (h:okB V.length z.1∧okB V.length z.2) (s:Stmt):okB V.length (stmF V z s).1∧okB V.length (stmF V z s).2:=by
 refine⟨useF_ok h.2 _ h.1,?_⟩;show okB V.length (if s.1=3 then z.2 else bOr z.2 (oneV V s.2.1.l));split
 ·exact h.2
 ·exact bOr_ok h.2 (oneV_ok _ _)
theorem stmF_all {V:List Bs8}:∀(l:List Stmt) {z:Wd×Wd},okB V.length z.1∧okB V.length z.2→okB V.length (l.foldl (stmF V) z).1∧okB V.length (l.foldl (stmF V) z).2
 | [],_,h=>h
 | s::r,z,h=>stmF_all r (z:=stmF V z s) (stmF_ok h s)
theorem trF_ok (V:List Bs8) (b:Block):okB V.length (trF V b).1∧okB V.length (trF V b).2:=by
 have h:=stmF_all (V:=V) b.2.1 (z:=(nilB V.length,nilB V.length)) ⟨nilB_ok _,nilB_ok _⟩;exact⟨useF_ok h.2 _ h.1,h.2⟩
abbrev bV (a:Option Addr) (n c:Nat):List (Nat×Bx):=[(0,.cells 71 [.v (.slice a n c)])]
theorem one1_spec {V:List Bs8} (hV:V.length≤1024) {v:Bs8} {a:Option Addr} {n c:Nat} {H:Hp} {K:SV→St→Hp→Prop} (ha:RL H a n c (ens V)) (hK:∀a1 n1 c1 H',Le H H'→RL H' a1 n1 c1 (oneV V v)→K (.v (.slice a1 n1 c1)) ⟨[],bV a n c,1⟩ H'):
  DoesG Tryz.prog 150 [.v (.string (bs v)),.ptr 0 0] (bV a n c) 1 H K:=by
 have hn1:=ha.n_eq;rw[List.length_map]at hn1;refine spec_ofG cx_ok cx_mix Tryz.func150 Tryz.call150 Tryz.ntmps150 Tryz.results150 rfl rfl ?_;refine⟨some ([1],[0,1,2,3,4,5,6,7]),by kernel_rfl,?_⟩;refine index_spec ha ?_;intro y H1 hle1 hy
 have hid:inI (idxS v V 0):=by
  rcases idxS_range v V 0 (Int.le_refl 0) with h | h
  ·rw[h];exact⟨by decide,by decide⟩
  ·exact⟨by omega,by omega⟩
 obtain⟨a7,n7,c7,rfl,hr7⟩:=RL.of_row (α:=Int) (xs:=[idxS v V 0]) (css:=iRows [idxS v V 0]) hy (rc_iRows fun x hx=>by rw[List.mem_singleton.1 hx];exact hid);rw[show ((n:Nat):Int)=(V.length:Nat) by rw[hn1]]
 refine wof_spec hV hr7 fun a1 n1 c1 H2 hle2 hr=>?_
 exact⟨.v (.slice a1 n1 c1),bV a n c,1,[(0,0)],by (repeat' (first|exact trivial|refine⟨?_,?_⟩|exact rfl|assumption)),hK _ _ _ _ (hle1.le.trans hle2) hr⟩
abbrev bU (g k:Option Addr×Nat×Nat) (a:Option Addr) (n c:Nat):List (Nat×Bx) :=
 [(0,.cells 71 [.v (.slice a n c)]),(1,.cells 103 [.v (.slice g.1 g.2.1 g.2.2)]),(2,.cells 103 [.v (.slice k.1 k.2.1 k.2.2)]),(3,.cells 190 [.fn 150 [.ptr 0 0]])]
theorem use_spec {V:List Bs8} (hV:V.length≤1024) {l:List Bs8} {kill gen:Wd} (hk:okB V.length kill) (hg:okB V.length gen) {g k:Option Addr×Nat×Nat} {a a2:Option Addr} {n c n2 k2:Nat} {H:Hp} {K:SV→St→Hp→Prop} (ha:RL H a n c (ens V)) (hb:RL H a2 n2 k2 (ens l)) (hgr:RL H g.1 g.2.1 g.2.2 gen) (hkr:RL H k.1 k.2.1 k.2.2 kill)
  (hK:∀g' H',Le H H'→RL H' g'.1 g'.2.1 g'.2.2 (useF V kill gen l)→K (.tup []) ⟨[],bU g' k a n c,4⟩ H'):
  DoesG Tryz.prog 151 [.v (.slice a2 n2 k2),.ptr 1 0,.ptr 3 0,.ptr 2 0] (bU g k a n c) 4 H K:=by
 have hn2:=hb.n_eq;rw[List.length_map]at hn2;have hmx:=hb.le;refine spec_ofG cx_ok cx_mix Tryz.func151 Tryz.call151 Tryz.ntmps151 Tryz.results151 rfl rfl ?_
 refine⟨Nat×Wd×(Option Addr×Nat×Nat),fun q=>⟨[(1,.ptr 1 0),(2,.ptr 3 0),(3,.ptr 2 0),(7,.v (.slice a2 n2 k2)),(8,.v (.int .i64 n2)),(9,.v (.int .i64 q.1))],bU q.2.2 k a n c,4⟩,
  fun q H'=>Le H H'∧q.1≤l.length∧RL H' q.2.2.1 q.2.2.2.1 q.2.2.2.2 q.2.1∧okB V.length q.2.1∧q.2.1=useF V kill gen (l.take q.1),fun q=>l.length - q.1,⟨(0,gen,g),[(0,0),(1,1),(2,2),(3,3)],?_,Le.refl H,Nat.zero_le _,hgr,hg,rfl⟩,?_⟩
 ·(repeat' (first|exact trivial|refine⟨?_,?_⟩|exact rfl|assumption))
 rintro⟨i,u,g1,g2,g3⟩ H1 _ ⟨hle,hi,hr,hu,hx⟩;dsimp only at hi hr hu hx;refine⟨fun h=>?_,fun h=>?_⟩
 ·have hlt:i<l.length:=by have:=dt h;dsimp only at this;omega
  have hst:useF V kill gen (l.take (i+1))=bOr u (bDiff (oneV V l[i]) kill):=by
   rw[useF,List.take_add_one,List.getElem?_eq_getElem hlt,Option.toList_some,List.foldl_append,hx];rfl
  refine str_k (hb.up hle) (List.getElem?_eq_getElem hlt) fun ad e1 hh _=>?_
  refine⟨ad,⟨by dsimp only;omega,by dsimp only;omega,e1⟩,?_⟩;refine⟨_,hh,?_⟩;refine⟨none,?_⟩
  refine region_plan (α:=Option Addr×Nat×Nat) ?_ ?_ (.two 0 3 (.one [1000000,0,1] [0,1,2,4,3,5,6,7]) (.two 0 5 (.one [1000000,0,1] [1,2,4,3,0,5,6,7]) (.one [1000000,0,1] [1,2,4,3,5,0,6,7])))
   (fun g'=>⟨[(1,.ptr 1 0),(2,.ptr 3 0),(3,.ptr 2 0),(7,.v (.slice a2 n2 k2)),(8,.v (.int .i64 n2)),(9,.v (.int .i64 i))],bU g' k a n c,4⟩) (fun g' H'=>Le H H'∧RL H' g'.1 g'.2.1 g'.2.2 (bOr u (bDiff (oneV V l[i]) kill))) (by kernel_rfl) ⟨?_,?_,?_⟩ ?_
  ·exact⟨cx_ok.tt,cx_ok.eqs⟩
  ·exact cx_mix
  ·refine⟨[0],rfl,one1_spec hV (ha.up hle) fun a3 n3 c3 H3 hle3 hr3=>?_⟩
   refine wminus_spec hV (oneV_ok V _).1 hk.1 hr3 (hkr.up (hle.trans hle3)) fun a4 n4 c4 H4 hle4 hr4=>?_
   refine wunion_spec hV hu.1 (bDiff_ok (oneV_ok V _) hk).1 (hr.up (hle3.trans hle4)) hr4 fun a5 n5 c5 H5 hle5 hr5=>?_
   exact⟨(a5,n5,c5),[(0,0),(1,1),(2,2),(3,3)],by (repeat' (first|exact trivial|refine⟨?_,?_⟩|exact rfl|assumption)),((hle.trans hle3).trans hle4).trans hle5,hr5⟩
  ·refine⟨[0],rfl,one1_spec hV (ha.up hle) fun a3 n3 c3 H3 hle3 hr3=>?_⟩
   refine wminus_spec hV (oneV_ok V _).1 hk.1 hr3 (hkr.up (hle.trans hle3)) fun a4 n4 c4 H4 hle4 hr4=>?_
   refine wunion_spec hV hu.1 (bDiff_ok (oneV_ok V _) hk).1 (hr.up (hle3.trans hle4)) hr4 fun a5 n5 c5 H5 hle5 hr5=>?_
   exact⟨(a5,n5,c5),[(0,0),(1,1),(2,2),(3,3)],by (repeat' (first|exact trivial|refine⟨?_,?_⟩|exact rfl|assumption)),((hle.trans hle3).trans hle4).trans hle5,hr5⟩
  ·refine⟨[0],rfl,one1_spec hV (ha.up hle) fun a3 n3 c3 H3 hle3 hr3=>?_⟩
   refine wminus_spec hV (oneV_ok V _).1 hk.1 hr3 (hkr.up (hle.trans hle3)) fun a4 n4 c4 H4 hle4 hr4=>?_
   refine wunion_spec hV hu.1 (bDiff_ok (oneV_ok V _) hk).1 (hr.up (hle3.trans hle4)) hr4 fun a5 n5 c5 H5 hle5 hr5=>?_
   exact⟨(a5,n5,c5),[(0,0),(1,1),(2,2),(3,3)],by (repeat' (first|exact trivial|refine⟨?_,?_⟩|exact rfl|assumption)),((hle.trans hle3).trans hle4).trans hle5,hr5⟩
  rintro⟨g4,g5,g6⟩ H4 _ ⟨hle4,hr4⟩;refine⟨⟨by omega,by omega⟩,(i+1,bOr u (bDiff (oneV V l[i]) kill),(g4,g5,g6)),[(0,0),(1,1),(2,2),(3,3)],?_,⟨hle4,hlt,hr4,bOr_ok hu (bDiff_ok (oneV_ok _ _) hk),hst.symm⟩,by dsimp only;omega⟩
  (repeat' (first|exact trivial|refine⟨?_,?_⟩|exact rfl|assumption))
 ·have hil:i=l.length:=by have:=df h;dsimp only at this;omega
  rw[hil,List.take_length]at hx;rw[hx]at hr;exact⟨.tup [],bU (g1,g2,g3) k a n c,4,[(0,0),(1,1),(2,2),(3,3)],by (repeat' (first|exact trivial|refine⟨?_,?_⟩|exact rfl|assumption)),hK (g1,g2,g3) H1 hle hr⟩
end Go.Proofs
end
section
namespace Go.Proofs
open Go.Sy
set_option maxRecDepth 20000
set_option maxHeartbeats 4000000
abbrev blkL (v:Value) (b:Block):List Value:=[.string (bs b.1.l),v,.int .i64 b.2.2.1,.string (bs b.2.2.2.1.1.l),.int .i64 b.2.2.2.1.2.1,.int .i64 b.2.2.2.1.2.2,.string (bs b.2.2.2.2.1.l),.string (bs b.2.2.2.2.2.l)]
abbrev blkA (v:Value) (b:Block):Value:=.agg (blkL v b).toArray
theorem ltrans_spec {V:List Bs8} (hV:V.length≤1024) {b:Block} (hb:b.2.1.length≤100000) (hT:termR b.2.2) {a la:Option Addr} {n c ln lc:Nat} {H:Hp} {K:Value→Hp→Prop} (ha:RL H a n c (ens V)) (hl:RL H la ln lc b.2.1) (hK:∀z H',Le H H'→Bt.TrR H' (trF V b) z→K (Bt.trA z) H'):
  Does Tryz.prog 100 [.slice a n c,blkA (.slice la ln lc) b] H K:=by
 have hn:=ha.n_eq;rw[List.length_map]at hn;subst hn;have hln:=hl.n_eq;refine spec_of cx_ok cx_mix rfl Tryz.func100 Tryz.call100 Tryz.ntmps100 Tryz.results100 rfl rfl ?_;refine⟨none,?_⟩
 refine region_plan (α:=(Option Addr×Nat×Nat)×(Option Addr×Nat×Nat)) ?_ ?_ (.two 2 6 (.two 2 7 (.two 5 6 (.two 5 7 (.two 6 7 (.one [1000000,3,4] [0,1,3,4,2,5,6,7,8,9]) (.one [1000000,3,4] [0,1,3,4,2,5,7,6,8,9])) (.one [1000000,3,4] [0,1,3,4,2,7,5,6,8,9])) (.two 5 7 (.one [1000000,3,4] [0,1,3,4,2,6,5,7,8,9]) (.two 6 7 (.one [1000000,3,4] [0,1,3,4,2,6,7,5,8,9]) (.one [1000000,3,4] [0,1,3,4,2,7,6,5,8,9])))) (.two 5 6 (.one [1000000,3,4] [0,1,3,4,7,2,5,6,8,9]) (.one [1000000,3,4] [0,1,3,4,7,2,6,5,8,9]))) (.two 2 7 (.two 5 7 (.one [1000000,3,4] [0,1,3,4,6,2,5,7,8,9]) (.one [1000000,3,4] [0,1,3,4,6,2,7,5,8,9])) (.two 6 7 (.one [1000000,3,4] [0,1,3,4,6,7,2,5,8,9]) (.one [1000000,3,4] [0,1,3,4,7,6,2,5,8,9]))))
  (fun q=>⟨[(2,.ptr 0 0),(3,.ptr 1 0),(4,.ptr 2 0),(5,.ptr 3 0),(6,.ptr 4 0)],[(0,.cells 71 [.v (.slice a V.length c)]),(1,.cells 66 (vL (blkL (.slice la ln lc) b))),(2,.cells 143 [.v (.slice none 0 0),.v (.slice none 0 0),.v (.slice none 0 0)]),(3,.cells 103 [.v (.slice q.1.1 q.1.2.1 q.1.2.2)]),(4,.cells 103 [.v (.slice q.2.1 q.2.2.1 q.2.2.2)])],5⟩)
  (fun q H'=>Le H H'∧RL H' q.1.1 q.1.2.1 q.1.2.2 (nilB V.length)∧RL H' q.2.1 q.2.2.1 q.2.2.2 (nilB V.length)) (by kernel_rfl) ?_ ?_
 ·exact⟨cx_ok.tt,cx_ok.eqs⟩
 ·exact cx_mix
 ·refine⟨?_,?_⟩
  ·refine⟨?_,?_⟩
   ·refine⟨?_,?_⟩
    ·refine⟨?_,?_⟩
     ·refine⟨?_,?_⟩
      ·refine wof_spec hV (l:=[]) rl_nil fun g1 g2 g3 H1 hle1 hg1=>?_
       refine wof_spec hV (l:=[]) rl_nil fun k1 k2 k3 H2 hle2 hk1=>?_
       exact⟨((g1,g2,g3),(k1,k2,k3)),[(0,0),(1,1),(2,2),(3,3),(4,4)],by (repeat' (first|exact trivial|refine⟨?_,?_⟩|exact rfl|assumption)),hle1.trans hle2,hg1.up hle2,hk1⟩
      ·refine wof_spec hV (l:=[]) rl_nil fun g1 g2 g3 H1 hle1 hg1=>?_
       refine wof_spec hV (l:=[]) rl_nil fun k1 k2 k3 H2 hle2 hk1=>?_
       exact⟨((g1,g2,g3),(k1,k2,k3)),[(0,0),(1,1),(2,2),(3,4),(4,3)],by (repeat' (first|exact trivial|refine⟨?_,?_⟩|exact rfl|assumption)),hle1.trans hle2,hg1.up hle2,hk1⟩
     ·refine wof_spec hV (l:=[]) rl_nil fun g1 g2 g3 H1 hle1 hg1=>?_
      refine wof_spec hV (l:=[]) rl_nil fun k1 k2 k3 H2 hle2 hk1=>?_
      exact⟨((g1,g2,g3),(k1,k2,k3)),[(0,0),(1,1),(2,2),(3,4),(4,3)],by (repeat' (first|exact trivial|refine⟨?_,?_⟩|exact rfl|assumption)),hle1.trans hle2,hg1.up hle2,hk1⟩
    ·refine⟨?_,?_⟩
     ·refine wof_spec hV (l:=[]) rl_nil fun g1 g2 g3 H1 hle1 hg1=>?_
      refine wof_spec hV (l:=[]) rl_nil fun k1 k2 k3 H2 hle2 hk1=>?_
      exact⟨((g1,g2,g3),(k1,k2,k3)),[(0,0),(1,1),(2,2),(3,3),(4,4)],by (repeat' (first|exact trivial|refine⟨?_,?_⟩|exact rfl|assumption)),hle1.trans hle2,hg1.up hle2,hk1⟩
     ·refine⟨?_,?_⟩
      ·refine wof_spec hV (l:=[]) rl_nil fun g1 g2 g3 H1 hle1 hg1=>?_
       refine wof_spec hV (l:=[]) rl_nil fun k1 k2 k3 H2 hle2 hk1=>?_
       exact⟨((g1,g2,g3),(k1,k2,k3)),[(0,0),(1,1),(2,2),(3,3),(4,4)],by (repeat' (first|exact trivial|refine⟨?_,?_⟩|exact rfl|assumption)),hle1.trans hle2,hg1.up hle2,hk1⟩
      ·refine wof_spec hV (l:=[]) rl_nil fun g1 g2 g3 H1 hle1 hg1=>?_
       refine wof_spec hV (l:=[]) rl_nil fun k1 k2 k3 H2 hle2 hk1=>?_
       exact⟨((g1,g2,g3),(k1,k2,k3)),[(0,0),(1,1),(2,2),(3,4),(4,3)],by (repeat' (first|exact trivial|refine⟨?_,?_⟩|exact rfl|assumption)),hle1.trans hle2,hg1.up hle2,hk1⟩
   ·refine⟨?_,?_⟩
    ·refine wof_spec hV (l:=[]) rl_nil fun g1 g2 g3 H1 hle1 hg1=>?_
     refine wof_spec hV (l:=[]) rl_nil fun k1 k2 k3 H2 hle2 hk1=>?_
     exact⟨((g1,g2,g3),(k1,k2,k3)),[(0,0),(1,1),(2,2),(3,4),(4,3)],by (repeat' (first|exact trivial|refine⟨?_,?_⟩|exact rfl|assumption)),hle1.trans hle2,hg1.up hle2,hk1⟩
    ·refine wof_spec hV (l:=[]) rl_nil fun g1 g2 g3 H1 hle1 hg1=>?_
     refine wof_spec hV (l:=[]) rl_nil fun k1 k2 k3 H2 hle2 hk1=>?_
     exact⟨((g1,g2,g3),(k1,k2,k3)),[(0,0),(1,1),(2,2),(3,4),(4,3)],by (repeat' (first|exact trivial|refine⟨?_,?_⟩|exact rfl|assumption)),hle1.trans hle2,hg1.up hle2,hk1⟩
  ·refine⟨?_,?_⟩
   ·refine⟨?_,?_⟩
    ·refine wof_spec hV (l:=[]) rl_nil fun g1 g2 g3 H1 hle1 hg1=>?_
     refine wof_spec hV (l:=[]) rl_nil fun k1 k2 k3 H2 hle2 hk1=>?_
     exact⟨((g1,g2,g3),(k1,k2,k3)),[(0,0),(1,1),(2,2),(3,3),(4,4)],by (repeat' (first|exact trivial|refine⟨?_,?_⟩|exact rfl|assumption)),hle1.trans hle2,hg1.up hle2,hk1⟩
    ·refine wof_spec hV (l:=[]) rl_nil fun g1 g2 g3 H1 hle1 hg1=>?_
     refine wof_spec hV (l:=[]) rl_nil fun k1 k2 k3 H2 hle2 hk1=>?_
     exact⟨((g1,g2,g3),(k1,k2,k3)),[(0,0),(1,1),(2,2),(3,3),(4,4)],by (repeat' (first|exact trivial|refine⟨?_,?_⟩|exact rfl|assumption)),hle1.trans hle2,hg1.up hle2,hk1⟩
   ·refine⟨?_,?_⟩
    ·refine wof_spec hV (l:=[]) rl_nil fun g1 g2 g3 H1 hle1 hg1=>?_
     refine wof_spec hV (l:=[]) rl_nil fun k1 k2 k3 H2 hle2 hk1=>?_
     exact⟨((g1,g2,g3),(k1,k2,k3)),[(0,0),(1,1),(2,2),(3,3),(4,4)],by (repeat' (first|exact trivial|refine⟨?_,?_⟩|exact rfl|assumption)),hle1.trans hle2,hg1.up hle2,hk1⟩
    ·refine wof_spec hV (l:=[]) rl_nil fun g1 g2 g3 H1 hle1 hg1=>?_
     refine wof_spec hV (l:=[]) rl_nil fun k1 k2 k3 H2 hle2 hk1=>?_
     exact⟨((g1,g2,g3),(k1,k2,k3)),[(0,0),(1,1),(2,2),(3,4),(4,3)],by (repeat' (first|exact trivial|refine⟨?_,?_⟩|exact rfl|assumption)),hle1.trans hle2,hg1.up hle2,hk1⟩
 rintro⟨⟨g1,g2,g3⟩,⟨k1,k2,k3⟩⟩ H1 _ ⟨hle1,hg1,hk1⟩
 refine⟨Nat×(Wd×Wd)×(Option Addr×Nat×Nat)×(Option Addr×Nat×Nat),fun q=>⟨[(3,.ptr 1 0),(4,.ptr 2 0),(5,.ptr 3 0),(6,.ptr 4 0),(7,.ptr 5 0),(8,.fn 151 [.ptr 3 0,.ptr 5 0,.ptr 4 0]),(20,.v (.slice la ln lc)),(21,.v (.int .i64 ln)),(22,.v (.int .i64 q.1))],
  [(0,.cells 71 [.v (.slice a V.length c)]),(1,.cells 66 (vL (blkL (.slice la ln lc) b))),(2,.cells 143 [.v (.slice none 0 0),.v (.slice none 0 0),.v (.slice none 0 0)]),(3,.cells 103 [.v (.slice q.2.2.1.1 q.2.2.1.2.1 q.2.2.1.2.2)]),(4,.cells 103 [.v (.slice q.2.2.2.1 q.2.2.2.2.1 q.2.2.2.2.2)]),(5,.cells 190 [.fn 150 [.ptr 0 0]])],6⟩,
  fun q H'=>Le H H'∧q.1≤b.2.1.length∧RL H' q.2.2.1.1 q.2.2.1.2.1 q.2.2.1.2.2 q.2.1.1∧RL H' q.2.2.2.1 q.2.2.2.2.1 q.2.2.2.2.2 q.2.1.2∧(okB V.length q.2.1.1∧okB V.length q.2.1.2)∧q.2.1=(b.2.1.take q.1).foldl (stmF V) (nilB V.length,nilB V.length),
  fun q=>b.2.1.length - q.1,⟨(0,(nilB V.length,nilB V.length),(g1,g2,g3),(k1,k2,k3)),[(0,0),(1,1),(2,2),(3,3),(4,4),(5,5)],?_,hle1,Nat.zero_le _,hg1,hk1,⟨nilB_ok _,nilB_ok _⟩,rfl⟩,?_⟩
 ·(repeat' (first|exact trivial|refine⟨?_,?_⟩|exact rfl|assumption))
 rintro⟨i,z,⟨g1,g2,g3⟩,⟨k1,k2,k3⟩⟩ H2 _ ⟨hle2,hi,hg2,hk2,hz,hx⟩;dsimp only at hi hg2 hk2 hz hx;refine⟨fun h=>?_,fun h=>?_⟩
 ·have hlt:i<b.2.1.length:=by have:=dt h;dsimp only at this;omega
  refine name_k b.2.1[i] fun s hs=>?_
  have hss:b.2.1[i]?=some s:=by rw[hs];exact List.getElem?_eq_getElem hlt
  have hst:(b.2.1.take (i+1)).foldl (stmF V) (nilB V.length,nilB V.length)=stmF V z s:=by
   rw[hx,List.take_add_one,hss,Option.toList_some,List.foldl_append];rfl
  have hzs:=stmF_ok hz s
  refine stmt_k (hl.up hle2) hss fun ad e1 hh hsR=>?_
  refine⟨ad,⟨by dsimp only;omega,by dsimp only;omega,e1⟩,?_⟩;refine⟨_,hh,?_⟩
  refine luses_spec hsR fun u1 u2 u3 H3 hle3 hu3=>?_
  refine⟨[0,3,4,5],rfl,use_spec (g:=(g1,g2,g3)) (k:=(k1,k2,k3)) hV hz.2 hz.1 (ha.up (hle2.trans hle3)) hu3 (hg2.up hle3) (hk2.up hle3) fun g' H4 hle4 hg4=>?_⟩;have hle4':=(hle2.trans hle3).trans hle4;refine⟨fun h=>?_,fun h=>?_⟩
  ·have hk3:¬s.1=3:=nt h
   have hsv:stmF V z s=(useF V z.2 z.1 (usesS s),bOr z.2 (oneV V s.2.1.l)):=by rw[stmF,if_neg hk3]
   refine⟨none,?_⟩
   refine region_plan (α:=Option Addr×Nat×Nat) ?_ ?_ (.two 0 4 (.one [1000000,0,4] [0,1,2,3,4,5,6]) (.one [1000000,0,4] [1,2,3,4,0,5,6]))
    (fun k'=>⟨[(3,.ptr 1 0),(4,.ptr 2 0),(5,.ptr 3 0),(6,.ptr 4 0),(7,.ptr 5 0),(8,.fn 151 [.ptr 3 0,.ptr 5 0,.ptr 4 0]),(20,.v (.slice la ln lc)),(21,.v (.int .i64 ln)),(22,.v (.int .i64 i))],
  [(0,.cells 71 [.v (.slice a V.length c)]),(1,.cells 66 (vL (blkL (.slice la ln lc) b))),(2,.cells 143 [.v (.slice none 0 0),.v (.slice none 0 0),.v (.slice none 0 0)]),(3,.cells 103 [.v (.slice g'.1 g'.2.1 g'.2.2)]),(4,.cells 103 [.v (.slice k'.1 k'.2.1 k'.2.2)]),(5,.cells 190 [.fn 150 [.ptr 0 0]])],6⟩)
    (fun k' H'=>Le H4 H'∧RL H' k'.1 k'.2.1 k'.2.2 (bOr z.2 (oneV V s.2.1.l))) (by kernel_rfl) ⟨?_,?_⟩ ?_
   ·exact⟨cx_ok.tt,cx_ok.eqs⟩
   ·exact cx_mix
   ·refine⟨[0],rfl,one1_spec hV (ha.up hle4') fun a3 n3 c3 H5 hle5 hr5=>?_⟩
    refine wunion_spec hV hz.2.1 (oneV_ok V _).1 (hk2.up ((hle3.trans hle4).trans hle5)) hr5 fun a6 n6 c6 H6 hle6 hr6=>?_
    exact⟨(a6,n6,c6),[(0,0),(1,1),(2,2),(3,3),(4,4),(5,5)],by (repeat' (first|exact trivial|refine⟨?_,?_⟩|exact rfl|assumption)),hle5.trans hle6,hr6⟩
   ·refine⟨[0],rfl,one1_spec hV (ha.up hle4') fun a3 n3 c3 H5 hle5 hr5=>?_⟩
    refine wunion_spec hV hz.2.1 (oneV_ok V _).1 (hk2.up ((hle3.trans hle4).trans hle5)) hr5 fun a6 n6 c6 H6 hle6 hr6=>?_
    exact⟨(a6,n6,c6),[(0,0),(1,1),(2,2),(3,3),(4,4),(5,5)],by (repeat' (first|exact trivial|refine⟨?_,?_⟩|exact rfl|assumption)),hle5.trans hle6,hr6⟩
   rintro⟨k4,k5,k6⟩ H6 _ ⟨hle6,hk6⟩;refine⟨⟨by omega,by omega⟩,(i+1,stmF V z s,g',(k4,k5,k6)),[(0,0),(1,1),(2,2),(3,3),(4,4),(5,5)],?_,⟨hle4'.trans hle6,hlt,by rw[hsv];exact hg4.up hle6,by rw[hsv];exact hk6,hzs,hst.symm⟩,by dsimp only;omega⟩
   (repeat' (first|exact trivial|refine⟨?_,?_⟩|exact rfl|assumption))
  ·have hk3:s.1=3:=nf h
   have hsv:stmF V z s=(useF V z.2 z.1 (usesS s),z.2):=by rw[stmF,if_pos hk3]
   refine⟨⟨by dsimp only;omega,by dsimp only;omega⟩,(i+1,stmF V z s,g',(k1,k2,k3)),[(0,0),(1,1),(2,2),(3,3),(4,4),(5,5)],?_,⟨hle4',hlt,by rw[hsv];exact hg4,by rw[hsv];exact hk2.up (hle3.trans hle4),hzs,hst.symm⟩,by dsimp only;omega⟩
   (repeat' (first|exact trivial|refine⟨?_,?_⟩|exact rfl|assumption))
 ·have hil:i=b.2.1.length:=by have:=df h;dsimp only at this;omega
  rw[hil,List.take_length]at hx;intro v H6 hle6 hv6;obtain⟨a7,n7,c7,rfl,hr7⟩:=RL.of_row (α:=Str) (css:=sRows [b.2.2.2.1.1.l]) (xs:=ens [b.2.2.2.1.1.l]) hv6 (rc_sRows fun s hs=>by rw[List.mem_singleton.1 hs];exact hT.2.1.1)
  refine lsorted_spec (l:=[b.2.2.2.1.1.l]) (by show 1≤100000;omega) hr7 fun u1 u2 u3 H7 hle7 hu7=>?_
  have hle7':=hle6.le.trans hle7;refine⟨[0,3,4,5],rfl,use_spec (g:=(g1,g2,g3)) (k:=(k1,k2,k3)) hV hz.2 hz.1 (ha.up (hle2.trans hle7')) hu7 (hg2.up hle7') (hk2.up hle7') fun g' H8 hle8 hg8=>?_⟩
  have etr:trF V b=(useF V z.2 z.1 (nmsOf [b.2.2.2.1.1.l]),z.2):=by rw[trF,←hx]
  refine hK ⟨g'.1,g'.2.1,g'.2.2,k1,k2,k3⟩ H8 ((hle2.trans hle7').trans hle8) ?_;rw[etr];exact⟨hg8,hk2.up (hle7'.trans hle8)⟩
end Go.Proofs
end
section
namespace Go.Proofs
open Go.Sy
set_option maxRecDepth 20000
set_option maxHeartbeats 4000000
theorem exits_spec {p:Prog} (hp:p.length≤12) {a:Option Addr} {n c:Nat} {H:Hp} {K:Value→Hp→Prop} (ha:RL H a n c p)
 (hK:∀a1 n1 c1 H',Le H H'→RL H' a1 n1 c1 (exitsOf p)→K (.slice a1 n1 c1) H'):Does Tryz.prog 98 [.agg #[.slice a n c]] H K:=by
 have hn1:=ha.n_eq;have hmx:=ha.le;refine spec_of cx_ok cx_mix rfl Tryz.func98 Tryz.call98 Tryz.ntmps98 Tryz.results98 rfl rfl ?_
 refine⟨Nat,fun i=>⟨[(3,.own 0),(7,.v (.slice a n c)),(8,.v (.int .i64 n)),(9,.v (.int .i64 i))],[(0,.row 3 1 (iRows (idxP isExit (p.take i) 0)))],1⟩,
  fun i H'=>H'=H∧i≤p.length,fun i=>p.length - i,⟨0,[],?_,rfl,by omega⟩,?_⟩
 ·exact⟨⟨⟨rfl,rfl,rfl⟩,rfl,rfl,rfl,trivial⟩,⟨rfl,trivial⟩⟩
 rintro i H1 _ ⟨rfl,hi⟩;refine⟨fun h=>?_,fun h=>?_⟩
 ·have hlt:i<p.length:=by have:=dt h;omega
  obtain⟨ad,cs,q1,hh,r1⟩:=ha.elem (List.getElem?_eq_getElem hlt);obtain⟨a2,n2,c2,rfl,hr2,hnm,htm⟩:=block_open r1;have hst:=idxP_take isExit hlt;have hlen:=idxP_len isExit (p.take i) 0;rw[List.length_take,Nat.min_eq_left (by omega)]at hlen;have hel:(iRows (idxP isExit (p.take i) 0)).length=(idxP isExit (p.take i) 0).length:=List.length_map _;refine⟨ad,⟨by omega,by omega,q1⟩,?_⟩;refine⟨_,hh,?_⟩;refine⟨fun h=>?_,fun h=>?_⟩
  ·have he:isExit p[i]=true:=h;rw[he,if_pos rfl]at hst;refine⟨⟨by show ((iRows (idxP isExit (p.take i) 0)).length+1)*8≤_;omega,by show (iRows (idxP isExit (p.take i) 0)).length+1≤_;omega⟩,?_⟩
   have erow:iRows (idxP isExit (p.take i) 0)++[[.int .i64 (i:Int)]]=iRows (idxP isExit (p.take (i+1)) 0):=by rw[hst];simp
   refine⟨⟨by omega,by omega⟩,i+1,[(0,3)],?_,⟨rfl,by omega⟩,by dsimp only;omega⟩;exact⟨⟨rfl,rfl,rfl,rfl,trivial⟩,⟨erow,trivial⟩⟩
  ·have he:isExit p[i]=false:=h;rw[he]at hst
   have erow:iRows (idxP isExit (p.take i) 0)=iRows (idxP isExit (p.take (i+1)) 0):=by rw[hst];simp
   refine⟨⟨by omega,by omega⟩,i+1,[(0,0)],?_,⟨rfl,by omega⟩,by dsimp only;omega⟩;exact⟨⟨rfl,rfl,rfl,rfl,trivial⟩,⟨erow,trivial⟩⟩
 ·have hil:i=p.length:=by have:=df h;omega
  intro x H2 hle2 hx;rw[hil,List.take_length]at hx;obtain⟨a1,n1,c1,rfl,hr⟩:=rI_all hx (idxP_in _ _ _ (by omega));exact hK _ _ _ _ hle2 hr
theorem vars64 {p:Prog} (h:checkE p=0):(varsOf p).length≤64:=by
 unfold checkE at h;split at h
 ·cases h
 ·split at h
  ·split at h
   ·cases h
   ·omega
  ·cases h
def lsysOf (p:Prog):Bt.SyB:=⟨1,(varsOf p).length,p.length,gSort (revL (gSort (edgesOf p))),exitsOf p,nilB (varsOf p).length,p.map (trF (varsOf p))⟩
theorem trb_snoc {H:Hp} {css:List (List Value)} {T:List Bt.TrB} (h:RC (α:=Bt.TrB) H css T) {z:Bt.TA} {t:Wd×Wd} (hx:Bt.TrR H t z):RC (α:=Bt.TrB) H (css++[Bt.trV z]) (T++[Bt.TrB.mk t]) :=
 RC.snoc h (show Enc.R (α:=Bt.TrB) H (Bt.trV z) (Bt.TrB.mk t) from ⟨z,rfl,hx⟩)
theorem lsysT_take {p:Prog} {i:Nat} {b:Block} (h:p[i]?=some b):((lsysOf p).T.map Bt.TrB.mk).take (i+1)=((lsysOf p).T.map Bt.TrB.mk).take i++[Bt.TrB.mk (trF (varsOf p) b)]:=by
 have e:((lsysOf p).T.map Bt.TrB.mk)[i]?=some (Bt.TrB.mk (trF (varsOf p) b)):=by
  show ((p.map (trF (varsOf p))).map Bt.TrB.mk)[i]?=_
  rw[List.getElem?_map,List.getElem?_map,h];rfl
 rw[List.take_add_one,e,Option.toList_some]
theorem edges_few {p:Prog} (hp:p.length≤12):(gSort (edgesOf p)).length≤1000000:=by
 have h1:=gSort_len (edgesOf p);have h2:=eAll_len p p 0;rw[edgesOf]at h1 ⊢;omega
theorem lsys_spec {p:Prog} (hp:p.length≤12) (hl:∀b∈p,b.2.1.length≤100000) (hc:stmtsN p≤1000000) (hv:cnt p<400000) {a:Option Addr} {n c:Nat} {H:Hp} {K:Value→Hp→Prop} (ha:RL H a n c p)
  (hbad:checkE p≠0→∀H',Le H H'→K (.tuple #[.agg zSys.toArray,.int .i64 (checkE p)]) H')
  (hK:checkE p=0→∀z H',Le H H'→Bt.SysR H' (lsysOf p) z→K (.tuple #[Bt.sysA (lsysOf p) z,.int .i64 0]) H'):Does Tryz.prog 64 [.agg #[.slice a n c]] H K:=by
 have hn:=ha.n_eq;have hmx:=ha.le;refine spec_of cx_ok cx_mix rfl Tryz.func64 Tryz.call64 Tryz.ntmps64 Tryz.results64 rfl rfl ?_
 refine pcheck_spec ha hc hv fun H0 hle0=>?_
 refine⟨fun h=>?_,fun h=>?_⟩
 ·exact hbad (nt h) _ (Le.refl H)
 have he:checkE p=0:=nf h;have hK:=hK he;have hv64:=vars64 he
 refine pvars_spec ha hv fun av nv cv H1 hle1 hrv=>?_
 have hnv:=hrv.n_eq;rw[List.length_map]at hnv;subst hnv;refine⟨none,?_⟩
 refine region_plan (α:=SA) ?_ ?_
  (.two 6 14 (.two 7 14 (.two 9 14 (.two 12 14 (.two 13 14 (.one [2] [0,1,2,3,4,5,8,10,11,6,7,9,12,13,14,15]) (.one [2] [0,1,2,3,4,5,8,10,11,6,7,9,12,14,13,15])) (.one [2] [0,1,2,3,4,5,8,10,11,6,7,9,14,12,13,15])) (.one [2] [0,1,2,3,4,5,8,10,11,6,7,14,9,12,13,15])) (.one [2] [0,1,2,3,4,5,8,10,11,6,14,7,9,12,13,15])) (.one [2] [0,1,2,3,4,5,8,10,11,14,6,7,9,12,13,15]))
  (fun z=>⟨[(1,.ptr 0 0),(2,.ptr 1 0),(5,.v (.slice av (varsOf p).length cv)),(6,.ptr 2 0)],
   [(0,.cells 24 [.v (.slice a n c)]),(1,.cells 106 (vL zSys)),(2,.cells 106 (vL (Bt.sysV ⟨1,(varsOf p).length,n,[],[],[],[]⟩ z)))],3⟩)
  (fun z H'=>Le H1 H'∧z.ta=none∧z.tn=0∧z.tc=0∧RL H' z.ea z.en z.ec (gSort (revL (gSort (edgesOf p))))∧RL H' z.na z.nn z.nc (exitsOf p)∧RL H' z.ia z.ni z.ic (nilB (varsOf p).length)) (by kernel_rfl) ?_ ?_
 ·exact⟨cx_ok.tt,cx_ok.eqs⟩
 ·exact cx_mix
 ·refine⟨?_,?_⟩
  ·refine⟨?_,?_⟩
   ·refine⟨?_,?_⟩
    ·refine⟨?_,?_⟩
     ·refine⟨?_,?_⟩
      ·refine edges_spec hp (ha.up hle1) fun e1 e2 e3 H2 hle2 hr2=>?_
       refine reverse_spec (edges_few hp) hr2 fun f1 f2 f3 H3 hle3 hr3=>?_
       refine exits_spec hp (ha.up ((hle1.trans hle2).trans hle3)) fun x1 x2 x3 H4 hle4 hr4=>?_
       refine wof_spec (w:=(varsOf p).length) (l:=[]) (by omega) rl_nil fun w1 w2 w3 H5 hle5 hr5=>?_
       exact⟨⟨f1,f2,f3,x1,x2,x3,w1,w2,w3,none,0,0⟩,[(0,0),(1,1),(2,2)],by (repeat' (first|exact trivial|refine⟨?_,?_⟩|exact rfl|assumption)),((hle2.trans hle3).trans hle4).trans hle5,rfl,rfl,rfl,hr3.up (hle4.trans hle5),hr4.up hle5,hr5⟩
      ·refine edges_spec hp (ha.up hle1) fun e1 e2 e3 H2 hle2 hr2=>?_
       refine reverse_spec (edges_few hp) hr2 fun f1 f2 f3 H3 hle3 hr3=>?_
       refine exits_spec hp (ha.up ((hle1.trans hle2).trans hle3)) fun x1 x2 x3 H4 hle4 hr4=>?_
       refine wof_spec (w:=(varsOf p).length) (l:=[]) (by omega) rl_nil fun w1 w2 w3 H5 hle5 hr5=>?_
       exact⟨⟨f1,f2,f3,x1,x2,x3,w1,w2,w3,none,0,0⟩,[(0,0),(1,1),(2,2)],by (repeat' (first|exact trivial|refine⟨?_,?_⟩|exact rfl|assumption)),((hle2.trans hle3).trans hle4).trans hle5,rfl,rfl,rfl,hr3.up (hle4.trans hle5),hr4.up hle5,hr5⟩
     ·refine edges_spec hp (ha.up hle1) fun e1 e2 e3 H2 hle2 hr2=>?_
      refine reverse_spec (edges_few hp) hr2 fun f1 f2 f3 H3 hle3 hr3=>?_
      refine exits_spec hp (ha.up ((hle1.trans hle2).trans hle3)) fun x1 x2 x3 H4 hle4 hr4=>?_
      refine wof_spec (w:=(varsOf p).length) (l:=[]) (by omega) rl_nil fun w1 w2 w3 H5 hle5 hr5=>?_
      exact⟨⟨f1,f2,f3,x1,x2,x3,w1,w2,w3,none,0,0⟩,[(0,0),(1,1),(2,2)],by (repeat' (first|exact trivial|refine⟨?_,?_⟩|exact rfl|assumption)),((hle2.trans hle3).trans hle4).trans hle5,rfl,rfl,rfl,hr3.up (hle4.trans hle5),hr4.up hle5,hr5⟩
    ·refine edges_spec hp (ha.up hle1) fun e1 e2 e3 H2 hle2 hr2=>?_
     refine reverse_spec (edges_few hp) hr2 fun f1 f2 f3 H3 hle3 hr3=>?_
     refine exits_spec hp (ha.up ((hle1.trans hle2).trans hle3)) fun x1 x2 x3 H4 hle4 hr4=>?_
     refine wof_spec (w:=(varsOf p).length) (l:=[]) (by omega) rl_nil fun w1 w2 w3 H5 hle5 hr5=>?_
     exact⟨⟨f1,f2,f3,x1,x2,x3,w1,w2,w3,none,0,0⟩,[(0,0),(1,1),(2,2)],by (repeat' (first|exact trivial|refine⟨?_,?_⟩|exact rfl|assumption)),((hle2.trans hle3).trans hle4).trans hle5,rfl,rfl,rfl,hr3.up (hle4.trans hle5),hr4.up hle5,hr5⟩
   ·refine edges_spec hp (ha.up hle1) fun e1 e2 e3 H2 hle2 hr2=>?_
    refine reverse_spec (edges_few hp) hr2 fun f1 f2 f3 H3 hle3 hr3=>?_
    refine exits_spec hp (ha.up ((hle1.trans hle2).trans hle3)) fun x1 x2 x3 H4 hle4 hr4=>?_
    refine wof_spec (w:=(varsOf p).length) (l:=[]) (by omega) rl_nil fun w1 w2 w3 H5 hle5 hr5=>?_
    exact⟨⟨f1,f2,f3,x1,x2,x3,w1,w2,w3,none,0,0⟩,[(0,0),(1,1),(2,2)],by (repeat' (first|exact trivial|refine⟨?_,?_⟩|exact rfl|assumption)),((hle2.trans hle3).trans hle4).trans hle5,rfl,rfl,rfl,hr3.up (hle4.trans hle5),hr4.up hle5,hr5⟩
  ·refine edges_spec hp (ha.up hle1) fun e1 e2 e3 H2 hle2 hr2=>?_
   refine reverse_spec (edges_few hp) hr2 fun f1 f2 f3 H3 hle3 hr3=>?_
   refine exits_spec hp (ha.up ((hle1.trans hle2).trans hle3)) fun x1 x2 x3 H4 hle4 hr4=>?_
   refine wof_spec (w:=(varsOf p).length) (l:=[]) (by omega) rl_nil fun w1 w2 w3 H5 hle5 hr5=>?_
   exact⟨⟨f1,f2,f3,x1,x2,x3,w1,w2,w3,none,0,0⟩,[(0,0),(1,1),(2,2)],by (repeat' (first|exact trivial|refine⟨?_,?_⟩|exact rfl|assumption)),((hle2.trans hle3).trans hle4).trans hle5,rfl,rfl,rfl,hr3.up (hle4.trans hle5),hr4.up hle5,hr5⟩
 rintro⟨ea,en,ec,na,nn,nc,ia,ni,ic,ta,tn,tc⟩ H2 _ ⟨hle2,hz1,hz2,hz3,hze,hzn,hzi⟩;dsimp only at hz1 hz2 hz3 hze hzn hzi;subst hz1 hz2 hz3
 refine⟨Nat×List (List Value),fun q=>⟨[(1,.ptr 0 0),(2,.ptr 1 0),(5,.v (.slice av (varsOf p).length cv)),(6,.ptr 2 0),(32,.v (.slice a n c)),(33,.v (.int .i64 n)),(34,.v (.int .i64 q.1))],
   [(0,.cells 24 [.v (.slice a n c)]),(1,.cells 106 (vL zSys)),(2,.cells 106 [.v (.int .i64 (1:Nat)),.v (.int .i64 ((varsOf p).length:Nat)),.v (.int .i64 n),.v (.slice ea en ec),.v (.slice na nn nc),.v (.slice ia ni ic),.own 3]),(3,.row 143 3 q.2)],4⟩,
  fun q H'=>Le H2 H'∧q.1≤p.length∧RC (α:=Bt.TrB) H' q.2 (((lsysOf p).T.map Bt.TrB.mk).take q.1),fun q=>p.length - q.1,⟨(0,[]),[(0,0),(1,1),(2,2)],?_,Le.refl _,Nat.zero_le _,RC.nil⟩,?_⟩
 ·(repeat' (first|exact trivial|refine⟨?_,?_⟩|exact rfl|assumption))
 rintro⟨j,css⟩ H4 _ ⟨hle4,hj,hrc⟩;dsimp only at hj hrc;have hle:Le H H4:=(hle1.trans hle2).trans hle4
 have hTl:((lsysOf p).T.map Bt.TrB.mk).length=p.length:=by simp [lsysOf]
 have hcl:css.length=j:=by have h1:=hrc.1;rw[List.length_take]at h1;omega
 refine⟨fun h=>?_,fun h=>?_⟩
 ·have hlt:j<p.length:=by have:=dt h;dsimp only at this;omega
  refine name_k p[j] fun b hbe=>?_
  have hbb:p[j]?=some b:=by rw[hbe];exact List.getElem?_eq_getElem hlt
  refine block_k (ha.up hle) hbb fun ad a5 n5 c5 q1 hh hr5 hs5 ht5=>?_
  refine⟨ad,⟨by dsimp only;omega,by dsimp only;omega,q1⟩,?_⟩;refine⟨_,hh,?_⟩;refine⟨some ([1000000,2,3,5],[0,1,2,3,4,5,6,7,8]),by kernel_rfl,?_⟩
  refine ltrans_spec (V:=varsOf p) (by omega) (hl b (by rw[hbe];exact List.getElem_mem hlt)) ht5 (hrv.up (hle2.trans hle4)) hr5 fun zt H5 hle5 hr6=>?_
  refine⟨⟨by show (css.length+1)*72≤140737488355328;omega,by show css.length+1≤9223372036854775807;omega⟩,?_⟩
  have hrc2:RC (α:=Bt.TrB) H5 (css++[Bt.trV zt]) (((lsysOf p).T.map Bt.TrB.mk).take (j+1)):=by
   rw[lsysT_take hbb];exact trb_snoc (RC.up hrc hle5) hr6
  refine⟨⟨by omega,by omega⟩,(j+1,css++[Bt.trV zt]),[(0,0),(1,1),(2,2),(3,6)],?_,⟨hle4.trans hle5,hlt,hrc2⟩,by dsimp only;omega⟩
  (repeat' (first|exact trivial|refine⟨?_,?_⟩|exact rfl|assumption))
 ·have hjl:j=p.length:=by have:=df h;dsimp only at this;omega
  rw[hjl,List.take_of_length_le (by omega)]at hrc;intro v3 H7 hle7 hv3
  refine of_row_k (α:=Bt.TrB) hv3 (RC.up hrc hle7.le) fun ta tn tc ev3 hr3=>?_
  subst ev3
  have hsys:Bt.SysR H7 (lsysOf p) ⟨ea,en,ec,na,nn,nc,ia,ni,ic,ta,tn,tc⟩ :=
   ⟨hze.up (hle4.trans hle7.le),hzn.up (hle4.trans hle7.le),hzi.up (hle4.trans hle7.le),hr3⟩
  have hK:=hK ⟨ea,en,ec,na,nn,nc,ia,ni,ic,ta,tn,tc⟩ H7 (hle.trans hle7.le) hsys;have e2:(lsysOf p).m=n:=hn.symm;rw[Bt.sysA,Bt.sysV,e2]at hK;exact hK
end Go.Proofs
end
section
namespace Go.Proofs
namespace Bt
open Go.Sy
set_option maxRecDepth 20000
set_option maxHeartbeats 4000000
def lb (wh:Nat) (a b:Bool):Prop:=if wh=1 then (a=true→b=true) else (b=true→a=true)
def jb (wh:Nat) (a b:Bool):Bool:=if wh=1 then a||b else a&&b
theorem lb_refl (wh:Nat) (a:Bool):lb wh a a:=by unfold lb;split<;>exact id
theorem lb_trans {wh:Nat} {a b c:Bool} (h1:lb wh a b) (h2:lb wh b c):lb wh a c:=by
 unfold lb at *
 by_cases h:wh=1
 ·rw[if_pos h]at *;exact fun x=>h2 (h1 x)
 ·rw[if_neg h]at *;exact fun x=>h1 (h2 x)
theorem lb_join1 (wh:Nat) (a b:Bool):lb wh a (jb wh a b):=by
 unfold lb jb
 by_cases h:wh=1
 ·rw[if_pos h,if_pos h];intro e;rw[e];rfl
 ·rw[if_neg h,if_neg h];intro e;revert e;cases a<;>simp
theorem lb_join2 (wh:Nat) (a b:Bool):lb wh b (jb wh a b):=by
 unfold lb jb
 by_cases h:wh=1
 ·rw[if_pos h,if_pos h];intro e;rw[e];cases a<;>rfl
 ·rw[if_neg h,if_neg h];intro e;revert e;cases a<;>simp
theorem jb_le {wh:Nat} {a b c:Bool} (h1:lb wh a c) (h2:lb wh b c):lb wh (jb wh a b) c:=by
 unfold lb jb at *
 by_cases h:wh=1
 ·rw[if_pos h]at *;rw[if_pos h];intro e;cases a
  ·exact h2 (by simpa using e)
  ·exact h1 rfl
 ·rw[if_neg h]at *;rw[if_neg h];intro e;rw[h1 e,h2 e];rfl
theorem jb_mono {wh:Nat} {a b a' b':Bool} (h1:lb wh a a') (h2:lb wh b b'):lb wh (jb wh a b) (jb wh a' b') :=
 jb_le (lb_trans h1 (lb_join1 wh a' b')) (lb_trans h2 (lb_join2 wh a' b'))
theorem bit_join {wh:Nat} {x y:Wd} (hl:x.length=y.length) (m:Nat):bitAt (bJoin wh x y) m=jb wh (bitAt x m) (bitAt y m):=by
 by_cases h:wh=1
 ·subst h;rw[bJoin_or,bit_bOr hl,jb,if_pos rfl]
 ·rw[bJoin_and h,bit_bAnd hl,jb,if_neg h]
def vLe (wh:Nat) (x y:Wd):Prop:=x.length=y.length∧∀m,lb wh (bitAt x m) (bitAt y m)
theorem vLe_refl (wh:Nat) (x:Wd):vLe wh x x:=⟨rfl,fun _=>lb_refl _ _⟩
theorem vLe_trans {wh:Nat} {x y z:Wd} (h1:vLe wh x y) (h2:vLe wh y z):vLe wh x z:=⟨h1.1.trans h2.1,fun i=>lb_trans (h1.2 i) (h2.2 i)⟩
theorem bJoin_len {wh w:Nat} {x y:Wd} (hx:okB w x) (hy:okB w y):(bJoin wh x y).length=x.length:=by rw[(bJoin_ok (wh:=wh) hx hy).1,hx.1]
theorem vJoin_mono {wh w:Nat} {x y x' y':Wd} (hx:okB w x) (hy:okB w y) (hx':okB w x') (hy':okB w y') (h1:vLe wh x x') (h2:vLe wh y y'):vLe wh (bJoin wh x y) (bJoin wh x' y'):=by
 refine⟨by rw[bJoin_len hx hy,bJoin_len hx' hy',h1.1],fun i=>?_⟩;rw[bit_join (hx.1.trans hy.1.symm),bit_join (hx'.1.trans hy'.1.symm)];exact jb_mono (h1.2 i) (h2.2 i)
theorem vLe_join1 {wh w:Nat} {x y:Wd} (hx:okB w x) (hy:okB w y):vLe wh x (bJoin wh x y):=by
 refine⟨by rw[bJoin_len hx hy],fun i=>?_⟩;rw[bit_join (hx.1.trans hy.1.symm)];exact lb_join1 _ _ _
theorem vLe_join2 {wh w:Nat} {x y:Wd} (hx:okB w x) (hy:okB w y):vLe wh y (bJoin wh x y):=by
 refine⟨by rw[bJoin_len hx hy,hx.1,hy.1],fun i=>?_⟩;rw[bit_join (hx.1.trans hy.1.symm)];exact lb_join2 _ _ _
theorem bit_app {w:Nat} {t:Wd×Wd} (h1:okB w t.1) (h2:okB w t.2) {x:Wd} (hx:okB w x) (m:Nat):bitAt (bApp t x) m=(bitAt x m&&!bitAt t.2 m||bitAt t.1 m):=by
 rw[bApp,bit_bOr ((bDiff_ok hx h2).1.trans h1.1.symm),bit_bDiff (hx.1.trans h2.1.symm)]
theorem vApp_mono {wh w:Nat} {t:Wd×Wd} (ht:okT w t) {x y:Wd} (hx:okB w x) (hy:okB w y) (h:vLe wh x y):vLe wh (bApp t x) (bApp t y):=by
 refine⟨by rw[(bApp_ok ht.1 ht.2 hx).1,(bApp_ok ht.1 ht.2 hy).1],fun m=>?_⟩;rw[bit_app ht.1 ht.2 hx,bit_app ht.1 ht.2 hy];have:=h.2 m
 revert this
 unfold lb
 by_cases e:wh=1
 ·rw[if_pos e,if_pos e]
  cases bitAt x m<;>cases bitAt y m<;>cases bitAt t.1 m<;>cases bitAt t.2 m<;>decide
 ·rw[if_neg e,if_neg e]
  cases bitAt x m<;>cases bitAt y m<;>cases bitAt t.1 m<;>cases bitAt t.2 m<;>decide
theorem vBot_le {wh w:Nat} (hwh:Wh wh) {x:Wd} (h:okB w x):vLe wh (bBot wh w) x:=by
 refine⟨by rw[(bBot_ok wh w).1,h.1],fun m=>?_⟩;unfold lb bBot
 rcases hwh with e | e
 ·rw[if_pos e,if_neg (by omega),nilB,bit_nil]
  intro h;cases h
 ·rw[if_neg (by omega),if_pos e,bit_full];intro h2;refine decide_eq_true (Nat.lt_of_not_le fun h3=>?_);rw[h.2 m h3]at h2;cases h2
def aLe (s:SyB) (A B:List Wd):Prop:=∀v<s.m,vLe s.wh (aAt A v) (aAt B v)
theorem stepR_at {s:SyB} {A:List Wd} {v:Nat} (hv:v<s.m):aAt (stepR s A) v=s.E.foldl (joinE s A v) (vStart s v):=by
 rw[aAt,stepR,List.getElem?_map,List.getElem?_range hv];rfl
theorem step_at {s:SyB} (ho:OkS s) {A:List Wd} {v:Nat} (hv:v<s.m):aAt (stepS s A) v=s.E.foldl (joinE s A v) (vStart s v):=by
 rw[←stepR_eq ho,stepR_at hv]
theorem appE_mono {s:SyB} (ho:OkS s) {A B:List Wd} (hA:OkA s A) (hB:OkA s B) (h:aLe s A B) {e:Edg} (he:0≤e.1∧e.1<(s.m:Nat)):vLe s.wh (appE s A e) (appE s B e) :=
 vApp_mono (tAt_ok ho _) (aAt_ok hA (by omega)) (aAt_ok hB (by omega)) (h _ (by omega))
theorem joinE_ok1 {s:SyB} (ho:OkS s) {A:List Wd} (hA:OkA s A) {v:Nat} {x:Wd} {e:Edg} (he:0≤e.1∧e.1<(s.m:Nat)) (hx:okB s.w x):okB s.w (joinE s A v x e):=by
 unfold joinE;split
 ·exact bJoin_ok hx (appE_ok ho hA he)
 ·exact hx
theorem fold_mono {s:SyB} (ho:OkS s) {A B:List Wd} (hA:OkA s A) (hB:OkA s B) (h:aLe s A B) {v:Nat}:∀(l:List Edg) {x y:Wd},(∀e∈l,0≤e.1∧e.1<(s.m:Nat))→okB s.w x→okB s.w y→vLe s.wh x y→vLe s.wh (l.foldl (joinE s A v) x) (l.foldl (joinE s B v) y)
 | [],_,_,_,_,_,h1=>h1
 | e::r,x,y,hl,hx,hy,h1=>by
  have he:=hl e List.mem_cons_self;refine fold_mono ho hA hB h r (x:=joinE s A v x e) (y:=joinE s B v y e) (fun e he=>hl e (List.mem_cons_of_mem _ he)) (joinE_ok1 ho hA he hx) (joinE_ok1 ho hB he hy) ?_;unfold joinE;split
  ·exact vJoin_mono hx (appE_ok ho hA he) hy (appE_ok ho hB he) h1 (appE_mono ho hA hB h he)
  ·exact h1
theorem step_mono {s:SyB} (ho:OkS s) {A B:List Wd} (hA:OkA s A) (hB:OkA s B) (h:aLe s A B):aLe s (stepS s A) (stepS s B):=fun v hv=>by
 rw[step_at ho hv,step_at ho hv];exact fold_mono ho hA hB h s.E (fun e he=>(ho.En e he).1) (vStart_ok ho v) (vStart_ok ho v) (vLe_refl _ _)
theorem fold_up {s:SyB} (ho:OkS s) {A:List Wd} (hA:OkA s A) {v:Nat}:∀(l:List Edg) {x:Wd},(∀e∈l,0≤e.1∧e.1<(s.m:Nat))→okB s.w x→vLe s.wh x (l.foldl (joinE s A v) x)∧∀e∈l,e.2=(v:Int)→vLe s.wh (appE s A e) (l.foldl (joinE s A v) x)
 | [],x,_,_=>⟨vLe_refl _ x,fun e he=>by cases he⟩
 | e::r,x,hl,hx=>by
  have he:=hl e List.mem_cons_self;have hx1:=joinE_ok1 (v:=v) ho hA he hx;obtain⟨h1,h2⟩:=fold_up ho hA r (x:=joinE s A v x e) (fun e he=>hl e (List.mem_cons_of_mem _ he)) hx1;refine⟨vLe_trans ?_ h1,fun e' he' hv=>?_⟩
  ·unfold joinE;split
   ·exact vLe_join1 hx (appE_ok ho hA he)
   ·exact vLe_refl _ _
  ·rcases List.mem_cons.1 he' with rfl | he'
   ·refine vLe_trans ?_ h1;rw[joinE,if_pos hv];exact vLe_join2 hx (appE_ok ho hA he)
   ·exact h2 e' he' hv
def bR (wh w:Nat) (x:Wd):Nat:=(((List.range w).map (bitAt x)).map fun b=>if b=decide (wh=1) then 1 else 0).sum
def aR (s:SyB) (A:List Wd):Nat:=(A.map (bR s.wh s.w)).sum
theorem bR_le {wh w:Nat} {x y:Wd} (hx:okB w x) (hy:okB w y) (h:vLe wh x y):bR wh w x≤bR wh w y∧(bR wh w x=bR wh w y→x=y):=by
 have hs:=sum_rank (fun (b:Bool)=>if b=decide (wh=1) then 1 else 0) (lb wh) (fun a b h=>by
  revert h
  unfold lb
  by_cases e:wh=1
  ·simp only[e,if_true,decide_true]
   cases a<;>cases b<;>simp
  ·simp only[e,if_false,decide_false]
   cases a<;>cases b<;>simp) ((List.range w).map (bitAt x)) ((List.range w).map (bitAt y)) (by simp) (fun i a b ha hb=>by
  rw[List.getElem?_map]at ha hb
  by_cases hi:i<w
  ·rw[List.getElem?_range hi]at ha hb
   cases ha;cases hb
   exact h.2 i
  ·rw[List.getElem?_eq_none (by simp;omega)]at ha
   cases ha)
 refine⟨hs.1,fun e=>bits_ext h.1 fun m=>?_⟩
 by_cases hm:m<w
 ·have:=congrArg (fun l=>l[m]?) (hs.2 e);simp only[List.getElem?_map,List.getElem?_range hm,Option.map_some,Option.some.injEq]at this;exact this
 ·rw[hx.2 m (by omega),hy.2 m (by omega)]
theorem aR_le {s:SyB} {A B:List Wd} (hA:OkA s A) (hB:OkA s B) (h:aLe s A B):aR s A≤aR s B∧(aR s A=aR s B→A=B):=by
 refine sum_rank (bR s.wh s.w) (fun x y=>okB s.w x∧okB s.w y∧vLe s.wh x y) (fun a b h=>bR_le h.1 h.2.1 h.2.2) A B (by rw[hA.len,hB.len]) (fun i a b ha hb=>?_);have hi:=(List.getElem?_eq_some_iff.1 ha).1;have:=h i (by rw[←hA.len];exact hi);rw[aAt,aAt,ha,hb]at this;exact⟨hA.ok _ (List.mem_of_getElem? ha),hB.ok _ (List.mem_of_getElem? hb),this⟩
theorem bR_bound (wh w:Nat) (x:Wd):bR wh w x≤w:=by
 have:=sum_bound (fun (b:Bool)=>if b=decide (wh=1) then 1 else 0) 1 ((List.range w).map (bitAt x)) (fun a _=>by
  show (if _ then 1 else 0)≤1
  split<;>omega)
 rw[List.length_map,List.length_range]at this;unfold bR;omega
theorem aR_bound {s:SyB} {A:List Wd} (hA:OkA s A):aR s A≤s.m*s.w:=by
 have:=sum_bound (bR s.wh s.w) s.w A (fun a _=>bR_bound _ _ a);rw[hA.len]at this;exact this
theorem iterN_fix {s:SyB} (ho:OkS s):∀(k:Nat) (A:List Wd),OkA s A→aLe s A (stepS s A)→s.m*s.w<aR s A+k→stepS s (iterN s k A)=iterN s k A
 | 0,A,hA,_,h=>by have:=aR_bound hA;omega
 | k+1,A,hA,h1,h=>by
  rw[iterN];split
  ·rename_i e;exact e.symm
  ·rename_i e;have hB:=stepS_ok ho hA;have h2:=aR_le hA hB h1
   have h3:aR s A≠aR s (stepS s A):=fun e2=>e (h2.2 e2)
   exact iterN_fix ho k (stepS s A) hB (step_mono ho hA hB h1) (by omega)
theorem aLe_bots {s:SyB} (ho:OkS s) {A:List Wd} (hA:OkA s A):aLe s (bots s) A:=fun v hv=>by
 have e:aAt (bots s) v=bBot s.wh s.w:=by rw[aAt,bots,List.getElem?_replicate,if_pos hv];rfl
 rw[e];exact vBot_le ho.wh (aAt_ok hA hv)
theorem solve_fix {s:SyB} (ho:OkS s):stepS s (solveS s)=solveS s :=
 iterN_fix ho _ _ (bots_ok s) (aLe_bots ho (stepS_ok ho (bots_ok s))) (by unfold enoughS;omega)
theorem sol_edge {s:SyB} (ho:OkS s) {e:Edg} (he:e∈s.E):vLe s.wh (appE s (solveS s) e) (aAt (solveS s) e.2.toNat):=by
 have h:=ho.En e he;rw[←solve_fix ho,step_at ho (v:=e.2.toNat) (by omega),solve_fix ho];exact (fold_up ho (solveS_ok ho) s.E (fun e he=>(ho.En e he).1) (vStart_ok ho _)).2 e he (by omega)
end Bt
end Go.Proofs
end
