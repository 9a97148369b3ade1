/- Part 'M9' of the proof (E13, E14, E15, E16, E17): lemmas, each with its own conditions in its own statement. -/
import Derived.Test.YthmicpkjickejaaDoorM0
import Derived.Test.YthmicpkjickejaaDoorM8
section
namespace Go.Proofs
open Go.Sy
set_option maxRecDepth 20000
theorem does_of_calls {P:Program} {f:FuncId} {args:List Value} {H:Hp} {K:Value→Hp→Prop} {v:Value} (hc:∀l w,(callFunc f l).run P w = .ok (.enter f l) w)
  (h:∀w,Calls P f args.toArray w fun e w'=>e = .returned v∧w'=w) (hK:K v H):Does P f args H K :=
 ⟨hc,fun w hp=>(h w).mono fun e w' ⟨e1,e2⟩=>⟨v,H,e1,hK,Le.refl H,fun b o hb=>by rw[e2];exact hp b o hb,fun b h1 _=>h1,by rw[e2];exact BelowD.refl _ _⟩⟩
theorem mul_spec {x y:Nat} {H:Hp} {K:Value→Hp→Prop} (hx:x<18446744073709551616) (hy:y<18446744073709551616)
  (hK:K (.tuple #[.int .u64 ((x*y / 18446744073709551616:Nat):Int),.int .u64 ((x*y % 18446744073709551616:Nat):Int)]) H):Does Tryd.prog 36 [.int .u64 x,.int .u64 y] H K :=
 does_of_calls Tryd.call36 (fun w=>Tryd.bits_Mul x y hx hy w) hK
theorem mul1_spec {c:Nat} {H:Hp} {K:Value→Hp→Prop} (hc:c<18446744073709551616) (hK:K (.tuple #[.int .u64 0,.int .u64 c]) H):Does Tryd.prog 36 [.int .u64 1,.int .u64 c] H K:=by
 refine mul_spec (x:=1) (y:=c) (by omega) hc ?_
 have e1:1*c / 18446744073709551616=0:=by omega
 have e2:1*c % 18446744073709551616=c:=by omega
 rw[e1,e2];exact hK
theorem row_of_one {x:Int} {n c:Nat} {a:Option Addr} {H:Hp} (ha:RL H a n c [x]):RowAt H (.slice a n c) 1 [[.int .i64 x]]:=by
 obtain⟨css,hrow,h1,h2⟩:=ha.row
 match css,h1 with
 | [cs],_ =>
  have:=h2 0 cs x rfl rfl;obtain⟨e,_⟩:=this;rw[e]at hrow;exact hrow
theorem repeat_spec {x:Int} {c cap:Nat} {a:Option Addr} {H:Hp} {K:SV→St→Hp→Prop} (ha:RL H a 1 cap [x]) (hc:c≤1000000)
  (hK:∀H',Le H H'→K (.own 0) ⟨[],[(0,.row 3 1 (List.replicate c [.int .i64 x]))],1⟩ H'):DoesG Tryd.prog 27 [.v (.slice a 1 cap),.v (.int .i64 c)] [] 0 H K:=by
 have hrow:=row_of_one ha
 obtain⟨R,hR⟩:∃R:Nat→List (List Value),R=fun n=>List.replicate n [.int .i64 x]++List.replicate (c - n) [.int .i64 0]:=⟨_,rfl⟩
 have hRl:∀n≤c,(R n).length=c:=by intro n hn;rw[hR];simp;omega
 have hRc:R c=List.replicate c [.int .i64 x]:=by rw[hR];simp
 have e8:((List.take (List.replicate c [Value.int .i64 0]).length [[Value.int .i64 x]]).length:Nat)=min c 1:=by simp
 have e80:SV.v (.int .i64 (((List.take (List.replicate c [Value.int .i64 0]).length [[Value.int .i64 x]]).length:Nat):Int))=SV.v (.int .i64 (min c 1:Nat)):=by rw[e8]
 have e0:List.take 0 (List.replicate c [Value.int .i64 0])++List.take (List.replicate c [Value.int .i64 0]).length [[Value.int .i64 x]]++List.drop (0+(List.take (List.replicate c [Value.int .i64 0]).length [[Value.int .i64 x]]).length) (List.replicate c [Value.int .i64 0])=R (min c 1):=by
  rw[e8,hR]
  cases c with
  | zero=>rfl
  | succ c=>simp [List.replicate_succ]
 have hm:∀n≤c,(List.take ((R n).length - n) (List.take (n - 0) (List.drop 0 (R n)))).length=min n (c - n):=by
  intro n hn
  rw[List.drop_zero,List.length_take,List.length_take,hRl n hn];omega
 have eN:∀n≤c,List.take n (R n)++List.take ((R n).length - n) (List.take (n - 0) (List.drop 0 (R n)))++List.drop (n+(List.take ((R n).length - n) (List.take (n - 0) (List.drop 0 (R n)))).length) (R n)=R (n+min n (c - n)):=by
  intro n hn;rw[hm n hn,hRl n hn]
  have h1:List.take n (R n)=List.replicate n [.int .i64 x]:=by rw[hR];simp
  have h2:List.take (c - n) (List.take (n - 0) (List.drop 0 (R n)))=List.replicate (min n (c - n)) [.int .i64 x]:=by
   rw[List.drop_zero,Nat.sub_zero,h1,List.take_replicate,Nat.min_comm]
  have h3:List.drop (n+min n (c - n)) (R n)=List.replicate (c - (n+min n (c - n))) [.int .i64 0]:=by
   rw[hR];simp only[List.drop_append,List.length_replicate,List.drop_replicate];rw[show n - (n+min n (c - n))=0 by omega,List.replicate_zero,List.nil_append]
   congr 1
   omega
  rw[h1,h2,h3,hR];simp only[List.replicate_append_replicate]
 have eM:∀n≤c,SV.v (.int .i64 ((n:Int)+(((List.take ((R n).length - n) (List.take (n - 0) (List.drop 0 (R n)))).length:Nat):Int)))=SV.v (.int .i64 ((n+min n (c - n):Nat):Int)):=by
  intro n hn
  rw[hm n hn];rfl
 refine spec_ofG cx_ok cx_mix Tryd.func27 Tryd.call27 Tryd.ntmps27 Tryd.results27 rfl rfl ?_;refine⟨fun h=>?_,fun h=>?_⟩
 ·have:=dt h;omega
 ·refine⟨⟨by omega,by omega⟩,?_⟩;refine⟨⟨by omega,by omega⟩,?_⟩;refine mul1_spec (by omega) ?_;refine⟨fun h=>?_,fun h=>?_⟩
  ·refine⟨fun h=>?_,fun h=>?_⟩
   ·have:=dt h;omega
   ·refine⟨⟨by omega,by omega⟩,?_⟩;refine⟨⟨rfl,by omega,by show (c:Int)*8≤_;omega,by omega⟩,?_⟩;refine⟨_,hrow,?_⟩;refine⟨by simp,?_⟩;refine⟨Nat,fun n=>⟨[(7,.own 0),(8,.v (.int .i64 n))],[(0,.row 3 1 (R n))],1⟩,fun n H'=>Le H H'∧n≤c∧(1≤c→1≤n),fun n=>c - n,⟨min c 1,[(0,0)],?_,Le.refl H,by omega,by omega⟩,?_⟩
    ·exact⟨⟨rfl,e80,trivial⟩,⟨e0,trivial⟩⟩
    rintro n H' _ ⟨hle,hn,h1⟩;have hl:=hRl n hn;refine⟨fun h=>?_,fun h=>?_⟩
    ·have hlt:n<c:=by have:=dt h;omega
     refine⟨some ([0],[0,1,2,3,4,5,6,7,8,9]),by kernel_rfl,?_⟩;refine⟨⟨by omega,by omega,by omega⟩,?_⟩;refine⟨⟨by omega,by omega,by omega⟩,?_⟩;refine⟨by show 0+(n - 0)≤_;omega,?_⟩;refine⟨by show n+((R n).length - n)≤_;omega,?_⟩;have hm':=hm n hn;refine⟨⟨by show _≤(n:Int)+((List.take ((R n).length - n) (List.take (n - 0) (List.drop 0 (R n)))).length:Nat);omega,by show (n:Int)+((List.take ((R n).length - n) (List.take (n - 0) (List.drop 0 (R n)))).length:Nat)≤_;omega⟩,?_⟩;refine⟨n+min n (c - n),[(0,0)],?_,⟨hle,by omega,by omega⟩,by dsimp only;omega⟩;exact⟨⟨rfl,eM n hn,trivial⟩,⟨eN n hn,trivial⟩⟩
    ·have hnc:n=c:=by have:=df h;omega
     refine⟨.own 0,[(0,.row 3 1 (List.replicate c [.int .i64 x]))],1,[(0,0)],?_,hK H' hle⟩
     have e5:R n=List.replicate c [.int .i64 x]:=by rw[hnc,hRc]
     exact⟨⟨rfl,trivial⟩,⟨e5,trivial⟩⟩
  ·exact absurd (dt h) (by decide)
end Go.Proofs
end
section
namespace Go.Proofs
open Go.Sy
set_option maxRecDepth 20000
def lastOf (f:Nat→Int) (w:Nat):Nat→Int
 | 0=>-1
 | i+1=>if f i=w then i else lastOf f w i
def wideOf (f:Nat→Int):Nat→Int
 | 0=>0
 | i+1=>max (wideOf f i) (i - lastOf f (f i).toNat i)
def endOf (f:Nat→Int) (len:Nat) (wd:Int):Nat→Int
 | 0=>wd
 | w+1=>max (endOf f len wd w) (len - lastOf f w len)
def pk (n:Int) (l:List Pick) (i:Nat):Int:=who (l.getD i (0,0)).1 (cut n)
def winF (n:Int) (l:List Pick):Int:=min (endOf (pk n l) l.length (wideOf (pk n l) l.length) (cut n).toNat) (l.length+1)
theorem lastOf_lt (f:Nat→Int) (w:Nat):∀i:Nat,-1≤lastOf f w i∧lastOf f w i<i
 | 0=>by simp [lastOf]
 | i+1=>by
  have:=lastOf_lt f w i;rw[lastOf]
  split<;>omega
theorem wideOf_le (f:Nat→Int):∀i:Nat,0≤wideOf f i∧wideOf f i≤i
 | 0=>by simp [wideOf]
 | i+1=>by
  have:=wideOf_le f i;have:=lastOf_lt f (f i).toNat i;rw[wideOf];omega
theorem endOf_le (f:Nat→Int) (len:Nat) (wd:Int) (h:0≤wd∧wd≤len):∀w:Nat,0≤endOf f len wd w∧endOf f len wd w≤len+1
 | 0=>by rw[endOf];omega
 | w+1=>by
  have:=endOf_le f len wd h w;have:=lastOf_lt f w len;rw[endOf];omega
def lastRow (f:Nat→Int) (N i:Nat):List (List Value):=(List.range N).map fun w=>[.int .i64 (lastOf f w i)]
theorem lastRow_zero (f:Nat→Int) (N:Nat):lastRow f N 0=List.replicate N [.int .i64 (-1)]:=by
 apply List.ext_getElem?;intro j;simp only[lastRow,lastOf,List.getElem?_map,List.getElem?_replicate]
 by_cases h:j<N<;>simp [h]
theorem lastRow_set (f:Nat→Int) (N i:Nat) (h0:0≤f i) (h1:f i<N) (v:Value) (hv:v = .int .i64 i):(lastRow f N i).set (f i).toNat [v]=lastRow f N (i+1):=by
 subst hv;apply List.ext_getElem?;intro j;simp only[lastRow,List.getElem?_map,List.getElem?_set,List.length_map,List.length_range,lastOf]
 by_cases hj:j<N
 ·simp only[List.getElem?_range hj,Option.map_some]
  by_cases he:(f i).toNat=j
  ·have:f i=(j:Int):=by omega
   simp [hj,this]
  ·have:¬f i=(j:Int):=by omega
   simp [he,this]
 ·have hno:(List.range N)[j]?=none:=List.getElem?_eq_none (by simpa using hj)
  have hne:¬(f i).toNat=j:=by omega
  rw[hno,if_neg hne]
  rfl
theorem lastRow_len (f:Nat→Int) (N i:Nat):(lastRow f N i).length=N:=by simp [lastRow]
theorem lastRow_get (f:Nat→Int) (N i w:Nat) (h:w<N):(lastRow f N i)[w]?=some [.int .i64 (lastOf f w i)]:=by
 simp [lastRow,h]
theorem who_range {p n:Int} (h:1≤n):0≤who p n∧who p n<n:=by
 unfold who;rw[if_neg (by omega)]
 have h1:0≤p.tmod n+n:=by have:=Int.lt_tmod_of_pos p (show 0<n by omega);omega
 have h2:p.tmod n<n:=Int.tmod_lt_of_pos p (by omega)
 split<;>omega
theorem window_spec {n:Int} {l:List Pick} {a1:Option Addr} {n1 c1:Nat} {H:Hp} {K:Value→Hp→Prop} (ha:RL H a1 n1 c1 l) (hsm:l.length≤9223372036854775800)
 (hK:∀H',Le H H'→K (.int .i64 (winF n l)) H'):Does Tryd.prog 17 [.slice a1 n1 c1,.int .i64 n] H K:=by
 have hc1:1≤cut n∧cut n≤64:=by unfold cut;omega
 obtain⟨cn,hcn⟩:∃cn:Int,cn=cut n:=⟨_,rfl⟩
 obtain⟨wn,hwn⟩:∃wn:Nat,wn=(cut n).toNat:=⟨_,rfl⟩
 have ecn:cut n=(wn:Int):=by omega
 have hn1:=ha.n_eq;have hmx:=ha.le
 have hpk:∀i,0≤pk n l i∧pk n l i<wn:=by
  intro i;have:=who_range (p:=(l.getD i (0,0)).1) hc1.1;unfold pk;omega
 refine spec_of cx_ok cx_mix rfl Tryd.func17 Tryd.call17 Tryd.ntmps17 Tryd.results17 rfl rfl ?_;refine cut_spec ?_;rw[ecn];refine⟨[],rfl,?_⟩;intro x H1 hle1 hx;obtain⟨a2,n2,c2,e2,hr2⟩:=RL.of_row (α:=Int) hx (RC.nil.snoc (cs:=[.int .i64 (-1)]) (x:=(-1:Int)) ⟨rfl,by omega⟩);have en2:n2=1:=hr2.n_eq;subst en2;subst e2;refine repeat_spec hr2 (by omega) ?_;intro H2 hle2;have e0:List.replicate wn [Value.int .i64 (-1)]=lastRow (pk n l) wn 0:=(lastRow_zero _ _).symm;refine⟨Nat,fun i=>⟨[(0,.v (.slice a1 n1 c1)),(1,.v (.int .i64 (wn:Int))),(5,.own 0),(6,.v (.int .i64 (wideOf (pk n l) i))),(17,.v (.slice a1 n1 c1)),(18,.v (.int .i64 n1)),(19,.v (.int .i64 i))],[(0,.row 3 1 (lastRow (pk n l) wn i))],1⟩,fun i H'=>Le H H'∧i≤l.length,fun i=>l.length - i,⟨0,[(0,1)],?_,hle1.trans hle2,by omega⟩,?_⟩
 ·exact⟨⟨rfl,rfl,rfl,rfl,rfl,rfl,rfl,trivial⟩,⟨e0,trivial⟩⟩
 rintro i H3 _ ⟨hle,hi⟩;refine⟨fun h=>?_,fun h=>?_⟩
 ·have hlt:i<l.length:=by have:=dt h;omega
  have hx:=List.getElem?_eq_getElem hlt;have hq:=ha.up hle;have hr:=hq.elem hx;obtain⟨ad,cs,e1,h1,r1⟩:=hr;have e3:=pick_open r1;rw[e3]at h1;refine⟨ad,⟨by omega,by omega,e1⟩,?_⟩;refine⟨_,h1,?_⟩
  have epk:who (l[i]).1 (wn:Int)=pk n l i:=by
   unfold pk;rw[ecn,List.getD_eq_getElem?_getD,hx]
   rfl
  refine swho_spec (by omega) ?_;rw[epk];have hpi:=hpk i;have hll:=lastRow_len (pk n l) wn i
  have hget:=lastRow_get (pk n l) wn i (pk n l i).toNat (by omega)
  have hlo:=lastOf_lt (pk n l) (pk n l i).toNat i;have hwi:=wideOf_le (pk n l) i;refine⟨⟨by omega,by omega⟩,?_⟩;refine⟨_,hget,?_⟩;refine⟨⟨by omega,by omega⟩,?_⟩;refine⟨⟨by omega,by omega⟩,?_⟩;refine⟨_,hget,?_⟩;have eset:=lastRow_set (pk n l) wn i hpi.1 hpi.2 _ rfl;refine⟨⟨by omega,by omega⟩,i+1,[(0,0)],?_,⟨hle,by omega⟩,by dsimp only;omega⟩;exact⟨⟨rfl,rfl,rfl,rfl,rfl,rfl,rfl,trivial⟩,⟨eset,trivial⟩⟩
 ·have hil:i=l.length:=by have:=df h;omega
  have hwi:=wideOf_le (pk n l) i
  have ewd:wideOf (pk n l) i=wideOf (pk n l) l.length:=by rw[hil]
  have erow:lastRow (pk n l) wn i=lastRow (pk n l) wn l.length:=by rw[hil]
  have hll:=lastRow_len (pk n l) wn l.length
  have ewn:SV.v (.int .i64 ((lastRow (pk n l) wn i).length:Int))=SV.v (.int .i64 (wn:Int)):=by rw[lastRow_len]
  have ew6:SV.v (.int .i64 (wideOf (pk n l) i))=SV.v (.int .i64 (endOf (pk n l) l.length (wideOf (pk n l) l.length) 0)):=by rw[hil];rfl
  refine⟨Nat,fun w=>⟨[(0,.v (.slice a1 n1 c1)),(6,.v (.int .i64 (endOf (pk n l) l.length (wideOf (pk n l) l.length) w))),(40,.own 0),(41,.v (.int .i64 (wn:Int))),(42,.v (.int .i64 w))],[(0,.row 3 1 (lastRow (pk n l) wn l.length))],1⟩,fun w H'=>Le H H'∧w≤wn,fun w=>wn - w,⟨0,[(0,0)],?_,hle,by omega⟩,?_⟩
  ·exact⟨⟨rfl,ew6,rfl,ewn,rfl,trivial⟩,⟨erow,trivial⟩⟩
  rintro w H4 _ ⟨hle4,hw⟩;have hend:=endOf_le (pk n l) l.length (wideOf (pk n l) l.length) (by rw[←hil];omega) w;refine⟨fun h=>?_,fun h=>?_⟩
  ·have hlt:w<wn:=by have:=dt h;omega
   have hget:=lastRow_get (pk n l) wn l.length w hlt;have hlo:=lastOf_lt (pk n l) w l.length;refine⟨⟨by omega,by omega⟩,?_⟩;refine⟨_,hget,?_⟩;refine⟨⟨by omega,by omega⟩,?_⟩;refine⟨⟨by omega,by omega⟩,w+1,[(0,0)],?_,⟨hle4,by omega⟩,by dsimp only;omega⟩
   have ew:SV.v (.int .i64 (max (endOf (pk n l) l.length (wideOf (pk n l) l.length) w) ((n1:Int) - lastOf (pk n l) w l.length)))=SV.v (.int .i64 (endOf (pk n l) l.length (wideOf (pk n l) l.length) (w+1))):=by rw[hn1];rfl
   exact⟨⟨rfl,ew,rfl,rfl,rfl,trivial⟩,⟨rfl,trivial⟩⟩
  ·have hwe:w=wn:=by have:=df h;omega
   refine⟨⟨by omega,by omega⟩,?_⟩;have h9:=hK H4 hle4
   have ew:winF n l=min (endOf (pk n l) l.length (wideOf (pk n l) l.length) w) ((n1:Int)+1):=by rw[hwe,hn1,hwn];rfl
   rw[ew]at h9;exact h9
end Go.Proofs
end
section
namespace Go.Proofs
open Go.Sy
theorem lastOf_at (f:Nat→Int) (w:Nat):∀i:Nat,(0≤lastOf f w i→f (lastOf f w i).toNat=w)∧∀j:Nat,lastOf f w i<j→j<i→f j≠w
 | 0=>⟨by simp [lastOf],fun j _ h=>by omega⟩
 | i+1=>by
  obtain⟨h1,h2⟩:=lastOf_at f w i;rw[lastOf];split
  ·rename_i h;exact⟨fun _=>by simpa using h,fun j h3 h4=>by omega⟩
  ·rename_i h;refine⟨h1,fun j h3 h4=>?_⟩
   by_cases hj:j=i
   ·rw[hj];exact h
   ·exact h2 j h3 (by omega)
theorem lastOf_none (f:Nat→Int) (w i:Nat):∀m:Nat,(∀j:Nat,i≤j→j<m→f j≠w)→lastOf f w m<i
 | 0,_=>by rw[lastOf];omega
 | m+1,h=>by
  rw[lastOf]
  by_cases hm:f m=w
  ·rw[if_pos hm]
   have:¬i≤m:=fun hi=>h m hi (by omega) hm
   omega
  ·rw[if_neg hm]
   exact lastOf_none f w i m fun j h1 h2=>h j h1 (by omega)
theorem wideOf_iff (f:Nat→Int) (k:Int) (hk:0≤k):∀i:Nat,wideOf f i≤k↔∀j:Nat,j<i→(j:Int) - lastOf f (f j).toNat j≤k
 | 0=>by simp [wideOf];exact hk
 | i+1=>by
  rw[wideOf];have ih:=wideOf_iff f k hk i;constructor
  ·intro h j hj
   by_cases e:j=i
   ·subst e;omega
   ·exact ih.1 (by omega) j (by omega)
  ·intro h
   have h1:=ih.2 fun j hj=>h j (by omega)
   have h2:=h i (by omega);omega
theorem endOf_iff (f:Nat→Int) (len:Nat) (wd k:Int):∀N:Nat,endOf f len wd N≤k↔wd≤k∧∀w:Nat,w<N→(len:Int) - lastOf f w len≤k
 | 0=>by simp [endOf]
 | w+1=>by
  rw[endOf];have ih:=endOf_iff f len wd k w;constructor
  ·intro h;have h1:=ih.1 (by omega);refine⟨h1.1,fun j hj=>?_⟩
   by_cases e:j=w
   ·subst e;omega
   ·exact h1.2 j (by omega)
  ·intro ⟨h1,h2⟩;have h3:=ih.2 ⟨h1,fun j hj=>h2 j (by omega)⟩;have h4:=h2 w (by omega);omega
def fairP (f:Nat→Int) (len N k:Nat):Prop:=∀i:Nat,i+k≤len→∀w:Nat,w<N→∃j:Nat,i≤j∧j<i+k∧f j=w
theorem fair_iff (f:Nat→Int) (len N k:Nat) (hk:1≤k) (hf:∀i,0≤f i∧f i<N):endOf f len (wideOf f len) N≤k↔fairP f len N k:=by
 rw[endOf_iff,wideOf_iff f k (by omega)];constructor
 ·intro ⟨h1,h2⟩ i hi w hw;apply Classical.byContradiction;intro hno
  have hno':∀j:Nat,i≤j→j<i+k→f j≠w:=fun j a b c=>hno ⟨j,a,b,c⟩
  have key:∀m:Nat,i+k≤m→m≤len→∀j:Nat,i≤j→j<m→f j≠w:=by
   intro m
   induction m with
   | zero=>intro h _ j _ hj;omega
   | succ m ih =>
    intro hm hl j hij hj
    by_cases hb:m+1=i+k
    ·exact hno' j hij (by omega)
    ·have ih':=ih (by omega) (by omega)
     by_cases e:j=m
     ·subst e;intro hfj;have h3:=h1 j (by omega);have h4:=lastOf_none f w i j ih';rw[hfj]at h3
      have:(w:Int).toNat=w:=by omega
      rw[this]at h3;omega
     ·exact ih' j hij (by omega)
  have h5:=lastOf_none f w i len (key len hi (by omega));have h6:=h2 w hw;omega
 ·intro h;refine⟨fun j hj=>?_,fun w hw=>?_⟩
  ·apply Classical.byContradiction;intro hgt;have h1:=lastOf_lt f (f j).toNat j;obtain⟨h2,h3⟩:=lastOf_at f (f j).toNat j;have hfj:=hf j
   obtain⟨m,hm1,hm2,hm3⟩:=h (lastOf f (f j).toNat j+1).toNat (by omega) (f j).toNat (by omega)
   exact h3 m (by omega) (by omega) hm3
  ·apply Classical.byContradiction;intro hgt;have h1:=lastOf_lt f w len;obtain⟨h2,h3⟩:=lastOf_at f w len;obtain⟨m,hm1,hm2,hm3⟩:=h (lastOf f w len+1).toNat (by omega) w hw;exact h3 m (by omega) (by omega) hm3
theorem runs_iff (n k:Int) (l:List Pick) (i w:Nat):runs n k l i w=true↔∃j:Nat,i≤j∧j<i+k.toNat∧j<l.length∧pk n l j=w:=by
 unfold runs;rw[List.any_eq_true];constructor
 ·rintro⟨p,hp,hw⟩;obtain⟨m,hm⟩:=List.mem_iff_getElem?.1 hp;rw[List.getElem?_drop,List.getElem?_take]at hm;split at hm
  ·have hlt:=(List.getElem?_eq_some_iff.1 hm).1;refine⟨i+m,by omega,by assumption,hlt,?_⟩;rw[pk,List.getD_eq_getElem?_getD,hm]
   simpa using hw
  ·cases hm
 ·rintro⟨j,h1,h2,h3,h4⟩;refine⟨l[j],List.mem_iff_getElem?.2 ⟨j - i,?_⟩,?_⟩
  ·rw[List.getElem?_drop,List.getElem?_take,show i+(j - i)=j by omega,if_pos h2,List.getElem?_eq_getElem h3]
  ·rw[pk,List.getD_eq_getElem?_getD,List.getElem?_eq_getElem h3]at h4
   simpa using h4
theorem pk_range (n:Int) (l:List Pick) (i:Nat):0≤pk n l i∧pk n l i<(cut n).toNat:=by
 have hc1:1≤cut n∧cut n≤64:=by unfold cut;omega
 have:=who_range (p:=(l.getD i (0,0)).1) hc1.1;unfold pk;omega
theorem isR_iff (n k:Int) (l:List Pick) (hk:1≤k) (hkl:k≤l.length):isR n k l↔winF n l≤k:=by
 have h:=fair_iff (pk n l) l.length (cut n).toNat k.toNat (by omega) (pk_range n l)
 have e:(k.toNat:Int)=k:=by omega
 rw[e]at h
 have h2:winF n l≤k↔endOf (pk n l) l.length (wideOf (pk n l) l.length) (cut n).toNat≤k:=by unfold winF;omega
 rw[h2,h];unfold isR fairP;constructor
 ·rintro⟨_,h3⟩ i hi w hw;obtain⟨j,a,b,c,d⟩:=(runs_iff n k l i w).1 (h3 i (by omega) (by omega) w hw);exact⟨j,a,b,d⟩
 ·intro h3;refine⟨hk,fun i hi hki w hw=>(runs_iff n k l i w).2 ?_⟩;obtain⟨j,a,b,c⟩:=h3 i (by omega) w hw;exact⟨j,a,b,by omega,c⟩
theorem isR_long (n k:Int) (l:List Pick) (hk:1≤k) (hkl:l.length<k):isR n k l:=⟨hk,fun i _ h=>by omega⟩
end Go.Proofs
end
section
namespace Go.Proofs
open Go.Sy
set_option maxRecDepth 20000
theorem is_spec {n k:Int} {l:List Pick} {a1:Option Addr} {n1 c1:Nat} {H:Hp} {K:Value→Hp→Prop} (ha:RL H a1 n1 c1 l) (hsm:l.length≤9223372036854775800)
 (hK:∀b H',Le H H'→(b=true↔isR n k l)→K (.bool b) H'):Does Tryd.prog 9 [.slice a1 n1 c1,.int .i64 n,.int .i64 k] H K:=by
 have hn1:=ha.n_eq;refine spec_of cx_ok cx_mix rfl Tryd.func9 Tryd.call9 Tryd.ntmps9 Tryd.results9 rfl rfl ?_;refine⟨fun h=>?_,fun h=>?_⟩
 ·have hk1:=of_decide_eq_true h;refine⟨fun h=>?_,fun h=>?_⟩
  ·have hkl:¬(n1:Int)<k:=of_decide_eq_false h;refine window_spec ha hsm ?_;intro H2 hle2;have hiff:=isR_iff n k l hk1 (by omega);exact hK _ H (Le.refl H) (by rw[hiff];simp)
  ·have hkl:(n1:Int)<k:=of_decide_eq_true h;exact hK true H (Le.refl H) ⟨fun _=>isR_long n k l hk1 (by omega),fun _=>rfl⟩
 ·have hk1:¬1≤k:=of_decide_eq_false h;exact hK false H (Le.refl H) ⟨fun h=>(by cases h),fun h=>absurd h.1 hk1⟩
def roundL (n:Int) (m:Nat):List Pick:=(List.range m).map fun i:Nat=>((i:Int) % cut n,(0:Int))
def roundN (long:Int):Nat:=(min (max long 0) 1048576).toNat
def pickC (p:Pick):List Value:=[.int .i64 p.1,.int .i64 p.2]
theorem roundL_snoc (n:Int) (m:Nat):roundL n (m+1)=roundL n m++[((m:Int) % cut n,(0:Int))]:=by simp [roundL,List.range_succ]
theorem roundL_len (n:Int) (m:Nat):(roundL n m).length=m:=by simp [roundL]
theorem rc_picks {l:List Pick} {H:Hp} (h:∀p∈l,(-9223372036854775808≤p.1∧p.1≤9223372036854775807)∧(-9223372036854775808≤p.2∧p.2≤9223372036854775807)):RC H (l.map pickC) l:=by
 refine⟨by simp,fun i cs x h1 h2=>?_⟩;rw[List.getElem?_map,h2]at h1;simp only[Option.map_some,Option.some.injEq]at h1;subst h1;have hx:=h x (List.mem_of_getElem? h2);exact⟨_,_,rfl,⟨rfl,hx.1⟩,⟨rfl,hx.2⟩⟩
theorem round_spec {n long:Int} {H:Hp} {K:Value→Hp→Prop}
 (hK:∀a n1 c1 H',Le H H'→RL H' a n1 c1 (roundL n (roundN long))→K (.slice a n1 c1) H'):Does Tryd.prog 10 [.int .i64 n,.int .i64 long] H K:=by
 have hc1:1≤cut n∧cut n≤64:=by unfold cut;omega
 obtain⟨N,hN⟩:∃N:Nat,N=roundN long:=⟨_,rfl⟩
 have hNm:min (max long 0) 1048576=(N:Int):=by rw[hN,roundN];omega
 have eNm:SV.v (.int .i64 (min (max long 0) 1048576))=SV.v (.int .i64 (N:Int)):=by rw[hNm]
 have hN2:N≤1048576:=by omega
 rw[←hN]at hK
 have hmod:∀i:Nat,(i:Int).tmod (cut n)=(i:Int) % cut n:=fun i=>Int.tmod_eq_emod_of_nonneg (by omega)
 have hmr:∀i:Nat,0≤(i:Int) % cut n∧(i:Int) % cut n<64:=fun i=>⟨Int.emod_nonneg _ (by omega),by have:=Int.emod_lt_of_pos (i:Int) (show 0<cut n by omega);omega⟩
 refine spec_of cx_ok cx_mix rfl Tryd.func10 Tryd.call10 Tryd.ntmps10 Tryd.results10 rfl rfl ?_;refine⟨Nat,fun i=>⟨[(0,.v (.int .i64 n)),(5,.own 0),(9,.v (.int .i64 (N:Int))),(10,.v (.int .i64 i))],[(0,.row 30 2 ((roundL n i).map pickC))],1⟩,fun i H'=>Le H H'∧i≤N,fun i=>N - i,⟨0,[],?_,Le.refl H,by omega⟩,?_⟩
 ·exact⟨⟨rfl,⟨rfl,rfl,rfl⟩,eNm,rfl,trivial⟩,⟨rfl,trivial⟩⟩
 rintro i H1 _ ⟨hle,hi⟩;refine⟨fun h=>?_,fun h=>?_⟩
 ·have hlt:i<N:=by have:=dt h;omega
  refine cut_spec ?_;refine⟨by omega,?_⟩
  have hlen:((roundL n i).map pickC).length=i:=by rw[List.length_map,roundL_len]
  have erow:(roundL n i).map pickC++[[.int .i64 ((i:Int).tmod (cut n)),.int .i64 0]]=(roundL n (i+1)).map pickC:=by rw[roundL_snoc,List.map_append,hmod];rfl
  refine⟨⟨by show (((roundL n i).map pickC).length+1)*16≤_;omega,by show ((roundL n i).map pickC).length+1≤_;omega⟩,?_⟩;refine⟨⟨by omega,by omega⟩,i+1,[(0,2)],?_,⟨hle,by omega⟩,by dsimp only;omega⟩;exact⟨⟨rfl,rfl,rfl,rfl,trivial⟩,⟨erow,trivial⟩⟩
 ·have hiN:i=N:=by have:=df h;omega
  intro x H2 hle2 hx
  have hrc:=rc_picks (l:=roundL n i) (H:=H2) (fun p hp=>by
   simp only[roundL,List.mem_map,List.mem_range]at hp;obtain⟨j,_,rfl⟩:=hp;have:=hmr j
   exact⟨⟨by omega,by omega⟩,by omega⟩)
  obtain⟨a,n1,c1,e,hr⟩:=RL.of_row (α:=Pick) hx hrc;rw[hiN]at hr;have h9:=hK a n1 c1 H2 (hle.trans hle2) hr;rw[←e]at h9;exact h9
end Go.Proofs
end
section
namespace Go.Proofs
open Go.Sy
set_option maxRecDepth 20000
theorem ahead_small {n:Nat} (hn:n<10) {H:Hp} {K:Value→Hp→Prop} (hK:K (.string (bs [UInt8.ofNat (48+n)])) H):Does Tryd.prog 19 [.int .u64 n] H K:=by
 refine spec_of cx_ok cx_mix rfl Tryd.func19 Tryd.call19 Tryd.ntmps19 Tryd.results19 rfl rfl ?_;refine⟨fun h=>?_,fun h=>?_⟩
 ·refine⟨⟨by omega,by omega⟩,?_⟩;refine⟨⟨by omega,by omega⟩,?_⟩
  have e:((UInt8.ofNat (48+n)).toNat:Int)=48+n:=by
   rw[UInt8.toNat_ofNat'];omega
  have e2:[[Value.int .u8 (48+(n:Int))]]=byteRows [UInt8.ofNat (48+n)]:=by
   simp only[byteRows,List.map_cons,List.map_nil,e]
  refine⟨[UInt8.ofNat (48+n)],e2,?_⟩;exact hK
 ·have:=df h;omega
theorem ahead_small' {x:Int} {n:Nat} (hx:x=n) (hn:n<10) {H:Hp} {K:Value→Hp→Prop} (hK:K (.string (bs [UInt8.ofNat (48+n)])) H):Does Tryd.prog 19 [.int .u64 x] H K:=by
 subst hx;exact ahead_small hn hK
def digS (n:Int):List UInt8:=if n<0 then [45,UInt8.ofNat (48+(0 - n).toNat)] else [UInt8.ofNat (48+n.toNat)]
theorem digits_small {n:Int} (hn : -10<n∧n<10) {H:Hp} {K:Value→Hp→Prop} (hK:K (.string (bs (digS n))) H):Does Tryd.prog 11 [.int .i64 n] H K:=by
 refine spec_of cxw_ok cx_mix rfl Tryd.func11 Tryd.call11 Tryd.ntmps11 Tryd.results11 rfl rfl ?_;refine⟨fun h=>?_,fun h=>?_⟩
 ·have h:=dt h;rw[digS,if_pos h]at hK
  obtain⟨m,hm⟩:∃m:Nat,m=(0 - n).toNat:=⟨_,rfl⟩
  have e1:IntKind.u64.wrap (0 - IntKind.u64.wrap n)=(m:Int):=by
   rw[IntKind.wrap_u64,IntKind.wrap_u64];omega
  rw[←hm]at hK;refine ahead_small' e1 (by omega) ?_;refine⟨by show 1+1≤_;omega,?_⟩;exact hK
 ·have h:=df h;rw[digS,if_neg h]at hK
  obtain⟨m,hm⟩:∃m:Nat,m=n.toNat:=⟨_,rfl⟩
  have e1:IntKind.u64.wrap n=(m:Int):=by
   rw[IntKind.wrap_u64];omega
  rw[←hm]at hK;refine ahead_small' e1 (by omega) ?_;exact hK
end Go.Proofs
end
