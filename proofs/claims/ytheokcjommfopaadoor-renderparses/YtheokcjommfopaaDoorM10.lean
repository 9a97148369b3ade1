/- Part 'M10' of the proof (B1, B2, R7, R8, B3, E18, R9, R10, Spl): lemmas, each with its own conditions in its own statement. -/
import Derived.Lib.MakeNoZero
import Derived.Test.YtheokcjommfopaaDoorM8
import Derived.Test.YtheokcjommfopaaDoorM9
section
namespace Go.Proofs
open Go.Sy
open Go.RowKit (Below)
set_option maxRecDepth 20000
theorem noescape_spec {x:SV} {bx:List (Nat×Bx)} {nx:Nat} {H:Hp} {K:SV→List (Nat×Bx)→Nat→Hp→Prop} (hK:K x bx nx H):ExtG Tryd.prog 70 [x] bx nx H K:=by
 intro B ρ w hm hl;refine⟨x,bx,nx,H,ρ,w,?_,hK,?_,hm,Same.refl _ _,Nat.le_refl _,⟨[],rfl⟩,Le.refl H⟩
 ·have h:∀(v:Value) (w:World),(callFunc 70 #[v]).run Tryd.prog w = .ok (.value v) w:=by
   intro v w
   kernel_rfl
  rw[←h (ga ρ x) w]
  congr 2
 ·rw[lts_iff]at hl;exact hl x (by simp)
end Go.Proofs
end
section
namespace Go.Proofs
open Go.Sy
set_option maxRecDepth 20000
abbrev bld0:List (Nat×Bx):=[(0,.cells 59 [.v (.pointer none),.v (.slice none 0 0)])]
abbrev bld2 (b:List UInt8):List (Nat×Bx):=[(0,.cells 59 [.ptr 0 0,.own 2]),(1,.dead),(2,.row 5 1 (byteRows b))]
abbrev bld (b:List UInt8):List (Nat×Bx):=[(0,.cells 59 [.ptr 0 0,.own 1]),(1,.row 5 1 (byteRows b))]
theorem check_fresh {H:Hp} {K:SV→St→Hp→Prop} (hK:K (.tup []) ⟨[],[(0,.cells 59 [.ptr 0 0,.v (.slice none 0 0)])],1⟩ H):DoesG Tryd.prog 49 [.ptr 0 0] bld0 1 H K:=by
 refine spec_ofG cx_ok cx_mix Tryd.func49 Tryd.call49 Tryd.ntmps49 Tryd.results49 rfl rfl ?_;refine⟨fun h=>?_,fun h=>?_⟩
 ·refine⟨by kernel_rfl,?_⟩;refine noescape_spec ?_;refine⟨by kernel_rfl,?_⟩;exact⟨.tup [],[(0,.cells 59 [.ptr 0 0,.v (.slice none 0 0)])],1,[(0,0)],⟨⟨⟨rfl,rfl⟩,trivial⟩,⟨⟨⟨rfl,rfl⟩,rfl,trivial⟩,trivial⟩⟩,hK⟩
 ·cases h
theorem check_used {b:List UInt8} {H:Hp} {K:SV→St→Hp→Prop} (hK:K (.tup []) ⟨[],bld b,2⟩ H):DoesG Tryd.prog 49 [.ptr 0 0] (bld b) 2 H K:=by
 refine spec_ofG cx_ok cx_mix Tryd.func49 Tryd.call49 Tryd.ntmps49 Tryd.results49 rfl rfl ?_;refine⟨fun h=>?_,fun h=>?_⟩
 ·cases h
 ·refine⟨fun h=>?_,fun h=>?_⟩
  ·cases h
  ·exact⟨.tup [],bld b,2,[(0,0),(1,1)],⟨⟨⟨rfl,rfl⟩,trivial⟩,⟨⟨⟨rfl,rfl⟩,rfl,trivial⟩,rfl,trivial⟩⟩,hK⟩
theorem write_used {b t:List UInt8} (hl:b.length+t.length≤140737488355328) {H:Hp} {K:SV→St→Hp→Prop} (hK:K (.tup [.v (.int .i64 t.length),.v .nilIface]) ⟨[],bld2 (b++t),3⟩ H):DoesG Tryd.prog 29 [.ptr 0 0,.v (.string (bs t))] (bld b) 2 H K:=by
 refine spec_ofG cx_ok cx_mix Tryd.func29 Tryd.call29 Tryd.ntmps29 Tryd.results29 rfl rfl ?_;refine⟨[0,1],rfl,?_⟩;refine check_used ?_;have erow:byteRows b++byteRows t=byteRows (b++t):=(List.map_append ..).symm;refine⟨rfl,by rw[byte_rows_len];exact hl,?_⟩;refine⟨.tup [.v (.int .i64 t.length),.v .nilIface],bld2 (b++t),3,[(0,0),(1,1),(2,2)],⟨⟨⟨rfl,rfl⟩,trivial⟩,⟨⟨⟨rfl,rfl⟩,rfl,trivial⟩,trivial,erow,trivial⟩⟩,hK⟩
theorem write_fresh {t:List UInt8} (hl:t.length≤140737488355328) {H:Hp} {K:SV→St→Hp→Prop} (hK:K (.tup [.v (.int .i64 t.length),.v .nilIface]) ⟨[],bld t,2⟩ H):DoesG Tryd.prog 29 [.ptr 0 0,.v (.string (bs t))] bld0 1 H K:=by
 refine spec_ofG cx_ok cx_mix Tryd.func29 Tryd.call29 Tryd.ntmps29 Tryd.results29 rfl rfl ?_;refine⟨[0],rfl,?_⟩;refine check_fresh ?_;refine⟨rfl,hl,?_⟩;refine⟨.tup [.v (.int .i64 t.length),.v .nilIface],bld t,2,[(0,0),(1,1)],⟨⟨⟨rfl,rfl⟩,trivial⟩,⟨⟨⟨rfl,rfl⟩,rfl,trivial⟩,rfl,trivial⟩⟩,hK⟩
theorem string_spec {b:List UInt8} {H:Hp} {K:SV→St→Hp→Prop} (hK:K (.v (.string (bs b))) ⟨[],[(0,.dead),(1,.dead)],2⟩ H):DoesG Tryd.prog 31 [.ptr 0 0] (bld b) 2 H K:=by
 refine spec_ofG cx_ok cx_mix Tryd.func31 Tryd.call31 Tryd.ntmps31 Tryd.results31 rfl rfl ?_;have hbl:=byte_rows_len b;refine⟨some ([1],[0,1,2,3,5,6,7,8,9,4,10,11]),by kernel_rfl,?_⟩;refine⟨fun hne=>?_,fun he p=>?_⟩
 ·refine⟨by kernel_rfl,by kernel_rfl,b,rfl,fun h=>hne (by rw[h];rfl),by rw[hbl],?_⟩;exact⟨.v (.string (bs b)),[(0,.dead),(1,.dead)],2,[(0,0),(1,1)],⟨⟨rfl,trivial⟩,⟨trivial,trivial,trivial⟩⟩,hK⟩
 ·have hb:b=[]:=by cases b with
   | nil=>rfl
   | cons x r=>cases he
  subst hb;refine⟨rfl,?_⟩;exact⟨.v (.string (bs [])),[(0,.dead),(1,.dead)],2,[(0,0),(1,1)],⟨⟨rfl,trivial⟩,⟨trivial,trivial,trivial⟩⟩,hK⟩
end Go.Proofs
end
section
namespace Go.Proofs
open Go.Sy
set_option maxRecDepth 20000
abbrev bld3 (b:List UInt8):List (Nat×Bx):=[(0,.cells 59 [.ptr 0 0,.own 2]),(2,.row 5 1 (byteRows b))]
def lns (head:List UInt8):List Str→List UInt8
 | []=>[]
 | s::r=>head++s.l++[10]++lns head r
theorem lns_append (head:List UInt8):∀l r,lns head (l++r)=lns head l++lns head r
 | [],r=>rfl
 | s::l,r=>by rw[List.cons_append,lns,lns,lns_append head l r];simp
theorem lns_step (head:List UInt8) {l:List Str} {i:Nat} {x:Str} (h:l[i]?=some x):lns head (l.take (i+1))=lns head (l.take i)++(head++x.l++[10]):=by
 rw[List.take_add_one,h,lns_append];simp [lns]
theorem lns_le (head:List UInt8) (l:List Str) (i:Nat):(lns head (l.take i)).length≤(lns head l).length:=by
 have:=lns_append head (l.take i) (l.drop i);rw[List.take_append_drop]at this
 rw[this,List.length_append];omega
theorem put_used {head b:List UInt8} {l:List Str} {a1:Option Addr} {n1 c1:Nat} {H:Hp} {K:SV→St→Hp→Prop} (ha:RL H a1 n1 c1 l) (hl:b.length+(lns head l).length≤140737488355328)
  (hK:K (.tup []) ⟨[],bld3 (b++lns head l),3⟩ H):DoesG Tryd.prog 28 [.v (.string (bs head)),.v (.slice a1 n1 c1),.ptr 0 0] (bld b) 2 H K:=by
 have hn1:=ha.n_eq;have hmx:=ha.le
 have e0:byteRows b=byteRows (b++lns head (l.take 0)):=by simp [lns]
 refine spec_ofG cx_ok cx_mix Tryd.func28 Tryd.call28 Tryd.ntmps28 Tryd.results28 rfl rfl ?_;refine⟨Nat,fun i=>⟨[(0,.v (.string (bs head))),(2,.ptr 0 0),(7,.v (.slice a1 n1 c1)),(8,.v (.int .i64 n1)),(9,.v (.int .i64 i))],bld3 (b++lns head (l.take i)),3⟩,fun i H'=>H'=H∧i≤l.length,fun i=>l.length - i,⟨0,[(0,0),(2,1)],?_,rfl,by omega⟩,?_⟩
 ·exact⟨⟨rfl,⟨rfl,rfl⟩,rfl,rfl,rfl,trivial⟩,⟨⟨⟨rfl,rfl⟩,rfl,trivial⟩,e0,trivial⟩⟩
 rintro i H1 _ ⟨rfl,hi⟩;refine⟨fun h=>?_,fun h=>?_⟩
 ·have hlt:i<l.length:=by have:=dt h;omega
  have hx:=List.getElem?_eq_getElem hlt;have hel:=ha.elem hx;obtain⟨ad,cs,e1,hh,r1⟩:=hel;rw[str_open' r1]at hh;have hst:=lns_step head hx;have hle:=lns_le head l (i+1);rw[hst]at hle;simp only[List.length_append,List.length_singleton]at hle;have hb1:(sl (bs head)).length=head.length:=rfl;have hb2:(sl (bs (l[i]).l)).length=(l[i]).l.length:=rfl;refine⟨ad,⟨by omega,by omega,e1⟩,?_⟩;refine⟨_,hh,?_⟩;refine⟨by omega,?_⟩;refine⟨by show (head++(l[i]).l).length+1≤_;rw[List.length_append];omega,?_⟩;refine⟨[0,2],rfl,?_⟩;refine write_used (b:=b++lns head (l.take i)) (t:=head++(l[i]).l++[10]) (by simp only[List.length_append,List.length_singleton];omega) ?_
  have e9:byteRows (b++lns head (l.take i)++(head++(l[i]).l++[10]))=byteRows (b++lns head (l.take (i+1))):=by rw[hst,List.append_assoc]
  refine⟨⟨by omega,by omega⟩,i+1,[(0,0),(2,3)],?_,⟨rfl,by omega⟩,by dsimp only;omega⟩;exact⟨⟨rfl,⟨rfl,rfl⟩,rfl,rfl,rfl,trivial⟩,⟨⟨⟨rfl,rfl⟩,rfl,trivial⟩,e9,trivial⟩⟩
 ·have hil:i=l.length:=by have:=df h;omega
  have e9:byteRows (b++lns head (l.take i))=byteRows (b++lns head l):=by rw[hil,List.take_length]
  exact⟨.tup [],bld3 (b++lns head l),3,[(0,0),(2,2)],⟨⟨⟨rfl,rfl⟩,trivial⟩,⟨⟨⟨rfl,rfl⟩,rfl,trivial⟩,e9,trivial⟩⟩,hK⟩
theorem put_fresh {head:List UInt8} {x:Str} {a1:Option Addr} {n1 c1:Nat} {H:Hp} {K:SV→St→Hp→Prop} (ha:RL H a1 n1 c1 [x]) (hl:(head++x.l++[10]).length≤140737488355328)
  (hK:K (.tup []) ⟨[],bld (head++x.l++[10]),2⟩ H):DoesG Tryd.prog 28 [.v (.string (bs head)),.v (.slice a1 n1 c1),.ptr 0 0] bld0 1 H K:=by
 have hn1:n1=1:=ha.n_eq;have hmx:=ha.le;have hl':=hl;simp only[List.length_append,List.length_singleton]at hl';refine spec_ofG cx_ok cx_mix Tryd.func28 Tryd.call28 Tryd.ntmps28 Tryd.results28 rfl rfl ?_;refine⟨Bool,fun d=>⟨[(0,.v (.string (bs head))),(2,.ptr 0 0),(7,.v (.slice a1 n1 c1)),(8,.v (.int .i64 n1)),(9,.v (.int .i64 (match d with | false=>0 | true=>1)))],(match d with | false=>bld0 | true=>bld (head++x.l++[10])),(match d with | false=>1 | true=>2)⟩,fun d H'=>H'=H,fun d=>(match d with | false=>1 | true=>0),⟨false,[(0,0)],?_,rfl⟩,?_⟩
 ·exact⟨⟨rfl,⟨rfl,rfl⟩,rfl,rfl,rfl,trivial⟩,⟨⟨rfl,rfl,trivial⟩,trivial⟩⟩
 rintro d H1 _ rfl
 cases d with
 | false =>
  refine⟨fun h=>?_,fun h=>?_⟩
  ·have hel:=ha.elem (i:=0) (x:=x) rfl;obtain⟨ad,cs,e1,hh,r1⟩:=hel;rw[str_open' r1]at hh;have hb1:(sl (bs head)).length=head.length:=rfl;have hb2:(sl (bs x.l)).length=x.l.length:=rfl;refine⟨ad,⟨by show (0:Int)≤0;omega,by show (0:Int)<(n1:Int);omega,e1⟩,?_⟩;refine⟨_,hh,?_⟩;refine⟨by omega,?_⟩;refine⟨by show (head++x.l).length+1≤_;rw[List.length_append];omega,?_⟩;refine⟨[0],rfl,?_⟩;refine write_fresh (t:=head++x.l++[10]) hl ?_;refine⟨⟨by show (-9223372036854775808:Int)≤0+1;omega,by show (0:Int)+1≤9223372036854775807;omega⟩,true,[(0,0),(1,1)],?_,rfl,by show 0<1;omega⟩;exact⟨⟨rfl,⟨rfl,rfl⟩,rfl,rfl,rfl,trivial⟩,⟨⟨⟨rfl,rfl⟩,rfl,trivial⟩,rfl,trivial⟩⟩
  ·have h':decide ((0:Int)<(n1:Int))=false:=h
   have:=df h';omega
 | true =>
  refine⟨fun h=>?_,fun h=>?_⟩
  ·have h':decide ((1:Int)<(n1:Int))=true:=h
   have:=dt h';omega
  ·exact⟨.tup [],bld (head++x.l++[10]),2,[(0,0),(1,1)],⟨⟨⟨rfl,rfl⟩,trivial⟩,⟨⟨⟨rfl,rfl⟩,rfl,trivial⟩,rfl,trivial⟩⟩,hK⟩
end Go.Proofs
end
section
namespace Go.Proofs
open Go.Sy
set_option maxRecDepth 20000
def repH:List UInt8:=[114,101,112,111,114,116,32]
def blkH:List UInt8:=[98,108,111,99,107,32]
def inH:List UInt8:=[105,110,32]
def outH:List UInt8:=[111,117,116,32]
def endL:List UInt8:=[101,110,100,10]
def rowT (x:Row):List UInt8:=blkH++x.1.l++[10]++lns inH x.2.1++lns outH x.2.2
def rowsT:List Row→List UInt8
 | []=>[]
 | x::r=>rowT x++rowsT r
def headT (r:Report):List UInt8:=repH++nameOf r.1++[10]
def textT (r:Report):List UInt8:=headT r++rowsT r.2++endL
theorem rowsT_append:∀l r,rowsT (l++r)=rowsT l++rowsT r
 | [],r=>rfl
 | s::l,r=>by rw[List.cons_append,rowsT,rowsT,rowsT_append l r,List.append_assoc]
theorem rowsT_step {l:List Row} {i:Nat} {x:Row} (h:l[i]?=some x):rowsT (l.take (i+1))=rowsT (l.take i)++rowT x:=by
 rw[List.take_add_one,h,rowsT_append];simp [rowsT]
theorem rowsT_le (l:List Row) (i:Nat):(rowsT (l.take i)).length≤(rowsT l).length:=by
 have:=rowsT_append (l.take i) (l.drop i);rw[List.take_append_drop]at this
 rw[this,List.length_append];omega
theorem nameOf_len (k:Int):(nameOf k).length≤5:=by
 unfold nameOf;split
 ·decide
 ·split
  ·decide
  ·split
   ·decide
   ·split<;>decide
theorem headT_len (r:Report):(headT r).length≤13:=by
 have:=nameOf_len r.1;have e:repH.length=7:=rfl;simp only[headT,List.length_append,List.length_singleton,e];omega
def preB (r:Report) (i:Nat) (x:Row):List UInt8:=headT r++rowsT (r.2.take i)++(blkH++x.1.l++[10])
def preI (r:Report) (i:Nat) (x:Row):List UInt8:=preB r i x++lns inH x.2.1
theorem reftext_spec {r:Report} {H:Hp} {cs:List Value} {K:Value→Hp→Prop} (ha:Enc.R H cs r) (hs:(rowsT r.2).length≤20000) (hK:K (.string (bs (textT r))) H):Does Tryd.prog 25 [.agg cs.toArray] H K:=by
 obtain⟨a1,n1,c1,rfl,hl,h1⟩:=rep_open ha;have hn1:=h1.n_eq;have hmx:=h1.le;have hnl:=nameOf_len r.1;have hhl:=headT_len r;have hsn:(sl (bs (nameOf r.1))).length=(nameOf r.1).length:=rfl;refine spec_of cx_ok cx_mix rfl Tryd.func25 Tryd.call25 Tryd.ntmps25 Tryd.results25 rfl rfl ?_;refine refname_spec ?_;refine⟨by show 7+(sl (bs (nameOf r.1))).length≤_;omega,?_⟩;refine⟨by show (repH++nameOf r.1).length+1≤_;rw[List.length_append];have e:repH.length=7:=rfl;omega,?_⟩;refine⟨Nat,fun i=>⟨[(3,.v (.string (bs (headT r++rowsT (r.2.take i))))),(16,.v (.slice a1 n1 c1)),(17,.v (.int .i64 n1)),(18,.v (.int .i64 i))],[],0⟩,fun i H'=>H'=H∧i≤r.2.length,fun i=>r.2.length - i,⟨0,[],?_,rfl,by omega⟩,?_⟩
 ·have e3:SV.v (.string (bs (headT r)))=SV.v (.string (bs (headT r++rowsT (r.2.take 0)))):=by rw[List.take_zero,rowsT,List.append_nil]
  exact⟨⟨e3,rfl,rfl,rfl,trivial⟩,trivial⟩
 rintro i H1 _ ⟨rfl,hi⟩;have hle1:=rowsT_le r.2 i;refine⟨fun h=>?_,fun h=>?_⟩
 ·have hlt:i<r.2.length:=by have:=dt h;omega
  have hx:=List.getElem?_eq_getElem hlt;have hst:=rowsT_step hx;have hle2:=rowsT_le r.2 (i+1);rw[hst]at hle2
  have hrt:(rowT r.2[i]).length=6+r.2[i].1.l.length+1+(lns inH r.2[i].2.1).length+(lns outH r.2[i].2.2).length:=by
   rw[rowT];simp only[List.length_append,List.length_singleton];rfl
  rw[List.length_append]at hle2;have hel:=h1.elem hx;obtain⟨ad,cs,e1,hh,r1⟩:=hel;obtain⟨b1,m1,d1,b2,m2,d2,ecs,hsl,p1,p2⟩:=row_open r1;rw[ecs]at hh;have q1:=p1.n_eq;have q2:=p2.n_eq;have z1:=p1.le;have z2:=p2.le;have hb:(sl (bs r.2[i].1.l)).length=r.2[i].1.l.length:=rfl;have hS:(sl (bs (headT r++rowsT (r.2.take i)))).length=(headT r).length+(rowsT (r.2.take i)).length:=List.length_append;refine⟨ad,⟨by omega,by omega,e1⟩,?_⟩;refine⟨_,hh,?_⟩;refine⟨by show 6+(sl (bs r.2[i].1.l)).length≤_;omega,?_⟩;refine⟨by show (blkH++r.2[i].1.l).length+1≤_;rw[List.length_append];have e:blkH.length=6:=rfl;omega,?_⟩;refine⟨by show (sl (bs (headT r++rowsT (r.2.take i)))).length+(blkH++r.2[i].1.l++[10]).length≤_;rw[List.length_append,List.length_append];have e:blkH.length=6:=rfl;simp only[List.length_singleton];omega,?_⟩;have hSd:(preB r i r.2[i])=headT r++rowsT (r.2.take i)++(blkH++r.2[i].1.l++[10]):=rfl
  have hSl:(preB r i r.2[i]).length=(headT r).length+(rowsT (r.2.take i)).length+(6+r.2[i].1.l.length+1):=by
   rw[hSd];simp only[List.length_append,List.length_singleton];rfl
  have e3:SV.v (.string (bs (headT r++rowsT (r.2.take i)++(blkH++r.2[i].1.l++[10]))))=SV.v (.string (bs ((preB r i r.2[i])++lns inH (r.2[i].2.1.take 0)))):=by rw[List.take_zero,lns,List.append_nil,hSd]
  refine⟨Nat,fun j=>⟨[(3,.v (.string (bs ((preB r i r.2[i])++lns inH (r.2[i].2.1.take j))))),(5,.ptr 0 0),(16,.v (.slice a1 n1 c1)),(17,.v (.int .i64 n1)),(18,.v (.int .i64 i)),(29,.v (.slice b1 m1 d1)),(30,.v (.int .i64 m1)),(31,.v (.int .i64 j))],[(0,.cells 44 [.v (.string (bs r.2[i].1.l)),.v (.slice b1 m1 d1),.v (.slice b2 m2 d2)])],1⟩,fun j H'=>H'=H1∧j≤r.2[i].2.1.length,fun j=>r.2[i].2.1.length - j,⟨0,[(0,0)],?_,rfl,by omega⟩,?_⟩
  ·exact⟨⟨e3,⟨rfl,rfl⟩,rfl,rfl,rfl,rfl,rfl,rfl,trivial⟩,⟨⟨rfl,rfl,rfl,trivial⟩,trivial⟩⟩
  rintro j H2 _ ⟨rfl,hj⟩;have hlj:=lns_le inH r.2[i].2.1 j;have hSj:(sl (bs ((preB r i r.2[i])++lns inH (r.2[i].2.1.take j)))).length=(preB r i r.2[i]).length+(lns inH (r.2[i].2.1.take j)).length:=List.length_append;refine⟨fun h=>?_,fun h=>?_⟩
  ·have hjl:j<r.2[i].2.1.length:=by have:=dt h;omega
   have hxj:=List.getElem?_eq_getElem hjl;have hst2:=lns_step inH hxj;have hlj2:=lns_le inH r.2[i].2.1 (j+1);rw[hst2]at hlj2
   have hin:(inH++(r.2[i].2.1[j]).l++[10]).length=3+(r.2[i].2.1[j]).l.length+1:=by simp only[List.length_append,List.length_singleton];rfl
   rw[List.length_append,hin]at hlj2;have hel2:=p1.elem hxj;obtain⟨ad2,cs2,e12,hh2,r12⟩:=hel2;rw[str_open' r12]at hh2;have hb2:(sl (bs (r.2[i].2.1[j]).l)).length=(r.2[i].2.1[j]).l.length:=rfl;refine⟨ad2,⟨by omega,by omega,e12⟩,?_⟩;refine⟨_,hh2,?_⟩;refine⟨by show 3+(sl (bs (r.2[i].2.1[j]).l)).length≤_;omega,?_⟩;refine⟨by show (inH++(r.2[i].2.1[j]).l).length+1≤_;rw[List.length_append];have e:inH.length=3:=rfl;omega,?_⟩;refine⟨by show (sl (bs ((preB r i r.2[i])++lns inH (r.2[i].2.1.take j)))).length+(inH++(r.2[i].2.1[j]).l++[10]).length≤_;omega,?_⟩
   have e4:SV.v (.string (bs ((preB r i r.2[i])++lns inH (r.2[i].2.1.take j)++(inH++(r.2[i].2.1[j]).l++[10]))))=SV.v (.string (bs ((preB r i r.2[i])++lns inH (r.2[i].2.1.take (j+1))))):=by rw[hst2,List.append_assoc]
   refine⟨⟨by omega,by omega⟩,j+1,[(0,0)],?_,⟨rfl,by omega⟩,by dsimp only;omega⟩;exact⟨⟨e4,⟨rfl,rfl⟩,rfl,rfl,rfl,rfl,rfl,rfl,trivial⟩,⟨⟨rfl,rfl,rfl,trivial⟩,trivial⟩⟩
  ·have hjl:j=r.2[i].2.1.length:=by have:=df h;omega
   have hU:(preI r i r.2[i])=(preB r i r.2[i])++lns inH r.2[i].2.1:=rfl
   have hUl:(preI r i r.2[i]).length=(preB r i r.2[i]).length+(lns inH r.2[i].2.1).length:=by rw[hU,List.length_append]
   have e5:SV.v (.string (bs ((preB r i r.2[i])++lns inH (r.2[i].2.1.take j))))=SV.v (.string (bs ((preI r i r.2[i])++lns outH (r.2[i].2.2.take 0)))):=by rw[hjl,List.take_length,List.take_zero,lns,List.append_nil,hU]
   refine⟨Nat,fun k=>⟨[(3,.v (.string (bs ((preI r i r.2[i])++lns outH (r.2[i].2.2.take k))))),(16,.v (.slice a1 n1 c1)),(17,.v (.int .i64 n1)),(18,.v (.int .i64 i)),(42,.v (.slice b2 m2 d2)),(43,.v (.int .i64 m2)),(44,.v (.int .i64 k))],[],0⟩,fun k H'=>H'=H2∧k≤r.2[i].2.2.length,fun k=>r.2[i].2.2.length - k,⟨0,[],?_,rfl,by omega⟩,?_⟩
   ·exact⟨⟨e5,rfl,rfl,rfl,rfl,rfl,rfl,trivial⟩,trivial⟩
   rintro k H3 _ ⟨rfl,hk⟩;have hlk:=lns_le outH r.2[i].2.2 k;have hUk:(sl (bs ((preI r i r.2[i])++lns outH (r.2[i].2.2.take k)))).length=(preI r i r.2[i]).length+(lns outH (r.2[i].2.2.take k)).length:=List.length_append;refine⟨fun h=>?_,fun h=>?_⟩
   ·have hkl:k<r.2[i].2.2.length:=by have:=dt h;omega
    have hxk:=List.getElem?_eq_getElem hkl;have hst3:=lns_step outH hxk;have hlk2:=lns_le outH r.2[i].2.2 (k+1);rw[hst3]at hlk2
    have hin:(outH++(r.2[i].2.2[k]).l++[10]).length=4+(r.2[i].2.2[k]).l.length+1:=by simp only[List.length_append,List.length_singleton];rfl
    rw[List.length_append,hin]at hlk2;have hel3:=p2.elem hxk;obtain⟨ad3,cs3,e13,hh3,r13⟩:=hel3;rw[str_open' r13]at hh3;have hb3:(sl (bs (r.2[i].2.2[k]).l)).length=(r.2[i].2.2[k]).l.length:=rfl;refine⟨ad3,⟨by omega,by omega,e13⟩,?_⟩;refine⟨_,hh3,?_⟩;refine⟨by show 4+(sl (bs (r.2[i].2.2[k]).l)).length≤_;omega,?_⟩;refine⟨by show (outH++(r.2[i].2.2[k]).l).length+1≤_;rw[List.length_append];have e:outH.length=4:=rfl;omega,?_⟩;refine⟨by show (sl (bs ((preI r i r.2[i])++lns outH (r.2[i].2.2.take k)))).length+(outH++(r.2[i].2.2[k]).l++[10]).length≤_;omega,?_⟩
    have e4:SV.v (.string (bs ((preI r i r.2[i])++lns outH (r.2[i].2.2.take k)++(outH++(r.2[i].2.2[k]).l++[10]))))=SV.v (.string (bs ((preI r i r.2[i])++lns outH (r.2[i].2.2.take (k+1))))):=by rw[hst3,List.append_assoc]
    refine⟨⟨by omega,by omega⟩,k+1,[],?_,⟨rfl,by omega⟩,by dsimp only;omega⟩;exact⟨⟨e4,rfl,rfl,rfl,rfl,rfl,rfl,trivial⟩,trivial⟩
   ·have hkl:k=r.2[i].2.2.length:=by have:=df h;omega
    have e6:SV.v (.string (bs ((preI r i r.2[i])++lns outH (r.2[i].2.2.take k))))=SV.v (.string (bs (headT r++rowsT (r.2.take (i+1))))):=by rw[hkl,List.take_length,hst,hU,hSd,rowT];simp only[List.append_assoc]
    refine⟨⟨by omega,by omega⟩,i+1,[],?_,⟨rfl,by omega⟩,by dsimp only;omega⟩;exact⟨⟨e6,rfl,rfl,rfl,trivial⟩,trivial⟩
 ·have hil:i=r.2.length:=by have:=df h;omega
  have hS:(sl (bs (headT r++rowsT (r.2.take i)))).length=(headT r).length+(rowsT (r.2.take i)).length:=List.length_append;refine⟨by show (sl (bs (headT r++rowsT (r.2.take i)))).length+4≤_;omega,?_⟩
  have e7:textT r=headT r++rowsT (r.2.take i)++endL:=by rw[hil,List.take_length,textT]
  rw[e7]at hK;exact hK
end Go.Proofs
end
section
namespace Go.Proofs
open Go.Sy
set_option maxRecDepth 20000
def elem (l:List Str) (i:Nat):List UInt8:=(l.getD i ⟨[]⟩).l
end Go.Proofs
end
section
namespace Go.Proofs
open Go.Sy
set_option maxRecDepth 20000
def strC (s:Str):List Value:=[.string (bs s.l)]
theorem rc_strs {l:List Str} {H:Hp} (h:∀s∈l,s.l.length≤9223372036854775807):RC H (l.map strC) l:=by
 refine⟨by simp,fun i cs x h1 h2=>?_⟩;rw[List.getElem?_map,h2]at h1;simp only[Option.map_some,Option.some.injEq]at h1;subst h1;exact⟨rfl,h x (List.mem_of_getElem? h2)⟩
end Go.Proofs
end
section
namespace Go.Proofs
open Go.Sy
set_option maxRecDepth 20000
theorem one_str {x:Value} {s:List UInt8} {H:Hp} (hs:s.length≤9223372036854775807) (h:RowAt H x 1 [[.string (bs s)]]):∃a n c,x = .slice a n c∧RL H a n c [(⟨s⟩:Str)] :=
 RL.of_row (α:=Str) h (RC.nil.snoc (cs:=[.string (bs s)]) (x:=(⟨s⟩:Str)) ⟨rfl,hs⟩)
def endH:List UInt8:=[101,110,100]
theorem text_spec {r:Report} {H:Hp} {cs:List Value} {K:Value→Hp→Prop} (ha:Enc.R H cs r) (hs:(rowsT r.2).length≤20000)
  (hK:∀H',Le H H'→K (.tuple #[.string (bs (if rightB r=true then textT r else [])),.int .i64 (if rightB r=true then 0 else 12)]) H'):Does Tryd.prog 11 [.agg cs.toArray] H K:=by
 have ha0:=ha;obtain⟨a1,n1,c1,rfl,hl,h1⟩:=rep_open ha;have hn1:=h1.n_eq;have hmx:=h1.le;have hnl:=nameOf_len r.1;have hhl:=headT_len r;refine spec_of cx_ok cx_mix rfl Tryd.func11 Tryd.call11 Tryd.ntmps11 Tryd.results11 rfl rfl ?_;refine right_spec ha0 ?_;refine⟨fun h=>?_,fun h=>?_⟩
 ·have hrb:rightB r=false:=by simpa using h
  have h9:=hK H (Le.refl H);rw[hrb]at h9;exact h9
 ·have hrb:rightB r=true:=by simpa using h
  refine name_spec ?_;refine⟨[1],rfl,?_⟩;intro x H1 hle1 hx;obtain⟨a2,n2,c2,ex,hr2⟩:=one_str (s:=nameOf r.1) (by omega) hx;subst ex;refine put_fresh (head:=repH) hr2 (by simp only[List.length_append,List.length_singleton];have e:repH.length=7:=rfl;omega) ?_;refine⟨Nat,fun i=>⟨[(4,.ptr 1 0),(5,.fn 28 [.ptr 1 0]),(19,.v (.slice a1 n1 c1)),(20,.v (.int .i64 n1)),(21,.v (.int .i64 i))],[(1,.cells 59 [.ptr 1 0,.own 2]),(2,.row 5 1 (byteRows (headT r++rowsT (r.2.take i))))],3⟩,fun i H'=>Le H H'∧i≤r.2.length,fun i=>r.2.length - i,⟨0,[(1,1),(2,3)],?_,hle1,by omega⟩,?_⟩
  ·have e0:byteRows (repH++nameOf r.1++[10])=byteRows (headT r++rowsT (r.2.take 0)):=by rw[List.take_zero,rowsT,List.append_nil,headT]
   exact⟨⟨⟨rfl,rfl⟩,⟨rfl,rfl⟩,rfl,rfl,rfl,trivial⟩,⟨⟨⟨rfl,rfl⟩,rfl,trivial⟩,e0,trivial⟩⟩
  rintro i H2 _ ⟨hle,hi⟩;have hle1':=rowsT_le r.2 i;refine⟨fun h=>?_,fun h=>?_⟩
  ·have hlt:i<r.2.length:=by have:=dt h;omega
   have hx:=List.getElem?_eq_getElem hlt;have hst:=rowsT_step hx;have hle2:=rowsT_le r.2 (i+1);rw[hst,List.length_append]at hle2
   have hrt:(rowT r.2[i]).length=6+r.2[i].1.l.length+1+(lns inH r.2[i].2.1).length+(lns outH r.2[i].2.2).length:=by
    rw[rowT];simp only[List.length_append,List.length_singleton];rfl
   have hq:=h1.up hle;have hel:=hq.elem hx;obtain⟨ad,cs,e1,hh,r1⟩:=hel;obtain⟨b1,m1,d1,b2,m2,d2,ecs,hsl,p1,p2⟩:=row_open r1;rw[ecs]at hh;refine⟨ad,⟨by omega,by omega,e1⟩,?_⟩;refine⟨_,hh,?_⟩;refine⟨[1,2],rfl,?_⟩;intro x2 H3 hle3 hx2;obtain⟨a3,n3,c3,ex3,hr3⟩:=one_str (s:=r.2[i].1.l) (by omega) hx2;subst ex3
   have hl1:(lns blkH [(⟨r.2[i].1.l⟩:Str)]).length=6+r.2[i].1.l.length+1:=by simp only[lns,List.length_append,List.length_singleton,List.append_nil];rfl
   have hSl:(headT r++rowsT (r.2.take i)).length=(headT r).length+(rowsT (r.2.take i)).length:=List.length_append;refine put_used (head:=blkH) hr3 (by omega) ?_;refine⟨[1,5],rfl,?_⟩;refine put_used (head:=inH) (p1.up hle3) (by rw[List.length_append];omega) ?_;refine⟨[1,6],rfl,?_⟩;refine put_used (head:=outH) (p2.up hle3) (by rw[List.length_append,List.length_append];omega) ?_
   have e9:byteRows (headT r++rowsT (r.2.take i)++lns blkH [(⟨r.2[i].1.l⟩:Str)]++lns inH r.2[i].2.1++lns outH r.2[i].2.2)=byteRows (headT r++rowsT (r.2.take (i+1))):=by
    rw[hst,rowT,lns,lns];simp only[List.append_assoc,List.append_nil]
   refine⟨⟨by omega,by omega⟩,i+1,[(1,1),(2,7)],?_,⟨hle.trans hle3,by omega⟩,by dsimp only;omega⟩;exact⟨⟨⟨rfl,rfl⟩,⟨rfl,rfl⟩,rfl,rfl,rfl,trivial⟩,⟨⟨⟨rfl,rfl⟩,rfl,trivial⟩,e9,trivial⟩⟩
  ·have hil:i=r.2.length:=by have:=df h;omega
   refine⟨[1,2],rfl,?_⟩;intro x2 H3 hle3 hx2;obtain⟨a3,n3,c3,ex3,hr3⟩:=one_str (s:=[]) (by simp) hx2;subst ex3;have hSl:(headT r++rowsT (r.2.take i)).length=(headT r).length+(rowsT (r.2.take i)).length:=List.length_append;refine put_used (head:=endH) hr3 (by have:(lns endH [(⟨[]⟩:Str)]).length=4:=rfl;omega) ?_;refine⟨[1,4],rfl,?_⟩;refine string_spec (b:=headT r++rowsT (r.2.take i)++lns endH [(⟨[]⟩:Str)]) ?_;have h9:=hK H3 (hle.trans hle3)
   have e7:textT r=headT r++rowsT (r.2.take i)++lns endH [(⟨[]⟩:Str)]:=by rw[hil,List.take_length,textT];rfl
   rw[hrb,if_pos rfl,if_pos rfl,e7]at h9;exact h9
end Go.Proofs
end
section
namespace Go.Proofs
open Go.Sy
set_option maxRecDepth 20000
def exR:Report:=(1,[(⟨[97]⟩,[⟨[120]⟩],[])])
theorem ex_right:rightB exR=true:=by decide
theorem ex_text:textT exR=[114,101,112,111,114,116,32,108,105,118,101,10,98,108,111,99,107,32,97,10,105,110,32,120,10,101,110,100,10]:=by decide
theorem awake43 {H:Hp} {K:Value→Hp→Prop} (hK:∀H',Le H H'→K (.bool true) H'):Does Tryd.prog 6 [] H K:=by
 have e1:(if rightB exR=true then (0:Int) else 12)=0:=by rw[ex_right];rfl
 have e2:(if rightB exR=true then textT exR else [])=[114,101,112,111,114,116,32,108,105,118,101,10,98,108,111,99,107,32,97,10,105,110,32,120,10,101,110,100,10]:=by rw[ex_right,if_pos rfl,ex_text]
 refine spec_of cx_ok cx_mix rfl Tryd.func6 Tryd.call6 Tryd.ntmps6 Tryd.results6 rfl rfl ?_;intro x H1 hle1 hx;obtain⟨a2,n2,c2,ex,hr2⟩:=one_str (s:=[120]) (by decide) hx;subst ex;intro x3 H3 hle3 hx3
 have hnil:RL H3 none 0 0 ([]:List Str):=⟨rfl,Nat.le_refl _,by omega,.inl rfl⟩
 have hrow:Enc.R H3 [.string (bs [97]),.slice a2 n2 c2,.slice none 0 0] ((⟨[97]⟩,[⟨[120]⟩],[]):Row) :=
  ⟨[_],[_,_],rfl,⟨rfl,by decide⟩,[_],[_],rfl,⟨a2,n2,c2,rfl,hr2.up hle3⟩,⟨none,0,0,rfl,hnil⟩⟩
 obtain⟨a3,n3,c3,e3,hr3⟩:=RL.of_row (α:=Row) hx3 (RC.nil.snoc hrow);subst e3
 have hrep:Enc.R H3 [.int .i64 1,.slice a3 n3 c3] exR:=⟨[_],[_],rfl,⟨rfl,by decide⟩,⟨a3,n3,c3,rfl,hr3⟩⟩
 refine text_spec hrep (by decide) fun H4 hle4=>?_
 refine⟨fun h=>?_,fun h=>?_⟩
 ·exact kbool (hK _ hle1) (decide_eq_true e2).symm
 ·exact absurd e1 (of_decide_eq_false h)
end Go.Proofs
end
section
namespace Go.Proofs
open Go.Sy
def spl:List UInt8→List Str
 | []=>[⟨[]⟩]
 | c::r=>if c=10 then ⟨[]⟩::spl r else match spl r with
  | []=>[⟨[c]⟩]
  | x::t=>⟨c::x.l⟩::t
theorem spl_ne (s:List UInt8):spl s≠[]:=by
 cases s with
 | nil=>simp [spl]
 | cons c r =>
  rw[spl];split
  ·simp
  ·split<;>simp
theorem spl_line:∀(x r:List UInt8),(∀c∈x,c≠10)→spl (x++10::r)=⟨x⟩::spl r
 | [],r,_=>by rw[List.nil_append,spl,if_pos rfl]
 | c::x,r,h=>by
  have ih:=spl_line x r fun c hc=>h c (List.mem_cons_of_mem _ hc)
  rw[List.cons_append,spl,if_neg (h c (List.mem_cons_self ..)),ih]
theorem spl_free:∀x:List UInt8,(∀c∈x,c≠10)→spl x=[⟨x⟩]
 | [],_=>rfl
 | c::x,h=>by
  have ih:=spl_free x fun c hc=>h c (List.mem_cons_of_mem _ hc)
  rw[spl,if_neg (h c (List.mem_cons_self ..)),ih]
theorem spl_len:∀s:List UInt8,(spl s).length=s.count 10+1
 | []=>rfl
 | c::r=>by
  have ih:=spl_len r;rw[spl]
  by_cases e:c=10
  ·rw[if_pos e,List.length_cons,ih,e,List.count_cons_self]
  ·rw[if_neg e,List.count_cons_of_ne e]
   cases h:spl r with
   | nil=>exact absurd h (spl_ne r)
   | cons x t=>rw[h]at ih;exact ih
theorem spl_flat:∀s:List UInt8,lns [] (spl s)=s++[10]
 | []=>rfl
 | c::r=>by
  have ih:=spl_flat r;rw[spl]
  by_cases e:c=10
  ·rw[if_pos e,lns,ih,e];rfl
  ·rw[if_neg e]
   cases h:spl r with
   | nil=>exact absurd h (spl_ne r)
   | cons x t=>rw[h]at ih;exact congrArg (List.cons c) ih
def cutP:List UInt8→List UInt8→Option (List UInt8)
 | [],x=>some x
 | _::_,[]=>none
 | a::h,b::x=>if a=b then cutP h x else none
theorem cutP_app:∀h x:List UInt8,cutP h (h++x)=some x
 | [],x=>rfl
 | a::h,x=>by rw[List.cons_append,cutP,if_pos rfl,cutP_app h x]
theorem cutP_some:∀ {h x y:List UInt8},cutP h x=some y→x=h++y
 | [],x,y,e=>by cases e;rfl
 | a::h,[],y,e=>by cases e
 | a::h,b::x,y,e=>by
  rw[cutP]at e;split at e
  ·next e1=>rw[e1,List.cons_append,cutP_some e]
  ·cases e
def tkn (h:List UInt8):List Str→List Str×List Str
 | []=>([],[])
 | x::r=>match cutP h x.l with
  | some y=>(⟨y⟩::(tkn h r).1,(tkn h r).2)
  | none=>([],x::r)
theorem tkn_len (h:List UInt8):∀l,(tkn h l).2.length≤l.length
 | []=>Nat.le_refl _
 | x::r=>by
  rw[tkn];split
  ·exact Nat.le_succ_of_le (tkn_len h r)
  ·exact Nat.le_refl _
theorem tkn_flat (h:List UInt8):∀l,lns [] l=lns h (tkn h l).1++lns [] (tkn h l).2
 | []=>rfl
 | x::r=>by
  rw[tkn];split
  ·next y e=>rw[lns,tkn_flat h r,lns,cutP_some e];simp
  ·rfl
theorem tkn_run (h:List UInt8):∀(l:List Str) (r:List Str),(∀x,r.head?=some x→cutP h x.l=none)→tkn h (l.map (fun x=>⟨h++x.l⟩)++r)=(l,r)
 | [],r,hr=>by
  cases r with
  | nil=>rfl
  | cons x r=>rw[List.map_nil,List.nil_append,tkn,hr x rfl]
 | x::l,r,hr=>by
  rw[List.map_cons,List.cons_append,tkn,cutP_app];dsimp only;rw[tkn_run h l r hr]
def rws (l:List Str):List Row×List Str:=match l with
 | []=>([],[])
 | x::r=>match cutP blkH x.l with
  | none=>([],x::r)
  | some y=>(((⟨y⟩,(tkn inH r).1,(tkn outH (tkn inH r).2).1):Row)::(rws (tkn outH (tkn inH r).2).2).1,(rws (tkn outH (tkn inH r).2).2).2)
termination_by l.length
decreasing_by
 all_goals
  have:=tkn_len inH r;have:=tkn_len outH (tkn inH r).2
  simp only[List.length_cons];omega
theorem rws_nil:rws []=([],[]):=by rw[rws]
theorem rws_none {x:Str} {r:List Str} (h:cutP blkH x.l=none):rws (x::r)=([],x::r):=by rw[rws,h]
theorem rws_some {x:Str} {r:List Str} {y:List UInt8} (h:cutP blkH x.l=some y):rws (x::r) =
  (((⟨y⟩,(tkn inH r).1,(tkn outH (tkn inH r).2).1):Row)::(rws (tkn outH (tkn inH r).2).2).1,(rws (tkn outH (tkn inH r).2).2).2):=by rw[rws,h]
theorem rws_flat:∀(n:Nat) (l:List Str),l.length≤n→lns [] l=rowsT (rws l).1++lns [] (rws l).2
 | n,[],_=>by rw[rws_nil];rfl
 | 0,x::r,h=>by simp at h
 | n+1,x::r,h=>by
  cases e:cutP blkH x.l with
  | none=>rw[rws_none e];rfl
  | some y =>
   have h1:=tkn_len inH r;have h2:=tkn_len outH (tkn inH r).2;have ih:=rws_flat n (tkn outH (tkn inH r).2).2 (by simp only[List.length_cons]at h;omega);rw[rws_some e,lns,tkn_flat inH r,tkn_flat outH (tkn inH r).2,ih,rowsT,rowT,cutP_some e];simp
def prs (s:List UInt8):Report:=match spl s with
 | []=>(0,[])
 | x::r=>(kindOf ((cutP repH x.l).getD x.l),(rws r).1)
theorem prs_len (s:List UInt8):(rowsT (prs s).2).length≤s.length+1:=by
 have h:=spl_flat s;rw[prs];split
 ·simp [rowsT]
 ·next x r e =>
  rw[e,lns]at h;have h1:=rws_flat r.length r (Nat.le_refl _);have h2:=congrArg List.length h;rw[h1]at h2;simp at h2 ⊢;omega
def rowL (x:Row):List Str:=⟨blkH++x.1.l⟩::(x.2.1.map (fun w=>⟨inH++w.l⟩)++x.2.2.map (fun w=>⟨outH++w.l⟩))
def rowsL:List Row→List Str
 | []=>[]
 | x::l=>rowL x++rowsL l
def free (s:List UInt8):Prop:=∀c∈s,c≠10
def freeR (x:Row):Prop:=free x.1.l∧(∀w∈x.2.1,free w.l)∧∀w∈x.2.2,free w.l
theorem spl_lns (h:List UInt8) (hh:free h):∀(l:List Str) (r:List UInt8),(∀w∈l,free w.l)→spl (lns h l++r)=l.map (fun w=>⟨h++w.l⟩)++spl r
 | [],r,_=>rfl
 | x::l,r,hl=>by
  have ih:=spl_lns h hh l r fun w hw=>hl w (List.mem_cons_of_mem _ hw)
  have e:lns h (x::l)++r=(h++x.l)++10::(lns h l++r):=by rw[lns];simp
  rw[e,spl_line _ _ (fun c hc=>by
   rcases List.mem_append.1 hc with hc | hc
   ·exact hh c hc
   ·exact hl x (List.mem_cons_self ..) c hc),ih]
  rfl
theorem spl_rows:∀(l:List Row) (r:List UInt8),(∀x∈l,freeR x)→spl (rowsT l++r)=rowsL l++spl r
 | [],r,_=>rfl
 | x::l,r,hl=>by
  obtain⟨h1,h2,h3⟩:=hl x (List.mem_cons_self ..)
  have ih:=spl_rows l r fun w hw=>hl w (List.mem_cons_of_mem _ hw)
  have e:rowsT (x::l)++r=(blkH++x.1.l)++10::(lns inH x.2.1++(lns outH x.2.2++(rowsT l++r))):=by rw[rowsT,rowT];simp
  rw[e,spl_line _ _ (fun c hc=>by
   rcases List.mem_append.1 hc with hc | hc
   ·exact (by decide:∀c∈blkH,c≠10) c hc
   ·exact h1 c hc),spl_lns inH (by unfold free;decide) _ _ h2,spl_lns outH (by unfold free;decide) _ _ h3,ih,rowsL,rowL]
  simp
theorem spl_text {r:Report} (hn:free (nameOf r.1)) (h:∀x∈r.2,freeR x):spl (textT r)=⟨repH++nameOf r.1⟩::(rowsL r.2++[⟨[101,110,100]⟩,⟨[]⟩]):=by
 have e:textT r=(repH++nameOf r.1)++10::(rowsT r.2++endL):=by rw[textT,headT];simp
 rw[e,spl_line _ _ (fun c hc=>by
  rcases List.mem_append.1 hc with hc | hc
  ·exact (by decide:∀c∈repH,c≠10) c hc
  ·exact hn c hc),spl_rows _ _ h]
 rfl
theorem stop_rows (w:List UInt8) (hw:∀x:List UInt8,cutP w (blkH++x)=none) (he:cutP w [101,110,100]=none) (l:List Row) (x:Str)
  (h:(rowsL l++[⟨[101,110,100]⟩,⟨[]⟩]:List Str).head?=some x):cutP w x.l=none:=by
 cases l with
 | nil=>cases h;exact he
 | cons y l=>cases h;exact hw _
theorem rws_rows:∀l:List Row,rws (rowsL l++[⟨[101,110,100]⟩,⟨[]⟩])=(l,[⟨[101,110,100]⟩,⟨[]⟩])
 | []=>rws_none (by decide)
 | x::l=>by
  have e:rowsL (x::l)++[⟨[101,110,100]⟩,⟨[]⟩]=⟨blkH++x.1.l⟩::(x.2.1.map (fun w=>(⟨inH++w.l⟩:Str))++(x.2.2.map (fun w=>(⟨outH++w.l⟩:Str))++(rowsL l++[⟨[101,110,100]⟩,⟨[]⟩]))):=by
   rw[rowsL,rowL];simp
  have h2:tkn outH (x.2.2.map (fun w=>(⟨outH++w.l⟩:Str))++(rowsL l++[⟨[101,110,100]⟩,⟨[]⟩]))=(x.2.2,rowsL l++[⟨[101,110,100]⟩,⟨[]⟩]) :=
   tkn_run outH _ _ (stop_rows outH (fun x=>rfl) rfl l)
  have h1:tkn inH (x.2.1.map (fun w=>(⟨inH++w.l⟩:Str))++(x.2.2.map (fun w=>(⟨outH++w.l⟩:Str))++(rowsL l++[⟨[101,110,100]⟩,⟨[]⟩])))=(x.2.1,x.2.2.map (fun w=>(⟨outH++w.l⟩:Str))++(rowsL l++[⟨[101,110,100]⟩,⟨[]⟩])):=by
   refine tkn_run inH _ _ fun y hy=>?_
   cases e2:x.2.2 with
   | nil=>rw[e2]at hy;exact stop_rows inH (fun x=>rfl) rfl l y hy
   | cons z t=>rw[e2]at hy;cases hy;rfl
  rw[e,rws_some (cutP_app blkH x.1.l),h1];dsimp only;rw[h2];dsimp only;rw[rws_rows l]
theorem nameOf_free (k:Int):free (nameOf k):=by
 unfold nameOf free
 repeat' split
 all_goals decide
theorem kind_name {k:Int} (h:nameOf k≠[]):kindOf (nameOf k)=k:=by
 have hk:1≤k∧k≤4:=by
  refine Classical.byContradiction fun hk=>h ?_
  unfold nameOf
  repeat' split
  all_goals first | rfl | omega
 exact kindOf_found hk.1 hk.2 rfl
theorem prs_text {r:Report} (hn:nameOf r.1≠[]) (h:∀x∈r.2,freeR x):prs (textT r)=r:=by
 rw[prs,spl_text (nameOf_free r.1) h];dsimp only;rw[cutP_app,rws_rows,Option.getD_some,kind_name hn]
end Go.Proofs
end
