/- Part 'M10' of the proof (B1, B2, B3, E18, Ft0, Ft1, Ft2): lemmas, each with its own conditions in its own statement. -/
import Derived.Lib.MakeNoZero
import Derived.Test.YthmicpkjickejaaDoorM7
import Derived.Test.YthmicpkjickejaaDoorM9
section
namespace Go.Proofs
open Go.Sy
open Go.RowKit (Below)
set_option maxRecDepth 20000
theorem noescape_spec {x:SV} {bx:List (Nat×Bx)} {nx:Nat} {H:Hp} {K:SV→List (Nat×Bx)→Nat→Hp→Prop} (hK:K x bx nx H):ExtG Tryd.prog 37 [x] bx nx H K:=by
 intro B ρ w hm hl;refine⟨x,bx,nx,H,ρ,w,?_,hK,?_,hm,Same.refl _ _,Nat.le_refl _,⟨[],rfl⟩,Le.refl H⟩
 ·have h:∀(v:Value) (w:World),(callFunc 37 #[v]).run Tryd.prog w = .ok (.value v) w:=by
   intro v w
   kernel_rfl
  rw[←h (ga ρ x) w]
  congr 2
 ·rw[lts_iff]at hl;exact hl x (by simp)
theorem digits_one:∀(n t:Nat) (acc:Array Value),(∀u∈acc,u.oneCell'=true)→∀u∈Extern.BytealgMakeNoZero.digits n t acc,u.oneCell'=true
 | 0,_,_,h=>h
 | n+1,t,acc,h=>by
  rw[Extern.BytealgMakeNoZero.digits]
  refine digits_one n _ _ fun u hu=>?_
  rcases Array.mem_push.1 hu with hu | hu
  ·exact h u hu
  ·subst hu;rfl
theorem run_mnz {P:Program} (w:World) (ps:Array TypeId) (t e:TypeId) (ht:P.underlying t=some (.slice e)) (n:Nat) (hn:n≤281474976710656):
  ∃cs:Array Value,(Extern.BytealgMakeNoZero.makeNoZero ps #[t] #[.int .i64 n]).run P w = .ok (.slice (some ⟨w.heap.size,0,none⟩) n cs.size) (w.drew.drew.alloc (.cells cs e))∧n≤cs.size∧cs.size≤maxLen∧∀u∈cs,u.oneCell'=true:=by
 have h1:¬(n:Int)<0:=by omega
 have h2:¬(281474976710656:Int)<(n:Int):=by omega
 refine ⟨Extern.BytealgMakeNoZero.digits (grownCap w n 0 e) ((Question.extern "internal/bytealg.MakeNoZero.bytes" 0).cut (w.tape (w.drawn + 1) (.extern "internal/bytealg.MakeNoZero.bytes" 0))) #[], ?_, ?_, ?_, digits_one _ _ _ (by simp)⟩
 ·conv=>lhs;arg 2;whnf
  rw[show ∀k:Program→Sem Value,Sem.run P (Sem.program k) w=Sem.run P (k P) w from fun _=>rfl]
  have hb:∀ {α β:Type} (x:Sem α) (f:α→Sem β),Sem.bind x f=x >>= f:=fun _ _=>rfl
  have hp:∀ {α:Type} (x:α),(Sem.pure x:Sem α)=pure x:=fun _=>rfl
  simp [hb,hp,ht,h1,h2,Question.forced,newRow,Lib.size_digits,grownCap]
 ·rw[Lib.size_digits];simpa using grownCap_ge w n 0 e
 ·rw[Lib.size_digits];simpa using grownCap_le_maxLen w n 0 e (by simp only[maxLen];omega)
theorem makenz_spec {n:Nat} {bx:List (Nat×Bx)} {nx:Nat} {H:Hp} {K:SV→List (Nat×Bx)→Nat→Hp→Prop} (hn:n≤281474976710656)
  (hK:∀xs:List (List Value),xs.length=n→K (.own nx) ((nx,.row 5 1 xs)::bx) (nx+1) H):ExtG Tryd.prog 38 [.v (.int .i64 n)] bx nx H K:=by
 intro B ρ w hm hl
 have h:∀(w:World),(callFunc 38 #[.int .i64 n]).run Tryd.prog w=((do pure (.value (←Extern.BytealgMakeNoZero.makeNoZero #[3] #[45] #[.int .i64 n]))):Sem Next).run Tryd.prog w:=by
  intro w
  kernel_rfl
 obtain⟨cs,hrun,hge,hmx,hone⟩:=run_mnz (P:=Tryd.prog) w #[3] 45 5 (cx_ok.tt 45 _ _ rfl).2 n hn;have hcl:=chop_flat 1 n (cs.toList.take n) (by simp;omega)
 let B':Bs:={ B with base:=nx,ρ:=ρ }
 have hr:Rel { cx with n:=0 } B' ρ ⟨[],bx,nx⟩ H { tmps:=#[],defers:=[] } w:=⟨fun t x hx=>(by cases hx),rfl,Dfs.nil _ _ _,{ hm with base:=Nat.le_refl _,agree:=fun _ _=>⟨rfl,rfl⟩ }⟩
 obtain⟨ρ',hr',hg⟩:=hr.rowed (e:=5) (sz:=1) (xs:=chop 1 n (cs.toList.take n)) (w':=w.drew.drew.alloc (.cells cs 5)) (v:=(some ⟨w.heap.size,0,none⟩,n,cs.size)) rfl rfl ⟨rfl,Nat.le_add_right _ 2⟩ (by simp) (fun g hg=>_root_.Go.heap_alloc_old w.drew.drew _ hg)
  (by
   rw[hcl.1,hcl.2.1]
   refine⟨by simp;omega,.inr ⟨w.heap.size,cs.size,cs,rfl,Nat.zero_le _,heap_alloc_new w.drew.drew _,hge,hmx,by simp,by simp⟩⟩)
  (fun x hx=>⟨(hcl.2.2 x hx).1,fun u hu=>by
   have:=List.mem_flatten.2 ⟨x,hx,hu⟩;rw[hcl.1]at this
   exact hone u (by simpa using List.mem_of_mem_take this)⟩)
  (fun g hg=>by simp only[Value.ownBlock,Option.some.injEq]at hg;omega)
 have hag:=hr'.mem.agree;refine⟨.own nx,_,_,H,ρ',w.drew.drew.alloc (.cells cs 5),?_,hK _ hcl.2.1,by rw[SV.lt];exact Nat.ble_eq_true_of_le (Nat.le_refl _),{ hr'.mem with base:=Nat.le_trans hm.base (Nat.le_succ _),agree:=fun k hk=>?_ },hag,Nat.le_succ _,⟨[_],rfl⟩,Le.refl H⟩
 ·have e:gas ρ [SV.v (.int .i64 n)]=[.int .i64 n]:=by simp [gas,ga]
  rw[e,h,Sem.run_bind,hrun,hg]
  rfl
 ·have h1:=hag k (Nat.lt_of_lt_of_le hk hm.base);have h2:=hm.agree k hk;exact⟨h1.1.trans h2.1,h1.2.trans h2.2⟩
end Go.Proofs
end
section
namespace Go.Proofs
open Go.Sy
set_option maxRecDepth 20000
abbrev bld0:List (Nat×Bx):=[(0,.cells 47 [.v (.pointer none),.v (.slice none 0 0)])]
abbrev bld2 (b:List UInt8):List (Nat×Bx):=[(0,.cells 47 [.ptr 0 0,.own 2]),(1,.dead),(2,.row 5 1 (byteRows b))]
abbrev bld (b:List UInt8):List (Nat×Bx):=[(0,.cells 47 [.ptr 0 0,.own 1]),(1,.row 5 1 (byteRows b))]
theorem check_fresh {H:Hp} {K:SV→St→Hp→Prop} (hK:K (.tup []) ⟨[],[(0,.cells 47 [.ptr 0 0,.v (.slice none 0 0)])],1⟩ H):DoesG Tryd.prog 29 [.ptr 0 0] bld0 1 H K:=by
 refine spec_ofG cx_ok cx_mix Tryd.func29 Tryd.call29 Tryd.ntmps29 Tryd.results29 rfl rfl ?_;refine⟨fun h=>?_,fun h=>?_⟩
 ·refine⟨by kernel_rfl,?_⟩;refine noescape_spec ?_;refine⟨by kernel_rfl,?_⟩;exact⟨.tup [],[(0,.cells 47 [.ptr 0 0,.v (.slice none 0 0)])],1,[(0,0)],⟨⟨⟨rfl,rfl⟩,trivial⟩,⟨⟨⟨rfl,rfl⟩,rfl,trivial⟩,trivial⟩⟩,hK⟩
 ·cases h
theorem check_used {b:List UInt8} {H:Hp} {K:SV→St→Hp→Prop} (hK:K (.tup []) ⟨[],bld b,2⟩ H):DoesG Tryd.prog 29 [.ptr 0 0] (bld b) 2 H K:=by
 refine spec_ofG cx_ok cx_mix Tryd.func29 Tryd.call29 Tryd.ntmps29 Tryd.results29 rfl rfl ?_;refine⟨fun h=>?_,fun h=>?_⟩
 ·cases h
 ·refine⟨fun h=>?_,fun h=>?_⟩
  ·cases h
  ·exact⟨.tup [],bld b,2,[(0,0),(1,1)],⟨⟨⟨rfl,rfl⟩,trivial⟩,⟨⟨⟨rfl,rfl⟩,rfl,trivial⟩,rfl,trivial⟩⟩,hK⟩
theorem makenz_spec' {x:Int} {n:Nat} (hx:x=n) {bx:List (Nat×Bx)} {nx:Nat} {H:Hp} {K:SV→List (Nat×Bx)→Nat→Hp→Prop} (hn:n≤281474976710656)
  (hK:∀xs:List (List Value),xs.length=n→K (.own nx) ((nx,.row 5 1 xs)::bx) (nx+1) H):ExtG Tryd.prog 38 [.v (.int .i64 x)] bx nx H K:=by
 subst hx;exact makenz_spec hn hK
theorem rowAt_nil (H:Hp) (sz:Nat):RowAt H (.slice none 0 0) sz []:=⟨none,0,rfl,⟨Nat.le_refl _,by omega⟩,by simp,.inl ⟨rfl,rfl⟩⟩
theorem grow_fresh {n:Nat} (hn:n≤140737488355328) {H:Hp} {K:SV→St→Hp→Prop} (hK:K (.tup []) ⟨[],bld [],2⟩ H):DoesG Tryd.prog 30 [.ptr 0 0,.v (.int .i64 n)] [(0,.cells 47 [.ptr 0 0,.v (.slice none 0 0)])] 1 H K:=by
 refine spec_ofG cx_ok cx_mix Tryd.func30 Tryd.call30 Tryd.ntmps30 Tryd.results30 rfl rfl ?_;refine⟨some ([],[0,1,2,3,6,9,10,11,12,13,4,5,7,8,14,15]),by kernel_rfl,?_⟩;refine⟨⟨by decide,by decide⟩,?_⟩;refine⟨⟨by omega,by omega⟩,?_⟩;refine makenz_spec' (n:=n) (by omega) (by omega) ?_;intro xs hxs;refine⟨⟨by omega,by omega,by omega⟩,?_⟩;refine .inl ?_;refine⟨_,rowAt_nil H 1,?_⟩;refine⟨by omega,?_⟩;refine .inr ?_;refine⟨⟨rfl,by omega⟩,?_⟩;refine⟨.tup [],bld [],2,[(0,0),(1,2)],⟨⟨⟨rfl,rfl⟩,trivial⟩,⟨⟨⟨rfl,rfl⟩,rfl,trivial⟩,rfl,trivial⟩⟩,hK⟩
theorem Grow_fresh {n:Nat} (hn:n≤140737488355328) {H:Hp} {K:SV→St→Hp→Prop} (hK:K (.tup []) ⟨[],bld [],2⟩ H):DoesG Tryd.prog 20 [.ptr 0 0,.v (.int .i64 n)] bld0 1 H K:=by
 refine spec_ofG cx_ok cx_mix Tryd.func20 Tryd.call20 Tryd.ntmps20 Tryd.results20 rfl rfl ?_;refine⟨[0],rfl,?_⟩;refine check_fresh ?_;refine⟨fun h=>?_,fun h=>?_⟩
 ·have:=dt h;omega
 ·refine⟨some ([],[0,1,2,3,5,6,7,8,9,11,4,10,12]),by kernel_rfl,?_⟩;refine⟨⟨by decide,by decide⟩,?_⟩;refine⟨fun h=>?_,fun h=>?_⟩
  ·refine⟨[0],rfl,?_⟩;refine grow_fresh hn ?_;exact⟨.tup [],bld [],2,[(0,0),(1,1)],⟨⟨⟨rfl,rfl⟩,trivial⟩,⟨⟨⟨rfl,rfl⟩,rfl,trivial⟩,rfl,trivial⟩⟩,hK⟩
  ·exact⟨.tup [],bld [],2,[(0,0)],⟨⟨⟨rfl,rfl⟩,trivial⟩,⟨⟨⟨rfl,rfl⟩,⟨rfl,rfl,rfl⟩,trivial⟩,rfl,trivial⟩⟩,hK⟩
theorem write_used {b t:List UInt8} (hl:b.length+t.length≤140737488355328) {H:Hp} {K:SV→St→Hp→Prop} (hK:K (.tup [.v (.int .i64 t.length),.v .nilIface]) ⟨[],bld2 (b++t),3⟩ H):DoesG Tryd.prog 21 [.ptr 0 0,.v (.string (bs t))] (bld b) 2 H K:=by
 refine spec_ofG cx_ok cx_mix Tryd.func21 Tryd.call21 Tryd.ntmps21 Tryd.results21 rfl rfl ?_;refine⟨[0,1],rfl,?_⟩;refine check_used ?_;have erow:byteRows b++byteRows t=byteRows (b++t):=(List.map_append ..).symm;refine⟨rfl,by rw[byte_rows_len];exact hl,?_⟩;refine⟨.tup [.v (.int .i64 t.length),.v .nilIface],bld2 (b++t),3,[(0,0),(1,1),(2,2)],⟨⟨⟨rfl,rfl⟩,trivial⟩,⟨⟨⟨rfl,rfl⟩,rfl,trivial⟩,trivial,erow,trivial⟩⟩,hK⟩
theorem string_spec {b:List UInt8} {H:Hp} {K:SV→St→Hp→Prop} (hK:K (.v (.string (bs b))) ⟨[],[(0,.dead),(1,.dead)],2⟩ H):DoesG Tryd.prog 22 [.ptr 0 0] (bld b) 2 H K:=by
 refine spec_ofG cx_ok cx_mix Tryd.func22 Tryd.call22 Tryd.ntmps22 Tryd.results22 rfl rfl ?_;have hbl:=byte_rows_len b;refine⟨some ([1],[0,1,2,3,5,6,7,8,9,4,10,11]),by kernel_rfl,?_⟩;refine⟨fun hne=>?_,fun he p=>?_⟩
 ·refine⟨by kernel_rfl,by kernel_rfl,b,rfl,fun h=>hne (by rw[h];rfl),by rw[hbl],?_⟩;exact⟨.v (.string (bs b)),[(0,.dead),(1,.dead)],2,[(0,0),(1,1)],⟨⟨rfl,trivial⟩,⟨trivial,trivial,trivial⟩⟩,hK⟩
 ·have hb:b=[]:=by cases b with
   | nil=>rfl
   | cons x r=>cases he
  subst hb;refine⟨rfl,?_⟩;exact⟨.v (.string (bs [])),[(0,.dead),(1,.dead)],2,[(0,0),(1,1)],⟨⟨rfl,trivial⟩,⟨trivial,trivial,trivial⟩⟩,hK⟩
end Go.Proofs
end
section
namespace Go.Proofs
open Go.Sy
set_option maxRecDepth 20000
def elem (l:List Str) (i:Nat):List UInt8:=(l.getD i ⟨[]⟩).l
def jn (l:List Str) (sep:List UInt8):Nat→List UInt8
 | 0=>[]
 | 1=>elem l 0
 | i+2=>jn l sep (i+1)++sep++elem l (i+1)
def joined (l:List Str) (sep:List UInt8):List UInt8:=jn l sep l.length
def sm (l:List Str):Nat→Nat
 | 0=>0
 | i+1=>sm l i+(elem l i).length
theorem jn_len (l:List Str) (sep:List UInt8):∀i,(jn l sep (i+1)).length=sm l (i+1)+sep.length*i
 | 0=>by simp [jn,sm]
 | i+1=>by
  rw[jn,List.length_append,List.length_append,jn_len l sep i,sm,sm,sm,Nat.mul_add];omega
theorem sm_le (l:List Str):∀ {i j:Nat},i≤j→sm l i≤sm l j
 | i,0,h=>by
  have:i=0:=by omega
  subst this;exact Nat.le_refl _
 | i,j+1,h=>by
  by_cases e:i=j+1
  ·subst e;exact Nat.le_refl _
  ·have:=sm_le l (show i≤j by omega)
   rw[sm];omega
theorem jn_le (l:List Str) (sep:List UInt8) {i j:Nat} (h:i≤j):(jn l sep (i+1)).length≤(jn l sep (j+1)).length:=by
 rw[jn_len,jn_len];have h1:=sm_le l (show i+1≤j+1 by omega);have h2:=Nat.mul_le_mul_left sep.length h;omega
theorem elem_at {l:List Str} {i:Nat} (h:i<l.length):l[i]?=some ⟨elem l i⟩:=by
 rw[elem,List.getD_eq_getElem?_getD,List.getElem?_eq_getElem h]
 rfl
theorem str_open {H:Hp} {cs:List Value} {r:Str} (h:Enc.R H cs r):cs=[.string (bs r.l)]:=h.1
theorem join_spec {l:List Str} {sep:List UInt8} {a1:Option Addr} {n1 c1:Nat} {H:Hp} {K:Value→Hp→Prop} (ha:RL H a1 n1 c1 l) (hlen:(joined l sep).length≤140737488355328)
  (hK:∀H',Le H H'→K (.string (bs (joined l sep))) H'):Does Tryd.prog 12 [.slice a1 n1 c1,.string (bs sep)] H K:=by
 have hn1:=ha.n_eq;have hmx:=ha.le;refine spec_of cx_ok cx_mix rfl Tryd.func12 Tryd.call12 Tryd.ntmps12 Tryd.results12 rfl rfl ?_;refine⟨fun h=>?_,fun h=>?_⟩
 ·have h0:l.length=0:=by have:=dt h;omega
  have e:joined l sep=[]:=by rw[joined,h0];rfl
  have h9:=hK H (Le.refl H);rw[e]at h9;exact h9
 ·have h0:l.length≠0:=by have:=df h;omega
  refine⟨fun h=>?_,fun h=>?_⟩
  ·have h1:l.length=1:=by have:=dt h;omega
   have hel:=ha.elem (elem_at (l:=l) (i:=0) (by omega));obtain⟨ad,cs,e1,hh,r1⟩:=hel;rw[str_open r1]at hh;refine⟨ad,⟨by omega,by omega,e1⟩,?_⟩;refine⟨_,hh,?_⟩
   have e:joined l sep=elem l 0:=by rw[joined,h1];rfl
   have h9:=hK H (Le.refl H);rw[e]at h9;exact h9
  ·have h2:2≤l.length:=by have:=df h;omega
   obtain⟨m,hm⟩:∃m,l.length=m+2:=⟨l.length - 2,by omega⟩
   have hjl:(jn l sep (m+2)).length=sm l (m+2)+sep.length*(m+1):=jn_len l sep (m+1)
   have hjj:joined l sep=jn l sep (m+2):=by rw[joined,hm]
   rw[hjj]at hlen;have hS:(sl (bs sep)).length=sep.length:=rfl
   have hmul:(sl (bs sep)).length*(m+1)≤140737488355328:=by rw[hjl]at hlen;rw[hS];omega
   have hmul':sep.length*(m+1)≤140737488355328:=hmul
   have en1:(n1:Int) - 1=((m+1:Nat):Int):=by omega
   refine⟨fun h=>?_,fun h=>?_⟩
   ·have hs0:0<(sl (bs sep)).length:=by have:=dt h;omega
    have hq:((sl (bs sep)).length:Int)<(9223372036854775807:Int).tdiv ((n1:Int) - 1)∧(9223372036854775807:Int).tdiv ((n1:Int) - 1)≤9223372036854775807:=by
     rw[en1];have h1:m+1≤140737488355328:=Nat.le_trans (Nat.le_mul_of_pos_left _ hs0) hmul
     have h3:((sl (bs sep)).length+1)*(m+1)≤9223372036854775807:=by rw[Nat.add_mul];omega
     have h4:(sl (bs sep)).length+1≤9223372036854775807 / (m+1):=(Nat.le_div_iff_mul_le (by omega)).2 h3;have h5:(9223372036854775807:Int).tdiv ((m+1:Nat):Int)=((9223372036854775807 / (m+1):Nat):Int):=rfl;have h6:9223372036854775807 / (m+1)≤9223372036854775807:=Nat.div_le_self _ _;rw[h5];omega
    have hSm:((sl (bs sep)).length:Int)*((n1:Int) - 1)=(((sl (bs sep)).length*(m+1):Nat):Int):=by rw[en1];rfl
    refine⟨⟨by omega,by omega⟩,?_⟩;refine⟨by omega,⟨by omega,by omega⟩,?_⟩;refine⟨fun h=>?_,fun h=>?_⟩
    ·have:=dt h;omega
    ·refine⟨⟨by omega,by omega⟩,?_⟩;refine⟨⟨by omega,by omega⟩,?_⟩;refine⟨⟨by omega,by omega⟩,?_⟩
     have e5:SV.v (.int .i64 (0+((sl (bs sep)).length:Int)*((n1:Int) - 1)))=SV.v (.int .i64 ((sep.length*(m+1)+sm l 0:Nat):Int)):=by rw[hSm];simp [sm]
     refine⟨Nat,fun j=>⟨[(0,.v (.slice a1 n1 c1)),(1,.v (.string (bs sep))),(5,.v (.int .i64 ((sep.length*(m+1)+sm l j:Nat):Int))),(39,.v (.slice a1 n1 c1)),(40,.v (.int .i64 n1)),(41,.v (.int .i64 j))],[],0⟩,fun j H'=>Le H H'∧j≤l.length,fun j=>l.length - j,⟨0,[],?_,Le.refl H,by omega⟩,?_⟩
     ·exact⟨⟨rfl,rfl,e5,rfl,rfl,rfl,trivial⟩,trivial⟩
     rintro j H1 _ ⟨hle,hj⟩;have hsj:=sm_le l (show j≤m+2 by omega);refine⟨fun h=>?_,fun h=>?_⟩
     ·have hlt:j<l.length:=by have:=dt h;omega
      have hsj1:=sm_le l (show j+1≤m+2 by omega);rw[sm]at hsj1;have hq:=ha.up hle;have hel:=hq.elem (elem_at (l:=l) (i:=j) hlt);obtain⟨ad,cs,e1,hh,r1⟩:=hel;rw[str_open r1]at hh;refine⟨ad,⟨by omega,by omega,e1⟩,?_⟩;refine⟨_,hh,?_⟩;have hse:(sl (bs (Str.l ⟨elem l j⟩))).length=(elem l j).length:=rfl;refine⟨⟨by omega,by omega⟩,?_⟩;refine⟨fun h=>?_,fun h=>?_⟩
      ·have:=dt h;omega
      ·refine⟨⟨by omega,by omega⟩,?_⟩
       have e5':SV.v (.int .i64 (((sep.length*(m+1)+sm l j:Nat):Int)+((sl (bs (Str.l ⟨elem l j⟩))).length:Int)))=SV.v (.int .i64 ((sep.length*(m+1)+sm l (j+1):Nat):Int)):=by rw[sm,hse];congr 2;omega
       refine⟨⟨by omega,by omega⟩,j+1,[],?_,⟨hle,by omega⟩,by dsimp only;omega⟩;exact⟨⟨rfl,rfl,e5',rfl,rfl,rfl,trivial⟩,trivial⟩
     ·have hjl':j=l.length:=by have:=df h;omega
      have hlen':sep.length*(m+1)+sm l j≤140737488355328:=by rw[hjl',hm];omega
      refine⟨[0],rfl,?_⟩;refine Grow_fresh (n:=sep.length*(m+1)+sm l j) hlen' ?_;have hq:=ha.up hle;have hel:=hq.elem (elem_at (l:=l) (i:=0) (by omega));obtain⟨ad,cs,e1,hh,r1⟩:=hel;rw[str_open r1]at hh;refine⟨ad,⟨by omega,by omega,e1⟩,?_⟩;refine⟨_,hh,?_⟩;refine⟨[0,1],rfl,?_⟩;have hb0:(jn l sep 1).length≤(jn l sep (m+2)).length:=jn_le l sep (show 0≤m+1 by omega);have hb00:(jn l sep 1).length=(elem l 0).length:=rfl;refine write_used (b:=[]) (t:=elem l 0) (by simp only[List.length_nil];omega) ?_;refine⟨⟨by omega,by omega,by omega,by have:=ha.2.1;omega⟩,?_⟩;have hp:=hq.cut (l:=1) (k:=n1) (by omega) (by omega)
      have ep:∀i,i<n1 - 1→((l.take n1).drop 1)[i]?=some ⟨elem l (i+1)⟩:=by
       intro i hi;rw[List.getElem?_drop,List.getElem?_take,if_pos (by omega),show 1+i=i+1 by omega,elem_at (by omega)]
      refine⟨Nat,fun j=>⟨[(1,.v (.string (bs sep))),(8,.ptr 0 0),(63,.v (.slice (cutA a1 1 c1 1) (n1 - 1) (c1 - 1))),(64,.v (.int .i64 ((n1 - 1:Nat):Int))),(65,.v (.int .i64 j))],[(0,.cells 47 [.ptr 0 0,.own 1]),(1,.row 5 1 (byteRows (jn l sep (j+1))))],2⟩,fun j H'=>Le H1 H'∧j≤n1 - 1,fun j=>n1 - 1 - j,⟨0,[(0,0),(1,2)],?_,Le.refl H1,by omega⟩,?_⟩
      ·exact⟨⟨rfl,⟨rfl,rfl⟩,rfl,rfl,rfl,trivial⟩,⟨⟨⟨rfl,rfl⟩,rfl,trivial⟩,rfl,trivial⟩⟩
      rintro i H2 _ ⟨hle2,hi⟩;refine⟨fun h=>?_,fun h=>?_⟩
      ·have hlt:i<n1 - 1:=by have:=dt h;omega
       have hel2:=(hp.up hle2).elem (ep i hlt);obtain⟨ad2,cs2,e2,hh2,r2⟩:=hel2;rw[str_open r2]at hh2;have hji:(jn l sep (i+2)).length≤(jn l sep (m+2)).length:=jn_le l sep (show i+1≤m+1 by omega)
       have hji2:(jn l sep (i+2)).length=(jn l sep (i+1)).length+sep.length+(elem l (i+1)).length:=by rw[jn,List.length_append,List.length_append]
       refine⟨ad2,⟨by omega,by omega,e2⟩,?_⟩;refine⟨_,hh2,?_⟩;refine⟨[0,1],rfl,?_⟩;refine write_used (b:=jn l sep (i+1)) (t:=sep) (by omega) ?_;refine⟨[0,2],rfl,?_⟩;refine write_used (b:=jn l sep (i+1)++sep) (t:=elem l (i+1)) (by rw[List.length_append];omega) ?_;refine⟨⟨by omega,by omega⟩,i+1,[(0,0),(1,3)],?_,⟨hle2,by omega⟩,by dsimp only;omega⟩;exact⟨⟨rfl,⟨rfl,rfl⟩,rfl,rfl,rfl,trivial⟩,⟨⟨⟨rfl,rfl⟩,rfl,trivial⟩,rfl,trivial⟩⟩
      ·have hil:i=n1 - 1:=by have:=df h;omega
       refine⟨[0,1],rfl,?_⟩;refine string_spec (b:=jn l sep (i+1)) ?_;have h9:=hK H2 (hle.trans hle2)
       have ej:joined l sep=jn l sep (i+1):=by rw[joined];congr 1;omega
       rw[ej]at h9;exact h9
   ·have hs0:(sl (bs sep)).length=0:=by have:=df h;omega
    have e5:SV.v (.int .i64 0)=SV.v (.int .i64 ((sep.length*(m+1)+sm l 0:Nat):Int)):=by rw[←hS,hs0,sm,Nat.zero_mul];rfl
    refine⟨Nat,fun j=>⟨[(0,.v (.slice a1 n1 c1)),(1,.v (.string (bs sep))),(5,.v (.int .i64 ((sep.length*(m+1)+sm l j:Nat):Int))),(39,.v (.slice a1 n1 c1)),(40,.v (.int .i64 n1)),(41,.v (.int .i64 j))],[],0⟩,fun j H'=>Le H H'∧j≤l.length,fun j=>l.length - j,⟨0,[],?_,Le.refl H,by omega⟩,?_⟩
    ·exact⟨⟨rfl,rfl,e5,rfl,rfl,rfl,trivial⟩,trivial⟩
    rintro j H1 _ ⟨hle,hj⟩;have hsj:=sm_le l (show j≤m+2 by omega);refine⟨fun h=>?_,fun h=>?_⟩
    ·have hlt:j<l.length:=by have:=dt h;omega
     have hsj1:=sm_le l (show j+1≤m+2 by omega);rw[sm]at hsj1;have hq:=ha.up hle;have hel:=hq.elem (elem_at (l:=l) (i:=j) hlt);obtain⟨ad,cs,e1,hh,r1⟩:=hel;rw[str_open r1]at hh;refine⟨ad,⟨by omega,by omega,e1⟩,?_⟩;refine⟨_,hh,?_⟩;have hse:(sl (bs (Str.l ⟨elem l j⟩))).length=(elem l j).length:=rfl;refine⟨⟨by omega,by omega⟩,?_⟩;refine⟨fun h=>?_,fun h=>?_⟩
     ·have:=dt h;omega
     ·refine⟨⟨by omega,by omega⟩,?_⟩
      have e5':SV.v (.int .i64 (((sep.length*(m+1)+sm l j:Nat):Int)+((sl (bs (Str.l ⟨elem l j⟩))).length:Int)))=SV.v (.int .i64 ((sep.length*(m+1)+sm l (j+1):Nat):Int)):=by rw[sm,hse];congr 2;omega
      refine⟨⟨by omega,by omega⟩,j+1,[],?_,⟨hle,by omega⟩,by dsimp only;omega⟩;exact⟨⟨rfl,rfl,e5',rfl,rfl,rfl,trivial⟩,trivial⟩
    ·have hjl':j=l.length:=by have:=df h;omega
     have hlen':sep.length*(m+1)+sm l j≤140737488355328:=by rw[hjl',hm];omega
     refine⟨[0],rfl,?_⟩;refine Grow_fresh (n:=sep.length*(m+1)+sm l j) hlen' ?_;have hq:=ha.up hle;have hel:=hq.elem (elem_at (l:=l) (i:=0) (by omega));obtain⟨ad,cs,e1,hh,r1⟩:=hel;rw[str_open r1]at hh;refine⟨ad,⟨by omega,by omega,e1⟩,?_⟩;refine⟨_,hh,?_⟩;refine⟨[0,1],rfl,?_⟩;have hb0:(jn l sep 1).length≤(jn l sep (m+2)).length:=jn_le l sep (show 0≤m+1 by omega);have hb00:(jn l sep 1).length=(elem l 0).length:=rfl;refine write_used (b:=[]) (t:=elem l 0) (by simp only[List.length_nil];omega) ?_;refine⟨⟨by omega,by omega,by omega,by have:=ha.2.1;omega⟩,?_⟩;have hp:=hq.cut (l:=1) (k:=n1) (by omega) (by omega)
     have ep:∀i,i<n1 - 1→((l.take n1).drop 1)[i]?=some ⟨elem l (i+1)⟩:=by
      intro i hi;rw[List.getElem?_drop,List.getElem?_take,if_pos (by omega),show 1+i=i+1 by omega,elem_at (by omega)]
     refine⟨Nat,fun j=>⟨[(1,.v (.string (bs sep))),(8,.ptr 0 0),(63,.v (.slice (cutA a1 1 c1 1) (n1 - 1) (c1 - 1))),(64,.v (.int .i64 ((n1 - 1:Nat):Int))),(65,.v (.int .i64 j))],[(0,.cells 47 [.ptr 0 0,.own 1]),(1,.row 5 1 (byteRows (jn l sep (j+1))))],2⟩,fun j H'=>Le H1 H'∧j≤n1 - 1,fun j=>n1 - 1 - j,⟨0,[(0,0),(1,2)],?_,Le.refl H1,by omega⟩,?_⟩
     ·exact⟨⟨rfl,⟨rfl,rfl⟩,rfl,rfl,rfl,trivial⟩,⟨⟨⟨rfl,rfl⟩,rfl,trivial⟩,rfl,trivial⟩⟩
     rintro i H2 _ ⟨hle2,hi⟩;refine⟨fun h=>?_,fun h=>?_⟩
     ·have hlt:i<n1 - 1:=by have:=dt h;omega
      have hel2:=(hp.up hle2).elem (ep i hlt);obtain⟨ad2,cs2,e2,hh2,r2⟩:=hel2;rw[str_open r2]at hh2;have hji:(jn l sep (i+2)).length≤(jn l sep (m+2)).length:=jn_le l sep (show i+1≤m+1 by omega)
      have hji2:(jn l sep (i+2)).length=(jn l sep (i+1)).length+sep.length+(elem l (i+1)).length:=by rw[jn,List.length_append,List.length_append]
      refine⟨ad2,⟨by omega,by omega,e2⟩,?_⟩;refine⟨_,hh2,?_⟩;refine⟨[0,1],rfl,?_⟩;refine write_used (b:=jn l sep (i+1)) (t:=sep) (by omega) ?_;refine⟨[0,2],rfl,?_⟩;refine write_used (b:=jn l sep (i+1)++sep) (t:=elem l (i+1)) (by rw[List.length_append];omega) ?_;refine⟨⟨by omega,by omega⟩,i+1,[(0,0),(1,3)],?_,⟨hle2,by omega⟩,by dsimp only;omega⟩;exact⟨⟨rfl,⟨rfl,rfl⟩,rfl,rfl,rfl,trivial⟩,⟨⟨⟨rfl,rfl⟩,rfl,trivial⟩,rfl,trivial⟩⟩
     ·have hil:i=n1 - 1:=by have:=df h;omega
      refine⟨[0,1],rfl,?_⟩;refine string_spec (b:=jn l sep (i+1)) ?_;have h9:=hK H2 (hle.trans hle2)
      have ej:joined l sep=jn l sep (i+1):=by rw[joined];congr 1;omega
      rw[ej]at h9;exact h9
end Go.Proofs
end
section
namespace Go.Proofs
open Go.Sy
set_option maxRecDepth 20000
def txt (p:Pick):Str:=⟨digS p.1++[58]++digS p.2⟩
def strC (s:Str):List Value:=[.string (bs s.l)]
theorem digS_len (n:Int):(digS n).length≤2:=by unfold digS;split<;>simp
theorem rc_strs {l:List Str} {H:Hp} (h:∀s∈l,s.l.length≤9223372036854775807):RC H (l.map strC) l:=by
 refine⟨by simp,fun i cs x h1 h2=>?_⟩;rw[List.getElem?_map,h2]at h1;simp only[Option.map_some,Option.some.injEq]at h1;subst h1;exact⟨rfl,h x (List.mem_of_getElem? h2)⟩
theorem map_take_succ {α β:Type} (f:α→β) {l:List α} {i:Nat} {x:α} (h:l[i]?=some x):(l.take i).map f++[f x]=(l.take (i+1)).map f:=by
 rw[List.take_add_one,h];simp
theorem text_small {l:List Pick} {a1:Option Addr} {n1 c1:Nat} {H:Hp} {K:Value→Hp→Prop} (ha:RL H a1 n1 c1 l) (hs:∀p∈l,(-10<p.1∧p.1<10)∧(-10<p.2∧p.2<10)) (hl:l.length≤1000)
  (hj:(joined (l.map txt) [32]).length≤140737488355328)
  (hK:∀H',Le H H'→K (.string (bs (joined (l.map txt) [32]))) H'):Does Tryd.prog 5 [.slice a1 n1 c1] H K:=by
 have hn1:=ha.n_eq;refine spec_of cx_ok cx_mix rfl Tryd.func5 Tryd.call5 Tryd.ntmps5 Tryd.results5 rfl rfl ?_;refine⟨Nat,fun i=>⟨[(3,.own 0),(6,.v (.slice a1 n1 c1)),(7,.v (.int .i64 n1)),(8,.v (.int .i64 i))],[(0,.row 9 1 ((l.take i).map fun p=>strC (txt p)))],1⟩,fun i H'=>Le H H'∧i≤l.length,fun i=>l.length - i,⟨0,[],?_,Le.refl H,by omega⟩,?_⟩
 ·exact⟨⟨⟨rfl,rfl,rfl⟩,rfl,rfl,rfl,trivial⟩,⟨rfl,trivial⟩⟩
 rintro i H1 _ ⟨hle,hi⟩;refine⟨fun h=>?_,fun h=>?_⟩
 ·have hlt:i<l.length:=by have:=dt h;omega
  have hx:=List.getElem?_eq_getElem hlt;have hq:=ha.up hle;have hr:=hq.elem hx;obtain⟨ad,cs,e1,h1,r1⟩:=hr;rw[pick_open r1]at h1;have hsx:=hs _ (List.mem_of_getElem? hx);refine⟨ad,⟨by omega,by omega,e1⟩,?_⟩;refine⟨_,h1,?_⟩;refine⟨some ([0],[0,1,2,5,6,3,4,7,8,9,10,11]),by kernel_rfl,?_⟩;have hd1:(sl (bs (digS (l[i]).1))).length≤2:=digS_len _;have hd2:(sl (bs (digS (l[i]).2))).length≤2:=digS_len _;refine digits_small hsx.1 ?_;refine⟨by show (sl (bs (digS (l[i]).1))).length+1≤_;omega,?_⟩;refine digits_small hsx.2 ?_;refine⟨by show ((sl (bs (digS (l[i]).1)))++[58]).length+(sl (bs (digS (l[i]).2))).length≤_;rw[List.length_append];simp only[List.length_singleton];omega,?_⟩
  have hlen:((l.take i).map fun p=>strC (txt p)).length=i:=by rw[List.length_map,List.length_take];omega
  refine⟨⟨by show (((l.take i).map fun p=>strC (txt p)).length+1)*16≤_;omega,by show ((l.take i).map fun p=>strC (txt p)).length+1≤_;omega⟩,?_⟩
  have erow:((l.take i).map fun p=>strC (txt p))++[strC (txt l[i])]=(l.take (i+1)).map fun p=>strC (txt p):=map_take_succ (fun p=>strC (txt p)) hx
  refine⟨⟨by omega,by omega⟩,i+1,[(0,3)],?_,⟨hle,by omega⟩,by dsimp only;omega⟩;exact⟨⟨rfl,rfl,rfl,rfl,trivial⟩,⟨erow,trivial⟩⟩
 ·have hil:i=l.length:=by have:=df h;omega
  intro x H2 hle2 hx
  have hlx:∀s∈l.map txt,s.l.length≤9223372036854775807:=by
   intro s hs2;simp only[List.mem_map]at hs2;obtain⟨p,_,rfl⟩:=hs2;have h1:=digS_len p.1;have h2:=digS_len p.2;simp only[txt,List.length_append,List.length_singleton];omega
  have hrc:=rc_strs (H:=H2) hlx;rw[List.map_map]at hrc
  have et:((l.take i).map fun p=>strC (txt p))=l.map (strC∘txt):=by rw[hil,List.take_length];rfl
  rw[et]at hx;obtain⟨a,n2,c2,e,hr⟩:=RL.of_row (α:=Str) hx hrc;subst e;refine join_spec hr hj ?_;intro H3 hle3;exact hK H1 hle
theorem awake26 {H:Hp} {K:Value→Hp→Prop} (hK:∀H',Le H H'→K (.bool true) H'):Does Tryd.prog 4 [] H K:=by
 have ht:joined ([((1:Int),(-2:Int)),(0,0)].map txt) [32]=[49,58,45,50,32,48,58,48]:=by decide
 have hrd:isR 3 3 (roundL 3 9):=by
  rw[isR_iff 3 3 (roundL 3 9) (by omega) (by rw[roundL_len];omega)]
  decide
 refine spec_of cx_ok cx_mix rfl Tryd.func4 Tryd.call4 Tryd.ntmps4 Tryd.results4 rfl rfl ?_;intro x H1 hle1 hx;have hrc:=rc_picks (l:=[((1:Int),(-2:Int)),(0,0)]) (H:=H1) (by decide);obtain⟨a,n2,c2,e,hr⟩:=RL.of_row (α:=Pick) hx hrc;subst e;refine text_small hr (by decide) (by decide) (by rw[ht];decide) ?_;intro H2 hle2;refine⟨fun h=>?_,fun h=>?_⟩
 ·refine round_spec (n:=3) (long:=9) ?_;intro a3 n3 c3 H3 hle3 hr3;have er:roundL 3 (roundN 9)=roundL 3 9:=rfl;rw[er]at hr3;refine is_spec (n:=3) (k:=3) hr3 (by rw[roundL_len];omega) ?_;intro b H4 hle4 hb;have hbt:=hb.2 hrd;subst hbt;exact hK H3 hle3
 ·exact absurd ht (of_decide_eq_false h)
end Go.Proofs
end
section
/- Plain words: plain laws of the texts of scripts: the digits of a number, the number of digits, the pieces of a text between its blanks. -/
namespace Go.Proofs
open Go.Sy
def dg (n:Nat):List UInt8:=if n<10 then [UInt8.ofNat (48+n)] else dg (n / 10)++[UInt8.ofNat (48+n % 10)]
decreasing_by omega
def dgS (n:Int):List UInt8:=if n<0 then 45::dg (0 - n).toNat else dg n.toNat
theorem dg_small {n:Nat} (h:n<10):dg n=[UInt8.ofNat (48+n)]:=by rw[dg,if_pos h]
theorem dg_big {n:Nat} (h:¬n<10):dg n=dg (n / 10)++[UInt8.ofNat (48+n % 10)]:=by rw[dg,if_neg h]
theorem dg_len:∀k n:Nat,n<10 ^ (k+1)→(dg n).length≤k+1
 | 0,n,h=>by rw[dg_small (by simpa using h)];simp
 | k+1,n,h=>by
  by_cases h1:n<10
  ·rw[dg_small h1];simp
  ·have:=dg_len k (n / 10) (by rw[Nat.div_lt_iff_lt_mul (by decide)];rw[Nat.pow_succ]at h;exact h);rw[dg_big h1,List.length_append,List.length_singleton];omega
theorem dg_len20 {n:Nat} (h:n<18446744073709551616):(dg n).length≤20:=dg_len 19 n (by omega)
theorem dgS_len {n:Int} (h : -9223372036854775808≤n∧n≤9223372036854775807):(dgS n).length≤21:=by
 rw[dgS];split
 ·have:=dg_len20 (n:=(0 - n).toNat) (by omega)
  rw[List.length_cons];omega
 ·have:=dg_len20 (n:=n.toNat) (by omega);omega
def isD (c:UInt8):Bool:=decide (48≤c.toNat)&&decide (c.toNat≤57)
theorem dig_nat {n:Nat} (h:n<10):(UInt8.ofNat (48+n)).toNat=48+n:=by rw[UInt8.toNat_ofNat'];omega
theorem dg_isD:∀n:Nat,∀c∈dg n,isD c=true:=by
 intro n
 induction n using Nat.strongRecOn with
 | _ n ih =>
  intro c hc
  by_cases h:n<10
  ·rw[dg_small h,List.mem_singleton]at hc;have:=dig_nat h;rw[hc,isD,this]
   simp;omega
  ·rw[dg_big h]at hc
   rcases List.mem_append.1 hc with hc | hc
   ·exact ih (n / 10) (by omega) c hc
   ·have:=dig_nat (n:=n % 10) (by omega)
    rw[List.mem_singleton.1 hc,isD,this]
    simp;omega
def rd (n:Nat):List UInt8→Nat
 | []=>n
 | c::r=>if isD c then rd ((10*n+(c.toNat - 48)) % 18446744073709551616) r else n
theorem rd_dg:∀n:Nat,n<18446744073709551616→∀t:List UInt8,rd 0 (dg n++t)=rd n t:=by
 intro n
 induction n using Nat.strongRecOn with
 | _ n ih =>
  intro hn t
  by_cases h:n<10
  ·have h1:=dig_nat h
   have h2:isD (UInt8.ofNat (48+n))=true:=by rw[isD,h1];simp;omega
   rw[dg_small h,List.singleton_append,rd,if_pos h2,h1]
   congr 1
   omega
  ·have h1:=dig_nat (n:=n % 10) (by omega)
   have h2:isD (UInt8.ofNat (48+n % 10))=true:=by rw[isD,h1];simp;omega
   rw[dg_big h,List.append_assoc,ih (n / 10) (by omega) (by omega),List.singleton_append,rd,if_pos h2,h1]
   congr 1
   omega
def sgn (n:Nat):Int:=if n<9223372036854775808 then (n:Int) else (n:Int) - 18446744073709551616
def num:List UInt8→Int
 | []=>0
 | c::r=>if c=45 then sgn ((18446744073709551616 - rd 0 r) % 18446744073709551616) else sgn (rd 0 (c::r))
theorem rd_lt:∀(s:List UInt8) (n:Nat),n<18446744073709551616→rd n s<18446744073709551616
 | [],n,h=>h
 | c::r,n,h=>by
  rw[rd];split
  ·exact rd_lt r _ (Nat.mod_lt _ (by decide))
  ·exact h
theorem sgn_in {n:Nat} (h:n<18446744073709551616) : -9223372036854775808≤sgn n∧sgn n≤9223372036854775807:=by
 rw[sgn]
 split<;>omega
theorem num_in (s:List UInt8) : -9223372036854775808≤num s∧num s≤9223372036854775807:=by
 cases s with
 | nil=>rw[num];omega
 | cons c r =>
  rw[num];split
  ·exact sgn_in (Nat.mod_lt _ (by decide))
  ·exact sgn_in (rd_lt _ _ (by decide))
theorem dg_head (n:Nat):∃c r,dg n=c::r∧c≠45:=by
 cases h:dg n with
 | nil =>
  exfalso
  by_cases h1:n<10
  ·rw[dg_small h1]at h;simp at h
  ·rw[dg_big h1]at h;simp at h
 | cons c r =>
  refine⟨c,r,rfl,fun e=>?_⟩;have h1:=dg_isD n c (by rw[h];exact List.mem_cons_self ..);rw[e]at h1;exact absurd h1 (by decide)
theorem num_dgS {n:Int} (h : -9223372036854775808≤n∧n≤9223372036854775807):num (dgS n)=n:=by
 rw[dgS];split
 ·next hn =>
  have h1:=rd_dg (0 - n).toNat (by omega) []
  rw[List.append_nil]at h1;rw[num,if_pos rfl,h1,rd,sgn]
  split<;>omega
 ·next hn =>
  obtain⟨c,r,e,hc⟩:=dg_head n.toNat
  have h1:=rd_dg n.toNat (by omega) []
  rw[List.append_nil]at h1;rw[e]at h1 ⊢;rw[num,if_neg hc,h1,rd,sgn]
  split<;>omega
def freeS (d:UInt8) (x:List UInt8):Prop:=∀c∈x,c≠d
theorem dgS_free {n:Int} {d:UInt8} (h1:d≠45) (h2:isD d=false):freeS d (dgS n):=by
 have h3:∀m,freeS d (dg m):=fun m c hc e=>by have:=dg_isD m c hc;rw[e,h2]at this;cases this
 rw[dgS];split
 ·intro c hc
  rcases List.mem_cons.1 hc with hc | hc
  ·exact fun e=>h1 (by rw[←e,hc])
  ·exact h3 _ c hc
 ·exact h3 _
def spB:List UInt8→List Str
 | []=>[⟨[]⟩]
 | c::r=>if c=32 then ⟨[]⟩::spB r else match spB r with
  | []=>[⟨[c]⟩]
  | x::t=>⟨c::x.l⟩::t
theorem spB_ne (s:List UInt8):spB s≠[]:=by
 cases s with
 | nil=>simp [spB]
 | cons c r =>
  rw[spB];split
  ·simp
  ·split<;>simp
theorem spB_line:∀(x r:List UInt8),freeS 32 x→spB (x++32::r)=⟨x⟩::spB r
 | [],r,_=>by rw[List.nil_append,spB,if_pos rfl]
 | c::x,r,h=>by
  have ih:=spB_line x r fun c hc=>h c (List.mem_cons_of_mem _ hc)
  rw[List.cons_append,spB,if_neg (h c (List.mem_cons_self ..)),ih]
theorem spB_free:∀x:List UInt8,freeS 32 x→spB x=[⟨x⟩]
 | [],_=>rfl
 | c::x,h=>by
  have ih:=spB_free x fun c hc=>h c (List.mem_cons_of_mem _ hc)
  rw[spB,if_neg (h c (List.mem_cons_self ..)),ih]
theorem spB_len:∀s:List UInt8,(spB s).length=s.count 32+1
 | []=>rfl
 | c::r=>by
  have ih:=spB_len r;rw[spB]
  by_cases e:c=32
  ·rw[if_pos e,List.length_cons,ih,e,List.count_cons_self]
  ·rw[if_neg e,List.count_cons_of_ne e]
   cases h:spB r with
   | nil=>exact absurd h (spB_ne r)
   | cons x t=>rw[h]at ih;exact ih
def bef:List UInt8→List UInt8
 | []=>[]
 | c::r=>if c=58 then [] else c::bef r
def aft:List UInt8→List UInt8
 | []=>[]
 | c::r=>if c=58 then r else aft r
theorem bef_at:∀x y:List UInt8,freeS 58 x→bef (x++58::y)=x
 | [],y,_=>by rw[List.nil_append,bef,if_pos rfl]
 | c::x,y,h=>by rw[List.cons_append,bef,if_neg (h c (List.mem_cons_self ..)),bef_at x y fun c hc=>h c (List.mem_cons_of_mem _ hc)]
theorem aft_at:∀x y:List UInt8,freeS 58 x→aft (x++58::y)=y
 | [],y,_=>by rw[List.nil_append,aft,if_pos rfl]
 | c::x,y,h=>by rw[List.cons_append,aft,if_neg (h c (List.mem_cons_self ..)),aft_at x y fun c hc=>h c (List.mem_cons_of_mem _ hc)]
theorem bef_free:∀x:List UInt8,freeS 58 x→bef x=x
 | [],_=>rfl
 | c::x,h=>by rw[bef,if_neg (h c (List.mem_cons_self ..)),bef_free x fun c hc=>h c (List.mem_cons_of_mem _ hc)]
theorem aft_free:∀x:List UInt8,freeS 58 x→aft x=[]
 | [],_=>rfl
 | c::x,h=>by rw[aft,if_neg (h c (List.mem_cons_self ..)),aft_free x fun c hc=>h c (List.mem_cons_of_mem _ hc)]
def ptx (p:Pick):Str:=⟨dgS p.1++[58]++dgS p.2⟩
def pck (x:Str):Pick:=(num (bef x.l),num (aft x.l))
def stx (l:List Pick):List UInt8:=joined (l.map ptx) [32]
def rdl (s:List UInt8):List Pick:=(spB s).map pck
def inPk (p:Pick):Prop:=(-9223372036854775808≤p.1∧p.1≤9223372036854775807)∧(-9223372036854775808≤p.2∧p.2≤9223372036854775807)
theorem pck_in (x:Str):inPk (pck x):=⟨num_in _,num_in _⟩
theorem rdl_in {s:List UInt8}:∀p∈rdl s,inPk p:=by
 intro p hp;obtain⟨x,_,rfl⟩:=List.mem_map.1 hp;exact pck_in x
theorem pck_ptx {p:Pick} (h:inPk p):pck (ptx p)=p:=by
 have e:(ptx p).l=dgS p.1++58::dgS p.2:=by rw[ptx];simp
 have hf:freeS 58 (dgS p.1):=dgS_free (by decide) (by decide);rw[pck,e,bef_at _ _ hf,aft_at _ _ hf,num_dgS h.1,num_dgS h.2]
theorem ptx_free (p:Pick):freeS 32 (ptx p).l:=by
 intro c hc
 have e:(ptx p).l=dgS p.1++58::dgS p.2:=by rw[ptx];simp
 rw[e]at hc
 rcases List.mem_append.1 hc with hc | hc
 ·exact dgS_free (by decide) (by decide) c hc
 ·rcases List.mem_cons.1 hc with hc | hc
  ·rw[hc];decide
  ·exact dgS_free (by decide) (by decide) c hc
theorem ptx_len {p:Pick} (h:inPk p):(ptx p).l.length≤43:=by
 have h1:=dgS_len h.1;have h2:=dgS_len h.2;rw[ptx];simp only[List.length_append,List.length_singleton];omega
def jr:List Str→List UInt8
 | []=>[]
 | [x]=>x.l
 | x::y::t=>x.l++32::jr (y::t)
theorem jn_cons (x:Str) (l:List Str):∀i,jn (x::l) [32] (i+2)=x.l++32::jn l [32] (i+1)
 | 0=>by
  rw[jn,jn,jn];have e1:elem (x::l) 0=x.l:=rfl;have e2:elem (x::l) (0+1)=elem l 0:=rfl;rw[e1,e2];simp
 | i+1=>by
  rw[jn,jn_cons x l i,jn];have e2:elem (x::l) (i+1+1)=elem l (i+1):=rfl;rw[e2];simp
theorem joined_jr:∀l:List Str,joined l [32]=jr l
 | []=>rfl
 | [x]=>rfl
 | x::y::t=>by
  have ih:=joined_jr (y::t);rw[joined]at ih ⊢;have h:=jn_cons x (y::t) t.length;rw[jr,←ih];exact h
theorem spB_jr:∀l:List Str,l≠[]→(∀x∈l,freeS 32 x.l)→spB (jr l)=l
 | [],h,_=>absurd rfl h
 | [x],_,h=>by rw[jr,spB_free _ (h x (List.mem_cons_self ..))]
 | x::y::t,_,h=>by
  rw[jr,spB_line _ _ (h x (List.mem_cons_self ..)),spB_jr (y::t) (by simp) fun z hz=>h z (List.mem_cons_of_mem _ hz)]
theorem jr_len {k:Nat}:∀l:List Str,(∀x∈l,x.l.length≤k)→(jr l).length≤(k+1)*l.length
 | [],_=>by simp [jr]
 | [x],h=>by have:=h x (List.mem_cons_self ..);rw[jr,List.length_singleton];omega
 | x::y::t,h=>by
  have h1:=h x (List.mem_cons_self ..)
  have h2:=jr_len (y::t) fun z hz=>h z (List.mem_cons_of_mem _ hz)
  rw[jr,List.length_append,List.length_cons,List.length_cons,Nat.mul_add,Nat.mul_one];omega
theorem stx_len {l:List Pick} (h:∀p∈l,inPk p):(stx l).length≤44*l.length:=by
 rw[stx,joined_jr]
 have:=jr_len (k:=43) (l.map ptx) fun x hx=>by
  obtain⟨p,hp,rfl⟩:=List.mem_map.1 hx;exact ptx_len (h p hp)
 rw[List.length_map]at this;exact this
theorem rdl_stx {l:List Pick} (hl:l≠[]) (h:∀p∈l,inPk p):rdl (stx l)=l:=by
 rw[rdl,stx,joined_jr,spB_jr _ (by simpa using hl) (fun x hx=>by obtain⟨p,_,rfl⟩:=List.mem_map.1 hx;exact ptx_free p),List.map_map]
 conv=>rhs;rw[←List.map_id l]
 exact List.map_congr_left fun p hp=>pck_ptx (h p hp)
theorem stx_ne {l:List Pick} (hl:l≠[]):stx l≠[]:=by
 cases l with
 | nil=>exact absurd rfl hl
 | cons p t =>
  intro h;rw[stx,joined_jr]at h
  have:(ptx p).l≠[]:=by rw[ptx];simp
  cases t with
  | nil=>exact this h
  | cons q t=>rw[List.map_cons,List.map_cons,jr]at h;simp at h
def prsF (s:List UInt8):List Pick×Bool:=if s=[] then ([],true) else if stx (rdl s)=s then (rdl s,true) else ([],false)
theorem prsF_stx {l:List Pick} (h:∀p∈l,inPk p):prsF (stx l)=(l,true):=by
 by_cases e:l=[]
 ·subst e;rfl
 ·rw[prsF,if_neg (stx_ne e),rdl_stx e h,if_pos rfl]
theorem prsF_in {s:List UInt8}:∀p∈(prsF s).1,inPk p:=by
 rw[prsF];split
 ·intro p hp;simp at hp
 ·split
  ·exact rdl_in
  ·intro p hp;simp at hp
theorem prsF_len {s:List UInt8}:(prsF s).1.length≤s.length+1:=by
 rw[prsF];split
 ·simp
 ·split
  ·show (rdl s).length≤_;rw[rdl,List.length_map,spB_len];have:s.count 32≤s.length:=List.count_le_length;omega
  ·simp
theorem prsF_yes {s:List UInt8} (h:(prsF s).2=true):stx (prsF s).1=s:=by
 rw[prsF]at h ⊢;split
 ·next e=>rw[e];rfl
 ·next e =>
  rw[if_neg e]at h;split
  ·next e2=>exact e2
  ·next e2=>rw[if_neg e2]at h;cases h
theorem prsF_no {s:List UInt8} (h:(prsF s).2=false):(prsF s).1=[]∧s≠[]:=by
 rw[prsF]at h ⊢;split
 ·next e=>rw[if_pos e]at h;cases h
 ·next e =>
  rw[if_neg e]at h;split
  ·next e2=>rw[if_pos e2]at h;cases h
  ·exact⟨rfl,e⟩
end Go.Proofs
end
section
/- Plain words: the digits of any number, as the program writes them: the region in which the call and the sign's own row come in any order. -/
namespace Go.Proofs
open Go.Sy
set_option maxRecDepth 20000
set_option maxHeartbeats 4000000
inductive PA
 | a | b | c | d
inductive PB
 | a | b | c | d | e | f | g
abbrev XA:=(PA×PB) ⊕ Bool
def opsA:Array Oper:=#[
 {dst := some 10, op := .move (.tmp 0), type := 43, pos := "fair.go:80", after := #[], guard := none },
 {dst := some 11, op := .binOp .quo 43 (.tmp 10) (.const (.int .u64 10)) 43, type := 43, pos := "fair.go:80", after := #[{ on := 0, ground := .data }], guard := none },
 {dst := some 12, op := .call { callee := .value (.func 19), args := #[.tmp 11], argTypes := #[43] }, type := 9, pos := "fair.go:80", after := #[{ on := 1, ground := .data }], guard := none },
 {dst := some 13, op := .move (.tmp 0), type := 43, pos := "fair.go:80", after := #[], guard := none },
 {dst := some 14, op := .binOp .rem 43 (.tmp 13) (.const (.int .u64 10)) 43, type := 43, pos := "fair.go:80", after := #[{ on := 3, ground := .data }], guard := none },
 {dst := some 15, op := .binOp .add 43 (.const (.int .u64 48)) (.tmp 14) 43, type := 43, pos := "fair.go:80", after := #[{ on := 4, ground := .data }], guard := none },
 {dst := some 16, op := .convert 43 5 (.tmp 15), type := 5, pos := "fair.go:80", after := #[{ on := 5, ground := .data }], guard := none },
 {dst := some 17, op := .buildSlice 45 1 #[(0, .tmp 16)], type := 45, pos := "fair.go:80", after := #[{ on := 6, ground := .data }], guard := none },
 {dst := some 18, op := .convert 45 9 (.tmp 17), type := 9, pos := "fair.go:80", after := #[{ on := 7, ground := .data }], guard := none },
 {dst := some 19, op := .binOp .add 9 (.tmp 12) (.tmp 18) 9, type := 9, pos := "fair.go:80", after := #[{ on := 2, ground := .data }, { on := 8, ground := .data }], guard := none },
 {dst := some 2, op := .assign (.tmp 19), type := 9, pos := "fair.go:80", after := #[{ on := 9, ground := .data }, { on := 2, ground := .chain }, { on := 0, ground := .phase }, { on := 1, ground := .phase }, { on := 2, ground := .phase }, { on := 3, ground := .phase }, { on := 4, ground := .phase }, { on := 5, ground := .phase }, { on := 6, ground := .phase }, { on := 7, ground := .phase }, { on := 8, ground := .phase }, { on := 9, ground := .phase }], guard := none }]
noncomputable abbrev cxA:Cx:={ P:=cx.P,tt:=cx.tt,n:=20,wrap:=cx.wrap,base:=cx.base,gf:=cx.gf,eqs:=cx.eqs,xf:=cx.xf,rg:=cx.rg }
theorem cxA_ok:TOK cxA:=⟨cx_ok.tt,cx_ok.eqs⟩
def envA (n:Nat):PA→List (Nat×SV)
 | .a=>[]
 | .b=>[(10,.v (.int .u64 n))]
 | .c=>[(11,.v (.int .u64 ((n / 10:Nat):Int)))]
 | .d=>[(12,.v (.string (bs (dg (n / 10)))))]
def chrA (n:Nat):UInt8:=UInt8.ofNat (48+n % 10)
def envB (n:Nat):PB→List (Nat×SV)
 | .a=>[]
 | .b=>[(13,.v (.int .u64 n))]
 | .c=>[(14,.v (.int .u64 ((n % 10:Nat):Int)))]
 | .d=>[(15,.v (.int .u64 ((48+n % 10:Nat):Int)))]
 | .e=>[(16,.v (.int .u8 ((48+n % 10:Nat):Int)))]
 | .f=>[(17,.own 0)]
 | .g=>[(18,.v (.string (bs [chrA n])))]
def bxB (n:Nat):PB→List (Nat×Bx)
 | .f=>[(0,.row 5 1 [[.int .u8 ((48+n % 10:Nat):Int)]])]
 | _=>[]
def TA (n:Nat):XA→St
 | .inl (p,q)=>⟨[(0,.v (.int .u64 n))]++envA n p++envB n q,bxB n q,1⟩
 | .inr false=>⟨[(19,.v (.string (bs (dg (n / 10)++[chrA n]))))],[],1⟩
 | .inr true=>⟨[(2,.v (.string (bs (dg (n / 10)++[chrA n]))))],[],1⟩
def dA:PA→List Bool
 | .a=>[false,false,false]
 | .b=>[true,false,false]
 | .c=>[true,true,false]
 | .d=>[true,true,true]
def dB:PB→List Bool
 | .a=>[false,false,false,false,false,false,false,false]
 | .b=>[true,false,false,false,false,false,false,false]
 | .c=>[true,true,false,false,false,false,false,false]
 | .d=>[true,true,true,false,false,false,false,false]
 | .e=>[true,true,true,true,false,false,false,false]
 | .f=>[true,true,true,true,true,false,false,false]
 | .g=>[true,true,true,true,true,true,false,false]
def LA:XA→Array Bool
 | .inl (p,q)=>(dA p++dB q).toArray
 | .inr false=>#[true,true,true,true,true,true,true,true,true,true,false]
 | .inr true=>#[true,true,true,true,true,true,true,true,true,true,true]
def nA:PA→List Nat
 | .a=>[0]
 | .b=>[1]
 | .c=>[2]
 | .d=>[]
def nB:PB→List Nat
 | .a=>[3]
 | .b=>[4]
 | .c=>[5]
 | .d=>[6]
 | .e=>[7]
 | .f=>[8]
 | .g=>[]
def RA:XA→List Nat
 | .inl (.d,.g)=>[9]
 | .inl (p,q)=>nA p++nB q
 | .inr false=>[10]
 | .inr true=>[]
theorem ready_A:∀x,Region.ready .any opsA (LA x)=RA x
 | .inl (p,q)=>by cases p<;>cases q<;>decide +kernel
 | .inr false=>by decide +kernel
 | .inr true=>by decide +kernel
def NextA (n:Nat) (H:Hp) (x:XA) (i:Nat):Prop:=∃o,opsA[i]?=some o∧o.guard=none∧opE cxA (TA n x) o.op o.type H fun v' s' H'=>H'=H∧∃y mm,LA y=(LA x).setIfInBounds i true∧Sub cxA mm (s'.put cxA.n o.dst v') (TA n y)
theorem quo_in {n:Nat} (hn:n<18446744073709551616):0≤(n:Int).tdiv 10∧(n:Int).tdiv 10≤18446744073709551615:=by
 show 0≤((n / 10:Nat):Int)∧((n / 10:Nat):Int)≤18446744073709551615;omega
theorem chr_row (n:Nat):[[Value.int .u8 ((48+n % 10:Nat):Int)]]=byteRows [chrA n]:=by
 have e:=dig_nat (n:=n % 10) (by omega)
 simp only[byteRows,List.map_cons,List.map_nil,chrA,e]
theorem nA0 {n:Nat} {H:Hp}:∀q,NextA n H (.inl (.a,q)) 0
 | .a=>⟨_,rfl,rfl,by
  refine⟨rfl,.inl (.b,.a),[(0,0)],rfl,?_⟩
  (repeat' (first|exact trivial|refine⟨?_,?_⟩|exact rfl|assumption))⟩
 | .b=>⟨_,rfl,rfl,by
  refine⟨rfl,.inl (.b,.b),[(0,0)],rfl,?_⟩
  (repeat' (first|exact trivial|refine⟨?_,?_⟩|exact rfl|assumption))⟩
 | .c=>⟨_,rfl,rfl,by
  refine⟨rfl,.inl (.b,.c),[(0,0)],rfl,?_⟩
  (repeat' (first|exact trivial|refine⟨?_,?_⟩|exact rfl|assumption))⟩
 | .d=>⟨_,rfl,rfl,by
  refine⟨rfl,.inl (.b,.d),[(0,0)],rfl,?_⟩
  (repeat' (first|exact trivial|refine⟨?_,?_⟩|exact rfl|assumption))⟩
 | .e=>⟨_,rfl,rfl,by
  refine⟨rfl,.inl (.b,.e),[(0,0)],rfl,?_⟩
  (repeat' (first|exact trivial|refine⟨?_,?_⟩|exact rfl|assumption))⟩
 | .f=>⟨_,rfl,rfl,by
  refine⟨rfl,.inl (.b,.f),[(0,0)],rfl,?_⟩
  (repeat' (first|exact trivial|refine⟨?_,?_⟩|exact rfl|assumption))⟩
 | .g=>⟨_,rfl,rfl,by
  refine⟨rfl,.inl (.b,.g),[(0,0)],rfl,?_⟩
  (repeat' (first|exact trivial|refine⟨?_,?_⟩|exact rfl|assumption))⟩
theorem nA1 {n:Nat} {H:Hp} (hn:n<18446744073709551616):∀q,NextA n H (.inl (.b,q)) 1
 | .a=>⟨_,rfl,rfl,by
  refine⟨by decide,quo_in hn,rfl,.inl (.c,.a),[(0,0)],rfl,?_⟩
  (repeat' (first|exact trivial|refine⟨?_,?_⟩|exact rfl|assumption))⟩
 | .b=>⟨_,rfl,rfl,by
  refine⟨by decide,quo_in hn,rfl,.inl (.c,.b),[(0,0)],rfl,?_⟩
  (repeat' (first|exact trivial|refine⟨?_,?_⟩|exact rfl|assumption))⟩
 | .c=>⟨_,rfl,rfl,by
  refine⟨by decide,quo_in hn,rfl,.inl (.c,.c),[(0,0)],rfl,?_⟩
  (repeat' (first|exact trivial|refine⟨?_,?_⟩|exact rfl|assumption))⟩
 | .d=>⟨_,rfl,rfl,by
  refine⟨by decide,quo_in hn,rfl,.inl (.c,.d),[(0,0)],rfl,?_⟩
  (repeat' (first|exact trivial|refine⟨?_,?_⟩|exact rfl|assumption))⟩
 | .e=>⟨_,rfl,rfl,by
  refine⟨by decide,quo_in hn,rfl,.inl (.c,.e),[(0,0)],rfl,?_⟩
  (repeat' (first|exact trivial|refine⟨?_,?_⟩|exact rfl|assumption))⟩
 | .f=>⟨_,rfl,rfl,by
  refine⟨by decide,quo_in hn,rfl,.inl (.c,.f),[(0,0)],rfl,?_⟩
  (repeat' (first|exact trivial|refine⟨?_,?_⟩|exact rfl|assumption))⟩
 | .g=>⟨_,rfl,rfl,by
  refine⟨by decide,quo_in hn,rfl,.inl (.c,.g),[(0,0)],rfl,?_⟩
  (repeat' (first|exact trivial|refine⟨?_,?_⟩|exact rfl|assumption))⟩
theorem nA2 {n:Nat} {H:Hp} (hc:∀(K:Value→Hp→Prop),K (.string (bs (dg (n / 10)))) H→Does Tryd.prog 19 [.int .u64 ((n / 10:Nat):Int)] H K):∀q,NextA n H (.inl (.c,q)) 2
 | .a=>⟨_,rfl,rfl,by
  refine hc _ ?_;refine⟨rfl,.inl (.d,.a),[(0,0)],rfl,?_⟩
  (repeat' (first|exact trivial|refine⟨?_,?_⟩|exact rfl|assumption))⟩
 | .b=>⟨_,rfl,rfl,by
  refine hc _ ?_;refine⟨rfl,.inl (.d,.b),[(0,0)],rfl,?_⟩
  (repeat' (first|exact trivial|refine⟨?_,?_⟩|exact rfl|assumption))⟩
 | .c=>⟨_,rfl,rfl,by
  refine hc _ ?_;refine⟨rfl,.inl (.d,.c),[(0,0)],rfl,?_⟩
  (repeat' (first|exact trivial|refine⟨?_,?_⟩|exact rfl|assumption))⟩
 | .d=>⟨_,rfl,rfl,by
  refine hc _ ?_;refine⟨rfl,.inl (.d,.d),[(0,0)],rfl,?_⟩
  (repeat' (first|exact trivial|refine⟨?_,?_⟩|exact rfl|assumption))⟩
 | .e=>⟨_,rfl,rfl,by
  refine hc _ ?_;refine⟨rfl,.inl (.d,.e),[(0,0)],rfl,?_⟩
  (repeat' (first|exact trivial|refine⟨?_,?_⟩|exact rfl|assumption))⟩
 | .f=>⟨_,rfl,rfl,by
  refine hc _ ?_;refine⟨rfl,.inl (.d,.f),[(0,0)],rfl,?_⟩
  (repeat' (first|exact trivial|refine⟨?_,?_⟩|exact rfl|assumption))⟩
 | .g=>⟨_,rfl,rfl,by
  refine hc _ ?_;refine⟨rfl,.inl (.d,.g),[(0,0)],rfl,?_⟩
  (repeat' (first|exact trivial|refine⟨?_,?_⟩|exact rfl|assumption))⟩
theorem nB0 {n:Nat} {H:Hp}:∀p,NextA n H (.inl (p,.a)) 3
 | .a=>⟨_,rfl,rfl,by
  refine⟨rfl,.inl (.a,.b),[(0,0)],rfl,?_⟩
  (repeat' (first|exact trivial|refine⟨?_,?_⟩|exact rfl|assumption))⟩
 | .b=>⟨_,rfl,rfl,by
  refine⟨rfl,.inl (.b,.b),[(0,0)],rfl,?_⟩
  (repeat' (first|exact trivial|refine⟨?_,?_⟩|exact rfl|assumption))⟩
 | .c=>⟨_,rfl,rfl,by
  refine⟨rfl,.inl (.c,.b),[(0,0)],rfl,?_⟩
  (repeat' (first|exact trivial|refine⟨?_,?_⟩|exact rfl|assumption))⟩
 | .d=>⟨_,rfl,rfl,by
  refine⟨rfl,.inl (.d,.b),[(0,0)],rfl,?_⟩
  (repeat' (first|exact trivial|refine⟨?_,?_⟩|exact rfl|assumption))⟩
theorem nB1 {n:Nat} {H:Hp}:∀p,NextA n H (.inl (p,.b)) 4
 | .a=>⟨_,rfl,rfl,by
  refine⟨by decide,rfl,.inl (.a,.c),[(0,0)],rfl,?_⟩
  (repeat' (first|exact trivial|refine⟨?_,?_⟩|exact rfl|assumption))⟩
 | .b=>⟨_,rfl,rfl,by
  refine⟨by decide,rfl,.inl (.b,.c),[(0,0)],rfl,?_⟩
  (repeat' (first|exact trivial|refine⟨?_,?_⟩|exact rfl|assumption))⟩
 | .c=>⟨_,rfl,rfl,by
  refine⟨by decide,rfl,.inl (.c,.c),[(0,0)],rfl,?_⟩
  (repeat' (first|exact trivial|refine⟨?_,?_⟩|exact rfl|assumption))⟩
 | .d=>⟨_,rfl,rfl,by
  refine⟨by decide,rfl,.inl (.d,.c),[(0,0)],rfl,?_⟩
  (repeat' (first|exact trivial|refine⟨?_,?_⟩|exact rfl|assumption))⟩
theorem nB2 {n:Nat} {H:Hp}:∀p,NextA n H (.inl (p,.c)) 5
 | .a=>⟨_,rfl,rfl,by
  refine⟨⟨by omega,by omega⟩,rfl,.inl (.a,.d),[(0,0)],rfl,?_⟩
  (repeat' (first|exact trivial|refine⟨?_,?_⟩|exact rfl|assumption))⟩
 | .b=>⟨_,rfl,rfl,by
  refine⟨⟨by omega,by omega⟩,rfl,.inl (.b,.d),[(0,0)],rfl,?_⟩
  (repeat' (first|exact trivial|refine⟨?_,?_⟩|exact rfl|assumption))⟩
 | .c=>⟨_,rfl,rfl,by
  refine⟨⟨by omega,by omega⟩,rfl,.inl (.c,.d),[(0,0)],rfl,?_⟩
  (repeat' (first|exact trivial|refine⟨?_,?_⟩|exact rfl|assumption))⟩
 | .d=>⟨_,rfl,rfl,by
  refine⟨⟨by omega,by omega⟩,rfl,.inl (.d,.d),[(0,0)],rfl,?_⟩
  (repeat' (first|exact trivial|refine⟨?_,?_⟩|exact rfl|assumption))⟩
theorem nB3 {n:Nat} {H:Hp}:∀p,NextA n H (.inl (p,.d)) 6
 | .a=>⟨_,rfl,rfl,by
  refine⟨⟨by omega,by omega⟩,rfl,.inl (.a,.e),[(0,0)],rfl,?_⟩
  (repeat' (first|exact trivial|refine⟨?_,?_⟩|exact rfl|assumption))⟩
 | .b=>⟨_,rfl,rfl,by
  refine⟨⟨by omega,by omega⟩,rfl,.inl (.b,.e),[(0,0)],rfl,?_⟩
  (repeat' (first|exact trivial|refine⟨?_,?_⟩|exact rfl|assumption))⟩
 | .c=>⟨_,rfl,rfl,by
  refine⟨⟨by omega,by omega⟩,rfl,.inl (.c,.e),[(0,0)],rfl,?_⟩
  (repeat' (first|exact trivial|refine⟨?_,?_⟩|exact rfl|assumption))⟩
 | .d=>⟨_,rfl,rfl,by
  refine⟨⟨by omega,by omega⟩,rfl,.inl (.d,.e),[(0,0)],rfl,?_⟩
  (repeat' (first|exact trivial|refine⟨?_,?_⟩|exact rfl|assumption))⟩
theorem nB4 {n:Nat} {H:Hp}:∀p,NextA n H (.inl (p,.e)) 7
 | .a=>⟨_,rfl,rfl,by
  refine⟨rfl,.inl (.a,.f),[(0,1)],rfl,?_⟩
  (repeat' (first|exact trivial|refine⟨?_,?_⟩|exact rfl|assumption))⟩
 | .b=>⟨_,rfl,rfl,by
  refine⟨rfl,.inl (.b,.f),[(0,1)],rfl,?_⟩
  (repeat' (first|exact trivial|refine⟨?_,?_⟩|exact rfl|assumption))⟩
 | .c=>⟨_,rfl,rfl,by
  refine⟨rfl,.inl (.c,.f),[(0,1)],rfl,?_⟩
  (repeat' (first|exact trivial|refine⟨?_,?_⟩|exact rfl|assumption))⟩
 | .d=>⟨_,rfl,rfl,by
  refine⟨rfl,.inl (.d,.f),[(0,1)],rfl,?_⟩
  (repeat' (first|exact trivial|refine⟨?_,?_⟩|exact rfl|assumption))⟩
theorem nB5 {n:Nat} {H:Hp}:∀p,NextA n H (.inl (p,.f)) 8
 | .a=>⟨_,rfl,rfl,by
  refine⟨[chrA n],chr_row n,rfl,.inl (.a,.g),[(0,0)],rfl,?_⟩
  (repeat' (first|exact trivial|refine⟨?_,?_⟩|exact rfl|assumption))⟩
 | .b=>⟨_,rfl,rfl,by
  refine⟨[chrA n],chr_row n,rfl,.inl (.b,.g),[(0,0)],rfl,?_⟩
  (repeat' (first|exact trivial|refine⟨?_,?_⟩|exact rfl|assumption))⟩
 | .c=>⟨_,rfl,rfl,by
  refine⟨[chrA n],chr_row n,rfl,.inl (.c,.g),[(0,0)],rfl,?_⟩
  (repeat' (first|exact trivial|refine⟨?_,?_⟩|exact rfl|assumption))⟩
 | .d=>⟨_,rfl,rfl,by
  refine⟨[chrA n],chr_row n,rfl,.inl (.d,.g),[(0,0)],rfl,?_⟩
  (repeat' (first|exact trivial|refine⟨?_,?_⟩|exact rfl|assumption))⟩
theorem nE {n:Nat} (hn:n<18446744073709551616) {H:Hp}:NextA n H (.inl (.d,.g)) 9:=⟨_,rfl,rfl,by
  have h1:=dg_len20 (n:=n / 10) (by omega);refine⟨by show (dg (n / 10)).length+1≤_;omega,rfl,.inr false,[(0,0)],rfl,?_⟩
  (repeat' (first|exact trivial|refine⟨?_,?_⟩|exact rfl|assumption))⟩
theorem nF {n:Nat} {H:Hp}:NextA n H (.inr false) 10:=⟨_,rfl,rfl,by
  refine⟨rfl,.inr true,[(0,0)],rfl,?_⟩
  (repeat' (first|exact trivial|refine⟨?_,?_⟩|exact rfl|assumption))⟩
theorem stepA {n:Nat} (hn:n<18446744073709551616) {H:Hp} (hc:∀(K:Value→Hp→Prop),K (.string (bs (dg (n / 10)))) H→Does Tryd.prog 19 [.int .u64 ((n / 10:Nat):Int)] H K):
  ∀x,∀i∈Region.ready .any opsA (LA x),NextA n H x i:=by
 have ha:∀(p:PA) (q:PB),∀i∈nA p++nB q,NextA n H (.inl (p,q)) i:=by
  intro p q i hi
  rcases List.mem_append.1 hi with hi | hi
  ·cases p
   ·rw[List.mem_singleton.1 hi];exact nA0 q
   ·rw[List.mem_singleton.1 hi];exact nA1 hn q
   ·rw[List.mem_singleton.1 hi];exact nA2 hc q
   ·cases hi
  ·cases q
   ·rw[List.mem_singleton.1 hi];exact nB0 p
   ·rw[List.mem_singleton.1 hi];exact nB1 p
   ·rw[List.mem_singleton.1 hi];exact nB2 p
   ·rw[List.mem_singleton.1 hi];exact nB3 p
   ·rw[List.mem_singleton.1 hi];exact nB4 p
   ·rw[List.mem_singleton.1 hi];exact nB5 p
   ·cases hi
 intro x i hi;rw[ready_A x]at hi
 match x,hi with
 | .inl (.d,.g),hi=>rw[List.mem_singleton.1 hi];exact nE hn
 | .inl (.a,.a),hi=>exact ha _ _ i hi
 | .inl (.a,.b),hi=>exact ha _ _ i hi
 | .inl (.a,.c),hi=>exact ha _ _ i hi
 | .inl (.a,.d),hi=>exact ha _ _ i hi
 | .inl (.a,.e),hi=>exact ha _ _ i hi
 | .inl (.a,.f),hi=>exact ha _ _ i hi
 | .inl (.a,.g),hi=>exact ha _ _ i hi
 | .inl (.b,.a),hi=>exact ha _ _ i hi
 | .inl (.b,.b),hi=>exact ha _ _ i hi
 | .inl (.b,.c),hi=>exact ha _ _ i hi
 | .inl (.b,.d),hi=>exact ha _ _ i hi
 | .inl (.b,.e),hi=>exact ha _ _ i hi
 | .inl (.b,.f),hi=>exact ha _ _ i hi
 | .inl (.b,.g),hi=>exact ha _ _ i hi
 | .inl (.c,.a),hi=>exact ha _ _ i hi
 | .inl (.c,.b),hi=>exact ha _ _ i hi
 | .inl (.c,.c),hi=>exact ha _ _ i hi
 | .inl (.c,.d),hi=>exact ha _ _ i hi
 | .inl (.c,.e),hi=>exact ha _ _ i hi
 | .inl (.c,.f),hi=>exact ha _ _ i hi
 | .inl (.c,.g),hi=>exact ha _ _ i hi
 | .inl (.d,.a),hi=>exact ha _ _ i hi
 | .inl (.d,.b),hi=>exact ha _ _ i hi
 | .inl (.d,.c),hi=>exact ha _ _ i hi
 | .inl (.d,.d),hi=>exact ha _ _ i hi
 | .inl (.d,.e),hi=>exact ha _ _ i hi
 | .inl (.d,.f),hi=>exact ha _ _ i hi
 | .inr false,hi=>rw[List.mem_singleton.1 hi];exact nF
theorem endA:∀x,Region.ready .any opsA (LA x)=[]→x = .inr true
 | .inr true,_=>rfl
 | .inr false,h=>by rw[ready_A]at h;cases h
 | .inl (p,q),h=>by rw[ready_A]at h;cases p<;>cases q<;>cases h
theorem regionA {n:Nat} (hn:n<18446744073709551616) {H:Hp} (hc:∀(K:Value→Hp→Prop),K (.string (bs (dg (n / 10)))) H→Does Tryd.prog 19 [.int .u64 ((n / 10:Nat):Int)] H K)
  {id:Nat} {Q:Ex→St→Hp→Prop} {s:St} (hs:∃mm,Sub cxA mm s (TA n (.inl (.a,.a)))) (hQ:Q .normal (TA n (.inr true)) H):RawCode cxA (.region id opsA true) Q s H :=
 region_tree cxA_ok cx_mix (TA n) LA (.inl (.a,.a)) hs rfl (fun x=>by match x with | .inl (p,q)=>cases p<;>cases q<;>rfl | .inr true=>rfl | .inr false=>rfl) (fun x i hi=>stepA hn hc x i hi) (fun x hx=>by rw[endA x hx];exact hQ)
theorem ahead_spec:∀ {n:Nat},n<18446744073709551616→∀ {H:Hp} {K:Value→Hp→Prop},K (.string (bs (dg n))) H→Does Tryd.prog 19 [.int .u64 n] H K:=by
 intro n
 induction n using Nat.strongRecOn with
 | _ n ih =>
  intro hn H K hK
  by_cases h1:n<10
  ·rw[dg_small h1]at hK;exact ahead_small h1 hK
  ·refine spec_of cx_ok cx_mix rfl Tryd.func19 Tryd.call19 Tryd.ntmps19 Tryd.results19 rfl rfl ?_;refine⟨fun h=>absurd (dt h) (by omega),fun _=>?_⟩;rw[dg_big h1]at hK;refine⟨none,regionA hn (fun K' hk=>ih (n / 10) (by omega) (by omega) hk) ⟨[],?_⟩ ?_⟩
   ·(repeat' (first|exact trivial|refine⟨?_,?_⟩|exact rfl|assumption))
   ·exact hK
end Go.Proofs
end
section
/- Plain words: the texts of any number and of any script, the program's and the document's. -/
namespace Go.Proofs
open Go.Sy
set_option maxRecDepth 20000
theorem ahead_spec' {x:Int} {n:Nat} (hx:x=n) (hn:n<18446744073709551616) {H:Hp} {K:Value→Hp→Prop} (hK:K (.string (bs (dg n))) H):Does Tryd.prog 19 [.int .u64 x] H K:=by
 subst hx;exact ahead_spec hn hK
theorem digits_spec {n:Int} (hn : -9223372036854775808≤n∧n≤9223372036854775807) {H:Hp} {K:Value→Hp→Prop} (hK:K (.string (bs (dgS n))) H):Does Tryd.prog 11 [.int .i64 n] H K:=by
 refine spec_of cxw_ok cx_mix rfl Tryd.func11 Tryd.call11 Tryd.ntmps11 Tryd.results11 rfl rfl ?_;refine⟨fun h=>?_,fun h=>?_⟩
 ·have h:=dt h;rw[dgS,if_pos h]at hK
  obtain⟨m,hm⟩:∃m:Nat,m=(0 - n).toNat:=⟨_,rfl⟩
  have e1:IntKind.u64.wrap (0 - IntKind.u64.wrap n)=(m:Int):=by
   rw[IntKind.wrap_u64,IntKind.wrap_u64];omega
  rw[←hm]at hK;have h1:=dg_len20 (n:=m) (by omega);refine ahead_spec' e1 (by omega) ?_;refine⟨by show 1+(dg m).length≤_;omega,?_⟩;exact hK
 ·have h:=df h;rw[dgS,if_neg h]at hK
  obtain⟨m,hm⟩:∃m:Nat,m=n.toNat:=⟨_,rfl⟩
  have e1:IntKind.u64.wrap n=(m:Int):=by
   rw[IntKind.wrap_u64];omega
  rw[←hm]at hK;refine ahead_spec' e1 (by omega) ?_;exact hK
theorem rdigits_spec:∀ {n:Nat},n<18446744073709551616→∀ {H:Hp} {K:Value→Hp→Prop},K (.string (bs (dg n))) H→Does Tryd.prog 26 [.int .u64 n] H K:=by
 intro n
 induction n using Nat.strongRecOn with
 | _ n ih =>
  intro hn H K hK;have h1:=dg_len20 (n:=n / 10) (by omega);refine spec_of cx_ok cx_mix rfl Tryd.func26 Tryd.call26 Tryd.ntmps26 Tryd.results26 rfl rfl ?_;refine⟨by decide,?_⟩;refine⟨⟨by show 0≤48+((n % 10:Nat):Int);omega,by show 48+((n % 10:Nat):Int)≤_;omega⟩,?_⟩;refine⟨⟨by show 0≤48+((n % 10:Nat):Int);omega,by show 48+((n % 10:Nat):Int)≤_;omega⟩,?_⟩;refine⟨[chrA n],chr_row n,?_⟩;refine⟨fun h=>?_,fun h=>?_⟩
  ·have h:=dt h;rw[dg_small (by omega)]at hK
   have e:chrA n=UInt8.ofNat (48+n):=by rw[chrA,Nat.mod_eq_of_lt (by omega)]
   rw[←e]at hK;exact hK
  ·have h:=df h;refine⟨by decide,quo_in hn,?_⟩;refine ih (n / 10) (by omega) (by omega) ?_;refine⟨by show (dg (n / 10)).length+1≤_;omega,?_⟩;rw[dg_big (by omega)]at hK;exact hK
theorem rdigits_spec' {x:Int} {n:Nat} (hx:x=n) (hn:n<18446744073709551616) {H:Hp} {K:Value→Hp→Prop} (hK:K (.string (bs (dg n))) H):Does Tryd.prog 26 [.int .u64 x] H K:=by
 subst hx;exact rdigits_spec hn hK
theorem rDigits_spec {n:Int} (hn : -9223372036854775808≤n∧n≤9223372036854775807) {H:Hp} {K:Value→Hp→Prop} (hK:K (.string (bs (dgS n))) H):Does Tryd.prog 16 [.int .i64 n] H K:=by
 refine spec_of cxw_ok cx_mix rfl Tryd.func16 Tryd.call16 Tryd.ntmps16 Tryd.results16 rfl rfl ?_;refine⟨fun h=>?_,fun h=>?_⟩
 ·have h:=dt h;rw[dgS,if_pos h]at hK
  obtain⟨m,hm⟩:∃m:Nat,m=(0 - n).toNat:=⟨_,rfl⟩
  have e1:IntKind.u64.wrap (0 - IntKind.u64.wrap n)=(m:Int):=by
   rw[IntKind.wrap_u64,IntKind.wrap_u64];omega
  rw[←hm]at hK;have h1:=dg_len20 (n:=m) (by omega);refine rdigits_spec' e1 (by omega) ?_;refine⟨by show 1+(dg m).length≤_;omega,?_⟩;exact hK
 ·have h:=df h;rw[dgS,if_neg h]at hK
  obtain⟨m,hm⟩:∃m:Nat,m=n.toNat:=⟨_,rfl⟩
  have e1:IntKind.u64.wrap n=(m:Int):=by
   rw[IntKind.wrap_u64];omega
  rw[←hm]at hK;refine rdigits_spec' e1 (by omega) ?_;exact hK
theorem text_spec {l:List Pick} {a1:Option Addr} {n1 c1:Nat} {H:Hp} {K:Value→Hp→Prop} (ha:RL H a1 n1 c1 l) (hs:∀p∈l,inPk p) (hl:l.length≤2000)
  (hK:∀H',Le H H'→K (.string (bs (stx l))) H'):Does Tryd.prog 5 [.slice a1 n1 c1] H K:=by
 have hn1:=ha.n_eq;have hj:=stx_len hs;refine spec_of cx_ok cx_mix rfl Tryd.func5 Tryd.call5 Tryd.ntmps5 Tryd.results5 rfl rfl ?_;refine⟨Nat,fun i=>⟨[(3,.own 0),(6,.v (.slice a1 n1 c1)),(7,.v (.int .i64 n1)),(8,.v (.int .i64 i))],[(0,.row 9 1 ((l.take i).map fun p=>strC (ptx p)))],1⟩,fun i H'=>Le H H'∧i≤l.length,fun i=>l.length - i,⟨0,[],?_,Le.refl H,by omega⟩,?_⟩
 ·exact⟨⟨⟨rfl,rfl,rfl⟩,rfl,rfl,rfl,trivial⟩,⟨rfl,trivial⟩⟩
 rintro i H1 _ ⟨hle,hi⟩;refine⟨fun h=>?_,fun h=>?_⟩
 ·have hlt:i<l.length:=by have:=dt h;omega
  have hx:=List.getElem?_eq_getElem hlt;have hq:=ha.up hle;have hr:=hq.elem hx;obtain⟨ad,cs,e1,h1,r1⟩:=hr;rw[pick_open r1]at h1;have hsx:=hs _ (List.mem_of_getElem? hx);refine⟨ad,⟨by omega,by omega,e1⟩,?_⟩;refine⟨_,h1,?_⟩;refine⟨some ([0],[0,1,2,5,6,3,4,7,8,9,10,11]),by kernel_rfl,?_⟩;have hd1:(sl (bs (dgS (l[i]).1))).length≤21:=dgS_len hsx.1;have hd2:(sl (bs (dgS (l[i]).2))).length≤21:=dgS_len hsx.2;refine digits_spec hsx.1 ?_;refine⟨by show (sl (bs (dgS (l[i]).1))).length+1≤_;omega,?_⟩;refine digits_spec hsx.2 ?_;refine⟨by show ((sl (bs (dgS (l[i]).1)))++[58]).length+(sl (bs (dgS (l[i]).2))).length≤_;rw[List.length_append];simp only[List.length_singleton];omega,?_⟩
  have hlen:((l.take i).map fun p=>strC (ptx p)).length=i:=by rw[List.length_map,List.length_take];omega
  refine⟨⟨by show (((l.take i).map fun p=>strC (ptx p)).length+1)*16≤_;omega,by show ((l.take i).map fun p=>strC (ptx p)).length+1≤_;omega⟩,?_⟩
  have erow:((l.take i).map fun p=>strC (ptx p))++[strC (ptx l[i])]=(l.take (i+1)).map fun p=>strC (ptx p):=map_take_succ (fun p=>strC (ptx p)) hx
  refine⟨⟨by omega,by omega⟩,i+1,[(0,3)],?_,⟨hle,by omega⟩,by dsimp only;omega⟩;exact⟨⟨rfl,rfl,rfl,rfl,trivial⟩,⟨erow,trivial⟩⟩
 ·have hil:i=l.length:=by have:=df h;omega
  intro x H2 hle2 hx
  have hlx:∀s∈l.map ptx,s.l.length≤9223372036854775807:=by
   intro s hs2;simp only[List.mem_map]at hs2;obtain⟨p,hp,rfl⟩:=hs2;have h1:=ptx_len (hs p hp);omega
  have hrc:=rc_strs (H:=H2) hlx;rw[List.map_map]at hrc
  have et:((l.take i).map fun p=>strC (ptx p))=l.map (strC∘ptx):=by rw[hil,List.take_length];rfl
  rw[et]at hx;obtain⟨a,n2,c2,e,hr⟩:=RL.of_row (α:=Str) hx hrc;subst e;rw[stx]at hj;refine join_spec hr (by omega) ?_;intro H3 hle3;exact hK H1 hle
theorem elem_ptx {l:List Pick} {i:Nat} (h:i<l.length):elem (l.map ptx) i=(ptx l[i]).l:=by
 have h1:=elem_at (l:=l.map ptx) (i:=i) (by rw[List.length_map];exact h)
 rw[List.getElem?_map,List.getElem?_eq_getElem h]at h1;simp only[Option.map_some,Option.some.injEq]at h1;rw[h1]
theorem elem_len {l:List Pick} (hs:∀p∈l,inPk p) (i:Nat):(elem (l.map ptx) i).length≤43:=by
 rcases Nat.lt_or_ge i l.length with h | h
 ·rw[elem_ptx h];exact ptx_len (hs _ (List.getElem_mem h))
 ·rw[elem,List.getD_eq_getElem?_getD,List.getElem?_eq_none (by rw[List.length_map];exact h)];simp
theorem jn_len44 {l:List Pick} (hs:∀p∈l,inPk p):∀i,(jn (l.map ptx) [32] i).length≤44*i
 | 0=>by simp [jn]
 | 1=>by have:=elem_len hs 0;rw[jn];omega
 | i+2=>by
  have h1:=jn_len44 hs (i+1);have h2:=elem_len hs (i+1);rw[jn,List.length_append,List.length_append,List.length_singleton];omega
theorem jn_next {l:List Pick} {i:Nat} (h:i<l.length) (h0:0<i):jn (l.map ptx) [32] i++([32]:List UInt8)++(dgS (l[i]).1++([58]:List UInt8)++dgS (l[i]).2)=jn (l.map ptx) [32] (i+1):=by
 obtain⟨j,rfl⟩:∃j,i=j+1:=⟨i - 1,by omega⟩
 rw[jn,elem_ptx h]
 rfl
theorem jn_first {l:List Pick} (h:0<l.length):jn (l.map ptx) [32] 0++(dgS (l[0]).1++([58]:List UInt8)++dgS (l[0]).2)=jn (l.map ptx) [32] (0+1):=by
 show []++(dgS (l[0]).1++([58]:List UInt8)++dgS (l[0]).2)=elem (l.map ptx) 0;rw[elem_ptx h]
 rfl
theorem rtext_spec {l:List Pick} {a1:Option Addr} {n1 c1:Nat} {H:Hp} {K:Value→Hp→Prop} (ha:RL H a1 n1 c1 l) (hs:∀p∈l,inPk p) (hl:l.length≤2000)
  (hK:∀H',Le H H'→K (.string (bs (stx l))) H'):Does Tryd.prog 7 [.slice a1 n1 c1] H K:=by
 have hn1:=ha.n_eq;refine spec_of cx_ok cx_mix rfl Tryd.func7 Tryd.call7 Tryd.ntmps7 Tryd.results7 rfl rfl ?_;refine⟨Nat,fun i=>⟨[(3,.v (.string (bs (jn (l.map ptx) [32] i)))),(6,.v (.slice a1 n1 c1)),(7,.v (.int .i64 n1)),(8,.v (.int .i64 i))],[],0⟩,fun i H'=>Le H H'∧i≤l.length,fun i=>l.length - i,⟨0,[],?_,Le.refl H,by omega⟩,?_⟩
 ·exact⟨⟨rfl,rfl,rfl,rfl,trivial⟩,trivial⟩
 rintro i H1 _ ⟨hle,hi⟩;refine⟨fun h=>?_,fun h=>?_⟩
 ·have hlt:i<l.length:=by have:=dt h;omega
  have hx:=List.getElem?_eq_getElem hlt;have hq:=ha.up hle;have hr:=hq.elem hx;obtain⟨ad,cs,e1,h1,r1⟩:=hr;rw[pick_open r1]at h1;have hsx:=hs _ (List.mem_of_getElem? hx);refine⟨ad,⟨by omega,by omega,e1⟩,?_⟩;refine⟨_,h1,?_⟩;have hd1:(dgS (l[i]).1).length≤21:=dgS_len hsx.1;have hd2:(dgS (l[i]).2).length≤21:=dgS_len hsx.2;have hd1':(sl (bs (dgS (l[i]).1))).length≤21:=dgS_len hsx.1;have hd2':(sl (bs (dgS (l[i]).2))).length≤21:=dgS_len hsx.2;have hj:=jn_len44 hs i;refine⟨fun h0=>?_,fun h0=>?_⟩
  ·have h0:0<i:=by have:=dt h0;omega
   refine⟨by show (jn (l.map ptx) [32] i).length+1≤_;omega,?_⟩;refine⟨some ([],[0,1,2,5,6,3,4,7,8,9,10]),by kernel_rfl,?_⟩;refine rDigits_spec hsx.1 ?_;refine⟨by show (sl (bs (dgS (l[i]).1))).length+1≤_;omega,?_⟩;refine rDigits_spec hsx.2 ?_;refine⟨by show ((sl (bs (dgS (l[i]).1)))++[58]).length+(sl (bs (dgS (l[i]).2))).length≤_;rw[List.length_append];simp only[List.length_singleton];omega,?_⟩;refine⟨by show (jn (l.map ptx) [32] i++[32]).length+(dgS (l[i]).1++[58]++dgS (l[i]).2).length≤_;simp only[List.length_append,List.length_singleton];omega,?_⟩
   have e9:SV.v (.string (bs (jn (l.map ptx) [32] i++[32]++(dgS (l[i]).1++[58]++dgS (l[i]).2))))=SV.v (.string (bs (jn (l.map ptx) [32] (i+1)))):=by rw[jn_next hlt h0]
   refine⟨⟨by omega,by omega⟩,i+1,[],?_,⟨hle,by omega⟩,by dsimp only;omega⟩;exact⟨⟨e9,rfl,rfl,rfl,trivial⟩,trivial⟩
  ·have h0:i=0:=by have:=df h0;omega
   have en:jn (l.map ptx) [32] i++(dgS (l[i]).1++[58]++dgS (l[i]).2)=jn (l.map ptx) [32] (i+1):=by
    subst h0;exact jn_first hlt
   refine⟨some ([],[0,1,2,5,6,3,4,7,8,9,10]),by kernel_rfl,?_⟩;refine rDigits_spec hsx.1 ?_;refine⟨by show (sl (bs (dgS (l[i]).1))).length+1≤_;omega,?_⟩;refine rDigits_spec hsx.2 ?_;refine⟨by show ((sl (bs (dgS (l[i]).1)))++[58]).length+(sl (bs (dgS (l[i]).2))).length≤_;rw[List.length_append];simp only[List.length_singleton];omega,?_⟩;refine⟨by show (jn (l.map ptx) [32] i).length+(dgS (l[i]).1++[58]++dgS (l[i]).2).length≤_;simp only[List.length_append,List.length_singleton];omega,?_⟩
   have e9:SV.v (.string (bs (jn (l.map ptx) [32] i++(dgS (l[i]).1++[58]++dgS (l[i]).2))))=SV.v (.string (bs (jn (l.map ptx) [32] (i+1)))):=by rw[en]
   refine⟨⟨by omega,by omega⟩,i+1,[],?_,⟨hle,by omega⟩,by dsimp only;omega⟩;exact⟨⟨e9,rfl,rfl,rfl,trivial⟩,trivial⟩
 ·have hil:i=l.length:=by have:=df h;omega
  have h9:=hK H1 hle
  have ej:stx l=jn (l.map ptx) [32] i:=by rw[stx,joined,List.length_map,hil]
  rw[ej]at h9;exact h9
end Go.Proofs
end
