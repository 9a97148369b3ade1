/- Part 'M19' of the proof (N1, N2, N3, G1, P1, F1, F2, P2, P6): lemmas, each with its own conditions in its own statement. -/
import Derived.Test.YtheokcjommfopaaGreatDoorM0
import Derived.Test.YtheokcjommfopaaGreatDoorM1
import Derived.Test.YtheokcjommfopaaGreatDoorM16
import Derived.Test.YtheokcjommfopaaGreatDoorM18
section
namespace Go.Proofs
open Go.Sy
set_option maxRecDepth 20000
def letB (c:UInt8):Bool:=(decide (97≤(c.toNat:Int))&&decide ((c.toNat:Int)≤122))||(decide (65≤(c.toNat:Int))&&decide ((c.toNat:Int)≤90))||decide ((c.toNat:Int)=95)
def digB (c:UInt8):Bool:=decide (48≤(c.toNat:Int))&&decide ((c.toNat:Int)≤57)
theorem letter_spec {c:UInt8} {H:Hp} {K:Value→Hp→Prop} (hK:K (.bool (letB c)) H):Does Tryz.prog 136 [.int .u8 c.toNat] H K:=by
 refine spec_of cx_ok cx_mix rfl Tryz.func136 Tryz.call136 Tryz.ntmps136 Tryz.results136 rfl rfl ?_;refine⟨fun h1=>?_,fun h1=>?_⟩
 ·refine⟨fun h2=>?_,fun h2=>?_⟩
  ·refine⟨fun h3=>?_,fun h3=>?_⟩
   ·refine⟨fun h4=>?_,fun h4=>?_⟩
    ·exact kbool hK (by simp [letB,h1,h2,h3,h4])
    ·exact kbool hK (by simp [letB,h1,h2,h3,h4])
   ·exact kbool hK (by simp [letB,h1,h2,h3])
  ·exact kbool hK (by simp [letB,h1,h2])
 ·refine⟨fun h3=>?_,fun h3=>?_⟩
  ·refine⟨fun h4=>?_,fun h4=>?_⟩
   ·exact kbool hK (by simp [letB,h1,h3,h4])
   ·exact kbool hK (by simp [letB,h1,h3,h4])
  ·exact kbool hK (by simp [letB,h1,h3])
theorem digit_spec {c:UInt8} {H:Hp} {K:Value→Hp→Prop} (hK:K (.bool (digB c)) H):Does Tryz.prog 138 [.int .u8 c.toNat] H K:=by
 refine spec_of cx_ok cx_mix rfl Tryz.func138 Tryz.call138 Tryz.ntmps138 Tryz.results138 rfl rfl ?_;refine⟨fun h=>?_,fun h=>?_⟩
 ·exact kbool hK (by simp only[digB,h,Bool.true_and])
 ·exact kbool hK (by rw[digB,h];rfl)
theorem refletter_spec {c:UInt8} {H:Hp} {K:Value→Hp→Prop} (hK:K (.bool (letB c)) H):Does Tryz.prog 53 [.int .u8 c.toNat] H K:=by
 refine spec_of cx_ok cx_mix rfl Tryz.func53 Tryz.call53 Tryz.ntmps53 Tryz.results53 rfl rfl ?_;refine⟨fun h1=>?_,fun h1=>?_⟩
 ·refine⟨fun h2=>?_,fun h2=>?_⟩
  ·refine⟨fun h3=>?_,fun h3=>?_⟩
   ·refine⟨fun h4=>?_,fun h4=>?_⟩
    ·exact kbool hK (by simp [letB,h1,h2,h3,h4])
    ·exact kbool hK (by simp [letB,h1,h2,h3,h4])
   ·exact kbool hK (by simp [letB,h1,h2,h3])
  ·exact kbool hK (by simp [letB,h1,h2])
 ·refine⟨fun h3=>?_,fun h3=>?_⟩
  ·refine⟨fun h4=>?_,fun h4=>?_⟩
   ·exact kbool hK (by simp [letB,h1,h3,h4])
   ·exact kbool hK (by simp [letB,h1,h3,h4])
  ·exact kbool hK (by simp [letB,h1,h3])
theorem refdigit_spec {c:UInt8} {H:Hp} {K:Value→Hp→Prop} (hK:K (.bool (digB c)) H):Does Tryz.prog 55 [.int .u8 c.toNat] H K:=by
 refine spec_of cx_ok cx_mix rfl Tryz.func55 Tryz.call55 Tryz.ntmps55 Tryz.results55 rfl rfl ?_;refine⟨fun h=>?_,fun h=>?_⟩
 ·exact kbool hK (by simp only[digB,h,Bool.true_and])
 ·exact kbool hK (by rw[digB,h];rfl)
theorem all_take_succ (s:List UInt8) (f:UInt8→Bool) {i:Nat} {c:UInt8} (h:s[i]?=some c):(s.take (i+1)).all f=((s.take i).all f&&f c):=by
 rw[List.take_add_one,h,Option.toList_some,List.all_append];simp
theorem all_false (s:List UInt8) (f:UInt8→Bool) {i:Nat} {c:UInt8} (h:s[i]?=some c) (hf:f c=false):s.all f=false:=by
 rw[List.all_eq_false];exact⟨c,List.mem_of_getElem? h,by simp [hf]⟩
end Go.Proofs
end
section
namespace Go.Proofs
open Go.Sy
set_option maxRecDepth 20000
def words:List (List UInt8):=[[98,108,111,99,107],[103,111,116,111],[105,102],[116,104,101,110],[101,108,115,101],[114,101,116],[105,110],[111,117,116],[99,111,110,106]]
def wordB (s:List UInt8):Bool:=words.any fun w=>decide (s=w)
theorem words_at {β:Type} (f:List UInt8→β) {k:Nat} (h:k<9):(words.map f)[k]?=some (f (words.getD k [])):=by
 have:k<words.length:=h
 rw[List.getElem?_map,List.getD_eq_getElem?_getD,List.getElem?_eq_getElem this];rfl
theorem word_step (s:List UInt8) {k:Nat} (h:k<9):((words.take (k+1)).any fun w=>decide (s=w))=(((words.take k).any fun w=>decide (s=w))||decide (s=words.getD k [])):=by
 have hl:k<words.length:=h;rw[List.take_add_one,List.getElem?_eq_getElem hl,List.getD_eq_getElem?_getD,List.getElem?_eq_getElem hl,Option.toList_some,List.any_append];simp
theorem word_true (s:List UInt8) {k:Nat} (h:k<9) (he:s=words.getD k []):wordB s=true:=by
 have hl:k<words.length:=h;unfold wordB;rw[List.any_eq_true];refine⟨words.getD k [],?_,by simpa using he⟩;rw[List.getD_eq_getElem?_getD,List.getElem?_eq_getElem hl];exact List.getElem_mem hl
theorem word_spec {s:List UInt8} {H:Hp} {K:Value→Hp→Prop} (hK:K (.bool (wordB s)) H):Does Tryz.prog 137 [.string (bs s)] H K:=by
 refine spec_of cx_ok cx_mix rfl Tryz.func137 Tryz.call137 Tryz.ntmps137 Tryz.results137 rfl rfl ?_;refine⟨Nat,fun k=>⟨[(0,.v (.string (bs s))),(5,.agg (words.map fun w=>.v (.string (bs w)))),(6,.v (.int .i64 k))],[],0⟩,fun k H'=>H'=H∧k≤9∧((words.take k).any fun w=>decide (s=w))=false,fun k=>9 - k,⟨0,[],?_,rfl,by omega,rfl⟩,?_⟩
 ·exact⟨⟨rfl,⟨rfl,rfl⟩,rfl,trivial⟩,trivial⟩
 rintro k H1 _ ⟨rfl,hk,hany⟩;refine⟨fun h=>?_,fun h=>?_⟩
 ·have hlt:k<9:=by have:=dt h;omega
  refine⟨_,⟨by omega,by omega,words_at _ hlt⟩,?_⟩;refine⟨fun h=>?_,fun h=>?_⟩
  ·exact kbool hK (word_true s hlt (of_decide_eq_true h))
  ·refine⟨⟨by omega,by omega⟩,k+1,[],?_,⟨rfl,by omega,by rw[word_step s hlt,hany,Bool.false_or];exact h⟩,by dsimp only;omega⟩;exact⟨⟨rfl,⟨rfl,rfl⟩,rfl,trivial⟩,trivial⟩
 ·have hk9:k=9:=by have:=df h;omega
  subst hk9;exact kbool hK hany
end Go.Proofs
end
section
namespace Go.Proofs
open Go.Sy
set_option maxRecDepth 20000
theorem refword_spec {s:List UInt8} {H:Hp} {K:Value→Hp→Prop} (hK:K (.bool (wordB s)) H):Does Tryz.prog 54 [.string (bs s)] H K:=by
 refine spec_of cx_ok cx_mix rfl Tryz.func54 Tryz.call54 Tryz.ntmps54 Tryz.results54 rfl rfl ?_;refine⟨Nat,fun k=>⟨[(0,.v (.string (bs s))),(5,.own 0),(6,.v (.int .i64 9)),(7,.v (.int .i64 k))],[(0,.row 9 1 (words.map fun w=>[.string (bs w)]))],1⟩,fun k H'=>H'=H∧k≤9∧((words.take k).any fun w=>decide (s=w))=false,fun k=>9 - k,⟨0,[(0,0)],?_,rfl,by omega,rfl⟩,?_⟩
 ·exact⟨⟨rfl,rfl,rfl,rfl,trivial⟩,⟨rfl,trivial⟩⟩
 rintro k H1 _ ⟨rfl,hk,hany⟩;refine⟨fun h=>?_,fun h=>?_⟩
 ·have hlt:k<9:=by have:=dt h;omega
  have hl:(words.map fun w=>[Value.string (bs w)]).length=9:=rfl;refine⟨⟨by omega,by omega⟩,?_⟩;refine⟨_,words_at _ hlt,?_⟩;refine⟨fun h=>?_,fun h=>?_⟩
  ·exact kbool hK (word_true s hlt (of_decide_eq_true h))
  ·refine⟨⟨by omega,by omega⟩,k+1,[(0,0)],?_,⟨rfl,by omega,by rw[word_step s hlt,hany,Bool.false_or];exact h⟩,by dsimp only;omega⟩;exact⟨⟨rfl,rfl,rfl,rfl,trivial⟩,⟨rfl,trivial⟩⟩
 ·have hk9:k=9:=by have:=df h;omega
  subst hk9;exact kbool hK hany
def nmC (c:UInt8):Bool:=letB c||digB c
def nmB (s:List UInt8):Bool:=decide (1≤s.length)&&decide (s.length≤12)&&letB (s.headD 0)&&!wordB s&&s.all nmC
theorem nm_head {s:List UInt8} {c:UInt8} (h:s[0]?=some c):s.headD 0=c:=by
 cases s with
 | nil=>cases h
 | cons x r=>simpa using h
theorem name2_spec {s:List UInt8} {H:Hp} {K:Value→Hp→Prop} (hK:K (.bool (nmB s)) H) (hs:s.length≤9223372036854775807):Does Tryz.prog 87 [.string (bs s)] H K:=by
 have hsl:(sl (bs s)).length=s.length:=rfl;refine spec_of cx_ok cx_mix rfl Tryz.func87 Tryz.call87 Tryz.ntmps87 Tryz.results87 rfl rfl ?_;refine⟨fun h1=>?_,fun h1=>?_⟩
 ·have h1':¬((s.length:Int)<1):=of_decide_eq_false h1;refine⟨fun h2=>?_,fun h2=>?_⟩
  ·have h2':¬(12<(s.length:Int)):=of_decide_eq_false h2
   have h0:0<s.length:=by omega
   have hx0:=List.getElem?_eq_getElem h0;refine⟨_,⟨by omega,hx0⟩,?_⟩;refine letter_spec ?_;refine⟨fun h3=>?_,fun h3=>?_⟩
   ·have h3':letB s[0]=true:=by simpa using h3
    refine word_spec ?_;refine⟨fun h4=>?_,fun h4=>?_⟩
    ·exact kbool hK (by simp [nmB,h4])
    ·have hpre:nmB s=s.all nmC:=by
      unfold nmB;rw[nm_head hx0,h3',h4,decide_eq_true (show 1≤s.length by omega),decide_eq_true (show s.length≤12 by omega)]
      rfl
     refine⟨Nat,fun i=>⟨[(0,.v (.string (bs s))),(23,.v (.int .i64 s.length)),(24,.v (.int .i64 i))],[],0⟩,fun i H'=>H'=H∧i≤s.length∧(s.take i).all nmC=true,fun i=>s.length - i,⟨0,[],?_,rfl,by omega,rfl⟩,?_⟩
     ·exact⟨⟨rfl,rfl,rfl,trivial⟩,trivial⟩
     rintro i H1 _ ⟨rfl,hi,hall⟩;refine⟨fun h=>?_,fun h=>?_⟩
     ·have hlt:i<s.length:=by have:=dt h;omega
      have hx:=List.getElem?_eq_getElem hlt;refine⟨_,⟨by omega,hx⟩,?_⟩;refine letter_spec ?_;refine⟨fun h5=>?_,fun h5=>?_⟩
      ·have h5':letB s[i]=false:=by simpa using h5
       refine⟨_,⟨by omega,hx⟩,?_⟩;refine digit_spec ?_;refine⟨fun h6=>?_,fun h6=>?_⟩
       ·have h6':digB s[i]=false:=by simpa using h6
        exact kbool hK (by rw[hpre,all_false s nmC hx (by rw[nmC,h5',h6'];rfl)])
       ·have h6':digB s[i]=true:=by simpa using h6
        refine⟨⟨by omega,by omega⟩,i+1,[],?_,⟨rfl,by omega,by rw[all_take_succ s nmC hx,hall,nmC,h5',h6'];rfl⟩,by dsimp only;omega⟩;exact⟨⟨rfl,rfl,rfl,trivial⟩,trivial⟩
      ·have h5':letB s[i]=true:=by simpa using h5
       refine⟨⟨by omega,by omega⟩,i+1,[],?_,⟨rfl,by omega,by rw[all_take_succ s nmC hx,hall,nmC,h5'];rfl⟩,by dsimp only;omega⟩;exact⟨⟨rfl,rfl,rfl,trivial⟩,trivial⟩
     ·have hil:i=s.length:=by have:=df h;omega
      rw[hil,List.take_length]at hall;exact kbool hK (by rw[hpre,hall])
   ·have h3':letB s[0]=false:=by simpa using h3
    exact kbool hK (by simp only[nmB,nm_head hx0,h3',Bool.and_false,Bool.false_and])
  ·have h2':12<(s.length:Int):=of_decide_eq_true h2;exact kbool hK (by simp only[nmB,decide_eq_false (show ¬s.length≤12 by omega),Bool.and_false,Bool.false_and])
 ·have h1':(s.length:Int)<1:=of_decide_eq_true h1;exact kbool hK (by simp only[nmB,decide_eq_false (show ¬1≤s.length by omega),Bool.false_and])
theorem refname2_spec {s:List UInt8} {H:Hp} {K:Value→Hp→Prop} (hK:K (.bool (nmB s)) H) (hs:s.length≤9223372036854775807):Does Tryz.prog 25 [.string (bs s)] H K:=by
 have hsl:(sl (bs s)).length=s.length:=rfl;refine spec_of cx_ok cx_mix rfl Tryz.func25 Tryz.call25 Tryz.ntmps25 Tryz.results25 rfl rfl ?_;refine⟨fun h1=>?_,fun h1=>?_⟩
 ·have h1':¬((s.length:Int)=0):=of_decide_eq_false h1;refine⟨fun h2=>?_,fun h2=>?_⟩
  ·have h2':¬(12<(s.length:Int)):=of_decide_eq_false h2
   have h0:0<s.length:=by omega
   have hx0:=List.getElem?_eq_getElem h0;refine⟨_,⟨by omega,hx0⟩,?_⟩;refine refletter_spec ?_;refine⟨fun h3=>?_,fun h3=>?_⟩
   ·have h3':letB s[0]=true:=by simpa using h3
    refine refword_spec ?_;refine⟨fun h4=>?_,fun h4=>?_⟩
    ·exact kbool hK (by simp [nmB,h4])
    ·have hpre:nmB s=s.all nmC:=by
      unfold nmB;rw[nm_head hx0,h3',h4,decide_eq_true (show 1≤s.length by omega),decide_eq_true (show s.length≤12 by omega)]
      rfl
     refine⟨Nat,fun i=>⟨[(0,.v (.string (bs s))),(3,.v (.int .i64 i))],[],0⟩,fun i H'=>H'=H∧i≤s.length∧(s.take i).all nmC=true,fun i=>s.length - i,⟨0,[],?_,rfl,by omega,rfl⟩,?_⟩
     ·exact⟨⟨rfl,rfl,trivial⟩,trivial⟩
     rintro i H1 _ ⟨rfl,hi,hall⟩;refine⟨fun h=>?_,fun h=>?_⟩
     ·have hlt:i<s.length:=by have:=dt h;omega
      have hx:=List.getElem?_eq_getElem hlt;refine⟨_,⟨by omega,hx⟩,?_⟩;refine refletter_spec ?_;refine⟨fun h5=>?_,fun h5=>?_⟩
      ·have h5':letB s[i]=false:=by simpa using h5
       refine⟨_,⟨by omega,hx⟩,?_⟩;refine refdigit_spec ?_;refine⟨fun h6=>?_,fun h6=>?_⟩
       ·have h6':digB s[i]=false:=by simpa using h6
        exact kbool hK (by rw[hpre,all_false s nmC hx (by rw[nmC,h5',h6'];rfl)])
       ·have h6':digB s[i]=true:=by simpa using h6
        refine⟨⟨by omega,by omega⟩,i+1,[],?_,⟨rfl,by omega,by rw[all_take_succ s nmC hx,hall,nmC,h5',h6'];rfl⟩,by dsimp only;omega⟩;exact⟨⟨rfl,rfl,trivial⟩,trivial⟩
      ·have h5':letB s[i]=true:=by simpa using h5
       refine⟨⟨by omega,by omega⟩,i+1,[],?_,⟨rfl,by omega,by rw[all_take_succ s nmC hx,hall,nmC,h5'];rfl⟩,by dsimp only;omega⟩;exact⟨⟨rfl,rfl,trivial⟩,trivial⟩
     ·have hil:i=s.length:=by have:=df h;omega
      rw[hil,List.take_length]at hall;exact kbool hK (by rw[hpre,hall])
   ·have h3':letB s[0]=false:=by simpa using h3
    exact kbool hK (by simp only[nmB,nm_head hx0,h3',Bool.and_false,Bool.false_and])
  ·have h2':12<(s.length:Int):=of_decide_eq_true h2;exact kbool hK (by simp only[nmB,decide_eq_false (show ¬s.length≤12 by omega),Bool.and_false,Bool.false_and])
 ·have h1':(s.length:Int)=0:=of_decide_eq_true h1;exact kbool hK (by simp only[nmB,decide_eq_false (show ¬1≤s.length by omega),Bool.false_and])
end Go.Proofs
end
section
namespace Go.Proofs
open Go.Sy
set_option maxRecDepth 20000
def wrp (n:Int):Int:=(n+32768) % 65536 - 32768
def nOf (a:Nm):Nm:=(wrp a.1,wrp a.2)
def nOp (op:Int) (a b:Nm):Nm:=if op=0 then nOf a else if op=1 then nOf ((nOf a).1+(nOf b).1,(nOf a).2+(nOf b).2) else if op=2 then nOf ((nOf a).1 - (nOf b).1,(nOf a).2 - (nOf b).2)
 else if op=3 then nOf ((nOf a).1*(nOf b).1 - (nOf a).2*(nOf b).2,(nOf a).1*(nOf b).2+(nOf a).2*(nOf b).1) else if op=4 then nOf ((nOf a).1,0 - (nOf a).2) else (0,0)
def opIs (op:Int):Bool:=decide (0≤op∧op≤4)
theorem wrp_le (n:Int) : -32768≤wrp n∧wrp n≤32767:=by unfold wrp;omega
theorem wrp_id {n:Int} (h : -32768≤n∧n≤32767):wrp n=n:=by unfold wrp;omega
theorem wrp_wrp (n:Int):wrp (wrp n)=wrp n:=wrp_id (wrp_le n)
abbrev numV (a:Nm):Value:=.agg #[.int .i64 a.1,.int .i64 a.2]
theorem gwrap_spec {n:Int} {H:Hp} {K:Value→Hp→Prop} (hK:K (.int .i64 (wrp n)) H):Does Tryz.prog 227 [.int .i64 n] H K:=by
 refine spec_of cx_ok cx_mix rfl Tryz.func227 Tryz.call227 Tryz.ntmps227 Tryz.results227 rfl rfl ?_;refine⟨by decide,?_⟩
 have e:wrp n=if 32767<n.tmod 65536 then n.tmod 65536 - 65536 else if n.tmod 65536 < -32768 then n.tmod 65536+65536 else n.tmod 65536:=by
  unfold wrp;have:=Int.tmod_add_mul_tdiv n 65536
  rcases Int.le_total 0 n with h | h
  ·have:=Int.tmod_nonneg 65536 h;have:=Int.tmod_lt_of_pos n (show (0:Int)<65536 by omega);split
   ·omega
   ·split<;>omega
  ·have:=Int.lt_tmod_of_pos n (show (0:Int)<65536 by omega)
   have:n.tmod 65536≤0:=by
    have:=Int.tmod_nonneg (a:=-n) 65536 (by omega);rw[Int.neg_tmod]at this;omega
   split
   ·omega
   ·split<;>omega
 refine⟨fun h=>?_,fun h=>?_⟩
 ·have h:=dt h;rw[if_pos h]at e;rw[e]at hK;have:=Int.tmod_lt_of_pos n (show (0:Int)<65536 by omega);exact⟨⟨by omega,by omega⟩,hK⟩
 ·have h:=df h;rw[if_neg h]at e;have:=Int.lt_tmod_of_pos n (show (0:Int)<65536 by omega);refine⟨fun h=>?_,fun h=>?_⟩
  ·have h:=dt h;rw[if_pos h]at e;rw[e]at hK;exact⟨⟨by omega,by omega⟩,hK⟩
  ·have h:=df h;rw[if_neg h]at e;rw[e]at hK;exact hK
theorem rwrap_spec {n:Int} {H:Hp} {K:Value→Hp→Prop} (hK:K (.int .i64 (wrp n)) H):Does Tryz.prog 146 [.int .i64 n] H K:=by
 refine spec_of cx_ok cx_mix rfl Tryz.func146 Tryz.call146 Tryz.ntmps146 Tryz.results146 rfl rfl ?_;have h1:=Int.lt_tmod_of_pos n (show (0:Int)<65536 by omega);have h2:=Int.tmod_lt_of_pos n (show (0:Int)<65536 by omega);have h3:=Int.tmod_add_mul_tdiv n 65536
 have e:(n.tmod 65536+98304).tmod 65536 - 32768=wrp n:=by
  rw[Int.tmod_eq_emod_of_nonneg (by omega)];unfold wrp;omega
 rw[←e]at hK;have h4:=Int.lt_tmod_of_pos (n.tmod 65536+98304) (show (0:Int)<65536 by omega);have h5:=Int.tmod_lt_of_pos (n.tmod 65536+98304) (show (0:Int)<65536 by omega);exact⟨by decide,⟨by omega,by omega⟩,by decide,⟨by omega,by omega⟩,hK⟩
theorem gof_spec {a b:Int} {H:Hp} {K:Value→Hp→Prop} (hK:K (numV (wrp a,wrp b)) H):Does Tryz.prog 167 [.int .i64 a,.int .i64 b] H K:=by
 refine spec_of cx_ok cx_mix rfl Tryz.func167 Tryz.call167 Tryz.ntmps167 Tryz.results167 rfl rfl ?_;refine gwrap_spec ?_;refine gwrap_spec ?_;exact hK
theorem rof_spec {a b:Int} {H:Hp} {K:Value→Hp→Prop} (hK:K (numV (wrp a,wrp b)) H):Does Tryz.prog 95 [.int .i64 a,.int .i64 b] H K:=by
 refine spec_of cx_ok cx_mix rfl Tryz.func95 Tryz.call95 Tryz.ntmps95 Tryz.results95 rfl rfl ?_;refine rwrap_spec ?_;refine rwrap_spec ?_;exact hK
theorem nabs_lt {n:Int} (h : -9007199254740991≤n∧n≤9007199254740991):n.natAbs<9007199254740992:=by omega
theorem gnumber_spec {a:Nm} {H:Hp} {K:Value→Hp→Prop} (hK:∀x y,FV x (wrp a.1)→FV y (wrp a.2)→y<18446744073709551616→K (.complex .f64 x y) H):Does Tryz.prog 321 [numV a] H K:=by
 refine spec_of cx_ok cx_mix rfl Tryz.func321 Tryz.call321 Tryz.ntmps321 Tryz.results321 rfl rfl ?_;refine gof_spec ?_;have h1:=wrp_le a.1;have h2:=wrp_le a.2;refine⟨rfl,?_⟩;exact hK _ _ (fv_of_int (nabs_lt (by omega))) (fv_of_int (nabs_lt (by omega))) (ofInt_lt _)
theorem gback_spec {x y:Nat} {p q:Int} (hx:FV x p) (hy:FV y q) (hp : -9007199254740991≤p∧p≤9007199254740991) (hq : -9007199254740991≤q∧q≤9007199254740991) {H:Hp} {K:Value→Hp→Prop} (hK:K (numV (wrp p,wrp q)) H):Does Tryz.prog 320 [.complex .f64 x y] H K:=by
 refine spec_of cx_ok cx_mix rfl Tryz.func320 Tryz.call320 Tryz.ntmps320 Tryz.results320 rfl rfl ?_;refine⟨p,fv_toInt hx ⟨by omega,by omega⟩,?_⟩;refine⟨q,fv_toInt hy ⟨by omega,by omega⟩,?_⟩;refine gof_spec ?_;exact hK
theorem gadd_spec {a b:Nm} {H:Hp} {K:Value→Hp→Prop} (hK:K (numV (nOp 1 a b)) H):Does Tryz.prog 278 [numV a,numV b] H K:=by
 refine spec_of cx_ok cx_mix rfl Tryz.func278 Tryz.call278 Tryz.ntmps278 Tryz.results278 rfl rfl ?_;refine⟨some ([2],[0,2,1,3,4,5,6]),by kernel_rfl,?_⟩
 refine gnumber_spec fun x y hx hy _=>?_
 refine gnumber_spec fun x' y' hx' hy' _=>?_
 have h1:=wrp_le a.1;have h2:=wrp_le a.2;have h3:=wrp_le b.1;have h4:=wrp_le b.2;obtain⟨r,e1,hr⟩:=fv_add hx hx' (nabs_lt (by omega));obtain⟨r',e2,hr'⟩:=fv_add hy hy' (nabs_lt (by omega));refine⟨rfl,r,r',by rw[cSumBits,e1,e2];rfl,?_⟩;refine gback_spec hr hr' (by omega) (by omega) ?_;exact hK
theorem gsub_spec {a b:Nm} {H:Hp} {K:Value→Hp→Prop} (hK:K (numV (nOp 2 a b)) H):Does Tryz.prog 279 [numV a,numV b] H K:=by
 refine spec_of cx_ok cx_mix rfl Tryz.func279 Tryz.call279 Tryz.ntmps279 Tryz.results279 rfl rfl ?_;refine⟨some ([2],[0,2,1,3,4,5,6]),by kernel_rfl,?_⟩
 refine gnumber_spec fun x y hx hy _=>?_
 refine gnumber_spec fun x' y' hx' hy' _=>?_
 have h1:=wrp_le a.1;have h2:=wrp_le a.2;have h3:=wrp_le b.1;have h4:=wrp_le b.2;obtain⟨r,e1,hr⟩:=fv_sub hx hx' (nabs_lt (by omega));obtain⟨r',e2,hr'⟩:=fv_sub hy hy' (nabs_lt (by omega));refine⟨rfl,r,r',by rw[cSumBits,e1,e2];rfl,?_⟩;refine gback_spec hr hr' (by omega) (by omega) ?_;exact hK
theorem mul_bound {a b:Int} (h1 : -32768≤a∧a≤32767) (h2 : -32768≤b∧b≤32767) : -1073741824≤a*b∧a*b≤1073741824:=by
 have h:(a*b).natAbs≤32768*32768:=by
  rw[Int.natAbs_mul];exact Nat.mul_le_mul (by omega) (by omega)
 omega
theorem gmul_spec {a b:Nm} {H:Hp} {K:Value→Hp→Prop} (hK:K (numV (nOp 3 a b)) H):Does Tryz.prog 280 [numV a,numV b] H K:=by
 refine spec_of cx_ok cx_mix rfl Tryz.func280 Tryz.call280 Tryz.ntmps280 Tryz.results280 rfl rfl ?_;refine⟨some ([2],[0,2,1,3,4,5,6]),by kernel_rfl,?_⟩
 refine gnumber_spec fun x y hx hy _=>?_
 refine gnumber_spec fun x' y' hx' hy' _=>?_
 have h1:=mul_bound (wrp_le a.1) (wrp_le b.1);have h2:=mul_bound (wrp_le a.2) (wrp_le b.2);have h3:=mul_bound (wrp_le a.1) (wrp_le b.2);have h4:=mul_bound (wrp_le a.2) (wrp_le b.1);obtain⟨r1,e1,hr1⟩:=fv_mul hx hx' (nabs_lt (by omega));obtain⟨r2,e2,hr2⟩:=fv_mul hy hy' (nabs_lt (by omega));obtain⟨r3,e3,hr3⟩:=fv_mul hx hy' (nabs_lt (by omega));obtain⟨r4,e4,hr4⟩:=fv_mul hy hx' (nabs_lt (by omega));obtain⟨r5,e5,hr5⟩:=fv_sub hr1 hr2 (nabs_lt (by omega));obtain⟨r6,e6,hr6⟩:=fv_add hr3 hr4 (nabs_lt (by omega))
 have e:cMulBits x y x' y'=some (r5,r6):=by
  unfold cMulBits;rw[e1,Option.bind_some,e2,Option.bind_some,e5,Option.bind_some,e3,Option.bind_some,e4,Option.bind_some,e6]
  rfl
 refine⟨rfl,rfl,r5,r6,e,?_⟩;refine gback_spec hr5 hr6 (by omega) (by omega) ?_;exact hK
theorem gconj_spec {a b:Nm} {H:Hp} {K:Value→Hp→Prop} (hK:K (numV (nOp 4 a b)) H):Does Tryz.prog 281 [numV a] H K:=by
 refine spec_of cx_ok cx_mix rfl Tryz.func281 Tryz.call281 Tryz.ntmps281 Tryz.results281 rfl rfl ?_
 refine gnumber_spec fun x y hx hy hy2=>?_
 have h1:=wrp_le a.1;have h2:=wrp_le a.2;refine⟨rfl,?_⟩;have hz:=fv_neg hy hy2;rw[←Int.zero_sub]at hz;refine gback_spec hx hz (by omega) (by omega) ?_;exact hK
theorem gop_spec {op:Int} {a b:Nm} {H:Hp} {K:Value→Hp→Prop} (hK:K (.tuple #[numV (nOp op a b),.int .i64 (if opIs op then 0 else 10)]) H):Does Tryz.prog 228 [.int .i64 op,numV a,numV b] H K:=by
 refine spec_of cx_ok cx_mix rfl Tryz.func228 Tryz.call228 Tryz.ntmps228 Tryz.results228 rfl rfl ?_;refine .inl ⟨1,?_⟩;refine⟨fun h=>?_,fun h=>?_⟩
 ·have h:=dt h;subst h;refine gof_spec ?_;exact hK
 have h0:=df h;refine⟨fun h=>?_,fun h=>?_⟩
 ·have h:=dt h;subst h;refine gadd_spec ?_;exact hK
 have h1:=df h;refine⟨fun h=>?_,fun h=>?_⟩
 ·have h:=dt h;subst h;refine gsub_spec ?_;exact hK
 have h2:=df h;refine⟨fun h=>?_,fun h=>?_⟩
 ·have h:=dt h;subst h;refine gmul_spec ?_;exact hK
 have h3:=df h;refine⟨fun h=>?_,fun h=>?_⟩
 ·have h:=dt h;subst h;refine gconj_spec (b:=b) ?_;exact hK
 have h4:=df h;have e1:opIs op=false:=decide_eq_false (by omega)
 have e2:nOp op a b=(0,0):=by rw[nOp,if_neg h0,if_neg h1,if_neg h2,if_neg h3,if_neg h4]
 rw[e1,e2]at hK;exact hK
end Go.Proofs
end
section
namespace Go.Proofs
open Go.Sy
set_option maxRecDepth 20000
theorem index_spec {l:List Bs8} {t:Bs8} {a:Option Addr} {n c:Nat} {H:Hp} {K:Value→Hp→Prop} (ha:RL H a n c (ens l)) (hK:K (.int .i64 (idxS t l 0)) H):Does Tryz.prog 69 [.slice a n c,.string (bs t)] H K:=by
 have hn1:=ha.n_eq;rw[List.length_map]at hn1;have hmx:=ha.le;refine spec_of cx_ok cx_mix rfl Tryz.func69 Tryz.call69 Tryz.ntmps69 Tryz.results69 rfl rfl ?_;refine⟨Nat,fun i=>⟨[(0,.v (.slice a n c)),(1,.v (.string (bs t))),(7,.v (.int .i64 n)),(8,.v (.int .i64 i))],[],0⟩,fun i H'=>H'=H∧i≤l.length∧idxS t l 0=idxS t (l.drop i) i,fun i=>l.length - i,⟨0,[],?_,rfl,by omega,rfl⟩,?_⟩
 ·exact⟨⟨rfl,rfl,rfl,rfl,trivial⟩,trivial⟩
 rintro i H1 _ ⟨rfl,hi,hx⟩;refine⟨fun h=>?_,fun h=>?_⟩
 ·have hlt:i<l.length:=by have:=dt h;omega
  obtain⟨ad,cs,e1,hh,rfl,hl2⟩:=ha.elem (ens_get hlt);rw[idxS_step hlt]at hx;refine⟨ad,⟨by omega,by omega,e1⟩,?_⟩;refine⟨_,hh,?_⟩;refine⟨fun h=>?_,fun h=>?_⟩
  ·have he:t=l[i]:=dt h;rw[if_pos he.symm]at hx;rw[hx]at hK;exact hK
  ·have he:¬t=l[i]:=df h;rw[if_neg (fun h=>he h.symm)]at hx;refine⟨⟨by omega,by omega⟩,i+1,[],?_,⟨rfl,by omega,hx⟩,by dsimp only;omega⟩;exact⟨⟨rfl,rfl,rfl,rfl,trivial⟩,trivial⟩
 ·have hil:i=l.length:=by have:=df h;omega
  rw[hil,List.drop_length,idxS]at hx;rw[hx]at hK;exact hK
theorem place_spec {l:List Bs8} {t:Bs8} {a:Option Addr} {n c:Nat} {H:Hp} {K:Value→Hp→Prop} (ha:RL H a n c (ens l)) (hK:K (.tuple #[.int .i64 (max (idxS t l 0) 0),.bool (decide (0≤idxS t l 0))]) H):Does Tryz.prog 170 [.slice a n c,.string (bs t)] H K:=by
 refine spec_of cx_ok cx_mix rfl Tryz.func170 Tryz.call170 Tryz.ntmps170 Tryz.results170 rfl rfl ?_;refine index_spec ha ?_;exact hK
theorem small4_spec {p:Prog} {a:Option Addr} {n c:Nat} {H:Hp} {K:Value→Hp→Prop} (ha:RL H a n c p) (hK:∀b,(b=true→small4 p)→K (.bool b) H):Does Tryz.prog 8 [.agg #[.slice a n c]] H K:=by
 have hn1:=ha.n_eq;have hmx:=ha.le;have hF:=hK false (fun h=>by cases h);refine spec_of cx_ok cx_mix rfl Tryz.func8 Tryz.call8 Tryz.ntmps8 Tryz.results8 rfl rfl ?_;refine⟨fun h=>?_,fun h=>?_⟩
 ·exact hF
 have h12:p.length≤12:=by have:=df h;omega
 refine⟨Nat,fun i=>⟨[(12,.v (.slice a n c)),(13,.v (.int .i64 n)),(14,.v (.int .i64 i))],[],0⟩,
  fun i H'=>H'=H∧i≤p.length∧∀b∈p.take i,smallB4 b,fun i=>p.length - i,⟨0,[],?_,rfl,by omega,by simp⟩,?_⟩
 ·exact⟨⟨rfl,rfl,rfl,trivial⟩,trivial⟩
 rintro i H1 _ ⟨rfl,hi,hall⟩;refine⟨fun h=>?_,fun h=>?_⟩
 ·have hlt:i<p.length:=by have:=dt h;omega
  have hx:=List.getElem?_eq_getElem hlt
  obtain⟨b,hb⟩:∃b,b=p[i]:=⟨_,rfl⟩
  rw[←hb]at hx;obtain⟨ad,cs,e1,hh,r1⟩:=ha.elem hx;obtain⟨a2,n2,c2,rfl,hr2,hnm,htm⟩:=block_open r1;have hn2:=hr2.n_eq;have hmx2:=hr2.le;refine⟨ad,⟨by omega,by omega,e1⟩,?_⟩;refine⟨_,hh,?_⟩;refine⟨fun h=>?_,fun h=>hF⟩
  have g1:b.2.1.length≤12:=by have:=df h;omega
  refine⟨fun h=>?_,fun h=>hF⟩
  have g2:b.1.l.length≤40:=by have:=df h;simp only[sl_bs]at this;omega
  refine⟨fun h=>?_,fun h=>hF⟩
  have g3:b.2.2.2.2.1.l.length≤40:=by have:=df h;simp only[sl_bs]at this;omega
  refine⟨fun h=>?_,fun h=>hF⟩
  have g4:b.2.2.2.2.2.l.length≤40:=by have:=df h;simp only[sl_bs]at this;omega
  refine⟨fun h=>hF,fun h=>?_⟩
  have g5:b.2.2.2.1.1.l.length≤40:=by have:=df h;simp only[sl_bs]at this;omega
  refine⟨Nat,fun j=>⟨[(12,.v (.slice a n c)),(13,.v (.int .i64 n)),(14,.v (.int .i64 i)),(51,.v (.slice a2 n2 c2)),(52,.v (.int .i64 n2)),(53,.v (.int .i64 j))],[],0⟩,
   fun j H'=>H'=H1∧j≤b.2.1.length∧∀s∈b.2.1.take j,smallS s,fun j=>b.2.1.length - j,⟨0,[],?_,rfl,by omega,by simp⟩,?_⟩
  ·exact⟨⟨rfl,rfl,rfl,rfl,rfl,rfl,trivial⟩,trivial⟩
  rintro j H2 _ ⟨rfl,hj,hsm⟩;refine⟨fun h=>?_,fun h=>?_⟩
  ·have hltj:j<b.2.1.length:=by have:=dt h;omega
   have hxj:=List.getElem?_eq_getElem hltj;have hel:=hr2.elem hxj;obtain⟨ad2,cs2,e2,hh2,r2⟩:=hel;have hst:=stmt_open r2;obtain⟨ecs,hsr⟩:=hst;rw[ecs]at hh2;refine⟨ad2,⟨by omega,by omega,e2⟩,?_⟩;refine⟨_,hh2,?_⟩;refine⟨fun h=>?_,fun h=>hF⟩
   have k1:b.2.1[j].2.1.l.length≤40:=by have:=df h;simp only[sl_bs]at this;omega
   refine⟨fun h=>?_,fun h=>hF⟩
   have k2:b.2.1[j].2.2.2.1.1.l.length≤40:=by have:=df h;simp only[sl_bs]at this;omega
   refine⟨fun h=>hF,fun h=>?_⟩
   have k3:b.2.1[j].2.2.2.2.1.l.length≤40:=by have:=df h;simp only[sl_bs]at this;omega
   refine⟨⟨by omega,by omega⟩,j+1,[],?_,⟨rfl,by omega,mem_take_succ hxj hsm ⟨k1,k2,k3⟩⟩,by dsimp only;omega⟩;exact⟨⟨rfl,rfl,rfl,rfl,rfl,rfl,trivial⟩,trivial⟩
  ·have hjl:j=b.2.1.length:=by have:=df h;omega
   rw[hjl,List.take_length]at hsm;refine⟨⟨by omega,by omega⟩,i+1,[],?_,⟨rfl,by omega,mem_take_succ hx hall ⟨⟨g1,g2,g3,g4,g5⟩,hsm⟩⟩,by dsimp only;omega⟩;exact⟨⟨rfl,rfl,rfl,trivial⟩,trivial⟩
 ·have hil:i=p.length:=by have:=df h;omega
  rw[hil,List.take_length]at hall
  exact hK true fun _=>⟨h12,hall⟩
end Go.Proofs
end
section
namespace Go.Proofs
open Go.Sy
set_option maxRecDepth 20000
def cmpI (x y:Int):Int:=if x<y then -1 else if y<x then 1 else 0
theorem nanI_spec {x:Int} {H:Hp} {K:Value→Hp→Prop} (hK:K (.bool false) H):Does Tryz.prog 249 [.int .i64 x] H K:=by
 refine spec_of cx_ok cx_mix rfl Tryz.func249 Tryz.call249 Tryz.ntmps249 Tryz.results249 rfl rfl ?_;exact kbool hK (by simp)
theorem cmp_spec {x y:Int} {H:Hp} {K:Value→Hp→Prop} (hK:K (.int .i64 (cmpI x y)) H):Does Tryz.prog 204 [.int .i64 x,.int .i64 y] H K:=by
 refine spec_of cx_ok cx_mix rfl Tryz.func204 Tryz.call204 Tryz.ntmps204 Tryz.results204 rfl rfl ?_;refine nanI_spec ?_;refine nanI_spec ?_;refine⟨(fun h=>by cases h),fun _=>?_⟩;refine⟨(fun h=>by cases h),fun _=>?_⟩;refine⟨fun h=>?_,fun h=>?_⟩
 ·rw[cmpI,if_pos (dt h)]at hK;exact hK
 ·rw[cmpI,if_neg (df h)]at hK;refine⟨fun h=>?_,fun h=>?_⟩
  ·rw[if_pos (dt h)]at hK;exact hK
  ·rw[if_neg (df h)]at hK;exact hK
def orI (a b:Int):Int:=if a≠0 then a else b
theorem or_spec {x y:Int} {a:Option Addr} {n c:Nat} {H:Hp} {K:Value→Hp→Prop} (ha:RL H a n c [x,y]) (hK:K (.int .i64 (orI x y)) H):Does Tryz.prog 203 [.slice a n c] H K:=by
 have hn1:n=2:=ha.n_eq;refine spec_of cx_ok cx_mix rfl Tryz.func203 Tryz.call203 Tryz.ntmps203 Tryz.results203 rfl rfl ?_;refine⟨Nat,fun i=>⟨[(3,.v (.int .i64 0)),(6,.v (.slice a n c)),(7,.v (.int .i64 n)),(8,.v (.int .i64 i))],[],0⟩,fun i H'=>H'=H∧i≤2∧(0<i→x=0)∧(1<i→y=0),fun i=>2 - i,⟨0,[],?_,rfl,by omega,by omega,by omega⟩,?_⟩
 ·exact⟨⟨rfl,rfl,rfl,rfl,trivial⟩,trivial⟩
 rintro i H1 _ ⟨rfl,hi,h0,h1⟩;refine⟨fun h=>?_,fun h=>?_⟩
 ·have hlt:i<2:=by have:=dt h;omega
  have hx:=List.getElem?_eq_getElem (l:=[x,y]) (i:=i) hlt;obtain⟨ad,cs,e1,hh,r1⟩:=ha.elem hx;obtain⟨rfl,-⟩:=r1;refine⟨ad,⟨by omega,by omega,e1⟩,?_⟩;refine⟨_,hh,?_⟩;refine⟨fun h=>?_,fun h=>?_⟩
  ·have hne:[x,y][i]≠0:=nt h
   have e:orI x y=[x,y][i]:=by
    match i,hlt with
    | 0,_=>exact if_pos hne
    | 1,_=>exact if_neg (by simpa using h0 (by omega))
   rw[e]at hK;exact hK
  ·have he:[x,y][i]=0:=nf h;refine⟨⟨by omega,by omega⟩,i+1,[],?_,⟨rfl,by omega,fun _=>?_,fun _=>?_⟩,by dsimp only;omega⟩
   ·exact⟨⟨rfl,rfl,rfl,rfl,trivial⟩,trivial⟩
   ·match i,hlt with
    | 0,_=>exact he
    | 1,_=>exact h0 (by omega)
   ·match i,hlt with
    | 0,_=>omega
    | 1,_=>exact he
 ·have hil:i=2:=by have:=df h;omega
  have e:orI x y=0:=by
   rw[orI,if_neg (by simpa using h0 (by omega))];exact h1 (by omega)
  rw[e]at hK;exact hK
def cmpE (a b:Edg):Int:=orI (cmpI a.1 b.1) (cmpI a.2 b.2)
theorem cmpI_in (x y:Int):inI (cmpI x y):=by
 unfold cmpI inI;split
 ·omega
 ·split<;>omega
theorem cmpE_spec {a b:Edg} {H:Hp} {K:Value→Hp→Prop} (hK:∀H',Le H H'→K (.int .i64 (cmpE a b)) H'):Does Tryz.prog 202 [.agg #[.int .i64 a.1,.int .i64 a.2],.agg #[.int .i64 b.1,.int .i64 b.2]] H K:=by
 refine spec_of cx_ok cx_mix rfl Tryz.func202 Tryz.call202 Tryz.ntmps202 Tryz.results202 rfl rfl ?_;refine⟨some ([],[0,1,2,3,5,6,7,8,4,9,10,11,12]),by kernel_rfl,?_⟩;refine cmp_spec ?_;refine cmp_spec ?_;intro x H1 hle hx;have hx2:RowAt H1 x 1 (iRows [cmpI a.1 b.1,cmpI a.2 b.2]):=hx
 have hr:=RL.of_row (α:=Int) hx2 (rc_iRows (fun n hn=>by
  simp only[List.mem_cons,List.not_mem_nil,or_false]at hn
  rcases hn with rfl | rfl<;>exact cmpI_in _ _))
 obtain⟨a2,n2,c2,e,hr⟩:=hr;rw[e];refine or_spec hr ?_;exact hK _ (Le.refl H)
theorem eqE_spec {a b:Edg} {H:Hp} {K:Value→Hp→Prop} (hK:K (.bool (decide (a=b))) H):Does Tryz.prog 206 [.agg #[.int .i64 a.1,.int .i64 a.2],.agg #[.int .i64 b.1,.int .i64 b.2]] H K:=by
 refine spec_of cx_ok cx_mix rfl Tryz.func206 Tryz.call206 Tryz.ntmps206 Tryz.results206 rfl rfl ?_;refine kbool hK ?_;rw[Bool.eq_iff_iff];simp [Prod.ext_iff]
theorem cloneE_spec {l:List Edg} {a:Option Addr} {n c:Nat} {H:Hp} {K:SV→St→Hp→Prop} (ha:RL H a n c l) (hn:l.length<8000000000000) (hK:K (.own 0) ⟨[],[(0,.row 172 2 (eRows l))],1⟩ H):DoesG Tryz.prog 200 [.v (.slice a n c)] [] 0 H K:=by
 refine spec_ofG cx_ok cx_mix Tryz.func200 Tryz.call200 Tryz.ntmps200 Tryz.results200 rfl rfl ?_;refine⟨fun h=>?_,fun h=>?_⟩
 ·have ha0:a=none:=by cases a<;>simp_all
  subst ha0;have hl:=RL_nil ha;subst hl;exact⟨.own 0,[(0,.row 172 2 (eRows []))],1,[],⟨⟨⟨rfl,rfl,rfl⟩,trivial⟩,⟨rfl,trivial⟩⟩,hK⟩
 ·refine⟨eRows l,RLe_row ha,⟨⟨by show (0+(eRows l).length)*16≤_;rw[List.length_map];omega,by show 0+(eRows l).length≤_;rw[List.length_map];omega⟩,?_⟩⟩;exact⟨.own 0,[(0,.row 172 2 (eRows l))],1,[(0,1)],⟨⟨rfl,trivial⟩,⟨rfl,trivial⟩⟩,hK⟩
end Go.Proofs
end
section
namespace Go.Proofs
open Go.Sy
set_option maxRecDepth 20000
theorem gComp_snoc {α:Type} [LO α]:∀(m:List α) (x y:α),gComp (m++[x,y])=if x=y then gComp (m++[x]) else gComp (m++[x])++[y]
 | [],x,y=>by
  simp only[List.nil_append,gComp]
  split<;>simp_all
 | [a],x,y=>by
  have ih:=gComp_snoc [] x y;simp only[List.nil_append]at ih;simp only[List.cons_append,List.nil_append];rw[gComp,ih]
  split<;>rename_i h1<;>split<;>rename_i h2<;>simp [gComp,h1]
 | a::b::m,x,y=>by
  have ih:=gComp_snoc (b::m) x y;simp only[List.cons_append]at ih ⊢;rw[gComp,ih]
  conv=>rhs;rw[gComp]
  split<;>rename_i h1<;>split<;>rename_i h2<;>simp
theorem gComp_take {α:Type} [LO α] {l:List α} {j:Nat} (hj:j+1<l.length):gComp (l.take (j+2))=if l[j]=l[j+1] then gComp (l.take (j+1)) else gComp (l.take (j+1))++[l[j+1]]:=by
 have e1:l.take (j+1)=l.take j++[l[j]]:=by rw[List.take_add_one,List.getElem?_eq_getElem (by omega)];rfl
 have e2:l.take (j+2)=l.take j++[l[j],l[j+1]]:=by
  rw[List.take_add_one,List.getElem?_eq_getElem hj,e1,Option.toList_some,List.append_assoc];rfl
 rw[e2,e1,gComp_snoc]
theorem eRows_get {l:List Edg} {i:Nat} (h:i<l.length):(eRows l)[i]?=some [.int .i64 l[i].1,.int .i64 l[i].2]:=by rw[List.getElem?_map,List.getElem?_eq_getElem h];rfl
theorem eRows_set (l:List Edg) (i:Nat) (x:Edg):(eRows l).set i [.int .i64 x.1,.int .i64 x.2]=eRows (l.set i x):=(List.map_set).symm
theorem compE_spec {l:List Edg} (hn:l.length<8000000000000) {H:Hp} {K:SV→St→Hp→Prop}
  (hK:K (.own 1) ⟨[],[(0,.dead),(1,.row 172 2 (eRows (gComp l)))],2⟩ H):DoesG Tryz.prog 205 [.own 0,.fn 206 []] [(0,.row 172 2 (eRows l))] 1 H K:=by
 refine spec_ofG cx_ok cx_mix Tryz.func205 Tryz.call205 Tryz.ntmps205 Tryz.results205 rfl rfl ?_;have hel:(eRows l).length=l.length:=List.length_map _;refine⟨fun h=>?_,fun h=>?_⟩
 ·have h2:l.length<2:=by have:=dt h;rw[hel]at this;omega
  have e:gComp l=l:=by
   match l,h2 with
   | [],_=>rfl
   | [_],_=>rfl
  rw[e]at hK;exact⟨.own 1,[(0,.dead),(1,.row 172 2 (eRows l))],2,[(1,0)],⟨⟨rfl,trivial⟩,⟨trivial,rfl,trivial⟩⟩,hK⟩
 ·have h2:2≤l.length:=by have:=df h;rw[hel]at this;omega
  refine⟨Nat,fun k=>⟨[(0,.own 0),(1,.fn 206 []),(5,.v (.int .i64 k))],[(0,.row 172 2 (eRows l))],1⟩,fun k H'=>H'=H∧1≤k∧k≤l.length∧gComp (l.take k)=l.take k,fun k=>l.length - k,⟨1,[(0,0)],?_,rfl,by omega,by omega,?_⟩,?_⟩
  ·exact⟨⟨rfl,⟨rfl,rfl⟩,rfl,trivial⟩,⟨rfl,trivial⟩⟩
  ·match l,h2 with
   | x::r,_=>simp [gComp]
  rintro k H1 _ ⟨rfl,hk1,hk,hg⟩;refine⟨fun h=>?_,fun h=>?_⟩
  ·have hlt:k<l.length:=by have:=dt h;rw[hel]at this;omega
   refine⟨some ([],[0,1,2,3,4,5,6,7,8,9,10]),by kernel_rfl,?_⟩
   have g1:(eRows l)[((k:Int)).toNat]?=some [.int .i64 l[k].1,.int .i64 l[k].2]:=by rw[Int.toNat_natCast];exact eRows_get hlt
   have hk2:k - 1<l.length:=by omega
   have g2:(eRows l)[((k:Int) - 1).toNat]?=some [.int .i64 l[k - 1].1,.int .i64 l[k - 1].2]:=by
    rw[show ((k:Int) - 1).toNat=k - 1 by omega];exact eRows_get hk2
   refine⟨⟨by omega,by rw[hel];omega⟩,?_⟩;refine⟨_,g1,?_⟩;refine⟨⟨by omega,by omega⟩,?_⟩;refine⟨⟨by omega,by rw[hel];omega⟩,?_⟩;refine⟨_,g2,?_⟩;refine eqE_spec (a:=l[k]) (b:=l[k - 1]) ?_
   obtain⟨j,hj⟩:∃j,k=j+1:=⟨k - 1,by omega⟩
   have hgt:gComp (l.take (k+1))=if l[k - 1]=l[k] then gComp (l.take k) else gComp (l.take k)++[l[k]]:=by
    subst hj;exact gComp_take hlt
   refine⟨fun h=>?_,fun h=>?_⟩
   ·have he:l[k]=l[k - 1]:=dt h;rw[if_pos he.symm,hg]at hgt;refine .inr ?_;refine⟨⟨by omega,by rw[hel];omega,by omega⟩,?_⟩;refine .inl ?_
    have hsub:(((eRows l).length:Int)).toNat - ((k:Int)).toNat=l.length - k:=by rw[hel];rfl
    refine⟨Nat×Nat×List Edg,fun q=>⟨[(0,.own 0),(1,.fn 206 []),(5,.v (.int .i64 q.1)),(6,.sub 0 2 k (l.length - k)),(7,.v (.int .i64 q.2.1))],[(0,.row 172 2 (eRows q.2.2))],1⟩,
     fun q H'=>H'=H1∧q.2.2.length=l.length∧1≤q.2.1∧k+q.2.1≤l.length∧1≤q.1∧q.1+1≤k+q.2.1∧q.2.2.take q.1=gComp (l.take (k+q.2.1))∧∀j,k+q.2.1≤j+1→q.2.2[j]?=l[j]?,
     fun q=>l.length - (k+q.2.1),⟨(k,1,l),[(0,0)],?_,rfl,rfl,Nat.le_refl _,hlt,hk1,Nat.le_refl _,hgt.symm,fun _ _=>rfl⟩,?_⟩
    ·exact⟨⟨rfl,⟨rfl,rfl⟩,rfl,⟨rfl,rfl,rfl,hsub⟩,rfl,trivial⟩,⟨rfl,trivial⟩⟩
    rintro⟨k',k2,cur⟩ H2 _ ⟨rfl,c1,c2,c3,c4,c5,c6,c7⟩;simp only at c1 c2 c3 c4 c5 c6 c7
    have hec:(eRows cur).length=l.length:=by rw[List.length_map,c1]
    refine .inl ?_;refine⟨fun h=>?_,fun h=>?_⟩
    ·have hlt2:k+k2<l.length:=by have:=dt h;simp only at this;omega
     refine⟨some ([],[0,1,2,3,4,5,6,7,8,9,10,11]),by kernel_rfl,?_⟩;have hA:=c7 (k+k2) (by omega);rw[List.getElem?_eq_getElem hlt2]at hA;have hB:=c7 (k+k2 - 1) (by omega);rw[List.getElem?_eq_getElem (by omega:k+k2 - 1<l.length)]at hB
     have gA:(eRows cur)[((k:Int)+((k',k2,cur).snd.fst:Int)).toNat]?=some [.int .i64 l[k+k2].1,.int .i64 l[k+k2].2]:=by
      rw[show ((k:Int)+((k',k2,cur).snd.fst:Int)).toNat=k+k2 by simp only;omega,List.getElem?_map,hA];rfl
     have gB:(eRows cur)[((k:Int)+(((k',k2,cur).snd.fst:Int) - 1)).toNat]?=some [.int .i64 l[k+k2 - 1].1,.int .i64 l[k+k2 - 1].2]:=by
      rw[show ((k:Int)+(((k',k2,cur).snd.fst:Int) - 1)).toNat=k+k2 - 1 by simp only;omega,List.getElem?_map,hB];rfl
     refine⟨⟨by simp only;omega,by simp only;omega,by simp only;omega⟩,?_⟩;refine⟨_,gA,?_⟩;refine⟨⟨by simp only;omega,by simp only;omega⟩,?_⟩;refine⟨⟨by simp only;omega,by simp only;omega,by simp only;omega⟩,?_⟩;refine⟨_,gB,?_⟩;refine eqE_spec (a:=l[k+k2]) (b:=l[k+k2 - 1]) ?_
     have hE:gComp (l.take (k+(k2+1)))=if l[k+k2 - 1]=l[k+k2] then gComp (l.take (k+k2)) else gComp (l.take (k+k2))++[l[k+k2]]:=by
      obtain⟨j,hj⟩:∃j,k+k2=j+1:=⟨k+k2 - 1,by omega⟩
      have:=gComp_take (l:=l) (j:=j) (by omega);rw[show k+(k2+1)=j+2 by omega];simp only[hj,Nat.add_sub_cancel];exact this
     refine⟨fun h=>?_,fun h=>?_⟩
     ·have hne:¬l[k+k2]=l[k+k2 - 1]:=by
       intro e;rw[decide_eq_true e]at h;cases h
      rw[if_neg (fun e=>hne e.symm)]at hE;refine .inl ?_;refine⟨⟨by simp only;omega,by simp only;omega,by simp only;omega⟩,?_⟩;refine⟨_,gA,?_⟩;refine⟨⟨by simp only;omega,by simp only;rw[hec];omega⟩,?_⟩
      have hk':k'<cur.length:=by omega
      refine⟨[.int .i64 cur[k'].1,.int .i64 cur[k'].2],by show (eRows cur)[((k':Nat):Int).toNat]?=_;rw[Int.toNat_natCast];exact eRows_get hk',?_⟩
      have e5:(eRows cur).set ((k':Int)).toNat [.int .i64 l[k+k2].1,.int .i64 l[k+k2].2]=eRows (cur.set k' l[k+k2]):=by
       rw[Int.toNat_natCast];exact eRows_set cur k' _
      refine⟨⟨by simp only;omega,by simp only;omega⟩,?_⟩;refine⟨⟨by simp only;omega,by simp only;omega⟩,(k'+1,k2+1,cur.set k' l[k+k2]),[(0,0)],?_,⟨rfl,by simp only[List.length_set];exact c1,by simp only;omega,by simp only;omega,by simp only;omega,by simp only;omega,?_,fun j hj=>?_⟩,by simp only;omega⟩
      ·exact⟨⟨rfl,⟨rfl,rfl⟩,rfl,⟨rfl,rfl,rfl,rfl⟩,rfl,trivial⟩,⟨e5,trivial⟩⟩
      ·simp only;rw[hE,←c6,List.take_add_one,List.getElem?_set_self hk',Option.toList_some,List.take_set_of_le (Nat.le_refl _)]
      ·simp only at hj ⊢;rw[List.getElem?_set_ne (by omega)];exact c7 j (by omega)
     ·have he:l[k+k2]=l[k+k2 - 1]:=by
       cases hh:decide (l[k+k2]=l[k+k2 - 1]) with
       | true=>exact dt hh
       | false=>rw[hh]at h;cases h
      rw[if_pos he.symm]at hE;refine⟨⟨by simp only;omega,by simp only;omega⟩,(k',k2+1,cur),[(0,0)],?_,⟨rfl,c1,by simp only;omega,by simp only;omega,c4,by simp only;omega,?_,fun j hj=>c7 j (by simp only at hj;omega)⟩,by simp only;omega⟩
      ·exact⟨⟨rfl,⟨rfl,rfl⟩,rfl,⟨rfl,rfl,rfl,rfl⟩,rfl,trivial⟩,⟨rfl,trivial⟩⟩
      ·simp only;rw[hE,←c6]
    ·have hk2l:k+k2=l.length:=by have:=df h;simp only at this;omega
     rw[hk2l,List.take_length]at c6
     have hk':k'≤cur.length:=by omega
     refine .inr ?_;refine⟨⟨by simp only;omega,by simp only;rw[hec];omega,by simp only;rw[hec];omega⟩,?_⟩;refine⟨by show ((k':Nat):Int).toNat+(((eRows cur).length:Int).toNat - ((k':Nat):Int).toNat)≤(eRows cur).length;simp only[Int.toNat_natCast];rw[hec];omega,?_⟩
     have hcl:∀(z:List (List Value)),((eRows cur).take ((k':Nat):Int).toNat++z).take ((k':Nat):Int).toNat=eRows (gComp l):=fun z=>by
      rw[Int.toNat_natCast,List.take_append_of_le_length (by rw[List.length_take];omega),List.take_take,Nat.min_self,←List.map_take,c6]
     refine .inl ⟨⟨by simp only;omega,?_⟩,?_⟩
     ·show ((k':Nat):Int)≤((((eRows cur).take ((k':Nat):Int).toNat++List.replicate _ _++_:List (List Value)).length:Nat):Int);rw[List.length_append,List.length_append,List.length_take,Int.toNat_natCast,hec];omega
     ·refine⟨.own 1,[(0,.dead),(1,.row 172 2 (eRows (gComp l)))],2,[(1,1)],⟨⟨rfl,trivial⟩,⟨trivial,?_,trivial⟩⟩,hK⟩;have:=hcl (List.replicate (((eRows cur).length:Int).toNat - ((k':Nat):Int).toNat) [.int .i64 0,.int .i64 0]++(eRows cur).drop (((k':Nat):Int).toNat+(((eRows cur).length:Int).toNat - ((k':Nat):Int).toNat)));rw[←List.append_assoc]at this;exact this
   ·have he:¬l[k]=l[k - 1]:=df h;rw[if_neg (fun e=>he e.symm),hg]at hgt;refine⟨⟨by omega,by omega⟩,k+1,[(0,0)],?_,⟨rfl,by omega,by omega,?_⟩,by dsimp only;omega⟩
    ·exact⟨⟨rfl,⟨rfl,rfl⟩,rfl,trivial⟩,⟨rfl,trivial⟩⟩
    ·rw[hgt,List.take_add_one,List.getElem?_eq_getElem hlt];rfl
  ·have hkl:k=l.length:=by have:=df h;rw[hel]at this;omega
   rw[hkl,List.take_length]at hg;rw[hg]at hK;exact⟨.own 1,[(0,.dead),(1,.row 172 2 (eRows l))],2,[(1,0)],⟨⟨rfl,trivial⟩,⟨trivial,rfl,trivial⟩⟩,hK⟩
end Go.Proofs
end
section
namespace Go.Proofs
open Go.Sy
set_option maxRecDepth 20000
theorem node_spec {x y:Int} {H:Hp} {K:Value→Hp→Prop} (hK:K (.bool (decide (0≤y∧y<x))) H):Does Tryz.prog 179 [.int .i64 x,.int .i64 y] H K:=by
 refine spec_of cx_ok cx_mix rfl Tryz.func179 Tryz.call179 Tryz.ntmps179 Tryz.results179 rfl rfl ?_;refine⟨fun h=>?_,fun h=>?_⟩
 ·have h1:0≤y:=dt h;refine kbool hK ?_;simp [h1]
 ·have h1:¬0≤y:=df h;refine kbool hK ?_;simp [h1]
def idxP {α:Type} (p:α→Bool):List α→Nat→List Int
 | [],_=>[]
 | x::r,i=>if p x then (i:Int)::idxP p r (i+1) else idxP p r (i+1)
theorem idxP_snoc {α:Type} (p:α→Bool):∀(l:List α) (x:α) (i:Nat),idxP p (l++[x]) i=idxP p l i++(if p x then [((i+l.length:Nat):Int)] else [])
 | [],x,i=>by simp only[List.nil_append,idxP,List.length_nil,Nat.add_zero]
 | y::r,x,i=>by
  rw[List.cons_append,idxP,idxP,idxP_snoc p r x (i+1),List.length_cons,show i+1+r.length=i+(r.length+1) by omega]
  cases p y<;>rfl
theorem idxP_len {α:Type} (p:α→Bool):∀(l:List α) (i:Nat),(idxP p l i).length≤l.length
 | [],i=>Nat.le_refl _
 | y::r,i=>by
  have:=idxP_len p r (i+1);rw[idxP,List.length_cons];split
  ·rw[List.length_cons];omega
  ·omega
theorem idxP_take {α:Type} (p:α→Bool) {l:List α} {i:Nat} (h:i<l.length):idxP p (l.take (i+1)) 0=idxP p (l.take i) 0++(if p l[i] then [(i:Int)] else []):=by
 rw[List.take_add_one,List.getElem?_eq_getElem h,Option.toList_some,idxP_snoc,Nat.zero_add,List.length_take,Nat.min_eq_left (by omega)]
def isExit (b:Block):Bool:=decide (b.2.2.1=3)
def exitsOf (p:Prog):List Int:=idxP isExit p 0
theorem rI_all {x:Value} {H:Hp} {l:List Int} (h:RowAt H x 1 (iRows l)) (hl:∀n∈l,inI n):∃a n c,x = .slice a n c∧RL H a n c l:=RL.of_row (α:=Int) h (rc_iRows hl)
theorem idxP_in {α:Type} (p:α→Bool):∀(l:List α) (i:Nat),i+l.length≤9223372036854775807→∀n∈idxP p l i,inI n
 | [],_,_=>by simp [idxP]
 | x::r,i,h=>by
  have ih:=idxP_in p r (i+1) (by rw[List.length_cons]at h;omega);rw[List.length_cons]at h;rw[idxP];split
  ·intro n hn
   rcases List.mem_cons.1 hn with rfl | hn
   ·exact⟨by omega,by omega⟩
   ·exact ih n hn
  ·exact ih
theorem block_spec {p:Prog} (hp:p.length≤12) {t:Bs8} {a:Option Addr} {n c:Nat} {H:Hp} {K:Value→Hp→Prop} (ha:RL H a n c p)
 (hK:∀H',Le H H'→K (.tuple #[.int .i64 (max (idxS t (p.map (·.1.l)) 0) 0),.bool (decide (0≤idxS t (p.map (·.1.l)) 0))]) H'):Does Tryz.prog 110 [.agg #[.slice a n c],.string (bs t)] H K:=by
 have hn1:=ha.n_eq;have hmx:=ha.le;refine spec_of cx_ok cx_mix rfl Tryz.func110 Tryz.call110 Tryz.ntmps110 Tryz.results110 rfl rfl ?_
 refine⟨Nat,fun i=>⟨[(1,.v (.string (bs t))),(6,.own 0),(10,.v (.slice a n c)),(11,.v (.int .i64 n)),(12,.v (.int .i64 i))],[(0,.row 9 1 (sRows ((p.take i).map (·.1.l))))],1⟩,
  fun i H'=>H'=H∧i≤p.length,fun i=>p.length - i,⟨0,[],?_,rfl,by omega⟩,?_⟩
 ·exact⟨⟨rfl,⟨rfl,rfl,rfl⟩,rfl,rfl,rfl,trivial⟩,⟨rfl,trivial⟩⟩
 rintro i H1 _ ⟨rfl,hi⟩;refine⟨fun h=>?_,fun h=>?_⟩
 ·have hlt:i<p.length:=by have:=dt h;omega
  obtain⟨ad,cs,q1,hh,r1⟩:=ha.elem (List.getElem?_eq_getElem hlt);obtain⟨a2,n2,c2,rfl,hr2,hnm,htm⟩:=block_open r1
  have hel:(sRows ((p.take i).map (·.1.l))).length=i:=by simp;omega
  refine⟨ad,⟨by omega,by omega,q1⟩,?_⟩;refine⟨_,hh,?_⟩;refine⟨⟨by show ((sRows ((p.take i).map (·.1.l))).length+1)*16≤_;omega,by show (sRows ((p.take i).map (·.1.l))).length+1≤_;omega⟩,?_⟩
  have erow:sRows ((p.take i).map (·.1.l))++[[.string (bs p[i].1.l)]]=sRows ((p.take (i+1)).map (·.1.l)):=by
   rw[List.take_add_one,List.getElem?_eq_getElem hlt,Option.toList_some,List.map_append];exact (List.map_append (f:=fun s=>[Value.string (bs s)]) (l₁:=(p.take i).map (·.1.l)) (l₂:=[p[i].1.l])).symm
  refine⟨⟨by omega,by omega⟩,i+1,[(0,3)],?_,⟨rfl,by omega⟩,by dsimp only;omega⟩;exact⟨⟨rfl,rfl,rfl,rfl,rfl,trivial⟩,⟨erow,trivial⟩⟩
 ·have hil:i=p.length:=by have:=df h;omega
  intro x H2 hle2 hx;rw[hil,List.take_length]at hx
  have hrc:RC (α:=Str) H2 (sRows (p.map (·.1.l))) (ens (p.map (·.1.l))):=rc_sRows (fun s hs=>by
   obtain⟨b,hb,rfl⟩:=List.mem_map.1 hs;obtain⟨cs,hr⟩:=rl_mem ha hb;obtain⟨_,_,_,_,_,h5,_⟩:=block_open hr
   exact h5)
  obtain⟨a1,n1,c1,rfl,hr⟩:=RL.of_row (α:=Str) hx hrc;refine place_spec hr ?_;exact hK _ (Le.refl H1)
end Go.Proofs
end
section
namespace Go.Proofs
open Go.Sy
set_option maxRecDepth 20000
def badE (m:Int) (e:Edg):Bool:=!(decide (0≤e.1∧e.1<m))||!(decide (0≤e.2∧e.2<m))
theorem bad_spec {m:Int} {e:Edg} {H:Hp} {K:SV→St→Hp→Prop}
  (hK:K (.v (.bool (badE m e))) ⟨[],[(0,.cells 3 [.v (.int .i64 m)])],1⟩ H):DoesG Tryz.prog 261 [.agg [.v (.int .i64 e.1),.v (.int .i64 e.2)],.ptr 0 0] [(0,.cells 3 [.v (.int .i64 m)])] 1 H K:=by
 refine spec_ofG cx_ok cx_mix Tryz.func261 Tryz.call261 Tryz.ntmps261 Tryz.results261 rfl rfl ?_;refine node_spec ?_;refine⟨fun h=>?_,fun h=>?_⟩
 ·refine node_spec ?_
  have e1:badE m e=!(decide (0≤e.2∧e.2<m)):=by rw[badE,h];rfl
  rw[e1]at hK;exact⟨.v (.bool (!(decide (0≤e.2∧e.2<m)))),[(0,.cells 3 [.v (.int .i64 m)])],1,[(0,0)],⟨⟨rfl,trivial⟩,⟨⟨rfl,trivial⟩,trivial⟩⟩,hK⟩
 ·have e1:badE m e=true:=by rw[badE,h];rfl
  rw[e1]at hK;exact⟨.v (.bool true),[(0,.cells 3 [.v (.int .i64 m)])],1,[(0,0)],⟨⟨rfl,trivial⟩,⟨⟨rfl,trivial⟩,trivial⟩⟩,hK⟩
def idxB (f:Edg→Bool):List Edg→Int→Int
 | [],_=>-1
 | x::r,i=>if f x then i else idxB f r (i+1)
theorem idxB_step {f:Edg→Bool} {l:List Edg} {i:Nat} (h:i<l.length):idxB f (l.drop i) i=if f l[i] then (i:Int) else idxB f (l.drop (i+1)) (i+1:Nat):=by
 rw[List.drop_eq_getElem_cons h,idxB];rfl
theorem idxB_none {f:Edg→Bool}:∀(l:List Edg) (i:Int),0≤i→(0≤idxB f l i↔∃x∈l,f x=true)
 | [],i,_=>by simp [idxB]
 | x::r,i,h=>by
  rw[idxB];split
  ·rename_i h1;exact⟨fun _=>⟨x,List.mem_cons_self,h1⟩,fun _=>h⟩
  ·rename_i h1;rw[idxB_none r (i+1) (by omega)];constructor
   ·rintro⟨y,hy,h2⟩;exact⟨y,List.mem_cons_of_mem _ hy,h2⟩
   ·rintro⟨y,hy,h2⟩
    rcases List.mem_cons.1 hy with rfl | hy
    ·exact absurd h2 h1
    ·exact⟨y,hy,h2⟩
theorem indexF_spec {m:Int} {l:List Edg} {a:Option Addr} {n c:Nat} {H:Hp} {K:SV→St→Hp→Prop} (ha:RL H a n c l)
  (hK:K (.v (.int .i64 (idxB (badE m) l 0))) ⟨[],[(0,.cells 3 [.v (.int .i64 m)])],1⟩ H):DoesG Tryz.prog 311 [.v (.slice a n c),.fn 261 [.ptr 0 0]] [(0,.cells 3 [.v (.int .i64 m)])] 1 H K:=by
 have hn1:=ha.n_eq;have hmx:=ha.le;refine spec_ofG cx_ok cx_mix Tryz.func311 Tryz.call311 Tryz.ntmps311 Tryz.results311 rfl rfl ?_;refine⟨Nat,fun i=>⟨[(0,.v (.slice a n c)),(1,.fn 261 [.ptr 0 0]),(7,.v (.int .i64 n)),(8,.v (.int .i64 i))],[(0,.cells 3 [.v (.int .i64 m)])],1⟩,fun i H'=>H'=H∧i≤l.length∧idxB (badE m) l 0=idxB (badE m) (l.drop i) i,fun i=>l.length - i,⟨0,[(0,0)],?_,rfl,by omega,rfl⟩,?_⟩
 ·exact⟨⟨rfl,⟨rfl,rfl⟩,rfl,rfl,trivial⟩,⟨⟨rfl,trivial⟩,trivial⟩⟩
 rintro i H1 _ ⟨rfl,hi,hx⟩;refine⟨fun h=>?_,fun h=>?_⟩
 ·have hlt:i<l.length:=by have:=dt h;omega
  obtain⟨ad,cs,q1,hh,r1⟩:=ha.elem (List.getElem?_eq_getElem hlt);obtain⟨rfl,-⟩:=edge_open r1;rw[idxB_step hlt]at hx;refine⟨ad,⟨by omega,by omega,q1⟩,?_⟩;refine⟨_,hh,?_⟩;refine⟨[0],rfl,bad_spec (e:=l[i]) ?_⟩;refine⟨fun h=>?_,fun h=>?_⟩
  ·rw[if_pos h]at hx;rw[hx]at hK;exact⟨.v (.int .i64 i),[(0,.cells 3 [.v (.int .i64 m)])],1,[(0,0)],⟨⟨rfl,trivial⟩,⟨⟨rfl,trivial⟩,trivial⟩⟩,hK⟩
  ·have h':¬badE m l[i]=true:=by rw[h];decide
   rw[if_neg h']at hx;refine⟨⟨by omega,by omega⟩,i+1,[(0,0)],?_,⟨rfl,by omega,hx⟩,by dsimp only;omega⟩;exact⟨⟨rfl,⟨rfl,rfl⟩,rfl,rfl,trivial⟩,⟨⟨rfl,trivial⟩,trivial⟩⟩
 ·have hil:i=l.length:=by have:=df h;omega
  rw[hil,List.drop_length,idxB]at hx;rw[hx]at hK;exact⟨.v (.int .i64 (-1)),[(0,.cells 3 [.v (.int .i64 m)])],1,[(0,0)],⟨⟨rfl,trivial⟩,⟨⟨rfl,trivial⟩,trivial⟩⟩,hK⟩
theorem contF_spec {m:Int} {l:List Edg} {a:Option Addr} {n c:Nat} {H:Hp} {K:SV→St→Hp→Prop} (ha:RL H a n c l)
  (hK:K (.v (.bool (decide (0≤idxB (badE m) l 0)))) ⟨[],[(0,.cells 3 [.v (.int .i64 m)])],1⟩ H):DoesG Tryz.prog 260 [.v (.slice a n c),.fn 261 [.ptr 0 0]] [(0,.cells 3 [.v (.int .i64 m)])] 1 H K:=by
 refine spec_ofG cx_ok cx_mix Tryz.func260 Tryz.call260 Tryz.ntmps260 Tryz.results260 rfl rfl ?_;refine⟨[0],rfl,indexF_spec ha ?_⟩;exact⟨.v (.bool (decide (0≤idxB (badE m) l 0))),[(0,.cells 3 [.v (.int .i64 m)])],1,[(0,0)],⟨⟨rfl,trivial⟩,⟨⟨rfl,trivial⟩,trivial⟩⟩,hK⟩
def rightE (m:Int) (l:List Edg):Bool:=decide (1≤m)&&decide (m≤256)&&decide (l.length≤1024)&&!decide (0≤idxB (badE m) l 0)
theorem right_spec {m:Int} {l:List Edg} {a:Option Addr} {n c:Nat} {H:Hp} {K:Value→Hp→Prop} (ha:RL H a n c l)
  (hK:K (.bool (rightE m l)) H):Does Tryz.prog 217 [.int .i64 m,.slice a n c] H K:=by
 have hn1:=ha.n_eq;refine spec_of cx_ok cx_mix rfl Tryz.func217 Tryz.call217 Tryz.ntmps217 Tryz.results217 rfl rfl ?_;refine⟨fun h=>?_,fun h=>?_⟩
 ·have h1:¬m<1:=df h;refine⟨fun h=>?_,fun h=>?_⟩
  ·have h2:¬m>256:=df h;refine⟨fun h=>?_,fun h=>?_⟩
   ·have h3:¬l.length≤1024:=by have:=dt h;omega
    refine kbool hK ?_
    rw[rightE,decide_eq_false h3];simp
   ·have h3:l.length≤1024:=by have:=df h;omega
    refine⟨[0],rfl,contF_spec (m:=m) ha ?_⟩;refine kbool hK ?_
    rw[rightE,decide_eq_true h3,decide_eq_true (by omega:1≤m),decide_eq_true (by omega:m≤256)];rfl
  ·have h2:¬m≤256:=by have:=dt h;omega
   refine kbool hK ?_
   rw[rightE,decide_eq_false h2];simp
 ·have h1:¬1≤m:=by have:=dt h;omega
  refine kbool hK ?_
  rw[rightE,decide_eq_false h1];simp
end Go.Proofs
end
