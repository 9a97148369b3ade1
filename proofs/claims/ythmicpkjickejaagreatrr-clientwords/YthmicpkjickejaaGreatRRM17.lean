/- Part 'M17' of the proof (N1, G1, P1, N2, N3, F1, F2, P2, Si1, Si2, P6): lemmas, each with its own conditions in its own statement. -/
import Derived.Test.YthmicpkjickejaaGreatRRM0
import Derived.Test.YthmicpkjickejaaGreatRRM1
import Derived.Test.YthmicpkjickejaaGreatRRM13
import Derived.Test.YthmicpkjickejaaGreatRRM15
section
namespace Go.Proofs
open Go.Sy
set_option maxRecDepth 20000
def letB (c:UInt8):Bool:=(decide (97≤(c.toNat:Int))&&decide ((c.toNat:Int)≤122))||(decide (65≤(c.toNat:Int))&&decide ((c.toNat:Int)≤90))||decide ((c.toNat:Int)=95)
def digB (c:UInt8):Bool:=decide (48≤(c.toNat:Int))&&decide ((c.toNat:Int)≤57)
theorem letter_spec {c:UInt8} {H:Hp} {K:Value→Hp→Prop} (hK:K (.bool (letB c)) H):Does Tryz.prog 163 [.int .u8 c.toNat] H K:=by
 refine spec_of cx_ok cx_mix rfl Tryz.func163 Tryz.call163 Tryz.ntmps163 Tryz.results163 rfl rfl ?_;refine⟨fun h1=>?_,fun h1=>?_⟩
 ·refine⟨fun h2=>?_,fun h2=>?_⟩
  ·refine⟨fun h3=>?_,fun h3=>?_⟩
   ·refine⟨fun h4=>?_,fun h4=>?_⟩
    ·exact kbool hK (by simp [letB,h1,h2,h3,h4])
    ·exact kbool hK (by simp [letB,h1,h2,h3,h4])
   ·exact kbool hK (by simp [letB,h1,h2,h3])
  ·exact kbool hK (by simp [letB,h1,h2])
 ·refine⟨fun h3=>?_,fun h3=>?_⟩
  ·refine⟨fun h4=>?_,fun h4=>?_⟩
   ·exact kbool hK (by simp [letB,h1,h3,h4])
   ·exact kbool hK (by simp [letB,h1,h3,h4])
  ·exact kbool hK (by simp [letB,h1,h3])
theorem digit_spec {c:UInt8} {H:Hp} {K:Value→Hp→Prop} (hK:K (.bool (digB c)) H):Does Tryz.prog 165 [.int .u8 c.toNat] H K:=by
 refine spec_of cx_ok cx_mix rfl Tryz.func165 Tryz.call165 Tryz.ntmps165 Tryz.results165 rfl rfl ?_;refine⟨fun h=>?_,fun h=>?_⟩
 ·exact kbool hK (by simp only[digB,h,Bool.true_and])
 ·exact kbool hK (by rw[digB,h];rfl)
theorem refletter_spec {c:UInt8} {H:Hp} {K:Value→Hp→Prop} (hK:K (.bool (letB c)) H):Does Tryz.prog 80 [.int .u8 c.toNat] H K:=by
 refine spec_of cx_ok cx_mix rfl Tryz.func80 Tryz.call80 Tryz.ntmps80 Tryz.results80 rfl rfl ?_;refine⟨fun h1=>?_,fun h1=>?_⟩
 ·refine⟨fun h2=>?_,fun h2=>?_⟩
  ·refine⟨fun h3=>?_,fun h3=>?_⟩
   ·refine⟨fun h4=>?_,fun h4=>?_⟩
    ·exact kbool hK (by simp [letB,h1,h2,h3,h4])
    ·exact kbool hK (by simp [letB,h1,h2,h3,h4])
   ·exact kbool hK (by simp [letB,h1,h2,h3])
  ·exact kbool hK (by simp [letB,h1,h2])
 ·refine⟨fun h3=>?_,fun h3=>?_⟩
  ·refine⟨fun h4=>?_,fun h4=>?_⟩
   ·exact kbool hK (by simp [letB,h1,h3,h4])
   ·exact kbool hK (by simp [letB,h1,h3,h4])
  ·exact kbool hK (by simp [letB,h1,h3])
theorem refdigit_spec {c:UInt8} {H:Hp} {K:Value→Hp→Prop} (hK:K (.bool (digB c)) H):Does Tryz.prog 82 [.int .u8 c.toNat] H K:=by
 refine spec_of cx_ok cx_mix rfl Tryz.func82 Tryz.call82 Tryz.ntmps82 Tryz.results82 rfl rfl ?_;refine⟨fun h=>?_,fun h=>?_⟩
 ·exact kbool hK (by simp only[digB,h,Bool.true_and])
 ·exact kbool hK (by rw[digB,h];rfl)
theorem all_take_succ (s:List UInt8) (f:UInt8→Bool) {i:Nat} {c:UInt8} (h:s[i]?=some c):(s.take (i+1)).all f=((s.take i).all f&&f c):=by
 rw[List.take_add_one,h,Option.toList_some,List.all_append];simp
theorem all_false (s:List UInt8) (f:UInt8→Bool) {i:Nat} {c:UInt8} (h:s[i]?=some c) (hf:f c=false):s.all f=false:=by
 rw[List.all_eq_false];exact⟨c,List.mem_of_getElem? h,by simp [hf]⟩
end Go.Proofs
end
section
namespace Go.Proofs
open Go.Sy
set_option maxRecDepth 20000
def wrp (n:Int):Int:=(n+32768) % 65536 - 32768
def nOf (a:Nm):Nm:=(wrp a.1,wrp a.2)
theorem wrp_le (n:Int) : -32768≤wrp n∧wrp n≤32767:=by unfold wrp;omega
abbrev numV (a:Nm):Value:=.agg #[.int .i64 a.1,.int .i64 a.2]
theorem gwrap_spec {n:Int} {H:Hp} {K:Value→Hp→Prop} (hK:K (.int .i64 (wrp n)) H):Does Tryz.prog 159 [.int .i64 n] H K:=by
 refine spec_of cx_ok cx_mix rfl Tryz.func159 Tryz.call159 Tryz.ntmps159 Tryz.results159 rfl rfl ?_;refine⟨by decide,?_⟩
 have e:wrp n=if 32767<n.tmod 65536 then n.tmod 65536 - 65536 else if n.tmod 65536 < -32768 then n.tmod 65536+65536 else n.tmod 65536:=by
  unfold wrp;have:=Int.tmod_add_mul_tdiv n 65536
  rcases Int.le_total 0 n with h | h
  ·have:=Int.tmod_nonneg 65536 h;have:=Int.tmod_lt_of_pos n (show (0:Int)<65536 by omega);split
   ·omega
   ·split<;>omega
  ·have:=Int.lt_tmod_of_pos n (show (0:Int)<65536 by omega)
   have:n.tmod 65536≤0:=by
    have:=Int.tmod_nonneg (a:=-n) 65536 (by omega);rw[Int.neg_tmod]at this;omega
   split
   ·omega
   ·split<;>omega
 refine⟨fun h=>?_,fun h=>?_⟩
 ·have h:=dt h;rw[if_pos h]at e;rw[e]at hK;have:=Int.tmod_lt_of_pos n (show (0:Int)<65536 by omega);exact⟨⟨by omega,by omega⟩,hK⟩
 ·have h:=df h;rw[if_neg h]at e;have:=Int.lt_tmod_of_pos n (show (0:Int)<65536 by omega);refine⟨fun h=>?_,fun h=>?_⟩
  ·have h:=dt h;rw[if_pos h]at e;rw[e]at hK;exact⟨⟨by omega,by omega⟩,hK⟩
  ·have h:=df h;rw[if_neg h]at e;rw[e]at hK;exact hK
theorem rwrap_spec {n:Int} {H:Hp} {K:Value→Hp→Prop} (hK:K (.int .i64 (wrp n)) H):Does Tryz.prog 162 [.int .i64 n] H K:=by
 refine spec_of cx_ok cx_mix rfl Tryz.func162 Tryz.call162 Tryz.ntmps162 Tryz.results162 rfl rfl ?_;have h1:=Int.lt_tmod_of_pos n (show (0:Int)<65536 by omega);have h2:=Int.tmod_lt_of_pos n (show (0:Int)<65536 by omega);have h3:=Int.tmod_add_mul_tdiv n 65536
 have e:(n.tmod 65536+98304).tmod 65536 - 32768=wrp n:=by
  rw[Int.tmod_eq_emod_of_nonneg (by omega)];unfold wrp;omega
 rw[←e]at hK;have h4:=Int.lt_tmod_of_pos (n.tmod 65536+98304) (show (0:Int)<65536 by omega);have h5:=Int.tmod_lt_of_pos (n.tmod 65536+98304) (show (0:Int)<65536 by omega);exact⟨by decide,⟨by omega,by omega⟩,by decide,⟨by omega,by omega⟩,hK⟩
theorem gof_spec {a b:Int} {H:Hp} {K:Value→Hp→Prop} (hK:K (numV (wrp a,wrp b)) H):Does Tryz.prog 114 [.int .i64 a,.int .i64 b] H K:=by
 refine spec_of cx_ok cx_mix rfl Tryz.func114 Tryz.call114 Tryz.ntmps114 Tryz.results114 rfl rfl ?_;refine gwrap_spec ?_;refine gwrap_spec ?_;exact hK
theorem rof_spec {a b:Int} {H:Hp} {K:Value→Hp→Prop} (hK:K (numV (wrp a,wrp b)) H):Does Tryz.prog 124 [.int .i64 a,.int .i64 b] H K:=by
 refine spec_of cx_ok cx_mix rfl Tryz.func124 Tryz.call124 Tryz.ntmps124 Tryz.results124 rfl rfl ?_;refine rwrap_spec ?_;refine rwrap_spec ?_;exact hK
end Go.Proofs
end
section
namespace Go.Proofs
open Go.Sy
set_option maxRecDepth 20000
theorem index_spec {l:List Bs8} {t:Bs8} {a:Option Addr} {n c:Nat} {H:Hp} {K:Value→Hp→Prop} (ha:RL H a n c (ens l)) (hK:K (.int .i64 (idxS t l 0)) H):Does Tryz.prog 102 [.slice a n c,.string (bs t)] H K:=by
 have hn1:=ha.n_eq;rw[List.length_map]at hn1;have hmx:=ha.le;refine spec_of cx_ok cx_mix rfl Tryz.func102 Tryz.call102 Tryz.ntmps102 Tryz.results102 rfl rfl ?_;refine⟨Nat,fun i=>⟨[(0,.v (.slice a n c)),(1,.v (.string (bs t))),(7,.v (.int .i64 n)),(8,.v (.int .i64 i))],[],0⟩,fun i H'=>H'=H∧i≤l.length∧idxS t l 0=idxS t (l.drop i) i,fun i=>l.length - i,⟨0,[],?_,rfl,by omega,rfl⟩,?_⟩
 ·exact⟨⟨rfl,rfl,rfl,rfl,trivial⟩,trivial⟩
 rintro i H1 _ ⟨rfl,hi,hx⟩;refine⟨fun h=>?_,fun h=>?_⟩
 ·have hlt:i<l.length:=by have:=dt h;omega
  obtain⟨ad,cs,e1,hh,rfl,hl2⟩:=ha.elem (ens_get hlt);rw[idxS_step hlt]at hx;refine⟨ad,⟨by omega,by omega,e1⟩,?_⟩;refine⟨_,hh,?_⟩;refine⟨fun h=>?_,fun h=>?_⟩
  ·have he:t=l[i]:=dt h;rw[if_pos he.symm]at hx;rw[hx]at hK;exact hK
  ·have he:¬t=l[i]:=df h;rw[if_neg (fun h=>he h.symm)]at hx;refine⟨⟨by omega,by omega⟩,i+1,[],?_,⟨rfl,by omega,hx⟩,by dsimp only;omega⟩;exact⟨⟨rfl,rfl,rfl,rfl,trivial⟩,trivial⟩
 ·have hil:i=l.length:=by have:=df h;omega
  rw[hil,List.drop_length,idxS]at hx;rw[hx]at hK;exact hK
theorem place_spec {l:List Bs8} {t:Bs8} {a:Option Addr} {n c:Nat} {H:Hp} {K:Value→Hp→Prop} (ha:RL H a n c (ens l)) (hK:K (.tuple #[.int .i64 (max (idxS t l 0) 0),.bool (decide (0≤idxS t l 0))]) H):Does Tryz.prog 149 [.slice a n c,.string (bs t)] H K:=by
 refine spec_of cx_ok cx_mix rfl Tryz.func149 Tryz.call149 Tryz.ntmps149 Tryz.results149 rfl rfl ?_;refine index_spec ha ?_;exact hK
theorem small4_spec {p:Prog} {a:Option Addr} {n c:Nat} {H:Hp} {K:Value→Hp→Prop} (ha:RL H a n c p) (hK:∀b,(b=true→small4 p)→K (.bool b) H):Does Tryz.prog 5 [.agg #[.slice a n c]] H K:=by
 have hn1:=ha.n_eq;have hmx:=ha.le;have hF:=hK false (fun h=>by cases h);refine spec_of cx_ok cx_mix rfl Tryz.func5 Tryz.call5 Tryz.ntmps5 Tryz.results5 rfl rfl ?_;refine⟨fun h=>?_,fun h=>?_⟩
 ·exact hF
 have h12:p.length≤12:=by have:=df h;omega
 refine⟨Nat,fun i=>⟨[(12,.v (.slice a n c)),(13,.v (.int .i64 n)),(14,.v (.int .i64 i))],[],0⟩,
  fun i H'=>H'=H∧i≤p.length∧∀b∈p.take i,smallB4 b,fun i=>p.length - i,⟨0,[],?_,rfl,by omega,by simp⟩,?_⟩
 ·exact⟨⟨rfl,rfl,rfl,trivial⟩,trivial⟩
 rintro i H1 _ ⟨rfl,hi,hall⟩;refine⟨fun h=>?_,fun h=>?_⟩
 ·have hlt:i<p.length:=by have:=dt h;omega
  have hx:=List.getElem?_eq_getElem hlt
  obtain⟨b,hb⟩:∃b,b=p[i]:=⟨_,rfl⟩
  rw[←hb]at hx;obtain⟨ad,cs,e1,hh,r1⟩:=ha.elem hx;obtain⟨a2,n2,c2,rfl,hr2,hnm,htm⟩:=block_open r1;have hn2:=hr2.n_eq;have hmx2:=hr2.le;refine⟨ad,⟨by omega,by omega,e1⟩,?_⟩;refine⟨_,hh,?_⟩;refine⟨fun h=>?_,fun h=>hF⟩
  have g1:b.2.1.length≤12:=by have:=df h;omega
  refine⟨fun h=>?_,fun h=>hF⟩
  have g2:b.1.l.length≤40:=by have:=df h;simp only[sl_bs]at this;omega
  refine⟨fun h=>?_,fun h=>hF⟩
  have g3:b.2.2.2.2.1.l.length≤40:=by have:=df h;simp only[sl_bs]at this;omega
  refine⟨fun h=>?_,fun h=>hF⟩
  have g4:b.2.2.2.2.2.l.length≤40:=by have:=df h;simp only[sl_bs]at this;omega
  refine⟨fun h=>hF,fun h=>?_⟩
  have g5:b.2.2.2.1.1.l.length≤40:=by have:=df h;simp only[sl_bs]at this;omega
  refine⟨Nat,fun j=>⟨[(12,.v (.slice a n c)),(13,.v (.int .i64 n)),(14,.v (.int .i64 i)),(51,.v (.slice a2 n2 c2)),(52,.v (.int .i64 n2)),(53,.v (.int .i64 j))],[],0⟩,
   fun j H'=>H'=H1∧j≤b.2.1.length∧∀s∈b.2.1.take j,smallS s,fun j=>b.2.1.length - j,⟨0,[],?_,rfl,by omega,by simp⟩,?_⟩
  ·exact⟨⟨rfl,rfl,rfl,rfl,rfl,rfl,trivial⟩,trivial⟩
  rintro j H2 _ ⟨rfl,hj,hsm⟩;refine⟨fun h=>?_,fun h=>?_⟩
  ·have hltj:j<b.2.1.length:=by have:=dt h;omega
   have hxj:=List.getElem?_eq_getElem hltj;have hel:=hr2.elem hxj;obtain⟨ad2,cs2,e2,hh2,r2⟩:=hel;have hst:=stmt_open r2;obtain⟨ecs,hsr⟩:=hst;rw[ecs]at hh2;refine⟨ad2,⟨by omega,by omega,e2⟩,?_⟩;refine⟨_,hh2,?_⟩;refine⟨fun h=>?_,fun h=>hF⟩
   have k1:b.2.1[j].2.1.l.length≤40:=by have:=df h;simp only[sl_bs]at this;omega
   refine⟨fun h=>?_,fun h=>hF⟩
   have k2:b.2.1[j].2.2.2.1.1.l.length≤40:=by have:=df h;simp only[sl_bs]at this;omega
   refine⟨fun h=>hF,fun h=>?_⟩
   have k3:b.2.1[j].2.2.2.2.1.l.length≤40:=by have:=df h;simp only[sl_bs]at this;omega
   refine⟨⟨by omega,by omega⟩,j+1,[],?_,⟨rfl,by omega,mem_take_succ hxj hsm ⟨k1,k2,k3⟩⟩,by dsimp only;omega⟩;exact⟨⟨rfl,rfl,rfl,rfl,rfl,rfl,trivial⟩,trivial⟩
  ·have hjl:j=b.2.1.length:=by have:=df h;omega
   rw[hjl,List.take_length]at hsm;refine⟨⟨by omega,by omega⟩,i+1,[],?_,⟨rfl,by omega,mem_take_succ hx hall ⟨⟨g1,g2,g3,g4,g5⟩,hsm⟩⟩,by dsimp only;omega⟩;exact⟨⟨rfl,rfl,rfl,trivial⟩,trivial⟩
 ·have hil:i=p.length:=by have:=df h;omega
  rw[hil,List.take_length]at hall
  exact hK true fun _=>⟨h12,hall⟩
end Go.Proofs
end
section
namespace Go.Proofs
open Go.Sy
set_option maxRecDepth 20000
def words:List (List UInt8):=[[98,108,111,99,107],[103,111,116,111],[105,102],[116,104,101,110],[101,108,115,101],[114,101,116],[105,110],[111,117,116],[99,111,110,106]]
def wordB (s:List UInt8):Bool:=words.any fun w=>decide (s=w)
theorem words_at {β:Type} (f:List UInt8→β) {k:Nat} (h:k<9):(words.map f)[k]?=some (f (words.getD k [])):=by
 have:k<words.length:=h
 rw[List.getElem?_map,List.getD_eq_getElem?_getD,List.getElem?_eq_getElem this];rfl
theorem word_step (s:List UInt8) {k:Nat} (h:k<9):((words.take (k+1)).any fun w=>decide (s=w))=(((words.take k).any fun w=>decide (s=w))||decide (s=words.getD k [])):=by
 have hl:k<words.length:=h;rw[List.take_add_one,List.getElem?_eq_getElem hl,List.getD_eq_getElem?_getD,List.getElem?_eq_getElem hl,Option.toList_some,List.any_append];simp
theorem word_true (s:List UInt8) {k:Nat} (h:k<9) (he:s=words.getD k []):wordB s=true:=by
 have hl:k<words.length:=h;unfold wordB;rw[List.any_eq_true];refine⟨words.getD k [],?_,by simpa using he⟩;rw[List.getD_eq_getElem?_getD,List.getElem?_eq_getElem hl];exact List.getElem_mem hl
theorem word_spec {s:List UInt8} {H:Hp} {K:Value→Hp→Prop} (hK:K (.bool (wordB s)) H):Does Tryz.prog 164 [.string (bs s)] H K:=by
 refine spec_of cx_ok cx_mix rfl Tryz.func164 Tryz.call164 Tryz.ntmps164 Tryz.results164 rfl rfl ?_;refine⟨Nat,fun k=>⟨[(0,.v (.string (bs s))),(5,.agg (words.map fun w=>.v (.string (bs w)))),(6,.v (.int .i64 k))],[],0⟩,fun k H'=>H'=H∧k≤9∧((words.take k).any fun w=>decide (s=w))=false,fun k=>9 - k,⟨0,[],?_,rfl,by omega,rfl⟩,?_⟩
 ·exact⟨⟨rfl,⟨rfl,rfl⟩,rfl,trivial⟩,trivial⟩
 rintro k H1 _ ⟨rfl,hk,hany⟩;refine⟨fun h=>?_,fun h=>?_⟩
 ·have hlt:k<9:=by have:=dt h;omega
  refine⟨_,⟨by omega,by omega,words_at _ hlt⟩,?_⟩;refine⟨fun h=>?_,fun h=>?_⟩
  ·exact kbool hK (word_true s hlt (of_decide_eq_true h))
  ·refine⟨⟨by omega,by omega⟩,k+1,[],?_,⟨rfl,by omega,by rw[word_step s hlt,hany,Bool.false_or];exact h⟩,by dsimp only;omega⟩;exact⟨⟨rfl,⟨rfl,rfl⟩,rfl,trivial⟩,trivial⟩
 ·have hk9:k=9:=by have:=df h;omega
  subst hk9;exact kbool hK hany
end Go.Proofs
end
section
namespace Go.Proofs
open Go.Sy
set_option maxRecDepth 20000
theorem refword_spec {s:List UInt8} {H:Hp} {K:Value→Hp→Prop} (hK:K (.bool (wordB s)) H):Does Tryz.prog 81 [.string (bs s)] H K:=by
 refine spec_of cx_ok cx_mix rfl Tryz.func81 Tryz.call81 Tryz.ntmps81 Tryz.results81 rfl rfl ?_;refine⟨Nat,fun k=>⟨[(0,.v (.string (bs s))),(5,.own 0),(6,.v (.int .i64 9)),(7,.v (.int .i64 k))],[(0,.row 9 1 (words.map fun w=>[.string (bs w)]))],1⟩,fun k H'=>H'=H∧k≤9∧((words.take k).any fun w=>decide (s=w))=false,fun k=>9 - k,⟨0,[(0,0)],?_,rfl,by omega,rfl⟩,?_⟩
 ·exact⟨⟨rfl,rfl,rfl,rfl,trivial⟩,⟨rfl,trivial⟩⟩
 rintro k H1 _ ⟨rfl,hk,hany⟩;refine⟨fun h=>?_,fun h=>?_⟩
 ·have hlt:k<9:=by have:=dt h;omega
  have hl:(words.map fun w=>[Value.string (bs w)]).length=9:=rfl;refine⟨⟨by omega,by omega⟩,?_⟩;refine⟨_,words_at _ hlt,?_⟩;refine⟨fun h=>?_,fun h=>?_⟩
  ·exact kbool hK (word_true s hlt (of_decide_eq_true h))
  ·refine⟨⟨by omega,by omega⟩,k+1,[(0,0)],?_,⟨rfl,by omega,by rw[word_step s hlt,hany,Bool.false_or];exact h⟩,by dsimp only;omega⟩;exact⟨⟨rfl,rfl,rfl,rfl,trivial⟩,⟨rfl,trivial⟩⟩
 ·have hk9:k=9:=by have:=df h;omega
  subst hk9;exact kbool hK hany
def nmC (c:UInt8):Bool:=letB c||digB c
def nmB (s:List UInt8):Bool:=decide (1≤s.length)&&decide (s.length≤12)&&letB (s.headD 0)&&!wordB s&&s.all nmC
theorem nm_head {s:List UInt8} {c:UInt8} (h:s[0]?=some c):s.headD 0=c:=by
 cases s with
 | nil=>cases h
 | cons x r=>simpa using h
theorem name2_spec {s:List UInt8} {H:Hp} {K:Value→Hp→Prop} (hK:K (.bool (nmB s)) H) (hs:s.length≤9223372036854775807):Does Tryz.prog 137 [.string (bs s)] H K:=by
 have hsl:(sl (bs s)).length=s.length:=rfl;refine spec_of cx_ok cx_mix rfl Tryz.func137 Tryz.call137 Tryz.ntmps137 Tryz.results137 rfl rfl ?_;refine⟨fun h1=>?_,fun h1=>?_⟩
 ·have h1':¬((s.length:Int)<1):=of_decide_eq_false h1;refine⟨fun h2=>?_,fun h2=>?_⟩
  ·have h2':¬(12<(s.length:Int)):=of_decide_eq_false h2
   have h0:0<s.length:=by omega
   have hx0:=List.getElem?_eq_getElem h0;refine⟨_,⟨by omega,hx0⟩,?_⟩;refine letter_spec ?_;refine⟨fun h3=>?_,fun h3=>?_⟩
   ·have h3':letB s[0]=true:=by simpa using h3
    refine word_spec ?_;refine⟨fun h4=>?_,fun h4=>?_⟩
    ·exact kbool hK (by simp [nmB,h4])
    ·have hpre:nmB s=s.all nmC:=by
      unfold nmB;rw[nm_head hx0,h3',h4,decide_eq_true (show 1≤s.length by omega),decide_eq_true (show s.length≤12 by omega)]
      rfl
     refine⟨Nat,fun i=>⟨[(0,.v (.string (bs s))),(23,.v (.int .i64 s.length)),(24,.v (.int .i64 i))],[],0⟩,fun i H'=>H'=H∧i≤s.length∧(s.take i).all nmC=true,fun i=>s.length - i,⟨0,[],?_,rfl,by omega,rfl⟩,?_⟩
     ·exact⟨⟨rfl,rfl,rfl,trivial⟩,trivial⟩
     rintro i H1 _ ⟨rfl,hi,hall⟩;refine⟨fun h=>?_,fun h=>?_⟩
     ·have hlt:i<s.length:=by have:=dt h;omega
      have hx:=List.getElem?_eq_getElem hlt;refine⟨_,⟨by omega,hx⟩,?_⟩;refine letter_spec ?_;refine⟨fun h5=>?_,fun h5=>?_⟩
      ·have h5':letB s[i]=false:=by simpa using h5
       refine⟨_,⟨by omega,hx⟩,?_⟩;refine digit_spec ?_;refine⟨fun h6=>?_,fun h6=>?_⟩
       ·have h6':digB s[i]=false:=by simpa using h6
        exact kbool hK (by rw[hpre,all_false s nmC hx (by rw[nmC,h5',h6'];rfl)])
       ·have h6':digB s[i]=true:=by simpa using h6
        refine⟨⟨by omega,by omega⟩,i+1,[],?_,⟨rfl,by omega,by rw[all_take_succ s nmC hx,hall,nmC,h5',h6'];rfl⟩,by dsimp only;omega⟩;exact⟨⟨rfl,rfl,rfl,trivial⟩,trivial⟩
      ·have h5':letB s[i]=true:=by simpa using h5
       refine⟨⟨by omega,by omega⟩,i+1,[],?_,⟨rfl,by omega,by rw[all_take_succ s nmC hx,hall,nmC,h5'];rfl⟩,by dsimp only;omega⟩;exact⟨⟨rfl,rfl,rfl,trivial⟩,trivial⟩
     ·have hil:i=s.length:=by have:=df h;omega
      rw[hil,List.take_length]at hall;exact kbool hK (by rw[hpre,hall])
   ·have h3':letB s[0]=false:=by simpa using h3
    exact kbool hK (by simp only[nmB,nm_head hx0,h3',Bool.and_false,Bool.false_and])
  ·have h2':12<(s.length:Int):=of_decide_eq_true h2;exact kbool hK (by simp only[nmB,decide_eq_false (show ¬s.length≤12 by omega),Bool.and_false,Bool.false_and])
 ·have h1':(s.length:Int)<1:=of_decide_eq_true h1;exact kbool hK (by simp only[nmB,decide_eq_false (show ¬1≤s.length by omega),Bool.false_and])
theorem refname2_spec {s:List UInt8} {H:Hp} {K:Value→Hp→Prop} (hK:K (.bool (nmB s)) H) (hs:s.length≤9223372036854775807):Does Tryz.prog 43 [.string (bs s)] H K:=by
 have hsl:(sl (bs s)).length=s.length:=rfl;refine spec_of cx_ok cx_mix rfl Tryz.func43 Tryz.call43 Tryz.ntmps43 Tryz.results43 rfl rfl ?_;refine⟨fun h1=>?_,fun h1=>?_⟩
 ·have h1':¬((s.length:Int)=0):=of_decide_eq_false h1;refine⟨fun h2=>?_,fun h2=>?_⟩
  ·have h2':¬(12<(s.length:Int)):=of_decide_eq_false h2
   have h0:0<s.length:=by omega
   have hx0:=List.getElem?_eq_getElem h0;refine⟨_,⟨by omega,hx0⟩,?_⟩;refine refletter_spec ?_;refine⟨fun h3=>?_,fun h3=>?_⟩
   ·have h3':letB s[0]=true:=by simpa using h3
    refine refword_spec ?_;refine⟨fun h4=>?_,fun h4=>?_⟩
    ·exact kbool hK (by simp [nmB,h4])
    ·have hpre:nmB s=s.all nmC:=by
      unfold nmB;rw[nm_head hx0,h3',h4,decide_eq_true (show 1≤s.length by omega),decide_eq_true (show s.length≤12 by omega)]
      rfl
     refine⟨Nat,fun i=>⟨[(0,.v (.string (bs s))),(3,.v (.int .i64 i))],[],0⟩,fun i H'=>H'=H∧i≤s.length∧(s.take i).all nmC=true,fun i=>s.length - i,⟨0,[],?_,rfl,by omega,rfl⟩,?_⟩
     ·exact⟨⟨rfl,rfl,trivial⟩,trivial⟩
     rintro i H1 _ ⟨rfl,hi,hall⟩;refine⟨fun h=>?_,fun h=>?_⟩
     ·have hlt:i<s.length:=by have:=dt h;omega
      have hx:=List.getElem?_eq_getElem hlt;refine⟨_,⟨by omega,hx⟩,?_⟩;refine refletter_spec ?_;refine⟨fun h5=>?_,fun h5=>?_⟩
      ·have h5':letB s[i]=false:=by simpa using h5
       refine⟨_,⟨by omega,hx⟩,?_⟩;refine refdigit_spec ?_;refine⟨fun h6=>?_,fun h6=>?_⟩
       ·have h6':digB s[i]=false:=by simpa using h6
        exact kbool hK (by rw[hpre,all_false s nmC hx (by rw[nmC,h5',h6'];rfl)])
       ·have h6':digB s[i]=true:=by simpa using h6
        refine⟨⟨by omega,by omega⟩,i+1,[],?_,⟨rfl,by omega,by rw[all_take_succ s nmC hx,hall,nmC,h5',h6'];rfl⟩,by dsimp only;omega⟩;exact⟨⟨rfl,rfl,trivial⟩,trivial⟩
      ·have h5':letB s[i]=true:=by simpa using h5
       refine⟨⟨by omega,by omega⟩,i+1,[],?_,⟨rfl,by omega,by rw[all_take_succ s nmC hx,hall,nmC,h5'];rfl⟩,by dsimp only;omega⟩;exact⟨⟨rfl,rfl,trivial⟩,trivial⟩
     ·have hil:i=s.length:=by have:=df h;omega
      rw[hil,List.take_length]at hall;exact kbool hK (by rw[hpre,hall])
   ·have h3':letB s[0]=false:=by simpa using h3
    exact kbool hK (by simp only[nmB,nm_head hx0,h3',Bool.and_false,Bool.false_and])
  ·have h2':12<(s.length:Int):=of_decide_eq_true h2;exact kbool hK (by simp only[nmB,decide_eq_false (show ¬s.length≤12 by omega),Bool.and_false,Bool.false_and])
 ·have h1':(s.length:Int)=0:=of_decide_eq_true h1;exact kbool hK (by simp only[nmB,decide_eq_false (show ¬1≤s.length by omega),Bool.false_and])
end Go.Proofs
end
section
namespace Go.Proofs
open Go.Sy
set_option maxRecDepth 20000
def cmpI (x y:Int):Int:=if x<y then -1 else if y<x then 1 else 0
theorem nanI_spec {x:Int} {H:Hp} {K:Value→Hp→Prop} (hK:K (.bool false) H):Does Tryz.prog 171 [.int .i64 x] H K:=by
 refine spec_of cx_ok cx_mix rfl Tryz.func171 Tryz.call171 Tryz.ntmps171 Tryz.results171 rfl rfl ?_;exact kbool hK (by simp)
theorem cmp_spec {x y:Int} {H:Hp} {K:Value→Hp→Prop} (hK:K (.int .i64 (cmpI x y)) H):Does Tryz.prog 146 [.int .i64 x,.int .i64 y] H K:=by
 refine spec_of cx_ok cx_mix rfl Tryz.func146 Tryz.call146 Tryz.ntmps146 Tryz.results146 rfl rfl ?_;refine nanI_spec ?_;refine nanI_spec ?_;refine⟨(fun h=>by cases h),fun _=>?_⟩;refine⟨(fun h=>by cases h),fun _=>?_⟩;refine⟨fun h=>?_,fun h=>?_⟩
 ·rw[cmpI,if_pos (dt h)]at hK;exact hK
 ·rw[cmpI,if_neg (df h)]at hK;refine⟨fun h=>?_,fun h=>?_⟩
  ·rw[if_pos (dt h)]at hK;exact hK
  ·rw[if_neg (df h)]at hK;exact hK
def orI (a b:Int):Int:=if a≠0 then a else b
theorem or_spec {x y:Int} {a:Option Addr} {n c:Nat} {H:Hp} {K:Value→Hp→Prop} (ha:RL H a n c [x,y]) (hK:K (.int .i64 (orI x y)) H):Does Tryz.prog 145 [.slice a n c] H K:=by
 have hn1:n=2:=ha.n_eq;refine spec_of cx_ok cx_mix rfl Tryz.func145 Tryz.call145 Tryz.ntmps145 Tryz.results145 rfl rfl ?_;refine⟨Nat,fun i=>⟨[(3,.v (.int .i64 0)),(6,.v (.slice a n c)),(7,.v (.int .i64 n)),(8,.v (.int .i64 i))],[],0⟩,fun i H'=>H'=H∧i≤2∧(0<i→x=0)∧(1<i→y=0),fun i=>2 - i,⟨0,[],?_,rfl,by omega,by omega,by omega⟩,?_⟩
 ·exact⟨⟨rfl,rfl,rfl,rfl,trivial⟩,trivial⟩
 rintro i H1 _ ⟨rfl,hi,h0,h1⟩;refine⟨fun h=>?_,fun h=>?_⟩
 ·have hlt:i<2:=by have:=dt h;omega
  have hx:=List.getElem?_eq_getElem (l:=[x,y]) (i:=i) hlt;obtain⟨ad,cs,e1,hh,r1⟩:=ha.elem hx;obtain⟨rfl,-⟩:=r1;refine⟨ad,⟨by omega,by omega,e1⟩,?_⟩;refine⟨_,hh,?_⟩;refine⟨fun h=>?_,fun h=>?_⟩
  ·have hne:[x,y][i]≠0:=nt h
   have e:orI x y=[x,y][i]:=by
    match i,hlt with
    | 0,_=>exact if_pos hne
    | 1,_=>exact if_neg (by simpa using h0 (by omega))
   rw[e]at hK;exact hK
  ·have he:[x,y][i]=0:=nf h;refine⟨⟨by omega,by omega⟩,i+1,[],?_,⟨rfl,by omega,fun _=>?_,fun _=>?_⟩,by dsimp only;omega⟩
   ·exact⟨⟨rfl,rfl,rfl,rfl,trivial⟩,trivial⟩
   ·match i,hlt with
    | 0,_=>exact he
    | 1,_=>exact h0 (by omega)
   ·match i,hlt with
    | 0,_=>omega
    | 1,_=>exact he
 ·have hil:i=2:=by have:=df h;omega
  have e:orI x y=0:=by
   rw[orI,if_neg (by simpa using h0 (by omega))];exact h1 (by omega)
  rw[e]at hK;exact hK
def cmpE (a b:Edg):Int:=orI (cmpI a.1 b.1) (cmpI a.2 b.2)
theorem cmpI_in (x y:Int):inI (cmpI x y):=by
 unfold cmpI inI;split
 ·omega
 ·split<;>omega
theorem cmpE_spec {a b:Edg} {H:Hp} {K:Value→Hp→Prop} (hK:∀H',Le H H'→K (.int .i64 (cmpE a b)) H'):Does Tryz.prog 144 [.agg #[.int .i64 a.1,.int .i64 a.2],.agg #[.int .i64 b.1,.int .i64 b.2]] H K:=by
 refine spec_of cx_ok cx_mix rfl Tryz.func144 Tryz.call144 Tryz.ntmps144 Tryz.results144 rfl rfl ?_;refine⟨some ([],[0,1,2,3,5,6,7,8,4,9,10,11,12]),by kernel_rfl,?_⟩;refine cmp_spec ?_;refine cmp_spec ?_;intro x H1 hle hx;have hx2:RowAt H1 x 1 (iRows [cmpI a.1 b.1,cmpI a.2 b.2]):=hx
 have hr:=RL.of_row (α:=Int) hx2 (rc_iRows (fun n hn=>by
  simp only[List.mem_cons,List.not_mem_nil,or_false]at hn
  rcases hn with rfl | rfl<;>exact cmpI_in _ _))
 obtain⟨a2,n2,c2,e,hr⟩:=hr;rw[e];refine or_spec hr ?_;exact hK _ (Le.refl H)
theorem eqE_spec {a b:Edg} {H:Hp} {K:Value→Hp→Prop} (hK:K (.bool (decide (a=b))) H):Does Tryz.prog 148 [.agg #[.int .i64 a.1,.int .i64 a.2],.agg #[.int .i64 b.1,.int .i64 b.2]] H K:=by
 refine spec_of cx_ok cx_mix rfl Tryz.func148 Tryz.call148 Tryz.ntmps148 Tryz.results148 rfl rfl ?_;refine kbool hK ?_;rw[Bool.eq_iff_iff];simp [Prod.ext_iff]
theorem cloneE_spec {l:List Edg} {a:Option Addr} {n c:Nat} {H:Hp} {K:SV→St→Hp→Prop} (ha:RL H a n c l) (hn:l.length<8000000000000) (hK:K (.own 0) ⟨[],[(0,.row 113 2 (eRows l))],1⟩ H):DoesG Tryz.prog 142 [.v (.slice a n c)] [] 0 H K:=by
 refine spec_ofG cx_ok cx_mix Tryz.func142 Tryz.call142 Tryz.ntmps142 Tryz.results142 rfl rfl ?_;refine⟨fun h=>?_,fun h=>?_⟩
 ·have ha0:a=none:=by cases a<;>simp_all
  subst ha0;have hl:=RL_nil ha;subst hl;exact⟨.own 0,[(0,.row 113 2 (eRows []))],1,[],⟨⟨⟨rfl,rfl,rfl⟩,trivial⟩,⟨rfl,trivial⟩⟩,hK⟩
 ·refine⟨eRows l,RLe_row ha,⟨⟨by show (0+(eRows l).length)*16≤_;rw[List.length_map];omega,by show 0+(eRows l).length≤_;rw[List.length_map];omega⟩,?_⟩⟩;exact⟨.own 0,[(0,.row 113 2 (eRows l))],1,[(0,1)],⟨⟨rfl,trivial⟩,⟨rfl,trivial⟩⟩,hK⟩
end Go.Proofs
end
section
namespace Go.Proofs
open Go.Sy
set_option maxRecDepth 20000
theorem gComp_snoc {α:Type} [LO α]:∀(m:List α) (x y:α),gComp (m++[x,y])=if x=y then gComp (m++[x]) else gComp (m++[x])++[y]
 | [],x,y=>by
  simp only[List.nil_append,gComp]
  split<;>simp_all
 | [a],x,y=>by
  have ih:=gComp_snoc [] x y;simp only[List.nil_append]at ih;simp only[List.cons_append,List.nil_append];rw[gComp,ih]
  split<;>rename_i h1<;>split<;>rename_i h2<;>simp [gComp,h1]
 | a::b::m,x,y=>by
  have ih:=gComp_snoc (b::m) x y;simp only[List.cons_append]at ih ⊢;rw[gComp,ih]
  conv=>rhs;rw[gComp]
  split<;>rename_i h1<;>split<;>rename_i h2<;>simp
theorem gComp_take {α:Type} [LO α] {l:List α} {j:Nat} (hj:j+1<l.length):gComp (l.take (j+2))=if l[j]=l[j+1] then gComp (l.take (j+1)) else gComp (l.take (j+1))++[l[j+1]]:=by
 have e1:l.take (j+1)=l.take j++[l[j]]:=by rw[List.take_add_one,List.getElem?_eq_getElem (by omega)];rfl
 have e2:l.take (j+2)=l.take j++[l[j],l[j+1]]:=by
  rw[List.take_add_one,List.getElem?_eq_getElem hj,e1,Option.toList_some,List.append_assoc];rfl
 rw[e2,e1,gComp_snoc]
theorem eRows_get {l:List Edg} {i:Nat} (h:i<l.length):(eRows l)[i]?=some [.int .i64 l[i].1,.int .i64 l[i].2]:=by rw[List.getElem?_map,List.getElem?_eq_getElem h];rfl
theorem eRows_set (l:List Edg) (i:Nat) (x:Edg):(eRows l).set i [.int .i64 x.1,.int .i64 x.2]=eRows (l.set i x):=(List.map_set).symm
theorem compE_spec {l:List Edg} (hn:l.length<8000000000000) {H:Hp} {K:SV→St→Hp→Prop}
  (hK:K (.own 1) ⟨[],[(0,.dead),(1,.row 113 2 (eRows (gComp l)))],2⟩ H):DoesG Tryz.prog 147 [.own 0,.fn 148 []] [(0,.row 113 2 (eRows l))] 1 H K:=by
 refine spec_ofG cx_ok cx_mix Tryz.func147 Tryz.call147 Tryz.ntmps147 Tryz.results147 rfl rfl ?_;have hel:(eRows l).length=l.length:=List.length_map _;refine⟨fun h=>?_,fun h=>?_⟩
 ·have h2:l.length<2:=by have:=dt h;rw[hel]at this;omega
  have e:gComp l=l:=by
   match l,h2 with
   | [],_=>rfl
   | [_],_=>rfl
  rw[e]at hK;exact⟨.own 1,[(0,.dead),(1,.row 113 2 (eRows l))],2,[(1,0)],⟨⟨rfl,trivial⟩,⟨trivial,rfl,trivial⟩⟩,hK⟩
 ·have h2:2≤l.length:=by have:=df h;rw[hel]at this;omega
  refine⟨Nat,fun k=>⟨[(0,.own 0),(1,.fn 148 []),(5,.v (.int .i64 k))],[(0,.row 113 2 (eRows l))],1⟩,fun k H'=>H'=H∧1≤k∧k≤l.length∧gComp (l.take k)=l.take k,fun k=>l.length - k,⟨1,[(0,0)],?_,rfl,by omega,by omega,?_⟩,?_⟩
  ·exact⟨⟨rfl,⟨rfl,rfl⟩,rfl,trivial⟩,⟨rfl,trivial⟩⟩
  ·match l,h2 with
   | x::r,_=>simp [gComp]
  rintro k H1 _ ⟨rfl,hk1,hk,hg⟩;refine⟨fun h=>?_,fun h=>?_⟩
  ·have hlt:k<l.length:=by have:=dt h;rw[hel]at this;omega
   refine⟨some ([],[0,1,2,3,4,5,6,7,8,9,10]),by kernel_rfl,?_⟩
   have g1:(eRows l)[((k:Int)).toNat]?=some [.int .i64 l[k].1,.int .i64 l[k].2]:=by rw[Int.toNat_natCast];exact eRows_get hlt
   have hk2:k - 1<l.length:=by omega
   have g2:(eRows l)[((k:Int) - 1).toNat]?=some [.int .i64 l[k - 1].1,.int .i64 l[k - 1].2]:=by
    rw[show ((k:Int) - 1).toNat=k - 1 by omega];exact eRows_get hk2
   refine⟨⟨by omega,by rw[hel];omega⟩,?_⟩;refine⟨_,g1,?_⟩;refine⟨⟨by omega,by omega⟩,?_⟩;refine⟨⟨by omega,by rw[hel];omega⟩,?_⟩;refine⟨_,g2,?_⟩;refine eqE_spec (a:=l[k]) (b:=l[k - 1]) ?_
   obtain⟨j,hj⟩:∃j,k=j+1:=⟨k - 1,by omega⟩
   have hgt:gComp (l.take (k+1))=if l[k - 1]=l[k] then gComp (l.take k) else gComp (l.take k)++[l[k]]:=by
    subst hj;exact gComp_take hlt
   refine⟨fun h=>?_,fun h=>?_⟩
   ·have he:l[k]=l[k - 1]:=dt h;rw[if_pos he.symm,hg]at hgt;refine .inr ?_;refine⟨⟨by omega,by rw[hel];omega,by omega⟩,?_⟩;refine .inl ?_
    have hsub:(((eRows l).length:Int)).toNat - ((k:Int)).toNat=l.length - k:=by rw[hel];rfl
    refine⟨Nat×Nat×List Edg,fun q=>⟨[(0,.own 0),(1,.fn 148 []),(5,.v (.int .i64 q.1)),(6,.sub 0 2 k (l.length - k)),(7,.v (.int .i64 q.2.1))],[(0,.row 113 2 (eRows q.2.2))],1⟩,
     fun q H'=>H'=H1∧q.2.2.length=l.length∧1≤q.2.1∧k+q.2.1≤l.length∧1≤q.1∧q.1+1≤k+q.2.1∧q.2.2.take q.1=gComp (l.take (k+q.2.1))∧∀j,k+q.2.1≤j+1→q.2.2[j]?=l[j]?,
     fun q=>l.length - (k+q.2.1),⟨(k,1,l),[(0,0)],?_,rfl,rfl,Nat.le_refl _,hlt,hk1,Nat.le_refl _,hgt.symm,fun _ _=>rfl⟩,?_⟩
    ·exact⟨⟨rfl,⟨rfl,rfl⟩,rfl,⟨rfl,rfl,rfl,hsub⟩,rfl,trivial⟩,⟨rfl,trivial⟩⟩
    rintro⟨k',k2,cur⟩ H2 _ ⟨rfl,c1,c2,c3,c4,c5,c6,c7⟩;simp only at c1 c2 c3 c4 c5 c6 c7
    have hec:(eRows cur).length=l.length:=by rw[List.length_map,c1]
    refine .inl ?_;refine⟨fun h=>?_,fun h=>?_⟩
    ·have hlt2:k+k2<l.length:=by have:=dt h;simp only at this;omega
     refine⟨some ([],[0,1,2,3,4,5,6,7,8,9,10,11]),by kernel_rfl,?_⟩;have hA:=c7 (k+k2) (by omega);rw[List.getElem?_eq_getElem hlt2]at hA;have hB:=c7 (k+k2 - 1) (by omega);rw[List.getElem?_eq_getElem (by omega:k+k2 - 1<l.length)]at hB
     have gA:(eRows cur)[((k:Int)+((k',k2,cur).snd.fst:Int)).toNat]?=some [.int .i64 l[k+k2].1,.int .i64 l[k+k2].2]:=by
      rw[show ((k:Int)+((k',k2,cur).snd.fst:Int)).toNat=k+k2 by simp only;omega,List.getElem?_map,hA];rfl
     have gB:(eRows cur)[((k:Int)+(((k',k2,cur).snd.fst:Int) - 1)).toNat]?=some [.int .i64 l[k+k2 - 1].1,.int .i64 l[k+k2 - 1].2]:=by
      rw[show ((k:Int)+(((k',k2,cur).snd.fst:Int) - 1)).toNat=k+k2 - 1 by simp only;omega,List.getElem?_map,hB];rfl
     refine⟨⟨by simp only;omega,by simp only;omega,by simp only;omega⟩,?_⟩;refine⟨_,gA,?_⟩;refine⟨⟨by simp only;omega,by simp only;omega⟩,?_⟩;refine⟨⟨by simp only;omega,by simp only;omega,by simp only;omega⟩,?_⟩;refine⟨_,gB,?_⟩;refine eqE_spec (a:=l[k+k2]) (b:=l[k+k2 - 1]) ?_
     have hE:gComp (l.take (k+(k2+1)))=if l[k+k2 - 1]=l[k+k2] then gComp (l.take (k+k2)) else gComp (l.take (k+k2))++[l[k+k2]]:=by
      obtain⟨j,hj⟩:∃j,k+k2=j+1:=⟨k+k2 - 1,by omega⟩
      have:=gComp_take (l:=l) (j:=j) (by omega);rw[show k+(k2+1)=j+2 by omega];simp only[hj,Nat.add_sub_cancel];exact this
     refine⟨fun h=>?_,fun h=>?_⟩
     ·have hne:¬l[k+k2]=l[k+k2 - 1]:=by
       intro e;rw[decide_eq_true e]at h;cases h
      rw[if_neg (fun e=>hne e.symm)]at hE;refine .inl ?_;refine⟨⟨by simp only;omega,by simp only;omega,by simp only;omega⟩,?_⟩;refine⟨_,gA,?_⟩;refine⟨⟨by simp only;omega,by simp only;rw[hec];omega⟩,?_⟩
      have hk':k'<cur.length:=by omega
      refine⟨[.int .i64 cur[k'].1,.int .i64 cur[k'].2],by show (eRows cur)[((k':Nat):Int).toNat]?=_;rw[Int.toNat_natCast];exact eRows_get hk',?_⟩
      have e5:(eRows cur).set ((k':Int)).toNat [.int .i64 l[k+k2].1,.int .i64 l[k+k2].2]=eRows (cur.set k' l[k+k2]):=by
       rw[Int.toNat_natCast];exact eRows_set cur k' _
      refine⟨⟨by simp only;omega,by simp only;omega⟩,?_⟩;refine⟨⟨by simp only;omega,by simp only;omega⟩,(k'+1,k2+1,cur.set k' l[k+k2]),[(0,0)],?_,⟨rfl,by simp only[List.length_set];exact c1,by simp only;omega,by simp only;omega,by simp only;omega,by simp only;omega,?_,fun j hj=>?_⟩,by simp only;omega⟩
      ·exact⟨⟨rfl,⟨rfl,rfl⟩,rfl,⟨rfl,rfl,rfl,rfl⟩,rfl,trivial⟩,⟨e5,trivial⟩⟩
      ·simp only;rw[hE,←c6,List.take_add_one,List.getElem?_set_self hk',Option.toList_some,List.take_set_of_le (Nat.le_refl _)]
      ·simp only at hj ⊢;rw[List.getElem?_set_ne (by omega)];exact c7 j (by omega)
     ·have he:l[k+k2]=l[k+k2 - 1]:=by
       cases hh:decide (l[k+k2]=l[k+k2 - 1]) with
       | true=>exact dt hh
       | false=>rw[hh]at h;cases h
      rw[if_pos he.symm]at hE;refine⟨⟨by simp only;omega,by simp only;omega⟩,(k',k2+1,cur),[(0,0)],?_,⟨rfl,c1,by simp only;omega,by simp only;omega,c4,by simp only;omega,?_,fun j hj=>c7 j (by simp only at hj;omega)⟩,by simp only;omega⟩
      ·exact⟨⟨rfl,⟨rfl,rfl⟩,rfl,⟨rfl,rfl,rfl,rfl⟩,rfl,trivial⟩,⟨rfl,trivial⟩⟩
      ·simp only;rw[hE,←c6]
    ·have hk2l:k+k2=l.length:=by have:=df h;simp only at this;omega
     rw[hk2l,List.take_length]at c6
     have hk':k'≤cur.length:=by omega
     refine .inr ?_;refine⟨⟨by simp only;omega,by simp only;rw[hec];omega,by simp only;rw[hec];omega⟩,?_⟩;refine⟨by show ((k':Nat):Int).toNat+(((eRows cur).length:Int).toNat - ((k':Nat):Int).toNat)≤(eRows cur).length;simp only[Int.toNat_natCast];rw[hec];omega,?_⟩
     have hcl:∀(z:List (List Value)),((eRows cur).take ((k':Nat):Int).toNat++z).take ((k':Nat):Int).toNat=eRows (gComp l):=fun z=>by
      rw[Int.toNat_natCast,List.take_append_of_le_length (by rw[List.length_take];omega),List.take_take,Nat.min_self,←List.map_take,c6]
     refine .inl ⟨⟨by simp only;omega,?_⟩,?_⟩
     ·show ((k':Nat):Int)≤((((eRows cur).take ((k':Nat):Int).toNat++List.replicate _ _++_:List (List Value)).length:Nat):Int);rw[List.length_append,List.length_append,List.length_take,Int.toNat_natCast,hec];omega
     ·refine⟨.own 1,[(0,.dead),(1,.row 113 2 (eRows (gComp l)))],2,[(1,1)],⟨⟨rfl,trivial⟩,⟨trivial,?_,trivial⟩⟩,hK⟩;have:=hcl (List.replicate (((eRows cur).length:Int).toNat - ((k':Nat):Int).toNat) [.int .i64 0,.int .i64 0]++(eRows cur).drop (((k':Nat):Int).toNat+(((eRows cur).length:Int).toNat - ((k':Nat):Int).toNat)));rw[←List.append_assoc]at this;exact this
   ·have he:¬l[k]=l[k - 1]:=df h;rw[if_neg (fun e=>he e.symm),hg]at hgt;refine⟨⟨by omega,by omega⟩,k+1,[(0,0)],?_,⟨rfl,by omega,by omega,?_⟩,by dsimp only;omega⟩
    ·exact⟨⟨rfl,⟨rfl,rfl⟩,rfl,trivial⟩,⟨rfl,trivial⟩⟩
    ·rw[hgt,List.take_add_one,List.getElem?_eq_getElem hlt];rfl
  ·have hkl:k=l.length:=by have:=df h;rw[hel]at this;omega
   rw[hkl,List.take_length]at hg;rw[hg]at hK;exact⟨.own 1,[(0,.dead),(1,.row 113 2 (eRows l))],2,[(1,0)],⟨⟨rfl,trivial⟩,⟨trivial,rfl,trivial⟩⟩,hK⟩
end Go.Proofs
end
section
namespace Go.Proofs
open Go.Sy
set_option maxRecDepth 20000
theorem dec_len {α:Type} [DecidableEq α] {l m:List α} (h:l.length≠m.length):decide (l=m)=false:=decide_eq_false fun e=>h (by rw[e])
theorem same_spec {l m:List Edg} {a1 a2:Option Addr} {n1 c1 n2 c2:Nat} {H:Hp} {K:Value→Hp→Prop} (h1:RL H a1 n1 c1 l) (h2:RL H a2 n2 c2 m) (hK:K (.bool (decide (l=m))) H):Does Tryz.prog 31 [.slice a1 n1 c1,.slice a2 n2 c2] H K:=by
 have e1:=h1.n_eq;have e2:=h2.n_eq;have b1:=h1.le;have b2:=h2.le;refine spec_of cx_ok cx_mix rfl Tryz.func31 Tryz.call31 Tryz.ntmps31 Tryz.results31 rfl rfl ?_;refine⟨fun h=>?_,fun h=>?_⟩
 ·have hne:l.length≠m.length:=by have:=nt h;omega
  rw[dec_len hne]at hK;exact hK
 have hlen:l.length=m.length:=by have:=nf h;omega
 refine⟨Nat,fun i=>⟨[(0,.v (.slice a1 n1 c1)),(1,.v (.slice a2 n2 c2)),(12,.v (.int .i64 n1)),(13,.v (.int .i64 i))],[],0⟩,fun i H'=>H'=H∧i≤l.length∧l.take i=m.take i,fun i=>l.length - i,⟨0,[],?_,rfl,by omega,by simp⟩,?_⟩
 ·exact⟨⟨rfl,rfl,rfl,rfl,trivial⟩,trivial⟩
 rintro i H1 _ ⟨rfl,hi,ht⟩;refine⟨fun h=>?_,fun h=>?_⟩
 ·have hlt:i<l.length:=by have:=dt h;omega
  have hlt2:i<m.length:=by omega
  refine⟨some ([],[0,1,2,3,4,5,6,7,8]),by kernel_rfl,?_⟩;obtain⟨ad,cs,q1,hh,r1⟩:=h1.elem (List.getElem?_eq_getElem hlt);obtain⟨rfl,-⟩:=edge_open r1;obtain⟨ad2,cs2,q2,hh2,r2⟩:=h2.elem (List.getElem?_eq_getElem hlt2);obtain⟨rfl,-⟩:=edge_open r2;refine⟨ad,⟨by omega,by omega,q1⟩,?_⟩;refine⟨_,hh,?_⟩;refine⟨ad2,⟨by omega,by omega,q2⟩,?_⟩;refine⟨_,hh2,?_⟩;refine⟨fun h=>?_,fun h=>?_⟩
  ·have hne:¬l=m:=fun e=>by subst e;simp at h
   rw[decide_eq_false hne]at hK;exact hK
  ·have he:l[i]=m[i]:=by
    rw[Prod.ext_iff]
    simpa using h
   refine⟨⟨by omega,by omega⟩,i+1,[],?_,⟨rfl,by omega,?_⟩,by dsimp only;omega⟩
   ·exact⟨⟨rfl,rfl,rfl,rfl,trivial⟩,trivial⟩
   ·rw[List.take_add_one,List.take_add_one,ht,List.getElem?_eq_getElem hlt,List.getElem?_eq_getElem hlt2,he]
 ·have hil:i=l.length:=by have:=df h;omega
  subst hil;rw[List.take_length,hlen,List.take_length]at ht;rw[decide_eq_true ht]at hK;exact hK
theorem ints_spec {l m:List Int} {a1 a2:Option Addr} {n1 c1 n2 c2:Nat} {H:Hp} {K:Value→Hp→Prop} (h1:RL H a1 n1 c1 l) (h2:RL H a2 n2 c2 m) (hK:K (.bool (decide (l=m))) H):Does Tryz.prog 32 [.slice a1 n1 c1,.slice a2 n2 c2] H K:=by
 have e1:=h1.n_eq;have e2:=h2.n_eq;have b1:=h1.le;have b2:=h2.le;refine spec_of cx_ok cx_mix rfl Tryz.func32 Tryz.call32 Tryz.ntmps32 Tryz.results32 rfl rfl ?_;refine⟨fun h=>?_,fun h=>?_⟩
 ·have hne:l.length≠m.length:=by have:=nt h;omega
  rw[dec_len hne]at hK;exact hK
 have hlen:l.length=m.length:=by have:=nf h;omega
 refine⟨Nat,fun i=>⟨[(0,.v (.slice a1 n1 c1)),(1,.v (.slice a2 n2 c2)),(12,.v (.int .i64 n1)),(13,.v (.int .i64 i))],[],0⟩,fun i H'=>H'=H∧i≤l.length∧l.take i=m.take i,fun i=>l.length - i,⟨0,[],?_,rfl,by omega,by simp⟩,?_⟩
 ·exact⟨⟨rfl,rfl,rfl,rfl,trivial⟩,trivial⟩
 rintro i H1 _ ⟨rfl,hi,ht⟩;refine⟨fun h=>?_,fun h=>?_⟩
 ·have hlt:i<l.length:=by have:=dt h;omega
  have hlt2:i<m.length:=by omega
  refine⟨some ([],[0,1,2,3,4,5,6,7,8]),by kernel_rfl,?_⟩;obtain⟨ad,cs,q1,hh,r1⟩:=h1.elem (List.getElem?_eq_getElem hlt);obtain⟨rfl,-⟩:=r1;obtain⟨ad2,cs2,q2,hh2,r2⟩:=h2.elem (List.getElem?_eq_getElem hlt2);obtain⟨rfl,-⟩:=r2;refine⟨ad,⟨by omega,by omega,q1⟩,?_⟩;refine⟨_,hh,?_⟩;refine⟨ad2,⟨by omega,by omega,q2⟩,?_⟩;refine⟨_,hh2,?_⟩;refine⟨fun h=>?_,fun h=>?_⟩
  ·have hne:¬l=m:=fun e=>by subst e;simp at h
   rw[decide_eq_false hne]at hK;exact hK
  ·have he:l[i]=m[i]:=by
    simpa using h
   refine⟨⟨by omega,by omega⟩,i+1,[],?_,⟨rfl,by omega,?_⟩,by dsimp only;omega⟩
   ·exact⟨⟨rfl,rfl,rfl,rfl,trivial⟩,trivial⟩
   ·rw[List.take_add_one,List.take_add_one,ht,List.getElem?_eq_getElem hlt,List.getElem?_eq_getElem hlt2,he]
 ·have hil:i=l.length:=by have:=df h;omega
  subst hil;rw[List.take_length,hlen,List.take_length]at ht;rw[decide_eq_true ht]at hK;exact hK
def idxP {α:Type} (p:α→Bool):List α→Nat→List Int
 | [],_=>[]
 | x::r,i=>if p x then (i:Int)::idxP p r (i+1) else idxP p r (i+1)
theorem idxP_snoc {α:Type} (p:α→Bool):∀(l:List α) (x:α) (i:Nat),idxP p (l++[x]) i=idxP p l i++(if p x then [((i+l.length:Nat):Int)] else [])
 | [],x,i=>by simp only[List.nil_append,idxP,List.length_nil,Nat.add_zero]
 | y::r,x,i=>by
  rw[List.cons_append,idxP,idxP,idxP_snoc p r x (i+1),List.length_cons,show i+1+r.length=i+(r.length+1) by omega]
  cases p y<;>rfl
theorem idxP_len {α:Type} (p:α→Bool):∀(l:List α) (i:Nat),(idxP p l i).length≤l.length
 | [],i=>Nat.le_refl _
 | y::r,i=>by
  have:=idxP_len p r (i+1);rw[idxP,List.length_cons];split
  ·rw[List.length_cons];omega
  ·omega
theorem idxP_take {α:Type} (p:α→Bool) {l:List α} {i:Nat} (h:i<l.length):idxP p (l.take (i+1)) 0=idxP p (l.take i) 0++(if p l[i] then [(i:Int)] else []):=by
 rw[List.take_add_one,List.getElem?_eq_getElem h,Option.toList_some,idxP_snoc,Nat.zero_add,List.length_take,Nat.min_eq_left (by omega)]
def isExit (b:Block):Bool:=decide (b.2.2.1=3)
def exitsOf (p:Prog):List Int:=idxP isExit p 0
theorem rI_all {x:Value} {H:Hp} {l:List Int} (h:RowAt H x 1 (iRows l)) (hl:∀n∈l,inI n):∃a n c,x = .slice a n c∧RL H a n c l:=RL.of_row (α:=Int) h (rc_iRows hl)
theorem idxP_in {α:Type} (p:α→Bool):∀(l:List α) (i:Nat),i+l.length≤9223372036854775807→∀n∈idxP p l i,inI n
 | [],_,_=>by simp [idxP]
 | x::r,i,h=>by
  have ih:=idxP_in p r (i+1) (by rw[List.length_cons]at h;omega);rw[List.length_cons]at h;rw[idxP];split
  ·intro n hn
   rcases List.mem_cons.1 hn with rfl | hn
   ·exact⟨by omega,by omega⟩
   ·exact ih n hn
  ·exact ih
theorem block_spec {p:Prog} (hp:p.length≤12) {t:Bs8} {a:Option Addr} {n c:Nat} {H:Hp} {K:Value→Hp→Prop} (ha:RL H a n c p)
 (hK:∀H',Le H H'→K (.tuple #[.int .i64 (max (idxS t (p.map (·.1.l)) 0) 0),.bool (decide (0≤idxS t (p.map (·.1.l)) 0))]) H'):Does Tryz.prog 98 [.agg #[.slice a n c],.string (bs t)] H K:=by
 have hn1:=ha.n_eq;have hmx:=ha.le;refine spec_of cx_ok cx_mix rfl Tryz.func98 Tryz.call98 Tryz.ntmps98 Tryz.results98 rfl rfl ?_
 refine⟨Nat,fun i=>⟨[(1,.v (.string (bs t))),(6,.own 0),(10,.v (.slice a n c)),(11,.v (.int .i64 n)),(12,.v (.int .i64 i))],[(0,.row 9 1 (sRows ((p.take i).map (·.1.l))))],1⟩,
  fun i H'=>H'=H∧i≤p.length,fun i=>p.length - i,⟨0,[],?_,rfl,by omega⟩,?_⟩
 ·exact⟨⟨rfl,⟨rfl,rfl,rfl⟩,rfl,rfl,rfl,trivial⟩,⟨rfl,trivial⟩⟩
 rintro i H1 _ ⟨rfl,hi⟩;refine⟨fun h=>?_,fun h=>?_⟩
 ·have hlt:i<p.length:=by have:=dt h;omega
  obtain⟨ad,cs,q1,hh,r1⟩:=ha.elem (List.getElem?_eq_getElem hlt);obtain⟨a2,n2,c2,rfl,hr2,hnm,htm⟩:=block_open r1
  have hel:(sRows ((p.take i).map (·.1.l))).length=i:=by simp;omega
  refine⟨ad,⟨by omega,by omega,q1⟩,?_⟩;refine⟨_,hh,?_⟩;refine⟨⟨by show ((sRows ((p.take i).map (·.1.l))).length+1)*16≤_;omega,by show (sRows ((p.take i).map (·.1.l))).length+1≤_;omega⟩,?_⟩
  have erow:sRows ((p.take i).map (·.1.l))++[[.string (bs p[i].1.l)]]=sRows ((p.take (i+1)).map (·.1.l)):=by
   rw[List.take_add_one,List.getElem?_eq_getElem hlt,Option.toList_some,List.map_append];exact (List.map_append (f:=fun s=>[Value.string (bs s)]) (l₁:=(p.take i).map (·.1.l)) (l₂:=[p[i].1.l])).symm
  refine⟨⟨by omega,by omega⟩,i+1,[(0,3)],?_,⟨rfl,by omega⟩,by dsimp only;omega⟩;exact⟨⟨rfl,rfl,rfl,rfl,rfl,trivial⟩,⟨erow,trivial⟩⟩
 ·have hil:i=p.length:=by have:=df h;omega
  intro x H2 hle2 hx;rw[hil,List.take_length]at hx
  have hrc:RC (α:=Str) H2 (sRows (p.map (·.1.l))) (ens (p.map (·.1.l))):=rc_sRows (fun s hs=>by
   obtain⟨b,hb,rfl⟩:=List.mem_map.1 hs;obtain⟨cs,hr⟩:=rl_mem ha hb;obtain⟨_,_,_,_,_,h5,_⟩:=block_open hr
   exact h5)
  obtain⟨a1,n1,c1,rfl,hr⟩:=RL.of_row (α:=Str) hx hrc;refine place_spec hr ?_;exact hK _ (Le.refl H1)
theorem idxS_map {p:Prog} {t:Bs8} {i:Nat} (h:i<p.length):idxS t ((p.map (·.1.l)).drop i) i=if p[i].1.l=t then (i:Int) else idxS t ((p.map (·.1.l)).drop (i+1)) (i+1:Nat):=by
 have h2:i<(p.map (·.1.l)).length:=by rw[List.length_map];exact h
 rw[idxS_step h2,List.getElem_map]
theorem block6_spec {p:Prog} (hp:p.length≤12) {t:Bs8} {a:Option Addr} {n c:Nat} {H:Hp} {K:Value→Hp→Prop} (ha:RL H a n c p)
 (hK:K (.int .i64 (idxS t (p.map (·.1.l)) 0)) H):Does Tryz.prog 127 [.agg #[.slice a n c],.string (bs t)] H K:=by
 have hn1:=ha.n_eq;have hmx:=ha.le;refine spec_of cx_ok cx_mix rfl Tryz.func127 Tryz.call127 Tryz.ntmps127 Tryz.results127 rfl rfl ?_
 refine⟨Nat,fun i=>⟨[(1,.v (.string (bs t))),(8,.v (.slice a n c)),(9,.v (.int .i64 n)),(10,.v (.int .i64 i))],[],0⟩,
  fun i H'=>H'=H∧i≤p.length∧idxS t (p.map (·.1.l)) 0=idxS t ((p.map (·.1.l)).drop i) i,fun i=>p.length - i,⟨0,[],?_,rfl,by omega,rfl⟩,?_⟩
 ·exact⟨⟨rfl,rfl,rfl,rfl,trivial⟩,trivial⟩
 rintro i H1 _ ⟨rfl,hi,hx⟩;refine⟨fun h=>?_,fun h=>?_⟩
 ·have hlt:i<p.length:=by have:=dt h;omega
  obtain⟨ad,cs,q1,hh,r1⟩:=ha.elem (List.getElem?_eq_getElem hlt);obtain⟨a2,n2,c2,rfl,hr2,hnm,htm⟩:=block_open r1;rw[idxS_map hlt]at hx;refine⟨ad,⟨by omega,by omega,q1⟩,?_⟩;refine⟨_,hh,?_⟩;refine⟨fun h=>?_,fun h=>?_⟩
  ·have he:p[i].1.l=t:=dt h;rw[if_pos he]at hx;rw[hx]at hK;exact hK
  ·have he:¬p[i].1.l=t:=df h;rw[if_neg he]at hx;refine⟨⟨by omega,by omega⟩,i+1,[],?_,⟨rfl,by omega,hx⟩,by dsimp only;omega⟩;exact⟨⟨rfl,rfl,rfl,rfl,trivial⟩,trivial⟩
 ·have hil:i=p.length:=by have:=df h;omega
  rw[hil,show (p.map (·.1.l)).drop p.length=[] by rw[←List.length_map (·.1.l),List.drop_length],idxS]at hx;rw[hx]at hK;exact hK
end Go.Proofs
end
section
namespace Go.Proofs
open Go.Sy
set_option maxRecDepth 20000
end Go.Proofs
end
section
namespace Go.Proofs
open Go.Sy
set_option maxRecDepth 20000
end Go.Proofs
end
section
namespace Go.Proofs
open Go.Sy
set_option maxRecDepth 20000
end Go.Proofs
end
