/- Part 'M30' of the proof (Gw1, Gw2, Dl, Mg2, Mg3, Mg4, Mg5, W0, W1, W2, W3, W4, W5, W6, W7, W8, W9, W10, W11, W12, W13, W14, W15, Fo0, W16, Fo1, Fo2, Fo3, Fo4, Fo5): lemmas, each with its own conditions in its own statement. -/
import Derived.Test.YtheokcjommfopaaGreatDoorM15
import Derived.Test.YtheokcjommfopaaGreatDoorM22
import Derived.Test.YtheokcjommfopaaGreatDoorM28
import Derived.Test.YtheokcjommfopaaGreatDoorM29
import Derived.Test.YtheokcjommfopaaGreatDoorM3
section
namespace Go.Proofs
open Go.Sy Go.Shelf Go.RowKit Go.Lib
set_option maxRecDepth 20000
theorem growD_spec {n:Nat} (h0:0<n) (hn:n≤1000000000) {H:Hp} {K:Value→Hp→Prop} (hK:∀v H',LeN 61 9 [] H v H'→K v H'):Does Tryz.prog 183 [.slice none 0 0,.int .i64 (n:Nat)] H K:=by
 refine⟨Tryz.call183,fun w hp=>?_⟩;have hi:=(tt_ok 61 _ _ rfl).1
 have hbig:(0+n)*Tryz.t61.bytes≤140737488355328:=by show (0+n)*96≤_;omega
 refine (Any8.slices_Grow_grow Tryz.laysGw Tryz.t61 _ hi rfl (by decide) none 0 0 n [] w (Nat.le_refl _) (by omega) hbig (by omega) rfl (fun _=>rfl) (fun a ha=>by cases ha)).mono fun e w' ⟨e1,e2⟩=>?_
 have hsz:H w.heap.size=none:=by
  cases h:H w.heap.size with
  | none=>rfl
  | some o =>
   have:=hp _ _ h;rw[Array.getElem?_eq_none (Nat.le_refl _)]at this;cases this
 obtain⟨cells,hc⟩:∃x,x=(([]:List Value).toArray++Builtin.zeroCells (Value.cells (Option.get Tryz.t61.zero rfl)) (0+n - 0)++Builtin.zeroCells (Value.cells (Option.get Tryz.t61.zero rfl)) (grownCap w (0+n) 0 61 - (0+n))):=⟨_,rfl⟩
 have e3:w'=w.drew.alloc (.cells cells 61):=by rw[hc];exact e2
 have hz:∀k,(Builtin.zeroCells (Value.cells (Option.get Tryz.t61.zero rfl)) k).size=k*9:=fun k=>by
  show (Builtin.zeroCells _ k).size=_;simp [Builtin.zeroCells]
  rfl
 let H':Hp:=fun b=>if b=w.heap.size then some (.cells cells 61 (0,0)) else H b
 have hle:Le H H':=fun b o hb=>by
  show (if b=w.heap.size then _ else H b)=_;rw[if_neg (fun e=>by rw[e,hsz]at hb;cases hb)];exact hb
 have hg0:n≤grownCap w (0+n) 0 61:=by have:=grownCap_ge w (0+n) 0 61;omega
 have hmax:maxLen=9223372036854775807:=rfl;refine⟨_,H',e1,hK _ _ ⟨hle,.inr ⟨w.heap.size,_,cells,rfl,hsz,if_pos rfl,Nat.zero_le _,grownCap_le_maxLen w _ _ _ (by rw[hmax];omega),?_,by simp⟩⟩,hle,?_,?_,?_⟩
 ·rw[hc];simp only[Array.size_append,hz,List.size_toArray,List.length_nil];show _=grownCap w (0+n) 0 61*9;omega
 ·intro b o hb;have hb:(if b=w.heap.size then some (.cells cells 61 (0,0)) else H b)=some o:=hb;rw[e3];split at hb
  ·rename_i e;rw[e,←hb];exact _root_.Go.heap_alloc_new w.drew _
  ·have h1:=hp b o hb;rw[←h1];exact _root_.Go.heap_alloc_old w.drew _ (Array.getElem?_eq_some_iff.1 h1).1
 ·intro b h1 h2;show (if b=w.heap.size then _ else H b)=none;rw[if_neg (by omega)];exact h1
 ·rw[e3];exact⟨⟨rfl,rfl,rfl,by show _≤(w.heap.push _).size;simp,fun k hk=>_root_.Go.heap_alloc_old w.drew _ hk⟩,Nat.le_succ _⟩
theorem grow_spec {n:Nat} (hn:n≤1000000000) {H:Hp} {K:SV→St→Hp→Prop} (hK0:n=0→K (.v (.slice none 0 0)) ⟨[],[],0⟩ H) (hK:∀H',Le H H'→K (.own 0) ⟨[],[(0,.row 61 9 [])],1⟩ H'):DoesG Tryz.prog 183 [.v (.slice none 0 0),.v (.int .i64 (n:Nat))] [] 0 H K:=by
 rcases Nat.eq_zero_or_pos n with h0 | h0
 ·subst h0
  have hd:Does Tryz.prog 183 [.slice none 0 0,.int .i64 ((0:Nat):Int)] H fun v H'=>v = .slice none 0 0∧H'=H :=
   ⟨Tryz.call183,fun w hp=>(Any8.slices_Grow_room Tryz.laysGw none 0 0 0 w (Nat.le_refl _) (by omega) (by omega) (Nat.le_refl _)).mono fun e w' ⟨e1,e2⟩ =>
    ⟨_,H,e1,⟨rfl,rfl⟩,Le.refl H,fun b o hb=>by rw[e2];exact hp b o hb,fun b h1 _=>h1,by rw[e2];exact BelowD.refl _ _⟩⟩
  refine doesG_thawR (fun _=>rfl) hd fun v H2 hle h=>.inl ⟨.v (.slice none 0 0),fun _=>?_,rfl,?_⟩
  ·rw[h.1];rfl
  ·rw[h.2];exact hK0 rfl
 ·refine doesG_thawR (fun _=>rfl) (growD_spec h0 hn (K:=fun v H'=>LeN 61 9 [] H v H') fun _ _ h=>h) fun v H2 hle h=>.inr ⟨61,9,[],v,.own 0,fun ρ hρ=>hρ,rfl,h.new,fun y hy=>(by cases hy),fun H' hle2 _=>hK H' hle2⟩
end Go.Proofs
end
section
namespace Go.Proofs
open Go.Sy
set_option maxRecDepth 20000
set_option maxHeartbeats 4000000
noncomputable def cxG:Cx:={ P:=Tryz.prog,tt:=tt,n:=0,wrap:=false,base:=0,gf:=183::cx.gf,eqs:=cx.eqs,xf:=[] }
theorem cxG_ok:TOK cxG:=⟨cx_ok.tt,cx_ok.eqs⟩
def lensN {α:Type} (ls:List (List α)):Nat:=(ls.map List.length).sum
theorem lensN_take {α:Type} {ls:List (List α)} {i:Nat} {x:List α} (h:ls[i]?=some x):lensN (ls.take (i+1))=lensN (ls.take i)+x.length:=by
 rw[lensN,List.take_add_one,h,Option.toList_some,List.map_append,List.sum_append,←lensN];simp
theorem lensN_le {α:Type} (ls:List (List α)) (i:Nat):lensN (ls.take i)≤lensN ls:=by
 conv=>rhs;rw[←List.take_append_drop i ls]
 rw[lensN,lensN,List.map_append,List.sum_append];omega
theorem flat_take {α:Type} {ls:List (List α)} {i:Nat} {x:List α} (h:ls[i]?=some x):(ls.take (i+1)).flatten=(ls.take i).flatten++x:=by
 rw[List.take_add_one,h,Option.toList_some,List.flatten_append];simp
theorem flatN_len {α:Type} (ls:List (List α)):ls.flatten.length=lensN ls:=List.length_flatten
theorem list_k {α:Type} [Enc α] {P:Prop} {H:Hp} {a:Option Addr} {n c:Nat} {xs:List (List α)} (h:RL H a n c xs) {i:Nat} {x:List α} (hi:xs[i]?=some x) (k:∀ad a1 n1 c1,a=some ad→ElemH H ad (i:Int) 1 [.slice a1 n1 c1]→RL H a1 n1 c1 x→P):P :=
 elem_k h hi fun ad cs h1 h2 h3=>by
  obtain⟨a1,n1,c1,rfl,h4⟩:=h3;exact k ad a1 n1 c1 h1 h2 h4
theorem concat_spec {ls:List (List Stmt)} (hl:lensN ls≤2000000) {a:Option Addr} {n c:Nat} {H:Hp} {K:Value→Hp→Prop} (ha:RL H a n c ls)
  (hK:∀a1 n1 c1 H',Le H H'→RL H' a1 n1 c1 ls.flatten→K (.slice a1 n1 c1) H'):Does Tryz.prog 121 [.slice a n c] H K:=by
 have hn1:=ha.n_eq;have hmx:=ha.le;refine spec_of cxG_ok cx_mix rfl Tryz.func121 Tryz.call121 Tryz.ntmps121 Tryz.results121 rfl rfl ?_
 refine⟨Nat,fun i=>⟨[(0,.v (.slice a n c)),(3,.v (.int .i64 (lensN (ls.take i):Nat))),(9,.v (.slice a n c)),(10,.v (.int .i64 n)),(11,.v (.int .i64 i))],[],0⟩,
  fun i H'=>H'=H∧i≤ls.length,fun i=>ls.length - i,⟨0,[],?_,rfl,Nat.zero_le _⟩,?_⟩
 ·(repeat' (first|exact trivial|refine⟨?_,?_⟩|exact rfl|assumption))
 rintro i H1 _ ⟨rfl,hi⟩;refine⟨fun h=>?_,fun h=>?_⟩
 ·have hlt:i<ls.length:=by have:=dt h;omega
  refine name_k ls[i] fun x hxe=>?_
  have hxx:ls[i]?=some x:=by rw[hxe];exact List.getElem?_eq_getElem hlt
  have hst:=lensN_take hxx;have hle:=lensN_le ls (i+1)
  refine list_k ha hxx fun ad a5 n5 c5 q1 hh hr5=>?_
  have hn5:=hr5.n_eq;refine⟨ad,⟨by omega,by omega,q1⟩,?_⟩;refine⟨_,hh,?_⟩;refine⟨⟨by omega,by omega⟩,?_⟩;refine⟨fun h=>absurd (dt h) (by omega),fun _=>?_⟩;refine⟨⟨by omega,by omega⟩,i+1,[],?_,⟨rfl,hlt⟩,by dsimp only;omega⟩
  have e:SV.v (.int .i64 ((lensN (ls.take i):Nat)+(n5:Nat)))=SV.v (.int .i64 ((lensN (ls.take (i+1)):Nat))):=by rw[hst,hn5];rfl
  (repeat' (first|exact trivial|refine⟨?_,?_⟩|exact rfl|assumption))
 ·have hil:i=ls.length:=by have:=df h;omega
  have e0:lensN (ls.take i)=lensN ls:=by rw[hil,List.take_length]
  rw[e0];refine⟨[],rfl,?_⟩;refine grow_spec (by omega) (fun _=>?_) (fun H2 hle2=>?_)
  ·refine⟨Nat×List (List Value),fun z=>⟨[(6,.own 0),(25,.v (.slice a n c)),(26,.v (.int .i64 n)),(27,.v (.int .i64 z.1))],[(0,.row 61 9 z.2)],1⟩,
    fun z H'=>H'=H1∧z.1≤ls.length∧RC (α:=Stmt) H1 z.2 (ls.take z.1).flatten,fun z=>ls.length - z.1,⟨(0,[]),[],?_,rfl,Nat.zero_le _,RC.nil⟩,?_⟩
   ·(repeat' (first|exact trivial|refine⟨?_,?_⟩|exact rfl|assumption))
   rintro⟨j,css⟩ H3 _ ⟨rfl,hj,hrc⟩;dsimp only at hj hrc;have hcl:css.length=(ls.take j).flatten.length:=hrc.1;rw[flatN_len]at hcl;refine⟨fun h=>?_,fun h=>?_⟩
   ·have hlt:j<ls.length:=by have:=dt h;dsimp only at this;omega
    refine name_k ls[j] fun x hxe=>?_
    have hxx:ls[j]?=some x:=by rw[hxe];exact List.getElem?_eq_getElem hlt
    have hst:=lensN_take hxx;have hle:=lensN_le ls (j+1)
    refine list_k ha hxx fun ad a5 n5 c5 q1 hh hr5=>?_
    have hn5:=hr5.n_eq;refine⟨ad,⟨by dsimp only;omega,by dsimp only;omega,q1⟩,?_⟩;refine⟨_,hh,?_⟩;obtain⟨dss,hrow,hrd⟩:=hr5.row;have hdl:dss.length=x.length:=hrd.1;refine⟨dss,hrow,?_⟩;refine⟨⟨by show (css.length+dss.length)*96≤140737488355328;omega,by show css.length+dss.length≤9223372036854775807;omega⟩,?_⟩
    have hrc2:RC (α:=Stmt) H3 (css++dss) (ls.take (j+1)).flatten:=by rw[flat_take hxx];exact hrc.append hrd
    refine⟨⟨by omega,by omega⟩,(j+1,css++dss),[(0,1)],?_,⟨rfl,hlt,hrc2⟩,by dsimp only;omega⟩
    (repeat' (first|exact trivial|refine⟨?_,?_⟩|exact rfl|assumption))
   ·have hjl:j=ls.length:=by have:=df h;dsimp only at this;omega
    rw[hjl,List.take_length]at hrc;intro v H6 hle6 hv6;obtain⟨a7,n7,c7,rfl,hr7⟩:=RL.of_row (α:=Stmt) hv6 (hrc.up hle6.le);exact hK _ _ _ _ (id hle6.le) hr7
  ·refine⟨Nat×List (List Value),fun z=>⟨[(6,.own 0),(25,.v (.slice a n c)),(26,.v (.int .i64 n)),(27,.v (.int .i64 z.1))],[(0,.row 61 9 z.2)],1⟩,
    fun z H'=>H'=H2∧z.1≤ls.length∧RC (α:=Stmt) H2 z.2 (ls.take z.1).flatten,fun z=>ls.length - z.1,⟨(0,[]),[(0,0)],?_,rfl,Nat.zero_le _,RC.nil⟩,?_⟩
   ·(repeat' (first|exact trivial|refine⟨?_,?_⟩|exact rfl|assumption))
   rintro⟨j,css⟩ H3 _ ⟨rfl,hj,hrc⟩;dsimp only at hj hrc;have hcl:css.length=(ls.take j).flatten.length:=hrc.1;rw[flatN_len]at hcl;refine⟨fun h=>?_,fun h=>?_⟩
   ·have hlt:j<ls.length:=by have:=dt h;dsimp only at this;omega
    refine name_k ls[j] fun x hxe=>?_
    have hxx:ls[j]?=some x:=by rw[hxe];exact List.getElem?_eq_getElem hlt
    have hst:=lensN_take hxx;have hle:=lensN_le ls (j+1)
    refine list_k (ha.up hle2) hxx fun ad a5 n5 c5 q1 hh hr5=>?_
    have hn5:=hr5.n_eq;refine⟨ad,⟨by dsimp only;omega,by dsimp only;omega,q1⟩,?_⟩;refine⟨_,hh,?_⟩;obtain⟨dss,hrow,hrd⟩:=hr5.row;have hdl:dss.length=x.length:=hrd.1;refine⟨dss,hrow,?_⟩;refine⟨⟨by show (css.length+dss.length)*96≤140737488355328;omega,by show css.length+dss.length≤9223372036854775807;omega⟩,?_⟩
    have hrc2:RC (α:=Stmt) H3 (css++dss) (ls.take (j+1)).flatten:=by rw[flat_take hxx];exact hrc.append hrd
    refine⟨⟨by omega,by omega⟩,(j+1,css++dss),[(0,1)],?_,⟨rfl,hlt,hrc2⟩,by dsimp only;omega⟩
    (repeat' (first|exact trivial|refine⟨?_,?_⟩|exact rfl|assumption))
   ·have hjl:j=ls.length:=by have:=df h;dsimp only at this;omega
    rw[hjl,List.take_length]at hrc;intro v H6 hle6 hv6;obtain⟨a7,n7,c7,rfl,hr7⟩:=RL.of_row (α:=Stmt) hv6 (hrc.up hle6.le);exact hK _ _ _ _ (hle2.trans hle6.le) hr7
end Go.Proofs
end
section
namespace Go.Proofs
open Go.Sy
set_option maxRecDepth 20000
theorem del_row (xs:List (List Value)) (z:List Value) {i j:Nat} (hij:i<j) (hj:j≤xs.length):
  ∃R1 R2:List (List Value),∃n:Nat,R1=xs.take (0+(i - 0))++(xs.drop j).take (xs.length - j)++xs.drop (0+(i - 0)+((xs.drop j).take (xs.length - j)).length) ∧
   n=i - 0+((xs.drop j).take (xs.length - j)).length∧n=i+(xs.length - j)∧R1.length=xs.length ∧
   R2=R1.take (0+n)++List.replicate (xs.length - n) z++R1.drop (0+n+(xs.length - n))∧R2.length=xs.length∧R2.take n=xs.take i++xs.drop j:=by
 have hyl:(xs.drop j).take (xs.length - j)=xs.drop j:=List.take_of_length_le (by simp);refine⟨_,_,_,rfl,rfl,?_,?_,rfl,?_,?_⟩
 ·rw[hyl];simp
 ·rw[hyl];simp;omega
 ·rw[hyl];simp;omega
 ·rw[hyl]
  have e1:(xs.take (0+(i - 0))++xs.drop j).length=i - 0+(xs.drop j).length:=by simp;omega
  have e2:(xs.take (0+(i - 0))++xs.drop j++xs.drop (0+(i - 0)+(xs.drop j).length)).take (0+(i - 0+(xs.drop j).length))=xs.take i++xs.drop j:=by
   rw[Nat.zero_add,←e1,List.take_left];simp
  rw[e2]
  have e3:(xs.take i++xs.drop j).length=i - 0+(xs.drop j).length:=by simp;omega
  rw[←e3,List.append_assoc,List.take_left]
theorem delete_spec' {i j:Nat} {xs:List (List Value)} (hij:i<j) (hj:j≤xs.length) (_hm:xs.length≤9223372036854775807) {H:Hp} {K:SV→St→Hp→Prop}
  (hK:K (.own 1) ⟨[],[(0,.dead),(1,.row 66 8 (xs.take i++xs.drop j))],2⟩ H):DoesG Tryz.prog 122 [.own 0,.v (.int .i64 i),.v (.int .i64 j)] [(0,.row 66 8 xs)] 1 H K:=by
 obtain⟨R1,R2,n,h1,h2,h3,h4,h5,h6,h7⟩:=del_row xs [.string (bs []),.slice none 0 0,.int .i64 0,.string (bs []),.int .i64 0,.int .i64 0,.string (bs []),.string (bs [])] hij hj;refine spec_ofG cx_ok cx_mix Tryz.func122 Tryz.call122 Tryz.ntmps122 Tryz.results122 rfl rfl ?_;refine .inr ?_;refine⟨⟨by omega,by omega,by omega,by omega⟩,?_⟩;intro v;refine⟨fun h=>?_,fun h=>?_⟩
 ·have:=dt h;omega
 ·refine⟨some ([0],[0,1,2,3,4,5,6,7]),by kernel_rfl,?_⟩;refine⟨⟨by omega,by omega,by omega⟩,?_⟩;refine⟨⟨by omega,by omega,by omega⟩,?_⟩
  have hyl:((xs.drop j).take (xs.length - j)).length=xs.length - j:=by simp
  refine⟨by show j+(xs.length - j)≤_;omega,?_⟩;refine⟨by show 0+(i - 0)+((xs.drop j).take (xs.length - j)).length≤_;omega,?_⟩;refine .inl ?_;refine .inl ?_;refine⟨⟨by omega,by show ((i - 0+((xs.drop j).take (xs.length - j)).length:Nat):Int)≤_;omega,by show (((0:Nat)):Int)+_≤((xs.take (0+(i - 0))++(xs.drop j).take (xs.length - j)++xs.drop (0+(i - 0)+((xs.drop j).take (xs.length - j)).length)).length:Int);rw[←h1,h4];omega⟩,fun h=>?_,fun h=>?_⟩
  ·refine⟨by show 0+(i - 0+((xs.drop j).take (xs.length - j)).length)+(xs.length - (i - 0+((xs.drop j).take (xs.length - j)).length))≤(xs.take (0+(i - 0))++(xs.drop j).take (xs.length - j)++xs.drop (0+(i - 0)+((xs.drop j).take (xs.length - j)).length)).length;rw[←h1,h4];omega,?_⟩;refine .inl ?_;refine .inl ?_;refine⟨by show (i - 0+((xs.drop j).take (xs.length - j)).length)≤((xs.take (0+(i - 0))++(xs.drop j).take (xs.length - j)++xs.drop (0+(i - 0)+((xs.drop j).take (xs.length - j)).length)).take (0+(i - 0+((xs.drop j).take (xs.length - j)).length))++List.replicate (xs.length - (i - 0+((xs.drop j).take (xs.length - j)).length)) [Value.string (bs []),Value.slice none 0 0,Value.int .i64 0,Value.string (bs []),Value.int .i64 0,Value.int .i64 0,Value.string (bs []),Value.string (bs [])]++(xs.take (0+(i - 0))++(xs.drop j).take (xs.length - j)++xs.drop (0+(i - 0)+((xs.drop j).take (xs.length - j)).length)).drop (0+(i - 0+((xs.drop j).take (xs.length - j)).length)+(xs.length - (i - 0+((xs.drop j).take (xs.length - j)).length)))).length;rw[←h1,←h2,←h5,h6];omega,?_⟩
   have e9:((xs.take (0+(i - 0))++(xs.drop j).take (xs.length - j)++xs.drop (0+(i - 0)+((xs.drop j).take (xs.length - j)).length)).take (0+(i - 0+((xs.drop j).take (xs.length - j)).length))++List.replicate (xs.length - (i - 0+((xs.drop j).take (xs.length - j)).length)) [Value.string (bs []),Value.slice none 0 0,Value.int .i64 0,Value.string (bs []),Value.int .i64 0,Value.int .i64 0,Value.string (bs []),Value.string (bs [])]++(xs.take (0+(i - 0))++(xs.drop j).take (xs.length - j)++xs.drop (0+(i - 0)+((xs.drop j).take (xs.length - j)).length)).drop (0+(i - 0+((xs.drop j).take (xs.length - j)).length)+(xs.length - (i - 0+((xs.drop j).take (xs.length - j)).length)))).take (i - 0+((xs.drop j).take (xs.length - j)).length)=xs.take i++xs.drop j:=by rw[←h1,←h2,←h5,h7]
   exact⟨.own 1,[(0,.dead),(1,.row 66 8 (xs.take i++xs.drop j))],2,[(0,0),(1,1)],⟨⟨rfl,trivial⟩,⟨trivial,e9,trivial⟩⟩,hK⟩
  ·exfalso;have h':(((i - 0+((xs.drop j).take (xs.length - j)).length):Nat):Int)=(xs.length:Int):=h;omega
theorem delete_spec {x y:Int} {i j:Nat} (hx:x=i) (hy:y=j) {xs:List (List Value)} (hij:i<j) (hj:j≤xs.length) (hm:xs.length≤9223372036854775807) {H:Hp} {K:SV→St→Hp→Prop}
  (hK:K (.own 1) ⟨[],[(0,.dead),(1,.row 66 8 (xs.take i++xs.drop j))],2⟩ H):DoesG Tryz.prog 122 [.own 0,.v (.int .i64 x),.v (.int .i64 y)] [(0,.row 66 8 xs)] 1 H K:=by
 subst hx;subst hy;exact delete_spec' hij hj hm hK
end Go.Proofs
end
section
namespace Go.Proofs
open Go.Sy
set_option maxRecDepth 20000
set_option maxHeartbeats 4000000
theorem RC.drop {α:Type} [Enc α] {H:Hp} {css:List (List Value)} {xs:List α} (h:RC H css xs) (k:Nat):RC H (css.drop k) (xs.drop k):=by
 have hl:css.length=xs.length:=h.1;refine⟨by rw[List.length_drop,List.length_drop,hl],fun i cs x h1 h2=>?_⟩;rw[List.getElem?_drop]at h1 h2;exact h.2 _ cs x h1 h2
theorem joinG_spec {q:Prog} (hq:stmtsN q≤1000000) {a t:Nat} (hta:t≠a) (ht:t<q.length) (ha:a<q.length) (hlen:q.length≤1000) {css:List (List Value)} {H:Hp} {K:SV→St→Hp→Prop} (hrc:RC (α:=Block) H css q)
  (hK:∀css' H',Le H H'→RC (α:=Block) H' css' (joinP q a t)→K (.tup []) ⟨[],[(0,.cells 24 [.own 2]),(1,.dead),(2,.row 66 8 css')],3⟩ H'):
  DoesG Tryz.prog 120 [.v (.int .i64 a),.v (.int .i64 t),.ptr 0 0] [(0,.cells 24 [.own 1]),(1,.row 66 8 css)] 2 H K:=by
 refine spec_ofG cx_ok cx_mix Tryz.func120 Tryz.call120 Tryz.ntmps120 Tryz.results120 rfl rfl ?_;have hcl:css.length=q.length:=hrc.1
 refine name_k q[a] fun x hxe=>?_
 refine name_k q[t] fun y hye=>?_
 have hx:q[a]?=some x:=by rw[hxe];exact List.getElem?_eq_getElem ha
 have hy:q[t]?=some y:=by rw[hye];exact List.getElem?_eq_getElem ht
 have hj:=joinP_eq hx hy
 refine blockrow_k hrc hx fun a1 n1 c1 hg1 hr1 hs1 ht1=>?_
 refine blockrow_k hrc hy fun a2 n2 c2 hg2 hr2 hs2 ht2=>?_
 have hg1':css[(a:Int).toNat]?=_:=hg1;have hg2':css[(t:Int).toNat]?=_:=hg2;refine⟨some ([1,2],[0,1,2,3,4,5,6,7,8,9,10,11,12,13,14,15,16,17,18,19]),by kernel_rfl,?_⟩;refine⟨⟨by omega,by omega⟩,?_⟩;refine⟨_,hg1',?_⟩;refine⟨⟨by omega,by omega⟩,?_⟩;refine⟨_,hg2',?_⟩;intro w H1 hle1 hw;have hrl:RC (α:=List Stmt) H1 [[.slice a1 n1 c1],[.slice a2 n2 c2]] [x.2.1,y.2.1]:=((RC.nil (α:=List Stmt)).snoc (show Enc.R (α:=List Stmt) H1 [.slice a1 n1 c1] x.2.1 from ⟨a1,n1,c1,rfl,hr1.up hle1.le⟩)).snoc (show Enc.R (α:=List Stmt) H1 [.slice a2 n2 c2] y.2.1 from ⟨a2,n2,c2,rfl,hr2.up hle1.le⟩);obtain⟨a3,n3,c3,rfl,hr3⟩:=RL.of_row (α:=List Stmt) hw hrl;have hsum:=sum_set (fun b=>b.2.1.length) (y:=y) hx;have hl1:=stmts_le hx;have hl2:=stmts_le hy
 have hls:lensN [x.2.1,y.2.1]≤2000000:=by simp only[lensN,List.map_cons,List.map_nil,List.sum_cons,List.sum_nil];omega
 refine concat_spec hls hr3 fun a4 n4 c4 H2 hle2 hr4=>?_
 have hle:Le H H2:=hle1.le.trans hle2
 have ef:[x.2.1,y.2.1].flatten=x.2.1++y.2.1:=by simp
 rw[ef]at hr4;refine⟨⟨by omega,by omega⟩,?_⟩;refine⟨_,hg1',?_⟩;have hat:(a:Int).toNat=a:=rfl;have hgt:(css.set (a:Int).toNat [.string (bs x.1.l),.slice a4 n4 c4,.int .i64 x.2.2.1,.string (bs x.2.2.2.1.1.l),.int .i64 x.2.2.2.1.2.1,.int .i64 x.2.2.2.1.2.2,.string (bs x.2.2.2.2.1.l),.string (bs x.2.2.2.2.2.l)])[(t:Int).toNat]?=_:=(List.getElem?_set_ne (by rw[hat];exact fun e=>hta e.symm)).trans hg2;have hga:(css.set (a:Int).toNat [.string (bs x.1.l),.slice a4 n4 c4,.int .i64 x.2.2.1,.string (bs x.2.2.2.1.1.l),.int .i64 x.2.2.2.1.2.1,.int .i64 x.2.2.2.1.2.2,.string (bs x.2.2.2.2.1.l),.string (bs x.2.2.2.2.2.l)])[(a:Int).toNat]?=some [.string (bs x.1.l),.slice a4 n4 c4,.int .i64 x.2.2.1,.string (bs x.2.2.2.1.1.l),.int .i64 x.2.2.2.1.2.1,.int .i64 x.2.2.2.1.2.2,.string (bs x.2.2.2.2.1.l),.string (bs x.2.2.2.2.2.l)]:=List.getElem?_set_self (by rw[hat];omega)
 have hsl:(css.set (a:Int).toNat [.string (bs x.1.l),.slice a4 n4 c4,.int .i64 x.2.2.1,.string (bs x.2.2.2.1.1.l),.int .i64 x.2.2.2.1.2.1,.int .i64 x.2.2.2.1.2.2,.string (bs x.2.2.2.2.1.l),.string (bs x.2.2.2.2.2.l)]).length=q.length:=by rw[List.length_set];exact hcl
 refine⟨some ([1],[0,1,2,3,4,5,6,7,8,9,10,11]),by kernel_rfl,?_⟩;refine⟨⟨by omega,by rw[List.length_set];omega⟩,?_⟩;refine⟨_,hgt,?_⟩;refine⟨⟨by omega,by rw[List.length_set];omega⟩,?_⟩;refine⟨_,hga,?_⟩;refine⟨⟨by omega,by omega⟩,?_⟩
 have hrc2:RC (α:=Block) H2 ((css.set a [.string (bs x.1.l),.slice a4 n4 c4,.int .i64 x.2.2.1,.string (bs x.2.2.2.1.1.l),.int .i64 x.2.2.2.1.2.1,.int .i64 x.2.2.2.1.2.2,.string (bs x.2.2.2.2.1.l),.string (bs x.2.2.2.2.2.l)]).set a (.string (bs (catB x y).1.l) :: .slice a4 n4 c4::termV (catB x y).2.2)) (q.set a (catB x y)):=by
  rw[List.set_set];exact rc_set (hrc.up hle) (block_mk hr4 hs1 ht2)
 have hrc3:RC (α:=Block) H2 (((css.set a [.string (bs x.1.l),.slice a4 n4 c4,.int .i64 x.2.2.1,.string (bs x.2.2.2.1.1.l),.int .i64 x.2.2.2.1.2.1,.int .i64 x.2.2.2.1.2.2,.string (bs x.2.2.2.2.1.l),.string (bs x.2.2.2.2.2.l)]).set a (.string (bs (catB x y).1.l) :: .slice a4 n4 c4::termV (catB x y).2.2)).take t++((css.set a [.string (bs x.1.l),.slice a4 n4 c4,.int .i64 x.2.2.1,.string (bs x.2.2.2.1.1.l),.int .i64 x.2.2.2.1.2.1,.int .i64 x.2.2.2.1.2.2,.string (bs x.2.2.2.2.1.l),.string (bs x.2.2.2.2.2.l)]).set a (.string (bs (catB x y).1.l) :: .slice a4 n4 c4::termV (catB x y).2.2)).drop (t+1)) (joinP q a t):=by
  rw[hj,List.eraseIdx_eq_take_drop_succ];exact (hrc2.take t).append (RC.drop hrc2 (t+1))
 refine⟨[1],rfl,delete_spec (i:=t) (j:=t+1) rfl rfl (by omega) (by rw[List.length_set,List.length_set];omega) (by rw[List.length_set,List.length_set];omega) ?_⟩;refine⟨.tup [],[(0,.cells 24 [.own 2]),(1,.dead),(2,.row 66 8 _)],3,[(0,0),(1,1),(2,3)],?_,hK _ H2 hle hrc3⟩
 (repeat' (first|exact trivial|refine⟨?_,?_⟩|exact rfl|assumption))
end Go.Proofs
end
section
namespace Go.Proofs
open Go.Sy
set_option maxRecDepth 20000
set_option maxHeartbeats 4000000
noncomputable def cxM:Cx:={ P:=Tryz.prog,tt:=tt,n:=0,wrap:=false,base:=0,gf:=75::cx.gf,eqs:=cx.eqs,xf:=[] }
theorem cxM_ok:TOK cxM:=⟨cx_ok.tt,cx_ok.eqs⟩
theorem progG_spec {p:Prog} (hp:p.length≤12) (hl:∀b∈p,b.2.1.length≤1000000) (hc:stmtsN p≤1000000) (hv:cnt p<400000) {a:Option Addr} {n c:Nat} {H:Hp} {K:SV→St→Hp→Prop} (ha:RL H a n c p)
  (hbad:checkE p≠0→∀H',Le H H'→K (.tup [.agg [.v (.slice none 0 0)],.v (.int .i64 (checkE p))]) ⟨[],[],0⟩ H')
  (hK:checkE p=0→∀css R H',Le H H'→StrictL R→IsReach (p.length:Nat) (gSort (edgesOf (endsP p))) [0] R→RC (α:=Block) H' css (keepP (endsP p) R p.length)→K (.tup [.agg [.own 0],.v (.int .i64 0)]) ⟨[],[(0,.row 66 8 css)],1⟩ H'):
  DoesG Tryz.prog 75 [.agg [.v (.slice a n c)]] [] 0 H K:=by
 refine doesG_thawR (args:=[.agg #[.slice a n c]]) (fun _=>rfl) (pprogN_spec hp hl hc hv ha (K:=fun v H'=>(checkE p≠0∧v = .tuple #[.agg #[.slice none 0 0],.int .i64 (checkE p)])∨(checkE p=0∧∃x css R H3,v = .tuple #[.agg #[x],.int .i64 0]∧Le H H3∧StrictL R∧IsReach (p.length:Nat) (gSort (edgesOf (endsP p))) [0] R∧RC (α:=Block) H3 css (keepP (endsP p) R p.length)∧LeN 66 8 css H3 x H'))
  (fun he _ _=>.inl ⟨he,rfl⟩) (fun he v css R H3 H' h1 h2 h3 h4 h5 _=>.inr ⟨he,v,css,R,H3,rfl,h1,h2,h3,h4,h5⟩)) ?_
 rintro v H2 hle (⟨he,rfl⟩ | ⟨he,x,css,R,H3,rfl,h1,hS,hR,h2,h3⟩)
 ·exact .inl ⟨.tup [.agg [.v (.slice none 0 0)],.v (.int .i64 (checkE p))],fun _=>rfl,rfl,hbad he H2 hle⟩
 ·refine .inr ⟨66,8,css,x,.tup [.agg [.own 0],.v (.int .i64 0)],fun ρ hρ=>?_,rfl,(LeN.base h1 h3).new,fun y hy=>?_,fun H' hle2 hkeep=>hK he css R H' hle2 hS hR (h2.up fun b o hb=>hkeep b o (h3.le b o hb) fun e=>?_)⟩
  ·show Value.tuple #[Value.agg #[ρ.val 0],.int .i64 0]=_;rw[hρ]
  ·obtain⟨i,hi⟩:=List.getElem?_of_mem hy;have hlt:=(List.getElem?_eq_some_iff.1 hi).1;have hcl:css.length=(keepP (endsP p) R p.length).length:=h2.1;have:=h2.2 i y ((keepP (endsP p) R p.length)[i]'(by omega)) hi (List.getElem?_eq_getElem _);exact⟨Enc.len this,Enc.one this⟩
  ·rcases h3.new with ⟨h4,_⟩ | ⟨g,cap,cc,h4,h5,_⟩
   ·rw[h4]at e;cases e
   ·rw[h4]at e;simp only[Value.ownBlock,Option.some.injEq]at e;subst e;rw[h5]at hb;cases hb
theorem pair_none {q:Prog} (hq:q.length≤12) (h:pairP q=none) {a:Option Addr} {n c:Nat} {H:Hp} {K:Value→Hp→Prop} (ha:RL H a n c q) (hK:∀H',Le H H'→K (.tuple #[.int .i64 0,.int .i64 0,.bool false]) H'):Does Tryz.prog 123 [.agg #[.slice a n c]] H K :=
 pair_spec hq ha (by rw[h];exact hK)
theorem pair_some {q:Prog} (hq:q.length≤12) {i t:Nat} (h:pairP q=some (i,t)) {a:Option Addr} {n c:Nat} {H:Hp} {K:Value→Hp→Prop} (ha:RL H a n c q) (hK:∀H',Le H H'→K (.tuple #[.int .i64 i,.int .i64 t,.bool true]) H'):Does Tryz.prog 123 [.agg #[.slice a n c]] H K :=
 pair_spec hq ha (by rw[h];exact hK)
theorem keepP_stmts (q:Prog) (R:List Int):∀i,i≤q.length→stmtsN (keepP q R i)≤stmtsN (q.take i)
 | 0,_=>by simp [keepP,stmtsN]
 | i+1,h=>by
  have hb:q[i]?=some q[i]:=List.getElem?_eq_getElem h;have h1:=keepP_stmts q R i (by omega);have h2:=stmtsN_take hb;rw[keepP_succ hb,h2]
  have h3:∀x y:Prog,stmtsN (x++y)=stmtsN x+stmtsN y:=fun x y=>by rw[stmtsN,List.map_append,List.sum_append];rfl
  rw[h3];split
  ·have h4:stmtsN [q[i]]=q[i].2.1.length:=by simp [stmtsN]
   rw[h4];omega
  ·have h4:stmtsN []=0:=rfl
   rw[h4];omega
theorem endsP_stmts (p:Prog):stmtsN (endsP p)=stmtsN p:=by
 rw[stmtsN,stmtsN,endsP,List.map_map];rfl
theorem pmerge_spec {p:Prog} (hp:p.length≤12) (hl:∀b∈p,b.2.1.length≤1000000) (hc:stmtsN p≤1000000) (hv:cnt p<400000) {a:Option Addr} {n c:Nat} {H:Hp} {K:Value→Hp→Prop} (ha:RL H a n c p)
  (hbad:checkE p≠0→∀H',Le H H'→K (.tuple #[.agg #[.slice none 0 0],.int .i64 (checkE p)]) H')
  (hK:checkE p=0→∀a1 n1 c1 R r H',Le H H'→StrictL R→IsReach (p.length:Nat) (gSort (edgesOf (endsP p))) [0] R→Mrg (keepP (endsP p) R p.length) r→RL H' a1 n1 c1 r→K (.tuple #[.agg #[.slice a1 n1 c1],.int .i64 0]) H'):Does Tryz.prog 76 [.agg #[.slice a n c]] H K:=by
 refine spec_of cxM_ok cx_mix rfl Tryz.func76 Tryz.call76 Tryz.ntmps76 Tryz.results76 rfl rfl ?_
 by_cases he:checkE p=0
 ·refine .inr ⟨Prog×List Int×List (List Value),fun _=>0,fun z=>⟨[(2,.ptr 1 0),(4,.ptr 3 0),(6,.fn 120 [.ptr 3 0])],[(1,.cells 24 [.v (.slice none 0 0)]),(3,.cells 24 [.own 4]),(4,.row 66 8 z.2.2)],5⟩,
   fun z H'=>Le H H'∧RC (α:=Block) H' z.2.2 z.1∧z.1.length≤12∧stmtsN z.1≤1000000∧StrictL z.2.1∧IsReach (p.length:Nat) (gSort (edgesOf (endsP p))) [0] z.2.1∧∀r,Mrg z.1 r→Mrg (keepP (endsP p) z.2.1 p.length) r,fun z=>z.1.length,?_,?_⟩
  ·refine⟨[],rfl,progG_spec hp hl hc hv ha (fun h=>absurd he h) fun _ css R H1 hle1 hS hR hrc=>?_⟩;refine⟨fun h=>absurd rfl (nt h),fun _=>?_⟩;have hq:(keepP (endsP p) R p.length).length≤12:=Nat.le_trans (keepP_len _ _ _) hp
   have hst:stmtsN (keepP (endsP p) R p.length)≤1000000:=by
    have h1:=keepP_stmts (endsP p) R p.length (by rw[endsP_len];exact Nat.le_refl _);have h2:=stmtsN_le (endsP p) p.length;rw[endsP_stmts]at h2;omega
   have hM:∀r,Mrg (keepP (endsP p) R p.length) r→Mrg (keepP (endsP p) R p.length) r:=fun r h=>h
   intro v H2 hle2 hv2;obtain⟨a3,n3,c3,rfl,hr3⟩:=RL.of_row (α:=Block) hv2 (hrc.up hle2.le)
   rcases hpp:pairP (keepP (endsP p) R p.length) with _ | ⟨i,t⟩
   ·refine pair_none hq hpp hr3 fun _ _=>?_
    refine⟨(fun h=>by cases h),fun _=>?_⟩;intro v H5 hle5 hv5;obtain⟨a6,n6,c6,rfl,hr6⟩:=RL.of_row (α:=Block) hv5 (hrc.up hle5.le);exact hK he _ _ _ R _ _ (hle1.trans hle5.le) hS hR (hM _ (.stop hpp)) hr6
   ·obtain⟨h1,h2,h3⟩:=firstP_spec hpp
    refine pair_some hq hpp hr3 fun _ _=>?_
    refine⟨fun _=>?_,(fun h=>by cases h)⟩;have hjl:=joinP_len h2 h3;have hjs:=joinP_stmts h1 h2 h3;refine⟨[3,2],rfl,joinG_spec hst h1 h2 h3 (by omega) hrc fun css' H3 hle3 hrc3=>?_⟩;refine⟨(joinP (keepP (endsP p) R p.length) i t,R,css'),[(1,1),(3,3),(4,4)],rfl,?_,⟨hle1.trans hle3,hrc3,by dsimp only;omega,by dsimp only;omega,hS,hR,fun r hr=>hM r (.step hpp hr)⟩⟩
    (repeat' (first|exact trivial|refine⟨?_,?_⟩|exact rfl|assumption))
  ·rintro⟨q,R,css⟩ H1 _ ⟨hle1,hrc,hq,hst,hS,hR,hM⟩;dsimp only at hrc hq hst hS hR hM;intro v H2 hle2 hv2;obtain⟨a3,n3,c3,rfl,hr3⟩:=RL.of_row (α:=Block) hv2 (hrc.up hle2.le)
   rcases hpp:pairP q with _ | ⟨i,t⟩
   ·refine pair_none hq hpp hr3 fun _ _=>?_
    refine⟨(fun h=>by cases h),fun _=>?_⟩;intro v H5 hle5 hv5;obtain⟨a6,n6,c6,rfl,hr6⟩:=RL.of_row (α:=Block) hv5 (hrc.up hle5.le);exact hK he _ _ _ R _ _ (hle1.trans hle5.le) hS hR (hM _ (.stop hpp)) hr6
   ·obtain⟨h1,h2,h3⟩:=firstP_spec hpp
    refine pair_some hq hpp hr3 fun _ _=>?_
    refine⟨fun _=>?_,(fun h=>by cases h)⟩;have hjl:=joinP_len h2 h3;have hjs:=joinP_stmts h1 h2 h3;refine⟨[3,4],rfl,joinG_spec hst h1 h2 h3 (by omega) hrc fun css' H3 hle3 hrc3=>?_⟩;refine⟨(joinP q i t,R,css'),[(1,1),(3,3),(4,5)],rfl,?_,⟨hle1.trans hle3,hrc3,by dsimp only;omega,by dsimp only;omega,hS,hR,fun r hr=>hM r (.step hpp hr)⟩,by dsimp only;omega⟩
    (repeat' (first|exact trivial|refine⟨?_,?_⟩|exact rfl|assumption))
 ·refine .inl ⟨0,?_⟩;refine⟨[],rfl,progG_spec hp hl hc hv ha (fun _ H1 hle1=>?_) fun h=>absurd h he⟩;refine⟨fun _=>?_,fun h=>absurd (nf h) he⟩;exact hbad he _ hle1
end Go.Proofs
end
section
namespace Go.Proofs
open Go.Sy
set_option maxRecDepth 20000
set_option maxHeartbeats 4000000
theorem edge_k {P:Prop} {H:Hp} {a:Option Addr} {n c:Nat} {xs:List Edg} (h:RL H a n c xs) {i:Nat} {x:Edg} (hi:xs[i]?=some x) (k:∀ad,a=some ad→ElemH H ad (i:Int) 2 [.int .i64 x.1,.int .i64 x.2]→P):P :=
 elem_k h hi fun ad cs h1 h2 h3=>by
  obtain⟨rfl,_⟩:=edge_open h3;exact k ad h1 h2
theorem of_row_k {α:Type} [Enc α] {P:Prop} {H:Hp} {v:Value} {css:List (List Value)} {xs:List α} (h:RowAt H v (Enc.sz α) css) (hc:RC H css xs) (k:∀a n c,v = .slice a n c→RL H a n c xs→P):P:=by
 obtain⟨a,n,c,e,hr⟩:=RL.of_row h hc;exact k a n c e hr
end Go.Proofs
end
section
namespace Go.Proofs
open Go.Sy
set_option maxRecDepth 20000
set_option maxHeartbeats 4000000
end Go.Proofs
end
section
namespace Go.Proofs
open Go.Sy
set_option maxRecDepth 20000
def numOf (w:Nat):Nm:=(kNum w).getD (0,0)
def wordN (a:Nm):Nat:=(wrp a.1 % 65536).toNat+65536*(wrp a.2 % 65536).toNat
def kOf (a:Nm):Nat:=2+4*wordN a
def kIs (w:Nat):Bool:=(kNum w).isSome||decide (w=0)||decide (w=1)
def kNorm (w:Nat):Nat:=if kIs w then w else 1
def kJoin (a b:Nat):Nat:=if kNorm a=kNorm b∨kNorm b=0 then kNorm a else if kNorm a=0 then kNorm b else 1
def kOp (op:Int) (a b:Nat):Nat :=
 if op=0∨op=4 then (if kNorm a=0 then 0 else if kNorm a=1 then 1 else kOf (nOp op (numOf a) (numOf b)))
 else if kNorm a=0∨kNorm b=0 then 0 else if kNorm a=1∨kNorm b=1 then 1 else if opIs op then kOf (nOp op (numOf a) (numOf b)) else 1
theorem wordN_lt (a:Nm):wordN a<4294967296:=by unfold wordN;omega
theorem kOf_lt (a:Nm):kOf a<17179869184:=by have:=wordN_lt a;unfold kOf;omega
theorem kNum_of (a:Nm):kNum (kOf a)=some (wrp a.1,wrp a.2):=by
 have h:=wordN_lt a;unfold kNum kOf;rw[if_pos (by omega)]
 have e:(2+4*wordN a) / 4=wordN a:=by omega
 rw[e];have h1:=wrp_le a.1;have h2:=wrp_le a.2
 have e1:((wordN a % 65536:Nat):Int)=wrp a.1 % 65536:=by unfold wordN;omega
 have e2:((wordN a / 65536:Nat):Int)=wrp a.2 % 65536:=by unfold wordN;omega
 rw[e1,e2]
 have e3:∀n:Int,-32768≤n∧n≤32767→wrp (n % 65536)=n:=fun n hn=>by unfold wrp;omega
 rw[e3 _ h1,e3 _ h2]
theorem kIs_of (a:Nm):kIs (kOf a)=true:=by rw[kIs,kNum_of];rfl
theorem kNorm_is {w:Nat} (h:kIs w=true):kNorm w=w:=if_pos h
theorem kIs_norm (w:Nat):kIs (kNorm w)=true:=by
 unfold kNorm;split
 ·rename_i h;exact h
 ·rfl
theorem kNorm_le {w:Nat} (h:w<18446744073709551616):kNorm w<18446744073709551616:=by unfold kNorm;split<;>omega
theorem kIs_join (a b:Nat):kIs (kJoin a b)=true:=by
 unfold kJoin;split
 ·exact kIs_norm a
 ·split
  ·exact kIs_norm b
  ·rfl
theorem kJoin_lt {a b:Nat} (ha:a<18446744073709551616) (hb:b<18446744073709551616):kJoin a b<18446744073709551616:=by
 have h1:=kNorm_le ha;have h2:=kNorm_le hb;unfold kJoin;split
 ·exact h1
 ·split
  ·exact h2
  ·omega
theorem kIs_op (op:Int) (a b:Nat):kIs (kOp op a b)=true:=by
 unfold kOp
 repeat' split
 all_goals first | exact kIs_of _ | rfl
theorem kOp_lt (op:Int) (a b:Nat):kOp op a b<18446744073709551616:=by
 unfold kOp
 repeat' split
 all_goals first | (have:=kOf_lt (nOp op (numOf a) (numOf b));omega) | omega
theorem or_add (k:Nat) {a b:Nat} (h:a<2 ^ k):a ||| b*2 ^ k=a+b*2 ^ k:=by
 rw[Nat.or_comm,Nat.mul_comm b,←Nat.two_pow_add_eq_or_of_lt h,Nat.add_comm]
theorem bits_or {x y z:Int} {a b:Nat} (hx:x=a) (hy:y=b) (ha:a<18446744073709551616) (hb:b<18446744073709551616) (hz:a ||| b=z.toNat) (hz0:0≤z) (hz1:z<18446744073709551616):
  IntKind.u64.wrap ((BitVec.ofInt IntKind.u64.bits x ||| BitVec.ofInt IntKind.u64.bits y).toNat:Int)=z:=by
 subst hx hy;show IntKind.u64.wrap ((BitVec.ofInt 64 (a:Int) ||| BitVec.ofInt 64 (b:Int)).toNat:Int)=_;rw[BitVec.toNat_or,BitVec.ofInt_natCast,BitVec.ofInt_natCast,BitVec.toNat_ofNat,BitVec.toNat_ofNat,Nat.mod_eq_of_lt (by simpa using ha),Nat.mod_eq_of_lt (by simpa using hb),hz,IntKind.wrap_u64];omega
end Go.Proofs
end
section
namespace Go.Proofs
open Go.Sy
set_option maxRecDepth 20000
set_option maxHeartbeats 4000000
abbrev nmV (a:Nm):Value:=.agg #[.int .i64 a.1,.int .i64 a.2]
theorem kint {K:Value→Hp→Prop} {H:Hp} {k:IntKind} {x y:Int} (h:K (.int k x) H) (e:x=y):K (.int k y) H:=e▸h
theorem gword_spec {a:Nm} {H:Hp} {K:Value→Hp→Prop} (hK:K (.int .u64 (wordN a:Nat)) H):Does Tryz.prog 282 [nmV a] H K:=by
 refine spec_of cxw_ok cx_mix rfl Tryz.func282 Tryz.call282 Tryz.ntmps282 Tryz.results282 rfl rfl ?_;refine⟨some ([],[0,1,5,6,2,3,4,7,8,9,10,11,12]),by kernel_rfl,?_⟩;refine gwrap_spec ?_;refine gwrap_spec ?_;refine⟨by decide,?_⟩;have h1:=wrp_le a.1;have h2:=wrp_le a.2;refine kint hK ((bits_or (a:=(wrp a.1 % 65536).toNat) (b:=(wrp a.2 % 65536).toNat*2 ^ 16) ?_ ?_ (by omega) (by omega) ?_ (by omega) (by have:=wordN_lt a;omega)).symm)
 ·show IntKind.u64.wrap (IntKind.u16.wrap (wrp a.1))=_
  rw[IntKind.wrap_u64,IntKind.wrap_u16];omega
 ·show IntKind.u64.wrap (IntKind.u64.wrap (IntKind.u16.wrap (wrp a.2))*65536)=_
  rw[IntKind.wrap_u64,IntKind.wrap_u64,IntKind.wrap_u16];omega
 ·rw[or_add 16 (by omega),wordN];omega
theorem kof_spec {a:Nm} {H:Hp} {K:Value→Hp→Prop} (hK:K (.int .u64 (kOf a:Nat)) H):Does Tryz.prog 229 [nmV a] H K:=by
 refine spec_of cx_ok cx_mix rfl Tryz.func229 Tryz.call229 Tryz.ntmps229 Tryz.results229 rfl rfl ?_;refine gword_spec ?_;have h:=wordN_lt a;refine⟨by decide,?_⟩;refine⟨⟨?_,?_⟩,?_⟩
 ·show (0:Int)≤(wordN a:Int)*4;omega
 ·show (wordN a:Int)*4≤18446744073709551615;omega
 refine kint hK ((bits_or (a:=2) (b:=wordN a*2 ^ 2) rfl (by show (wordN a:Int)*4=_;omega) (by omega) (by omega) ?_ (by omega) (by have:=kOf_lt a;omega)).symm)
 rw[or_add 2 (by omega),kOf];omega
end Go.Proofs
end
section
namespace Go.Proofs
open Go.Sy
set_option maxRecDepth 20000
set_option maxHeartbeats 4000000
theorem kis_spec {w:Nat} (hw:w<18446744073709551616) {H:Hp} {K:Value→Hp→Prop} (hK:K (.bool (kIs w)) H):Does Tryz.prog 259 [.int .u64 w] H K:=by
 refine spec_of cx_ok cx_mix rfl Tryz.func259 Tryz.call259 Tryz.ntmps259 Tryz.results259 rfl rfl ?_;refine knum_spec hw ?_;refine⟨fun h1=>?_,fun h1=>?_⟩
 ·refine⟨fun h2=>?_,fun h2=>?_⟩
  ·have h2:¬(w:Int)=0:=df h2;refine kbool hK ?_;rw[kIs,h1,decide_eq_false (show ¬w=0 by omega)];simp only[Bool.false_or]
   rw[decide_eq_decide];omega
  ·have h2:(w:Int)=0:=dt h2;refine kbool hK ?_
   rw[kIs,decide_eq_true (show w=0 by omega)];simp
 ·refine kbool hK ?_
  rw[kIs,h1];rfl
theorem knorm_spec {w:Nat} (hw:w<18446744073709551616) {H:Hp} {K:Value→Hp→Prop} (hK:K (.int .u64 (kNorm w:Nat)) H):Does Tryz.prog 331 [.int .u64 w] H K:=by
 refine spec_of cx_ok cx_mix rfl Tryz.func331 Tryz.call331 Tryz.ntmps331 Tryz.results331 rfl rfl ?_;refine kis_spec hw ?_;refine⟨fun h=>?_,fun h=>?_⟩
 ·refine kint hK ?_
  rw[kNorm,if_neg (by simpa using h)];rfl
 ·refine kint hK ?_;rw[kNorm,if_pos (by simpa using h)]
theorem kjoin_spec {a b:Nat} (ha:a<18446744073709551616) (hb:b<18446744073709551616) {H:Hp} {K:Value→Hp→Prop} (hK:K (.int .u64 (kJoin a b:Nat)) H):Does Tryz.prog 308 [.int .u64 a,.int .u64 b] H K:=by
 refine spec_of cx_ok cx_mix rfl Tryz.func308 Tryz.call308 Tryz.ntmps308 Tryz.results308 rfl rfl ?_;refine knorm_spec ha ?_;refine knorm_spec hb ?_;refine⟨fun h1=>?_,fun h1=>?_⟩
 ·have h1:¬kNorm a=kNorm b:=by have:=df h1;omega
  refine⟨fun h2=>?_,fun h2=>?_⟩
  ·have h2:kNorm b=0:=by have:=dt h2;omega
   exact kint hK (by rw[kJoin,if_pos (.inr h2)])
  ·have h2:¬kNorm b=0:=by have:=df h2;omega
   refine⟨fun h3=>?_,fun h3=>?_⟩
   ·have h3:kNorm a=0:=by have:=dt h3;omega
    exact kint hK (by rw[kJoin,if_neg (by omega),if_pos h3])
   ·have h3:¬kNorm a=0:=by have:=df h3;omega
    exact kint hK (by rw[kJoin,if_neg (by omega),if_neg h3];rfl)
 ·have h1:kNorm a=kNorm b:=by have:=dt h1;omega
  exact kint hK (by rw[kJoin,if_pos (.inl h1)])
def kLeast:List Nat→Nat→Nat
 | [],o=>o
 | w::r,o=>if kNorm w=0 then 0 else if kNorm w=1 then kLeast r 1 else kLeast r o
theorem word_k {P:Prop} {H:Hp} {a:Option Addr} {n c:Nat} {xs:List UInt64} (h:RL H a n c xs) {i:Nat} {x:UInt64} (hi:xs[i]?=some x) (k:∀ad,a=some ad→ElemH H ad (i:Int) 1 [.int .u64 (x.toNat:Nat)]→x.toNat<18446744073709551616→P):P :=
 elem_k h hi fun ad cs h1 h2 h3=>by
  have e:cs=[.int .u64 (x.toNat:Nat)]:=h3;subst e;exact k ad h1 h2 x.toNat_lt
theorem least_spec {l:List UInt64} {a:Option Addr} {n c:Nat} {H:Hp} {K:Value→Hp→Prop} (ha:RL H a n c l) (hK:K (.int .u64 (kLeast (l.map UInt64.toNat) 2:Nat)) H):Does Tryz.prog 314 [.slice a n c] H K:=by
 have hn:=ha.n_eq;have hmx:=ha.le;refine spec_of cx_ok cx_mix rfl Tryz.func314 Tryz.call314 Tryz.ntmps314 Tryz.results314 rfl rfl ?_;refine .inl ⟨1,?_⟩
 refine⟨Nat×Nat,fun z=>⟨[(3,.v (.int .u64 z.2)),(6,.v (.slice a n c)),(7,.v (.int .i64 n)),(8,.v (.int .i64 z.1))],[],0⟩,
  fun z H'=>H'=H∧z.1≤l.length∧kLeast (l.map UInt64.toNat) 2=kLeast ((l.drop z.1).map UInt64.toNat) z.2,fun z=>l.length - z.1,⟨(0,2),[],?_,rfl,Nat.zero_le _,rfl⟩,?_⟩
 ·(repeat' (first|exact trivial|refine⟨?_,?_⟩|exact rfl|assumption))
 rintro⟨i,o⟩ H1 _ ⟨rfl,hi,hx⟩;dsimp only at hi hx;refine⟨fun h=>?_,fun h=>?_⟩
 ·have hlt:i<l.length:=by have:=dt h;dsimp only at this;omega
  refine name_k l[i] fun w hwe=>?_
  have hww:l[i]?=some w:=by rw[hwe];exact List.getElem?_eq_getElem hlt
  have hst:kLeast ((l.drop i).map UInt64.toNat) o=if kNorm w.toNat=0 then 0 else if kNorm w.toNat=1 then kLeast ((l.drop (i+1)).map UInt64.toNat) 1 else kLeast ((l.drop (i+1)).map UInt64.toNat) o:=by
   rw[List.drop_eq_getElem_cons hlt,List.map_cons,kLeast,hwe]
  rw[hst]at hx
  refine word_k ha hww fun ad q1 hh hw=>?_
  refine⟨ad,⟨by dsimp only;omega,by dsimp only;omega,q1⟩,?_⟩;refine⟨_,hh,?_⟩;refine knorm_spec hw ?_;refine⟨fun h=>?_,fun h=>?_⟩
  ·have h0:kNorm w.toNat=0:=by have:=dt h;omega
   exact kint hK (by rw[hx,if_pos h0];rfl)
  ·have h0:¬kNorm w.toNat=0:=by have:=df h;omega
   rw[if_neg h0]at hx;refine⟨fun h=>?_,fun h=>?_⟩
   ·have h1:kNorm w.toNat=1:=by have:=dt h;omega
    rw[if_pos h1]at hx;refine⟨⟨by dsimp only;omega,by dsimp only;omega⟩,(i+1,1),[],?_,⟨rfl,hlt,hx⟩,by dsimp only;omega⟩
    (repeat' (first|exact trivial|refine⟨?_,?_⟩|exact rfl|assumption))
   ·have h1:¬kNorm w.toNat=1:=by have:=df h;omega
    rw[if_neg h1]at hx;refine⟨⟨by dsimp only;omega,by dsimp only;omega⟩,(i+1,o),[],?_,⟨rfl,hlt,hx⟩,by dsimp only;omega⟩
    (repeat' (first|exact trivial|refine⟨?_,?_⟩|exact rfl|assumption))
 ·have hil:i=l.length:=by have:=df h;dsimp only at this;omega
  rw[hil,List.drop_length]at hx;exact kint hK (by rw[hx];rfl)
theorem kLeast_one {a:Nat}:kLeast [a] 2=if kNorm a=0 then 0 else if kNorm a=1 then 1 else 2:=rfl
theorem kLeast_two {a b:Nat}:kLeast [a,b] 2=if kNorm a=0∨kNorm b=0 then 0 else if kNorm a=1∨kNorm b=1 then 1 else 2:=by
 simp only[kLeast];split
 ·rw[if_pos (by omega)]
 ·split
  ·split
   ·rw[if_pos (by omega)]
   ·split
    ·rw[if_neg (by omega),if_pos (by omega)]
    ·rw[if_neg (by omega),if_pos (by omega)]
  ·split
   ·rw[if_pos (by omega)]
   ·split
    ·rw[if_neg (by omega),if_pos (by omega)]
    ·rw[if_neg (by omega),if_neg (by omega)]
theorem u64_of {w:Nat} (h:w<18446744073709551616):(UInt64.ofNat w).toNat=w:=UInt64.toNat_ofNat_of_lt' (by show w<2 ^ 64;omega)
theorem rc_w {H:Hp} {l:List UInt64}:RC (α:=UInt64) H (l.map fun w=>[Value.int .u64 (w.toNat:Nat)]) l:=by
 refine⟨by simp,fun i cs x h1 h2=>?_⟩;rw[List.getElem?_map,h2]at h1;cases h1;exact rfl
theorem one_num {x:Nat} (h:(if x=0 then 0 else if x=1 then 1 else 2)=2):x≠0∧x≠1:=by
 split at h
 ·cases h
 ·split at h
  ·cases h
  ·exact⟨by assumption,by assumption⟩
theorem two_num {x y:Nat} (h:(if x=0∨y=0 then 0 else if x=1∨y=1 then 1 else 2)=2):¬(x=0∨y=0)∧¬(x=1∨y=1):=by
 split at h
 ·cases h
 ·split at h
  ·cases h
  ·exact⟨by assumption,by assumption⟩
theorem one_res {x z:Nat} (h:(if x=0 then 0 else if x=1 then 1 else 2)≠2):((if x=0 then 0 else if x=1 then 1 else z:Nat):Int)=((if x=0 then 0 else if x=1 then 1 else 2:Nat):Int):=by
 split
 ·rfl
 ·split
  ·rfl
  ·rename_i h1 h2;rw[if_neg h1,if_neg h2]at h;exact absurd rfl h
theorem two_res {x y z:Nat} (h:(if x=0∨y=0 then 0 else if x=1∨y=1 then 1 else 2)≠2):((if x=0∨y=0 then 0 else if x=1∨y=1 then 1 else z:Nat):Int)=((if x=0∨y=0 then 0 else if x=1∨y=1 then 1 else 2:Nat):Int):=by
 split
 ·rfl
 ·split
  ·rfl
  ·rename_i h1 h2;rw[if_neg h1,if_neg h2]at h;exact absurd rfl h
theorem kOp_one {op:Int} {a b:Nat} (hop:op=0∨op=4) (h:kNorm a≠0∧kNorm a≠1):kOp op a b=kOf (nOp op (numOf a) (numOf b)):=by rw[kOp,if_pos hop,if_neg h.1,if_neg h.2]
theorem kOp_two {op:Int} {a b:Nat} (hop:¬(op=0∨op=4)) (h:¬(kNorm a=0∨kNorm b=0)∧¬(kNorm a=1∨kNorm b=1)) (ho:opIs op=true):kOp op a b=kOf (nOp op (numOf a) (numOf b)):=by rw[kOp,if_neg hop,if_neg h.1,if_neg h.2,if_pos ho]
theorem kop_spec {op:Int} {a b:Nat} (ha:a<18446744073709551616) (hb:b<18446744073709551616) {H:Hp} {K:Value→Hp→Prop} (hK:K (.int .u64 (kOp op a b:Nat)) H):Does Tryz.prog 267 [.int .i64 op,.int .u64 a,.int .u64 b] H K:=by
 refine spec_of cx_ok cx_mix rfl Tryz.func267 Tryz.call267 Tryz.ntmps267 Tryz.results267 rfl rfl ?_;intro v H1 hle1 hv
 have e1:RowAt H1 v 1 ([UInt64.ofNat a,UInt64.ofNat b].map fun w=>[Value.int .u64 (w.toNat:Nat)]):=by
  simp only[List.map_cons,List.map_nil,u64_of ha,u64_of hb];exact hv
 obtain⟨ra,rn,rc,rfl,hr⟩:=RL.of_row (α:=UInt64) e1 rc_w;refine least_spec hr ?_
 have hl2:kLeast ([UInt64.ofNat a,UInt64.ofNat b].map UInt64.toNat) 2=if kNorm a=0∨kNorm b=0 then 0 else if kNorm a=1∨kNorm b=1 then 1 else 2:=by
  simp only[List.map_cons,List.map_nil,u64_of ha,u64_of hb];exact kLeast_two
 rw[hl2];refine⟨fun h=>?_,fun h=>?_⟩
 ·have h0:¬op=0:=df h;refine⟨fun h=>?_,fun h=>?_⟩
  ·have hop:op=0∨op=4:=.inr (dt h);intro v H2 hle2 hv
   have e1:RowAt H2 v 1 ([UInt64.ofNat a].map fun w=>[Value.int .u64 (w.toNat:Nat)]):=by
    simp only[List.map_cons,List.map_nil,u64_of ha];exact hv
   obtain⟨ra,rn,rc,rfl,hr⟩:=RL.of_row (α:=UInt64) e1 rc_w;refine least_spec hr ?_
   have hl1:kLeast ([UInt64.ofNat a].map UInt64.toNat) 2=if kNorm a=0 then 0 else if kNorm a=1 then 1 else 2:=by
    simp only[List.map_cons,List.map_nil,u64_of ha];exact kLeast_one
   rw[hl1];refine⟨fun h=>?_,fun h=>?_⟩
   ·have hv:=nt h;exact kint hK (by rw[kOp,if_pos hop];exact one_res (fun e=>hv (by rw[e];rfl)))
   ·have hv:=nf h;have hv2:=one_num (Int.ofNat_inj.1 hv);refine knum_spec ha ?_;refine knum_spec hb ?_;refine gop_spec ?_;refine⟨fun h=>?_,fun h=>?_⟩
    ·have ho:opIs op=false:=by
      have:=nt h
      cases hq:opIs op with
      | false=>rfl
      | true=>rw[hq]at this;exact absurd rfl this
     exact (absurd ho (by rw[opIs,decide_eq_true (by omega)];decide))
    ·have ho:opIs op=true:=by
      have:=nf h
      cases hq:opIs op with
      | false=>rw[hq]at this;cases this
      | true=>rfl
     refine kof_spec ?_;exact kint hK (by rw[kOp_one hop hv2];rfl)
  ·have hop:¬(op=0∨op=4):=by have:=df h;omega
   refine⟨fun h=>?_,fun h=>?_⟩
   ·have hv:=nt h;exact kint hK (by rw[kOp,if_neg hop];exact two_res (fun e=>hv (by rw[e];rfl)))
   ·have hv:=nf h;have hv2:=two_num (Int.ofNat_inj.1 hv);refine knum_spec ha ?_;refine knum_spec hb ?_;refine gop_spec ?_;refine⟨fun h=>?_,fun h=>?_⟩
    ·have ho:opIs op=false:=by
      have:=nt h
      cases hq:opIs op with
      | false=>rfl
      | true=>rw[hq]at this;exact absurd rfl this
     exact (kint hK (by rw[kOp,if_neg hop,if_neg (by omega),if_neg (by omega),if_neg (by rw[ho];decide)];rfl))
    ·have ho:opIs op=true:=by
      have:=nf h
      cases hq:opIs op with
      | false=>rw[hq]at this;cases this
      | true=>rfl
     refine kof_spec ?_;exact kint hK (by rw[kOp_two hop hv2 ho];rfl)
 ·have hop:op=0∨op=4:=.inl (dt h);intro v H2 hle2 hv
  have e1:RowAt H2 v 1 ([UInt64.ofNat a].map fun w=>[Value.int .u64 (w.toNat:Nat)]):=by
   simp only[List.map_cons,List.map_nil,u64_of ha];exact hv
  obtain⟨ra,rn,rc,rfl,hr⟩:=RL.of_row (α:=UInt64) e1 rc_w;refine least_spec hr ?_
  have hl1:kLeast ([UInt64.ofNat a].map UInt64.toNat) 2=if kNorm a=0 then 0 else if kNorm a=1 then 1 else 2:=by
   simp only[List.map_cons,List.map_nil,u64_of ha];exact kLeast_one
  rw[hl1];refine⟨fun h=>?_,fun h=>?_⟩
  ·have hv:=nt h;exact kint hK (by rw[kOp,if_pos hop];exact one_res (fun e=>hv (by rw[e];rfl)))
  ·have hv:=nf h;have hv2:=one_num (Int.ofNat_inj.1 hv);refine knum_spec ha ?_;refine knum_spec hb ?_;refine gop_spec ?_;refine⟨fun h=>?_,fun h=>?_⟩
   ·have ho:opIs op=false:=by
     have:=nt h
     cases hq:opIs op with
     | false=>rfl
     | true=>rw[hq]at this;exact absurd rfl this
    exact (absurd ho (by rw[opIs,decide_eq_true (by omega)];decide))
   ·have ho:opIs op=true:=by
     have:=nf h
     cases hq:opIs op with
     | false=>rw[hq]at this;cases this
     | true=>rfl
    refine kof_spec ?_;exact kint hK (by rw[kOp_one hop hv2];rfl)
theorem nOp_one {op:Int} (hop:op=0∨op=4) (x y z:Nm):nOp op x y=nOp op x z:=by
 rcases hop with rfl | rfl<;>rfl
end Go.Proofs
end
section
namespace Go.Proofs
open Go.Sy
set_option maxRecDepth 20000
set_option maxHeartbeats 4000000
abbrev Wd:=List UInt64
def okW (n:Nat) (l:Wd):Prop:=l.length=n∧∀w∈l,kIs w.toNat=true
def uJoin (a b:UInt64):UInt64:=UInt64.ofNat (kJoin a.toNat b.toNat)
theorem uJoin_nat (a b:UInt64):(uJoin a b).toNat=kJoin a.toNat b.toNat:=u64_of (kJoin_lt a.toNat_lt b.toNat_lt)
def vJoin (a b:Wd):Wd:=List.zipWith uJoin a b
def vBot (n:Nat):Wd:=List.replicate n 0
theorem vBot_ok (n:Nat):okW n (vBot n):=⟨List.length_replicate,fun w hw=>by rw[(List.mem_replicate.1 hw).2];rfl⟩
theorem vJoin_ok {n:Nat} {a b:Wd} (ha:okW n a) (hb:okW n b):okW n (vJoin a b):=by
 refine⟨by rw[vJoin,List.length_zipWith,ha.1,hb.1,Nat.min_self],fun w hw=>?_⟩;obtain⟨i,hi⟩:=List.getElem?_of_mem hw;rw[vJoin,List.getElem?_zipWith]at hi
 cases h1:a[i]? with
 | none=>rw[h1]at hi;cases hi
 | some x=>cases h2:b[i]? with
  | none=>rw[h1,h2]at hi;cases hi
  | some y =>
   rw[h1,h2]at hi;simp only[Option.some.injEq]at hi;rw[←hi,uJoin_nat];exact kIs_join _ _
theorem latis_spec {n:Nat} (hn:n≤1024) {H:Hp} {K:Value→Hp→Prop} (hK:K (.bool true) H):Does Tryz.prog 215 [.int .i64 3,.int .i64 (n:Nat)] H K:=by
 refine spec_of cx_ok cx_mix rfl Tryz.func215 Tryz.call215 Tryz.ntmps215 Tryz.results215 rfl rfl ?_;refine⟨fun _=>?_,(fun h=>absurd (dt h) (by decide))⟩;refine⟨fun _=>?_,(fun h=>absurd (dt h) (by decide))⟩;refine⟨fun _=>?_,(fun h=>absurd rfl (df h))⟩;refine⟨fun _=>?_,(fun h=>absurd (by omega) (df h))⟩;exact kbool hK (by rw[decide_eq_true (by omega)])
theorem latwords_spec {n:Nat} (hn:n≤1024) {H:Hp} {K:Value→Hp→Prop} (hK:K (.int .i64 (n:Nat)) H):Does Tryz.prog 220 [.int .i64 3,.int .i64 (n:Nat)] H K:=by
 refine spec_of cx_ok cx_mix rfl Tryz.func220 Tryz.call220 Tryz.ntmps220 Tryz.results220 rfl rfl ?_;refine latis_spec hn ?_;refine⟨(fun h=>by cases h),fun _=>?_⟩;refine⟨(fun h=>absurd (dt h) (by decide)),fun _=>?_⟩;refine⟨(fun h=>absurd (dt h) (by decide)),fun _=>?_⟩;exact hK
theorem latbot_spec {n:Nat} (hn:n≤1024) {H:Hp} {K:Value→Hp→Prop} (hK:∀a n1 c H',Le H H'→RL H' a n1 c (vBot n)→K (.slice a n1 c) H'):Does Tryz.prog 159 [.int .i64 3,.int .i64 (n:Nat)] H K:=by
 refine spec_of cx_ok cx_mix rfl Tryz.func159 Tryz.call159 Tryz.ntmps159 Tryz.results159 rfl rfl ?_;refine⟨(fun h=>absurd (dt h) (by decide)),fun _=>?_⟩;refine latwords_spec hn ?_;refine⟨⟨rfl,by omega,by show (n:Int)*8≤_;omega,by omega⟩,?_⟩;intro v H1 hle1 hv
 have e:RowAt H1 v 1 ((vBot n).map fun w=>[Value.int .u64 (w.toNat:Nat)]):=by
  rw[vBot,List.map_replicate];exact hv
 obtain⟨a,n1,c,rfl,hr⟩:=RL.of_row (α:=UInt64) e rc_w;exact hK _ _ _ _ hle1.le hr
theorem latheight_spec {n:Nat} (hn:n≤1024) {H:Hp} {K:Value→Hp→Prop} (hK:K (.int .i64 (2*n:Nat)) H):Does Tryz.prog 157 [.int .i64 3,.int .i64 (n:Nat)] H K:=by
 refine spec_of cx_ok cx_mix rfl Tryz.func157 Tryz.call157 Tryz.ntmps157 Tryz.results157 rfl rfl ?_;refine latis_spec hn ?_;refine⟨(fun h=>by cases h),fun _=>?_⟩;refine⟨fun _=>?_,(fun h=>absurd rfl (df h))⟩;refine⟨⟨by omega,by omega⟩,?_⟩;exact kint hK (by omega)
theorem notis_spec {w:Nat} (hw:w<18446744073709551616) (h:kIs w=true) {H:Hp} {K:Value→Hp→Prop} (hK:K (.bool false) H):Does Tryz.prog 258 [.int .u64 w] H K:=by
 refine spec_of cx_ok cx_mix rfl Tryz.func258 Tryz.call258 Tryz.ntmps258 Tryz.results258 rfl rfl ?_;refine kis_spec hw ?_;exact kbool hK (by rw[h];rfl)
theorem latword_spec {a b:Nat} (ha:a<18446744073709551616) (hb:b<18446744073709551616) {H:Hp} {K:Value→Hp→Prop} (hK:K (.int .u64 (kJoin a b:Nat)) H):Does Tryz.prog 255 [.int .i64 3,.int .u64 a,.int .u64 b] H K:=by
 refine spec_of cx_ok cx_mix rfl Tryz.func255 Tryz.call255 Tryz.ntmps255 Tryz.results255 rfl rfl ?_;refine⟨(fun h=>absurd (dt h) (by decide)),fun _=>?_⟩;refine⟨(fun h=>absurd (dt h) (by decide)),fun _=>?_⟩;refine⟨fun _=>?_,(fun h=>absurd rfl (df h))⟩;exact kjoin_spec ha hb hK
theorem indexU_spec {l:Wd} (hl:∀w∈l,kIs w.toNat=true) {a:Option Addr} {n c:Nat} {H:Hp} {K:SV→St→Hp→Prop} (ha:RL H a n c l) (hK:K (.v (.int .i64 (-1))) ⟨[],[],0⟩ H):DoesG Tryz.prog 310 [.v (.slice a n c),.fn 258 []] [] 0 H K:=by
 have hn1:=ha.n_eq;have hmx:=ha.le;refine spec_ofG cx_ok cx_mix Tryz.func310 Tryz.call310 Tryz.ntmps310 Tryz.results310 rfl rfl ?_
 refine⟨Nat,fun j=>⟨[(0,.v (.slice a n c)),(1,.fn 258 []),(7,.v (.int .i64 n)),(8,.v (.int .i64 j))],[],0⟩,
  fun j H'=>H'=H∧j≤l.length,fun j=>l.length - j,⟨0,[],?_,rfl,by omega⟩,?_⟩
 ·(repeat' (first|exact trivial|refine⟨?_,?_⟩|exact rfl|assumption))
 rintro j H1 _ ⟨rfl,hi⟩;refine⟨fun h=>?_,fun h=>?_⟩
 ·have hlt:j<l.length:=by have:=dt h;omega
  refine word_k ha (List.getElem?_eq_getElem hlt) fun ad q1 hh hr=>?_
  refine⟨ad,⟨by omega,by omega,q1⟩,?_⟩;refine⟨_,hh,?_⟩;refine notis_spec hr (hl _ (List.getElem_mem hlt)) ?_;refine⟨(fun h=>by cases h),fun _=>?_⟩;refine⟨⟨by omega,by omega⟩,j+1,[],?_,⟨rfl,by omega⟩,by dsimp only;omega⟩
  (repeat' (first|exact trivial|refine⟨?_,?_⟩|exact rfl|assumption))
 ·exact⟨.v (.int .i64 (-1)),[],0,[],by (repeat' (first|exact trivial|refine⟨?_,?_⟩|exact rfl|assumption)),hK⟩
theorem contU_spec {l:Wd} (hl:∀w∈l,kIs w.toNat=true) {a:Option Addr} {n c:Nat} {H:Hp} {K:SV→St→Hp→Prop} (ha:RL H a n c l) (hK:K (.v (.bool false)) ⟨[],[],0⟩ H):DoesG Tryz.prog 257 [.v (.slice a n c),.fn 258 []] [] 0 H K:=by
 refine spec_ofG cx_ok cx_mix Tryz.func257 Tryz.call257 Tryz.ntmps257 Tryz.results257 rfl rfl ?_;refine⟨[],rfl,indexU_spec hl ha ?_⟩;exact⟨.v (.bool false),[],0,[],by (repeat' (first|exact trivial|refine⟨?_,?_⟩|exact rfl|assumption)),hK⟩
theorem latIs_spec {w:Nat} (hw:w≤1024) {l:Wd} (hl:okW w l) {a:Option Addr} {n c:Nat} {H:Hp} {K:Value→Hp→Prop} (ha:RL H a n c l) (hK:K (.bool true) H):Does Tryz.prog 216 [.int .i64 3,.int .i64 (w:Nat),.slice a n c] H K:=by
 have hn1:=ha.n_eq;have hl1:=hl.1;refine spec_of cx_ok cx_mix rfl Tryz.func216 Tryz.call216 Tryz.ntmps216 Tryz.results216 rfl rfl ?_;refine latis_spec hw ?_;refine⟨fun _=>?_,(fun h=>by cases h)⟩;refine latwords_spec hw ?_;refine⟨(fun h=>absurd (by rw[hn1,hl1]) (nt h)),fun _=>?_⟩;refine⟨(fun h=>absurd rfl (nt h)),fun _=>?_⟩;refine⟨[],rfl,contU_spec hl.2 ha ?_⟩;exact hK
abbrev c2 (w:Nat):List (Nat×Bx):=[(0,.cells 3 [.v (.int .i64 3)]),(1,.cells 3 [.v (.int .i64 (w:Nat))])]
theorem chk1_spec {w:Nat} (hw:w≤1024) {l:Wd} (hl:okW w l) {a:Option Addr} {n c:Nat} {H:Hp} {K:SV→St→Hp→Prop} (ha:RL H a n c l) (hK:K (.v (.bool false)) ⟨[],c2 w,2⟩ H):
  DoesG Tryz.prog 307 [.v (.slice a n c),.ptr 0 0,.ptr 1 0] (c2 w) 2 H K:=by
 refine spec_ofG cx_ok cx_mix Tryz.func307 Tryz.call307 Tryz.ntmps307 Tryz.results307 rfl rfl ?_;refine latIs_spec hw hl ha ?_;exact⟨.v (.bool false),c2 w,2,[(0,0),(1,1)],by (repeat' (first|exact trivial|refine⟨?_,?_⟩|exact rfl|assumption)),hK⟩
theorem indexV_spec {w:Nat} (hw:w≤1024) {l:List Wd} (hl:∀x∈l,okW w x) {a:Option Addr} {n c:Nat} {H:Hp} {K:SV→St→Hp→Prop} (ha:RL H a n c l) (hK:K (.v (.int .i64 (-1))) ⟨[],c2 w,2⟩ H):
  DoesG Tryz.prog 306 [.v (.slice a n c),.fn 307 [.ptr 0 0,.ptr 1 0]] (c2 w) 2 H K:=by
 have hn1:=ha.n_eq;have hmx:=ha.le;refine spec_ofG cx_ok cx_mix Tryz.func306 Tryz.call306 Tryz.ntmps306 Tryz.results306 rfl rfl ?_
 refine⟨Nat,fun j=>⟨[(0,.v (.slice a n c)),(1,.fn 307 [.ptr 0 0,.ptr 1 0]),(7,.v (.int .i64 n)),(8,.v (.int .i64 j))],c2 w,2⟩,
  fun j H'=>H'=H∧j≤l.length,fun j=>l.length - j,⟨0,[(0,0),(1,1)],?_,rfl,by omega⟩,?_⟩
 ·(repeat' (first|exact trivial|refine⟨?_,?_⟩|exact rfl|assumption))
 rintro j H1 _ ⟨rfl,hi⟩;refine⟨fun h=>?_,fun h=>?_⟩
 ·have hlt:j<l.length:=by have:=dt h;omega
  refine list_k ha (List.getElem?_eq_getElem hlt) fun ad a5 n5 c5 q1 hh hr=>?_
  refine⟨ad,⟨by omega,by omega,q1⟩,?_⟩;refine⟨_,hh,?_⟩;refine⟨[0,1],rfl,chk1_spec hw (hl _ (List.getElem_mem hlt)) hr ?_⟩;refine⟨(fun h=>by cases h),fun _=>?_⟩;refine⟨⟨by omega,by omega⟩,j+1,[(0,0),(1,1)],?_,⟨rfl,by omega⟩,by dsimp only;omega⟩
  (repeat' (first|exact trivial|refine⟨?_,?_⟩|exact rfl|assumption))
 ·exact⟨.v (.int .i64 (-1)),c2 w,2,[(0,0),(1,1)],by (repeat' (first|exact trivial|refine⟨?_,?_⟩|exact rfl|assumption)),hK⟩
theorem contV_spec {w:Nat} (hw:w≤1024) {l:List Wd} (hl:∀x∈l,okW w x) {a:Option Addr} {n c:Nat} {H:Hp} {K:SV→St→Hp→Prop} (ha:RL H a n c l) (hK:K (.v (.bool false)) ⟨[],c2 w,2⟩ H):
  DoesG Tryz.prog 251 [.v (.slice a n c),.fn 307 [.ptr 0 0,.ptr 1 0]] (c2 w) 2 H K:=by
 refine spec_ofG cx_ok cx_mix Tryz.func251 Tryz.call251 Tryz.ntmps251 Tryz.results251 rfl rfl ?_;refine⟨[0,1],rfl,indexV_spec hw hl ha ?_⟩;exact⟨.v (.bool false),c2 w,2,[(0,0),(1,1)],by (repeat' (first|exact trivial|refine⟨?_,?_⟩|exact rfl|assumption)),hK⟩
theorem latcheck_spec {w:Nat} (hw:w≤1024) {l:List Wd} (hl:∀x∈l,okW w x) {a:Option Addr} {n c:Nat} {H:Hp} {K:Value→Hp→Prop} (ha:RL H a n c l) (hK:K (.int .i64 0) H):Does Tryz.prog 254 [.int .i64 3,.int .i64 (w:Nat),.slice a n c] H K:=by
 refine spec_of cx_ok cx_mix rfl Tryz.func254 Tryz.call254 Tryz.ntmps254 Tryz.results254 rfl rfl ?_;refine latis_spec hw ?_;refine⟨(fun h=>by cases h),fun _=>?_⟩;refine⟨[0,1],rfl,contV_spec hw hl ha ?_⟩;refine⟨(fun h=>by cases h),fun _=>?_⟩;exact hK
theorem wRow_snoc {a b:Wd} {i:Nat} {x y:UInt64} (hx:a[i]?=some x) (hy:b[i]?=some y):((vJoin a b).take (i+1)).map (fun w=>[Value.int .u64 (w.toNat:Nat)])=((vJoin a b).take i).map (fun w=>[Value.int .u64 (w.toNat:Nat)])++[[.int .u64 (kJoin x.toNat y.toNat:Nat)]]:=by
 have h:(vJoin a b)[i]?=some (uJoin x y):=by rw[vJoin,List.getElem?_zipWith,hx,hy]
 rw[List.take_add_one,h,Option.toList_some,List.map_append];simp [uJoin_nat]
theorem latjoin_spec {w:Nat} (hw:w≤1024) {x y:Wd} (hx:okW w x) (hy:okW w y) {a a2:Option Addr} {n c n2 k2:Nat} {H:Hp} {K:Value→Hp→Prop} (ha:RL H a n c x) (hb:RL H a2 n2 k2 y) (hK:∀a1 n1 c1 H',Le H H'→RL H' a1 n1 c1 (vJoin x y)→K (.tuple #[.slice a1 n1 c1,.int .i64 0]) H'):
  Does Tryz.prog 212 [.int .i64 3,.int .i64 (w:Nat),.slice a n c,.slice a2 n2 k2] H K:=by
 have hn1:=ha.n_eq;have hn2:=hb.n_eq;have hx1:=hx.1;have hy1:=hy.1;refine spec_of cx_ok cx_mix rfl Tryz.func212 Tryz.call212 Tryz.ntmps212 Tryz.results212 rfl rfl ?_;intro v H1 hle1 hv;have hrl:RC (α:=Wd) H1 [[.slice a n c],[.slice a2 n2 k2]] [x,y]:=((RC.nil (α:=Wd)).snoc (show Enc.R (α:=Wd) H1 [.slice a n c] x from ⟨a,n,c,rfl,ha.up hle1.le⟩)).snoc (show Enc.R (α:=Wd) H1 [.slice a2 n2 k2] y from ⟨a2,n2,k2,rfl,hb.up hle1.le⟩);obtain⟨a3,n3,c3,rfl,hr3⟩:=RL.of_row (α:=Wd) hv hrl;refine latcheck_spec hw (l:=[x,y]) (fun z hz=>?_) hr3 ?_
 ·simp only[List.mem_cons,List.not_mem_nil,or_false]at hz
  rcases hz with rfl | rfl
  ·exact hx
  ·exact hy
 refine⟨(fun h=>absurd rfl (nt h)),fun _=>?_⟩;have hjl:(vJoin x y).length=w:=(vJoin_ok hx hy).1
 refine⟨Nat,fun i=>⟨[(0,.v (.int .i64 3)),(2,.v (.slice a n c)),(3,.v (.slice a2 n2 k2)),(11,.own 0),(22,.v (.slice a n c)),(23,.v (.int .i64 n)),(24,.v (.int .i64 i))],[(0,.row 126 1 (((vJoin x y).take i).map fun w=>[.int .u64 (w.toNat:Nat)]))],1⟩,
  fun i H'=>H'=H∧i≤x.length,fun i=>x.length - i,⟨0,[],?_,rfl,Nat.zero_le _⟩,?_⟩
 ·(repeat' (first|exact trivial|refine⟨?_,?_⟩|exact rfl|assumption))
 rintro i H2 _ ⟨rfl,hi⟩
 have hrl2:(((vJoin x y).take i).map fun w=>[Value.int .u64 (w.toNat:Nat)]).length=i:=by rw[List.length_map,List.length_take];omega
 refine⟨fun h=>?_,fun h=>?_⟩
 ·have hlt:i<x.length:=by have:=dt h;omega
  have hlt2:i<y.length:=by omega
  refine word_k ha (List.getElem?_eq_getElem hlt) fun ad q1 hh hr=>?_
  refine word_k hb (List.getElem?_eq_getElem hlt2) fun ad2 q2 hh2 hr2=>?_
  have hsn:=wRow_snoc (List.getElem?_eq_getElem hlt) (List.getElem?_eq_getElem hlt2);refine⟨some ([0,1],[0,1,2,3,4,5,6,7,8,9,10,11,12,13]),by kernel_rfl,?_⟩;refine⟨ad,⟨by omega,by omega,q1⟩,?_⟩;refine⟨_,hh,?_⟩;refine⟨ad2,⟨by omega,by omega,q2⟩,?_⟩;refine⟨_,hh2,?_⟩;refine latword_spec hr hr2 ?_;refine⟨⟨by show (_+1)*8≤140737488355328;rw[hrl2];omega,by show _+1≤9223372036854775807;rw[hrl2];omega⟩,?_⟩;have e:=hsn.symm;refine⟨⟨by omega,by omega⟩,i+1,[(0,2)],?_,⟨rfl,hlt⟩,by dsimp only;omega⟩
  (repeat' (first|exact trivial|refine⟨?_,?_⟩|exact rfl|assumption))
 ·have hil:i=x.length:=by have:=df h;omega
  have e:(vJoin x y).take i=vJoin x y:=List.take_of_length_le (by omega);rw[e];intro v H3 hle3 hv3;obtain⟨a5,n5,c5,rfl,hr5⟩:=RL.of_row (α:=UInt64) hv3 rc_w;exact hK _ _ _ _ hle3.le hr5
end Go.Proofs
end
section
namespace Go.Proofs
open Go.Sy
set_option maxRecDepth 20000
set_option maxHeartbeats 4000000
abbrev Rf:=Int×Nm
abbrev Cd:=Int×Int×Rf×Rf
abbrev refV (r:Rf):List Value:=[.int .i64 r.1,.int .i64 r.2.1,.int .i64 r.2.2]
abbrev codeV (c:Cd):List Value:=[.int .i64 c.1,.int .i64 c.2.1,.int .i64 c.2.2.1.1,.int .i64 c.2.2.1.2.1,.int .i64 c.2.2.1.2.2,.int .i64 c.2.2.2.1,.int .i64 c.2.2.2.2.1,.int .i64 c.2.2.2.2.2]
theorem code_open {H:Hp} {cs:List Value} {c:Cd} (h:Enc.R H cs c):cs=codeV c:=by
 obtain⟨x1,x2,rfl,⟨rfl,_⟩,y1,y2,rfl,⟨rfl,_⟩,z1,z2,rfl,⟨u1,u2,rfl,⟨rfl,_⟩,v1,v2,rfl,⟨rfl,_⟩,⟨rfl,_⟩⟩,⟨u3,u4,rfl,⟨rfl,_⟩,v3,v4,rfl,⟨rfl,_⟩,⟨rfl,_⟩⟩⟩:=h
 rfl
theorem code_k {P:Prop} {H:Hp} {a:Option Addr} {n c:Nat} {xs:List Cd} (h:RL H a n c xs) {i:Nat} {x:Cd} (hi:xs[i]?=some x) (k:∀ad,a=some ad→ElemH H ad (i:Int) 8 (codeV x)→P):P :=
 elem_k h hi fun ad cs h1 h2 h3=>by
  have e:=code_open h3;subst e;exact k ad h1 h2
noncomputable def cxC:Cx:={ P:=Tryz.prog,tt:=tt,n:=0,wrap:=false,base:=0,gf:=263::cx.gf,eqs:=cx.eqs,xf:=[] }
theorem cxC_ok:TOK cxC:=⟨cx_ok.tt,cx_ok.eqs⟩
abbrev vL (l:List Value):List SV:=l.map .v
def okR (w:Nat) (r:Rf):Prop:=(r.1 = -1∧wrp r.2.1=r.2.1∧wrp r.2.2=r.2.2)∨(0≤r.1∧r.1<(w:Nat)∧r.2=(0,0))
def okC (w:Nat) (c:Cd):Prop:=0≤c.1∧c.1<(w:Nat)∧((c.2.1 = -1∧c.2.2.1=(0,0,0)∧c.2.2.2=(0,0,0))∨(0≤c.2.1∧c.2.1≤4∧okR w c.2.2.1∧okR w c.2.2.2))
theorem tref_spec {w:Nat} {r:Rf} (hr:okR w r) {H:Hp} {K:Value→Hp→Prop} (hK:K (.bool true) H):Does Tryz.prog 313 [.int .i64 (w:Nat),.agg (refV r).toArray] H K:=by
 refine spec_of cx_ok cx_mix rfl Tryz.func313 Tryz.call313 Tryz.ntmps313 Tryz.results313 rfl rfl ?_;refine⟨fun h=>?_,fun h=>?_⟩
 ·have h1:r.1 = -1:=dt h;refine gis_spec (a:=r.2) ?_;refine kbool hK ?_
  rcases hr with ⟨_,h2,h3⟩ | ⟨h2,_⟩
  ·rw[isN];simp [nOf,h2,h3]
  ·omega
 ·have h1:¬r.1 = -1:=df h
  have hr:0≤r.1∧r.1<(w:Nat)∧r.2=(0,0):=by
   rcases hr with ⟨h2,_⟩ | h2
   ·exact absurd h2 h1
   ·exact h2
  refine⟨fun _=>?_,(fun h=>absurd (by omega) (df h))⟩;refine⟨fun _=>?_,(fun h=>absurd (by omega) (df h))⟩;exact kbool hK (by rw[hr.2.2];rfl)
theorem tcode_spec {w:Nat} {c:Cd} (hc:okC w c) {H:Hp} {K:Value→Hp→Prop} (hK:K (.bool true) H):Does Tryz.prog 264 [.int .i64 (w:Nat),.agg (codeV c).toArray] H K:=by
 have h1:=hc.1;have h2:=hc.2.1;refine spec_of cx_ok cx_mix rfl Tryz.func264 Tryz.call264 Tryz.ntmps264 Tryz.results264 rfl rfl ?_;refine⟨fun _=>?_,(fun h=>absurd (dt h) (by omega))⟩;refine⟨fun _=>?_,(fun h=>absurd (dt h) (by omega))⟩
 have h3 : -1≤c.2.1∧c.2.1≤4:=by rcases hc.2.2 with h | h<;>omega
 refine⟨fun _=>?_,(fun h=>absurd (dt h) (by omega))⟩;refine⟨(fun h=>absurd (dt h) (by omega)),fun _=>?_⟩;refine⟨fun h=>?_,fun h=>?_⟩
 ·have h4:c.2.1 = -1:=dt h
  have h5:c.2.2.1=(0,0,0)∧c.2.2.2=(0,0,0):=by
   rcases hc.2.2 with h | h
   ·exact h.2
   ·omega
  refine⟨fun _=>?_,(fun h=>absurd h (by rw[h5.1];decide))⟩;exact kbool hK (by rw[h5.2];rfl)
 ·have h4:¬c.2.1 = -1:=df h
  have h5:okR w c.2.2.1∧okR w c.2.2.2:=by
   rcases hc.2.2 with h | h
   ·exact absurd h.1 h4
   ·exact h.2.2
  refine tref_spec h5.1 ?_;refine⟨fun _=>?_,(fun h=>by cases h)⟩;refine tref_spec h5.2 ?_;exact hK
def okL (w:Nat) (l:List Cd):Prop:=∀c∈l,okC w c
abbrev c1 (w:Nat):List (Nat×Bx):=[(0,.cells 3 [.v (.int .i64 (w:Nat))])]
theorem tbad_spec {w:Nat} {c:Cd} (hc:okC w c) {H:Hp} {K:SV→St→Hp→Prop} (hK:K (.v (.bool false)) ⟨[],c1 w,1⟩ H):
  DoesG Tryz.prog 263 [.agg (vL (codeV c)),.ptr 0 0] (c1 w) 1 H K:=by
 refine spec_ofG cx_ok cx_mix Tryz.func263 Tryz.call263 Tryz.ntmps263 Tryz.results263 rfl rfl ?_;refine tcode_spec hc ?_;exact⟨.v (.bool false),c1 w,1,[(0,0)],by (repeat' (first|exact trivial|refine⟨?_,?_⟩|exact rfl|assumption)),hK⟩
theorem indexC_spec {w:Nat} {l:List Cd} (hl:okL w l) {a:Option Addr} {n c:Nat} {H:Hp} {K:SV→St→Hp→Prop} (ha:RL H a n c l) (hK:K (.v (.int .i64 (-1))) ⟨[],c1 w,1⟩ H):
  DoesG Tryz.prog 312 [.v (.slice a n c),.fn 263 [.ptr 0 0]] (c1 w) 1 H K:=by
 have hn1:=ha.n_eq;have hmx:=ha.le;refine spec_ofG cxC_ok cx_mix Tryz.func312 Tryz.call312 Tryz.ntmps312 Tryz.results312 rfl rfl ?_
 refine⟨Nat,fun j=>⟨[(0,.v (.slice a n c)),(1,.fn 263 [.ptr 0 0]),(7,.v (.int .i64 n)),(8,.v (.int .i64 j))],c1 w,1⟩,
  fun j H'=>H'=H∧j≤l.length,fun j=>l.length - j,⟨0,[(0,0)],?_,rfl,by omega⟩,?_⟩
 ·(repeat' (first|exact trivial|refine⟨?_,?_⟩|exact rfl|assumption))
 rintro j H1 _ ⟨rfl,hi⟩;refine⟨fun h=>?_,fun h=>?_⟩
 ·have hlt:j<l.length:=by have:=dt h;omega
  refine code_k ha (List.getElem?_eq_getElem hlt) fun ad q1 hh=>?_
  refine⟨ad,⟨by omega,by omega,q1⟩,?_⟩;refine⟨_,hh,?_⟩;refine⟨[0],rfl,tbad_spec (hl _ (List.getElem_mem hlt)) ?_⟩;refine⟨(fun h=>by cases h),fun _=>?_⟩;refine⟨⟨by omega,by omega⟩,j+1,[(0,0)],?_,⟨rfl,by omega⟩,by dsimp only;omega⟩
  (repeat' (first|exact trivial|refine⟨?_,?_⟩|exact rfl|assumption))
 ·exact⟨.v (.int .i64 (-1)),c1 w,1,[(0,0)],by (repeat' (first|exact trivial|refine⟨?_,?_⟩|exact rfl|assumption)),hK⟩
theorem contC_spec {w:Nat} {l:List Cd} (hl:okL w l) {a:Option Addr} {n c:Nat} {H:Hp} {K:SV→St→Hp→Prop} (ha:RL H a n c l) (hK:K (.v (.bool false)) ⟨[],c1 w,1⟩ H):
  DoesG Tryz.prog 262 [.v (.slice a n c),.fn 263 [.ptr 0 0]] (c1 w) 1 H K:=by
 refine spec_ofG cx_ok cx_mix Tryz.func262 Tryz.call262 Tryz.ntmps262 Tryz.results262 rfl rfl ?_;refine⟨[0],rfl,indexC_spec hl ha ?_⟩;exact⟨.v (.bool false),c1 w,1,[(0,0)],by (repeat' (first|exact trivial|refine⟨?_,?_⟩|exact rfl|assumption)),hK⟩
abbrev trA (a:Option Addr) (n c:Nat):Value:=.agg #[.slice none 0 0,.slice none 0 0,.slice a n c]
theorem tcheck_spec {w:Nat} (hw:w≤1024) {l:List Cd} (hl:okL w l) {a:Option Addr} {n c:Nat} {H:Hp} {K:Value→Hp→Prop} (ha:RL H a n c l) (hK:K (.int .i64 0) H):
  Does Tryz.prog 218 [.int .i64 3,.int .i64 (w:Nat),trA a n c] H K:=by
 refine spec_of cx_ok cx_mix rfl Tryz.func218 Tryz.call218 Tryz.ntmps218 Tryz.results218 rfl rfl ?_;refine⟨fun _=>?_,(fun h=>absurd (dt h) (by omega))⟩;refine⟨(fun h=>absurd (dt h) (by omega)),fun _=>?_⟩;refine⟨(fun h=>absurd (dt h) (by decide)),fun _=>?_⟩;refine⟨(fun h=>absurd (dt h) (by decide)),fun _=>?_⟩;refine⟨fun _=>?_,(fun h=>absurd rfl (df h))⟩;refine⟨⟨by decide,by decide⟩,?_⟩;refine⟨fun _=>?_,(fun h=>absurd rfl (df h))⟩;refine⟨[0],rfl,contC_spec hl ha ?_⟩;refine⟨(fun h=>by cases h),fun _=>?_⟩;exact hK
theorem idxU_spec {l:Wd} {t:Nat} {a:Option Addr} {n c:Nat} {H:Hp} {K:Value→Hp→Prop} (ha:RL H a n c l) (hK:K (.int .i64 (idxG (fun (x:UInt64)=>decide (x.toNat=t)) l 0)) H):Does Tryz.prog 265 [.slice a n c,.int .u64 (t:Nat)] H K:=by
 have hn1:=ha.n_eq;have hmx:=ha.le;refine spec_of cx_ok cx_mix rfl Tryz.func265 Tryz.call265 Tryz.ntmps265 Tryz.results265 rfl rfl ?_;refine⟨Nat,fun i=>⟨[(0,.v (.slice a n c)),(1,.v (.int .u64 (t:Nat))),(7,.v (.int .i64 n)),(8,.v (.int .i64 i))],[],0⟩,fun i H'=>H'=H∧i≤l.length∧idxG (fun (x:UInt64)=>decide (x.toNat=t)) l 0=idxG (fun (x:UInt64)=>decide (x.toNat=t)) (l.drop i) i,fun i=>l.length - i,⟨0,[],?_,rfl,by omega,rfl⟩,?_⟩
 ·(repeat' (first|exact trivial|refine⟨?_,?_⟩|exact rfl|assumption))
 rintro i H1 _ ⟨rfl,hi,hx⟩;refine⟨fun h=>?_,fun h=>?_⟩
 ·have hlt:i<l.length:=by have:=dt h;omega
  rw[idxG_step hlt]at hx
  refine word_k ha (List.getElem?_eq_getElem hlt) fun ad e1 hh _=>?_
  refine⟨ad,⟨by omega,by omega,e1⟩,?_⟩;refine⟨_,hh,?_⟩;refine⟨fun h=>?_,fun h=>?_⟩
  ·have he:l[i].toNat=t:=by have:=dt h;omega
   rw[if_pos (decide_eq_true he)]at hx;rw[hx]at hK;exact hK
  ·have he:¬l[i].toNat=t:=by have:=df h;omega
   rw[if_neg (by rw[decide_eq_true_eq];exact he)]at hx;refine⟨⟨by omega,by omega⟩,i+1,[],?_,⟨rfl,by omega,hx⟩,by dsimp only;omega⟩
   (repeat' (first|exact trivial|refine⟨?_,?_⟩|exact rfl|assumption))
 ·have hil:i=l.length:=by have:=df h;omega
  rw[hil,List.drop_length,idxG]at hx;rw[hx]at hK;exact hK
def has0 (l:Wd):Bool:=l.any fun (x:UInt64)=>decide (x.toNat=0)
theorem contains0_spec {l:Wd} {a:Option Addr} {n c:Nat} {H:Hp} {K:Value→Hp→Prop} (ha:RL H a n c l) (hK:K (.bool (has0 l)) H):Does Tryz.prog 221 [.slice a n c,.int .u64 0] H K:=by
 refine spec_of cx_ok cx_mix rfl Tryz.func221 Tryz.call221 Tryz.ntmps221 Tryz.results221 rfl rfl ?_;refine idxU_spec (t:=0) ha ?_;refine kbool hK ?_;rw[has0,idxG_any l 0 (Int.le_refl 0)]
abbrev uRows (l:Wd):List (List Value):=l.map fun w=>[.int .u64 (w.toNat:Nat)]
theorem uRows_of {H:Hp} {css:List (List Value)} {l:Wd} (h:RC (α:=UInt64) H css l):css=uRows l:=by
 apply List.ext_getElem?;intro i
 by_cases hi:i<css.length
 ·have hi2:i<l.length:=by rw[←h.1];exact hi
  have h1:=List.getElem?_eq_getElem hi;have h2:=List.getElem?_eq_getElem hi2;have h3:css[i]=[.int .u64 (l[i].toNat:Nat)]:=h.2 i _ _ h1 h2
  rw[h1,h3,List.getElem?_map,h2];rfl
 ·rw[List.getElem?_eq_none (by omega),List.getElem?_eq_none (by rw[List.length_map,←h.1];omega)]
theorem cloneUN_spec {l:Wd} (hl:l.length≤1000000) {a:Option Addr} {n c:Nat} {H:Hp} {K:Value→Hp→Prop} (ha:RL H a n c l) (hK:∀v H',LeN 126 1 (uRows l) H v H'→RowAt H' v 1 (uRows l)→K v H') (hnil:a=none→l=[]→K (.slice none 0 0) H):Does Tryz.prog 253 [.slice a n c] H K:=by
 have hn:=ha.n_eq;refine spec_of cx_ok cx_mix rfl Tryz.func253 Tryz.call253 Tryz.ntmps253 Tryz.results253 rfl rfl ?_;refine⟨fun h=>?_,fun h=>?_⟩
 ·have hno:a=none:=by
   cases a with
   | none=>rfl
   | some x=>cases h
  subst hno;exact hnil rfl (RL_nil ha)
 ·obtain⟨css,hrow,hrc⟩:=ha.row;have hcl:css.length=l.length:=hrc.1;have e:=uRows_of hrc;refine⟨css,hrow,?_⟩;refine⟨⟨by show (0+css.length)*8≤140737488355328;omega,by show 0+css.length≤9223372036854775807;omega⟩,?_⟩;intro v H' hle hv;rw[e]at hle hv;exact hK v H' hle hv
theorem cloneU_spec {l:Wd} (hl:l.length≤1000000) {a:Option Addr} {n c:Nat} {H:Hp} {K:Value→Hp→Prop} (ha:RL H a n c l) (hK:∀a1 n1 c1 H',Le H H'→RL H' a1 n1 c1 l→K (.slice a1 n1 c1) H'):Does Tryz.prog 253 [.slice a n c] H K:=by
 refine cloneUN_spec hl ha (fun v H' hle hv=>?_) (fun _ e=>?_)
 ·obtain⟨a1,n1,c1,rfl,hr⟩:=RL.of_row (α:=UInt64) hv rc_w;exact hK _ _ _ _ hle.le hr
 ·rw[e]at hK;exact hK none 0 0 H (Le.refl H) rl_nil
theorem cloneUG_spec {l:Wd} (hl:l.length≤1000000) {a:Option Addr} {n c:Nat} {H:Hp} {K:SV→St→Hp→Prop} (ha:RL H a n c l)
  (hK:∀H',Le H H'→K (.own 0) ⟨[],[(0,.row 126 1 (uRows l))],1⟩ H') (hnil:l=[]→K (.v (.slice none 0 0)) ⟨[],[],0⟩ H):DoesG Tryz.prog 253 [.v (.slice a n c)] [] 0 H K:=by
 refine doesG_thawR (args:=[.slice a n c]) (fun _=>rfl) (cloneUN_spec hl ha (K:=fun v H'=>LeN 126 1 (uRows l) H v H'∨(v = .slice none 0 0∧l=[]∧H'=H)) (fun v H' h _=>.inl h) (fun _ e=>.inr ⟨rfl,e,rfl⟩)) ?_;rintro v H2 hle (h | ⟨rfl,e,rfl⟩)
 ·refine .inr ⟨126,1,uRows l,v,.own 0,fun ρ hρ=>hρ,rfl,h.new,fun y hy=>?_,fun H' hle2 _=>hK H' hle2⟩;obtain⟨w,_,rfl⟩:=List.mem_map.1 hy;exact⟨rfl,fun u hu=>by simp at hu;subst hu;rfl⟩
 ·exact .inl ⟨.v (.slice none 0 0),fun _=>rfl,rfl,hnil e⟩
end Go.Proofs
end
section
namespace Go.Proofs
open Go.Sy
set_option maxRecDepth 20000
set_option maxHeartbeats 4000000
def refN (v:Wd) (r:Rf):Nat:=if r.1 = -1 then kOf r.2 else (v[r.1.toNat]?.getD 0).toNat
def doC (v:Wd) (c:Cd):Wd:=v.set c.1.toNat (if c.2.1 = -1 then 1 else UInt64.ofNat (kOp c.2.1 (refN v c.2.2.1) (refN v c.2.2.2)))
def doL (v:Wd) (l:List Cd):Wd:=l.foldl doC v
def vApp (l:List Cd) (v:Wd):Wd:=if has0 v then vBot v.length else doL v l
theorem doC_ok {w:Nat} {v:Wd} (h:okW w v) (c:Cd):okW w (doC v c):=by
 refine⟨by rw[doC,List.length_set];exact h.1,fun x hx=>?_⟩;rw[doC]at hx
 rcases List.mem_or_eq_of_mem_set hx with hx | rfl
 ·exact h.2 x hx
 ·split
  ·rfl
  ·rw[u64_of (kOp_lt _ _ _)];exact kIs_op _ _ _
theorem doL_ok {w:Nat}:∀(l:List Cd) {v:Wd},okW w v→okW w (doL v l)
 | [],_,h=>h
 | c::r,v,h=>doL_ok r (v:=doC v c) (doC_ok h c)
theorem vApp_ok {w:Nat} {v:Wd} (h:okW w v) (l:List Cd):okW w (vApp l v):=by
 unfold vApp;split
 ·rw[h.1];exact vBot_ok w
 ·exact doL_ok l h
theorem doL_snoc (v:Wd) (l:List Cd) (c:Cd):doL v (l++[c])=doC (doL v l) c:=by rw[doL,List.foldl_append];rfl
theorem refN_lt (v:Wd) (r:Rf):refN v r<18446744073709551616:=by
 unfold refN;split
 ·have:=kOf_lt r.2;omega
 ·exact UInt64.toNat_lt _
theorem uRows_get {v:Wd} {i:Int} (h0:0≤i) (h1:i<(v.length:Nat)):(uRows v)[i.toNat]?=some [.int .u64 ((v[i.toNat]?.getD 0).toNat:Nat)]:=by
 have h:i.toNat<v.length:=by omega
 rw[List.getElem?_map,List.getElem?_eq_getElem h];rfl
theorem uRows_len (v:Wd):(uRows v).length=v.length:=List.length_map _
theorem uRows_set (v:Wd) (i:Nat) {x:Nat} (hx:x<18446744073709551616):(uRows v).set i [.int .u64 (x:Nat)]=uRows (v.set i (UInt64.ofNat x)):=by
 rw[uRows,uRows,List.map_set,u64_of hx]
abbrev b2 (v:Wd):List (Nat×Bx):=[(0,.cells 103 [.own 1]),(1,.row 126 1 (uRows v))]
theorem word1_spec {w:Nat} {v:Wd} (hv:v.length=w) {r:Rf} (hr:okR w r) {H:Hp} {K:SV→St→Hp→Prop} (hK:K (.v (.int .u64 (refN v r:Nat))) ⟨[],b2 v,2⟩ H):DoesG Tryz.prog 266 [.agg (vL (refV r)),.ptr 0 0] (b2 v) 2 H K:=by
 refine spec_ofG cx_ok cx_mix Tryz.func266 Tryz.call266 Tryz.ntmps266 Tryz.results266 rfl rfl ?_;refine⟨fun h=>?_,fun h=>?_⟩
 ·have h1:r.1 = -1:=dt h;refine kof_spec (a:=r.2) ?_;have e:refN v r=kOf r.2:=if_pos h1;rw[e]at hK;exact⟨.v (.int .u64 (kOf r.2:Nat)),b2 v,2,[(0,0),(1,1)],by (repeat' (first|exact trivial|refine⟨?_,?_⟩|exact rfl|assumption)),hK⟩
 ·have h1:¬r.1 = -1:=df h
  have hr:0≤r.1∧r.1<(w:Nat):=by
   rcases hr with ⟨h2,_⟩ | h2
   ·exact absurd h2 h1
   ·exact⟨h2.1,h2.2.1⟩
  have e:refN v r=(v[r.1.toNat]?.getD 0).toNat:=if_neg h1;refine⟨⟨by omega,by rw[uRows_len];omega⟩,?_⟩;refine⟨_,uRows_get hr.1 (by omega),?_⟩;rw[e]at hK;exact⟨.v (.int .u64 ((v[r.1.toNat]?.getD 0).toNat:Nat)),b2 v,2,[(0,0),(1,1)],by (repeat' (first|exact trivial|refine⟨?_,?_⟩|exact rfl|assumption)),hK⟩
noncomputable def cxD:Cx:={ P:=Tryz.prog,tt:=tt,n:=0,wrap:=false,base:=0,gf:=253::cx.gf,eqs:=cx.eqs,xf:=[] }
theorem cxD_ok:TOK cxD:=⟨cx_ok.tt,cx_ok.eqs⟩
theorem do_spec {w:Nat} (hw:w≤1024) {v:Wd} (hv:v.length=w) {l:List Cd} (hl:okL w l) {a a2:Option Addr} {n c n2 k2:Nat} {H:Hp} {K:Value→Hp→Prop} (ha:RL H a n c v) (hb:RL H a2 n2 k2 l) (hK:∀a1 n1 c1 H',Le H H'→RL H' a1 n1 c1 (doL v l)→K (.slice a1 n1 c1) H'):
  Does Tryz.prog 222 [.slice a n c,.slice a2 n2 k2] H K:=by
 have hn2:=hb.n_eq;have hmx:=hb.le;refine spec_of cxD_ok cx_mix rfl Tryz.func222 Tryz.call222 Tryz.ntmps222 Tryz.results222 rfl rfl ?_;refine⟨[],rfl,cloneUG_spec (by omega) ha (fun H2 hle2=>?_) (fun he=>?_)⟩
 ·skip
  refine⟨Nat×Wd,fun z=>⟨[(2,.ptr 0 0),(5,.fn 266 [.ptr 0 0]),(11,.v (.slice a2 n2 k2)),(12,.v (.int .i64 n2)),(13,.v (.int .i64 z.1))],[(0,.cells 103 [.own 1]),(1,.row 126 1 (uRows z.2))],2⟩,
   fun z H'=>H'=H2∧z.1≤l.length∧z.2.length=w∧z.2=doL v (l.take z.1),fun z=>l.length - z.1,⟨(0,v),[(0,0),(1,1)],?_,rfl,Nat.zero_le _,hv,rfl⟩,?_⟩
  ·(repeat' (first|exact trivial|refine⟨?_,?_⟩|exact rfl|assumption))
  rintro⟨i,u⟩ H3 _ ⟨rfl,hi,hu,hx⟩;dsimp only at hi hu hx;refine⟨fun h=>?_,fun h=>?_⟩
  ·have hlt:i<l.length:=by have:=dt h;dsimp only at this;omega
   refine name_k l[i] fun cd hce=>?_
   have hcc:l[i]?=some cd:=by rw[hce];exact List.getElem?_eq_getElem hlt
   have hok:okC w cd:=hl _ (by rw[hce];exact List.getElem_mem hlt)
   have hst:doL v (l.take (i+1))=doC u cd:=by rw[hx,List.take_add_one,hcc,Option.toList_some,doL_snoc]
   refine code_k (hb.up (hle2)) hcc fun ad e1 hh=>?_
   refine⟨ad,⟨by dsimp only;omega,by dsimp only;omega,e1⟩,?_⟩;refine⟨_,hh,?_⟩;have hul:=uRows_len u
   have hdl:(doC u cd).length=w:=by rw[doC,List.length_set];exact hu
   refine⟨fun h=>?_,fun h=>?_⟩
   ·have h1:cd.2.1 = -1:=dt h;refine⟨⟨hok.1,by rw[uRows_len,hu];exact hok.2.1⟩,?_⟩;refine⟨_,uRows_get hok.1 (by rw[hu];exact hok.2.1),?_⟩
    have e:(uRows u).set cd.1.toNat [.int .u64 1]=uRows (doC u cd):=by
     have:=uRows_set u cd.1.toNat (x:=1) (by omega)
     rw[doC,if_pos h1];exact this
    refine⟨⟨by dsimp only;omega,by dsimp only;omega⟩,(i+1,doC u cd),[(0,0),(1,1)],?_,⟨rfl,hlt,hdl,hst.symm⟩,by dsimp only;omega⟩
    (repeat' (first|exact trivial|refine⟨?_,?_⟩|exact rfl|assumption))
   ·have h1:¬cd.2.1 = -1:=df h
    have hrr:okR w cd.2.2.1∧okR w cd.2.2.2:=by
     rcases hok.2.2 with h | h
     ·exact absurd h.1 h1
     ·exact h.2.2
    have e:(uRows u).set cd.1.toNat [.int .u64 (kOp cd.2.1 (refN u cd.2.2.1) (refN u cd.2.2.2):Nat)]=uRows (doC u cd):=by
     have:=uRows_set u cd.1.toNat (kOp_lt cd.2.1 (refN u cd.2.2.1) (refN u cd.2.2.2))
     rw[doC,if_neg h1];exact this
    refine⟨none,?_⟩
    refine region_plan (α:=Unit) ?_ ?_ (.two 0 8 (.one [1000000,0,1] [0,1,2,3,4,5,6,7,9,10,11,8,12,13,14,15]) (.two 0 12 (.one [1000000,0,1] [1,2,3,4,5,6,7,9,10,11,8,0,12,13,14,15]) (.one [1000000,0,1] [1,2,3,4,5,6,7,9,10,11,8,12,0,13,14,15])))
     (fun _=>⟨[(2,.ptr 0 0),(5,.fn 266 [.ptr 0 0]),(11,.v (.slice a2 n2 k2)),(12,.v (.int .i64 n2)),(13,.v (.int .i64 (i:Nat)))],[(0,.cells 103 [.own 1]),(1,.row 126 1 (uRows (doC u cd)))],2⟩)
     (fun _ H'=>H'=H3) (by kernel_rfl) ⟨?_,?_,?_⟩ ?_
    ·exact⟨cx_ok.tt,cx_ok.eqs⟩
    ·exact cx_mix
    ·refine⟨[0,1],rfl,word1_spec hu hrr.1 ?_⟩;refine⟨[0,1],rfl,word1_spec hu hrr.2 ?_⟩;refine kop_spec (refN_lt _ _) (refN_lt _ _) ?_;refine⟨⟨hok.1,by rw[uRows_len,hu];exact hok.2.1⟩,?_⟩;refine⟨_,uRows_get hok.1 (by rw[hu];exact hok.2.1),?_⟩;refine⟨(),[(0,0),(1,1)],?_,rfl⟩
     (repeat' (first|exact trivial|refine⟨?_,?_⟩|exact rfl|assumption))
    ·refine⟨[0,1],rfl,word1_spec hu hrr.1 ?_⟩;refine⟨[0,1],rfl,word1_spec hu hrr.2 ?_⟩;refine kop_spec (refN_lt _ _) (refN_lt _ _) ?_;refine⟨⟨hok.1,by rw[uRows_len,hu];exact hok.2.1⟩,?_⟩;refine⟨_,uRows_get hok.1 (by rw[hu];exact hok.2.1),?_⟩;refine⟨(),[(0,0),(1,1)],?_,rfl⟩
     (repeat' (first|exact trivial|refine⟨?_,?_⟩|exact rfl|assumption))
    ·refine⟨[0,1],rfl,word1_spec hu hrr.1 ?_⟩;refine⟨[0,1],rfl,word1_spec hu hrr.2 ?_⟩;refine kop_spec (refN_lt _ _) (refN_lt _ _) ?_;refine⟨⟨hok.1,by rw[uRows_len,hu];exact hok.2.1⟩,?_⟩;refine⟨_,uRows_get hok.1 (by rw[hu];exact hok.2.1),?_⟩;refine⟨(),[(0,0),(1,1)],?_,rfl⟩
     (repeat' (first|exact trivial|refine⟨?_,?_⟩|exact rfl|assumption))
    rintro _ H5 _ rfl;refine⟨⟨by omega,by omega⟩,(i+1,doC u cd),[(0,0),(1,1)],?_,⟨rfl,hlt,hdl,hst.symm⟩,by dsimp only;omega⟩
    (repeat' (first|exact trivial|refine⟨?_,?_⟩|exact rfl|assumption))
  ·have hil:i=l.length:=by have:=df h;dsimp only at this;omega
   rw[hil,List.take_length]at hx;rw[hx];intro y H6 hle6 hy;obtain⟨a7,n7,c7,rfl,hr7⟩:=RL.of_row (α:=UInt64) hy rc_w;exact hK _ _ _ _ ((hle2).trans hle6.le) hr7
 ·subst he
  refine⟨Nat×Wd,fun z=>⟨[(2,.ptr 0 0),(5,.fn 266 [.ptr 0 0]),(11,.v (.slice a2 n2 k2)),(12,.v (.int .i64 n2)),(13,.v (.int .i64 z.1))],[(0,.cells 103 [.own 1]),(1,.row 126 1 (uRows z.2))],2⟩,
   fun z H'=>H'=H∧z.1≤l.length∧z.2.length=w∧z.2=doL [] (l.take z.1),fun z=>l.length - z.1,⟨(0,[]),[(0,0)],?_,rfl,Nat.zero_le _,hv,rfl⟩,?_⟩
  ·(repeat' (first|exact trivial|refine⟨?_,?_⟩|exact rfl|assumption))
  rintro⟨i,u⟩ H3 _ ⟨rfl,hi,hu,hx⟩;dsimp only at hi hu hx;refine⟨fun h=>?_,fun h=>?_⟩
  ·have hlt:i<l.length:=by have:=dt h;dsimp only at this;omega
   refine name_k l[i] fun cd hce=>?_
   have hcc:l[i]?=some cd:=by rw[hce];exact List.getElem?_eq_getElem hlt
   have hok:okC w cd:=hl _ (by rw[hce];exact List.getElem_mem hlt)
   have hst:doL [] (l.take (i+1))=doC u cd:=by rw[hx,List.take_add_one,hcc,Option.toList_some,doL_snoc]
   refine code_k (hb.up (Le.refl _)) hcc fun ad e1 hh=>?_
   refine⟨ad,⟨by dsimp only;omega,by dsimp only;omega,e1⟩,?_⟩;refine⟨_,hh,?_⟩;have hul:=uRows_len u
   have hdl:(doC u cd).length=w:=by rw[doC,List.length_set];exact hu
   refine⟨fun h=>?_,fun h=>?_⟩
   ·have h1:cd.2.1 = -1:=dt h;refine⟨⟨hok.1,by rw[uRows_len,hu];exact hok.2.1⟩,?_⟩;refine⟨_,uRows_get hok.1 (by rw[hu];exact hok.2.1),?_⟩
    have e:(uRows u).set cd.1.toNat [.int .u64 1]=uRows (doC u cd):=by
     have:=uRows_set u cd.1.toNat (x:=1) (by omega)
     rw[doC,if_pos h1];exact this
    refine⟨⟨by dsimp only;omega,by dsimp only;omega⟩,(i+1,doC u cd),[(0,0),(1,1)],?_,⟨rfl,hlt,hdl,hst.symm⟩,by dsimp only;omega⟩
    (repeat' (first|exact trivial|refine⟨?_,?_⟩|exact rfl|assumption))
   ·have h1:¬cd.2.1 = -1:=df h
    have hrr:okR w cd.2.2.1∧okR w cd.2.2.2:=by
     rcases hok.2.2 with h | h
     ·exact absurd h.1 h1
     ·exact h.2.2
    have e:(uRows u).set cd.1.toNat [.int .u64 (kOp cd.2.1 (refN u cd.2.2.1) (refN u cd.2.2.2):Nat)]=uRows (doC u cd):=by
     have:=uRows_set u cd.1.toNat (kOp_lt cd.2.1 (refN u cd.2.2.1) (refN u cd.2.2.2))
     rw[doC,if_neg h1];exact this
    refine⟨none,?_⟩
    refine region_plan (α:=Unit) ?_ ?_ (.two 0 8 (.one [1000000,0,1] [0,1,2,3,4,5,6,7,9,10,11,8,12,13,14,15]) (.two 0 12 (.one [1000000,0,1] [1,2,3,4,5,6,7,9,10,11,8,0,12,13,14,15]) (.one [1000000,0,1] [1,2,3,4,5,6,7,9,10,11,8,12,0,13,14,15])))
     (fun _=>⟨[(2,.ptr 0 0),(5,.fn 266 [.ptr 0 0]),(11,.v (.slice a2 n2 k2)),(12,.v (.int .i64 n2)),(13,.v (.int .i64 (i:Nat)))],[(0,.cells 103 [.own 1]),(1,.row 126 1 (uRows (doC u cd)))],2⟩)
     (fun _ H'=>H'=H3) (by kernel_rfl) ⟨?_,?_,?_⟩ ?_
    ·exact⟨cx_ok.tt,cx_ok.eqs⟩
    ·exact cx_mix
    ·refine⟨[0,1],rfl,word1_spec hu hrr.1 ?_⟩;refine⟨[0,1],rfl,word1_spec hu hrr.2 ?_⟩;refine kop_spec (refN_lt _ _) (refN_lt _ _) ?_;refine⟨⟨hok.1,by rw[uRows_len,hu];exact hok.2.1⟩,?_⟩;refine⟨_,uRows_get hok.1 (by rw[hu];exact hok.2.1),?_⟩;refine⟨(),[(0,0),(1,1)],?_,rfl⟩
     (repeat' (first|exact trivial|refine⟨?_,?_⟩|exact rfl|assumption))
    ·refine⟨[0,1],rfl,word1_spec hu hrr.1 ?_⟩;refine⟨[0,1],rfl,word1_spec hu hrr.2 ?_⟩;refine kop_spec (refN_lt _ _) (refN_lt _ _) ?_;refine⟨⟨hok.1,by rw[uRows_len,hu];exact hok.2.1⟩,?_⟩;refine⟨_,uRows_get hok.1 (by rw[hu];exact hok.2.1),?_⟩;refine⟨(),[(0,0),(1,1)],?_,rfl⟩
     (repeat' (first|exact trivial|refine⟨?_,?_⟩|exact rfl|assumption))
    ·refine⟨[0,1],rfl,word1_spec hu hrr.1 ?_⟩;refine⟨[0,1],rfl,word1_spec hu hrr.2 ?_⟩;refine kop_spec (refN_lt _ _) (refN_lt _ _) ?_;refine⟨⟨hok.1,by rw[uRows_len,hu];exact hok.2.1⟩,?_⟩;refine⟨_,uRows_get hok.1 (by rw[hu];exact hok.2.1),?_⟩;refine⟨(),[(0,0),(1,1)],?_,rfl⟩
     (repeat' (first|exact trivial|refine⟨?_,?_⟩|exact rfl|assumption))
    rintro _ H5 _ rfl;refine⟨⟨by omega,by omega⟩,(i+1,doC u cd),[(0,0),(1,1)],?_,⟨rfl,hlt,hdl,hst.symm⟩,by dsimp only;omega⟩
    (repeat' (first|exact trivial|refine⟨?_,?_⟩|exact rfl|assumption))
  ·have hil:i=l.length:=by have:=df h;dsimp only at this;omega
   rw[hil,List.take_length]at hx;rw[hx];intro y H6 hle6 hy;obtain⟨a7,n7,c7,rfl,hr7⟩:=RL.of_row (α:=UInt64) hy rc_w;exact hK _ _ _ _ ((Le.refl _).trans hle6.le) hr7
end Go.Proofs
end
section
namespace Go.Proofs
open Go.Sy
set_option maxRecDepth 20000
set_option maxHeartbeats 4000000
theorem tapply_spec {w:Nat} (hw:w≤1024) {v:Wd} (hv:okW w v) {l:List Cd} (hl:okL w l) {a a2:Option Addr} {n c n2 k2:Nat} {H:Hp} {K:Value→Hp→Prop} (ha:RL H a n c v) (hb:RL H a2 n2 k2 l) (hK:∀a1 n1 c1 H',Le H H'→RL H' a1 n1 c1 (vApp l v)→K (.tuple #[.slice a1 n1 c1,.int .i64 0]) H'):
  Does Tryz.prog 161 [.int .i64 3,.int .i64 (w:Nat),trA a2 n2 k2,.slice a n c] H K:=by
 refine spec_of cx_ok cx_mix rfl Tryz.func161 Tryz.call161 Tryz.ntmps161 Tryz.results161 rfl rfl ?_;refine tcheck_spec hw hl hb ?_;refine⟨(fun h=>absurd rfl (nt h)),fun _=>?_⟩;refine latIs_spec hw hv ha ?_;refine⟨(fun h=>by cases h),fun _=>?_⟩;refine⟨(fun h=>absurd rfl (nt h)),fun _=>?_⟩;refine contains0_spec ha ?_;refine⟨fun h=>?_,fun h=>?_⟩
 ·refine latbot_spec hw fun a1 n1 c1 H1 hle1 hr1=>?_
  have e:vApp l v=vBot w:=by rw[vApp,if_pos h,hv.1]
  rw[e]at hK;exact hK _ _ _ _ hle1 hr1
 ·refine do_spec hw hv.1 hl ha hb fun a1 n1 c1 H1 hle1 hr1=>?_
  have e:vApp l v=doL v l:=by rw[vApp,if_neg (by rw[h];decide)]
  rw[e]at hK;exact hK _ _ _ _ hle1 hr1
end Go.Proofs
end
section
namespace Go.Proofs
open Go.Sy
set_option maxRecDepth 20000
set_option maxHeartbeats 4000000
structure Tr3 where
 l:List Cd
instance:Enc Tr3 where
 sz:=3
 R H cs x:=∃a n c,cs=[.slice none 0 0,.slice none 0 0,.slice a n c]∧RL H a n c x.l
 len h:=by obtain⟨_,_,_,rfl,_⟩:=h;rfl
 one h:=by obtain⟨_,_,_,rfl,_⟩:=h;intro u hu;simp at hu;rcases hu with rfl | rfl<;>rfl
 up hle h:=by obtain⟨a,n,c,e,h⟩:=h;exact⟨a,n,c,e,h.up hle⟩
structure Sy3 where
 w:Nat
 m:Nat
 E:List Edg
 ent:List Int
 ini:Wd
 T:List (List Cd)
structure SA where
 ea:Option Addr
 en:Nat
 ec:Nat
 na:Option Addr
 nn:Nat
 nc:Nat
 ia:Option Addr
 ni:Nat
 ic:Nat
 ta:Option Addr
 tn:Nat
 tc:Nat
abbrev sysV (s:Sy3) (z:SA):List Value:=[.int .i64 3,.int .i64 (s.w:Nat),.int .i64 (s.m:Nat),.slice z.ea z.en z.ec,.slice z.na z.nn z.nc,.slice z.ia z.ni z.ic,.slice z.ta z.tn z.tc]
abbrev sysA (s:Sy3) (z:SA):Value:=.agg (sysV s z).toArray
structure SysR (H:Hp) (s:Sy3) (z:SA):Prop where
 e:RL H z.ea z.en z.ec s.E
 n:RL H z.na z.nn z.nc s.ent
 i:RL H z.ia z.ni z.ic s.ini
 t:RL (α:=Tr3) H z.ta z.tn z.tc (s.T.map Tr3.mk)
theorem SysR.up {H H':Hp} {s:Sy3} {z:SA} (h:SysR H s z) (hle:Le H H'):SysR H' s z:=⟨h.e.up hle,h.n.up hle,h.i.up hle,h.t.up hle⟩
structure OkS (s:Sy3):Prop where
 w:s.w≤1024
 m:1≤s.m∧s.m≤256
 El:s.E.length≤1024
 En:∀e∈s.E,(0≤e.1∧e.1<(s.m:Nat))∧0≤e.2∧e.2<(s.m:Nat)
 ent:∀v∈s.ent,0≤v∧v<(s.m:Nat)
 ini:okW s.w s.ini
 Tl:s.T.length=s.m
 T:∀t∈s.T,okL s.w t
theorem trans_k {P:Prop} {H:Hp} {a:Option Addr} {n c:Nat} {T:List (List Cd)} (h:RL (α:=Tr3) H a n c (T.map Tr3.mk)) {i:Nat} {l:List Cd} (hi:T[i]?=some l) (k:∀ad a1 n1 c1,a=some ad→ElemH H ad (i:Int) 3 [.slice none 0 0,.slice none 0 0,.slice a1 n1 c1]→RL H a1 n1 c1 l→P):P :=
 elem_k h (i:=i) (x:=Tr3.mk l) (by rw[List.getElem?_map,hi];rfl) fun ad cs h1 h2 h3=>by
  obtain⟨a1,n1,c1,rfl,h4⟩:=h3;exact k ad a1 n1 c1 h1 h2 h4
theorem right_ok {s:Sy3} (h:OkS s):rightE (s.m:Nat) s.E=true:=by
 have h1:=h.m;have h2:=h.El;rw[rightE,decide_eq_true (by omega),decide_eq_true (by omega),decide_eq_true h2];simp only[Bool.true_and,Bool.not_eq_true',decide_eq_false_iff_not];intro h0;obtain⟨e,he,h3⟩:=(idxB_none s.E 0 (Int.le_refl 0)).1 h0;have h4:=h.En e he;rw[badE,decide_eq_true h4.1,decide_eq_true h4.2]at h3;cases h3
theorem right_true {m:Int} {l:List Edg} (h:rightE m l=true) {a:Option Addr} {n c:Nat} {H:Hp} {K:Value→Hp→Prop} (ha:RL H a n c l) (hK:K (.bool true) H):Does Tryz.prog 217 [.int .i64 m,.slice a n c] H K :=
 right_spec ha (by rw[h];exact hK)
theorem scheck_spec {s:Sy3} {z:SA} (ho:OkS s) {H:Hp} {K:Value→Hp→Prop} (hs:SysR H s z) (hK:∀H',Le H H'→K (.int .i64 0) H'):Does Tryz.prog 158 [sysA s z] H K:=by
 have hm:=ho.m;have hw:=ho.w;have htn:=hs.t.n_eq;rw[List.length_map,ho.Tl]at htn;have hnn:=hs.n.n_eq;have hnx:=hs.n.le;refine spec_of cx_ok cx_mix rfl Tryz.func158 Tryz.call158 Tryz.ntmps158 Tryz.results158 rfl rfl ?_;refine .inl ⟨0,?_⟩;refine⟨none,?_⟩
 refine region_plan (α:=Unit) ?_ ?_ (.one [] [0,1,2,3,4,5,6,7,8,9,10,11,12,13,14,15,16,17,18])
  (fun _=>⟨[(1,.ptr 0 0),(26,.v (.bool false))],[(0,.cells 106 (vL (sysV s z)))],1⟩) (fun _ H'=>Le H H') (by kernel_rfl) ?_ ?_
 ·exact⟨cx_ok.tt,cx_ok.eqs⟩
 ·exact cx_mix
 ·refine latheight_spec hw ?_;refine⟨fun _=>?_,fun _=>?_⟩
  ·refine latbot_spec hw fun a1 n1 c1 H1 hle1 hr1=>?_
   refine latIs_spec hw (vBot_ok s.w) hr1 ?_;exact⟨(),[(0,0)],by (repeat' (first|exact trivial|refine⟨?_,?_⟩|exact rfl|assumption)),hle1⟩
  ·exact⟨(),[(0,0)],by (repeat' (first|exact trivial|refine⟨?_,?_⟩|exact rfl|assumption)),Le.refl H⟩
 rintro _ H1 _ hle;refine⟨(fun h=>by cases h),fun _=>?_⟩;have hs:=hs.up hle;refine right_true (right_ok ho) hs.e ?_;refine⟨fun _=>?_,(fun h=>by cases h)⟩;refine⟨(fun h=>absurd (by rw[htn]) (nt h)),fun _=>?_⟩
 refine⟨Nat,fun i=>⟨[(1,.ptr 0 0),(42,.v (.slice z.na z.nn z.nc)),(43,.v (.int .i64 z.nn)),(44,.v (.int .i64 i))],[(0,.cells 106 (vL (sysV s z)))],1⟩,
  fun i H'=>H'=H1∧i≤s.ent.length,fun i=>s.ent.length - i,⟨0,[(0,0)],?_,rfl,Nat.zero_le _⟩,?_⟩
 ·(repeat' (first|exact trivial|refine⟨?_,?_⟩|exact rfl|assumption))
 rintro i H2 _ ⟨rfl,hi⟩;refine⟨fun h=>?_,fun h=>?_⟩
 ·have hlt:i<s.ent.length:=by have:=dt h;omega
  have hv:=ho.ent _ (List.getElem_mem hlt)
  refine int_k hs.n (List.getElem?_eq_getElem hlt) fun ad e1 hh=>?_
  refine⟨ad,⟨by omega,by omega,e1⟩,?_⟩;refine⟨_,hh,?_⟩;refine⟨fun _=>?_,(fun h=>absurd (dt h) (by omega))⟩;refine⟨(fun h=>absurd (dt h) (by omega)),fun _=>?_⟩;refine⟨⟨by omega,by omega⟩,i+1,[(0,0)],?_,⟨rfl,hlt⟩,by dsimp only;omega⟩
  (repeat' (first|exact trivial|refine⟨?_,?_⟩|exact rfl|assumption))
 refine latIs_spec hw ho.ini hs.i ?_;refine⟨(fun h=>by cases h),fun _=>?_⟩
 refine⟨Nat,fun i=>⟨[(1,.ptr 0 0),(66,.v (.slice z.ta z.tn z.tc)),(67,.v (.int .i64 z.tn)),(68,.v (.int .i64 i))],[(0,.cells 106 (vL (sysV s z)))],1⟩,
  fun i H'=>H'=H2∧i≤s.T.length,fun i=>s.T.length - i,⟨0,[(0,0)],?_,rfl,Nat.zero_le _⟩,?_⟩
 ·(repeat' (first|exact trivial|refine⟨?_,?_⟩|exact rfl|assumption))
 rintro j H3 _ ⟨rfl,hj⟩;have hTl:=ho.Tl;refine⟨fun h=>?_,fun h=>?_⟩
 ·have hlt:j<s.T.length:=by have:=dt h;omega
  refine trans_k hs.t (List.getElem?_eq_getElem hlt) fun ad a1 n1 c1 e1 hh hr1=>?_
  refine⟨ad,⟨by omega,by omega,e1⟩,?_⟩;refine⟨_,hh,?_⟩;refine tcheck_spec hw (ho.T _ (List.getElem_mem hlt)) hr1 ?_;refine⟨(fun h=>absurd rfl (nt h)),fun _=>?_⟩;refine⟨⟨by omega,by omega⟩,j+1,[(0,0)],?_,⟨rfl,hlt⟩,by dsimp only;omega⟩
  (repeat' (first|exact trivial|refine⟨?_,?_⟩|exact rfl|assumption))
 ·exact hK _ hle
theorem snode_spec {s:Sy3} {z:SA} (ho:OkS s) {v:Nat} (hv:v<s.m) {H:Hp} {K:Value→Hp→Prop} (hs:SysR H s z) (hK:K (.int .i64 0) H):Does Tryz.prog 160 [sysA s z,.int .i64 (v:Nat)] H K:=by
 refine spec_of cx_ok cx_mix rfl Tryz.func160 Tryz.call160 Tryz.ntmps160 Tryz.results160 rfl rfl ?_
 refine scheck_spec (s:=s) (z:=z) ho hs fun _ _=>?_
 refine⟨(fun h=>absurd rfl (nt h)),fun _=>?_⟩;refine⟨fun _=>?_,(fun h=>absurd (dt h) (by omega))⟩;refine⟨(fun h=>absurd (dt h) (by omega)),fun _=>?_⟩;exact hK
def vStart (s:Sy3) (v:Nat):Wd:=if (v:Int)∈s.ent then s.ini else vBot s.w
theorem vStart_ok {s:Sy3} (ho:OkS s) (v:Nat):okW s.w (vStart s v):=by
 unfold vStart;split
 ·exact ho.ini
 ·exact vBot_ok _
theorem sstart_spec {s:Sy3} {z:SA} (ho:OkS s) {v:Nat} {H:Hp} {K:Value→Hp→Prop} (hs:SysR H s z) (hK:∀a1 n1 c1 H',Le H H'→RL H' a1 n1 c1 (vStart s v)→K (.slice a1 n1 c1) H'):Does Tryz.prog 211 [sysA s z,.int .i64 (v:Nat)] H K:=by
 have hi:=ho.ini.1;have hw:=ho.w;refine spec_of cx_ok cx_mix rfl Tryz.func211 Tryz.call211 Tryz.ntmps211 Tryz.results211 rfl rfl ?_;refine containsN_spec hs.n ?_;refine⟨fun h=>?_,fun h=>?_⟩
 ·have hm:(v:Int)∈s.ent:=dt h;have e:vStart s v=s.ini:=if_pos hm;rw[e]at hK;exact cloneU_spec (by omega) hs.i hK
 ·have hm:¬(v:Int)∈s.ent:=df h;have e:vStart s v=vBot s.w:=if_neg hm;rw[e]at hK;exact latbot_spec hw hK
def tAt (s:Sy3) (v:Nat):List Cd:=s.T[v]?.getD []
theorem tAt_ok {s:Sy3} (ho:OkS s) (v:Nat):okL s.w (tAt s v):=by
 unfold tAt
 cases h:s.T[v]? with
 | none=>exact fun c hc=>by cases hc
 | some t=>exact ho.T t (List.mem_of_getElem? h)
theorem tAt_get {s:Sy3} (ho:OkS s) {v:Nat} (hv:v<s.m):s.T[v]?=some (tAt s v):=by
 have:v<s.T.length:=by rw[ho.Tl];exact hv
 rw[tAt,List.getElem?_eq_getElem this];rfl
theorem sout_spec {s:Sy3} {z:SA} (ho:OkS s) {v:Nat} (hv:v<s.m) {x:Wd} (hx:okW s.w x) {a:Option Addr} {n c:Nat} {H:Hp} {K:Value→Hp→Prop} (hs:SysR H s z) (ha:RL H a n c x) (hK:∀a1 n1 c1 H',Le H H'→RL H' a1 n1 c1 (vApp (tAt s v) x)→K (.tuple #[.slice a1 n1 c1,.int .i64 0]) H'):
  Does Tryz.prog 104 [sysA s z,.int .i64 (v:Nat),.slice a n c] H K:=by
 have htn:=hs.t.n_eq;rw[List.length_map,ho.Tl]at htn;refine spec_of cx_ok cx_mix rfl Tryz.func104 Tryz.call104 Tryz.ntmps104 Tryz.results104 rfl rfl ?_;refine snode_spec (s:=s) (z:=z) ho hv hs ?_;refine⟨(fun h=>absurd rfl (nt h)),fun _=>?_⟩
 refine trans_k hs.t (tAt_get ho hv) fun ad a1 n1 c1 e1 hh hr1=>?_
 refine⟨some ([],[0,1,2,3,4,5,6,7,8,9,10,11,12,13,14]),by kernel_rfl,?_⟩;refine⟨ad,⟨by omega,by omega,e1⟩,?_⟩;refine⟨_,hh,?_⟩
 refine tapply_spec ho.w hx (tAt_ok ho v) ha hr1 fun a2 n2 c2 H2 hle2 hr2=>?_
 exact hK _ _ _ _ hle2 hr2
theorem nilRow_rc {m:Nat} {H:Hp}:RC (α:=Wd) H (List.replicate m [Value.slice none 0 0]) (List.replicate m []):=by
 refine⟨by simp,fun i cs x h1 h2=>?_⟩;rw[List.getElem?_replicate]at h1 h2;split at h1
 ·rename_i hlt;rw[if_pos hlt]at h2
  cases h1;cases h2
  exact⟨none,0,0,rfl,rl_nil⟩
 ·cases h1
theorem wdrow_k {P:Prop} {H:Hp} {css:List (List Value)} {A:List Wd} (h:RC (α:=Wd) H css A) {i:Nat} {x:Wd} (hi:A[i]?=some x) (k:∀a n c,css[i]?=some [.slice a n c]→RL H a n c x→P):P:=by
 have hlt:=(List.getElem?_eq_some_iff.1 hi).1;have hl:css.length=A.length:=h.1;have hg:css[i]?=some (css[i]'(by omega)):=List.getElem?_eq_getElem _;obtain⟨a,n,c,e,hr⟩:=h.2 i _ x hg hi;exact k a n c (by rw[hg,e]) hr
theorem wd_set {H:Hp} {css:List (List Value)} {A:List Wd} (h:RC (α:=Wd) H css A) {i:Nat} {a:Option Addr} {n c:Nat} {x:Wd} (hx:RL H a n c x):RC (α:=Wd) H (css.set i [.slice a n c]) (A.set i x) :=
 RC.set h (show Enc.R (α:=Wd) H [.slice a n c] x from ⟨a,n,c,rfl,hx⟩) i
def fillV (f:Nat→Wd) (m i:Nat):List Wd:=(List.range i).map f++List.replicate (m - i) []
theorem fillV_len (f:Nat→Wd) {m i:Nat} (h:i≤m):(fillV f m i).length=m:=by
 rw[fillV,List.length_append,List.length_map,List.length_range,List.length_replicate];omega
theorem fillV_get (f:Nat→Wd) {m i:Nat} (h:i<m):(fillV f m i)[i]?=some []:=by
 rw[fillV,List.getElem?_append_right (by simp),List.length_map,List.length_range,Nat.sub_self,List.getElem?_replicate,if_pos (by omega)]
theorem fillV_set (f:Nat→Wd) {m i:Nat} (h:i<m):(fillV f m i).set i (f i)=fillV f m (i+1):=by
 have hl:((List.range i).map f).length=i:=by simp
 have hr:List.replicate (m - i) ([]:Wd)=[]::List.replicate (m - (i+1)) []:=by rw[show m - i=(m - (i+1))+1 by omega,List.replicate_succ]
 rw[fillV,fillV,List.set_append_right _ _ (by omega),hl,Nat.sub_self,hr,List.set_cons_zero,List.range_succ,List.map_append];simp
theorem fillV_full (f:Nat→Wd) (m:Nat):fillV f m m=(List.range m).map f:=by simp [fillV]
theorem map_const (m:Nat) (x:Wd):(List.range m).map (fun _=>x)=List.replicate m x:=by
 rw[List.map_const',List.length_range]
theorem sbottom_spec {s:Sy3} {z:SA} (ho:OkS s) {H:Hp} {K:Value→Hp→Prop} (hs:SysR H s z) (hK:∀v css H3 H',Le H H3→RC (α:=Wd) H3 css (List.replicate s.m (vBot s.w))→LeN 103 1 css H3 v H'→RowAt H' v 1 css→K (.tuple #[v,.int .i64 0]) H'):Does Tryz.prog 103 [sysA s z] H K:=by
 have hm:=ho.m;have hw:=ho.w;refine spec_of cx_ok cx_mix rfl Tryz.func103 Tryz.call103 Tryz.ntmps103 Tryz.results103 rfl rfl ?_
 refine scheck_spec (s:=s) (z:=z) ho hs fun _ _=>?_
 refine⟨(fun h=>absurd rfl (nt h)),fun _=>?_⟩;refine⟨⟨rfl,by omega,by show (s.m:Int)*24≤_;omega,by omega⟩,?_⟩
 refine⟨Nat×List (List Value),fun q=>⟨[(1,.ptr 0 0),(5,.own 1),(16,.v (.int .i64 (s.m:Nat))),(17,.v (.int .i64 q.1))],[(0,.cells 106 (vL (sysV s z))),(1,.row 103 1 q.2)],2⟩,
  fun q H'=>Le H H'∧q.1≤s.m∧RC (α:=Wd) H' q.2 (fillV (fun _=>vBot s.w) s.m q.1),fun q=>s.m - q.1,⟨(0,List.replicate s.m [.slice none 0 0]),[(0,0),(1,1)],?_,Le.refl H,Nat.zero_le _,by simpa [fillV] using nilRow_rc⟩,?_⟩
 ·have e:SV.v (.int .i64 ((List.replicate (s.m:Int).toNat [Value.slice none 0 0]).length:Nat))=SV.v (.int .i64 (s.m:Nat)):=by simp
  (repeat' (first|exact trivial|refine⟨?_,?_⟩|exact rfl|assumption))
 rintro⟨i,css⟩ H1 _ ⟨hle1,hi,hrc⟩;dsimp only at hi hrc
 have hcl:css.length=s.m:=by have h1:=hrc.1;rw[fillV_len _ hi]at h1;exact h1
 refine⟨fun h=>?_,fun h=>?_⟩
 ·have hlt:i<s.m:=by have:=dt h;dsimp only at this;omega
  refine latbot_spec hw fun a1 n1 c1 H2 hle2 hr1=>?_
  have hrc2:=RC.up hrc hle2
  refine wdrow_k hrc2 (fillV_get _ hlt) fun a0 n0 c0 hg _=>?_
  have hg2:css[(i:Int).toNat]?=_:=hg;refine⟨⟨by dsimp only;omega,by dsimp only;omega⟩,?_⟩;refine⟨_,hg2,?_⟩
  have hrc3:RC (α:=Wd) H2 (css.set i [.slice a1 n1 c1]) (fillV (fun _=>vBot s.w) s.m (i+1)):=by
   rw[←fillV_set _ hlt];exact wd_set hrc2 hr1
  refine⟨⟨by dsimp only;omega,by dsimp only;omega⟩,(i+1,css.set i [.slice a1 n1 c1]),[(0,0),(1,1)],?_,⟨hle1.trans hle2,hlt,hrc3⟩,by dsimp only;omega⟩
  (repeat' (first|exact trivial|refine⟨?_,?_⟩|exact rfl|assumption))
 ·have hil:i=s.m:=by have:=df h;dsimp only at this;omega
  rw[hil,fillV_full,map_const]at hrc;intro v H6 hle6 hv6;exact hK v css H1 H6 hle1 hrc hle6 hv6
end Go.Proofs
end
section
namespace Go.Proofs
open Go.Sy
set_option maxRecDepth 20000
set_option maxHeartbeats 4000000
structure OkA (s:Sy3) (A:List Wd):Prop where
 len:A.length=s.m
 ok:∀x∈A,okW s.w x
def aAt (A:List Wd) (v:Nat):Wd:=A[v]?.getD []
theorem aAt_get {s:Sy3} {A:List Wd} (h:OkA s A) {v:Nat} (hv:v<s.m):A[v]?=some (aAt A v):=by
 have:v<A.length:=by rw[h.len];exact hv
 rw[aAt,List.getElem?_eq_getElem this];rfl
theorem aAt_ok {s:Sy3} {A:List Wd} (h:OkA s A) {v:Nat} (hv:v<s.m):okW s.w (aAt A v):=h.ok _ (List.mem_of_getElem? (aAt_get h hv))
def appE (s:Sy3) (A:List Wd) (e:Edg):Wd:=vApp (tAt s e.1.toNat) (aAt A e.1.toNat)
def stepE (s:Sy3) (A out:List Wd) (e:Edg):List Wd:=out.set e.2.toNat (vJoin (aAt out e.2.toNat) (appE s A e))
def starts (s:Sy3):List Wd:=(List.range s.m).map (vStart s)
def stepS (s:Sy3) (A:List Wd):List Wd:=s.E.foldl (stepE s A) (starts s)
theorem starts_ok {s:Sy3} (ho:OkS s):OkA s (starts s):=⟨by simp [starts],fun x hx=>by
 obtain⟨v,_,rfl⟩:=List.mem_map.1 hx
 exact vStart_ok ho v⟩
theorem appE_ok {s:Sy3} {A:List Wd} (hA:OkA s A) {e:Edg} (he:0≤e.1∧e.1<(s.m:Nat)):okW s.w (appE s A e):=vApp_ok (aAt_ok hA (by omega)) _
theorem stepE_ok {s:Sy3} {A out:List Wd} (hA:OkA s A) (hO:OkA s out) {e:Edg} (he:0≤e.1∧e.1<(s.m:Nat)) (he2:0≤e.2∧e.2<(s.m:Nat)):OkA s (stepE s A out e):=by
 refine⟨by rw[stepE,List.length_set];exact hO.len,fun x hx=>?_⟩
 rcases List.mem_or_eq_of_mem_set hx with hx | rfl
 ·exact hO.ok x hx
 ·exact vJoin_ok (aAt_ok hO (by omega)) (appE_ok hA he)
theorem fold_ok {s:Sy3} {A:List Wd} (hA:OkA s A):∀(l:List Edg) {out:List Wd},(∀e∈l,(0≤e.1∧e.1<(s.m:Nat))∧0≤e.2∧e.2<(s.m:Nat))→OkA s out→OkA s (l.foldl (stepE s A) out)
 | [],_,_,h=>h
 | e::r,out,hl,h=>by
  have h1:=hl e List.mem_cons_self;exact fold_ok hA r (out:=stepE s A out e) (fun e he=>hl e (List.mem_cons_of_mem _ he)) (stepE_ok hA h h1.1 h1.2)
theorem stepS_ok {s:Sy3} (ho:OkS s) {A:List Wd} (hA:OkA s A):OkA s (stepS s A):=fold_ok hA s.E ho.En (starts_ok ho)
abbrev bS (s:Sy3) (z:SA):List (Nat×Bx):=[(0,.cells 106 (vL (sysV s z)))]
theorem val1_spec {s:Sy3} {z:SA} (hw:s.w≤1024) {l:Wd} (hl:okW s.w l) {a:Option Addr} {n c:Nat} {H:Hp} {K:SV→St→Hp→Prop} (ha:RL H a n c l) (hK:K (.v (.bool false)) ⟨[],bS s z,1⟩ H):
  DoesG Tryz.prog 252 [.v (.slice a n c),.ptr 0 0] (bS s z) 1 H K:=by
 refine spec_ofG cx_ok cx_mix Tryz.func252 Tryz.call252 Tryz.ntmps252 Tryz.results252 rfl rfl ?_;refine latIs_spec hw hl ha ?_;exact⟨.v (.bool false),bS s z,1,[(0,0)],by (repeat' (first|exact trivial|refine⟨?_,?_⟩|exact rfl|assumption)),hK⟩
theorem indexW_spec {s:Sy3} {z:SA} (hw:s.w≤1024) {l:List Wd} (hl:∀x∈l,okW s.w x) {a:Option Addr} {n c:Nat} {H:Hp} {K:SV→St→Hp→Prop} (ha:RL H a n c l) (hK:K (.v (.int .i64 (-1))) ⟨[],bS s z,1⟩ H):
  DoesG Tryz.prog 306 [.v (.slice a n c),.fn 252 [.ptr 0 0]] (bS s z) 1 H K:=by
 have hn1:=ha.n_eq;have hmx:=ha.le;refine spec_ofG cx_ok cx_mix Tryz.func306 Tryz.call306 Tryz.ntmps306 Tryz.results306 rfl rfl ?_
 refine⟨Nat,fun j=>⟨[(0,.v (.slice a n c)),(1,.fn 252 [.ptr 0 0]),(7,.v (.int .i64 n)),(8,.v (.int .i64 j))],bS s z,1⟩,
  fun j H'=>H'=H∧j≤l.length,fun j=>l.length - j,⟨0,[(0,0)],?_,rfl,by omega⟩,?_⟩
 ·(repeat' (first|exact trivial|refine⟨?_,?_⟩|exact rfl|assumption))
 rintro j H1 _ ⟨rfl,hi⟩;refine⟨fun h=>?_,fun h=>?_⟩
 ·have hlt:j<l.length:=by have:=dt h;omega
  refine list_k ha (List.getElem?_eq_getElem hlt) fun ad a5 n5 c5 q1 hh hr=>?_
  refine⟨ad,⟨by omega,by omega,q1⟩,?_⟩;refine⟨_,hh,?_⟩;refine⟨[0],rfl,val1_spec (s:=s) (z:=z) hw (hl _ (List.getElem_mem hlt)) hr ?_⟩;refine⟨(fun h=>by cases h),fun _=>?_⟩;refine⟨⟨by omega,by omega⟩,j+1,[(0,0)],?_,⟨rfl,by omega⟩,by dsimp only;omega⟩
  (repeat' (first|exact trivial|refine⟨?_,?_⟩|exact rfl|assumption))
 ·exact⟨.v (.int .i64 (-1)),bS s z,1,[(0,0)],by (repeat' (first|exact trivial|refine⟨?_,?_⟩|exact rfl|assumption)),hK⟩
theorem contW_spec {s:Sy3} {z:SA} (hw:s.w≤1024) {l:List Wd} (hl:∀x∈l,okW s.w x) {a:Option Addr} {n c:Nat} {H:Hp} {K:SV→St→Hp→Prop} (ha:RL H a n c l) (hK:K (.v (.bool false)) ⟨[],bS s z,1⟩ H):
  DoesG Tryz.prog 251 [.v (.slice a n c),.fn 252 [.ptr 0 0]] (bS s z) 1 H K:=by
 refine spec_ofG cx_ok cx_mix Tryz.func251 Tryz.call251 Tryz.ntmps251 Tryz.results251 rfl rfl ?_;refine⟨[0],rfl,indexW_spec (s:=s) (z:=z) hw hl ha ?_⟩;exact⟨.v (.bool false),bS s z,1,[(0,0)],by (repeat' (first|exact trivial|refine⟨?_,?_⟩|exact rfl|assumption)),hK⟩
theorem svalues_spec {s:Sy3} {z:SA} (hw:s.w≤1024) {A:List Wd} (hA:OkA s A) {a:Option Addr} {n c:Nat} {H:Hp} {K:Value→Hp→Prop} (ha:RL H a n c A) (hK:K (.bool true) H):Does Tryz.prog 210 [sysA s z,.slice a n c] H K:=by
 have hn1:=ha.n_eq;have hl:=hA.len;refine spec_of cx_ok cx_mix rfl Tryz.func210 Tryz.call210 Tryz.ntmps210 Tryz.results210 rfl rfl ?_;refine⟨fun _=>?_,(fun h=>absurd (by rw[hn1,hl]) (df h))⟩;refine⟨[0],rfl,contW_spec (s:=s) (z:=z) hw hA.ok ha ?_⟩;exact hK
theorem sstep_spec {s:Sy3} {z:SA} (ho:OkS s) {A:List Wd} (hA:OkA s A) {a:Option Addr} {n c:Nat} {H:Hp} {K:Value→Hp→Prop} (hs:SysR H s z) (ha:RL H a n c A) (hK:∀a1 n1 c1 H',Le H H'→RL H' a1 n1 c1 (stepS s A)→K (.tuple #[.slice a1 n1 c1,.int .i64 0]) H'):
  Does Tryz.prog 155 [sysA s z,.slice a n c] H K:=by
 have hm:=ho.m;have hw:=ho.w;have hne:=hs.e.n_eq;have hnx:=hs.e.le;have hna:=ha.n_eq;have hal:=hA.len;have htn:=hs.t.n_eq;rw[List.length_map,ho.Tl]at htn;refine spec_of cx_ok cx_mix rfl Tryz.func155 Tryz.call155 Tryz.ntmps155 Tryz.results155 rfl rfl ?_
 refine scheck_spec (s:=s) (z:=z) ho hs fun _ _=>?_
 refine⟨(fun h=>absurd rfl (nt h)),fun _=>?_⟩;refine svalues_spec (s:=s) (z:=z) hw hA ha ?_;refine⟨(fun h=>by cases h),fun _=>?_⟩;refine⟨⟨rfl,by omega,by show (s.m:Int)*24≤_;omega,by omega⟩,?_⟩
 refine⟨Nat×List (List Value),fun q=>⟨[(1,.v (.slice a n c)),(2,.ptr 0 0),(7,.own 1),(26,.v (.int .i64 (s.m:Nat))),(27,.v (.int .i64 q.1))],[(0,.cells 106 (vL (sysV s z))),(1,.row 103 1 q.2)],2⟩,
  fun q H'=>Le H H'∧q.1≤s.m∧RC (α:=Wd) H' q.2 (fillV (vStart s) s.m q.1),fun q=>s.m - q.1,⟨(0,List.replicate s.m [.slice none 0 0]),[(0,0),(1,1)],?_,Le.refl H,Nat.zero_le _,by simpa [fillV] using nilRow_rc⟩,?_⟩
 ·have e:SV.v (.int .i64 ((List.replicate (s.m:Int).toNat [Value.slice none 0 0]).length:Nat))=SV.v (.int .i64 (s.m:Nat)):=by simp
  (repeat' (first|exact trivial|refine⟨?_,?_⟩|exact rfl|assumption))
 rintro⟨i,css⟩ H1 _ ⟨hle1,hi,hrc⟩;dsimp only at hi hrc
 have hcl:css.length=s.m:=by have h1:=hrc.1;rw[fillV_len _ hi]at h1;exact h1
 refine⟨fun h=>?_,fun h=>?_⟩
 ·have hlt:i<s.m:=by have:=dt h;dsimp only at this;omega
  refine sstart_spec (s:=s) (z:=z) ho (hs.up hle1) fun a1 n1 c1 H2 hle2 hr1=>?_
  have hrc2:=RC.up hrc hle2
  refine wdrow_k hrc2 (fillV_get _ hlt) fun a0 n0 c0 hg _=>?_
  have hg2:css[(i:Int).toNat]?=_:=hg;refine⟨⟨by dsimp only;omega,by dsimp only;omega⟩,?_⟩;refine⟨_,hg2,?_⟩
  have hrc3:RC (α:=Wd) H2 (css.set i [.slice a1 n1 c1]) (fillV (vStart s) s.m (i+1)):=by
   rw[←fillV_set _ hlt];exact wd_set hrc2 hr1
  refine⟨⟨by dsimp only;omega,by dsimp only;omega⟩,(i+1,css.set i [.slice a1 n1 c1]),[(0,0),(1,1)],?_,⟨hle1.trans hle2,hlt,hrc3⟩,by dsimp only;omega⟩
  (repeat' (first|exact trivial|refine⟨?_,?_⟩|exact rfl|assumption))
 have hil:i=s.m:=by have:=df h;dsimp only at this;omega
 rw[hil,fillV_full]at hrc
 refine⟨Nat×List (List Value),fun q=>⟨[(1,.v (.slice a n c)),(2,.ptr 0 0),(7,.own 1),(38,.v (.slice z.ea z.en z.ec)),(39,.v (.int .i64 z.en)),(40,.v (.int .i64 q.1))],[(0,.cells 106 (vL (sysV s z))),(1,.row 103 1 q.2)],2⟩,
  fun q H'=>Le H1 H'∧q.1≤s.E.length∧RC (α:=Wd) H' q.2 ((s.E.take q.1).foldl (stepE s A) (starts s)),fun q=>s.E.length - q.1,⟨(0,css),[(0,0),(1,1)],?_,Le.refl H1,Nat.zero_le _,hrc⟩,?_⟩
 ·(repeat' (first|exact trivial|refine⟨?_,?_⟩|exact rfl|assumption))
 rintro⟨j,css⟩ H2 _ ⟨hle2,hj,hrc⟩;dsimp only at hj hrc;have hok:OkA s ((s.E.take j).foldl (stepE s A) (starts s)):=fold_ok hA _ (fun e he=>ho.En e (List.mem_of_mem_take he)) (starts_ok ho)
 have hcl:css.length=s.m:=by have h1:=hrc.1;rw[hok.len]at h1;exact h1
 have hle:=hle1.trans hle2;refine⟨fun h=>?_,fun h=>?_⟩
 ·have hlt:j<s.E.length:=by have:=dt h;dsimp only at this;omega
  refine name_k s.E[j] fun e hee=>?_
  have hee2:s.E[j]?=some e:=by rw[hee];exact List.getElem?_eq_getElem hlt
  have hen:=ho.En e (by rw[hee];exact List.getElem_mem hlt)
  have hst:(s.E.take (j+1)).foldl (stepE s A) (starts s)=stepE s A ((s.E.take j).foldl (stepE s A) (starts s)) e:=by
   rw[List.take_add_one,hee2,Option.toList_some,List.foldl_append];rfl
  have hs2:=hs.up hle
  have e1n:e.1.toNat<s.m:=by omega
  have e2n:e.2.toNat<s.m:=by omega
  have ei1:((e.1.toNat:Nat):Int)=e.1:=Int.toNat_of_nonneg hen.1.1
  refine edge_k hs2.e hee2 fun ad q1 hh=>?_
  refine⟨ad,⟨by dsimp only;omega,by dsimp only;omega,q1⟩,?_⟩;refine⟨_,hh,?_⟩
  refine trans_k hs2.t (tAt_get ho e1n) fun ad2 a2 n2 c2 q2 hh2 hr2=>?_
  rw[ei1]at hh2
  refine list_k (ha.up hle) (aAt_get hA e1n) fun ad3 a3 n3 c3 q3 hh3 hr3=>?_
  rw[ei1]at hh3;refine⟨some ([],[0,1,2,3,4,5,6,7,8,9,10,11,12,13,14,15,16,17,18,19,20]),by kernel_rfl,?_⟩;refine⟨ad2,⟨by omega,by omega,q2⟩,?_⟩;refine⟨_,hh2,?_⟩;refine⟨ad3,⟨by omega,by omega,q3⟩,?_⟩;refine⟨_,hh3,?_⟩
  refine tapply_spec hw (aAt_ok hA e1n) (tAt_ok ho _) hr3 hr2 fun a4 n4 c4 H4 hle4 hr4=>?_
  have hrc4:=RC.up hrc hle4
  refine wdrow_k hrc4 (aAt_get hok e2n) fun a5 n5 c5 hg hr5=>?_
  refine⟨some ([1],[0,1,2,3,4,5,6,7,8,9,10,11,12,13,14,15,16,17,18]),by kernel_rfl,?_⟩;refine⟨⟨hen.2.1,by show e.2<(css.length:Int);omega⟩,?_⟩;refine⟨_,hg,?_⟩
  refine latjoin_spec hw (aAt_ok hok e2n) (appE_ok hA hen.1) hr5 hr4 fun a6 n6 c6 H6 hle6 hr6=>?_
  have hrc6:RC (α:=Wd) H6 (css.set e.2.toNat [.slice a6 n6 c6]) ((s.E.take (j+1)).foldl (stepE s A) (starts s)):=by
   rw[hst];exact wd_set (RC.up hrc4 hle6) hr6
  refine⟨⟨hen.2.1,by show e.2<(css.length:Int);omega⟩,?_⟩;refine⟨_,hg,?_⟩;refine⟨⟨by dsimp only;omega,by dsimp only;omega⟩,(j+1,css.set e.2.toNat [.slice a6 n6 c6]),[(0,0),(1,1)],?_,⟨(hle2.trans hle4).trans hle6,hlt,hrc6⟩,by dsimp only;omega⟩
  (repeat' (first|exact trivial|refine⟨?_,?_⟩|exact rfl|assumption))
 ·have hjl:j=s.E.length:=by have:=df h;dsimp only at this;omega
  rw[hjl,List.take_length]at hrc;intro v H6 hle6 hv6;obtain⟨a7,n7,c7,rfl,hr7⟩:=RL.of_row (α:=Wd) hv6 (RC.up hrc hle6.le);exact hK _ _ _ _ (hle.trans hle6.le) hr7
end Go.Proofs
end
section
namespace Go.Proofs
open Go.Sy
set_option maxRecDepth 20000
set_option maxHeartbeats 4000000
theorem list_eq_take {α:Type} [DecidableEq α] {a b:List α} (hl:a.length=b.length) (h:∀i<a.length,a[i]?=b[i]?):a=b:=by
 apply List.ext_getElem?;intro i
 by_cases hi:i<a.length
 ·exact h i hi
 ·rw[List.getElem?_eq_none (by omega),List.getElem?_eq_none (by omega)]
theorem equal_spec {x y:Wd} {a a2:Option Addr} {n c n2 k2:Nat} {H:Hp} {K:Value→Hp→Prop} (ha:RL H a n c x) (hb:RL H a2 n2 k2 y) (hK:K (.bool (decide (x=y))) H):Does Tryz.prog 214 [.slice a n c,.slice a2 n2 k2] H K:=by
 have hn:=ha.n_eq;have hn2:=hb.n_eq;have hmx:=ha.le;refine spec_of cx_ok cx_mix rfl Tryz.func214 Tryz.call214 Tryz.ntmps214 Tryz.results214 rfl rfl ?_;refine⟨fun h=>?_,fun h=>?_⟩
 ·have h1:¬n=n2:=by have:=nt h;omega
  exact kbool hK (decide_eq_false (fun e=>h1 (by rw[hn,hn2,e])))
 ·have h1:n=n2:=by have:=nf h;omega
  refine⟨Nat,fun i=>⟨[(0,.v (.slice a n c)),(1,.v (.slice a2 n2 k2)),(11,.v (.slice a n c)),(12,.v (.int .i64 n)),(13,.v (.int .i64 i))],[],0⟩,
   fun i H'=>H'=H∧i≤x.length∧∀j<i,x[j]?=y[j]?,fun i=>x.length - i,⟨0,[],?_,rfl,Nat.zero_le _,fun j hj=>(by cases hj)⟩,?_⟩
  ·(repeat' (first|exact trivial|refine⟨?_,?_⟩|exact rfl|assumption))
  rintro i H1 _ ⟨rfl,hi,hx⟩;refine⟨fun h=>?_,fun h=>?_⟩
  ·have hlt:i<x.length:=by have:=dt h;omega
   have hlt2:i<y.length:=by omega
   have ex:=List.getElem?_eq_getElem hlt;have ey:=List.getElem?_eq_getElem hlt2
   refine word_k ha ex fun ad q1 hh _=>?_
   refine word_k hb ey fun ad2 q2 hh2 _=>?_
   refine⟨some ([],[0,1,2,3,4,5,6,7,8]),by kernel_rfl,?_⟩;refine⟨ad,⟨by omega,by omega,q1⟩,?_⟩;refine⟨_,hh,?_⟩;refine⟨ad2,⟨by omega,by omega,q2⟩,?_⟩;refine⟨_,hh2,?_⟩;refine⟨fun h=>?_,fun h=>?_⟩
   ·have hne:¬x[i].toNat=y[i].toNat:=by have:=nt h;omega
    exact kbool hK (decide_eq_false (fun e=>hne (by subst e;rfl)))
   ·have heq:x[i]=y[i]:=UInt64.toNat_inj.1 (by have:=nf h;omega);refine⟨⟨by omega,by omega⟩,i+1,[],?_,⟨rfl,hlt,fun j hj=>?_⟩,by dsimp only;omega⟩
    ·(repeat' (first|exact trivial|refine⟨?_,?_⟩|exact rfl|assumption))
    ·rcases Nat.lt_succ_iff_lt_or_eq.1 hj with h | h
     ·exact hx j h
     ·rw[h,ex,ey,heq]
  ·have hil:i=x.length:=by have:=df h;omega
   exact kbool hK (decide_eq_true (list_eq_take (by omega) (fun j hj=>hx j (by omega))))
theorem equalF_spec {A B:List Wd} {a a2:Option Addr} {n c n2 k2:Nat} {H:Hp} {K:SV→St→Hp→Prop} (ha:RL H a n c A) (hb:RL H a2 n2 k2 B) (hK:K (.v (.bool (decide (A=B)))) ⟨[],[],0⟩ H):
  DoesG Tryz.prog 213 [.v (.slice a n c),.v (.slice a2 n2 k2),.fn 214 []] [] 0 H K:=by
 have hn:=ha.n_eq;have hn2:=hb.n_eq;have hmx:=ha.le
 have hF:¬A=B→K (.v (.bool false)) ⟨[],[],0⟩ H:=fun h=>by rw[decide_eq_false h]at hK;exact hK
 refine spec_ofG cx_ok cx_mix Tryz.func213 Tryz.call213 Tryz.ntmps213 Tryz.results213 rfl rfl ?_;refine⟨fun h=>?_,fun h=>?_⟩
 ·have h1:¬n=n2:=by have:=nt h;omega
  exact⟨.v (.bool false),[],0,[],by (repeat' (first|exact trivial|refine⟨?_,?_⟩|exact rfl|assumption)),hF (fun e=>h1 (by rw[hn,hn2,e]))⟩
 ·have h1:n=n2:=by have:=nf h;omega
  refine⟨Nat,fun i=>⟨[(1,.v (.slice a2 n2 k2)),(2,.fn 214 []),(15,.v (.slice a n c)),(16,.v (.int .i64 n)),(17,.v (.int .i64 i))],[],0⟩,
   fun i H'=>H'=H∧i≤A.length∧∀j<i,A[j]?=B[j]?,fun i=>A.length - i,⟨0,[],?_,rfl,Nat.zero_le _,fun j hj=>(by cases hj)⟩,?_⟩
  ·(repeat' (first|exact trivial|refine⟨?_,?_⟩|exact rfl|assumption))
  rintro i H1 _ ⟨rfl,hi,hx⟩;refine⟨fun h=>?_,fun h=>?_⟩
  ·have hlt:i<A.length:=by have:=dt h;omega
   have hlt2:i<B.length:=by omega
   have ex:=List.getElem?_eq_getElem hlt;have ey:=List.getElem?_eq_getElem hlt2
   refine list_k ha ex fun ad a5 n5 c5 q1 hh hr1=>?_
   refine list_k hb ey fun ad2 a6 n6 c6 q2 hh2 hr2=>?_
   refine⟨ad,⟨by omega,by omega,q1⟩,?_⟩;refine⟨_,hh,?_⟩;refine⟨ad2,⟨by omega,by omega,q2⟩,?_⟩;refine⟨_,hh2,?_⟩;refine equal_spec hr1 hr2 ?_;refine⟨fun h=>?_,fun h=>?_⟩
   ·have hne:¬A[i]=B[i]:=nt h;exact⟨.v (.bool false),[],0,[],by (repeat' (first|exact trivial|refine⟨?_,?_⟩|exact rfl|assumption)),hF (fun e=>hne (by subst e;rfl))⟩
   ·have heq:A[i]=B[i]:=nf h;refine⟨⟨by omega,by omega⟩,i+1,[],?_,⟨rfl,hlt,fun j hj=>?_⟩,by dsimp only;omega⟩
    ·(repeat' (first|exact trivial|refine⟨?_,?_⟩|exact rfl|assumption))
    ·rcases Nat.lt_succ_iff_lt_or_eq.1 hj with h | h
     ·exact hx j h
     ·rw[h,ex,ey,heq]
  ·have hil:i=A.length:=by have:=df h;omega
   rw[decide_eq_true (list_eq_take (by omega) (fun j hj=>hx j (by omega)))]at hK;exact⟨.v (.bool true),[],0,[],by (repeat' (first|exact trivial|refine⟨?_,?_⟩|exact rfl|assumption)),hK⟩
theorem lsame_spec {A B:List Wd} {a a2:Option Addr} {n c n2 k2:Nat} {H:Hp} {K:Value→Hp→Prop} (ha:RL H a n c A) (hb:RL H a2 n2 k2 B) (hK:K (.bool (decide (A=B))) H):Does Tryz.prog 156 [.slice a n c,.slice a2 n2 k2] H K:=by
 refine spec_of cx_ok cx_mix rfl Tryz.func156 Tryz.call156 Tryz.ntmps156 Tryz.results156 rfl rfl ?_;refine⟨[],rfl,equalF_spec ha hb ?_⟩;exact hK
def enoughS (s:Sy3):Nat:=s.m*(2*s.w)+1
theorem enoughS_le {s:Sy3} (ho:OkS s):enoughS s≤1000000:=by
 have h1:=ho.m;have h2:=ho.w;have:s.m*(2*s.w)≤256*(2*1024):=Nat.mul_le_mul h1.2 (by omega)
 unfold enoughS;omega
theorem enough_spec {s:Sy3} {z:SA} (ho:OkS s) {H:Hp} {K:Value→Hp→Prop} (hK:K (.int .i64 (enoughS s:Nat)) H):Does Tryz.prog 102 [sysA s z] H K:=by
 have hE:=enoughS_le ho
 have ee:((s.m:Int))*((2*s.w:Nat):Int)=((s.m*(2*s.w):Nat):Int):=by push_cast;rfl
 refine spec_of cx_ok cx_mix rfl Tryz.func102 Tryz.call102 Tryz.ntmps102 Tryz.results102 rfl rfl ?_;refine⟨some ([],[0,1,2,3,4,5,6,7,8,9]),by kernel_rfl,?_⟩;refine latheight_spec ho.w ?_;unfold enoughS at hE;refine⟨⟨by rw[ee];omega,by rw[ee];omega⟩,?_⟩;refine⟨⟨by rw[ee];omega,by rw[ee];omega⟩,?_⟩;exact kint hK (by rw[ee,enoughS];push_cast;rfl)
def iterN (s:Sy3):Nat→List Wd→List Wd
 | 0,A=>A
 | k+1,A=>if A=stepS s A then A else iterN s k (stepS s A)
def bots (s:Sy3):List Wd:=List.replicate s.m (vBot s.w)
theorem bots_ok (s:Sy3):OkA s (bots s):=⟨List.length_replicate,fun x hx=>by rw[(List.mem_replicate.1 hx).2];exact vBot_ok _⟩
def solveS (s:Sy3):List Wd:=iterN s (enoughS s) (bots s)
theorem iterN_ok {s:Sy3} (ho:OkS s):∀(k:Nat) {A:List Wd},OkA s A→OkA s (iterN s k A)
 | 0,_,h=>h
 | k+1,A,h=>by
  rw[iterN];split
  ·exact h
  ·exact iterN_ok ho k (stepS_ok ho h)
theorem solveS_ok {s:Sy3} (ho:OkS s):OkA s (solveS s):=iterN_ok ho _ (bots_ok s)
abbrev bI (s:Sy3) (z:SA) (a:Option Addr) (n c:Nat):List (Nat×Bx):=[(0,.cells 106 (vL (sysV s z))),(1,.cells 109 [.v (.slice a n c)])]
theorem istep_spec {s:Sy3} {z:SA} (ho:OkS s) {A:List Wd} (hA:OkA s A) {a:Option Addr} {n c:Nat} {H:Hp} {K:SV→St→Hp→Prop} (hs:SysR H s z) (ha:RL H a n c A) (hK:∀a1 n1 c1 H',Le H H'→RL H' a1 n1 c1 (stepS s A)→K (.v (.slice a1 n1 c1)) ⟨[],bI s z a n c,2⟩ H'):
  DoesG Tryz.prog 154 [.ptr 0 0,.ptr 1 0] (bI s z a n c) 2 H K:=by
 refine spec_ofG cx_ok cx_mix Tryz.func154 Tryz.call154 Tryz.ntmps154 Tryz.results154 rfl rfl ?_
 refine sstep_spec (s:=s) (z:=z) ho hA hs ha fun a1 n1 c1 H1 hle1 hr1=>?_
 exact⟨.v (.slice a1 n1 c1),bI s z a n c,2,[(0,0),(1,1)],by (repeat' (first|exact trivial|refine⟨?_,?_⟩|exact rfl|assumption)),hK _ _ _ _ hle1 hr1⟩
theorem iterate_spec {s:Sy3} {z:SA} (ho:OkS s) {most:Nat} (hmo:most≤1000000) {H:Hp} {K:Value→Hp→Prop} (hs:SysR H s z) (hK:∀a1 n1 c1 k H',Le H H'→RL H' a1 n1 c1 (iterN s most (bots s))→K (.tuple #[.slice a1 n1 c1,.int .i64 k,.int .i64 0]) H'):
  Does Tryz.prog 101 [sysA s z,.int .i64 (most:Nat)] H K:=by
 refine spec_of cx_ok cx_mix rfl Tryz.func101 Tryz.call101 Tryz.ntmps101 Tryz.results101 rfl rfl ?_
 refine .inr ⟨Nat×List Wd×(Option Addr×Nat×Nat),fun _=>0,fun q=>⟨[(1,.v (.int .i64 (most:Nat))),(2,.ptr 0 0),(7,.ptr 1 0),(9,.v (.int .i64 q.1)),(10,.fn 154 [.ptr 0 0,.ptr 1 0])],bI s z q.2.2.1 q.2.2.2.1 q.2.2.2.2,2⟩,
  fun q H'=>Le H H'∧RL H' q.2.2.1 q.2.2.2.1 q.2.2.2.2 q.2.1∧OkA s q.2.1∧q.1≤most∧iterN s most (bots s)=iterN s (most - q.1) q.2.1,fun q=>most - q.1,?_,?_⟩
 ·refine sbottom_spec (s:=s) (z:=z) ho hs fun v css H3 H1 hle3 hrc hle1 hv=>?_
  obtain⟨a,n,c,rfl,hr⟩:=RL.of_row (α:=Wd) hv (RC.up hrc hle1.le);have hle:Le H H1:=hle3.trans hle1.le;have hr:RL H1 a n c (bots s):=hr;have hA:=bots_ok s;have hI:iterN s most (bots s)=iterN s (most - 0) (bots s):=rfl;refine⟨fun h=>absurd rfl (nt h),fun _=>?_⟩;refine⟨[0,1],rfl,istep_spec (s:=s) (z:=z) ho hA (hs.up hle) hr fun a2 n2 c2 H2 hle2 hr2=>?_⟩;have hA2:=stepS_ok ho hA;refine⟨fun h=>?_,fun h=>?_⟩
  ·have hlt:0<most:=by have:=dt h; omega
   have hst:iterN s (most - 0) (bots s)=if (bots s)=stepS s (bots s) then (bots s) else iterN s (most - (0+1)) (stepS s (bots s)):=by
    rw[show most - 0=(most - (0+1))+1 by omega,iterN]
   refine lsame_spec (hr.up hle2) hr2 ?_;refine⟨fun h=>?_,fun h=>?_⟩
   ·have hne:=nt h;rw[hst,if_neg hne]at hI;refine⟨⟨by  omega,by  omega⟩,?_⟩;refine⟨(0+1,stepS s (bots s),(a2,n2,c2)),[(0,0),(1,1)],rfl,?_,⟨hle.trans hle2,hr2,hA2,hlt,hI⟩⟩
    (repeat' (first|exact trivial|refine⟨?_,?_⟩|exact rfl|assumption))
   ·have heq:=nf h;rw[hst,if_pos heq]at hI;rw[hI]at hK;exact hK _ _ _ _ _ (hle.trans hle2) (hr.up hle2)
  ·have hge:¬0<most:=by have:=df h; omega
   rw[show most - 0=0 by omega,iterN]at hI;rw[hI]at hK;exact hK _ _ _ _ _ (hle.trans hle2) (hr.up hle2)
 ·rintro⟨k,A,a,n,c⟩ H1 _ ⟨hle,hr,hA,hk,hI⟩;dsimp only at hr hA hk hI;refine⟨[0,1],rfl,istep_spec (s:=s) (z:=z) ho hA (hs.up hle) hr fun a2 n2 c2 H2 hle2 hr2=>?_⟩;have hA2:=stepS_ok ho hA;refine⟨fun h=>?_,fun h=>?_⟩
  ·have hlt:k<most:=by have:=dt h;dsimp only at this;omega
   have hst:iterN s (most - k) A=if A=stepS s A then A else iterN s (most - (k+1)) (stepS s A):=by
    rw[show most - k=(most - (k+1))+1 by omega,iterN]
   refine lsame_spec (hr.up hle2) hr2 ?_;refine⟨fun h=>?_,fun h=>?_⟩
   ·have hne:=nt h;rw[hst,if_neg hne]at hI;refine⟨⟨by dsimp only;omega,by dsimp only;omega⟩,?_⟩;refine⟨(k+1,stepS s A,(a2,n2,c2)),[(0,0),(1,1)],rfl,?_,⟨hle.trans hle2,hr2,hA2,hlt,hI⟩,by dsimp only;omega⟩
    (repeat' (first|exact trivial|refine⟨?_,?_⟩|exact rfl|assumption))
   ·have heq:=nf h;rw[hst,if_pos heq]at hI;rw[hI]at hK;exact hK _ _ _ _ _ (hle.trans hle2) (hr.up hle2)
  ·have hge:¬k<most:=by have:=df h;dsimp only at this;omega
   rw[show most - k=0 by omega,iterN]at hI;rw[hI]at hK;exact hK _ _ _ _ _ (hle.trans hle2) (hr.up hle2)
theorem lsolve_spec {s:Sy3} {z:SA} (ho:OkS s) {H:Hp} {K:Value→Hp→Prop} (hs:SysR H s z) (hK:∀a1 n1 c1 k H',Le H H'→RL H' a1 n1 c1 (solveS s)→K (.tuple #[.slice a1 n1 c1,.int .i64 k,.int .i64 0]) H'):Does Tryz.prog 65 [sysA s z] H K:=by
 refine spec_of cx_ok cx_mix rfl Tryz.func65 Tryz.call65 Tryz.ntmps65 Tryz.results65 rfl rfl ?_;refine⟨some ([],[0,1,2,3,4,5,6,7,8,9]),by kernel_rfl,?_⟩;refine enough_spec (s:=s) (z:=z) ho ?_
 refine iterate_spec (s:=s) (z:=z) ho (enoughS_le ho) hs fun a1 n1 c1 k H1 hle1 hr1=>?_
 exact hK _ _ _ _ _ hle1 hr1
def outsS (s:Sy3) (A:List Wd):List Wd:=(List.range s.m).map fun v=>vApp (tAt s v) (aAt A v)
def mixV (f:Nat→Wd) (b:Wd) (m i:Nat):List Wd:=(List.range m).map fun v=>if v<i then f v else b
theorem mixV_get (f:Nat→Wd) (b:Wd) {m i:Nat} (h:i<m):(mixV f b m i)[i]?=some b:=by
 rw[mixV,List.getElem?_map,List.getElem?_range h];simp
theorem mixV_set (f:Nat→Wd) (b:Wd) {m i:Nat} (_:i<m):(mixV f b m i).set i (f i)=mixV f b m (i+1):=by
 apply List.ext_getElem?;intro j;rw[List.getElem?_set]
 have hl:(mixV f b m i).length=m:=by simp [mixV]
 split
 ·rename_i e;subst e;rw[if_pos (by omega),mixV,List.getElem?_map,List.getElem?_range (by omega)];simp
 ·rename_i e;rw[mixV,mixV,List.getElem?_map,List.getElem?_map]
  by_cases hj:j<m
  ·rw[List.getElem?_range hj];simp only[Option.map_some,Option.some.injEq]
   by_cases h1:j<i
   ·rw[if_pos h1,if_pos (by omega)]
   ·rw[if_neg h1,if_neg (by omega)]
  ·rw[List.getElem?_eq_none (by simpa using hj)];rfl
theorem mixV_zero (f:Nat→Wd) (b:Wd) (m:Nat):mixV f b m 0=List.replicate m b:=by
 rw[mixV,←map_const];simp
theorem mixV_full (f:Nat→Wd) (b:Wd) (m:Nat):mixV f b m m=(List.range m).map f:=by
 apply List.map_congr_left;intro v hv;rw[if_pos (List.mem_range.1 hv)]
theorem rc_one {H:Hp} {css:List (List Value)} {A:List Wd} (h:RC (α:=Wd) H css A):∀y∈css,y.length=1∧∀u∈y,u.oneCell'=true:=by
 intro y hy;obtain⟨i,hi⟩:=List.getElem?_of_mem hy;have hlt:=(List.getElem?_eq_some_iff.1 hi).1;have hcl:css.length=A.length:=h.1;have:=h.2 i y (A[i]'(by omega)) hi (List.getElem?_eq_getElem _);exact⟨Enc.len this,Enc.one this⟩
theorem botG_spec {s:Sy3} {z:SA} (ho:OkS s) {H:Hp} {K:SV→St→Hp→Prop} (hs:SysR H s z) (hK:∀css H',Le H H'→RC (α:=Wd) H' css (bots s)→K (.tup [.own 0,.v (.int .i64 0)]) ⟨[],[(0,.row 103 1 css)],1⟩ H'):
  DoesG Tryz.prog 103 [.agg (vL (sysV s z))] [] 0 H K:=by
 refine doesG_thawR (args:=[sysA s z]) (fun _=>rfl) (sbottom_spec (s:=s) (z:=z) ho hs (K:=fun v H'=>∃x css H3,v = .tuple #[x,.int .i64 0]∧Le H H3∧RC (α:=Wd) H3 css (bots s)∧LeN 103 1 css H3 x H') (fun v css H3 H' h1 h2 h3 _=>⟨v,css,H3,rfl,h1,h2,h3⟩)) ?_;rintro v H2 hle ⟨x,css,H3,rfl,h1,h2,h3⟩;refine .inr ⟨103,1,css,x,.tup [.own 0,.v (.int .i64 0)],fun ρ hρ=>?_,rfl,(LeN.base h1 h3).new,rc_one h2,fun H' hle2 hkeep=>hK css H' hle2 (RC.up h2 fun b o hb=>hkeep b o (h3.le b o hb) fun e=>?_)⟩
 ·show Value.tuple #[ρ.val 0,.int .i64 0]=_;rw[hρ]
 ·rcases h3.new with ⟨h4,_⟩ | ⟨g,cap,cc,h4,h5,_⟩
  ·rw[h4]at e;cases e
  ·rw[h4]at e;simp only[Value.ownBlock,Option.some.injEq]at e;subst e;rw[h5]at hb;cases hb
noncomputable def cxO:Cx:={ P:=Tryz.prog,tt:=tt,n:=0,wrap:=false,base:=0,gf:=103::cx.gf,eqs:=cx.eqs,xf:=[] }
theorem cxO_ok:TOK cxO:=⟨cx_ok.tt,cx_ok.eqs⟩
theorem louts_spec {s:Sy3} {z:SA} (ho:OkS s) {A:List Wd} (hA:OkA s A) {a:Option Addr} {n c:Nat} {H:Hp} {K:Value→Hp→Prop} (hs:SysR H s z) (ha:RL H a n c A) (hK:∀a1 n1 c1 H',Le H H'→RL H' a1 n1 c1 (outsS s A)→K (.tuple #[.slice a1 n1 c1,.int .i64 0]) H'):Does Tryz.prog 66 [sysA s z,.slice a n c] H K:=by
 have hm:=ho.m;have hw:=ho.w;have hna:=ha.n_eq;have hal:=hA.len;refine spec_of cxO_ok cx_mix rfl Tryz.func66 Tryz.call66 Tryz.ntmps66 Tryz.results66 rfl rfl ?_;refine⟨[],rfl,botG_spec (s:=s) (z:=z) ho hs fun css0 H1 hle1 hrc0=>?_⟩
 have hcl0:css0.length=s.m:=by have h1:=hrc0.1;rw[(bots_ok s).len]at h1;exact h1
 refine⟨fun h=>absurd rfl (nt h),fun _=>?_⟩;refine⟨fun h=>absurd (by rw[hna,hal,hcl0]) (nt h),fun _=>?_⟩
 refine⟨Nat×List (List Value),fun q=>⟨[(1,.v (.slice a n c)),(2,.ptr 0 0),(6,.own 1),(23,.v (.int .i64 (s.m:Nat))),(24,.v (.int .i64 q.1))],[(0,.cells 106 (vL (sysV s z))),(1,.row 103 1 q.2)],2⟩,
  fun q H'=>Le H H'∧q.1≤s.m∧RC (α:=Wd) H' q.2 (mixV (fun v=>vApp (tAt s v) (aAt A v)) (vBot s.w) s.m q.1),fun q=>s.m - q.1,⟨(0,css0),[(0,0),(1,1)],?_,hle1,Nat.zero_le _,by rw[mixV_zero];exact hrc0⟩,?_⟩
 ·have e:SV.v (.int .i64 (css0.length:Nat))=SV.v (.int .i64 (s.m:Nat)):=by rw[hcl0]
  (repeat' (first|exact trivial|refine⟨?_,?_⟩|exact rfl|assumption))
 rintro⟨i,css⟩ H2 _ ⟨hle2,hi,hrc⟩;dsimp only at hi hrc
 have hcl:css.length=s.m:=by have h1:=hrc.1;simpa [mixV] using h1
 refine⟨fun h=>?_,fun h=>?_⟩
 ·have hlt:i<s.m:=by have:=dt h;dsimp only at this;omega
  refine list_k (ha.up hle2) (aAt_get hA hlt) fun ad a5 n5 c5 q1 hh hr1=>?_
  refine⟨some ([1],[0,1,2,3,4,5,6,7,8,9,10,11,12,13,14]),by kernel_rfl,?_⟩;refine⟨ad,⟨by dsimp only;omega,by dsimp only;omega,q1⟩,?_⟩;refine⟨_,hh,?_⟩
  refine sout_spec (s:=s) (z:=z) ho hlt (aAt_ok hA hlt) (hs.up hle2) hr1 fun a6 n6 c6 H3 hle3 hr6=>?_
  have hrc2:=RC.up hrc hle3
  refine wdrow_k hrc2 (mixV_get _ _ hlt) fun a0 n0 c0 hg _=>?_
  have hg2:css[(i:Int).toNat]?=_:=hg;refine⟨⟨by dsimp only;omega,by dsimp only;omega⟩,?_⟩;refine⟨_,hg2,?_⟩
  have hrc3:RC (α:=Wd) H3 (css.set i [.slice a6 n6 c6]) (mixV (fun v=>vApp (tAt s v) (aAt A v)) (vBot s.w) s.m (i+1)):=by
   rw[←mixV_set _ _ hlt];exact wd_set hrc2 hr6
  refine⟨fun h=>absurd rfl (nt h),fun _=>?_⟩;refine⟨⟨by dsimp only;omega,by dsimp only;omega⟩,(i+1,css.set i [.slice a6 n6 c6]),[(0,0),(1,1)],?_,⟨hle2.trans hle3,hlt,hrc3⟩,by dsimp only;omega⟩
  (repeat' (first|exact trivial|refine⟨?_,?_⟩|exact rfl|assumption))
 ·have hil:i=s.m:=by have:=df h;dsimp only at this;omega
  rw[hil,mixV_full]at hrc;intro v H6 hle6 hv6;obtain⟨a7,n7,c7,rfl,hr7⟩:=RL.of_row (α:=Wd) hv6 (RC.up hrc hle6.le);exact hK _ _ _ _ (hle2.trans hle6.le) hr7
end Go.Proofs
end
section
namespace Go.Proofs
open Go.Sy
set_option maxRecDepth 20000
set_option maxHeartbeats 4000000
def joinE (s:Sy3) (A:List Wd) (v:Nat) (x:Wd) (e:Edg):Wd:=if e.2=(v:Int) then vJoin x (appE s A e) else x
def stepR (s:Sy3) (A:List Wd):List Wd:=(List.range s.m).map fun v=>s.E.foldl (joinE s A v) (vStart s v)
theorem fold_at {s:Sy3} {A:List Wd} {v:Nat}:∀(l:List Edg) (L:List Wd),v<L.length→(∀e∈l,0≤e.2∧e.2<(L.length:Nat))→(l.foldl (stepE s A) L)[v]?=some (l.foldl (joinE s A v) (aAt L v))
 | [],L,h,_=>by rw[List.foldl_nil,List.foldl_nil,aAt,List.getElem?_eq_getElem h];rfl
 | e::r,L,h,he=>by
  have h1:=he e List.mem_cons_self
  have hl:(stepE s A L e).length=L.length:=by rw[stepE,List.length_set]
  rw[List.foldl_cons,List.foldl_cons,fold_at r (stepE s A L e) (by rw[hl];exact h) (fun e' he'=>by rw[hl];exact he e' (List.mem_cons_of_mem _ he'))]
  congr 2
  rw[joinE]
  by_cases hv:e.2=(v:Int)
  ·have hv2:e.2.toNat=v:=by omega
   rw[if_pos hv,stepE,hv2,aAt,List.getElem?_set_self h];rfl
  ·have hv2:e.2.toNat≠v:=by omega
   rw[if_neg hv,stepE,aAt,List.getElem?_set_ne hv2];rfl
theorem stepR_eq {s:Sy3} (ho:OkS s) (A:List Wd):stepR s A=stepS s A:=by
 have hsl:(starts s).length=s.m:=by simp [starts]
 have hfl:∀(l:List Edg) (L:List Wd),(l.foldl (stepE s A) L).length=L.length:=by
  intro l
  induction l with
  | nil=>exact fun _=>rfl
  | cons e r ih=>intro L;rw[List.foldl_cons,ih,stepE,List.length_set]
 apply List.ext_getElem?;intro v
 by_cases hv:v<s.m
 ·rw[stepS,fold_at s.E (starts s) (by omega) (fun e he=>by rw[hsl];exact (ho.En e he).2),stepR,List.getElem?_map,List.getElem?_range hv]
  have:aAt (starts s) v=vStart s v:=by rw[aAt,starts,List.getElem?_map,List.getElem?_range hv];rfl
  rw[this];rfl
 ·rw[List.getElem?_eq_none (by simp [stepR];omega),List.getElem?_eq_none (by rw[stepS,hfl,hsl];omega)]
end Go.Proofs
end
section
namespace Go.Proofs
open Go.Sy
set_option maxRecDepth 20000
set_option maxHeartbeats 4000000
def vIdx (p:Prog) (t:Bs8):Int:=idxS t (varsOf p) 0
def refOf (p:Prog) (a:Atm):Rf:=if 0≤vIdx p a.1.l then (vIdx p a.1.l,(0,0)) else (-1,(wrp a.2.1,wrp a.2.2))
def codeOf (p:Prog) (s:Stmt):List Cd :=
 if vIdx p s.2.1.l<0 then [] else if s.1=1 then [(vIdx p s.2.1.l,s.2.2.1,refOf p s.2.2.2.1,refOf p s.2.2.2.2)] else if s.1=2 then [(vIdx p s.2.1.l,-1,(0,(0,0)),(0,(0,0)))] else []
def codesOf (p:Prog) (l:List Stmt):List Cd:=l.flatMap (codeOf p)
theorem codesOf_take {p:Prog} {l:List Stmt} {i:Nat} {s:Stmt} (h:l[i]?=some s):codesOf p (l.take (i+1))=codesOf p (l.take i)++codeOf p s:=by
 rw[codesOf,List.take_add_one,h,Option.toList_some,List.flatMap_append,←codesOf];simp
theorem codeOf_len (p:Prog) (s:Stmt):(codeOf p s).length≤1:=by
 unfold codeOf
 repeat' split
 all_goals simp
theorem codesOf_len (p:Prog):∀l:List Stmt,(codesOf p l).length≤l.length
 | []=>Nat.le_refl _
 | s::r=>by
  have h1:=codeOf_len p s;have h2:=codesOf_len p r;have e:codesOf p (s::r)=codeOf p s++codesOf p r:=List.flatMap_cons
  rw[e,List.length_append,List.length_cons];omega
theorem vIdx_range (p:Prog) (t:Bs8):vIdx p t = -1∨(0≤vIdx p t∧vIdx p t<((varsOf p).length:Nat)):=by
 have:=idxS_range t (varsOf p) 0 (Int.le_refl 0)
 rcases this with h | ⟨h1,h2⟩
 ·exact .inl h
 ·exact .inr ⟨h1,by rw[vIdx];omega⟩
def rfR (r:Rf):Prop:=inI r.1∧inI r.2.1∧inI r.2.2
def cdR (c:Cd):Prop:=inI c.1∧inI c.2.1∧rfR c.2.2.1∧rfR c.2.2.2
theorem refOf_R (p:Prog) (hv:(varsOf p).length≤1000000) (a:Atm):rfR (refOf p a):=by
 have h1:=vIdx_range p a.1.l;have h2:=wrp_le a.2.1;have h3:=wrp_le a.2.2;unfold refOf;split
 ·exact⟨⟨by dsimp only;omega,by dsimp only;omega⟩,⟨by dsimp only;omega,by dsimp only;omega⟩,⟨by dsimp only;omega,by dsimp only;omega⟩⟩
 ·exact⟨⟨by dsimp only;omega,by dsimp only;omega⟩,⟨by dsimp only;omega,by dsimp only;omega⟩,⟨by dsimp only;omega,by dsimp only;omega⟩⟩
theorem codeOf_R (p:Prog) (hv:(varsOf p).length≤1000000) {s:Stmt} (hs:stmtR s):∀c∈codeOf p s,cdR c:=by
 have h1:=vIdx_range p s.2.1.l
 have hi:inI (vIdx p s.2.1.l):=⟨by omega,by omega⟩
 have z:inI 0:=⟨by decide,by decide⟩
 intro c hc;unfold codeOf at hc;split at hc
 ·cases hc
 ·split at hc
  ·rw[List.mem_singleton]at hc;rw[hc];exact⟨hi,hs.2.2.1,refOf_R p hv _,refOf_R p hv _⟩
  ·split at hc
   ·rw[List.mem_singleton]at hc;rw[hc];exact⟨hi,⟨by dsimp only;omega,by dsimp only;omega⟩,⟨z,z,z⟩,⟨z,z,z⟩⟩
   ·cases hc
theorem code_R {H:Hp} {c:Cd} (h:cdR c):Enc.R H (codeV c) c :=
 ⟨[_],[_,_,_,_,_,_,_],rfl,⟨rfl,h.1⟩,[_],[_,_,_,_,_,_],rfl,⟨rfl,h.2.1⟩,[_,_,_],[_,_,_],rfl,⟨[_],[_,_],rfl,⟨rfl,h.2.2.1.1⟩,[_],[_],rfl,⟨rfl,h.2.2.1.2.1⟩,⟨rfl,h.2.2.1.2.2⟩⟩,⟨[_],[_,_],rfl,⟨rfl,h.2.2.2.1⟩,[_],[_],rfl,⟨rfl,h.2.2.2.2.1⟩,⟨rfl,h.2.2.2.2.2⟩⟩⟩
abbrev cRows (l:List Cd):List (List Value):=l.map codeV
theorem rc_c {H:Hp} {l:List Cd} (h:∀c∈l,cdR c):RC (α:=Cd) H (cRows l) l:=by
 refine⟨by simp,fun i cs x h1 h2=>?_⟩;rw[List.getElem?_map,h2]at h1;cases h1;exact code_R (h x (List.mem_of_getElem? h2))
abbrev bP (a:Option Addr) (n c:Nat):List (Nat×Bx):=[(0,.cells 24 [.v (.slice a n c)])]
theorem ref1_spec {p:Prog} (hc:cnt p<400000) {x:Atm} {a:Option Addr} {n c:Nat} {H:Hp} {K:SV→St→Hp→Prop} (ha:RL H a n c p) (hK:K (.agg (vL (refV (refOf p x)))) ⟨[],bP a n c,1⟩ H):
  DoesG Tryz.prog 230 [.agg (vL (atmV x)),.ptr 0 0] (bP a n c) 1 H K:=by
 refine spec_ofG cx_ok cx_mix Tryz.func230 Tryz.call230 Tryz.ntmps230 Tryz.results230 rfl rfl ?_
 refine var_spec ha hc fun _ _=>?_
 have hr:=vIdx_range p x.1.l;refine⟨fun h=>?_,fun h=>?_⟩
 ·have h0:0≤vIdx p x.1.l:=dt h;have e:refOf p x=(vIdx p x.1.l,(0,0)):=if_pos h0
  have e2:max (idxS x.1.l (varsOf p) 0) 0=vIdx p x.1.l:=by rw[vIdx]at h0 ⊢;omega
  rw[e]at hK;rw[e2];exact⟨.agg (vL (refV (vIdx p x.1.l,(0,0)))),bP a n c,1,[(0,0)],by (repeat' (first|exact trivial|refine⟨?_,?_⟩|exact rfl|assumption)),hK⟩
 ·have h0:¬0≤vIdx p x.1.l:=df h;have e:refOf p x=(-1,(wrp x.2.1,wrp x.2.2)):=if_neg h0;rw[e]at hK;refine gof_spec ?_;exact⟨.agg (vL (refV (-1,(wrp x.2.1,wrp x.2.2)))),bP a n c,1,[(0,0)],by (repeat' (first|exact trivial|refine⟨?_,?_⟩|exact rfl|assumption)),hK⟩
theorem codes_spec {p:Prog} (hc:cnt p<400000) (hv:(varsOf p).length≤1000000) {l:List Stmt} (hl:l.length≤1000000) {a a2:Option Addr} {n c n2 k2:Nat} {H:Hp} {K:Value→Hp→Prop} (ha:RL H a n c p) (hb:RL H a2 n2 k2 l)
  (hK:∀a1 n1 c1 H',Le H H'→RL H' a1 n1 c1 (codesOf p l)→K (.slice a1 n1 c1) H'):Does Tryz.prog 174 [.agg #[.slice a n c],.slice a2 n2 k2] H K:=by
 have hn2:=hb.n_eq;refine spec_of cx_ok cx_mix rfl Tryz.func174 Tryz.call174 Tryz.ntmps174 Tryz.results174 rfl rfl ?_
 refine⟨Nat,fun i=>⟨[(2,.ptr 0 0),(5,.fn 230 [.ptr 0 0]),(6,.own 1),(12,.v (.slice a2 n2 k2)),(13,.v (.int .i64 n2)),(14,.v (.int .i64 i))],[(0,.cells 24 [.v (.slice a n c)]),(1,.row 227 8 (cRows (codesOf p (l.take i))))],2⟩,
  fun i H'=>H'=H∧i≤l.length,fun i=>l.length - i,⟨0,[(0,0)],?_,rfl,Nat.zero_le _⟩,?_⟩
 ·(repeat' (first|exact trivial|refine⟨?_,?_⟩|exact rfl|assumption))
 rintro i H1 _ ⟨rfl,hi⟩;have hcl:=codesOf_len p (l.take i);rw[List.length_take]at hcl;have hcl2:(cRows (codesOf p (l.take i))).length=(codesOf p (l.take i)).length:=List.length_map _;refine⟨fun h=>?_,fun h=>?_⟩
 ·have hlt:i<l.length:=by have:=dt h;omega
  refine name_k l[i] fun s hse=>?_
  have hss:l[i]?=some s:=by rw[hse];exact List.getElem?_eq_getElem hlt
  have hst:=codesOf_take (p:=p) hss;have hr:=vIdx_range p s.2.1.l
  refine stmt_k hb hss fun ad q1 hh hsr=>?_
  refine⟨ad,⟨by omega,by omega,q1⟩,?_⟩;refine⟨_,hh,?_⟩
  refine var_spec ha hc fun _ _=>?_
  refine⟨fun h=>?_,fun h=>?_⟩
  ·have h0:vIdx p s.2.1.l<0:=by have:¬0≤vIdx p s.2.1.l:=nt h;omega
   have e:codeOf p s=[]:=if_pos h0;rw[e,List.append_nil]at hst;refine⟨⟨by omega,by omega⟩,i+1,[(0,0),(1,1)],?_,⟨rfl,hlt⟩,by dsimp only;omega⟩
   have er:cRows (codesOf p (l.take i))=cRows (codesOf p (l.take (i+1))):=by rw[hst]
   (repeat' (first|exact trivial|refine⟨?_,?_⟩|exact rfl|assumption))
  ·have h0:0≤vIdx p s.2.1.l:=nf h
   have e2:max (idxS s.2.1.l (varsOf p) 0) 0=vIdx p s.2.1.l:=by rw[vIdx]at h0 ⊢;omega
   rw[e2];refine⟨fun h=>?_,fun h=>?_⟩
   ·have h1:s.1=1:=dt h
    have e:codeOf p s=[(vIdx p s.2.1.l,s.2.2.1,refOf p s.2.2.2.1,refOf p s.2.2.2.2)]:=by rw[codeOf,if_neg (by omega),if_pos h1]
    rw[e]at hst;refine⟨some ([0,1,3],[0,1,2,3,4,5,6,7,8,10,11,12,13,9,14,15,16,17,18]),by kernel_rfl,?_⟩;refine⟨[0],rfl,ref1_spec hc ha ?_⟩;refine⟨[0],rfl,ref1_spec hc ha ?_⟩;refine⟨⟨by show (_+1)*64≤140737488355328;rw[hcl2];omega,by show _+1≤9223372036854775807;rw[hcl2];omega⟩,?_⟩;refine⟨⟨by omega,by omega⟩,i+1,[(0,0),(1,4)],?_,⟨rfl,hlt⟩,by dsimp only;omega⟩
    have er:cRows (codesOf p (l.take (i+1)))=cRows (codesOf p (l.take i))++[codeV (vIdx p s.2.1.l,s.2.2.1,refOf p s.2.2.2.1,refOf p s.2.2.2.2)]:=by rw[hst,cRows,List.map_append];rfl
    have er2:=er.symm
    (repeat' (first|exact trivial|refine⟨?_,?_⟩|exact rfl|assumption))
   ·have h1:¬s.1=1:=df h;refine⟨fun h=>?_,fun h=>?_⟩
    ·have h2:s.1=2:=dt h
     have e:codeOf p s=[(vIdx p s.2.1.l,-1,(0,(0,0)),(0,(0,0)))]:=by rw[codeOf,if_neg (by omega),if_neg h1,if_pos h2]
     rw[e]at hst;refine⟨⟨by show (_+1)*64≤140737488355328;rw[hcl2];omega,by show _+1≤9223372036854775807;rw[hcl2];omega⟩,?_⟩;refine⟨⟨by omega,by omega⟩,i+1,[(0,0),(1,4)],?_,⟨rfl,hlt⟩,by dsimp only;omega⟩
     have er:cRows (codesOf p (l.take (i+1)))=cRows (codesOf p (l.take i))++[codeV (vIdx p s.2.1.l,-1,(0,(0,0)),(0,(0,0)))]:=by rw[hst,cRows,List.map_append];rfl
     have er2:=er.symm
     (repeat' (first|exact trivial|refine⟨?_,?_⟩|exact rfl|assumption))
    ·have h2:¬s.1=2:=df h
     have e:codeOf p s=[]:=by rw[codeOf,if_neg (by omega),if_neg h1,if_neg h2]
     rw[e,List.append_nil]at hst;refine⟨⟨by omega,by omega⟩,i+1,[(0,0),(1,1)],?_,⟨rfl,hlt⟩,by dsimp only;omega⟩
     have er:cRows (codesOf p (l.take i))=cRows (codesOf p (l.take (i+1))):=by rw[hst]
     (repeat' (first|exact trivial|refine⟨?_,?_⟩|exact rfl|assumption))
 ·have hil:i=l.length:=by have:=df h;omega
  rw[hil,List.take_length];intro v H6 hle6 hv6
  have hR:∀c∈codesOf p l,cdR c:=fun c hc=>by
   obtain⟨s,hs,h1⟩:=List.mem_flatMap.1 hc;obtain⟨cs,hr⟩:=rl_mem hb hs;exact codeOf_R p hv (stmt_open hr).2 c h1
  obtain⟨a7,n7,c7,rfl,hr7⟩:=RL.of_row (α:=Cd) hv6 (rc_c hR);exact hK _ _ _ _ hle6.le hr7
end Go.Proofs
end
section
namespace Go.Proofs
open Go.Sy
set_option maxRecDepth 20000
set_option maxHeartbeats 4000000
def two64:UInt64:=UInt64.ofNat 2
def sysOf (p:Prog):Sy3:=⟨(varsOf p).length,p.length,gSort (edgesOf p),[0],List.replicate (varsOf p).length two64,p.map fun b=>codesOf p b.2.1⟩
theorem kOf_zero:kOf (0,0)=2:=by decide
abbrev zSys:List Value:=[.int .i64 0,.int .i64 0,.int .i64 0,.slice none 0 0,.slice none 0 0,.slice none 0 0,.slice none 0 0]
abbrev iRow0:List (List Value):=[[.int .i64 0]]
theorem two_snoc (i:Nat):uRows (List.replicate (i+1) two64)=uRows (List.replicate i two64)++[[.int .u64 (2:Nat)]]:=by
 rw[List.replicate_succ',uRows,List.map_append];rfl
theorem tr_snoc {H:Hp} {css:List (List Value)} {T:List Tr3} (h:RC (α:=Tr3) H css T) {a:Option Addr} {n c:Nat} {l:List Cd} (hx:RL H a n c l):RC (α:=Tr3) H (css++[[.slice none 0 0,.slice none 0 0,.slice a n c]]) (T++[Tr3.mk l]) :=
 RC.snoc h (show Enc.R (α:=Tr3) H [.slice none 0 0,.slice none 0 0,.slice a n c] (Tr3.mk l) from ⟨a,n,c,rfl,hx⟩)
theorem sysT_take {p:Prog} {i:Nat} {b:Block} (h:p[i]?=some b):((sysOf p).T.map Tr3.mk).take (i+1)=((sysOf p).T.map Tr3.mk).take i++[Tr3.mk (codesOf p b.2.1)]:=by
 have e:((sysOf p).T.map Tr3.mk)[i]?=some (Tr3.mk (codesOf p b.2.1)):=by
  show ((p.map fun b=>codesOf p b.2.1).map Tr3.mk)[i]?=_
  rw[List.getElem?_map,List.getElem?_map,h];rfl
 rw[List.take_add_one,e,Option.toList_some]
theorem vars_small {p:Prog} (h:checkE p=0):(varsOf p).length≤1000000:=by
 unfold checkE at h;split at h
 ·cases h
 ·split at h
  ·split at h
   ·cases h
   ·rename_i h1;omega
  ·cases h
theorem ints_k {P:Prop} {H:Hp} {v:Value} (h:RowAt H v 1 iRow0) (k:∀a n c,v = .slice a n c→RL H a n c [(0:Int)]→P):P:=by
 obtain⟨a,n,c,e,hr⟩:=rI_all (l:=[0]) h (fun z hz=>by rw[List.mem_singleton]at hz;rw[hz];exact⟨by omega,by omega⟩);exact k a n c e hr
theorem psys_spec {p:Prog} (hp:p.length≤12) (hl:∀b∈p,b.2.1.length≤1000000) (hc:stmtsN p≤1000000) (hv:cnt p<400000) {a:Option Addr} {n c:Nat} {H:Hp} {K:Value→Hp→Prop} (ha:RL H a n c p)
  (hbad:checkE p≠0→∀H',Le H H'→K (.tuple #[.agg zSys.toArray,.int .i64 (checkE p)]) H')
  (hK:checkE p=0→∀z H',Le H H'→SysR H' (sysOf p) z→K (.tuple #[sysA (sysOf p) z,.int .i64 0]) H'):Does Tryz.prog 173 [.agg #[.slice a n c]] H K:=by
 have hn:=ha.n_eq;have hmx:=ha.le;refine spec_of cx_ok cx_mix rfl Tryz.func173 Tryz.call173 Tryz.ntmps173 Tryz.results173 rfl rfl ?_
 refine pcheck_spec ha hc hv fun H0 hle0=>?_
 refine⟨fun h=>?_,fun h=>?_⟩
 ·exact hbad (nt h) _ (Le.refl H)
 have he:checkE p=0:=nf h;have hK:=hK he
 refine pvars_spec ha hv fun av nv cv H1 hle1 hrv=>?_
 have hnv:=hrv.n_eq;rw[List.length_map]at hnv
 have hvl:nv≤1000000:=by rw[hnv];exact vars_small he
 refine⟨none,?_⟩
 refine region_plan (α:=Option Addr×Nat×Nat) ?_ ?_
  (.two 5 6 (.two 6 8 (.one [2,3] [0,1,2,3,4,5,6,7,8,9]) (.two 5 8 (.one [2,3] [0,1,2,3,4,5,8,6,7,9]) (.one [2,3] [0,1,2,3,4,8,5,6,7,9])))
   (.two 5 8 (.one [2,3] [0,1,2,3,4,6,5,7,8,9]) (.two 6 8 (.one [2,3] [0,1,2,3,4,6,8,5,7,9]) (.one [2,3] [0,1,2,3,4,8,6,5,7,9]))))
  (fun q=>⟨[(1,.ptr 0 0),(2,.ptr 1 0),(5,.v (.int .i64 nv)),(6,.ptr 2 0)],
   [(0,.cells 24 [.v (.slice a n c)]),(1,.cells 106 (vL zSys)),(2,.cells 106 [.v (.int .i64 3),.v (.int .i64 nv),.v (.int .i64 n),.v (.slice q.1 q.2.1 q.2.2),.own 3,.v (.slice none 0 0),.v (.slice none 0 0)]),(3,.row 3 1 iRow0)],4⟩)
  (fun q H'=>Le H1 H'∧RL H' q.1 q.2.1 q.2.2 (gSort (edgesOf p))) (by kernel_rfl) ⟨⟨?_,?_,?_⟩,?_,?_,?_⟩ ?_
 ·exact⟨cx_ok.tt,cx_ok.eqs⟩
 ·exact cx_mix
 ·refine edges_spec hp (ha.up hle1) fun a2 n2 c2 H2 hle2 hr2=>?_
  refine⟨(a2,n2,c2),[(0,0),(1,1),(2,3),(3,2)],?_,hle2,hr2⟩
  (repeat' (first|exact trivial|refine⟨?_,?_⟩|exact rfl|assumption))
 ·refine edges_spec hp (ha.up hle1) fun a2 n2 c2 H2 hle2 hr2=>?_
  refine⟨(a2,n2,c2),[(0,0),(1,1),(2,2),(3,3)],?_,hle2,hr2⟩
  (repeat' (first|exact trivial|refine⟨?_,?_⟩|exact rfl|assumption))
 ·refine edges_spec hp (ha.up hle1) fun a2 n2 c2 H2 hle2 hr2=>?_
  refine⟨(a2,n2,c2),[(0,0),(1,1),(2,2),(3,3)],?_,hle2,hr2⟩
  (repeat' (first|exact trivial|refine⟨?_,?_⟩|exact rfl|assumption))
 ·refine edges_spec hp (ha.up hle1) fun a2 n2 c2 H2 hle2 hr2=>?_
  refine⟨(a2,n2,c2),[(0,0),(1,1),(2,3),(3,2)],?_,hle2,hr2⟩
  (repeat' (first|exact trivial|refine⟨?_,?_⟩|exact rfl|assumption))
 ·refine edges_spec hp (ha.up hle1) fun a2 n2 c2 H2 hle2 hr2=>?_
  refine⟨(a2,n2,c2),[(0,0),(1,1),(2,3),(3,2)],?_,hle2,hr2⟩
  (repeat' (first|exact trivial|refine⟨?_,?_⟩|exact rfl|assumption))
 ·refine edges_spec hp (ha.up hle1) fun a2 n2 c2 H2 hle2 hr2=>?_
  refine⟨(a2,n2,c2),[(0,0),(1,1),(2,2),(3,3)],?_,hle2,hr2⟩
  (repeat' (first|exact trivial|refine⟨?_,?_⟩|exact rfl|assumption))
 rintro⟨ae,ne,ce⟩ H2 _ ⟨hle2,hre⟩;dsimp only at hre
 refine⟨Nat,fun i=>⟨[(1,.ptr 0 0),(2,.ptr 1 0),(6,.ptr 2 0),(26,.v (.int .i64 nv)),(27,.v (.int .i64 i))],
   [(0,.cells 24 [.v (.slice a n c)]),(1,.cells 106 (vL zSys)),(2,.cells 106 [.v (.int .i64 3),.v (.int .i64 nv),.v (.int .i64 n),.v (.slice ae ne ce),.own 3,.own 4,.v (.slice none 0 0)]),(3,.row 3 1 iRow0),(4,.row 126 1 (uRows (List.replicate i two64)))],5⟩,
  fun i H'=>H'=H2∧i≤nv,fun i=>nv - i,⟨0,[(0,0),(1,1),(2,2),(3,3)],?_,rfl,Nat.zero_le _⟩,?_⟩
 ·(repeat' (first|exact trivial|refine⟨?_,?_⟩|exact rfl|assumption))
 rintro i H3 _ ⟨rfl,hi⟩
 have hil:(uRows (List.replicate i two64)).length=i:=by simp
 refine⟨fun h=>?_,fun h=>?_⟩
 ·have hlt:i<nv:=by have:=dt h;omega
  refine⟨some ([1000000,2,4,5],[0,1,2,3,4,5,6,7]),by kernel_rfl,?_⟩;refine kof_spec (a:=(0,0)) ?_;rw[kOf_zero];refine⟨⟨by show (_+1)*8≤140737488355328;rw[hil];omega,by show _+1≤9223372036854775807;rw[hil];omega⟩,?_⟩;refine⟨⟨by omega,by omega⟩,i+1,[(0,0),(1,1),(2,2),(3,3),(4,6)],?_,⟨rfl,hlt⟩,by dsimp only;omega⟩;have e:=(two_snoc i).symm
  (repeat' (first|exact trivial|refine⟨?_,?_⟩|exact rfl|assumption))
 have hil2:i=nv:=by have:=df h;omega
 rw[hil2]
 refine⟨Nat×List (List Value),fun q=>⟨[(1,.ptr 0 0),(2,.ptr 1 0),(6,.ptr 2 0),(38,.v (.slice a n c)),(39,.v (.int .i64 n)),(40,.v (.int .i64 q.1))],
   [(0,.cells 24 [.v (.slice a n c)]),(1,.cells 106 (vL zSys)),(2,.cells 106 [.v (.int .i64 3),.v (.int .i64 nv),.v (.int .i64 n),.v (.slice ae ne ce),.own 3,.own 4,.own 5]),(3,.row 3 1 iRow0),(4,.row 126 1 (uRows (List.replicate nv two64))),(5,.row 143 3 q.2)],6⟩,
  fun q H'=>Le H3 H'∧q.1≤p.length∧RC (α:=Tr3) H' q.2 (((sysOf p).T.map Tr3.mk).take q.1),fun q=>p.length - q.1,⟨(0,[]),[(0,0),(1,1),(2,2),(3,3),(4,4)],?_,Le.refl _,Nat.zero_le _,RC.nil⟩,?_⟩
 ·(repeat' (first|exact trivial|refine⟨?_,?_⟩|exact rfl|assumption))
 rintro⟨j,css⟩ H4 _ ⟨hle4,hj,hrc⟩;dsimp only at hj hrc;have hle:Le H H4:=(hle1.trans hle2).trans hle4
 have hTl:((sysOf p).T.map Tr3.mk).length=p.length:=by simp [sysOf]
 have hcl:css.length=j:=by have h1:=hrc.1;rw[List.length_take]at h1;omega
 refine⟨fun h=>?_,fun h=>?_⟩
 ·have hlt:j<p.length:=by have:=dt h;dsimp only at this;omega
  refine name_k p[j] fun b hbe=>?_
  have hbb:p[j]?=some b:=by rw[hbe];exact List.getElem?_eq_getElem hlt
  refine block_k (ha.up hle) hbb fun ad a5 n5 c5 q1 hh hr5 hs5 ht5=>?_
  refine⟨ad,⟨by dsimp only;omega,by dsimp only;omega,q1⟩,?_⟩;refine⟨_,hh,?_⟩;refine⟨some ([1000000,2,5,7],[0,1,2,3,4,5,6,7,8,9,10]),by kernel_rfl,?_⟩
  refine codes_spec hv (vars_small he) (hl b (by rw[hbe];exact List.getElem_mem hlt)) (ha.up hle) hr5 fun a6 n6 c6 H5 hle5 hr6=>?_
  refine⟨⟨by show (css.length+1)*72≤140737488355328;omega,by show css.length+1≤9223372036854775807;omega⟩,?_⟩
  have hrc2:RC (α:=Tr3) H5 (css++[[.slice none 0 0,.slice none 0 0,.slice a6 n6 c6]]) (((sysOf p).T.map Tr3.mk).take (j+1)):=by
   rw[sysT_take hbb];exact tr_snoc (RC.up hrc hle5) hr6
  refine⟨⟨by omega,by omega⟩,(j+1,css++[[.slice none 0 0,.slice none 0 0,.slice a6 n6 c6]]),[(0,0),(1,1),(2,2),(3,3),(4,4),(5,8)],?_,⟨hle4.trans hle5,hlt,hrc2⟩,by dsimp only;omega⟩
  (repeat' (first|exact trivial|refine⟨?_,?_⟩|exact rfl|assumption))
 ·have hjl:j=p.length:=by have:=df h;dsimp only at this;omega
  rw[hjl,List.take_of_length_le (by omega)]at hrc;intro v1 H5 hle5 hv1
  refine ints_k hv1 fun na nn nc ev1 hr1=>?_
  subst ev1;intro v2 H6 hle6 hv2
  refine of_row_k (α:=UInt64) hv2 rc_w fun ia ni ic ev2 hr2=>?_
  subst ev2;intro v3 H7 hle7 hv3;have h57:=(hle5.le.trans hle6.le).trans hle7.le
  refine of_row_k (α:=Tr3) hv3 (RC.up hrc h57) fun ta tn tc ev3 hr3=>?_
  subst ev3
  have hsys:SysR H7 (sysOf p) ⟨ae,ne,ce,na,nn,nc,ia,ni,ic,ta,tn,tc⟩:=by
   refine⟨hre.up (hle4.trans h57),hr1.up (hle6.le.trans hle7.le),?_,hr3⟩
   have e:(sysOf p).ini=List.replicate nv two64:=by rw[hnv];rfl
   rw[e];exact hr2.up hle7.le
  have hK:=hK ⟨ae,ne,ce,na,nn,nc,ia,ni,ic,ta,tn,tc⟩ H7 (hle.trans h57) hsys;have e1:(sysOf p).w=nv:=hnv.symm;have e2:(sysOf p).m=n:=hn.symm;rw[sysA,sysV,e1,e2]at hK;exact hK
end Go.Proofs
end
section
namespace Go.Proofs
open Go.Sy
set_option maxRecDepth 20000
set_option maxHeartbeats 4000000
theorem refOf_ok (p:Prog) (a:Atm):okR (varsOf p).length (refOf p a):=by
 have h1:=vIdx_range p a.1.l;unfold refOf;split
 ·rename_i h0;exact .inr ⟨h0,by dsimp only;omega,rfl⟩
 ·exact .inl ⟨rfl,wrp_wrp _,wrp_wrp _⟩
theorem exprB_op {x:Expr} (h:exprB x=true):0≤x.1∧x.1≤4:=by
 unfold exprB at h;split at h
 ·rename_i h1;simp only[op1,Bool.or_eq_true,decide_eq_true_eq]at h1;omega
 ·split at h
  ·rename_i h1;simp only[op2,Bool.or_eq_true,decide_eq_true_eq]at h1;omega
  ·cases h
theorem codeOf_ok {p:Prog} {s:Stmt} (h:stmtB s=true):∀c∈codeOf p s,okC (varsOf p).length c:=by
 have h1:=vIdx_range p s.2.1.l;intro c hc;unfold codeOf at hc;split at hc
 ·cases hc
 ·rename_i h0
  have hr:0≤vIdx p s.2.1.l∧vIdx p s.2.1.l<((varsOf p).length:Nat):=by omega
  split at hc
  ·rename_i h2;rw[stmtB,if_pos h2,Bool.and_eq_true]at h;have h3:=exprB_op h.2;rw[List.mem_singleton]at hc;rw[hc];exact⟨hr.1,hr.2,.inr ⟨h3.1,h3.2,refOf_ok p _,refOf_ok p _⟩⟩
  ·split at hc
   ·rw[List.mem_singleton]at hc;rw[hc];exact⟨hr.1,hr.2,.inl ⟨rfl,rfl,rfl⟩⟩
   ·cases hc
theorem codesOf_ok {p:Prog} {l:List Stmt} (h:∀s∈l,stmtB s=true):okL (varsOf p).length (codesOf p l):=by
 intro c hc;obtain⟨s,hs,h1⟩:=List.mem_flatMap.1 hc;exact codeOf_ok (h s hs) c h1
theorem check_facts {p:Prog} (h:checkE p=0):1≤p.length∧p.length≤128∧(varsOf p).length≤64∧∀b∈p,blockB b=true:=by
 unfold checkE at h;split at h
 ·cases h
 ·rename_i h0;split at h
  ·rename_i h1;split at h
   ·cases h
   ·refine⟨by omega,by omega,by omega,fun b hb=>List.all_eq_true.1 h1 b hb⟩
  ·cases h
theorem block_stmts {b:Block} (h:blockB b=true):∀s∈b.2.1,stmtB s=true:=by
 rw[blockB,Bool.and_eq_true]at h
 exact fun s hs=>List.all_eq_true.1 h.2 s hs
theorem eN_lt {p:Prog} {i:Nat} {t:Bs8}:∀e∈eN p i t,e.1=(i:Int)∧0≤e.2∧e.2<(p.length:Nat):=by
 intro e he;unfold eN at he;have hr:=idxS_range t (nms p) 0 (by omega);rw[List.length_map]at hr;split at he
 ·rename_i h0;simp only[List.mem_cons,List.not_mem_nil,or_false]at he;subst he;exact⟨rfl,h0,by dsimp only;omega⟩
 ·simp at he
theorem eB_lt {p:Prog} {i:Nat} {b:Block}:∀e∈eB p i b,e.1=(i:Int)∧0≤e.2∧e.2<(p.length:Nat):=by
 intro e he;unfold eB at he
 rcases List.mem_append.1 he with he | he
 ·split at he
  ·exact eN_lt e he
  ·cases he
 ·split at he
  ·exact eN_lt e he
  ·cases he
theorem eAll_lt {p:Prog}:∀(l:List Block) (i:Nat),∀e∈eAll p l i,((i:Int)≤e.1∧e.1<((i+l.length:Nat):Int))∧0≤e.2∧e.2<(p.length:Nat)
 | [],_,e,he=>by simp [eAll]at he
 | b::r,i,e,he=>by
  rw[eAll]at he
  rcases List.mem_append.1 he with he | he
  ·have h:=eB_lt e he;rw[List.length_cons];exact⟨⟨by omega,by omega⟩,h.2⟩
  ·have h:=eAll_lt r (i+1) e he;rw[List.length_cons];exact⟨⟨by omega,by omega⟩,h.2⟩
theorem two_is:kIs (two64).toNat=true:=by decide
theorem sysOf_ok {p:Prog} (h:checkE p=0):OkS (sysOf p):=by
 have hf:=check_facts h;refine⟨?_,?_,?_,?_,?_,?_,?_,?_⟩
 ·show (varsOf p).length≤1024;omega
 ·show 1≤p.length∧p.length≤256;omega
 ·show (gSort (edgesOf p)).length≤1024;have h1:=gSort_len (edgesOf p);have h2:=eAll_len p p 0;rw[edgesOf]at h1 ⊢;omega
 ·intro e he;have he:e∈edgesOf p:=(gSort_mem _ _).1 he;have h1:=eAll_lt p 0 e he;show (0≤e.1∧e.1<(p.length:Nat))∧0≤e.2∧e.2<(p.length:Nat);omega
 ·intro v hv;have hv:v∈[(0:Int)]:=hv;rw[List.mem_singleton]at hv;rw[hv];show 0≤(0:Int)∧(0:Int)<(p.length:Nat);omega
 ·refine⟨List.length_replicate,fun w hw=>?_⟩;have hw:w∈List.replicate (varsOf p).length two64:=hw;rw[(List.mem_replicate.1 hw).2];exact two_is
 ·exact List.length_map _
 ·intro t ht
  have ht:t∈p.map fun b=>codesOf p b.2.1:=ht
  obtain⟨b,hb,rfl⟩:=List.mem_map.1 ht;exact codesOf_ok (block_stmts (hf.2.2.2 b hb))
theorem sys_t {p:Prog} {i:Nat} {b:Block} (h:p[i]?=some b):tAt (sysOf p) i=codesOf p b.2.1:=by
 have e:(sysOf p).T[i]?=some (codesOf p b.2.1):=by
  show (p.map fun b=>codesOf p b.2.1)[i]?=_
  rw[List.getElem?_map,h];rfl
 rw[tAt,e];rfl
end Go.Proofs
end
section
namespace Go.Proofs
open Go.Sy
set_option maxRecDepth 20000
set_option maxHeartbeats 4000000
end Go.Proofs
end
section
namespace Go.Proofs
open Go.Sy
set_option maxRecDepth 20000
set_option maxHeartbeats 4000000
theorem sets_spec {p:Prog} (hp:p.length≤12) (hl:∀b∈p,b.2.1.length≤1000000) (hc:stmtsN p≤1000000) (hv:cnt p<400000) {a:Option Addr} {n c:Nat} {H:Hp} {K:Value→Hp→Prop} (ha:RL H a n c p)
  (hbad:checkE p≠0→∀H',Le H H'→K (.tuple #[.slice none 0 0,.slice none 0 0,.int .i64 (checkE p)]) H')
  (hK:checkE p=0→∀a1 n1 c1 a2 n2 c2 H',Le H H'→RL H' a1 n1 c1 (solveS (sysOf p))→RL H' a2 n2 c2 (outsS (sysOf p) (solveS (sysOf p)))→K (.tuple #[.slice a1 n1 c1,.slice a2 n2 c2,.int .i64 0]) H'):
  Does Tryz.prog 112 [.agg #[.slice a n c]] H K:=by
 refine spec_of cx_ok cx_mix rfl Tryz.func112 Tryz.call112 Tryz.ntmps112 Tryz.results112 rfl rfl ?_;refine psys_spec hp hl hc hv ha (fun he H1 hle1=>?_) (fun he z H1 hle1 hs=>?_)
 ·refine⟨fun _=>?_,(fun h=>absurd (nf h) he)⟩;exact hbad he _ hle1
 ·have ho:=sysOf_ok he;refine⟨(fun h=>absurd rfl (nt h)),fun _=>?_⟩
  refine lsolve_spec ho hs fun a1 n1 c1 k H2 hle2 hr2=>?_
  refine louts_spec ho (solveS_ok ho) (hs.up hle2) hr2 fun a2 n2 c2 H3 hle3 hr3=>?_
  exact hK he _ _ _ _ _ _ _ ((hle1.trans hle2).trans hle3) (hr2.up hle3) hr3
theorem at_spec {p:Prog} (hp:p.length≤12) (hl:∀b∈p,b.2.1.length≤1000000) (hc:stmtsN p≤1000000) (hv:cnt p<400000) {a:Option Addr} {n c:Nat} {i j:Int} {H:Hp} {K:Value→Hp→Prop} (ha:RL H a n c p)
  (hbad:checkE p≠0→∀H',Le H H'→K (.tuple #[.slice none 0 0,.int .i64 (checkE p)]) H')
  (hout:checkE p=0→(¬(0≤i∧0≤j∧∃b,p[i.toNat]?=some b∧i<(p.length:Nat)∧j≤(b.2.1.length:Nat)))→∀H',Le H H'→K (.tuple #[.slice none 0 0,.int .i64 1]) H')
  (hK:checkE p=0→∀b,p[i.toNat]?=some b→0≤i→0≤j→j≤(b.2.1.length:Nat)→i<(p.length:Nat)→∀a1 n1 c1 H',Le H H'→RL H' a1 n1 c1 (vApp (codesOf p (b.2.1.take j.toNat)) (aAt (solveS (sysOf p)) i.toNat))→K (.tuple #[.slice a1 n1 c1,.int .i64 0]) H'):
  Does Tryz.prog 114 [.agg #[.slice a n c],.int .i64 i,.int .i64 j] H K:=by
 have hn:=ha.n_eq;have hmx:=ha.le;refine spec_of cx_ok cx_mix rfl Tryz.func114 Tryz.call114 Tryz.ntmps114 Tryz.results114 rfl rfl ?_;refine sets_spec hp hl hc hv ha (fun he H1 hle1=>?_) (fun he a1 n1 c1 a2 n2 c2 H1 hle1 hr1 hr2=>?_)
 ·refine⟨fun _=>?_,(fun h=>absurd (nf h) he)⟩;exact hbad he _ hle1
 have ho:=sysOf_ok he;have hA:=solveS_ok ho;have hn1:=hr1.n_eq;rw[hA.len]at hn1;have hm:(sysOf p).m=p.length:=rfl;refine⟨(fun h=>absurd rfl (nt h)),fun _=>?_⟩;refine⟨fun h0=>?f0,fun h0=>?t0⟩
 case t0=>exact hout he (fun h=>absurd (dt h0) (by omega)) _ hle1
 refine⟨fun h1=>?f1,fun h1=>?t1⟩
 case t1=>exact hout he (fun h=>h.2.2.elim fun b hb=>absurd (dt h1) (by omega)) _ hle1
 refine⟨fun h2=>?f2,fun h2=>?t2⟩
 case t2=>exact hout he (fun h=>absurd (dt h2) (by omega)) _ hle1
 have h0:=df h0;have h1:=df h1;have h2:=df h2
 have hlt:i.toNat<p.length:=by omega
 refine name_k p[i.toNat] fun b hbe=>?_
 have hbb:p[i.toNat]?=some b:=by rw[hbe];exact List.getElem?_eq_getElem hlt
 have hok:=check_facts he
 refine block_kI (ha.up hle1) (by omega) hbb fun ad a5 n5 c5 q1 hh hr5 hs5 ht5=>?_
 have hn5:=hr5.n_eq;refine⟨ad,⟨by omega,by omega,q1⟩,?_⟩;refine⟨_,hh,?_⟩;refine⟨fun h3=>?t3,fun h3=>?f3⟩
 case t3 =>
  refine hout he (fun h=>h.2.2.elim fun b' hb'=>?_) _ hle1;have hb:=hb'.1;rw[hbb]at hb;cases hb;exact absurd (dt h3) (by omega)
 have h3:=df h3;have hAi:(solveS (sysOf p))[i.toNat]?=some (aAt (solveS (sysOf p)) i.toNat):=aAt_get hA (by rw[hm];exact hlt);have hAo:=aAt_ok hA (v:=i.toNat) (by rw[hm];exact hlt);have ei:((i.toNat:Nat):Int)=i:=Int.toNat_of_nonneg (by omega)
 refine list_k hr1 hAi fun ad2 a6 n6 c6 q2 hh2 hr6=>?_
 rw[ei]at hh2;have hn6:=hr6.n_eq;rw[hAo.1]at hn6;refine⟨some ([],[0,1,2,3,4,5,6,7,8,9,10,11,12,13,16,17,18,19,14,15,20,21,22,23,24]),by kernel_rfl,?_⟩;refine⟨ad2,⟨by omega,by omega,q2⟩,?_⟩;refine⟨_,hh2,?_⟩;refine⟨ad,⟨by omega,by omega,q1⟩,?_⟩;refine⟨_,hh,?_⟩
 have hj0:j.toNat≤n5:=by omega
 have hcut:=hr5.cut (l:=0) (k:=j.toNat) (Nat.zero_le _) hj0;have hbl:=hl b (by rw[hbe];exact List.getElem_mem hlt)
 have hlt2:((b.2.1.take j.toNat).drop 0).length≤1000000:=by rw[List.drop_zero,List.length_take];omega
 refine⟨⟨by omega,by omega,by have:=hr5.2.1;omega⟩,?_⟩;refine⟨ad2,⟨by omega,by omega,q2⟩,?_⟩;refine⟨_,hh2,?_⟩
 refine codes_spec hv (vars_small he) hlt2 (ha.up hle1) hcut fun a7 n7 c7 H2 hle2 hr7=>?_
 rw[List.drop_zero]at hr7;have hr6:=hr6.up hle2;rw[hn6]at hr6 ⊢
 refine tapply_spec (sysOf_ok he).w hAo (codesOf_ok (fun s hs=>block_stmts (hok.2.2.2 b (List.mem_of_getElem? hbb)) s (List.mem_of_mem_take hs))) hr6 hr7 fun a8 n8 c8 H3 hle3 hr8=>?_
 exact hK he b hbb (by omega) (by omega) (by omega) (by omega) _ _ _ _ ((hle1.trans hle2).trans hle3) hr8
end Go.Proofs
end
section
namespace Go.Proofs
open Go.Sy
set_option maxRecDepth 20000
set_option maxHeartbeats 4000000
def nAt (op:Int):Nat:=if op=0∨op=4 then 1 else if op=1∨op=2∨op=3 then 2 else 0
theorem atomsOf_len (x:Expr):(atomsOf x).length=nAt x.1:=by
 unfold atomsOf nAt op1 op2
 by_cases h0:x.1=0∨x.1=4
 ·rw[if_pos h0,if_pos (by simpa using h0)];rfl
 ·rw[if_neg h0,if_neg (by simpa using h0)]
  by_cases h1:x.1=1∨x.1=2∨x.1=3
  ·rw[if_pos h1,if_pos (by simpa [or_assoc] using h1)];rfl
  ·rw[if_neg h1,if_neg (by simpa [or_assoc] using h1)];rfl
theorem vatoms_spec {x:Expr} (hx:exprR x) {H:Hp} {K:Value→Hp→Prop} (hK:∀a c H',Le H H'→K (.slice a (nAt x.1) c) H'):Does Tryz.prog 49 [exprA x] H K:=by
 refine patoms_spec hx fun a n c H' hle hr=>?_
 have hn:=hr.n_eq;rw[atomsOf_len]at hn;rw[hn];exact hK _ _ _ hle
def foldA (p:Prog) (known:List UInt64) (a:Atm):Atm :=
 let i:=idxS a.1.l (varsOf p) 0
 if 0≤i∧i<known.length then (match kNum (known[i.toNat]?.getD 0).toNat with
  | some n=>(⟨[]⟩,n)
  | none=>a) else a
theorem kNum_R {w:Nat} {n:Nm} (h:kNum w=some n):i64R n.1∧i64R n.2:=by
 unfold kNum at h;split at h
 ·simp only[Option.some.injEq]at h;subst h;exact⟨⟨by have:=wrp_le ((w / 4 % 65536:Nat):Int);dsimp only;omega,by have:=wrp_le ((w / 4 % 65536:Nat):Int);dsimp only;omega⟩,⟨by have:=wrp_le ((w / 4 / 65536:Nat):Int);dsimp only;omega,by have:=wrp_le ((w / 4 / 65536:Nat):Int);dsimp only;omega⟩⟩
 ·cases h
theorem foldA_R {p:Prog} {known:List UInt64} {x:Atm} (h:atmR x):atmR (foldA p known x):=by
 unfold foldA;dsimp only;split
 ·split
  ·rename_i n hn;exact⟨Nat.zero_le _,(kNum_R hn).1,(kNum_R hn).2⟩
  ·exact h
 ·exact h
theorem vatom_spec {p:Prog} {known:List UInt64} {x:Atm} {a ka:Option Addr} {n c kn kc:Nat} {H:Hp} {K:Value→Hp→Prop} (ha:RL H a n c p) (hk:RL H ka kn kc known) (hc:cnt p<400000)
  (hK:∀H',Le H H'→K (atmA (foldA p known x)) H'):Does Tryz.prog 116 [.agg #[.slice a n c],.slice ka kn kc,atmA x] H K:=by
 refine spec_of cx_ok cx_mix rfl Tryz.func116 Tryz.call116 Tryz.ntmps116 Tryz.results116 rfl rfl ?_
 refine var_spec ha hc fun H1 hle1=>?_
 have hK:=hK _ (Le.refl H);have hrg:=idxS_range x.1.l (varsOf p) 0 (by omega);have hkn:=hk.n_eq;unfold foldA at hK
 obtain⟨i,hi⟩:∃i,i=idxS x.1.l (varsOf p) 0:=⟨_,rfl⟩
 rw[←hi]at hK hrg ⊢;refine⟨fun h=>?_,fun h=>?_⟩
 ·have h0:0≤i:=nf h
  have e0:max i 0=i:=by omega
  refine⟨fun h=>?_,fun h=>?_⟩
  ·have h1:=dt h;rw[e0]at h1;simp only[show ¬(0≤i∧i<(known.length:Int)) by omega,if_false]at hK;exact hK
  ·have h1:=df h;rw[e0]at h1
   have hlt:i.toNat<known.length:=by omega
   have hx:=List.getElem?_eq_getElem hlt;simp only[show (0≤i∧i<(known.length:Int)) by omega,and_self,if_true,hx,Option.getD_some]at hK;have hel:=hk.elem hx;obtain⟨ad,cs,e1,hh,r1⟩:=hel;have hcs:cs=[.int .u64 known[i.toNat].toNat]:=r1;rw[hcs]at hh
   have e2:((i.toNat:Nat):Int)=max i 0:=by omega
   rw[e2]at hh;refine⟨ad,⟨by omega,by omega,e1⟩,?_⟩;refine⟨_,hh,?_⟩
   cases hm:kNum known[i.toNat].toNat with
   | none =>
    rw[hm]at hK;refine knum_spec known[i.toNat].toNat_lt ?_;rw[hm];exact⟨fun _=>hK,fun h=>by cases h⟩
   | some n =>
    rw[hm]at hK;refine knum_spec known[i.toNat].toNat_lt ?_;rw[hm];exact⟨(fun h=>by cases h),fun _=>hK⟩
 ·have h0:¬0≤i:=fun hh=>by rw[decide_eq_true hh]at h;cases h
  simp only[show ¬(0≤i∧i<(known.length:Int)) by omega,if_false]at hK;exact hK
theorem change_spec {p:Prog} {known:List UInt64} {x:Expr} {a ka:Option Addr} {n c kn kc:Nat} {b:Bool} {H:Hp} {K:SV→St→Hp→Prop} (ha:RL H a n c p) (hk:RL H ka kn kc known) (hc:cnt p<400000)
  (hK:∀b',b'=(b&&decide ((foldA p known x.2.1).1.l=[]))→K (.tup []) ⟨[],[(0,.cells 59 (vL (exprV (x.1,foldA p known x.2.1,x.2.2)))),(1,.cells 24 [.v (.slice a n c)]),(2,.cells 103 [.v (.slice ka kn kc)]),(3,.cells 4 [.kb b'])],4⟩ H):
  DoesG Tryz.prog 231 [.ptr 0 1,.ptr 1 0,.ptr 2 0,.ptr 3 0] [(0,.cells 59 (vL (exprV x))),(1,.cells 24 [.v (.slice a n c)]),(2,.cells 103 [.v (.slice ka kn kc)]),(3,.cells 4 [.kb b])] 4 H K:=by
 refine spec_ofG cx_ok cx_mix Tryz.func231 Tryz.call231 Tryz.ntmps231 Tryz.results231 rfl rfl ?_;refine⟨some ([0],[0,1,2,3,4,5,6,7,8]),by kernel_rfl,?_⟩
 refine vatom_spec ha hk hc fun H1 hle1=>?_
 obtain⟨y,hy⟩:∃y,y=foldA p known x.2.1:=⟨_,rfl⟩
 rw[←hy]at hK ⊢
 cases b with
 | true =>
  exact⟨.tup [],[(0,.cells 59 (vL (exprV (x.1,y,x.2.2)))),(1,.cells 24 [.v (.slice a n c)]),(2,.cells 103 [.v (.slice ka kn kc)]),(3,.cells 4 [.kb (decide (y.1.l=[]))])],4,[(0,0),(1,1),(2,2),(3,3)],
   ⟨⟨⟨rfl,rfl⟩,trivial⟩,⟨⟨rfl,rfl,rfl,rfl,rfl,rfl,rfl,trivial⟩,⟨rfl,trivial⟩,⟨rfl,trivial⟩,⟨rfl,trivial⟩,trivial⟩⟩,hK _ rfl⟩
 | false =>
  exact⟨.tup [],[(0,.cells 59 (vL (exprV (x.1,y,x.2.2)))),(1,.cells 24 [.v (.slice a n c)]),(2,.cells 103 [.v (.slice ka kn kc)]),(3,.cells 4 [.kb false])],4,[(0,0),(1,1),(2,2),(3,3)],
   ⟨⟨⟨rfl,rfl⟩,trivial⟩,⟨⟨rfl,rfl,rfl,rfl,rfl,rfl,rfl,trivial⟩,⟨rfl,trivial⟩,⟨rfl,trivial⟩,⟨rfl,trivial⟩,trivial⟩⟩,hK _ rfl⟩
theorem change2_spec {p:Prog} {known:List UInt64} {x:Expr} {a ka:Option Addr} {n c kn kc:Nat} {b:Bool} {H:Hp} {K:SV→St→Hp→Prop} (ha:RL H a n c p) (hk:RL H ka kn kc known) (hc:cnt p<400000)
  (hK:∀b',b'=(b&&decide ((foldA p known x.2.2).1.l=[]))→K (.tup []) ⟨[],[(0,.cells 59 (vL (exprV (x.1,x.2.1,foldA p known x.2.2)))),(1,.cells 24 [.v (.slice a n c)]),(2,.cells 103 [.v (.slice ka kn kc)]),(3,.cells 4 [.kb b'])],4⟩ H):
  DoesG Tryz.prog 231 [.ptr 0 4,.ptr 1 0,.ptr 2 0,.ptr 3 0] [(0,.cells 59 (vL (exprV x))),(1,.cells 24 [.v (.slice a n c)]),(2,.cells 103 [.v (.slice ka kn kc)]),(3,.cells 4 [.kb b])] 4 H K:=by
 refine spec_ofG cx_ok cx_mix Tryz.func231 Tryz.call231 Tryz.ntmps231 Tryz.results231 rfl rfl ?_;refine⟨some ([0],[0,1,2,3,4,5,6,7,8]),by kernel_rfl,?_⟩
 refine vatom_spec ha hk hc fun H1 hle1=>?_
 obtain⟨y,hy⟩:∃y,y=foldA p known x.2.2:=⟨_,rfl⟩
 rw[←hy]at hK ⊢
 cases b with
 | true =>
  exact⟨.tup [],[(0,.cells 59 (vL (exprV (x.1,x.2.1,y)))),(1,.cells 24 [.v (.slice a n c)]),(2,.cells 103 [.v (.slice ka kn kc)]),(3,.cells 4 [.kb (decide (y.1.l=[]))])],4,[(0,0),(1,1),(2,2),(3,3)],
   ⟨⟨⟨rfl,rfl⟩,trivial⟩,⟨⟨rfl,rfl,rfl,rfl,rfl,rfl,rfl,trivial⟩,⟨rfl,trivial⟩,⟨rfl,trivial⟩,⟨rfl,trivial⟩,trivial⟩⟩,hK _ rfl⟩
 | false =>
  exact⟨.tup [],[(0,.cells 59 (vL (exprV (x.1,x.2.1,y)))),(1,.cells 24 [.v (.slice a n c)]),(2,.cells 103 [.v (.slice ka kn kc)]),(3,.cells 4 [.kb false])],4,[(0,0),(1,1),(2,2),(3,3)],
   ⟨⟨⟨rfl,rfl⟩,trivial⟩,⟨⟨rfl,rfl,rfl,rfl,rfl,rfl,rfl,trivial⟩,⟨rfl,trivial⟩,⟨rfl,trivial⟩,⟨rfl,trivial⟩,trivial⟩⟩,hK _ rfl⟩
def foldE (p:Prog) (known:List UInt64) (x:Expr):Expr :=
 let y1:=if 0<nAt x.1 then foldA p known x.2.1 else x.2.1
 let y2:=if 1<nAt x.1 then foldA p known x.2.2 else x.2.2
 if 0<nAt x.1∧y1.1.l=[]∧(nAt x.1=1∨y2.1.l=[]) then (0,(⟨[]⟩,nOp x.1 y1.2 y2.2),(⟨[]⟩,(0,0))) else (x.1,y1,y2)
theorem nAt_is (op:Int):opIs op=decide (0<nAt op):=by
 unfold opIs nAt
 by_cases h:op=0∨op=4
 ·rw[if_pos h];exact decide_eq_true (by omega)
 ·rw[if_neg h]
  by_cases h':op=1∨op=2∨op=3
  ·rw[if_pos h'];exact decide_eq_true (by omega)
  ·rw[if_neg h'];exact decide_eq_false (by omega)
theorem vexpr_spec {p:Prog} {known:List UInt64} {x:Expr} (hx:exprR x) {a ka:Option Addr} {n c kn kc:Nat} {H:Hp} {K:Value→Hp→Prop} (ha:RL H a n c p) (hk:RL H ka kn kc known) (hc:cnt p<400000)
  (hK:∀H',Le H H'→K (exprA (foldE p known x)) H'):Does Tryz.prog 175 [.agg #[.slice a n c],.slice ka kn kc,exprA x] H K:=by
 refine spec_of cx_ok cx_mix rfl Tryz.func175 Tryz.call175 Tryz.ntmps175 Tryz.results175 rfl rfl ?_;have hop:=nAt_is x.1
 refine vatoms_spec hx fun a1 c1 H1 hle1=>?_
 refine⟨fun h=>?_,fun h=>?_⟩
 ·have h0:0<nAt x.1:=by have:=dt h;omega
  refine⟨[2,0,1,4],rfl,?_⟩
  refine change_spec (ha.up hle1) (hk.up hle1) hc fun b hb=>?_
  obtain⟨y1,hy1⟩:∃y,y=foldA p known x.2.1:=⟨_,rfl⟩
  rw[←hy1]at hb ⊢
  refine vatoms_spec (x:=(x.1,y1,x.2.2)) ⟨hx.1,by rw[hy1];exact foldA_R hx.2.1,hx.2.2⟩ fun a2 c2 H2 hle2=>?_
  have hK:=hK _ (hle1.trans hle2);refine⟨fun h=>?_,fun h=>?_⟩
  ·have h1:1<nAt x.1:=by have:=dt h;simp only at this;omega
   refine⟨[2,0,1,4],rfl,?_⟩
   refine change2_spec (x:=(x.1,y1,x.2.2)) (ha.up (hle1.trans hle2)) (hk.up (hle1.trans hle2)) hc fun b' hb'=>?_
   refine gop_spec (a:=y1.2) (b:=(foldA p known x.2.2).2) ?_;rw[hop,decide_eq_true h0]
   have hE:foldE p known x=if y1.1.l=[]∧(foldA p known x.2.2).1.l=[] then (0,(⟨[]⟩,nOp x.1 y1.2 (foldA p known x.2.2).2),(⟨[]⟩,(0,0))) else (x.1,y1,foldA p known x.2.2):=by
    unfold foldE;simp only[h0,h1,if_true,←hy1,true_and,show ¬nAt x.1=1 by omega,false_or]
   rw[hE]at hK
   cases b' with
   | true =>
    have hb2:y1.1.l=[]∧(foldA p known x.2.2).1.l=[]:=by rw[hb]at hb';simpa using hb'.symm
    rw[if_pos hb2]at hK;exact⟨(fun h=>by cases h),fun _=>hK⟩
   | false =>
    have hb2:¬(y1.1.l=[]∧(foldA p known x.2.2).1.l=[]):=by
     rw[hb]at hb';intro hh;simp [hh.1,hh.2]at hb'
    rw[if_neg hb2]at hK;exact hK
  ·have h1:¬1<nAt x.1:=by have:=df h;simp only at this;omega
   refine gop_spec (a:=y1.2) (b:=x.2.2.2) ?_;rw[hop,decide_eq_true h0]
   have hE:foldE p known x=if y1.1.l=[] then (0,(⟨[]⟩,nOp x.1 y1.2 x.2.2.2),(⟨[]⟩,(0,0))) else (x.1,y1,x.2.2):=by
    have hn1:nAt x.1=1:=by omega
    unfold foldE;rw[hn1,←hy1];simp only[show (0:Nat)<1 by decide,show ¬(1:Nat)<1 by decide,if_true,if_false,true_and,true_or,and_true]
   rw[hE]at hK
   cases b with
   | true =>
    have hb2:y1.1.l=[]:=by simpa using hb.symm
    rw[if_pos hb2]at hK;exact⟨(fun h=>by cases h),fun _=>hK⟩
   | false =>
    have hb2:¬y1.1.l=[]:=by
     intro hh;simp [hh]at hb
    rw[if_neg hb2]at hK;exact hK
 ·have h0:¬0<nAt x.1:=by have:=df h;omega
  have hE:foldE p known x=x:=by
   unfold foldE;simp only[h0,show ¬1<nAt x.1 by omega,if_false,false_and]
  refine vatoms_spec hx fun a2 c2 H2 hle2=>?_
  have hK:=hK _ (hle1.trans hle2);rw[hE]at hK;refine⟨fun h=>?_,fun h=>?_⟩
  ·have:=dt h;omega
  ·refine gop_spec (a:=x.2.1.2) (b:=x.2.2.2) ?_;rw[hop,decide_eq_false h0];exact⟨fun _=>hK,fun h=>by cases h⟩
end Go.Proofs
end
section
namespace Go.Proofs
open Go.Sy
set_option maxRecDepth 20000
set_option maxHeartbeats 4000000
theorem stmt_mk {H:Hp} {s:Stmt} (h:stmtR s):Enc.R H (.int .i64 s.1 :: .string (bs s.2.1.l) :: .int .i64 s.2.2.1::(atmV s.2.2.2.1++atmV s.2.2.2.2)) s :=
 ⟨[.int .i64 s.1],_,rfl,⟨rfl,h.1⟩,[.string (bs s.2.1.l)],_,rfl,⟨rfl,h.2.1⟩,[.int .i64 s.2.2.1],atmV s.2.2.2.1++atmV s.2.2.2.2,rfl,⟨rfl,h.2.2.1⟩,atmV s.2.2.2.1,atmV s.2.2.2.2,rfl,atm_mk h.2.2.2.1,atm_mk h.2.2.2.2⟩
end Go.Proofs
end
section
namespace Go.Proofs
open Go.Sy
set_option maxRecDepth 20000
set_option maxHeartbeats 4000000
theorem nOf_R (a:Nm):i64R (nOf a).1∧i64R (nOf a).2:=by
 have h1:=wrp_le a.1;have h2:=wrp_le a.2;exact⟨⟨by show _≤wrp a.1;omega,by show wrp a.1≤_;omega⟩,⟨by show _≤wrp a.2;omega,by show wrp a.2≤_;omega⟩⟩
theorem nOp_R (op:Int) (a b:Nm):i64R (nOp op a b).1∧i64R (nOp op a b).2:=by
 unfold nOp
 repeat' split
 all_goals first | exact nOf_R _ | exact⟨⟨by decide,by decide⟩,⟨by decide,by decide⟩⟩
theorem ze_R:atmR (⟨[]⟩,0,0):=⟨Nat.zero_le _,⟨by decide,by decide⟩,⟨by decide,by decide⟩⟩
theorem zero_R:i64R 0:=⟨by decide,by decide⟩
theorem foldE_R {p:Prog} {known:List UInt64} {x:Expr} (h:exprR x):exprR (foldE p known x):=by
 have h1:atmR (if 0<nAt x.1 then foldA p known x.2.1 else x.2.1):=by
  split
  ·exact foldA_R h.2.1
  ·exact h.2.1
 have h2:atmR (if 1<nAt x.1 then foldA p known x.2.2 else x.2.2):=by
  split
  ·exact foldA_R h.2.2
  ·exact h.2.2
 have key:∀(y1 y2:Atm),atmR y1→atmR y2→∀(c:Prop) [Decidable c],exprR (if c then (0,(⟨[]⟩,nOp x.1 y1.2 y2.2),(⟨[]⟩,(0,0))) else (x.1,y1,y2)):=fun y1 y2 h1 h2 c _=>by
  split
  ·exact⟨zero_R,⟨Nat.zero_le _,(nOp_R _ _ _).1,(nOp_R _ _ _).2⟩,ze_R⟩
  ·exact⟨h.1,h1,h2⟩
 exact key _ _ h1 h2 _
theorem has0_cons (x:UInt64) (r:Wd):has0 (x::r)=(decide (x.toNat=0)||has0 r):=rfl
def foldS (p:Prog) (known:List UInt64) (s:Stmt):Stmt:=if s.1=1∨s.1=3 then (s.1,s.2.1,foldE p known s.2.2) else s
theorem foldS_R {p:Prog} {known:List UInt64} {s:Stmt} (h:stmtR s):stmtR (foldS p known s):=by
 unfold foldS;split
 ·exact⟨h.1,h.2.1,foldE_R h.2.2⟩
 ·exact h
theorem never_spec {l:Wd} {a:Option Addr} {n c:Nat} {H:Hp} {K:Value→Hp→Prop} (ha:RL H a n c l) (hK:K (.bool (has0 l)) H):Does Tryz.prog 113 [.slice a n c] H K:=by
 have hn:=ha.n_eq;have hmx:=ha.le;refine spec_of cx_ok cx_mix rfl Tryz.func113 Tryz.call113 Tryz.ntmps113 Tryz.results113 rfl rfl ?_
 refine⟨Nat,fun i=>⟨[(5,.v (.slice a n c)),(6,.v (.int .i64 n)),(7,.v (.int .i64 i))],[],0⟩,
  fun i H'=>H'=H∧i≤l.length∧has0 l=has0 (l.drop i),fun i=>l.length - i,⟨0,[],?_,rfl,Nat.zero_le _,rfl⟩,?_⟩
 ·(repeat' (first|exact trivial|refine⟨?_,?_⟩|exact rfl|assumption))
 rintro i H1 _ ⟨rfl,hi,hx⟩;refine⟨fun h=>?_,fun h=>?_⟩
 ·have hlt:i<l.length:=by have:=dt h;omega
  refine word_k ha (List.getElem?_eq_getElem hlt) fun ad q1 hh _=>?_
  refine⟨ad,⟨by omega,by omega,q1⟩,?_⟩;refine⟨_,hh,?_⟩;have hd:l.drop i=l[i]::l.drop (i+1):=List.drop_eq_getElem_cons hlt;rw[hd,has0_cons]at hx;refine⟨fun h=>?_,fun h=>?_⟩
  ·have h0:l[i].toNat=0:=by have:=dt h;omega
   rw[decide_eq_true h0,Bool.true_or]at hx;rw[hx]at hK;exact hK
  ·have h0:¬l[i].toNat=0:=by have:=df h;omega
   rw[decide_eq_false h0,Bool.false_or]at hx;refine⟨⟨by omega,by omega⟩,i+1,[],?_,⟨rfl,hlt,hx⟩,by dsimp only;omega⟩
   (repeat' (first|exact trivial|refine⟨?_,?_⟩|exact rfl|assumption))
 ·have hil:i=l.length:=by have:=df h;omega
  rw[hil,List.drop_length]at hx;rw[hx]at hK;exact hK
theorem fstmt_spec {p:Prog} {known:List UInt64} {s:Stmt} (hs:stmtR s) {a ka:Option Addr} {n c kn kc:Nat} {H:Hp} {K:Value→Hp→Prop} (ha:RL H a n c p) (hk:RL H ka kn kc known) (hc:cnt p<400000)
  (hK:∀H',Le H H'→K (stmtA (foldS p known s)) H'):Does Tryz.prog 115 [.agg #[.slice a n c],.slice ka kn kc,stmtA s] H K:=by
 refine spec_of cx_ok cx_mix rfl Tryz.func115 Tryz.call115 Tryz.ntmps115 Tryz.results115 rfl rfl ?_;unfold foldS at hK;refine⟨fun h=>?_,fun h=>?_⟩
 ·have h1:¬s.1=1:=df h;refine⟨fun h=>?_,fun h=>?_⟩
  ·have h3:s.1=3:=dt h;rw[if_pos (.inr h3)]at hK
   refine vexpr_spec hs.2.2 ha hk hc fun H1 hle1=>?_
   exact hK _ (Le.refl H)
  ·have h3:¬s.1=3:=df h;rw[if_neg (by omega)]at hK;exact hK _ (Le.refl H)
 ·have h1:s.1=1:=dt h;rw[if_pos (.inl h1)]at hK
  refine vexpr_spec hs.2.2 ha hk hc fun H1 hle1=>?_
  exact hK _ (Le.refl H)
end Go.Proofs
end
section
namespace Go.Proofs
open Go.Sy
set_option maxRecDepth 20000
set_option maxHeartbeats 4000000
def knownAt (p:Prog) (i:Nat) (b:Block) (k:Nat):Wd:=vApp (codesOf p (b.2.1.take k)) (aAt (solveS (sysOf p)) i)
def foldL (p:Prog) (i:Nat) (b:Block):List Stmt:=b.2.1.mapIdx fun k s=>foldS p (knownAt p i b k) s
def foldT (p:Prog) (i:Nat) (b:Block):Term:=if b.2.2.1=2 then (b.2.2.1,foldA p (knownAt p i b b.2.1.length) b.2.2.2.1,b.2.2.2.2) else b.2.2
def nev (p:Prog) (i:Nat):Bool:=has0 (aAt (solveS (sysOf p)) i)
def foldB (p:Prog) (i:Nat) (b:Block):Block:=if nev p i then b else (b.1,foldL p i b,foldT p i b)
def foldP (p:Prog):Prog:=p.mapIdx (foldB p)
theorem mapIdx_take {α β:Type} {f:Nat→α→β} {l:List α} {k:Nat} {x:α} (h:l[k]?=some x):(l.mapIdx f).take (k+1)=(l.mapIdx f).take k++[f k x]:=by
 rw[List.take_add_one,List.getElem?_mapIdx,h];rfl
theorem foldP_len (p:Prog):(foldP p).length=p.length:=List.length_mapIdx
theorem foldL_len (p:Prog) (i:Nat) (b:Block):(foldL p i b).length=b.2.1.length:=List.length_mapIdx
theorem foldT_R {p:Prog} {i:Nat} {b:Block} (h:termR b.2.2):termR (foldT p i b):=by
 unfold foldT;split
 ·exact⟨h.1,foldA_R h.2.1,h.2.2⟩
 ·exact h
theorem foldB_len (p:Prog) (i:Nat) (b:Block):(foldB p i b).2.1.length=b.2.1.length:=by
 unfold foldB;split
 ·rfl
 ·exact foldL_len p i b
abbrev bC (b:Block) (v:SV):List SV:=.v (.string (bs b.1.l))::v::vL (termV b.2.2)
end Go.Proofs
end
section
namespace Go.Proofs
open Go.Sy
set_option maxRecDepth 20000
set_option maxHeartbeats 4000000
abbrev stV (s:Stmt):List Value:=.int .i64 s.1 :: .string (bs s.2.1.l) :: .int .i64 s.2.2.1::(atmV s.2.2.2.1++atmV s.2.2.2.2)
abbrev blkV (v:Value) (b:Block):List Value:=.string (bs b.1.l)::v::termV b.2.2
theorem stRows_of {H:Hp} {css:List (List Value)} {l:List Stmt} (h:RC (α:=Stmt) H css l):css=l.map stV:=by
 apply List.ext_getElem?;intro i;rw[List.getElem?_map];have hl:css.length=l.length:=h.1
 by_cases hi:i<l.length
 ·have h1:css[i]?=some (css[i]'(by omega)):=List.getElem?_eq_getElem _;have h2:=List.getElem?_eq_getElem hi;have h3:=(stmt_open (h.2 i _ _ h1 h2)).1
  rw[h1,h2,h3];rfl
 ·rw[List.getElem?_eq_none (by omega),List.getElem?_eq_none (by omega)];rfl
theorem stRows_rc {H:Hp} {l:List Stmt} (h:∀s∈l,stmtR s):RC (α:=Stmt) H (l.map stV) l:=by
 refine⟨by simp,fun i cs x h1 h2=>?_⟩;rw[List.getElem?_map,h2]at h1;cases h1;exact stmt_mk (h x (List.mem_of_getElem? h2))
theorem newAt_k {P:Prop} {e:TypeId} {sz:Nat} {xs:List (List Value)} {H H2:Hp} {x:Value} (h:NewAt e sz xs H x H2) (k:∀a n c,x = .slice a n c→P):P:=by
 rcases h with ⟨h1,_⟩ | ⟨g,cap,c,h1,_⟩
 ·exact k _ _ _ h1
 ·exact k _ _ _ h1
theorem cloneS2_spec {l:List Stmt} (hl:l.length≤1000000) {a:Option Addr} {n c:Nat} {H:Hp} {K:Value→Hp→Prop} (ha:RL H a n c l) (hK:∀a1 n1 c1 H',LeN 61 9 (l.map stV) H (.slice a1 n1 c1) H'→(∀s∈l,stmtR s)→K (.slice a1 n1 c1) H'):Does Tryz.prog 59 [.slice a n c] H K:=by
 have hn:=ha.n_eq
 have hR:∀s∈l,stmtR s:=fun s hs=>by
  obtain⟨i,hi⟩:=List.getElem?_of_mem hs
  exact stmt_k ha hi fun _ _ _ h=>h
 refine spec_of cx_ok cx_mix rfl Tryz.func59 Tryz.call59 Tryz.ntmps59 Tryz.results59 rfl rfl ?_;refine⟨fun h=>?_,fun h=>?_⟩
 ·have hno:a=none:=by
   cases a with
   | none=>rfl
   | some x=>cases h
  rw[hno]at ha;have h0:=RL_nil ha;refine hK none 0 0 H ⟨Le.refl H,.inl ⟨rfl,by rw[h0];rfl⟩⟩ hR
 ·obtain⟨css,hrow,hrc⟩:=ha.row;have hcl:css.length=l.length:=hrc.1;have hcs:=stRows_of hrc;refine⟨css,hrow,?_⟩;refine⟨⟨by show (0+css.length)*96≤140737488355328;omega,by show 0+css.length≤9223372036854775807;omega⟩,?_⟩;intro v H' hle hv;rw[hcs]at hle
  refine newAt_k hle.new fun a1 n1 c1 e=>?_
  subst e;exact hK _ _ _ H' hle hR
structure FamI (H H':Hp) (vs:List Value) (p:Prog):Prop where
 len:vs.length=p.length
 new:∀(i:Nat) (v:Value) (b:Block),vs[i]?=some v→p[i]?=some b→NewAt 61 9 (b.2.1.map stV) H v H'
 dis:vs.Pairwise fun v u=>∀g,v.ownBlock=some g→u.ownBlock≠some g
theorem newAt_up {e:TypeId} {sz:Nat} {xs:List (List Value)} {H H2 H3:Hp} {x:Value} (h:NewAt e sz xs H x H2) (hle:Le H2 H3):NewAt e sz xs H x H3:=by
 rcases h with h1 | ⟨g,cap,c,h1,h2,h3,h4⟩
 ·exact .inl h1
 ·exact .inr ⟨g,cap,c,h1,h2,hle _ _ h3,h4⟩
theorem newAt_down {e:TypeId} {sz:Nat} {xs:List (List Value)} {H H1 H2:Hp} {x:Value} (h:NewAt e sz xs H1 x H2) (hle:Le H H1):NewAt e sz xs H x H2:=by
 rcases h with h1 | ⟨g,cap,c,h1,h2,h3⟩
 ·exact .inl h1
 ·refine .inr ⟨g,cap,c,h1,?_,h3⟩
  cases hg:H g with
  | none=>rfl
  | some o=>rw[hle _ _ hg]at h2;cases h2
theorem FamI.up {H H' H2:Hp} {vs:List Value} {p:Prog} (h:FamI H H' vs p) (hle:Le H' H2):FamI H H2 vs p:=⟨h.len,fun i v b h1 h2=>newAt_up (h.new i v b h1 h2) hle,h.dis⟩
theorem FamI.snoc {H H1 H2:Hp} {vs:List Value} {p:Prog} (h:FamI H H1 vs p) (hle0:Le H H1) {v:Value} {b:Block} (hv:LeN 61 9 (b.2.1.map stV) H1 v H2):FamI H H2 (vs++[v]) (p++[b]):=by
 refine⟨by rw[List.length_append,List.length_append,h.len];rfl,fun i u c h1 h2=>?_,?_⟩
 ·rw[List.getElem?_append]at h1 h2;have hl:=h.len;split at h1
  ·rename_i hi;rw[if_pos (by omega)]at h2;exact newAt_up (h.new i u c h1 h2) hv.le
  ·rename_i hi;rw[if_neg (by omega)]at h2
   have e1:i - vs.length=0:=by
    have:=(List.getElem?_eq_some_iff.1 h1).1
    simp at this;omega
   rw[e1]at h1;rw[←hl,e1]at h2;cases h1;cases h2;exact newAt_down hv.new hle0
 ·rw[List.pairwise_append];refine⟨h.dis,List.pairwise_singleton _ _,fun u hu w hw g hg hg'=>?_⟩;rw[List.mem_singleton]at hw;subst hw;obtain⟨i,hi⟩:=List.getElem?_of_mem hu;have hlt:=(List.getElem?_eq_some_iff.1 hi).1;have hb:p[i]?=some (p[i]'(by have:=h.len;omega)):=List.getElem?_eq_getElem _;obtain⟨_,o,ho⟩:=(h.new i u _ hi hb).fresh hg;have:=(hv.new.fresh hg').1;rw[ho]at this;cases this
theorem zipBlk_snoc {vs:List Value} {p:Prog} (hl:vs.length=p.length) (v:Value) (b:Block):List.zipWith blkV (vs++[v]) (p++[b])=List.zipWith blkV vs p++[blkV v b]:=by
 rw[List.zipWith_append hl];rfl
theorem blkR_mk {H:Hp} {v:Value} {b:Block} (hv:RowAt H v 9 (b.2.1.map stV)) (hst:∀s∈b.2.1,stmtR s) (hs:sR b.1) (ht:termR b.2.2):Enc.R H (blkV v b) b :=
 of_row_k (α:=Stmt) hv (stRows_rc hst) fun a n c e hr=>by subst e;exact block_mk hr hs ht
theorem pclone2_spec {p:Prog} (hp:p.length≤1000000) (hl:∀b∈p,b.2.1.length≤1000000) {a:Option Addr} {n c:Nat} {H:Hp} {K:Value→Hp→Prop} (ha:RL H a n c p)
  (hK:∀v vs H3 H',Le H H3→FamI H H3 vs p→LeN 66 8 (List.zipWith blkV vs p) H3 v H'→K (.agg #[v]) H'):Does Tryz.prog 30 [.agg #[.slice a n c]] H K:=by
 have hn:=ha.n_eq;have hmx:=ha.le;refine spec_of cx_ok cx_mix rfl Tryz.func30 Tryz.call30 Tryz.ntmps30 Tryz.results30 rfl rfl ?_
 refine⟨Nat×List Value,fun q=>⟨[(2,.ptr 0 0),(3,.ptr 1 0),(7,.v (.slice a n c)),(8,.v (.int .i64 n)),(9,.v (.int .i64 q.1))],
   [(0,.cells 24 [.v (.slice none 0 0)]),(1,.cells 24 [.own 2]),(2,.row 66 8 (List.zipWith blkV q.2 (p.take q.1)))],3⟩,
  fun q H'=>Le H H'∧q.1≤p.length∧FamI H H' q.2 (p.take q.1),fun q=>p.length - q.1,⟨(0,[]),[(0,1),(1,2)],?_,Le.refl _,Nat.zero_le _,⟨rfl,fun i v b h1=>(by cases h1),List.Pairwise.nil⟩⟩,?_⟩
 ·(repeat' (first|exact trivial|refine⟨?_,?_⟩|exact rfl|assumption))
 rintro⟨i,vs⟩ H1 hle1 ⟨_,hi,hf⟩;dsimp only at hi hf
 have hvl:vs.length=i:=by rw[hf.len,List.length_take];omega
 have hcl:(List.zipWith blkV vs (p.take i)).length=i:=by rw[List.length_zipWith,List.length_take];omega
 refine⟨fun h=>?_,fun h=>?_⟩
 ·have hlt:i<p.length:=by have:=dt h;dsimp only at this;omega
  refine name_k p[i] fun b hbe=>?_
  have hbb:p[i]?=some b:=by rw[hbe];exact List.getElem?_eq_getElem hlt
  refine block_k (ha.up hle1) hbb fun ad a1 n1 c1 q1 hh hr1 hs1 ht1=>?_
  refine⟨ad,⟨by dsimp only;omega,by dsimp only;omega,q1⟩,?_⟩;refine⟨_,hh,?_⟩
  refine cloneS2_spec (hl b (List.mem_of_getElem? hbb)) hr1 fun a5 n5 c5 H5 hle5 hst=>?_
  have htk:p.take (i+1)=p.take i++[b]:=by rw[List.take_add_one,hbb,Option.toList_some]
  have hz:List.zipWith blkV (vs++[.slice a5 n5 c5]) (p.take (i+1))=List.zipWith blkV vs (p.take i)++[blkV (.slice a5 n5 c5) b]:=by rw[htk,zipBlk_snoc hf.len]
  refine⟨⟨by show ((List.zipWith blkV vs (p.take i)).length+1)*112≤140737488355328;omega,by show (List.zipWith blkV vs (p.take i)).length+1≤9223372036854775807;omega⟩,?_⟩;refine⟨⟨by dsimp only;omega,by dsimp only;omega⟩,(i+1,vs++[.slice a5 n5 c5]),[(0,0),(1,1),(2,5)],?_,⟨hle1.trans hle5.le,hlt,by dsimp only;rw[htk];exact hf.snoc hle1 hle5⟩,by dsimp only;omega⟩;have hz:=hz.symm
  (repeat' (first|exact trivial|refine⟨?_,?_⟩|exact rfl|assumption))
 ·have hil:i=p.length:=by have:=df h;dsimp only at this;omega
  rw[hil,List.take_length]at hf;intro v H' hle hv;have hle:LeN 66 8 (List.zipWith blkV vs (p.take i)) H1 v H':=hle;rw[hil,List.take_length]at hle;exact hK v vs H1 H' hle1 hf hle
abbrev famL (vs:List Value) (p:Prog):List (Value×List (List Value)):=List.zip vs (p.map fun b=>b.2.1.map stV)
theorem famL_mem {vs:List Value} {p:Prog} {q:Value×List (List Value)} (h:q∈famL vs p):∃(i:Nat) (b:Block),vs[i]?=some q.1∧p[i]?=some b∧q.2=b.2.1.map stV:=by
 obtain⟨i,hi⟩:=List.getElem?_of_mem h;rw[famL,List.getElem?_zip_eq_some,List.getElem?_map]at hi;obtain⟨h1,h2⟩:=hi
 cases hb:p[i]? with
 | none=>rw[hb]at h2;cases h2
 | some b =>
  rw[hb]at h2;simp only[Option.map_some,Option.some.injEq]at h2;exact⟨i,b,h1,hb,h2.symm⟩
theorem stV_ok (l:List Stmt):∀y∈l.map stV,y.length=9∧∀u∈y,u.oneCell'=true:=by
 intro y hy;obtain⟨s,_,rfl⟩:=List.mem_map.1 hy;have h:(stV s).all (·.oneCell')=true:=rfl;exact⟨rfl,fun u hu=>List.all_eq_true.1 h u hu⟩
theorem cloneF_spec {p:Prog} (hp:p.length≤1000000) (hl:∀b∈p,b.2.1.length≤1000000) {a:Option Addr} {n c:Nat} {H:Hp} {K:SV→St→Hp→Prop} (ha:RL H a n c p)
  (hK:∀vs H',Le H H'→vs.length=p.length→(∀(i:Nat) (v:Value) (b:Block),vs[i]?=some v→p[i]?=some b→∃a c,v = .slice a b.2.1.length c∧(a=none→b.2.1=[]))→K (.agg [.own 0]) ⟨[],[(0,.row 66 8 (List.zipWith blkV vs p)),(1,.fam 61 9 (famL vs p))],2⟩ H'):DoesG Tryz.prog 30 [.agg [.v (.slice a n c)]] [] 0 H K:=by
 refine doesG_thawB (args:=[.agg #[.slice a n c]]) (fun _=>rfl) (pclone2_spec hp hl ha (K:=fun v H'=>∃x vs H3,v = .agg #[x]∧Le H H3∧FamI H H3 vs p∧LeN 66 8 (List.zipWith blkV vs p) H3 x H') (fun v vs H3 H' h1 h2 h3=>⟨v,vs,H3,rfl,h1,h2,h3⟩)) ?_;rintro v H2 hle ⟨x,vs,H3,rfl,h1,h2,h3⟩
 have hsl:∀(i:Nat) (v:Value) (b:Block),vs[i]?=some v→p[i]?=some b→∃a c,v = .slice a b.2.1.length c∧(a=none→b.2.1=[]):=fun i v b h4 h5=>by
  rcases h2.new i v b h4 h5 with ⟨h6,h7⟩ | ⟨g,cap,cc,h6,_⟩
  ·have h8:b.2.1=[]:=List.map_eq_nil_iff.1 h7;exact⟨none,0,by rw[h6,h8];rfl,fun _=>h8⟩
  ·rw[List.length_map]at h6;exact⟨_,_,h6,fun h=>by cases h⟩
 refine⟨66,8,List.zipWith blkV vs p,x,61,9,famL vs p,.agg [.own 0],fun ρ hρ=>?_,rfl,(LeN.base h1 h3).new,fun y hy=>?_,fun q hq=>?_,?_,fun q hq g hg hg'=>?_,fun H' hle2 _=>hK vs H' hle2 h2.len hsl⟩
 ·show Value.agg #[ρ.val 0]=_;rw[hρ]
 ·obtain⟨i,hi⟩:=List.getElem?_of_mem hy;rw[List.getElem?_zipWith_eq_some]at hi;obtain⟨v,b,h4,h5,rfl⟩:=hi;obtain⟨a1,c1,rfl,_⟩:=hsl i v b h4 h5;have h:(blkV (.slice a1 b.2.1.length c1) b).all (·.oneCell')=true:=rfl;exact⟨rfl,fun u hu=>List.all_eq_true.1 h u hu⟩
 ·obtain⟨i,b,h4,h5,h6⟩:=famL_mem hq;rw[h6];exact⟨newAt_up (h2.new i _ b h4 h5) h3.le,stV_ok _⟩
 ·have e:(famL vs p).map Prod.fst=vs:=List.map_fst_zip (by rw[List.length_map];exact Nat.le_of_eq h2.len);have hd:=h2.dis;rw[←e,List.pairwise_map]at hd;exact hd
 ·obtain⟨i,b,h4,h5,_⟩:=famL_mem hq;obtain⟨_,o,ho⟩:=(h2.new i _ b h4 h5).fresh hg';have:=(h3.new.fresh hg).1;rw[ho]at this;cases this
end Go.Proofs
end
section
namespace Go.Proofs
open Go.Sy
set_option maxRecDepth 20000
set_option maxHeartbeats 4000000
def mixP (p:Prog) (i:Nat):Prog:=(foldP p).take i++p.drop i
theorem mixP_len {p:Prog} {i:Nat} (h:i≤p.length):(mixP p i).length=p.length:=by rw[mixP,List.length_append,List.length_take,List.length_drop,foldP_len];omega
theorem mixP_get {p:Prog} {i:Nat} {b:Block} (h:p[i]?=some b):(mixP p i)[i]?=some b:=by
 have hlt:=(List.getElem?_eq_some_iff.1 h).1
 have hl:((foldP p).take i).length=i:=by rw[List.length_take,foldP_len];omega
 rw[mixP,List.getElem?_append_right (by omega),hl,Nat.sub_self,List.getElem?_drop,Nat.add_zero];exact h
theorem mixP_set {p:Prog} {i:Nat} {b:Block} (h:p[i]?=some b):(mixP p i).set i (foldB p i b)=mixP p (i+1):=by
 have hlt:=(List.getElem?_eq_some_iff.1 h).1
 have hl:((foldP p).take i).length=i:=by rw[List.length_take,foldP_len];omega
 have hd:p.drop i=b::p.drop (i+1):=by
  rw[List.drop_eq_getElem_cons hlt];rw[List.getElem?_eq_getElem hlt]at h;simp only[Option.some.injEq]at h;rw[h]
 rw[mixP,List.set_append_right _ _ (by omega),hl,Nat.sub_self,hd,List.set_cons_zero,mixP,foldP,mapIdx_take h,List.append_assoc];rfl
def mixL (p:Prog) (i:Nat) (b:Block) (k:Nat):List Stmt:=(foldL p i b).take k++b.2.1.drop k
theorem mixL_zero (p:Prog) (i:Nat) (b:Block):mixL p i b 0=b.2.1:=rfl
theorem mixL_full (p:Prog) (i:Nat) (b:Block):mixL p i b b.2.1.length=foldL p i b:=by rw[mixL,List.drop_length,List.append_nil,List.take_of_length_le (by rw[foldL_len];exact Nat.le_refl _)]
theorem mixL_set {p:Prog} {i:Nat} {b:Block} {k:Nat} {s:Stmt} (h:b.2.1[k]?=some s):(mixL p i b k).set k (foldS p (knownAt p i b k) s)=mixL p i b (k+1):=by
 have hlt:=(List.getElem?_eq_some_iff.1 h).1
 have hl:((foldL p i b).take k).length=k:=by rw[List.length_take,foldL_len];omega
 have hd:b.2.1.drop k=s::b.2.1.drop (k+1):=by
  rw[List.drop_eq_getElem_cons hlt];rw[List.getElem?_eq_getElem hlt]at h;simp only[Option.some.injEq]at h;rw[h]
 rw[mixL,List.set_append_right _ _ (by omega),hl,Nat.sub_self,hd,List.set_cons_zero,mixL,foldL,mapIdx_take h,List.append_assoc];rfl
theorem split_set {α:Type}:∀(l:List α) (i:Nat) (x:α),l[i]?=some x→l=l.take i++x::l.drop (i+1)∧∀y,l.take i++y::l.drop (i+1)=l.set i y
 | [],i,x,h=>by simp at h
 | a::r,0,x,h=>by
  simp only[List.getElem?_cons_zero,Option.some.injEq]at h;subst h;exact⟨rfl,fun y=>rfl⟩
 | a::r,i+1,x,h=>by
  have ih:=split_set r i x (by simpa using h);refine⟨?_,fun y=>?_⟩
  ·rw[List.take_succ_cons,List.drop_succ_cons,List.cons_append,←ih.1]
  ·rw[List.take_succ_cons,List.drop_succ_cons,List.cons_append,ih.2 y];rfl
theorem zipW_set {α β γ:Type} (f:α→β→γ):∀(vs:List α) (q:List β) (i:Nat) (v:α),vs[i]?=some v→∀y,(List.zipWith f vs q).set i (f v y)=List.zipWith f vs (q.set i y)
 | [],q,i,v,h,y=>by simp at h
 | a::r,[],i,v,h,y=>by simp
 | a::r,b::q,0,v,h,y=>by
  simp only[List.getElem?_cons_zero,Option.some.injEq]at h;subst h
  rfl
 | a::r,b::q,i+1,v,h,y=>by
  have ih:=zipW_set f r q i v (by simpa using h) y;rw[List.set_cons_succ,List.zipWith_cons_cons,List.zipWith_cons_cons,List.set_cons_succ,ih]
theorem famL_split {vs:List Value} {q:Prog} {i:Nat} {v:Value} {b:Block} (hv:vs[i]?=some v) (hb:q[i]?=some b):
  famL vs q=(famL vs q).take i++(v,b.2.1.map stV)::(famL vs q).drop (i+1)∧∀b':Block,(famL vs q).take i++(v,b'.2.1.map stV)::(famL vs q).drop (i+1)=famL vs (q.set i b'):=by
 have h1:(famL vs q)[i]?=some (v,b.2.1.map stV):=by
  rw[famL,List.getElem?_zip_eq_some,List.getElem?_map,hb];exact⟨hv,rfl⟩
 have h2:=split_set _ _ _ h1;refine⟨h2.1,fun b'=>?_⟩;rw[h2.2,famL,famL,List.map_set];exact zipW_set Prod.mk vs _ i v hv _
theorem zipBlk_set {vs:List Value} {q:Prog} {i:Nat} {v:Value} (hv:vs[i]?=some v) (b':Block):(List.zipWith blkV vs q).set i (blkV v b')=List.zipWith blkV vs (q.set i b'):=zipW_set blkV vs q i v hv b'
theorem zipBlk_get {vs:List Value} {q:Prog} {i:Nat} {v:Value} {b:Block} (hv:vs[i]?=some v) (hb:q[i]?=some b):(List.zipWith blkV vs q)[i]?=some (blkV v b):=by
 rw[List.getElem?_zipWith,hv,hb]
theorem pfoldG_spec {p:Prog} (hp:p.length≤12) (hl:∀b∈p,b.2.1.length≤1000000) (hc:stmtsN p≤1000000) (hv:cnt p<400000) {a:Option Addr} {n c:Nat} {H:Hp} {K:SV→St→Hp→Prop} (ha:RL H a n c p)
  (hbad:checkE p≠0→∀H',Le H H'→K (.tup [.agg [.v (.slice none 0 0)],.v (.int .i64 (checkE p))]) ⟨[],[],0⟩ H')
  (hK:checkE p=0→∀vs H',Le H H'→vs.length=p.length→(∀(i:Nat) (v:Value) (b:Block),vs[i]?=some v→p[i]?=some b→∃a c,v = .slice a b.2.1.length c∧(a=none→b.2.1=[]))→K (.tup [.agg [.own 2],.v (.int .i64 0)]) ⟨[],[(2,.row 66 8 (List.zipWith blkV vs (foldP p))),(3,.fam 61 9 (famL vs (foldP p)))],5⟩ H'):
  DoesG Tryz.prog 74 [.agg [.v (.slice a n c)]] [] 0 H K:=by
 refine spec_ofG cxE_ok cx_mix Tryz.func74 Tryz.call74 Tryz.ntmps74 Tryz.results74 rfl rfl ?_;refine sets_spec hp hl hc hv ha (fun he H1 hle1=>?_) (fun he a4 n4 c4 a2 n2 c2 H1 hle1 hr4 hr2=>?_)
 ·refine⟨fun _=>?_,fun h=>absurd (nf h) he⟩;exact⟨.tup [.agg [.v (.slice none 0 0)],.v (.int .i64 (checkE p))],[],0,[],by (repeat' (first|exact trivial|refine⟨?_,?_⟩|exact rfl|assumption)),hbad he _ hle1⟩
 have hK:=hK he;refine⟨(fun h=>absurd rfl (nt h)),fun _=>?_⟩;refine⟨[],rfl,cloneF_spec (by omega) hl (ha.up hle1) fun vs H2 hle2 hvl hsl=>?_⟩
 have hK:=fun H' h=>hK vs H' h hvl hsl
 have hle:=hle1.trans hle2;have ho:=sysOf_ok he;have hA:=solveS_ok ho;have hm:(sysOf p).m=p.length:=rfl;have hn:=ha.n_eq;have hn4:=hr4.n_eq;rw[hA.len]at hn4;have hok:=check_facts he
 have hzl:∀q:Prog,q.length=p.length→(List.zipWith blkV vs q).length=p.length:=fun q hq=>by rw[List.length_zipWith,hvl,hq,Nat.min_self]
 refine⟨Nat,fun i=>⟨[(1,.ptr 0 0),(2,.ptr 1 0),(4,.v (.slice a4 n4 c4)),(7,.ptr 4 0),(28,.own 2),(29,.v (.int .i64 (p.length:Nat))),(30,.v (.int .i64 i))],
   [(0,.cells 24 [.v (.slice a n c)]),(1,.cells 24 [.v (.slice none 0 0)]),(4,.cells 24 [.own 2]),(2,.row 66 8 (List.zipWith blkV vs (mixP p i))),(3,.fam 61 9 (famL vs (mixP p i)))],5⟩,
  fun i H'=>Le H2 H'∧i≤p.length,fun i=>p.length - i,⟨0,[(0,0),(1,1),(2,2),(3,3),(4,4)],?_,Le.refl _,Nat.zero_le _⟩,?_⟩
 ·have e0:SV.v (.int .i64 ((List.zipWith blkV vs p).length:Nat))=SV.v (.int .i64 (p.length:Nat)):=by rw[hzl p rfl]
  (repeat' (first|exact trivial|refine⟨?_,?_⟩|exact rfl|assumption))
 rintro i H3 hle3 ⟨_,hi⟩;have hml:=hzl _ (mixP_len hi);refine⟨fun h=>?_,fun h=>?_⟩
 ·have hlt:i<p.length:=by have:=dt h;omega
  refine name_k p[i] fun b hbe=>?_
  have hbb:p[i]?=some b:=by rw[hbe];exact List.getElem?_eq_getElem hlt
  have hvi:vs[i]?=some (vs[i]'(by omega)):=List.getElem?_eq_getElem _;obtain⟨av,cv,hve,hav⟩:=hsl i _ b hvi hbb;rw[hve]at hvi;have hg:(List.zipWith blkV vs (mixP p i))[(i:Int).toNat]?=some (blkV (.slice av b.2.1.length cv) b):=zipBlk_get hvi (mixP_get hbb);refine⟨⟨by omega,by omega⟩,?_⟩;refine⟨_,hg,?_⟩;have hAg:=aAt_get hA (v:=i) (by rw[hm];exact hlt);have hAo:=aAt_ok hA (v:=i) (by rw[hm];exact hlt);have hle4:=hle2.trans hle3;have hleH:=hle.trans hle3
  refine list_k (hr4.up hle4) hAg fun ad2 a6 n6 c6 q2 hh2 hr6=>?_
  refine⟨ad2,⟨by omega,by omega,q2⟩,?_⟩;refine⟨_,hh2,?_⟩;have hsp:=split_set _ _ _ (mixP_get hbb);have hsame:(mixP p i).set i b=mixP p i:=(hsp.2 b).symm.trans hsp.1.symm;have hnext:=mixP_set hbb;refine never_spec hr6 ?_;refine⟨fun h=>?_,fun h=>?_⟩
  ·have hnt:nev p i=true:=h
   have hfb:foldB p i b=b:=by rw[foldB,hnt];rfl
   rw[hfb,hsame]at hnext;refine⟨⟨by omega,by omega⟩,i+1,[(0,0),(1,1),(2,2),(3,3),(4,4)],?_,⟨hle3,hlt⟩,by dsimp only;omega⟩
   have e1:List.zipWith blkV vs (mixP p i)=List.zipWith blkV vs (mixP p (i+1)):=by rw[hnext]
   have e2:famL vs (mixP p (i+1))=famL vs (mixP p i):=by rw[hnext]
   have e3:=e1.symm;have e4:=e2.symm
   (repeat' (first|exact trivial|refine⟨?_,?_⟩|exact rfl|assumption))
  have hnf:nev p i=false:=h;have hbl:=hl b (List.mem_of_getElem? hbb)
  have hf0:famL vs (mixP p i)=famL vs ((mixP p i).set i (b.1,mixL p i b 0,b.2.2)):=by
   rw[mixL_zero];exact congrArg (famL vs) hsame.symm
  refine⟨Nat,fun k=>⟨[(1,.ptr 0 0),(2,.ptr 1 0),(4,.v (.slice a4 n4 c4)),(7,.ptr 4 0),(8,.v (.int .i64 i)),(9,.ptr 5 0),(28,.own 2),(29,.v (.int .i64 (p.length:Nat))),(30,.v (.int .i64 i)),(41,.v (.slice av b.2.1.length cv)),(42,.v (.int .i64 (b.2.1.length:Nat))),(43,.v (.int .i64 k))],
    [(0,.cells 24 [.v (.slice a n c)]),(1,.cells 24 [.v (.slice none 0 0)]),(4,.cells 24 [.own 2]),(2,.row 66 8 (List.zipWith blkV vs (mixP p i))),(3,.fam 61 9 (famL vs ((mixP p i).set i (b.1,mixL p i b k,b.2.2)))),(5,.cells 66 (vL (blkV (.slice av b.2.1.length cv) b)))],6⟩,
   fun k H'=>Le H3 H'∧k≤b.2.1.length,fun k=>b.2.1.length - k,⟨0,[(0,0),(1,1),(2,2),(3,3),(4,4),(5,5)],?_,Le.refl _,Nat.zero_le _⟩,?_⟩
  ·have hf1:=hf0.symm
   (repeat' (first|exact trivial|refine⟨?_,?_⟩|exact rfl|assumption))
  rintro k H4 hle5 ⟨_,hk⟩;have hleK:=hleH.trans hle5;refine⟨fun h=>?_,fun h=>?_⟩
  ·have hkl:k<b.2.1.length:=by have:=dt h;omega
   refine name_k b.2.1[k] fun s hse=>?_
   have hss:b.2.1[k]?=some s:=by rw[hse];exact List.getElem?_eq_getElem hkl
   refine at_spec (i:=(i:Nat)) (j:=(k:Nat)) hp hl hc hv (ha.up hleK) (fun he2=>absurd he he2) (fun _ hno=>absurd ⟨by omega,by omega,b,by rw[Int.toNat_natCast];exact hbb,by omega,by omega⟩ hno) (fun _ b' hb' _ _ _ _ a8 n8 c8 H5 hle6 hr8=>?_);rw[Int.toNat_natCast,hbb]at hb';cases hb';rw[Int.toNat_natCast,Int.toNat_natCast]at hr8;have hr8:RL H5 a8 n8 c8 (knownAt p i b k):=hr8;have hleM:=hleK.trans hle6
   refine block_k (ha.up hleM) hbb fun ad a5 n5 c5 q1 hh hr5 hs5 ht5=>?_
   have hn5:=hr5.n_eq
   refine stmt_k hr5 hss fun ad3 q3 hh3 hsr=>?_
   refine⟨some ([3],[0,1,2,3,4,5,6,7,8,9,10,11,12,13,14,15,16]),by kernel_rfl,?_⟩;refine⟨ad,⟨by omega,by omega,q1⟩,?_⟩;refine⟨_,hh,?_⟩;refine⟨ad3,⟨by omega,by omega,q3⟩,?_⟩;refine⟨_,hh3,?_⟩
   refine fstmt_spec hsr (ha.up hleM) hr8 hv fun _ _=>?_
   cases av with
   | none=>exact absurd (hav rfl) (fun h=>by rw[h]at hkl;cases hkl)
   | some adv =>
    refine⟨adv,⟨by omega,by omega,rfl⟩,?_⟩;have hqb:((mixP p i).set i (b.1,mixL p i b k,b.2.2))[i]?=some (b.1,mixL p i b k,b.2.2):=List.getElem?_set_self (by rw[mixP_len hi];exact hlt);have hspl:=famL_split (b:=(b.1,mixL p i b k,b.2.2)) hvi hqb
    have hml2:(mixL p i b k)[k]?=some s:=by
     have hl9:((foldL p i b).take k).length=k:=by rw[List.length_take,foldL_len];omega
     rw[mixL,List.getElem?_append_right (by omega),hl9,Nat.sub_self,List.getElem?_drop,Nat.add_zero];exact hss
    refine⟨3,61,_,_,_,_,_,_,stV s,rfl,hspl.1,by dsimp only;rw[Int.toNat_natCast,List.getElem?_map,hml2];rfl,by decide,?_⟩
    have e5:(famL vs ((mixP p i).set i (b.1,mixL p i b k,b.2.2))).take i++((.slice (some adv) b.2.1.length cv,((mixL p i b k).map stV).set k (stV (foldS p (knownAt p i b k) s))):Value×List (List Value))::(famL vs ((mixP p i).set i (b.1,mixL p i b k,b.2.2))).drop (i+1)=famL vs ((mixP p i).set i (b.1,mixL p i b (k+1),b.2.2)):=by
     have e7:=hspl.2 (b.1,mixL p i b (k+1),b.2.2);rw[List.set_set]at e7;rw[←e7,←List.map_set,mixL_set hss]
    have e6:=e5.symm;refine⟨⟨by omega,by omega⟩,k+1,[(0,0),(1,1),(2,2),(3,3),(4,4),(5,5)],?_,⟨hle5.trans hle6,hkl⟩,by dsimp only;omega⟩
    (repeat' (first|exact trivial|refine⟨?_,?_⟩|exact rfl|assumption))
  have hkn:k=b.2.1.length:=by have:=df h;omega
  have hfb:foldB p i b=(b.1,foldL p i b,foldT p i b):=by rw[foldB,hnf];rfl
  rw[hfb]at hnext
  have hF:famL vs ((mixP p i).set i (b.1,mixL p i b k,b.2.2))=famL vs (mixP p (i+1)):=by
   rw[←hnext,hkn,mixL_full,famL,famL,List.map_set,List.map_set]
  have hF2:=hF.symm;refine at_spec (i:=(i:Nat)) (j:=(b.2.1.length:Nat)) hp hl hc hv (ha.up hleK) (fun he2=>absurd he he2) (fun _ hno=>absurd ⟨by omega,by omega,b,by rw[Int.toNat_natCast];exact hbb,by omega,by omega⟩ hno) (fun _ b' hb' _ _ _ _ a8 n8 c8 H5 hle6 hr8=>?_);rw[Int.toNat_natCast,hbb]at hb';cases hb';rw[Int.toNat_natCast,Int.toNat_natCast]at hr8;have hr8:RL H5 a8 n8 c8 (knownAt p i b b.2.1.length):=hr8;have hleM:=hleK.trans hle6
  have hZ:(List.zipWith blkV vs (mixP p i)).set i (blkV (.slice av b.2.1.length cv) (b.1,foldL p i b,foldT p i b))=List.zipWith blkV vs (mixP p (i+1)):=by
   rw[←hnext];exact zipBlk_set hvi _
  refine⟨fun h2=>?_,fun h2=>?_⟩
  ·have h2:b.2.2.1=2:=dt h2;have hft:foldT p i b=(b.2.2.1,foldA p (knownAt p i b b.2.1.length) b.2.2.2.1,b.2.2.2.2):=if_pos h2;rw[hft]at hZ;have hZ2:=hZ.symm;refine⟨some ([2],[0,1,2,3,4,5,6,7,8,9,10,11,12]),by kernel_rfl,?_⟩
   refine vatom_spec (ha.up hleM) hr8 hv fun _ _=>?_
   refine⟨⟨by omega,by omega⟩,?_⟩;refine⟨_,hg,?_⟩;refine⟨⟨by omega,by omega⟩,i+1,[(0,0),(1,1),(2,2),(3,3),(4,4)],?_,⟨(hle3.trans hle5).trans hle6,hlt⟩,by dsimp only;omega⟩
   (repeat' (first|exact trivial|refine⟨?_,?_⟩|exact rfl|assumption))
  ·have h2:¬b.2.2.1=2:=df h2;have hft:foldT p i b=b.2.2:=if_neg h2;rw[hft]at hZ;have hsz:=split_set _ _ _ (zipBlk_get hvi (mixP_get hbb));have hZ3:List.zipWith blkV vs (mixP p i)=List.zipWith blkV vs (mixP p (i+1)):=hsz.1.trans ((hsz.2 _).trans hZ);have hZ4:=hZ3.symm;refine⟨⟨by omega,by omega⟩,i+1,[(0,0),(1,1),(2,2),(3,3),(4,4)],?_,⟨(hle3.trans hle5).trans hle6,hlt⟩,by dsimp only;omega⟩
   (repeat' (first|exact trivial|refine⟨?_,?_⟩|exact rfl|assumption))
 ·have hil:i=p.length:=by have:=df h;omega
  have e:mixP p p.length=foldP p:=by rw[mixP,List.drop_length,List.append_nil,List.take_of_length_le (by rw[foldP_len];exact Nat.le_refl _)]
  rw[hil,e];exact⟨.tup [.agg [.own 2],.v (.int .i64 0)],[(2,.row 66 8 (List.zipWith blkV vs (foldP p))),(3,.fam 61 9 (famL vs (foldP p)))],5,[(2,2),(3,3)],by (repeat' (first|exact trivial|refine⟨?_,?_⟩|exact rfl|assumption)),hK _ (hle.trans hle3)⟩
end Go.Proofs
end
section
namespace Go.Proofs
open Go.Sy
set_option maxRecDepth 20000
set_option maxHeartbeats 4000000
theorem prog_R {p:Prog} {a:Option Addr} {n c:Nat} {H:Hp} (ha:RL H a n c p) {i:Nat} {b:Block} (hb:p[i]?=some b):sR b.1∧termR b.2.2∧∀s∈b.2.1,stmtR s :=
 block_k ha hb fun _ _ _ _ _ _ hr hs ht=>⟨hs,ht,fun s hs2=>by
  obtain⟨j,hj⟩:=List.getElem?_of_mem hs2
  exact stmt_k hr hj fun _ _ _ h=>h⟩
theorem foldB_R {p:Prog} {i:Nat} {b:Block} (h:sR b.1∧termR b.2.2∧∀s∈b.2.1,stmtR s):sR (foldB p i b).1∧termR (foldB p i b).2.2∧∀s∈(foldB p i b).2.1,stmtR s:=by
 unfold foldB;split
 ·exact h
 ·refine⟨h.1,foldT_R h.2.1,fun s hs=>?_⟩;obtain⟨k,hk,rfl⟩:=List.mem_mapIdx.1 hs;exact foldS_R (h.2.2 _ (List.getElem_mem _))
theorem pfold_spec {p:Prog} (hp:p.length≤12) (hl:∀b∈p,b.2.1.length≤1000000) (hc:stmtsN p≤1000000) (hv:cnt p<400000) {a:Option Addr} {n c:Nat} {H:Hp} {K:Value→Hp→Prop} (ha:RL H a n c p)
  (hbad:checkE p≠0→∀H',Le H H'→K (.tuple #[.agg #[.slice none 0 0],.int .i64 (checkE p)]) H')
  (hK:checkE p=0→∀a1 n1 c1 H',Le H H'→RL H' a1 n1 c1 (foldP p)→K (.tuple #[.agg #[.slice a1 n1 c1],.int .i64 0]) H'):Does Tryz.prog 74 [.agg #[.slice a n c]] H K:=by
 refine does_frzB (svs:=[.agg [.v (.slice a n c)]]) (fun _=>rfl) rfl (pfoldG_spec hp hl hc hv ha (K:=fun x t H1=>(checkE p≠0∧Le H H1∧x = .tup [.agg [.v (.slice none 0 0)],.v (.int .i64 (checkE p))])∨(checkE p=0∧Le H H1∧∃vs,vs.length=p.length∧x = .tup [.agg [.own 2],.v (.int .i64 0)]∧t=⟨[],[(2,.row 66 8 (List.zipWith blkV vs (foldP p))),(3,.fam 61 9 (famL vs (foldP p)))],5⟩))
  (fun he H1 h1=>.inl ⟨he,h1,rfl⟩) (fun he vs H1 h1 h2 _=>.inr ⟨he,h1,vs,h2,rfl,rfl⟩)) ?_
 rintro x t H1 (⟨he,h1,rfl⟩ | ⟨he,h1,vs,h2,rfl,rfl⟩) hle
 ·exact .inl ⟨_,fun _=>rfl,hbad he _ h1⟩
 ·refine .inr ⟨2,3,66,8,_,61,9,_,fun v=>.tuple #[.agg #[v],.int .i64 0],fun _=>rfl,rfl,rfl,by decide,fun v H' hle2 hr hf=>?_⟩
  have hrc:RC (α:=Block) H' (List.zipWith blkV vs (foldP p)) (foldP p):=by
   refine⟨by rw[List.length_zipWith,h2,foldP_len,Nat.min_self],fun i cs b h3 h4=>?_⟩;rw[List.getElem?_zipWith_eq_some]at h3;obtain⟨u,b',h5,h6,rfl⟩:=h3;rw[h4]at h6;cases h6
   have hpi:∃b0,p[i]?=some b0∧b=foldB p i b0:=by
    rw[foldP,List.getElem?_mapIdx]at h4
    cases hb:p[i]? with
    | none=>rw[hb]at h4;cases h4
    | some b0 =>
     rw[hb]at h4;simp only[Option.map_some,Option.some.injEq]at h4;exact⟨b0,rfl,h4.symm⟩
   obtain⟨b0,hb0,hbe⟩:=hpi;have hR:=foldB_R (p:=p) (i:=i) (prog_R ha hb0);rw[←hbe]at hR
   have hm:(u,b.2.1.map stV)∈famL vs (foldP p):=by
    apply List.mem_of_getElem? (i:=i)
    rw[famL,List.getElem?_zip_eq_some,List.getElem?_map,h4];exact⟨h5,rfl⟩
   exact blkR_mk (hf _ hm) hR.2.2 hR.1 hR.2.1
  refine of_row_k (α:=Block) hr hrc fun a1 n1 c1 e hr1=>?_
  subst e;exact hK he _ _ _ _ (h1.trans hle2) hr1
end Go.Proofs
end
