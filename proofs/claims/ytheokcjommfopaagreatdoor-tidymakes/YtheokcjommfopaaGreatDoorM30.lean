/- Part 'M30' of the proof (Gw1, Gw2, Dl, Mg2, Mg3, Mg4, Mg5, W0, W1, W2, W3, W4, W5, W6, W7, W8, W9, W10, W11, W12, W13, W14, W15): lemmas, each with its own conditions in its own statement. -/
import Derived.Test.YtheokcjommfopaaGreatDoorM15
import Derived.Test.YtheokcjommfopaaGreatDoorM22
import Derived.Test.YtheokcjommfopaaGreatDoorM28
import Derived.Test.YtheokcjommfopaaGreatDoorM29
import Derived.Test.YtheokcjommfopaaGreatDoorM3
set_option maxRecDepth 20000
set_option maxHeartbeats 4000000
section
namespace Go.Proofs
open Go.Sy Go.Shelf Go.RowKit Go.Lib
open Tryz
theorem Gp {n:Nat} (h0:0<n) (hn:n≤1000000000) {H:Hp} {K:Value→Hp→Prop} (hK:∀v H',qp 61 9 [] H v H'→K v H'):aq prog 183 [.slice none 0 0,.int .i64 (n:Nat)] H K:=by
 refine⟨call183,fun w hp=>?_⟩;have hi:=(jE 61 _ _ rfl).1
 have Ws:(0+n)*t61.bytes≤140737488355328:=by show (0+n)*96≤_;omega
 refine (Any8.slices_Grow_grow K2 t61 _ hi rfl (by decide) none 0 0 n [] w (Nat.le_refl _) (by omega) Ws (by omega) rfl (fun _=>rfl) (fun a ha=>by cases ha)).mono fun e w' ⟨e1,e2⟩=>?_
 have cN:H w.heap.size=none:=by
  cases h:H w.heap.size with
  | none=>rfl
  | some o =>
   have:=hp _ _ h;rw[Array.getElem?_eq_none (Nat.le_refl _)]at this;cases this
 obtain⟨cells,hc⟩:∃x,x=(([]:List Value).toArray++Builtin.zeroCells (Value.cells (Option.get t61.zero rfl)) (0+n - 0)++Builtin.zeroCells (Value.cells (Option.get t61.zero rfl)) (grownCap w (0+n) 0 61 - (0+n))):=⟨_,rfl⟩
 have e3:w'=w.drew.alloc (.cells cells 61):=by rw[hc];exact e2
 have hz:∀k,(Builtin.zeroCells (Value.cells (Option.get t61.zero rfl)) k).size=k*9:=fun k=>by
  show (Builtin.zeroCells _ k).size=_;simp [Builtin.zeroCells]
  rfl
 let H':Hp:=fun b=>if b=w.heap.size then some (.cells cells 61 (0,0)) else H b
 have hle:Le H H':=fun b o hb=>by
  show (if b=w.heap.size then _ else H b)=_;rw[if_neg (fun e=>by rw[e,cN]at hb;cases hb)];exact hb
 have TY:n≤grownCap w (0+n) 0 61:=by have:=grownCap_ge w (0+n) 0 61;omega
 have vl:maxLen=9223372036854775807:=rfl;refine⟨_,H',e1,hK _ _ ⟨hle,.inr ⟨w.heap.size,_,cells,rfl,cN,if_pos rfl,Nat.zero_le _,grownCap_le_maxLen w _ _ _ (by rw[vl];omega),?_,by simp⟩⟩,hle,?_,?_,?_⟩
 ·rw[hc];simp only[Array.size_append,hz,List.size_toArray,List.length_nil];show _=grownCap w (0+n) 0 61*9;omega
 ·intro b o hb;have hb:(if b=w.heap.size then some (.cells cells 61 (0,0)) else H b)=some o:=hb;rw[e3];split at hb
  ·rename_i e;rw[e,←hb];exact _root_.Go.heap_alloc_new w.drew _
  ·have h1:=hp b o hb;rw[←h1];exact _root_.Go.heap_alloc_old w.drew _ (Array.getElem?_eq_some_iff.1 h1).1
 ·intro b h1 h2;show (if b=w.heap.size then _ else H b)=none;rw[if_neg (by omega)];exact h1
 ·rw[e3];exact⟨⟨rfl,rfl,rfl,by show _≤(w.heap.push _).size;simp,fun k hk=>_root_.Go.heap_alloc_old w.drew _ hk⟩,Nat.le_succ _⟩
theorem J5 {n:Nat} (hn:n≤1000000000) {H:Hp} {K:SV→St→Hp→Prop} (Zf:n=0→K (.v (.slice none 0 0)) ⟨[],[],0⟩ H) (hK:∀H',Le H H'→K (.own 0) ⟨[],[(0,.row 61 9 [])],1⟩ H'):aY prog 183 [.v (.slice none 0 0),.v (.int .i64 (n:Nat))] [] 0 H K:=by
 rcases Nat.eq_zero_or_pos n with h0 | h0
 ·subst h0
  have hd:aq prog 183 [.slice none 0 0,.int .i64 ((0:Nat):Int)] H fun v H'=>v = .slice none 0 0∧H'=H :=
   ⟨call183,fun w hp=>(Any8.slices_Grow_room K2 none 0 0 0 w (Nat.le_refl _) (by omega) (by omega) (Nat.le_refl _)).mono fun e w' ⟨e1,e2⟩ =>
    ⟨_,H,e1,⟨rfl,rfl⟩,Le.refl H,fun b o hb=>by rw[e2];exact hp b o hb,fun b h1 _=>h1,by rw[e2];exact fx.refl _ _⟩⟩
  refine fF (fun _=>rfl) hd fun v H2 hle h=>.inl ⟨.v (.slice none 0 0),fun _=>?_,rfl,?_⟩
  ·rw[h.1];rfl
  ·rw[h.2];exact Zf rfl
 ·refine fF (fun _=>rfl) (Gp h0 hn (K:=fun v H'=>qp 61 9 [] H v H') fun _ _ h=>h) fun v H2 hle h=>.inr ⟨61,9,[],v,.own 0,fun ρ hρ=>hρ,rfl,h.new,fun y hy=>(by cases hy),fun H' ah _=>hK H' ah⟩
end Go.Proofs
end
section
namespace Go.Proofs
open Go.Sy
open Tryz
noncomputable def Zg:Cx:={ P:=prog,tt:=tt,n:=0,wrap:=false,base:=0,gf:=183::cx.gf,eqs:=cx.eqs,xf:=[] }
theorem R0:eH Zg:=⟨af.tt,af.eqs⟩
def jI {α:Type} (ls:List (List α)):Nat:=(ls.map List.length).sum
theorem qU {α:Type} {ls:List (List α)} {i:Nat} {x:List α} (h:ls[i]?=some x):jI (ls.take (i+1))=jI (ls.take i)+x.length:=by
 rw[jI,List.take_add_one,h,Option.toList_some,List.map_append,List.sum_append,←jI];simp
theorem xz {α:Type} (ls:List (List α)) (i:Nat):jI (ls.take i)≤jI ls:=by
 conv=>rhs;rw[←List.take_append_drop i ls]
 rw[jI,jI,List.map_append,List.sum_append];omega
theorem zM {α:Type} {ls:List (List α)} {i:Nat} {x:List α} (h:ls[i]?=some x):(ls.take (i+1)).flatten=(ls.take i).flatten++x:=by
 rw[List.take_add_one,h,Option.toList_some,List.flatten_append];simp
theorem zN {α:Type} (ls:List (List α)):ls.flatten.length=jI ls:=List.length_flatten
theorem dj {α:Type} [cq α] {P:Prop} {H:Hp} {a:Option Addr} {n c:Nat} {xs:List (List α)} (h:RL H a n c xs) {i:Nat} {x:List α} (hi:xs[i]?=some x) (k:∀ad a1 n1 c1,a=some ad→jz H ad (i:Int) 1 [.slice a1 n1 c1]→RL H a1 n1 c1 x→P):P :=
 kN h hi fun ad cs h1 h2 h3=>by
  obtain⟨a1,n1,c1,rfl,h4⟩:=h3;exact k ad a1 n1 c1 h1 h2 h4
theorem DN {ls:List (List Stmt)} (hl:jI ls≤2000000) {a:Option Addr} {n c:Nat} {H:Hp} {K:Value→Hp→Prop} (ha:RL H a n c ls)
  (hK:∀a1 n1 c1 H',Le H H'→RL H' a1 n1 c1 ls.flatten→K (.slice a1 n1 c1) H'):aq prog 121 [.slice a n c] H K:=by
 have dd:=ha.aB;have eI:=ha.le;refine ab R0 aa rfl func121 call121 ntmps121 results121 rfl rfl ?_
 refine⟨Nat,fun i=>⟨[(0,.v (.slice a n c)),(3,.v (.int .i64 (jI (ls.take i):Nat))),(9,.v (.slice a n c)),(10,.v (.int .i64 n)),(11,.v (.int .i64 i))],[],0⟩,
  fun i H'=>H'=H∧i≤ls.length,fun i=>ls.length - i,⟨0,[],?_,rfl,Nat.zero_le _⟩,?_⟩
 ·(repeat' first|exact trivial|refine⟨?_,?_⟩|exact rfl|assumption)
 rintro i H1 _ ⟨rfl,hi⟩;refine⟨fun h=>?_,fun h=>?_⟩
 ·have aj:i<ls.length:=by have:=dt h;omega
  refine aD ls[i] fun x Ds=>?_
  have oi:ls[i]?=some x:=by rw[Ds];exact aL aj
  have bc:=qU oi;have hle:=xz ls (i+1)
  refine dj ha oi fun ad a5 n5 c5 q1 hh ct=>?_
  have xl:=ct.aB;refine⟨ad,⟨by omega,by omega,q1⟩,?_⟩;refine⟨_,hh,?_⟩;refine⟨⟨by omega,by omega⟩,?_⟩;refine⟨fun h=>absurd (dt h) (by omega),fun _=>?_⟩;refine⟨⟨by omega,by omega⟩,i+1,[],?_,⟨rfl,aj⟩,by dsimp only;omega⟩
  have e:SV.v (.int .i64 ((jI (ls.take i):Nat)+(n5:Nat)))=SV.v (.int .i64 ((jI (ls.take (i+1)):Nat))):=by rw[bc,xl];rfl
  (repeat' first|exact trivial|refine⟨?_,?_⟩|exact rfl|assumption)
 ·have aX:i=ls.length:=by have:=df h;omega
  have e0:jI (ls.take i)=jI ls:=by rw[aX,List.take_length]
  rw[e0];refine⟨[],rfl,?_⟩;refine J5 (by omega) (fun _=>?_) (fun H2 ah=>?_)
  ·refine⟨Nat×List (List Value),fun z=>⟨[(6,.own 0),(25,.v (.slice a n c)),(26,.v (.int .i64 n)),(27,.v (.int .i64 z.1))],[(0,.row 61 9 z.2)],1⟩,
    fun z H'=>H'=H1∧z.1≤ls.length∧RC (α:=Stmt) H1 z.2 (ls.take z.1).flatten,fun z=>ls.length - z.1,⟨(0,[]),[],?_,rfl,Nat.zero_le _,RC.nil⟩,?_⟩
   ·(repeat' first|exact trivial|refine⟨?_,?_⟩|exact rfl|assumption)
   rintro⟨j,css⟩ H3 _ ⟨rfl,hj,bf⟩;dsimp only at hj bf;have fC:css.length=(ls.take j).flatten.length:=bf.1;rw[zN]at fC;refine⟨fun h=>?_,fun h=>?_⟩
   ·have aj:j<ls.length:=by have:=dt h;dsimp only at this;omega
    refine aD ls[j] fun x Ds=>?_
    have oi:ls[j]?=some x:=by rw[Ds];exact aL aj
    have bc:=qU oi;have hle:=xz ls (j+1)
    refine dj ha oi fun ad a5 n5 c5 q1 hh ct=>?_
    have xl:=ct.aB;refine⟨ad,⟨by dsimp only;omega,by dsimp only;omega,q1⟩,?_⟩;refine⟨_,hh,?_⟩;obtain⟨kZ,gF,Bm⟩:=ct.row;have zO:kZ.length=x.length:=Bm.1;refine⟨kZ,gF,?_⟩;refine⟨⟨by show (css.length+kZ.length)*96≤140737488355328;omega,by show css.length+kZ.length≤9223372036854775807;omega⟩,?_⟩
    have b8:RC (α:=Stmt) H3 (css++kZ) (ls.take (j+1)).flatten:=by rw[zM oi];exact bf.append Bm
    refine⟨⟨by omega,by omega⟩,(j+1,css++kZ),[(0,1)],?_,⟨rfl,aj,b8⟩,by dsimp only;omega⟩
    (repeat' first|exact trivial|refine⟨?_,?_⟩|exact rfl|assumption)
   ·have eD:j=ls.length:=by have:=df h;dsimp only at this;omega
    rw[eD,List.take_length]at bf;intro v H6 aI cZ;obtain⟨a7,n7,c7,rfl,dz⟩:=RL.aC (α:=Stmt) cZ (bf.up aI.le);exact hK _ _ _ _ (id aI.le) dz
  ·refine⟨Nat×List (List Value),fun z=>⟨[(6,.own 0),(25,.v (.slice a n c)),(26,.v (.int .i64 n)),(27,.v (.int .i64 z.1))],[(0,.row 61 9 z.2)],1⟩,
    fun z H'=>H'=H2∧z.1≤ls.length∧RC (α:=Stmt) H2 z.2 (ls.take z.1).flatten,fun z=>ls.length - z.1,⟨(0,[]),[(0,0)],?_,rfl,Nat.zero_le _,RC.nil⟩,?_⟩
   ·(repeat' first|exact trivial|refine⟨?_,?_⟩|exact rfl|assumption)
   rintro⟨j,css⟩ H3 _ ⟨rfl,hj,bf⟩;dsimp only at hj bf;have fC:css.length=(ls.take j).flatten.length:=bf.1;rw[zN]at fC;refine⟨fun h=>?_,fun h=>?_⟩
   ·have aj:j<ls.length:=by have:=dt h;dsimp only at this;omega
    refine aD ls[j] fun x Ds=>?_
    have oi:ls[j]?=some x:=by rw[Ds];exact aL aj
    have bc:=qU oi;have hle:=xz ls (j+1)
    refine dj (ha.up ah) oi fun ad a5 n5 c5 q1 hh ct=>?_
    have xl:=ct.aB;refine⟨ad,⟨by dsimp only;omega,by dsimp only;omega,q1⟩,?_⟩;refine⟨_,hh,?_⟩;obtain⟨kZ,gF,Bm⟩:=ct.row;have zO:kZ.length=x.length:=Bm.1;refine⟨kZ,gF,?_⟩;refine⟨⟨by show (css.length+kZ.length)*96≤140737488355328;omega,by show css.length+kZ.length≤9223372036854775807;omega⟩,?_⟩
    have b8:RC (α:=Stmt) H3 (css++kZ) (ls.take (j+1)).flatten:=by rw[zM oi];exact bf.append Bm
    refine⟨⟨by omega,by omega⟩,(j+1,css++kZ),[(0,1)],?_,⟨rfl,aj,b8⟩,by dsimp only;omega⟩
    (repeat' first|exact trivial|refine⟨?_,?_⟩|exact rfl|assumption)
   ·have eD:j=ls.length:=by have:=df h;dsimp only at this;omega
    rw[eD,List.take_length]at bf;intro v H6 aI cZ;obtain⟨a7,n7,c7,rfl,dz⟩:=RL.aC (α:=Stmt) cZ (bf.up aI.le);exact hK _ _ _ _ (ah.trans aI.le) dz
end Go.Proofs
end
section
namespace Go.Proofs
open Go.Sy
open Tryz
theorem Ph (xs:List (List Value)) (z:List Value) {i j:Nat} (Me:i<j) (hj:j≤xs.length):
  ∃R1 R2:List (List Value),∃n:Nat,R1=xs.take (0+(i - 0))++(xs.drop j).take (xs.length - j)++xs.drop (0+(i - 0)+((xs.drop j).take (xs.length - j)).length) ∧
   n=i - 0+((xs.drop j).take (xs.length - j)).length∧n=i+(xs.length - j)∧R1.length=xs.length ∧
   R2=R1.take (0+n)++List.replicate (xs.length - n) z++R1.drop (0+n+(xs.length - n))∧R2.length=xs.length∧R2.take n=xs.take i++xs.drop j:=by
 have KQ:(xs.drop j).take (xs.length - j)=xs.drop j:=List.take_of_length_le (by simp);refine⟨_,_,_,rfl,rfl,?_,?_,rfl,?_,?_⟩
 ·rw[KQ];simp
 ·rw[KQ];simp;omega
 ·rw[KQ];simp;omega
 ·rw[KQ]
  have e1:(xs.take (0+(i - 0))++xs.drop j).length=i - 0+(xs.drop j).length:=by simp;omega
  have e2:(xs.take (0+(i - 0))++xs.drop j++xs.drop (0+(i - 0)+(xs.drop j).length)).take (0+(i - 0+(xs.drop j).length))=xs.take i++xs.drop j:=by
   rw[Nat.zero_add,←e1,List.take_left];simp
  rw[e2]
  have e3:(xs.take i++xs.drop j).length=i - 0+(xs.drop j).length:=by simp;omega
  rw[←e3,List.append_assoc,List.take_left]
theorem Bn {i j:Nat} {xs:List (List Value)} (Me:i<j) (hj:j≤xs.length) (_hm:xs.length≤9223372036854775807) {H:Hp} {K:SV→St→Hp→Prop}
  (hK:K (.own 1) ⟨[],[(0,.dead),(1,.row 66 8 (xs.take i++xs.drop j))],2⟩ H):aY prog 122 [.own 0,.v (.int .i64 i),.v (.int .i64 j)] [(0,.row 66 8 xs)] 1 H K:=by
 obtain⟨R1,R2,n,h1,h2,h3,h4,h5,h6,h7⟩:=Ph xs [.string (bs []),.slice none 0 0,.int .i64 0,.string (bs []),.int .i64 0,.int .i64 0,.string (bs []),.string (bs [])] Me hj;refine aJ af aa func122 call122 ntmps122 results122 rfl rfl ?_;refine .inr ?_;refine⟨⟨by omega,by omega,by omega,by omega⟩,?_⟩;intro v;refine⟨fun h=>?_,fun h=>?_⟩
 ·have:=dt h;omega
 ·refine⟨some ([0],[0,1,2,3,4,5,6,7]),by kernel_rfl,?_⟩;refine⟨⟨by omega,by omega,by omega⟩,?_⟩;refine⟨⟨by omega,by omega,by omega⟩,?_⟩
  have KQ:((xs.drop j).take (xs.length - j)).length=xs.length - j:=by simp
  refine⟨by show j+(xs.length - j)≤_;omega,?_⟩;refine⟨by show 0+(i - 0)+((xs.drop j).take (xs.length - j)).length≤_;omega,?_⟩;refine .inl ?_;refine .inl ?_;refine⟨⟨by omega,by show ((i - 0+((xs.drop j).take (xs.length - j)).length:Nat):Int)≤_;omega,by show (((0:Nat)):Int)+_≤((xs.take (0+(i - 0))++(xs.drop j).take (xs.length - j)++xs.drop (0+(i - 0)+((xs.drop j).take (xs.length - j)).length)).length:Int);rw[←h1,h4];omega⟩,fun h=>?_,fun h=>?_⟩
  ·refine⟨by show 0+(i - 0+((xs.drop j).take (xs.length - j)).length)+(xs.length - (i - 0+((xs.drop j).take (xs.length - j)).length))≤(xs.take (0+(i - 0))++(xs.drop j).take (xs.length - j)++xs.drop (0+(i - 0)+((xs.drop j).take (xs.length - j)).length)).length;rw[←h1,h4];omega,?_⟩;refine .inl ?_;refine .inl ?_;refine⟨by show (i - 0+((xs.drop j).take (xs.length - j)).length)≤((xs.take (0+(i - 0))++(xs.drop j).take (xs.length - j)++xs.drop (0+(i - 0)+((xs.drop j).take (xs.length - j)).length)).take (0+(i - 0+((xs.drop j).take (xs.length - j)).length))++List.replicate (xs.length - (i - 0+((xs.drop j).take (xs.length - j)).length)) [Value.string (bs []),Value.slice none 0 0,Value.int .i64 0,Value.string (bs []),Value.int .i64 0,Value.int .i64 0,Value.string (bs []),Value.string (bs [])]++(xs.take (0+(i - 0))++(xs.drop j).take (xs.length - j)++xs.drop (0+(i - 0)+((xs.drop j).take (xs.length - j)).length)).drop (0+(i - 0+((xs.drop j).take (xs.length - j)).length)+(xs.length - (i - 0+((xs.drop j).take (xs.length - j)).length)))).length;rw[←h1,←h2,←h5,h6];omega,?_⟩
   have e9:((xs.take (0+(i - 0))++(xs.drop j).take (xs.length - j)++xs.drop (0+(i - 0)+((xs.drop j).take (xs.length - j)).length)).take (0+(i - 0+((xs.drop j).take (xs.length - j)).length))++List.replicate (xs.length - (i - 0+((xs.drop j).take (xs.length - j)).length)) [Value.string (bs []),Value.slice none 0 0,Value.int .i64 0,Value.string (bs []),Value.int .i64 0,Value.int .i64 0,Value.string (bs []),Value.string (bs [])]++(xs.take (0+(i - 0))++(xs.drop j).take (xs.length - j)++xs.drop (0+(i - 0)+((xs.drop j).take (xs.length - j)).length)).drop (0+(i - 0+((xs.drop j).take (xs.length - j)).length)+(xs.length - (i - 0+((xs.drop j).take (xs.length - j)).length)))).take (i - 0+((xs.drop j).take (xs.length - j)).length)=xs.take i++xs.drop j:=by rw[←h1,←h2,←h5,h7]
   exact⟨.own 1,[(0,.dead),(1,.row 66 8 (xs.take i++xs.drop j))],2,[(0,0),(1,1)],⟨⟨rfl,trivial⟩,⟨trivial,e9,trivial⟩⟩,hK⟩
  ·exfalso;have h':(((i - 0+((xs.drop j).take (xs.length - j)).length):Nat):Int)=(xs.length:Int):=h;omega
theorem DO {x y:Int} {i j:Nat} (hx:x=i) (hy:y=j) {xs:List (List Value)} (Me:i<j) (hj:j≤xs.length) (hm:xs.length≤9223372036854775807) {H:Hp} {K:SV→St→Hp→Prop}
  (hK:K (.own 1) ⟨[],[(0,.dead),(1,.row 66 8 (xs.take i++xs.drop j))],2⟩ H):aY prog 122 [.own 0,.v (.int .i64 x),.v (.int .i64 y)] [(0,.row 66 8 xs)] 1 H K:=by
 subst hx;subst hy;exact Bn Me hj hm hK
end Go.Proofs
end
section
namespace Go.Proofs
open Go.Sy
open Tryz
theorem RC.drop {α:Type} [cq α] {H:Hp} {css:List (List Value)} {xs:List α} (h:RC H css xs) (k:Nat):RC H (css.drop k) (xs.drop k):=by
 have hl:css.length=xs.length:=h.1;refine⟨by rw[List.length_drop,List.length_drop,hl],fun i cs x h1 h2=>?_⟩;rw[List.getElem?_drop]at h1 h2;exact h.2 _ cs x h1 h2
theorem xA {q:Prog} (hq:aw q≤1000000) {a t:Nat} (Ql:t≠a) (ht:t<q.length) (ha:a<q.length) (hlen:q.length≤1000) {css:List (List Value)} {H:Hp} {K:SV→St→Hp→Prop} (bf:RC (α:=Block) H css q)
  (hK:∀J6 H',Le H H'→RC (α:=Block) H' J6 (ej q a t)→K (.eo []) ⟨[],[(0,.cells 24 [.own 2]),(1,.dead),(2,.row 66 8 J6)],3⟩ H'):
  aY prog 120 [.v (.int .i64 a),.v (.int .i64 t),.ptr 0 0] [(0,.cells 24 [.own 1]),(1,.row 66 8 css)] 2 H K:=by
 refine aJ af aa func120 call120 ntmps120 results120 rfl rfl ?_;have fC:css.length=q.length:=bf.1
 refine aD q[a] fun x Ds=>?_
 refine aD q[t] fun y Pj=>?_
 have hx:q[a]?=some x:=by rw[Ds];exact aL ha
 have hy:q[t]?=some y:=by rw[Pj];exact aL ht
 have hj:=mI hx hy
 refine qR bf hx fun a1 n1 c1 rC bh rP B6=>?_
 refine qR bf hy fun a2 n2 c2 rB bj N2 Wt=>?_
 have Um:css[(a:Int).toNat]?=_:=rC;have Wu:css[(t:Int).toNat]?=_:=rB;refine⟨some ([1,2],[0,1,2,3,4,5,6,7,8,9,10,11,12,13,14,15,16,17,18,19]),by kernel_rfl,?_⟩;refine⟨⟨by omega,by omega⟩,?_⟩;refine⟨_,Um,?_⟩;refine⟨⟨by omega,by omega⟩,?_⟩;refine⟨_,Wu,?_⟩;intro w H1 ak hw;have rO:RC (α:=List Stmt) H1 [[.slice a1 n1 c1],[.slice a2 n2 c2]] [x.2.1,y.2.1]:=((RC.nil (α:=List Stmt)).snoc (show cq.R (α:=List Stmt) H1 [.slice a1 n1 c1] x.2.1 from ⟨a1,n1,c1,rfl,bh.up ak.le⟩)).snoc (show cq.R (α:=List Stmt) H1 [.slice a2 n2 c2] y.2.1 from ⟨a2,n2,c2,rfl,bj.up ak.le⟩);obtain⟨a3,n3,c3,rfl,db⟩:=RL.aC (α:=List Stmt) hw rO;have Zh:=Bl (fun b=>b.2.1.length) (y:=y) hx;have LS:=sq hx;have vi:=sq hy
 have Wv:jI [x.2.1,y.2.1]≤2000000:=by simp only[jI,List.map_cons,List.map_nil,List.sum_cons,List.sum_nil];omega
 refine DN Wv db fun a4 n4 c4 H2 ah fm=>?_
 have hle:Le H H2:=ak.le.trans ah
 have ef:[x.2.1,y.2.1].flatten=x.2.1++y.2.1:=by simp
 rw[ef]at fm;refine⟨⟨by omega,by omega⟩,?_⟩;refine⟨_,Um,?_⟩;have sZ:(a:Int).toNat=a:=rfl;have zq:(css.set (a:Int).toNat [.string (bs x.1.l),.slice a4 n4 c4,.int .i64 x.2.2.1,.string (bs x.2.2.2.1.1.l),.int .i64 x.2.2.2.1.2.1,.int .i64 x.2.2.2.1.2.2,.string (bs x.2.2.2.2.1.l),.string (bs x.2.2.2.2.2.l)])[(t:Int).toNat]?=_:=(List.getElem?_set_ne (by rw[sZ];exact fun e=>Ql e.symm)).trans rB;have Zi:(css.set (a:Int).toNat [.string (bs x.1.l),.slice a4 n4 c4,.int .i64 x.2.2.1,.string (bs x.2.2.2.1.1.l),.int .i64 x.2.2.2.1.2.1,.int .i64 x.2.2.2.1.2.2,.string (bs x.2.2.2.2.1.l),.string (bs x.2.2.2.2.2.l)])[(a:Int).toNat]?=some [.string (bs x.1.l),.slice a4 n4 c4,.int .i64 x.2.2.1,.string (bs x.2.2.2.1.1.l),.int .i64 x.2.2.2.1.2.1,.int .i64 x.2.2.2.1.2.2,.string (bs x.2.2.2.2.1.l),.string (bs x.2.2.2.2.2.l)]:=List.getElem?_set_self (by rw[sZ];omega)
 have j1:(css.set (a:Int).toNat [.string (bs x.1.l),.slice a4 n4 c4,.int .i64 x.2.2.1,.string (bs x.2.2.2.1.1.l),.int .i64 x.2.2.2.1.2.1,.int .i64 x.2.2.2.1.2.2,.string (bs x.2.2.2.2.1.l),.string (bs x.2.2.2.2.2.l)]).length=q.length:=by rw[List.length_set];exact fC
 refine⟨some ([1],[0,1,2,3,4,5,6,7,8,9,10,11]),by kernel_rfl,?_⟩;refine⟨⟨by omega,by rw[List.length_set];omega⟩,?_⟩;refine⟨_,zq,?_⟩;refine⟨⟨by omega,by rw[List.length_set];omega⟩,?_⟩;refine⟨_,Zi,?_⟩;refine⟨⟨by omega,by omega⟩,?_⟩
 have b8:RC (α:=Block) H2 ((css.set a [.string (bs x.1.l),.slice a4 n4 c4,.int .i64 x.2.2.1,.string (bs x.2.2.2.1.1.l),.int .i64 x.2.2.2.1.2.1,.int .i64 x.2.2.2.1.2.2,.string (bs x.2.2.2.2.1.l),.string (bs x.2.2.2.2.2.l)]).set a (.string (bs (ft x y).1.l) :: .slice a4 n4 c4::dg (ft x y).2.2)) (q.set a (ft x y)):=by
  rw[List.set_set];exact ME (bf.up hle) (dD fm rP Wt)
 have nC:RC (α:=Block) H2 (((css.set a [.string (bs x.1.l),.slice a4 n4 c4,.int .i64 x.2.2.1,.string (bs x.2.2.2.1.1.l),.int .i64 x.2.2.2.1.2.1,.int .i64 x.2.2.2.1.2.2,.string (bs x.2.2.2.2.1.l),.string (bs x.2.2.2.2.2.l)]).set a (.string (bs (ft x y).1.l) :: .slice a4 n4 c4::dg (ft x y).2.2)).take t++((css.set a [.string (bs x.1.l),.slice a4 n4 c4,.int .i64 x.2.2.1,.string (bs x.2.2.2.1.1.l),.int .i64 x.2.2.2.1.2.1,.int .i64 x.2.2.2.1.2.2,.string (bs x.2.2.2.2.1.l),.string (bs x.2.2.2.2.2.l)]).set a (.string (bs (ft x y).1.l) :: .slice a4 n4 c4::dg (ft x y).2.2)).drop (t+1)) (ej q a t):=by
  rw[hj,List.eraseIdx_eq_take_drop_succ];exact (b8.take t).append (RC.drop b8 (t+1))
 refine⟨[1],rfl,DO (i:=t) (j:=t+1) rfl rfl (by omega) (by rw[List.length_set,List.length_set];omega) (by rw[List.length_set,List.length_set];omega) ?_⟩;refine⟨.eo [],[(0,.cells 24 [.own 2]),(1,.dead),(2,.row 66 8 _)],3,[(0,0),(1,1),(2,3)],?_,hK _ H2 hle nC⟩
 (repeat' first|exact trivial|refine⟨?_,?_⟩|exact rfl|assumption)
end Go.Proofs
end
section
namespace Go.Proofs
open Go.Sy
open Tryz
variable {H:Hp} {K:Value→Hp→Prop}
noncomputable def Zj:Cx:={ P:=prog,tt:=tt,n:=0,wrap:=false,base:=0,gf:=75::cx.gf,eqs:=cx.eqs,xf:=[] }
theorem R3:eH Zj:=⟨af.tt,af.eqs⟩
theorem xB {p:Prog} (hp:p.length≤12) (hl:∀b∈p,b.2.1.length≤1000000) (hc:aw p≤1000000) (hv:iE p<400000) {a:Option Addr} {n c:Nat} {H:Hp} {K:SV→St→Hp→Prop} (ha:RL H a n c p)
  (fK:al p≠0→∀H',Le H H'→K (.eo [.agg [.v (.slice none 0 0)],.v (.int .i64 (al p))]) ⟨[],[],0⟩ H')
  (hK:al p=0→∀css R H',Le H H'→bD R→cy (p.length:Nat) (aR (aG (aP p))) [0] R→RC (α:=Block) H' css (cm (aP p) R p.length)→K (.eo [.agg [.own 0],.v (.int .i64 0)]) ⟨[],[(0,.row 66 8 css)],1⟩ H'):
  aY prog 75 [.agg [.v (.slice a n c)]] [] 0 H K:=by
 refine fF (args:=[.agg #[.slice a n c]]) (fun _=>rfl) (uL hp hl hc hv ha (K:=fun v H'=>(al p≠0∧v = .tuple #[.agg #[.slice none 0 0],.int .i64 (al p)])∨(al p=0∧∃x css R H3,v = .tuple #[.agg #[x],.int .i64 0]∧Le H H3∧bD R∧cy (p.length:Nat) (aR (aG (aP p))) [0] R∧RC (α:=Block) H3 css (cm (aP p) R p.length)∧qp 66 8 css H3 x H'))
  (fun he _ _=>.inl ⟨he,rfl⟩) (fun he v css R H3 H' h1 h2 h3 h4 h5 _=>.inr ⟨he,v,css,R,H3,rfl,h1,h2,h3,h4,h5⟩)) ?_
 rintro v H2 hle (⟨he,rfl⟩ | ⟨he,x,css,R,H3,rfl,h1,hS,hR,h2,h3⟩)
 ·exact .inl ⟨.eo [.agg [.v (.slice none 0 0)],.v (.int .i64 (al p))],fun _=>rfl,rfl,fK he H2 hle⟩
 ·refine .inr ⟨66,8,css,x,.eo [.agg [.own 0],.v (.int .i64 0)],fun ρ hρ=>?_,rfl,(qp.base h1 h3).new,fun y hy=>?_,fun H' ah iF=>hK he css R H' ah hS hR (h2.up fun b o hb=>iF b o (h3.le b o hb) fun e=>?_)⟩
  ·show Value.tuple #[Value.agg #[ρ.val 0],.int .i64 0]=_;rw[hρ]
  ·obtain⟨i,hi⟩:=List.getElem?_of_mem hy;have aj:=(gh.1 hi).1;have fC:css.length=(cm (aP p) R p.length).length:=h2.1;have:=h2.2 i y ((cm (aP p) R p.length)[i]'(by omega)) hi (aL _);exact⟨cq.len this,cq.one this⟩
  ·rcases h3.new with ⟨h4,_⟩ | ⟨g,cap,cc,h4,h5,_⟩
   ·rw[h4]at e;cases e
   ·rw[h4]at e;simp only[Value.ownBlock,Option.some.injEq]at e;subst e;rw[h5]at hb;cases hb
theorem zP {q:Prog} (hq:q.length≤12) (h:ja q=none) {a:Option Addr} {n c:Nat} (ha:RL H a n c q) (hK:∀H',Le H H'→K (.tuple #[.int .i64 0,.int .i64 0,.bool false]) H'):aq prog 123 [.agg #[.slice a n c]] H K :=
 zL hq ha (by rw[h];exact hK)
theorem zQ {q:Prog} (hq:q.length≤12) {i t:Nat} (h:ja q=some (i,t)) {a:Option Addr} {n c:Nat} (ha:RL H a n c q) (hK:∀H',Le H H'→K (.tuple #[.int .i64 i,.int .i64 t,.bool true]) H'):aq prog 123 [.agg #[.slice a n c]] H K :=
 zL hq ha (by rw[h];exact hK)
theorem oZ (q:Prog) (R:List Int):∀i,i≤q.length→aw (cm q R i)≤aw (q.take i)
 | 0,_=>by simp [cm,aw]
 | i+1,h=>by
  have hb:q[i]?=some q[i]:=aL h;have h1:=oZ q R i (by omega);have h2:=oT hb;rw[xv hb,h2]
  have h3:∀x y:Prog,aw (x++y)=aw x+aw y:=fun x y=>by rw[aw,List.map_append,List.sum_append];rfl
  rw[h3];split
  ·have h4:aw [q[i]]=q[i].2.1.length:=by simp [aw]
   rw[h4];omega
  ·have h4:aw []=0:=rfl
   rw[h4];omega
theorem o0 (p:Prog):aw (aP p)=aw p:=by
 rw[aw,aw,aP,List.map_map];rfl
theorem DP {p:Prog} (hp:p.length≤12) (hl:∀b∈p,b.2.1.length≤1000000) (hc:aw p≤1000000) (hv:iE p<400000) {a:Option Addr} {n c:Nat} (ha:RL H a n c p)
  (fK:al p≠0→∀H',Le H H'→K (.tuple #[.agg #[.slice none 0 0],.int .i64 (al p)]) H')
  (hK:al p=0→∀a1 n1 c1 R r H',Le H H'→bD R→cy (p.length:Nat) (aR (aG (aP p))) [0] R→E7 (cm (aP p) R p.length) r→RL H' a1 n1 c1 r→K (.tuple #[.agg #[.slice a1 n1 c1],.int .i64 0]) H'):aq prog 76 [.agg #[.slice a n c]] H K:=by
 refine ab R3 aa rfl func76 call76 ntmps76 results76 rfl rfl ?_
 by_cases he:al p=0
 ·refine .inr ⟨Prog×List Int×List (List Value),fun _=>0,fun z=>⟨[(2,.ptr 1 0),(4,.ptr 3 0),(6,.fn 120 [.ptr 3 0])],[(1,.cells 24 [.v (.slice none 0 0)]),(3,.cells 24 [.own 4]),(4,.row 66 8 z.2.2)],5⟩,
   fun z H'=>Le H H'∧RC (α:=Block) H' z.2.2 z.1∧z.1.length≤12∧aw z.1≤1000000∧bD z.2.1∧cy (p.length:Nat) (aR (aG (aP p))) [0] z.2.1∧∀r,E7 z.1 r→E7 (cm (aP p) z.2.1 p.length) r,fun z=>z.1.length,?_,?_⟩
  ·refine⟨[],rfl,xB hp hl hc hv ha (fun h=>absurd he h) fun _ css R H1 ak hS hR bf=>?_⟩;refine⟨fun h=>absurd rfl (nt h),fun _=>?_⟩;have hq:(cm (aP p) R p.length).length≤12:=Nat.le_trans (pZ _ _ _) hp
   have bc:aw (cm (aP p) R p.length)≤1000000:=by
    have h1:=oZ (aP p) R p.length (by rw[cB];exact Nat.le_refl _);have h2:=ky (aP p) p.length;rw[o0]at h2;omega
   have hM:∀r,E7 (cm (aP p) R p.length) r→E7 (cm (aP p) R p.length) r:=fun r h=>h
   intro v H2 ah xr;obtain⟨a3,n3,c3,rfl,db⟩:=RL.aC (α:=Block) xr (bf.up ah.le)
   rcases DQ:ja (cm (aP p) R p.length) with _ | ⟨i,t⟩
   ·refine zP hq DQ db fun _ _=>?_
    refine⟨(fun h=>by cases h),fun _=>?_⟩;intro v H5 aK R4;obtain⟨a6,n6,c6,rfl,ji⟩:=RL.aC (α:=Block) R4 (bf.up aK.le);exact hK he _ _ _ R _ _ (ak.trans aK.le) hS hR (hM _ (.stop DQ)) ji
   ·obtain⟨h1,h2,h3⟩:=jH DQ
    refine zQ hq DQ db fun _ _=>?_
    refine⟨fun _=>?_,(fun h=>by cases h)⟩;have eD:=jm h2 h3;have XJ:=lH h1 h2 h3;refine⟨[3,2],rfl,xA bc h1 h2 h3 (by omega) bf fun J6 H3 az nC=>?_⟩;refine⟨(ej (cm (aP p) R p.length) i t,R,J6),[(1,1),(3,3),(4,4)],rfl,?_,⟨ak.trans az,nC,by dsimp only;omega,by dsimp only;omega,hS,hR,fun r hr=>hM r (.step DQ hr)⟩⟩
    (repeat' first|exact trivial|refine⟨?_,?_⟩|exact rfl|assumption)
  ·rintro⟨q,R,css⟩ H1 _ ⟨ak,bf,hq,bc,hS,hR,hM⟩;dsimp only at bf hq bc hS hR hM;intro v H2 ah xr;obtain⟨a3,n3,c3,rfl,db⟩:=RL.aC (α:=Block) xr (bf.up ah.le)
   rcases DQ:ja q with _ | ⟨i,t⟩
   ·refine zP hq DQ db fun _ _=>?_
    refine⟨(fun h=>by cases h),fun _=>?_⟩;intro v H5 aK R4;obtain⟨a6,n6,c6,rfl,ji⟩:=RL.aC (α:=Block) R4 (bf.up aK.le);exact hK he _ _ _ R _ _ (ak.trans aK.le) hS hR (hM _ (.stop DQ)) ji
   ·obtain⟨h1,h2,h3⟩:=jH DQ
    refine zQ hq DQ db fun _ _=>?_
    refine⟨fun _=>?_,(fun h=>by cases h)⟩;have eD:=jm h2 h3;have XJ:=lH h1 h2 h3;refine⟨[3,4],rfl,xA bc h1 h2 h3 (by omega) bf fun J6 H3 az nC=>?_⟩;refine⟨(ej q i t,R,J6),[(1,1),(3,3),(4,5)],rfl,?_,⟨ak.trans az,nC,by dsimp only;omega,by dsimp only;omega,hS,hR,fun r hr=>hM r (.step DQ hr)⟩,by dsimp only;omega⟩
    (repeat' first|exact trivial|refine⟨?_,?_⟩|exact rfl|assumption)
 ·refine .inl ⟨0,?_⟩;refine⟨[],rfl,xB hp hl hc hv ha (fun _ H1 ak=>?_) fun h=>absurd h he⟩;refine⟨fun _=>?_,fun h=>absurd (nf h) he⟩;exact fK he _ ak
end Go.Proofs
end
section
namespace Go.Proofs
open Go.Sy
open Tryz
theorem qV {P:Prop} {H:Hp} {a:Option Addr} {n c:Nat} {xs:List cV} (h:RL H a n c xs) {i:Nat} {x:cV} (hi:xs[i]?=some x) (k:∀ad,a=some ad→jz H ad (i:Int) 2 [.int .i64 x.1,.int .i64 x.2]→P):P :=
 kN h hi fun ad cs h1 h2 h3=>by
  obtain⟨rfl,_⟩:=fX h3;exact k ad h1 h2
theorem Gq {α:Type} {f:α→Bool} {l:List α} {i:Nat} {x:α} (h:l[i]?=some x):(l.take (i+1)).countP f=(l.take i).countP f+(if f x then 1 else 0):=by
 rw[List.take_add_one,h,Option.toList_some,List.countP_append,List.countP_singleton]
theorem yD {α:Type} (f:α→Bool) (l:List α) (i:Nat):(l.take i).countP f≤l.length:=by
 have h1:=List.countP_le_length (p:=f) (l:=l.take i);rw[List.length_take]at h1;omega
theorem DR {p:Prog}:∀(l:List Block) (i:Nat),∀e∈cO p l i,0≤e.2
 | [],_,e,he=>by simp [cO]at he
 | b::r,i,e,he=>by
  rw[cO]at he
  have hN:∀t,e∈eN p i t→0≤e.2:=fun t h=>by
   unfold eN at h;split at h
   ·rename_i h0
    simp only[List.mem_cons,List.not_mem_nil,or_false]at h;rw[h];exact h0
   ·cases h
  rcases List.mem_append.1 he with he | he
  ·unfold eB at he
   rcases List.mem_append.1 he with he | he
   ·split at he
    ·exact hN _ he
    ·cases he
   ·split at he
    ·exact hN _ he
    ·cases he
  ·exact DR r (i+1) e he
theorem QF {α:Type} [cq α] {P:Prop} {H:Hp} {a:Option Addr} {n c:Nat} {xs:List α} (h:RL H a n c xs) (k:∀css,aW H (.slice a n c) (cq.sz α) css→RC H css xs→css.length=xs.length→P):P:=by
 obtain⟨css,h1,h2⟩:=h.row;exact k css h1 h2 h2.1
theorem MS {c8 c9:List (List Value)} (h8:c8.length≤1000000) (h9:c9.length≤1000000):(([]++c8).length+c9.length)*96≤140737488355328∧([]++c8).length+c9.length≤9223372036854775807:=by
 rw[List.nil_append];omega
theorem bZ {α:Type} [cq α] {P:Prop} {H:Hp} {v:Value} {css:List (List Value)} {xs:List α} (h:aW H v (cq.sz α) css) (hc:RC H css xs) (k:∀a n c,v = .slice a n c→RL H a n c xs→P):P:=by
 obtain⟨a,n,c,e,hr⟩:=RL.aC h hc;exact k a n c e hr
theorem zR {q:Prog} (hq:q.length≤12) (bc:aw q≤1000000) {a:Option Addr} {n c:Nat} {H:Hp} {K:Value→Hp→Prop} (ha:RL H a n c q)
  (hN:ja q=none→∀H',Le H H'→K (.tuple #[.agg #[.slice a n c],.bool false]) H')
  (hS:∀i t,ja q=some (i,t)→∀a1 n1 c1 H',Le H H'→RL H' a1 n1 c1 (ej q i t)→K (.tuple #[.agg #[.slice a1 n1 c1],.bool true]) H'):aq prog 86 [.agg #[.slice a n c]] H K:=by
 have dd:=ha.aB;have eI:=ha.le;refine ab af aa rfl func86 call86 ntmps86 results86 rfl rfl ?_
 refine cw hq ha fun a1 n1 c1 H1 ak bh=>?_
 have Zk:=bh.aB
 have gq:(aR (aG q)).length≤1000000:=by
  have h1:=dP (aG q);have h2:(aG q).length≤2*q.length:=fa _ _ 0;omega
 have Vh:=ha.up ak
 refine⟨Nat,fun i=>⟨[(1,.ptr 0 0),(2,.ptr 1 0),(4,.v (.slice a1 n1 c1)),(17,.v (.slice a n c)),(18,.v (.int .i64 n)),(19,.v (.int .i64 i))],[(0,.cells 24 [.v (.slice a n c)]),(1,.cells 24 [.v (.slice none 0 0)])],2⟩,
  fun i H'=>H'=H1∧i≤q.length∧fL q i=none,fun i=>q.length - i,⟨0,[(0,0),(1,1)],?_,rfl,Nat.zero_le _,rfl⟩,?_⟩
 ·(repeat' first|exact trivial|refine⟨?_,?_⟩|exact rfl|assumption)
 rintro i H2 _ ⟨rfl,hi,hf⟩;refine⟨fun h=>?_,fun h=>?_⟩
 ·have aj:i<q.length:=by have:=dt h;omega
  refine aD q[i] fun b gV=>?_
  have bG:q[i]?=some b:=by rw[gV];exact aL aj
  have hT:=p5 q b
  have Uk:MP q i=if Iq q i b then some (i,(zJ q b).toNat) else none:=by rw[MP,bG]
  have fE:Iq q i b=false→fL q (i+1)=none:=fun h=>by rw[ij,hf,Uk,h];rfl
  have DM:Iq q i b=true→ja q=some (i,(zJ q b).toNat):=fun h=>DL aj hf (by rw[Uk,h];rfl)
  refine bF Vh bG fun ad a5 n5 c5 q1 hh ct xw vR=>?_
  refine⟨ad,⟨by omega,by omega,q1⟩,?_⟩;refine⟨_,hh,?_⟩;refine⟨fun h1=>?_,fun h1=>?_⟩
  ·have h1:¬b.2.2.1=1:=nt h1;refine⟨⟨by omega,by omega⟩,i+1,[(0,0),(1,1)],?_,⟨rfl,aj,fE (by rw[Iq,decide_eq_false h1];simp)⟩,by dsimp only;omega⟩
   (repeat' first|exact trivial|refine⟨?_,?_⟩|exact rfl|assumption)
  have h1:b.2.2.1=1:=nf h1;refine jG hq Vh ?_
  refine aD (zJ q b) fun t Pg=>?_
  have RZ:bw b.2.2.2.2.1.l (List.map (fun x=>x.1.l) q) 0=t:=Pg.symm;rw[RZ];rw[←Pg]at hT DM
  have ca:Iq q i b=(decide (b.2.2.1=1)&&decide (0<t)&&!decide (t=(i:Int))&&decide (mH q t=1)):=by rw[Iq,←Pg]
  refine⟨Nat,fun j=>⟨[(1,.ptr 0 0),(2,.ptr 1 0),(4,.v (.slice a1 n1 c1)),(5,.v (.int .i64 (i:Nat))),(7,.v (.int .i64 t)),(8,.v (.int .i64 (((aR (aG q)).take j).countP fun e=>decide (e.2=t):Nat))),(17,.v (.slice a n c)),(18,.v (.int .i64 n)),(19,.v (.int .i64 (i:Nat))),
    (33,.v (.slice a1 n1 c1)),(34,.v (.int .i64 n1)),(35,.v (.int .i64 j))],[(0,.cells 24 [.v (.slice a n c)]),(1,.cells 24 [.v (.slice none 0 0)])],2⟩,
   fun j H'=>H'=H2∧j≤(aR (aG q)).length,fun j=>(aR (aG q)).length - j,⟨0,[(0,0),(1,1)],?_,rfl,Nat.zero_le _⟩,?_⟩
  ·(repeat' first|exact trivial|refine⟨?_,?_⟩|exact rfl|assumption)
  rintro j H3 _ ⟨rfl,hj⟩;refine⟨fun h=>?_,fun h=>?_⟩
  ·have eD:j<(aR (aG q)).length:=by have:=dt h;omega
   refine aD (aR (aG q))[j] fun e yw=>?_
   have sr:(aR (aG q))[j]?=some e:=by rw[yw];exact aL eD
   have kk:=Gq (f:=fun (e:cV)=>decide (e.2=t)) sr;have fC:=yD (fun (e:cV)=>decide (e.2=t)) (aR (aG q)) j
   refine qV bh sr fun ad e1 gj=>?_
   refine⟨ad,⟨by omega,by omega,e1⟩,?_⟩;refine⟨_,gj,?_⟩;refine⟨fun h2=>?_,fun h2=>?_⟩
   ·have h2:e.2=t:=dt h2;refine⟨⟨by omega,by omega⟩,?_⟩;refine⟨⟨by omega,by omega⟩,j+1,[(0,0),(1,1)],?_,⟨rfl,eD⟩,by dsimp only;omega⟩
    have ec:SV.v (.int .i64 ((((aR (aG q)).take j).countP fun e=>decide (e.2=t):Nat)+1))=SV.v (.int .i64 (((aR (aG q)).take (j+1)).countP fun e=>decide (e.2=t):Nat)):=by rw[kk,decide_eq_true h2];rfl
    (repeat' first|exact trivial|refine⟨?_,?_⟩|exact rfl|assumption)
   ·have h2:¬e.2=t:=df h2;refine⟨⟨by omega,by omega⟩,j+1,[(0,0),(1,1)],?_,⟨rfl,eD⟩,by dsimp only;omega⟩
    have ec:SV.v (.int .i64 (((aR (aG q)).take j).countP fun e=>decide (e.2=t):Nat))=SV.v (.int .i64 (((aR (aG q)).take (j+1)).countP fun e=>decide (e.2=t):Nat)):=by rw[kk,decide_eq_false h2];rfl
    (repeat' first|exact trivial|refine⟨?_,?_⟩|exact rfl|assumption)
  have eD:j=(aR (aG q)).length:=by have:=df h;omega
  have Ww:((aR (aG q)).take j).countP (fun e=>decide (e.2=t))=mH q t:=by rw[eD,List.take_length];rfl
  rw[Ww];refine⟨fun h2=>?_,fun h2=>?_⟩
  ·have h2:¬t=(i:Int):=df h2;refine⟨fun h3=>?_,fun h3=>?_⟩
   ·have h3:¬t=0:=df h3;refine⟨fun h4=>?_,fun h4=>?_⟩
    ·have h4:¬mH q t=1:=by have:=nt h4;omega
     refine⟨⟨by omega,by omega⟩,i+1,[(0,0),(1,1)],?_,⟨rfl,aj,fE (by rw[ca,decide_eq_false h4,Bool.and_false])⟩,by dsimp only;omega⟩
     (repeat' first|exact trivial|refine⟨?_,?_⟩|exact rfl|assumption)
    ·have h4:mH q t=1:=by have:=nf h4;omega
     have h5:0<t:=by
      rcases hT with h | h
      ·exfalso
       have h6:mH q t=0:=by
        rw[mH,List.countP_eq_zero];intro e he h7;have h8:=DR (p:=q) q 0 e ((bJ _ _).1 he);have h9:=dt h7;omega
       omega
      ·omega
     have e:=DM (by rw[ca,decide_eq_true h4,decide_eq_false h2,decide_eq_true h1,decide_eq_true h5];rfl);have hS:=hS _ _ e
     refine aD t.toNat fun tn Bo=>?_
     rw[←Bo]at hS e
     have AO:t=(tn:Int):=by omega
     obtain⟨cu,XH,_⟩:=jH e
     refine aD q[tn] fun y Pj=>?_
     have B5:q[tn]?=some y:=by rw[Pj];exact aL XH
     have Un:=mI bG B5;have Wv:b.2.1.length≤1000000:=Nat.le_trans (sq bG) bc;have hly:y.2.1.length≤1000000:=Nat.le_trans (sq B5) bc
     refine⟨Nat×List (List Value),fun z=>⟨[(1,.ptr 0 0),(2,.ptr 1 0),(5,.v (.int .i64 (i:Nat))),(7,.v (.int .i64 t)),(11,.ptr 2 0),(58,.v (.slice a n c)),(59,.v (.int .i64 n)),(60,.v (.int .i64 z.1))],
       [(0,.cells 24 [.v (.slice a n c)]),(1,.cells 24 [.v (.slice none 0 0)]),(2,.cells 24 [.own 3]),(3,.row 66 8 z.2)],4⟩,
      fun z H'=>Le H3 H'∧z.1≤q.length∧RC (α:=Block) H' z.2 (((q.set i (ft b y)).take z.1).eraseIdx tn),fun z=>q.length - z.1,⟨(0,[]),[(0,0),(1,1),(2,2)],?_,Le.refl _,Nat.zero_le _,by simpa using RC.nil⟩,?_⟩
     ·(repeat' first|exact trivial|refine⟨?_,?_⟩|exact rfl|assumption)
     rintro⟨k,css⟩ H4 _ ⟨aN,hk,bf⟩;dsimp only at hk bf;have fC:css.length=(((q.set i (ft b y)).take k).eraseIdx tn).length:=bf.1;have xn:(((q.set i (ft b y)).take k).eraseIdx tn).length≤k:=Nat.le_trans (List.length_eraseIdx_le _ _) (by rw[List.length_take];omega);refine⟨fun h=>?_,fun h=>?_⟩
     ·have e8:k<q.length:=by have:=dt h;dsimp only at this;omega
      refine aD q[k] fun x Ds=>?_
      have oi:q[k]?=some x:=by rw[Ds];exact aL e8
      refine bF (Vh.up aN) oi fun Zl a6 n6 c6 q6 Zm ji Wx XK=>?_
      refine⟨Zl,⟨by dsimp only;omega,by dsimp only;omega,q6⟩,?_⟩;refine⟨_,Zm,?_⟩;refine⟨fun h7=>?_,fun h7=>?_⟩
      ·have h7:k=i:=by have:=dt h7;dsimp only at this;omega
       have XL:x=b:=by rw[h7,bG]at oi;exact (Option.some.inj oi).symm
       have hz:(q.set i (ft b y))[k]?=some (ft x y):=by rw[h7,XL];exact List.getElem?_set_self aj
       have dL:=xy (t:=tn) hz;rw[if_neg (by omega)]at dL
       have hlx:x.2.1.length≤1000000:=by rw[XL];exact Wv
       refine so (Vh.up aN) (j:=t) (by omega) (x:=y) (by rw[AO];exact B5) fun Te a7 n7 c7 q7 Tf dz hs7 Zn=>?_
       refine QF ji fun c8 Wy lj hl8=>?_
       refine QF dz fun c9 Wz Ir uM=>?_
       refine⟨none,?_⟩
       refine bH (α:=List (List Value)) ?_ ?_ (.two 1 5 (.one [4,5,6,7] [0,1,3,4,6,7,8,9,10,11,13,14,15,16,17,18,2,5,12,19,20]) (.two 1 12 (.one [4,5,6,7] [0,3,4,6,7,8,9,10,11,13,14,15,16,17,18,2,5,1,12,19,20]) (.one [4,5,6,7] [0,3,4,6,7,8,9,10,11,13,14,15,16,17,18,2,5,12,1,19,20])))
        (fun kZ=>⟨[(1,.ptr 0 0),(2,.ptr 1 0),(5,.v (.int .i64 (i:Nat))),(7,.v (.int .i64 t)),(11,.ptr 2 0),(12,.v (.int .i64 (k:Nat))),(13,.ptr 4 0),(58,.v (.slice a n c)),(59,.v (.int .i64 n)),(60,.v (.int .i64 (k:Nat)))],
         [(0,.cells 24 [.v (.slice a n c)]),(1,.cells 24 [.v (.slice none 0 0)]),(2,.cells 24 [.own 3]),(3,.row 66 8 css),
         (4,.cells 66 [.v (.string (bs x.1.l)),.own 5,.v (.int .i64 y.2.2.1),.v (.string (bs y.2.2.2.1.1.l)),.v (.int .i64 y.2.2.2.1.2.1),.v (.int .i64 y.2.2.2.1.2.2),.v (.string (bs y.2.2.2.2.1.l)),.v (.string (bs y.2.2.2.2.2.l))]),(5,.row 61 9 kZ)],6⟩)
        (fun kZ H'=>H'=H4∧RC (α:=Stmt) H4 kZ (x.2.1++y.2.1)) (by kernel_rfl) ⟨?_,?_,?_⟩ ?_
       ·exact⟨af.tt,af.eqs⟩
       ·exact aa
       ·refine⟨Te,⟨by omega,by omega,q7⟩,?_⟩;refine⟨_,Tf,?_⟩;refine⟨Te,⟨by omega,by omega,q7⟩,?_⟩;refine⟨_,Tf,?_⟩;refine⟨c8,Wy,?_⟩;refine⟨⟨by show (0+c8.length)*96≤140737488355328;omega,by show 0+c8.length≤9223372036854775807;omega⟩,?_⟩;refine⟨c9,Wz,?_⟩;refine⟨MS (by omega) (by omega),?_⟩;refine⟨c8++c9,[(0,0),(1,1),(2,2),(3,3),(4,4),(5,7)],?_,rfl,lj.append Ir⟩
        (repeat' first|exact trivial|refine⟨?_,?_⟩|exact rfl|assumption)
       ·refine⟨Te,⟨by omega,by omega,q7⟩,?_⟩;refine⟨_,Tf,?_⟩;refine⟨Te,⟨by omega,by omega,q7⟩,?_⟩;refine⟨_,Tf,?_⟩;refine⟨c8,Wy,?_⟩;refine⟨⟨by show (0+c8.length)*96≤140737488355328;omega,by show 0+c8.length≤9223372036854775807;omega⟩,?_⟩;refine⟨c9,Wz,?_⟩;refine⟨MS (by omega) (by omega),?_⟩;refine⟨c8++c9,[(0,0),(1,1),(2,2),(3,3),(4,4),(5,7)],?_,rfl,lj.append Ir⟩
        (repeat' first|exact trivial|refine⟨?_,?_⟩|exact rfl|assumption)
       ·refine⟨Te,⟨by omega,by omega,q7⟩,?_⟩;refine⟨_,Tf,?_⟩;refine⟨Te,⟨by omega,by omega,q7⟩,?_⟩;refine⟨_,Tf,?_⟩;refine⟨c8,Wy,?_⟩;refine⟨⟨by show (0+c8.length)*96≤140737488355328;omega,by show 0+c8.length≤9223372036854775807;omega⟩,?_⟩;refine⟨c9,Wz,?_⟩;refine⟨MS (by omega) (by omega),?_⟩;refine⟨c8++c9,[(0,0),(1,1),(2,2),(3,3),(4,4),(5,7)],?_,rfl,lj.append Ir⟩
        (repeat' first|exact trivial|refine⟨?_,?_⟩|exact rfl|assumption)
       rintro kZ H5 _ ⟨rfl,Bm⟩;refine⟨fun _=>?_,fun h8=>?_⟩
       ·intro w H6 aI hw
        refine bZ (α:=Stmt) hw (Bm.up aI.le) fun a8 n8 c8 ew lj=>?_
        subst ew;refine⟨⟨by show (css.length+1)*112≤140737488355328;omega,by show css.length+1≤9223372036854775807;omega⟩,?_⟩
        have b8:RC (α:=Block) H6 (css++[Value.string (bs (ft x y).1.l) :: .slice a8 n8 c8::dg (ft x y).2.2]) (((q.set i (ft b y)).take (k+1)).eraseIdx tn):=by
         rw[dL];exact (bf.up aI.le).snoc (dD lj Wx Zn)
        refine⟨⟨by omega,by omega⟩,(k+1,css++[Value.string (bs (ft x y).1.l) :: .slice a8 n8 c8::dg (ft x y).2.2]),[(0,0),(1,1),(2,2),(3,7)],?_,⟨aN.trans aI.le,e8,b8⟩,by dsimp only;omega⟩
        (repeat' first|exact trivial|refine⟨?_,?_⟩|exact rfl|assumption)
       ·exact absurd (nf h8) (by omega)
      ·have h7:¬k=i:=by have:=df h7;dsimp only at this;omega
       have hz:(q.set i (ft b y))[k]?=some x:=by rw[List.getElem?_set_ne (fun e=>h7 e.symm)];exact oi
       have dL:=xy (t:=tn) hz;refine⟨fun h8=>?_,fun h8=>?_⟩
       ·have h8:¬k=tn:=by have:=nt h8;dsimp only at this;omega
        rw[if_neg h8]at dL;refine⟨⟨by show (css.length+1)*112≤140737488355328;omega,by show css.length+1≤9223372036854775807;omega⟩,?_⟩
        have b8:RC (α:=Block) H4 (css++[Value.string (bs x.1.l) :: .slice a6 n6 c6::dg x.2.2]) (((q.set i (ft b y)).take (k+1)).eraseIdx tn):=by
         rw[dL];exact bf.snoc (dD ji Wx XK)
        refine⟨⟨by dsimp only;omega,by dsimp only;omega⟩,(k+1,css++[Value.string (bs x.1.l) :: .slice a6 n6 c6::dg x.2.2]),[(0,0),(1,1),(2,2),(3,6)],?_,⟨aN,e8,b8⟩,by dsimp only;omega⟩
        (repeat' first|exact trivial|refine⟨?_,?_⟩|exact rfl|assumption)
       ·have h8:k=tn:=by have:=nf h8;dsimp only at this;omega
        rw[if_pos h8,List.append_nil]at dL;refine⟨⟨by dsimp only;omega,by dsimp only;omega⟩,(k+1,css),[(0,0),(1,1),(2,2),(3,3)],?_,⟨aN,e8,by rw[dL];exact bf⟩,by dsimp only;omega⟩
        (repeat' first|exact trivial|refine⟨?_,?_⟩|exact rfl|assumption)
     ·have e8:k=q.length:=by have:=df h;dsimp only at this;omega
      have dm:((q.set i (ft b y)).take k).eraseIdx tn=ej q i tn:=by rw[Un,List.take_of_length_le (by rw[List.length_set];omega)]
      rw[dm]at bf;intro w H6 aI hw
      refine bZ (α:=Block) hw (bf.up aI.le) fun a8 n8 c8 ew lj=>?_
      subst ew;exact hS _ _ _ _ ((ak.trans aN).trans aI.le) lj
   ·have h3:¬0<t:=by have:=dt h3;omega
    refine⟨⟨by omega,by omega⟩,i+1,[(0,0),(1,1)],?_,⟨rfl,aj,fE (by rw[ca,decide_eq_false h3];simp)⟩,by dsimp only;omega⟩
    (repeat' first|exact trivial|refine⟨?_,?_⟩|exact rfl|assumption)
  ·have h2:t=(i:Int):=dt h2;refine⟨⟨by omega,by omega⟩,i+1,[(0,0),(1,1)],?_,⟨rfl,aj,fE (by rw[ca,decide_eq_true h2];simp)⟩,by dsimp only;omega⟩
   (repeat' first|exact trivial|refine⟨?_,?_⟩|exact rfl|assumption)
 ·have aX:i=q.length:=by have:=df h;omega
  rw[aX]at hf;exact hN hf _ ak
end Go.Proofs
end
section
namespace Go.Proofs
open Go.Sy
open Tryz
variable {H:Hp} {K:Value→Hp→Prop}
theorem J7 {q:Prog} (hq:q.length≤12) (bc:aw q≤1000000) (h:ja q=none) {a:Option Addr} {n c:Nat} (ha:RL H a n c q) (hK:∀H',Le H H'→K (.tuple #[.agg #[.slice a n c],.bool false]) H'):aq prog 86 [.agg #[.slice a n c]] H K :=
 zR hq bc ha (fun _=>hK) (fun i t e=>by rw[h]at e;cases e)
theorem J8 {q:Prog} (hq:q.length≤12) (bc:aw q≤1000000) {i t:Nat} (h:ja q=some (i,t)) {a:Option Addr} {n c:Nat} (ha:RL H a n c q) (hK:∀a1 n1 c1 H',Le H H'→RL H' a1 n1 c1 (ej q i t)→K (.tuple #[.agg #[.slice a1 n1 c1],.bool true]) H'):aq prog 86 [.agg #[.slice a n c]] H K :=
 zR hq bc ha (fun e=>by rw[h]at e;cases e) (fun i2 t2 e=>by rw[h]at e;simp only[Option.some.injEq,Prod.mk.injEq]at e;obtain⟨rfl,rfl⟩:=e;exact hK)
theorem DS {p:Prog} (hp:p.length≤12) (bc:aw p≤1000000) {a:Option Addr} {n c:Nat} (ha:RL H a n c p)
  (hK:∀a1 n1 c1 R r H',Le H H'→bD R→cy (p.length:Nat) (aR (aG (aP p))) [0] R→E7 (cm (aP p) R p.length) r→RL H' a1 n1 c1 r→K (.agg #[.slice a1 n1 c1]) H'):aq prog 45 [.agg #[.slice a n c]] H K:=by
 refine ab af aa rfl func45 call45 ntmps45 results45 rfl rfl ?_
 refine xx hp ha fun a1 n1 c1 R H1 ak hS hR bh=>?_
 have e2:cm (aP p) R p.length=mG (aP p) R:=by
  have:=DI (q:=aP p) hS (fun x hx=>by rw[cB];exact dt (hR.node x hx));rwa[cB]at this
 rw[←e2]at bh;have KT:(cm (aP p) R p.length).length≤12:=Nat.le_trans (pZ _ _ _) hp
 have Uo:aw (cm (aP p) R p.length)≤1000000:=by
  have h1:=oZ (aP p) R p.length (by rw[cB];exact Nat.le_refl _);have h2:=ky (aP p) p.length;rw[o0]at h2;omega
 refine aD (cm (aP p) R p.length) fun q0 Up=>?_
 rw[←Up]at bh KT Uo
 have XM:=fun a1 n1 c1 r H' h=>hK a1 n1 c1 R r H' h hS hR
 rw[←Up]at XM
 refine⟨Prog×(Option Addr×Nat×Nat)×Nat,fun z=>⟨[(2,.ptr 0 0),(3,.ptr 1 0),(4,.v (.int .i64 z.2.2))],[(0,.cells 24 [.v (.slice none 0 0)]),(1,.cells 24 [.v (.slice z.2.1.1 z.2.1.2.1 z.2.1.2.2)])],2⟩,
  fun z H'=>Le H H'∧RL H' z.2.1.1 z.2.1.2.1 z.2.1.2.2 z.1∧z.1.length+z.2.2≤12∧aw z.1≤1000000∧∀r,E7 z.1 r→E7 q0 r,fun z=>128 - z.2.2,⟨(q0,(a1,n1,c1),0),[(0,1),(1,2)],?_,ak,bh,KT,Uo,fun _ h=>h⟩,?_⟩
 ·(repeat' first|exact trivial|refine⟨?_,?_⟩|exact rfl|assumption)
 rintro⟨q,⟨a2,n2,c2⟩,i⟩ H2 _ ⟨ah,bj,hq,kk,hM⟩;dsimp only at bj hq kk hM;refine⟨fun h=>?_,fun h=>?_⟩
 ·rcases DQ:ja q with _ | ⟨k,t⟩
  ·refine J7 (by omega) kk DQ bj fun H3 az=>?_
   refine⟨fun _=>?_,(fun h=>by cases h)⟩;exact XM _ _ _ _ _ (ah.trans az) (hM _ (.stop DQ)) (bj.up az)
  ·obtain⟨h1,h2,h3⟩:=jH DQ;have eD:=jm h2 h3;have XJ:=lH h1 h2 h3
   refine J8 (by omega) kk DQ bj fun a3 n3 c3 H3 az db=>?_
   refine⟨(fun h=>by cases h),fun _=>?_⟩;refine⟨⟨by dsimp only;omega,by dsimp only;omega⟩,(ej q k t,(a3,n3,c3),i+1),[(0,0),(1,1)],?_,⟨ah.trans az,db,by dsimp only;omega,by dsimp only;omega,fun r hr=>hM r (.step DQ hr)⟩,by dsimp only;omega⟩
   (repeat' first|exact trivial|refine⟨?_,?_⟩|exact rfl|assumption)
 ·have:=df h;dsimp only at this;omega
end Go.Proofs
end
section
namespace Go.Proofs
open Go.Sy
def numOf (w:Nat):Nm:=(kj w).getD (0,0)
def jb (a:Nm):Nat:=(fu a.1 % 65536).toNat+65536*(fu a.2 % 65536).toNat
def Bp (a:Nm):Nat:=2+4*jb a
def zS (w:Nat):Bool:=(kj w).isSome||decide (w=0)||decide (w=1)
def aO (w:Nat):Nat:=if zS w then w else 1
def iO (a b:Nat):Nat:=if aO a=aO b∨aO b=0 then aO a else if aO a=0 then aO b else 1
def tL (op:Int) (a b:Nat):Nat :=
 if op=0∨op=4 then (if aO a=0 then 0 else if aO a=1 then 1 else Bp (qk op (numOf a) (numOf b)))
 else if aO a=0∨aO b=0 then 0 else if aO a=1∨aO b=1 then 1 else if iB op then Bp (qk op (numOf a) (numOf b)) else 1
theorem o1 (a:Nm):jb a<4294967296:=by unfold jb;omega
theorem Gr (a:Nm):Bp a<17179869184:=by have:=o1 a;unfold Bp;omega
theorem Pk (a:Nm):kj (Bp a)=some (fu a.1,fu a.2):=by
 have h:=o1 a;unfold kj Bp;rw[if_pos (by omega)]
 have e:(2+4*jb a) / 4=jb a:=by omega
 rw[e];have h1:=bK a.1;have h2:=bK a.2
 have e1:((jb a % 65536:Nat):Int)=fu a.1 % 65536:=by unfold jb;omega
 have e2:((jb a / 65536:Nat):Int)=fu a.2 % 65536:=by unfold jb;omega
 rw[e1,e2]
 have e3:∀n:Int,-32768≤n∧n≤32767→fu (n % 65536)=n:=fun n hn=>by unfold fu;omega
 rw[e3 _ h1,e3 _ h2]
theorem R5 (a:Nm):zS (Bp a)=true:=by rw[zS,Pk];rfl
theorem DT {w:Nat} (h:zS w=true):aO w=w:=if_pos h
theorem DU (w:Nat):zS (aO w)=true:=by
 unfold aO;split
 ·rename_i h;exact h
 ·rfl
theorem su {w:Nat} (h:w<18446744073709551616):aO w<18446744073709551616:=by unfold aO;split<;>omega
theorem MT (a b:Nat):zS (iO a b)=true:=by
 unfold iO;split
 ·exact DU a
 ·split
  ·exact DU b
  ·rfl
theorem MU {a b:Nat} (ha:a<18446744073709551616) (hb:b<18446744073709551616):iO a b<18446744073709551616:=by
 have h1:=su ha;have h2:=su hb;unfold iO;split
 ·exact h1
 ·split
  ·exact h2
  ·omega
theorem R6 (op:Int) (a b:Nat):zS (tL op a b)=true:=by
 unfold tL
 repeat' split
 all_goals first | exact R5 _ | rfl
theorem Bq (op:Int) (a b:Nat):tL op a b<18446744073709551616:=by
 unfold tL
 repeat' split
 all_goals first | (have:=Gr (qk op (numOf a) (numOf b));omega) | omega
theorem p6 {w:Nat} (h0:aO w≠0) (h1:aO w≠1):(kj w).isSome=true∧aO w=w:=by
 by_cases h:zS w=true
 ·rw[DT h]at h0 h1;refine⟨?_,DT h⟩;simp only[zS,Bool.or_eq_true,decide_eq_true_eq]at h
  rcases h with (h | h) | h
  ·exact h
  ·exact absurd h h0
  ·exact absurd h h1
 ·exact absurd (if_neg h) h1
theorem MV (k:Nat) {a b:Nat} (h:a<2 ^ k):a ||| b*2 ^ k=a+b*2 ^ k:=by
 rw[Nat.or_comm,Nat.mul_comm b,←Nat.two_pow_add_eq_or_of_lt h,Nat.add_comm]
theorem Is {x y z:Int} {a b:Nat} (hx:x=a) (hy:y=b) (ha:a<18446744073709551616) (hb:b<18446744073709551616) (hz:a ||| b=z.toNat) (hz0:0≤z) (Uq:z<18446744073709551616):
  IntKind.u64.wrap ((BitVec.ofInt IntKind.u64.bits x ||| BitVec.ofInt IntKind.u64.bits y).toNat:Int)=z:=by
 subst hx hy;show IntKind.u64.wrap ((BitVec.ofInt 64 (a:Int) ||| BitVec.ofInt 64 (b:Int)).toNat:Int)=_;rw[BitVec.toNat_or,BitVec.ofInt_natCast,BitVec.ofInt_natCast,BitVec.toNat_ofNat,BitVec.toNat_ofNat,Nat.mod_eq_of_lt (by simpa using ha),Nat.mod_eq_of_lt (by simpa using hb),hz,IntKind.wrap_u64];omega
end Go.Proofs
end
section
namespace Go.Proofs
open Go.Sy
open Tryz
variable {H:Hp} {K:Value→Hp→Prop}
abbrev Vi (a:Nm):Value:=.agg #[.int .i64 a.1,.int .i64 a.2]
theorem cT {K:Value→Hp→Prop} {H:Hp} {k:IntKind} {x y:Int} (h:K (.int k x) H) (e:x=y):K (.int k y) H:=e▸h
theorem Gs {a:Nm} (hK:K (.int .u64 (jb a:Nat)) H):aq prog 282 [Vi a] H K:=by
 refine ab Rx aa rfl func282 call282 ntmps282 results282 rfl rfl ?_;refine⟨some ([],[0,1,5,6,2,3,4,7,8,9,10,11,12]),by kernel_rfl,?_⟩;refine ny ?_;refine ny ?_;refine⟨by decide,?_⟩;have h1:=bK a.1;have h2:=bK a.2;refine cT hK ((Is (a:=(fu a.1 % 65536).toNat) (b:=(fu a.2 % 65536).toNat*2 ^ 16) ?_ ?_ (by omega) (by omega) ?_ (by omega) (by have:=o1 a;omega)).symm)
 ·show IntKind.u64.wrap (IntKind.u16.wrap (fu a.1))=_
  rw[IntKind.wrap_u64,IntKind.wrap_u16];omega
 ·show IntKind.u64.wrap (IntKind.u64.wrap (IntKind.u16.wrap (fu a.2))*65536)=_
  rw[IntKind.wrap_u64,IntKind.wrap_u64,IntKind.wrap_u16];omega
 ·rw[MV 16 (by omega),jb];omega
theorem Gt {a:Nm} (hK:K (.int .u64 (jb a:Nat)) H):aq prog 192 [Vi a] H K:=by
 refine ab af aa rfl func192 call192 ntmps192 results192 rfl rfl ?_;refine gJ ?_;have h1:=bK a.1;have h2:=bK a.2;refine⟨⟨by dsimp only;omega,by dsimp only;omega⟩,?_⟩
 have t1:Int.tmod (fu a.1+65536) 65536=fu a.1 % 65536:=by rw[Int.tmod_eq_emod_of_nonneg (by omega)];omega
 have t2:Int.tmod (fu a.2+65536) 65536=fu a.2 % 65536:=by rw[Int.tmod_eq_emod_of_nonneg (by omega)];omega
 refine⟨by decide,?_⟩;refine⟨⟨?_,?_⟩,?_⟩
 ·show (0:Int)≤Int.tmod (fu a.1+65536) 65536;omega
 ·show Int.tmod (fu a.1+65536) 65536≤18446744073709551615;omega
 refine⟨⟨by dsimp only;omega,by dsimp only;omega⟩,?_⟩;refine⟨by decide,?_⟩;refine⟨⟨?_,?_⟩,?_⟩
 ·show (0:Int)≤Int.tmod (fu a.2+65536) 65536;omega
 ·show Int.tmod (fu a.2+65536) 65536≤18446744073709551615;omega
 refine⟨⟨?_,?_⟩,?_⟩
 ·show (0:Int)≤65536*Int.tmod (fu a.2+65536) 65536;omega
 ·show 65536*Int.tmod (fu a.2+65536) 65536≤18446744073709551615;omega
 refine⟨⟨?_,?_⟩,?_⟩
 ·show (0:Int)≤Int.tmod (fu a.1+65536) 65536+65536*Int.tmod (fu a.2+65536) 65536;omega
 ·show Int.tmod (fu a.1+65536) 65536+65536*Int.tmod (fu a.2+65536) 65536≤18446744073709551615;omega
 refine cT hK ?_;show (jb a:Int)=Int.tmod (fu a.1+65536) 65536+65536*Int.tmod (fu a.2+65536) 65536
 rw[t1,t2,jb];omega
theorem o2 {a:Nm} (hK:K (.int .u64 (Bp a:Nat)) H):aq prog 229 [Vi a] H K:=by
 refine ab af aa rfl func229 call229 ntmps229 results229 rfl rfl ?_;refine Gs ?_;have h:=o1 a;refine⟨by decide,?_⟩;refine⟨⟨?_,?_⟩,?_⟩
 ·show (0:Int)≤(jb a:Int)*4;omega
 ·show (jb a:Int)*4≤18446744073709551615;omega
 refine cT hK ((Is (a:=2) (b:=jb a*2 ^ 2) rfl (by show (jb a:Int)*4=_;omega) (by omega) (by omega) ?_ (by omega) (by have:=Gr a;omega)).symm)
 rw[MV 2 (by omega),Bp];omega
theorem jn {a:Nm} (hK:K (.int .u64 (Bp a:Nat)) H):aq prog 130 [Vi a] H K:=by
 refine ab af aa rfl func130 call130 ntmps130 results130 rfl rfl ?_;refine Gt ?_;have h:=o1 a;refine⟨⟨by omega,by omega⟩,?_⟩;refine⟨⟨by omega,by omega⟩,?_⟩;exact cT hK (by rw[Bp];omega)
end Go.Proofs
end
section
namespace Go.Proofs
open Go.Sy
open Tryz
variable {H:Hp} {K:Value→Hp→Prop}
theorem DV {w:Nat} (hw:w<18446744073709551616) (hK:K (.bool (zS w)) H):aq prog 259 [.int .u64 w] H K:=by
 refine ab af aa rfl func259 call259 ntmps259 results259 rfl rfl ?_;refine fZ hw ?_;refine⟨fun h1=>?_,fun h1=>?_⟩
 ·refine⟨fun h2=>?_,fun h2=>?_⟩
  ·have h2:¬(w:Int)=0:=df h2;refine aA hK ?_;rw[zS,h1,decide_eq_false (show ¬w=0 by omega)];simp only[Bool.false_or]
   rw[decide_eq_decide];omega
  ·have h2:(w:Int)=0:=dt h2;refine aA hK ?_
   rw[zS,decide_eq_true (show w=0 by omega)];simp
 ·refine aA hK ?_
  rw[zS,h1];rfl
theorem qW {w:Nat} (hw:w<18446744073709551616) (hK:K (.int .u64 (aO w:Nat)) H):aq prog 331 [.int .u64 w] H K:=by
 refine ab af aa rfl func331 call331 ntmps331 results331 rfl rfl ?_;refine DV hw ?_;refine⟨fun h=>?_,fun h=>?_⟩
 ·refine cT hK ?_
  rw[aO,if_neg (by simpa using h)];rfl
 ·refine cT hK ?_;rw[aO,if_pos (by simpa using h)]
theorem Gu {a b:Nat} (ha:a<18446744073709551616) (hb:b<18446744073709551616) (hK:K (.int .u64 (iO a b:Nat)) H):aq prog 308 [.int .u64 a,.int .u64 b] H K:=by
 refine ab af aa rfl func308 call308 ntmps308 results308 rfl rfl ?_;refine qW ha ?_;refine qW hb ?_;refine⟨fun h1=>?_,fun h1=>?_⟩
 ·have h1:¬aO a=aO b:=by have:=df h1;omega
  refine⟨fun h2=>?_,fun h2=>?_⟩
  ·have h2:aO b=0:=by have:=dt h2;omega
   exact cT hK (by rw[iO,if_pos (.inr h2)])
  ·have h2:¬aO b=0:=by have:=df h2;omega
   refine⟨fun h3=>?_,fun h3=>?_⟩
   ·have h3:aO a=0:=by have:=dt h3;omega
    exact cT hK (by rw[iO,if_neg (by omega),if_pos h3])
   ·have h3:¬aO a=0:=by have:=df h3;omega
    exact cT hK (by rw[iO,if_neg (by omega),if_neg h3];rfl)
 ·have h1:aO a=aO b:=by have:=dt h1;omega
  exact cT hK (by rw[iO,if_pos (.inl h1)])
theorem nF {w:Nat} (hw:w<18446744073709551616) (hK:K (.int .u64 (aO w:Nat)) H):aq prog 246 [.int .u64 w] H K:=by
 refine ab af aa rfl func246 call246 ntmps246 results246 rfl rfl ?_;refine gb hw ?_;refine⟨fun h=>?_,fun h=>?_⟩
 ·have h0:¬w=0:=by have:=nt h;omega
  refine⟨fun h=>?_,fun h=>?_⟩
  ·have h1:¬(kj w).isSome=true:=by simpa using h
   refine cT hK ?_
   by_cases h2:w=1
   ·rw[h2];rfl
   ·rw[aO,if_neg (by rw[zS];simp [h0,h2,h1])];rfl
  ·have h1:(kj w).isSome=true:=by simpa using h
   exact cT hK (by rw[aO,if_pos (by rw[zS,h1];rfl)])
 ·have h0:w=0:=by have:=nf h;omega
  exact cT hK (by rw[h0];rfl)
theorem Gv {a b:Nat} (ha:a<18446744073709551616) (hb:b<18446744073709551616) (hK:K (.int .u64 (iO a b:Nat)) H):aq prog 327 [.int .u64 a,.int .u64 b] H K:=by
 refine ab af aa rfl func327 call327 ntmps327 results327 rfl rfl ?_;refine nF ha ?_;refine nF hb ?_;refine⟨fun h=>?_,fun h=>?_⟩
 ·have h1:¬aO a=0:=by have:=df h;omega
  refine⟨fun h=>?_,fun h=>?_⟩
  ·have h2:aO a=aO b:=by have:=dt h;omega
   exact cT hK (by rw[iO,if_pos (.inl h2)];omega)
  ·have h2:¬aO a=aO b:=by have:=df h;omega
   refine⟨fun h=>?_,fun h=>?_⟩
   ·have h3:aO b=0:=by have:=dt h;omega
    exact cT hK (by rw[iO,if_pos (.inr h3)])
   ·have h3:¬aO b=0:=by have:=df h;omega
    exact cT hK (by rw[iO,if_neg (by omega),if_neg h1];rfl)
 ·have h1:aO a=0:=by have:=dt h;omega
  refine cT hK ?_;rw[iO]
  split<;>omega
def gW:List Nat→Nat→Nat
 | [],o=>o
 | w::r,o=>if aO w=0 then 0 else if aO w=1 then gW r 1 else gW r o
theorem dO {P:Prop} {H:Hp} {a:Option Addr} {n c:Nat} {xs:List UInt64} (h:RL H a n c xs) {i:Nat} {x:UInt64} (hi:xs[i]?=some x) (k:∀ad,a=some ad→jz H ad (i:Int) 1 [.int .u64 (x.toNat:Nat)]→x.toNat<18446744073709551616→P):P :=
 kN h hi fun ad cs h1 h2 h3=>by
  have e:cs=[.int .u64 (x.toNat:Nat)]:=h3;subst e;exact k ad h1 h2 x.toNat_lt
theorem qX {l:List UInt64} {a:Option Addr} {n c:Nat} (ha:RL H a n c l) (hK:K (.int .u64 (gW (l.map UInt64.toNat) 2:Nat)) H):aq prog 314 [.slice a n c] H K:=by
 have hn:=ha.aB;have eI:=ha.le;refine ab af aa rfl func314 call314 ntmps314 results314 rfl rfl ?_;refine .inl ⟨1,?_⟩
 refine⟨Nat×Nat,fun z=>⟨[(3,.v (.int .u64 z.2)),(6,.v (.slice a n c)),(7,.v (.int .i64 n)),(8,.v (.int .i64 z.1))],[],0⟩,
  fun z H'=>H'=H∧z.1≤l.length∧gW (l.map UInt64.toNat) 2=gW ((l.drop z.1).map UInt64.toNat) z.2,fun z=>l.length - z.1,⟨(0,2),[],?_,rfl,Nat.zero_le _,rfl⟩,?_⟩
 ·(repeat' first|exact trivial|refine⟨?_,?_⟩|exact rfl|assumption)
 rintro⟨i,o⟩ H1 _ ⟨rfl,hi,hx⟩;dsimp only at hi hx;refine⟨fun h=>?_,fun h=>?_⟩
 ·have aj:i<l.length:=by have:=dt h;dsimp only at this;omega
  refine aD l[i] fun w XN=>?_
  have Zo:l[i]?=some w:=by rw[XN];exact aL aj
  have bc:gW ((l.drop i).map UInt64.toNat) o=if aO w.toNat=0 then 0 else if aO w.toNat=1 then gW ((l.drop (i+1)).map UInt64.toNat) 1 else gW ((l.drop (i+1)).map UInt64.toNat) o:=by
   rw[List.drop_eq_getElem_cons aj,List.map_cons,gW,XN]
  rw[bc]at hx
  refine dO ha Zo fun ad q1 hh hw=>?_
  refine⟨ad,⟨by dsimp only;omega,by dsimp only;omega,q1⟩,?_⟩;refine⟨_,hh,?_⟩;refine qW hw ?_;refine⟨fun h=>?_,fun h=>?_⟩
  ·have h0:aO w.toNat=0:=by have:=dt h;omega
   exact cT hK (by rw[hx,if_pos h0];rfl)
  ·have h0:¬aO w.toNat=0:=by have:=df h;omega
   rw[if_neg h0]at hx;refine⟨fun h=>?_,fun h=>?_⟩
   ·have h1:aO w.toNat=1:=by have:=dt h;omega
    rw[if_pos h1]at hx;refine⟨⟨by dsimp only;omega,by dsimp only;omega⟩,(i+1,1),[],?_,⟨rfl,aj,hx⟩,by dsimp only;omega⟩
    (repeat' first|exact trivial|refine⟨?_,?_⟩|exact rfl|assumption)
   ·have h1:¬aO w.toNat=1:=by have:=df h;omega
    rw[if_neg h1]at hx;refine⟨⟨by dsimp only;omega,by dsimp only;omega⟩,(i+1,o),[],?_,⟨rfl,aj,hx⟩,by dsimp only;omega⟩
    (repeat' first|exact trivial|refine⟨?_,?_⟩|exact rfl|assumption)
 ·have aX:i=l.length:=by have:=df h;dsimp only at this;omega
  rw[aX,List.drop_length]at hx;exact cT hK (by rw[hx];rfl)
theorem xC {a:Nat}:gW [a] 2=if aO a=0 then 0 else if aO a=1 then 1 else 2:=rfl
theorem Gw {a b:Nat}:gW [a,b] 2=if aO a=0∨aO b=0 then 0 else if aO a=1∨aO b=1 then 1 else 2:=by
 simp only[gW];split
 ·rw[if_pos (by omega)]
 ·split
  ·split
   ·rw[if_pos (by omega)]
   ·split
    ·rw[if_neg (by omega),if_pos (by omega)]
    ·rw[if_neg (by omega),if_pos (by omega)]
  ·split
   ·rw[if_pos (by omega)]
   ·split
    ·rw[if_neg (by omega),if_pos (by omega)]
    ·rw[if_neg (by omega),if_neg (by omega)]
theorem kQ {w:Nat} (h:w<18446744073709551616):(UInt64.ofNat w).toNat=w:=UInt64.toNat_ofNat_of_lt' (by show w<2 ^ 64;omega)
theorem jJ {H:Hp} {l:List UInt64}:RC (α:=UInt64) H (l.map fun w=>[Value.int .u64 (w.toNat:Nat)]) l:=by
 refine⟨by simp,fun i cs x h1 h2=>?_⟩;rw[List.getElem?_map,h2]at h1;cases h1;exact rfl
theorem one_num {x:Nat} (h:(if x=0 then 0 else if x=1 then 1 else 2)=2):x≠0∧x≠1:=by
 split at h
 ·cases h
 ·split at h
  ·cases h
  ·exact⟨by assumption,by assumption⟩
theorem Pl {x y:Nat} (h:(if x=0∨y=0 then 0 else if x=1∨y=1 then 1 else 2)=2):¬(x=0∨y=0)∧¬(x=1∨y=1):=by
 split at h
 ·cases h
 ·split at h
  ·cases h
  ·exact⟨by assumption,by assumption⟩
theorem It {x z:Nat} (h:(if x=0 then 0 else if x=1 then 1 else 2)≠2):((if x=0 then 0 else if x=1 then 1 else z:Nat):Int)=((if x=0 then 0 else if x=1 then 1 else 2:Nat):Int):=by
 split
 ·rfl
 ·split
  ·rfl
  ·rename_i h1 h2;rw[if_neg h1,if_neg h2]at h;exact absurd rfl h
theorem Pm {x y z:Nat} (h:(if x=0∨y=0 then 0 else if x=1∨y=1 then 1 else 2)≠2):((if x=0∨y=0 then 0 else if x=1∨y=1 then 1 else z:Nat):Int)=((if x=0∨y=0 then 0 else if x=1∨y=1 then 1 else 2:Nat):Int):=by
 split
 ·rfl
 ·split
  ·rfl
  ·rename_i h1 h2;rw[if_neg h1,if_neg h2]at h;exact absurd rfl h
theorem vS {op:Int} {a b:Nat} (ov:op=0∨op=4) (h:aO a≠0∧aO a≠1):tL op a b=Bp (qk op (numOf a) (numOf b)):=by rw[tL,if_pos ov,if_neg h.1,if_neg h.2]
theorem Iu {op:Int} {a b:Nat} (ov:¬(op=0∨op=4)) (h:¬(aO a=0∨aO b=0)∧¬(aO a=1∨aO b=1)) (ho:iB op=true):tL op a b=Bp (qk op (numOf a) (numOf b)):=by rw[tL,if_neg ov,if_neg h.1,if_neg h.2,if_pos ho]
theorem mJ {op:Int} {a b:Nat} (ha:a<18446744073709551616) (hb:b<18446744073709551616) (hK:K (.int .u64 (tL op a b:Nat)) H):aq prog 267 [.int .i64 op,.int .u64 a,.int .u64 b] H K:=by
 refine ab af aa rfl func267 call267 ntmps267 results267 rfl rfl ?_;intro v H1 ak hv
 have e1:aW H1 v 1 ([UInt64.ofNat a,UInt64.ofNat b].map fun w=>[Value.int .u64 (w.toNat:Nat)]):=by
  simp only[List.map_cons,List.map_nil,kQ ha,kQ hb];exact hv
 obtain⟨ra,rn,rc,rfl,hr⟩:=RL.aC (α:=UInt64) e1 jJ;refine qX hr ?_
 have vi:gW ([UInt64.ofNat a,UInt64.ofNat b].map UInt64.toNat) 2=if aO a=0∨aO b=0 then 0 else if aO a=1∨aO b=1 then 1 else 2:=by
  simp only[List.map_cons,List.map_nil,kQ ha,kQ hb];exact Gw
 rw[vi];refine⟨fun h=>?_,fun h=>?_⟩
 ·have h0:¬op=0:=df h;refine⟨fun h=>?_,fun h=>?_⟩
  ·have ov:op=0∨op=4:=.inr (dt h);intro v H2 ah hv
   have e1:aW H2 v 1 ([UInt64.ofNat a].map fun w=>[Value.int .u64 (w.toNat:Nat)]):=by
    simp only[List.map_cons,List.map_nil,kQ ha];exact hv
   obtain⟨ra,rn,rc,rfl,hr⟩:=RL.aC (α:=UInt64) e1 jJ;refine qX hr ?_
   have LS:gW ([UInt64.ofNat a].map UInt64.toNat) 2=if aO a=0 then 0 else if aO a=1 then 1 else 2:=by
    simp only[List.map_cons,List.map_nil,kQ ha];exact xC
   rw[LS];refine⟨fun h=>?_,fun h=>?_⟩
   ·have hv:=nt h;exact cT hK (by rw[tL,if_pos ov];exact It (fun e=>hv (by rw[e];rfl)))
   ·have hv:=nf h;have xr:=one_num (Int.ofNat_inj.1 hv);refine fZ ha ?_;refine fZ hb ?_;refine mw ?_;refine⟨fun h=>?_,fun h=>?_⟩
    ·have ho:iB op=false:=by
      have:=nt h
      cases hq:iB op with
      | false=>rfl
      | true=>rw[hq]at this;exact absurd rfl this
     exact (absurd ho (by rw[iB,decide_eq_true (by omega)];decide))
    ·have ho:iB op=true:=by
      have:=nf h
      cases hq:iB op with
      | false=>rw[hq]at this;cases this
      | true=>rfl
     refine o2 ?_;exact cT hK (by rw[vS ov xr];rfl)
  ·have ov:¬(op=0∨op=4):=by have:=df h;omega
   refine⟨fun h=>?_,fun h=>?_⟩
   ·have hv:=nt h;exact cT hK (by rw[tL,if_neg ov];exact Pm (fun e=>hv (by rw[e];rfl)))
   ·have hv:=nf h;have xr:=Pl (Int.ofNat_inj.1 hv);refine fZ ha ?_;refine fZ hb ?_;refine mw ?_;refine⟨fun h=>?_,fun h=>?_⟩
    ·have ho:iB op=false:=by
      have:=nt h
      cases hq:iB op with
      | false=>rfl
      | true=>rw[hq]at this;exact absurd rfl this
     exact (cT hK (by rw[tL,if_neg ov,if_neg (by omega),if_neg (by omega),if_neg (by rw[ho];decide)];rfl))
    ·have ho:iB op=true:=by
      have:=nf h
      cases hq:iB op with
      | false=>rw[hq]at this;cases this
      | true=>rfl
     refine o2 ?_;exact cT hK (by rw[Iu ov xr ho];rfl)
 ·have ov:op=0∨op=4:=.inl (dt h);intro v H2 ah hv
  have e1:aW H2 v 1 ([UInt64.ofNat a].map fun w=>[Value.int .u64 (w.toNat:Nat)]):=by
   simp only[List.map_cons,List.map_nil,kQ ha];exact hv
  obtain⟨ra,rn,rc,rfl,hr⟩:=RL.aC (α:=UInt64) e1 jJ;refine qX hr ?_
  have LS:gW ([UInt64.ofNat a].map UInt64.toNat) 2=if aO a=0 then 0 else if aO a=1 then 1 else 2:=by
   simp only[List.map_cons,List.map_nil,kQ ha];exact xC
  rw[LS];refine⟨fun h=>?_,fun h=>?_⟩
  ·have hv:=nt h;exact cT hK (by rw[tL,if_pos ov];exact It (fun e=>hv (by rw[e];rfl)))
  ·have hv:=nf h;have xr:=one_num (Int.ofNat_inj.1 hv);refine fZ ha ?_;refine fZ hb ?_;refine mw ?_;refine⟨fun h=>?_,fun h=>?_⟩
   ·have ho:iB op=false:=by
     have:=nt h
     cases hq:iB op with
     | false=>rfl
     | true=>rw[hq]at this;exact absurd rfl this
    exact (absurd ho (by rw[iB,decide_eq_true (by omega)];decide))
   ·have ho:iB op=true:=by
     have:=nf h
     cases hq:iB op with
     | false=>rw[hq]at this;cases this
     | true=>rfl
    refine o2 ?_;exact cT hK (by rw[vS ov xr];rfl)
theorem Iv {op:Int} (ov:op=0∨op=4) (x y z:Nm):qk op x y=qk op x z:=by
 rcases ov with rfl | rfl<;>rfl
theorem J9 {op:Int} {a b:Nat} (ha:a<18446744073709551616) (hb:b<18446744073709551616) (hK:K (.int .u64 (tL op a b:Nat)) H):aq prog 195 [.int .i64 op,.int .u64 a,.int .u64 b] H K:=by
 have Fa:=su ha;have Qx:=su hb;refine ab af aa rfl func195 call195 ntmps195 results195 rfl rfl ?_;refine nF ha ?_;refine nF hb ?_;refine⟨fun h=>?_,fun h=>?_⟩
 ·have h0:¬op=0:=df h;refine⟨fun h=>?_,fun h=>?_⟩
  ·have ov:op=0∨op=4:=.inr (dt h)
   have e2:Bp (0,0)=2:=by decide
   refine jn (a:=(0,0)) ?_;rw[e2];refine⟨fun h=>?_,fun h=>?_⟩
   ·have DW:¬aO a=0:=by have:=df h;omega
    refine⟨fun h=>?_,fun h=>?_⟩
    ·have yB:2=0:=by have:=dt h;omega
     exact (absurd yB (by decide))
    ·have yB:¬2=0:=by have:=df h;omega
     refine⟨fun h=>?_,fun h=>?_⟩
     ·have Ka:¬aO a=1:=by have:=df h;omega
      refine⟨fun h=>?_,fun h=>?_⟩
      ·have KU:2=1:=by have:=dt h;omega
       exact (absurd KU (by decide))
      ·have KU:¬2=1:=by have:=df h;omega
       refine gb Fa ?_;refine gb (by omega) ?_;refine oN ?_;refine⟨fun h=>?_,fun h=>?_⟩
       ·have ho:iB op=false:=by simpa using h
        exact (absurd ho (by rw[iB,decide_eq_true (by omega)];decide))
       ·have ho:iB op=true:=by simpa using h
        refine jn ?_;exact (cT hK (by rw[vS ov ⟨DW,Ka⟩,numOf,(p6 DW Ka).2,Iv ov _ _ (((kj 2).getD (0,0)))]))
     ·have Ka:aO a=1:=by have:=dt h;omega
      exact (cT hK (by rw[tL,if_pos ov,if_neg DW,if_pos Ka];rfl))
   ·have DW:aO a=0:=by have:=dt h;omega
    exact (cT hK (by rw[tL,if_pos ov,if_pos DW];rfl))
  ·have ov:¬(op=0∨op=4):=by have:=df h;omega
   refine⟨fun h=>?_,fun h=>?_⟩
   ·have DW:¬aO a=0:=by have:=df h;omega
    refine⟨fun h=>?_,fun h=>?_⟩
    ·have yB:aO b=0:=by have:=dt h;omega
     exact (cT hK (by rw[tL,if_neg ov,if_pos (.inr yB)];rfl))
    ·have yB:¬aO b=0:=by have:=df h;omega
     refine⟨fun h=>?_,fun h=>?_⟩
     ·have Ka:¬aO a=1:=by have:=df h;omega
      refine⟨fun h=>?_,fun h=>?_⟩
      ·have KU:aO b=1:=by have:=dt h;omega
       exact (cT hK (by rw[tL,if_neg ov,if_neg (by omega),if_pos (.inr KU)];rfl))
      ·have KU:¬aO b=1:=by have:=df h;omega
       refine gb Fa ?_;refine gb Qx ?_;refine oN ?_;refine⟨fun h=>?_,fun h=>?_⟩
       ·have ho:iB op=false:=by simpa using h
        exact (cT hK (by rw[tL,if_neg ov,if_neg (by omega),if_neg (by omega),if_neg (by rw[ho];decide)];rfl))
       ·have ho:iB op=true:=by simpa using h
        refine jn ?_;exact (cT hK (by rw[Iu ov (by omega) ho,numOf,numOf,(p6 DW Ka).2,(p6 yB KU).2]))
     ·have Ka:aO a=1:=by have:=dt h;omega
      exact (cT hK (by rw[tL,if_neg ov,if_neg (by omega),if_pos (.inl Ka)];rfl))
   ·have DW:aO a=0:=by have:=dt h;omega
    exact (cT hK (by rw[tL,if_neg ov,if_pos (.inl DW)];rfl))
 ·have ov:op=0∨op=4:=.inl (dt h)
  have e2:Bp (0,0)=2:=by decide
  refine jn (a:=(0,0)) ?_;rw[e2];refine⟨fun h=>?_,fun h=>?_⟩
  ·have DW:¬aO a=0:=by have:=df h;omega
   refine⟨fun h=>?_,fun h=>?_⟩
   ·have yB:2=0:=by have:=dt h;omega
    exact (absurd yB (by decide))
   ·have yB:¬2=0:=by have:=df h;omega
    refine⟨fun h=>?_,fun h=>?_⟩
    ·have Ka:¬aO a=1:=by have:=df h;omega
     refine⟨fun h=>?_,fun h=>?_⟩
     ·have KU:2=1:=by have:=dt h;omega
      exact (absurd KU (by decide))
     ·have KU:¬2=1:=by have:=df h;omega
      refine gb Fa ?_;refine gb (by omega) ?_;refine oN ?_;refine⟨fun h=>?_,fun h=>?_⟩
      ·have ho:iB op=false:=by simpa using h
       exact (absurd ho (by rw[iB,decide_eq_true (by omega)];decide))
      ·have ho:iB op=true:=by simpa using h
       refine jn ?_;exact (cT hK (by rw[vS ov ⟨DW,Ka⟩,numOf,(p6 DW Ka).2,Iv ov _ _ (((kj 2).getD (0,0)))]))
    ·have Ka:aO a=1:=by have:=dt h;omega
     exact (cT hK (by rw[tL,if_pos ov,if_neg DW,if_pos Ka];rfl))
  ·have DW:aO a=0:=by have:=dt h;omega
   exact (cT hK (by rw[tL,if_pos ov,if_pos DW];rfl))
end Go.Proofs
end
section
namespace Go.Proofs
open Go.Sy
open Tryz
variable {H:Hp} {K:Value→Hp→Prop}
abbrev Wd:=List UInt64
def okW (n:Nat) (l:Wd):Prop:=l.length=n∧∀w∈l,zS w.toNat=true
def MW (a b:UInt64):UInt64:=UInt64.ofNat (iO a.toNat b.toNat)
theorem zT (a b:UInt64):(MW a b).toNat=iO a.toNat b.toNat:=kQ (MU a.toNat_lt b.toNat_lt)
def gM (a b:Wd):Wd:=List.zipWith MW a b
def kR (n:Nat):Wd:=List.replicate n 0
theorem vT (n:Nat):okW n (kR n):=⟨List.length_replicate,fun w hw=>by rw[(List.mem_replicate.1 hw).2];rfl⟩
theorem sv {n:Nat} {a b:Wd} (ha:okW n a) (hb:okW n b):okW n (gM a b):=by
 refine⟨by rw[gM,List.length_zipWith,ha.1,hb.1,Nat.min_self],fun w hw=>?_⟩;obtain⟨i,hi⟩:=List.getElem?_of_mem hw;rw[gM,List.getElem?_zipWith]at hi
 cases h1:a[i]? with
 | none=>rw[h1]at hi;cases hi
 | some x=>cases h2:b[i]? with
  | none=>rw[h1,h2]at hi;cases hi
  | some y =>
   rw[h1,h2]at hi;simp only[Option.some.injEq]at hi;rw[←hi,zT];exact MT _ _
theorem dE {n:Nat} (hn:n≤1024) (hK:K (.bool true) H):aq prog 215 [.int .i64 3,.int .i64 (n:Nat)] H K:=by
 refine ab af aa rfl func215 call215 ntmps215 results215 rfl rfl ?_;refine⟨fun _=>?_,(fun h=>absurd (dt h) (by decide))⟩;refine⟨fun _=>?_,(fun h=>absurd (dt h) (by decide))⟩;refine⟨fun _=>?_,(fun h=>absurd rfl (df h))⟩;refine⟨fun _=>?_,(fun h=>absurd (by omega) (df h))⟩;exact aA hK (by rw[decide_eq_true (by omega)])
theorem gN {n:Nat} (hn:n≤1024) (hK:K (.int .i64 (n:Nat)) H):aq prog 220 [.int .i64 3,.int .i64 (n:Nat)] H K:=by
 refine ab af aa rfl func220 call220 ntmps220 results220 rfl rfl ?_;refine dE hn ?_;refine⟨(fun h=>by cases h),fun _=>?_⟩;refine⟨(fun h=>absurd (dt h) (by decide)),fun _=>?_⟩;refine⟨(fun h=>absurd (dt h) (by decide)),fun _=>?_⟩;exact hK
theorem eM {n:Nat} (hn:n≤1024) (hK:∀a n1 c H',Le H H'→RL H' a n1 c (kR n)→K (.slice a n1 c) H'):aq prog 159 [.int .i64 3,.int .i64 (n:Nat)] H K:=by
 refine ab af aa rfl func159 call159 ntmps159 results159 rfl rfl ?_;refine⟨(fun h=>absurd (dt h) (by decide)),fun _=>?_⟩;refine gN hn ?_;refine⟨⟨rfl,by omega,by show (n:Int)*8≤_;omega,by omega⟩,?_⟩;intro v H1 ak hv
 have e:aW H1 v 1 ((kR n).map fun w=>[Value.int .u64 (w.toNat:Nat)]):=by
  rw[kR,List.map_replicate];exact hv
 obtain⟨a,n1,c,rfl,hr⟩:=RL.aC (α:=UInt64) e jJ;exact hK _ _ _ _ ak.le hr
theorem fM {n:Nat} (hn:n≤1024) (hK:K (.int .i64 (2*n:Nat)) H):aq prog 157 [.int .i64 3,.int .i64 (n:Nat)] H K:=by
 refine ab af aa rfl func157 call157 ntmps157 results157 rfl rfl ?_;refine dE hn ?_;refine⟨(fun h=>by cases h),fun _=>?_⟩;refine⟨fun _=>?_,(fun h=>absurd rfl (df h))⟩;refine⟨⟨by omega,by omega⟩,?_⟩;exact cT hK (by omega)
theorem Gx {w:Nat} (hw:w<18446744073709551616) (h:zS w=true) (hK:K (.bool false) H):aq prog 258 [.int .u64 w] H K:=by
 refine ab af aa rfl func258 call258 ntmps258 results258 rfl rfl ?_;refine DV hw ?_;exact aA hK (by rw[h];rfl)
theorem nG {a b:Nat} (ha:a<18446744073709551616) (hb:b<18446744073709551616) (hK:K (.int .u64 (iO a b:Nat)) H):aq prog 255 [.int .i64 3,.int .u64 a,.int .u64 b] H K:=by
 refine ab af aa rfl func255 call255 ntmps255 results255 rfl rfl ?_;refine⟨(fun h=>absurd (dt h) (by decide)),fun _=>?_⟩;refine⟨(fun h=>absurd (dt h) (by decide)),fun _=>?_⟩;refine⟨fun _=>?_,(fun h=>absurd rfl (df h))⟩;exact Gu ha hb hK
theorem DX {l:Wd} (hl:∀w∈l,zS w.toNat=true) {a:Option Addr} {n c:Nat} {H:Hp} {K:SV→St→Hp→Prop} (ha:RL H a n c l) (hK:K (.v (.int .i64 (-1))) ⟨[],[],0⟩ H):aY prog 310 [.v (.slice a n c),.fn 258 []] [] 0 H K:=by
 have dd:=ha.aB;have eI:=ha.le;refine aJ af aa func310 call310 ntmps310 results310 rfl rfl ?_
 refine⟨Nat,fun j=>⟨[(0,.v (.slice a n c)),(1,.fn 258 []),(7,.v (.int .i64 n)),(8,.v (.int .i64 j))],[],0⟩,
  fun j H'=>H'=H∧j≤l.length,fun j=>l.length - j,⟨0,[],?_,rfl,by omega⟩,?_⟩
 ·(repeat' first|exact trivial|refine⟨?_,?_⟩|exact rfl|assumption)
 rintro j H1 _ ⟨rfl,hi⟩;refine⟨fun h=>?_,fun h=>?_⟩
 ·have aj:j<l.length:=by have:=dt h;omega
  refine dO ha (aL aj) fun ad q1 hh hr=>?_
  refine⟨ad,⟨by omega,by omega,q1⟩,?_⟩;refine⟨_,hh,?_⟩;refine Gx hr (hl _ (List.getElem_mem aj)) ?_;refine⟨(fun h=>by cases h),fun _=>?_⟩;refine⟨⟨by omega,by omega⟩,j+1,[],?_,⟨rfl,by omega⟩,by dsimp only;omega⟩
  (repeat' first|exact trivial|refine⟨?_,?_⟩|exact rfl|assumption)
 ·exact⟨.v (.int .i64 (-1)),[],0,[],by (repeat' first|exact trivial|refine⟨?_,?_⟩|exact rfl|assumption),hK⟩
theorem Gy {l:Wd} (hl:∀w∈l,zS w.toNat=true) {a:Option Addr} {n c:Nat} {H:Hp} {K:SV→St→Hp→Prop} (ha:RL H a n c l) (hK:K (.v (.bool false)) ⟨[],[],0⟩ H):aY prog 257 [.v (.slice a n c),.fn 258 []] [] 0 H K:=by
 refine aJ af aa func257 call257 ntmps257 results257 rfl rfl ?_;refine⟨[],rfl,DX hl ha ?_⟩;exact⟨.v (.bool false),[],0,[],by (repeat' first|exact trivial|refine⟨?_,?_⟩|exact rfl|assumption),hK⟩
theorem dF {w:Nat} (hw:w≤1024) {l:Wd} (hl:okW w l) {a:Option Addr} {n c:Nat} (ha:RL H a n c l) (hK:K (.bool true) H):aq prog 216 [.int .i64 3,.int .i64 (w:Nat),.slice a n c] H K:=by
 have dd:=ha.aB;have LS:=hl.1;refine ab af aa rfl func216 call216 ntmps216 results216 rfl rfl ?_;refine dE hw ?_;refine⟨fun _=>?_,(fun h=>by cases h)⟩;refine gN hw ?_;refine⟨(fun h=>absurd (by rw[dd,LS]) (nt h)),fun _=>?_⟩;refine⟨(fun h=>absurd rfl (nt h)),fun _=>?_⟩;refine⟨[],rfl,Gy hl.2 ha ?_⟩;exact hK
abbrev c2 (w:Nat):List (Nat×Bx):=[(0,.cells 3 [.v (.int .i64 3)]),(1,.cells 3 [.v (.int .i64 (w:Nat))])]
theorem tM {w:Nat} (hw:w≤1024) {l:Wd} (hl:okW w l) {a:Option Addr} {n c:Nat} {H:Hp} {K:SV→St→Hp→Prop} (ha:RL H a n c l) (hK:K (.v (.bool false)) ⟨[],c2 w,2⟩ H):
  aY prog 307 [.v (.slice a n c),.ptr 0 0,.ptr 1 0] (c2 w) 2 H K:=by
 refine aJ af aa func307 call307 ntmps307 results307 rfl rfl ?_;refine dF hw hl ha ?_;exact⟨.v (.bool false),c2 w,2,[(0,0),(1,1)],by (repeat' first|exact trivial|refine⟨?_,?_⟩|exact rfl|assumption),hK⟩
theorem o4 {w:Nat} (hw:w≤1024) {l:List Wd} (hl:∀x∈l,okW w x) {a:Option Addr} {n c:Nat} {H:Hp} {K:SV→St→Hp→Prop} (ha:RL H a n c l) (hK:K (.v (.int .i64 (-1))) ⟨[],c2 w,2⟩ H):
  aY prog 306 [.v (.slice a n c),.fn 307 [.ptr 0 0,.ptr 1 0]] (c2 w) 2 H K:=by
 have dd:=ha.aB;have eI:=ha.le;refine aJ af aa func306 call306 ntmps306 results306 rfl rfl ?_
 refine⟨Nat,fun j=>⟨[(0,.v (.slice a n c)),(1,.fn 307 [.ptr 0 0,.ptr 1 0]),(7,.v (.int .i64 n)),(8,.v (.int .i64 j))],c2 w,2⟩,
  fun j H'=>H'=H∧j≤l.length,fun j=>l.length - j,⟨0,[(0,0),(1,1)],?_,rfl,by omega⟩,?_⟩
 ·(repeat' first|exact trivial|refine⟨?_,?_⟩|exact rfl|assumption)
 rintro j H1 _ ⟨rfl,hi⟩;refine⟨fun h=>?_,fun h=>?_⟩
 ·have aj:j<l.length:=by have:=dt h;omega
  refine dj ha (aL aj) fun ad a5 n5 c5 q1 hh hr=>?_
  refine⟨ad,⟨by omega,by omega,q1⟩,?_⟩;refine⟨_,hh,?_⟩;refine⟨[0,1],rfl,tM hw (hl _ (List.getElem_mem aj)) hr ?_⟩;refine⟨(fun h=>by cases h),fun _=>?_⟩;refine⟨⟨by omega,by omega⟩,j+1,[(0,0),(1,1)],?_,⟨rfl,by omega⟩,by dsimp only;omega⟩
  (repeat' first|exact trivial|refine⟨?_,?_⟩|exact rfl|assumption)
 ·exact⟨.v (.int .i64 (-1)),c2 w,2,[(0,0),(1,1)],by (repeat' first|exact trivial|refine⟨?_,?_⟩|exact rfl|assumption),hK⟩
theorem qY {w:Nat} (hw:w≤1024) {l:List Wd} (hl:∀x∈l,okW w x) {a:Option Addr} {n c:Nat} {H:Hp} {K:SV→St→Hp→Prop} (ha:RL H a n c l) (hK:K (.v (.bool false)) ⟨[],c2 w,2⟩ H):
  aY prog 251 [.v (.slice a n c),.fn 307 [.ptr 0 0,.ptr 1 0]] (c2 w) 2 H K:=by
 refine aJ af aa func251 call251 ntmps251 results251 rfl rfl ?_;refine⟨[0,1],rfl,o4 hw hl ha ?_⟩;exact⟨.v (.bool false),c2 w,2,[(0,0),(1,1)],by (repeat' first|exact trivial|refine⟨?_,?_⟩|exact rfl|assumption),hK⟩
theorem l8 {w:Nat} (hw:w≤1024) {l:List Wd} (hl:∀x∈l,okW w x) {a:Option Addr} {n c:Nat} (ha:RL H a n c l) (hK:K (.int .i64 0) H):aq prog 254 [.int .i64 3,.int .i64 (w:Nat),.slice a n c] H K:=by
 refine ab af aa rfl func254 call254 ntmps254 results254 rfl rfl ?_;refine dE hw ?_;refine⟨(fun h=>by cases h),fun _=>?_⟩;refine⟨[0,1],rfl,qY hw hl ha ?_⟩;refine⟨(fun h=>by cases h),fun _=>?_⟩;exact hK
theorem zU {a b:Wd} {i:Nat} {x y:UInt64} (hx:a[i]?=some x) (hy:b[i]?=some y):((gM a b).take (i+1)).map (fun w=>[Value.int .u64 (w.toNat:Nat)])=((gM a b).take i).map (fun w=>[Value.int .u64 (w.toNat:Nat)])++[[.int .u64 (iO x.toNat y.toNat:Nat)]]:=by
 have h:(gM a b)[i]?=some (MW x y):=by rw[gM,List.getElem?_zipWith,hx,hy]
 rw[List.take_add_one,h,Option.toList_some,List.map_append];simp [zT]
theorem nH {w:Nat} (hw:w≤1024) {x y:Wd} (hx:okW w x) (hy:okW w y) {a a2:Option Addr} {n c n2 k2:Nat} (ha:RL H a n c x) (hb:RL H a2 n2 k2 y) (hK:∀a1 n1 c1 H',Le H H'→RL H' a1 n1 c1 (gM x y)→K (.tuple #[.slice a1 n1 c1,.int .i64 0]) H'):
  aq prog 212 [.int .i64 3,.int .i64 (w:Nat),.slice a n c,.slice a2 n2 k2] H K:=by
 have dd:=ha.aB;have lv:=hb.aB;have TI:=hx.1;have Gz:=hy.1;refine ab af aa rfl func212 call212 ntmps212 results212 rfl rfl ?_;intro v H1 ak hv;have rO:RC (α:=Wd) H1 [[.slice a n c],[.slice a2 n2 k2]] [x,y]:=((RC.nil (α:=Wd)).snoc (show cq.R (α:=Wd) H1 [.slice a n c] x from ⟨a,n,c,rfl,ha.up ak.le⟩)).snoc (show cq.R (α:=Wd) H1 [.slice a2 n2 k2] y from ⟨a2,n2,k2,rfl,hb.up ak.le⟩);obtain⟨a3,n3,c3,rfl,db⟩:=RL.aC (α:=Wd) hv rO;refine l8 hw (l:=[x,y]) (fun z hz=>?_) db ?_
 ·simp only[List.mem_cons,List.not_mem_nil,or_false]at hz
  rcases hz with rfl | rfl
  ·exact hx
  ·exact hy
 refine⟨(fun h=>absurd rfl (nt h)),fun _=>?_⟩;have eD:(gM x y).length=w:=(sv hx hy).1
 refine⟨Nat,fun i=>⟨[(0,.v (.int .i64 3)),(2,.v (.slice a n c)),(3,.v (.slice a2 n2 k2)),(11,.own 0),(22,.v (.slice a n c)),(23,.v (.int .i64 n)),(24,.v (.int .i64 i))],[(0,.row 126 1 (((gM x y).take i).map fun w=>[.int .u64 (w.toNat:Nat)]))],1⟩,
  fun i H'=>H'=H∧i≤x.length,fun i=>x.length - i,⟨0,[],?_,rfl,Nat.zero_le _⟩,?_⟩
 ·(repeat' first|exact trivial|refine⟨?_,?_⟩|exact rfl|assumption)
 rintro i H2 _ ⟨rfl,hi⟩
 have xD:(((gM x y).take i).map fun w=>[Value.int .u64 (w.toNat:Nat)]).length=i:=by rw[List.length_map,List.length_take];omega
 refine⟨fun h=>?_,fun h=>?_⟩
 ·have aj:i<x.length:=by have:=dt h;omega
  have dK:i<y.length:=by omega
  refine dO ha (aL aj) fun ad q1 hh hr=>?_
  refine dO hb (aL dK) fun iy q2 gj bj=>?_
  have Qy:=zU (aL aj) (aL dK);refine⟨some ([0,1],[0,1,2,3,4,5,6,7,8,9,10,11,12,13]),by kernel_rfl,?_⟩;refine⟨ad,⟨by omega,by omega,q1⟩,?_⟩;refine⟨_,hh,?_⟩;refine⟨iy,⟨by omega,by omega,q2⟩,?_⟩;refine⟨_,gj,?_⟩;refine nG hr bj ?_;refine⟨⟨by show (_+1)*8≤140737488355328;rw[xD];omega,by show _+1≤9223372036854775807;rw[xD];omega⟩,?_⟩;have e:=Qy.symm;refine⟨⟨by omega,by omega⟩,i+1,[(0,2)],?_,⟨rfl,aj⟩,by dsimp only;omega⟩
  (repeat' first|exact trivial|refine⟨?_,?_⟩|exact rfl|assumption)
 ·have aX:i=x.length:=by have:=df h;omega
  have e:(gM x y).take i=gM x y:=List.take_of_length_le (by omega);rw[e];intro v H3 az yl;obtain⟨a5,n5,c5,rfl,ct⟩:=RL.aC (α:=UInt64) yl jJ;exact hK _ _ _ _ az.le ct
theorem jK {n:Nat} (hn:n≤1024) (hK:K (.bool true) H):aq prog 243 [.int .i64 3,.int .i64 (n:Nat)] H K:=by
 refine ab af aa rfl func243 call243 ntmps243 results243 rfl rfl ?_;refine⟨fun _=>?_,(fun h=>absurd (by decide) (df h))⟩;refine⟨fun _=>?_,(fun h=>absurd (by decide) (df h))⟩;refine⟨fun _=>?_,(fun h=>absurd (by omega) (df h))⟩;exact aA hK (by rw[decide_eq_true (by omega)])
theorem o5 {n:Nat} (hn:n≤1024) (hK:K (.int .i64 (n:Nat)) H):aq prog 295 [.int .i64 3,.int .i64 (n:Nat)] H K:=by
 refine ab af aa rfl func295 call295 ntmps295 results295 rfl rfl ?_;refine jK hn ?_;refine⟨(fun h=>by cases h),fun _=>?_⟩;refine⟨fun _=>?_,(fun h=>absurd rfl (df h))⟩;exact hK
theorem mK {n:Nat} (hn:n≤1024) (hK:∀a n1 c H',Le H H'→RL H' a n1 c (kR n)→K (.slice a n1 c) H'):aq prog 239 [.int .i64 3,.int .i64 (n:Nat)] H K:=by
 refine ab af aa rfl func239 call239 ntmps239 results239 rfl rfl ?_;refine jK hn ?_;refine⟨fun _=>?_,(fun h=>by cases h)⟩;refine⟨(fun h=>absurd (dt h) (by decide)),fun _=>?_⟩;refine o5 hn ?_;refine⟨⟨rfl,by omega,by show (n:Int)*8≤_;omega,by omega⟩,?_⟩;intro v H1 ak hv
 have e:aW H1 v 1 ((kR n).map fun w=>[Value.int .u64 (w.toNat:Nat)]):=by
  rw[kR,List.map_replicate];exact hv
 obtain⟨a,n1,c,rfl,hr⟩:=RL.aC (α:=UInt64) e jJ;exact hK _ _ _ _ ak.le hr
theorem nI {n:Nat} (hn:n≤1024) (hK:K (.int .i64 (2*n:Nat)) H):aq prog 191 [.int .i64 3,.int .i64 (n:Nat)] H K:=by
 refine ab af aa rfl func191 call191 ntmps191 results191 rfl rfl ?_;refine jK hn ?_;refine⟨(fun h=>by cases h),fun _=>?_⟩;refine⟨fun _=>?_,(fun h=>absurd rfl (df h))⟩;refine⟨⟨by omega,by omega⟩,?_⟩;exact cT hK (by omega)
theorem nJ {a b:Nat} (ha:a<18446744073709551616) (hb:b<18446744073709551616) (hK:K (.int .u64 (iO a b:Nat)) H):aq prog 297 [.int .i64 3,.int .u64 a,.int .u64 b] H K:=by
 refine ab af aa rfl func297 call297 ntmps297 results297 rfl rfl ?_;refine⟨(fun h=>absurd (dt h) (by decide)),fun _=>?_⟩;refine⟨(fun h=>absurd (dt h) (by decide)),fun _=>?_⟩;refine⟨fun _=>?_,(fun h=>absurd rfl (df h))⟩;exact Gv ha hb hK
theorem o6 {w:Nat} (hw:w≤1024) {x y:Wd} (hx:okW w x) (hy:okW w y) {a a2:Option Addr} {n c n2 k2:Nat} (ha:RL H a n c x) (hb:RL H a2 n2 k2 y) (hK:∀a1 n1 c1 H',Le H H'→RL H' a1 n1 c1 (gM x y)→K (.slice a1 n1 c1) H'):
  aq prog 241 [.int .i64 3,.slice a n c,.slice a2 n2 k2] H K:=by
 have dd:=ha.aB;have lv:=hb.aB;have TI:=hx.1;have Gz:=hy.1;have eD:(gM x y).length=w:=(sv hx hy).1;refine ab af aa rfl func241 call241 ntmps241 results241 rfl rfl ?_
 refine⟨Nat,fun i=>⟨[(0,.v (.int .i64 3)),(1,.v (.slice a n c)),(2,.v (.slice a2 n2 k2)),(7,.own 0),(9,.v (.slice a n c)),(10,.v (.int .i64 n)),(11,.v (.int .i64 i))],[(0,.row 126 1 (((gM x y).take i).map fun w=>[.int .u64 (w.toNat:Nat)]))],1⟩,
  fun i H'=>H'=H∧i≤x.length,fun i=>x.length - i,⟨0,[],?_,rfl,Nat.zero_le _⟩,?_⟩
 ·(repeat' first|exact trivial|refine⟨?_,?_⟩|exact rfl|assumption)
 rintro i H2 _ ⟨rfl,hi⟩
 have xD:(((gM x y).take i).map fun w=>[Value.int .u64 (w.toNat:Nat)]).length=i:=by rw[List.length_map,List.length_take];omega
 refine⟨fun h=>?_,fun h=>?_⟩
 ·have aj:i<x.length:=by have:=dt h;omega
  have dK:i<y.length:=by omega
  refine dO ha (aL aj) fun ad q1 hh hr=>?_
  refine dO hb (aL dK) fun iy q2 gj bj=>?_
  have Qy:=zU (aL aj) (aL dK);refine⟨some ([0,1],[0,1,2,3,4,5,6,7,8,9,10,11,12,13]),by kernel_rfl,?_⟩;refine⟨ad,⟨by omega,by omega,q1⟩,?_⟩;refine⟨_,hh,?_⟩;refine⟨iy,⟨by omega,by omega,q2⟩,?_⟩;refine⟨_,gj,?_⟩;refine nJ hr bj ?_;refine⟨⟨by show (_+1)*8≤140737488355328;rw[xD];omega,by show _+1≤9223372036854775807;rw[xD];omega⟩,?_⟩;have e:=Qy.symm;refine⟨⟨by omega,by omega⟩,i+1,[(0,2)],?_,⟨rfl,aj⟩,by dsimp only;omega⟩
  (repeat' first|exact trivial|refine⟨?_,?_⟩|exact rfl|assumption)
 ·have aX:i=x.length:=by have:=df h;omega
  have e:(gM x y).take i=gM x y:=List.take_of_length_le (by omega);rw[e];intro v H3 az yl;obtain⟨a5,n5,c5,rfl,ct⟩:=RL.aC (α:=UInt64) yl jJ;exact hK _ _ _ _ az.le ct
end Go.Proofs
end
section
namespace Go.Proofs
open Go.Sy
open Tryz
variable {H:Hp} {K:Value→Hp→Prop}
abbrev Rf:=Int×Nm
abbrev Cd:=Int×Int×Rf×Rf
abbrev GA (r:Rf):List Value:=[.int .i64 r.1,.int .i64 r.2.1,.int .i64 r.2.2]
abbrev qy (c:Cd):List Value:=[.int .i64 c.1,.int .i64 c.2.1,.int .i64 c.2.2.1.1,.int .i64 c.2.2.1.2.1,.int .i64 c.2.2.1.2.2,.int .i64 c.2.2.2.1,.int .i64 c.2.2.2.2.1,.int .i64 c.2.2.2.2.2]
theorem Kb {H:Hp} {cs:List Value} {c:Cd} (h:cq.R H cs c):cs=qy c:=by
 obtain⟨x1,x2,rfl,⟨rfl,_⟩,y1,y2,rfl,⟨rfl,_⟩,z1,z2,rfl,⟨u1,u2,rfl,⟨rfl,_⟩,v1,v2,rfl,⟨rfl,_⟩,⟨rfl,_⟩⟩,⟨u3,u4,rfl,⟨rfl,_⟩,v3,v4,rfl,⟨rfl,_⟩,⟨rfl,_⟩⟩⟩:=h
 rfl
theorem Br {P:Prop} {H:Hp} {a:Option Addr} {n c:Nat} {xs:List Cd} (h:RL H a n c xs) {i:Nat} {x:Cd} (hi:xs[i]?=some x) (k:∀ad,a=some ad→jz H ad (i:Int) 8 (qy x)→P):P :=
 kN h hi fun ad cs h1 h2 h3=>by
  have e:=Kb h3;subst e;exact k ad h1 h2
noncomputable def Zp:Cx:={ P:=prog,tt:=tt,n:=0,wrap:=false,base:=0,gf:=263::cx.gf,eqs:=cx.eqs,xf:=[] }
theorem R7:eH Zp:=⟨af.tt,af.eqs⟩
abbrev vL (l:List Value):List SV:=l.map .v
def Iw (w:Nat) (r:Rf):Prop:=(r.1 = -1∧fu r.2.1=r.2.1∧fu r.2.2=r.2.2)∨(0≤r.1∧r.1<(w:Nat)∧r.2=(0,0))
def R8 (w:Nat) (c:Cd):Prop:=0≤c.1∧c.1<(w:Nat)∧((c.2.1 = -1∧c.2.2.1=(0,0,0)∧c.2.2.2=(0,0,0))∨(0≤c.2.1∧c.2.1≤4∧Iw w c.2.2.1∧Iw w c.2.2.2))
theorem zV {w:Nat} {r:Rf} (hr:Iw w r) (hK:K (.bool true) H):aq prog 313 [.int .i64 (w:Nat),.agg (GA r).toArray] H K:=by
 refine ab af aa rfl func313 call313 ntmps313 results313 rfl rfl ?_;refine⟨fun h=>?_,fun h=>?_⟩
 ·have h1:r.1 = -1:=dt h;refine Dp (a:=r.2) ?_;refine aA hK ?_
  rcases hr with ⟨_,h2,h3⟩ | ⟨h2,_⟩
  ·rw[RE];simp [mu,h2,h3]
  ·omega
 ·have h1:¬r.1 = -1:=df h
  have hr:0≤r.1∧r.1<(w:Nat)∧r.2=(0,0):=by
   rcases hr with ⟨h2,_⟩ | h2
   ·exact absurd h2 h1
   ·exact h2
  refine⟨fun _=>?_,(fun h=>absurd (by omega) (df h))⟩;refine⟨fun _=>?_,(fun h=>absurd (by omega) (df h))⟩;exact aA hK (by rw[hr.2.2];rfl)
theorem GB {w:Nat} {c:Cd} (hc:R8 w c) (hK:K (.bool true) H):aq prog 264 [.int .i64 (w:Nat),.agg (qy c).toArray] H K:=by
 have h1:=hc.1;have h2:=hc.2.1;refine ab af aa rfl func264 call264 ntmps264 results264 rfl rfl ?_;refine⟨fun _=>?_,(fun h=>absurd (dt h) (by omega))⟩;refine⟨fun _=>?_,(fun h=>absurd (dt h) (by omega))⟩
 have h3 : -1≤c.2.1∧c.2.1≤4:=by rcases hc.2.2 with h | h<;>omega
 refine⟨fun _=>?_,(fun h=>absurd (dt h) (by omega))⟩;refine⟨(fun h=>absurd (dt h) (by omega)),fun _=>?_⟩;refine⟨fun h=>?_,fun h=>?_⟩
 ·have h4:c.2.1 = -1:=dt h
  have h5:c.2.2.1=(0,0,0)∧c.2.2.2=(0,0,0):=by
   rcases hc.2.2 with h | h
   ·exact h.2
   ·omega
  refine⟨fun _=>?_,(fun h=>absurd h (by rw[h5.1];decide))⟩;exact aA hK (by rw[h5.2];rfl)
 ·have h4:¬c.2.1 = -1:=df h
  have h5:Iw w c.2.2.1∧Iw w c.2.2.2:=by
   rcases hc.2.2 with h | h
   ·exact absurd h.1 h4
   ·exact h.2.2
  refine zV h5.1 ?_;refine⟨fun _=>?_,(fun h=>by cases h)⟩;refine zV h5.2 ?_;exact hK
def Pn (w:Nat) (l:List Cd):Prop:=∀c∈l,R8 w c
abbrev c1 (w:Nat):List (Nat×Bx):=[(0,.cells 3 [.v (.int .i64 (w:Nat))])]
theorem Kc {w:Nat} {c:Cd} (hc:R8 w c) {H:Hp} {K:SV→St→Hp→Prop} (hK:K (.v (.bool false)) ⟨[],c1 w,1⟩ H):
  aY prog 263 [.agg (vL (qy c)),.ptr 0 0] (c1 w) 1 H K:=by
 refine aJ af aa func263 call263 ntmps263 results263 rfl rfl ?_;refine GB hc ?_;exact⟨.v (.bool false),c1 w,1,[(0,0)],by (repeat' first|exact trivial|refine⟨?_,?_⟩|exact rfl|assumption),hK⟩
theorem DY {w:Nat} {l:List Cd} (hl:Pn w l) {a:Option Addr} {n c:Nat} {H:Hp} {K:SV→St→Hp→Prop} (ha:RL H a n c l) (hK:K (.v (.int .i64 (-1))) ⟨[],c1 w,1⟩ H):
  aY prog 312 [.v (.slice a n c),.fn 263 [.ptr 0 0]] (c1 w) 1 H K:=by
 have dd:=ha.aB;have eI:=ha.le;refine aJ R7 aa func312 call312 ntmps312 results312 rfl rfl ?_
 refine⟨Nat,fun j=>⟨[(0,.v (.slice a n c)),(1,.fn 263 [.ptr 0 0]),(7,.v (.int .i64 n)),(8,.v (.int .i64 j))],c1 w,1⟩,
  fun j H'=>H'=H∧j≤l.length,fun j=>l.length - j,⟨0,[(0,0)],?_,rfl,by omega⟩,?_⟩
 ·(repeat' first|exact trivial|refine⟨?_,?_⟩|exact rfl|assumption)
 rintro j H1 _ ⟨rfl,hi⟩;refine⟨fun h=>?_,fun h=>?_⟩
 ·have aj:j<l.length:=by have:=dt h;omega
  refine Br ha (aL aj) fun ad q1 hh=>?_
  refine⟨ad,⟨by omega,by omega,q1⟩,?_⟩;refine⟨_,hh,?_⟩;refine⟨[0],rfl,Kc (hl _ (List.getElem_mem aj)) ?_⟩;refine⟨(fun h=>by cases h),fun _=>?_⟩;refine⟨⟨by omega,by omega⟩,j+1,[(0,0)],?_,⟨rfl,by omega⟩,by dsimp only;omega⟩
  (repeat' first|exact trivial|refine⟨?_,?_⟩|exact rfl|assumption)
 ·exact⟨.v (.int .i64 (-1)),c1 w,1,[(0,0)],by (repeat' first|exact trivial|refine⟨?_,?_⟩|exact rfl|assumption),hK⟩
theorem GC {w:Nat} {l:List Cd} (hl:Pn w l) {a:Option Addr} {n c:Nat} {H:Hp} {K:SV→St→Hp→Prop} (ha:RL H a n c l) (hK:K (.v (.bool false)) ⟨[],c1 w,1⟩ H):
  aY prog 262 [.v (.slice a n c),.fn 263 [.ptr 0 0]] (c1 w) 1 H K:=by
 refine aJ af aa func262 call262 ntmps262 results262 rfl rfl ?_;refine⟨[0],rfl,DY hl ha ?_⟩;exact⟨.v (.bool false),c1 w,1,[(0,0)],by (repeat' first|exact trivial|refine⟨?_,?_⟩|exact rfl|assumption),hK⟩
abbrev QG (a:Option Addr) (n c:Nat):Value:=.agg #[.slice none 0 0,.slice none 0 0,.slice a n c]
theorem jL {w:Nat} (hw:w≤1024) {l:List Cd} (hl:Pn w l) {a:Option Addr} {n c:Nat} (ha:RL H a n c l) (hK:K (.int .i64 0) H):
  aq prog 218 [.int .i64 3,.int .i64 (w:Nat),QG a n c] H K:=by
 refine ab af aa rfl func218 call218 ntmps218 results218 rfl rfl ?_;refine⟨fun _=>?_,(fun h=>absurd (dt h) (by omega))⟩;refine⟨(fun h=>absurd (dt h) (by omega)),fun _=>?_⟩;refine⟨(fun h=>absurd (dt h) (by decide)),fun _=>?_⟩;refine⟨(fun h=>absurd (dt h) (by decide)),fun _=>?_⟩;refine⟨fun _=>?_,(fun h=>absurd rfl (df h))⟩;refine⟨⟨by decide,by decide⟩,?_⟩;refine⟨fun _=>?_,(fun h=>absurd rfl (df h))⟩;refine⟨[0],rfl,GC hl ha ?_⟩;refine⟨(fun h=>by cases h),fun _=>?_⟩;exact hK
theorem Kd {l:Wd} {t:Nat} {a:Option Addr} {n c:Nat} (ha:RL H a n c l) (hK:K (.int .i64 (mC (fun (x:UInt64)=>decide (x.toNat=t)) l 0)) H):aq prog 265 [.slice a n c,.int .u64 (t:Nat)] H K:=by
 have dd:=ha.aB;have eI:=ha.le;refine ab af aa rfl func265 call265 ntmps265 results265 rfl rfl ?_;refine⟨Nat,fun i=>⟨[(0,.v (.slice a n c)),(1,.v (.int .u64 (t:Nat))),(7,.v (.int .i64 n)),(8,.v (.int .i64 i))],[],0⟩,fun i H'=>H'=H∧i≤l.length∧mC (fun (x:UInt64)=>decide (x.toNat=t)) l 0=mC (fun (x:UInt64)=>decide (x.toNat=t)) (l.drop i) i,fun i=>l.length - i,⟨0,[],?_,rfl,by omega,rfl⟩,?_⟩
 ·(repeat' first|exact trivial|refine⟨?_,?_⟩|exact rfl|assumption)
 rintro i H1 _ ⟨rfl,hi,hx⟩;refine⟨fun h=>?_,fun h=>?_⟩
 ·have aj:i<l.length:=by have:=dt h;omega
  rw[tA aj]at hx
  refine dO ha (aL aj) fun ad e1 hh _=>?_
  refine⟨ad,⟨by omega,by omega,e1⟩,?_⟩;refine⟨_,hh,?_⟩;refine⟨fun h=>?_,fun h=>?_⟩
  ·have he:l[i].toNat=t:=by have:=dt h;omega
   rw[if_pos (decide_eq_true he)]at hx;rw[hx]at hK;exact hK
  ·have he:¬l[i].toNat=t:=by have:=df h;omega
   rw[if_neg (by rw[decide_eq_true_eq];exact he)]at hx;refine⟨⟨by omega,by omega⟩,i+1,[],?_,⟨rfl,by omega,hx⟩,by dsimp only;omega⟩
   (repeat' first|exact trivial|refine⟨?_,?_⟩|exact rfl|assumption)
 ·have aX:i=l.length:=by have:=df h;omega
  rw[aX,List.drop_length,mC]at hx;rw[hx]at hK;exact hK
def ow (l:Wd):Bool:=l.any fun (x:UInt64)=>decide (x.toNat=0)
theorem xE {l:Wd} {a:Option Addr} {n c:Nat} (ha:RL H a n c l) (hK:K (.bool (ow l)) H):aq prog 221 [.slice a n c,.int .u64 0] H K:=by
 refine ab af aa rfl func221 call221 ntmps221 results221 rfl rfl ?_;refine Kd (t:=0) ha ?_;refine aA hK ?_;rw[ow,sf l 0 (Int.le_refl 0)]
abbrev aV (l:Wd):List (List Value):=l.map fun w=>[.int .u64 (w.toNat:Nat)]
theorem DZ {H:Hp} {css:List (List Value)} {l:Wd} (h:RC (α:=UInt64) H css l):css=aV l:=by
 apply List.ext_getElem?;intro i
 by_cases hi:i<css.length
 ·have Ry:i<l.length:=by rw[←h.1];exact hi
  have h1:=aL hi;have h2:=aL Ry;have h3:css[i]=[.int .u64 (l[i].toNat:Nat)]:=h.2 i _ _ h1 h2
  rw[h1,h3,List.getElem?_map,h2];rfl
 ·rw[List.getElem?_eq_none (by omega),List.getElem?_eq_none (by rw[List.length_map,←h.1];omega)]
theorem sw {l:Wd} (hl:l.length≤1000000) {a:Option Addr} {n c:Nat} (ha:RL H a n c l) (hK:∀v H',qp 126 1 (aV l) H v H'→aW H' v 1 (aV l)→K v H') (qM:a=none→l=[]→K (.slice none 0 0) H):aq prog 253 [.slice a n c] H K:=by
 have hn:=ha.aB;refine ab af aa rfl func253 call253 ntmps253 results253 rfl rfl ?_;refine⟨fun h=>?_,fun h=>?_⟩
 ·have gZ:a=none:=by
   cases a with
   | none=>rfl
   | some x=>cases h
  subst gZ;exact qM rfl (A2 ha)
 ·obtain⟨css,gF,bf⟩:=ha.row;have fC:css.length=l.length:=bf.1;have e:=DZ bf;refine⟨css,gF,?_⟩;refine⟨⟨by show (0+css.length)*8≤140737488355328;omega,by show 0+css.length≤9223372036854775807;omega⟩,?_⟩;intro v H' hle hv;rw[e]at hle hv;exact hK v H' hle hv
theorem uN {l:Wd} (hl:l.length≤1000000) {a:Option Addr} {n c:Nat} (ha:RL H a n c l) (hK:∀a1 n1 c1 H',Le H H'→RL H' a1 n1 c1 l→K (.slice a1 n1 c1) H'):aq prog 253 [.slice a n c] H K:=by
 refine sw hl ha (fun v H' hle hv=>?_) (fun _ e=>?_)
 ·obtain⟨a1,n1,c1,rfl,hr⟩:=RL.aC (α:=UInt64) hv jJ;exact hK _ _ _ _ hle.le hr
 ·rw[e]at hK;exact hK none 0 0 H (Le.refl H) bz
theorem Bu {l:Wd} (hl:l.length≤1000000) {a:Option Addr} {n c:Nat} {H:Hp} {K:SV→St→Hp→Prop} (ha:RL H a n c l)
  (hK:∀H',Le H H'→K (.own 0) ⟨[],[(0,.row 126 1 (aV l))],1⟩ H') (qM:l=[]→K (.v (.slice none 0 0)) ⟨[],[],0⟩ H):aY prog 253 [.v (.slice a n c)] [] 0 H K:=by
 refine fF (args:=[.slice a n c]) (fun _=>rfl) (sw hl ha (K:=fun v H'=>qp 126 1 (aV l) H v H'∨(v = .slice none 0 0∧l=[]∧H'=H)) (fun v H' h _=>.inl h) (fun _ e=>.inr ⟨rfl,e,rfl⟩)) ?_;rintro v H2 hle (h | ⟨rfl,e,rfl⟩)
 ·refine .inr ⟨126,1,aV l,v,.own 0,fun ρ hρ=>hρ,rfl,h.new,fun y hy=>?_,fun H' ah _=>hK H' ah⟩;obtain⟨w,_,rfl⟩:=List.mem_map.1 hy;exact⟨rfl,fun u hu=>by simp at hu;subst hu;rfl⟩
 ·exact .inl ⟨.v (.slice none 0 0),fun _=>rfl,rfl,qM e⟩
end Go.Proofs
end
section
namespace Go.Proofs
open Go.Sy
open Tryz
def kS (v:Wd) (r:Rf):Nat:=if r.1 = -1 then Bp r.2 else (v[r.1.toNat]?.getD 0).toNat
def o7 (v:Wd) (c:Cd):Wd:=v.set c.1.toNat (if c.2.1 = -1 then 1 else UInt64.ofNat (tL c.2.1 (kS v c.2.2.1) (kS v c.2.2.2)))
def Ix (v:Wd) (l:List Cd):Wd:=l.foldl o7 v
def l9 (l:List Cd) (v:Wd):Wd:=if ow v then kR v.length else Ix v l
theorem R9 {w:Nat} {v:Wd} (h:okW w v) (c:Cd):okW w (o7 v c):=by
 refine⟨by rw[o7,List.length_set];exact h.1,fun x hx=>?_⟩;rw[o7]at hx
 rcases List.mem_or_eq_of_mem_set hx with hx | rfl
 ·exact h.2 x hx
 ·split
  ·rfl
  ·rw[kQ (Bq _ _ _)];exact R6 _ _ _
theorem MX {w:Nat}:∀(l:List Cd) {v:Wd},okW w v→okW w (Ix v l)
 | [],_,h=>h
 | c::r,v,h=>MX r (v:=o7 v c) (R9 h c)
theorem Po {w:Nat} {v:Wd} (h:okW w v) (l:List Cd):okW w (l9 l v):=by
 unfold l9;split
 ·rw[h.1];exact vT w
 ·exact MX l h
theorem xF (v:Wd) (l:List Cd) (c:Cd):Ix v (l++[c])=o7 (Ix v l) c:=by rw[Ix,List.foldl_append];rfl
theorem fp (v:Wd) (r:Rf):kS v r<18446744073709551616:=by
 unfold kS;split
 ·have:=Gr r.2;omega
 ·exact UInt64.toNat_lt _
theorem cK {v:Wd} {i:Int} (h0:0≤i) (h1:i<(v.length:Nat)):(aV v)[i.toNat]?=some [.int .u64 ((v[i.toNat]?.getD 0).toNat:Nat)]:=by
 have h:i.toNat<v.length:=by omega
 rw[List.getElem?_map,aL h];rfl
theorem bn (v:Wd):(aV v).length=v.length:=List.length_map _
theorem jo (v:Wd) (i:Nat) {x:Nat} (hx:x<18446744073709551616):(aV v).set i [.int .u64 (x:Nat)]=aV (v.set i (UInt64.ofNat x)):=by
 rw[aV,aV,List.map_set,kQ hx]
abbrev b2 (v:Wd):List (Nat×Bx):=[(0,.cells 103 [.own 1]),(1,.row 126 1 (aV v))]
theorem dw {w:Nat} {v:Wd} (hv:v.length=w) {r:Rf} (hr:Iw w r) {H:Hp} {K:SV→St→Hp→Prop} (hK:K (.v (.int .u64 (kS v r:Nat))) ⟨[],b2 v,2⟩ H):aY prog 266 [.agg (vL (GA r)),.ptr 0 0] (b2 v) 2 H K:=by
 refine aJ af aa func266 call266 ntmps266 results266 rfl rfl ?_;refine⟨fun h=>?_,fun h=>?_⟩
 ·have h1:r.1 = -1:=dt h;refine o2 (a:=r.2) ?_;have e:kS v r=Bp r.2:=if_pos h1;rw[e]at hK;exact⟨.v (.int .u64 (Bp r.2:Nat)),b2 v,2,[(0,0),(1,1)],by (repeat' first|exact trivial|refine⟨?_,?_⟩|exact rfl|assumption),hK⟩
 ·have h1:¬r.1 = -1:=df h
  have hr:0≤r.1∧r.1<(w:Nat):=by
   rcases hr with ⟨h2,_⟩ | h2
   ·exact absurd h2 h1
   ·exact⟨h2.1,h2.2.1⟩
  have e:kS v r=(v[r.1.toNat]?.getD 0).toNat:=if_neg h1;refine⟨⟨by omega,by rw[bn];omega⟩,?_⟩;refine⟨_,cK hr.1 (by omega),?_⟩;rw[e]at hK;exact⟨.v (.int .u64 ((v[r.1.toNat]?.getD 0).toNat:Nat)),b2 v,2,[(0,0),(1,1)],by (repeat' first|exact trivial|refine⟨?_,?_⟩|exact rfl|assumption),hK⟩
noncomputable def Zq:Cx:={ P:=prog,tt:=tt,n:=0,wrap:=false,base:=0,gf:=253::cx.gf,eqs:=cx.eqs,xf:=[] }
theorem Sa:eH Zq:=⟨af.tt,af.eqs⟩
theorem Pp {w:Nat} (hw:w≤1024) {v:Wd} (hv:v.length=w) {l:List Cd} (hl:Pn w l) {a a2:Option Addr} {n c n2 k2:Nat} {H:Hp} {K:Value→Hp→Prop} (ha:RL H a n c v) (hb:RL H a2 n2 k2 l) (hK:∀a1 n1 c1 H',Le H H'→RL H' a1 n1 c1 (Ix v l)→K (.slice a1 n1 c1) H'):
  aq prog 222 [.slice a n c,.slice a2 n2 k2] H K:=by
 have lv:=hb.aB;have eI:=hb.le;refine ab Sa aa rfl func222 call222 ntmps222 results222 rfl rfl ?_;refine⟨[],rfl,Bu (by omega) ha (fun H2 ah=>?_) (fun he=>?_)⟩
 ·skip
  refine⟨Nat×Wd,fun z=>⟨[(2,.ptr 0 0),(5,.fn 266 [.ptr 0 0]),(11,.v (.slice a2 n2 k2)),(12,.v (.int .i64 n2)),(13,.v (.int .i64 z.1))],[(0,.cells 103 [.own 1]),(1,.row 126 1 (aV z.2))],2⟩,
   fun z H'=>H'=H2∧z.1≤l.length∧z.2.length=w∧z.2=Ix v (l.take z.1),fun z=>l.length - z.1,⟨(0,v),[(0,0),(1,1)],?_,rfl,Nat.zero_le _,hv,rfl⟩,?_⟩
  ·(repeat' first|exact trivial|refine⟨?_,?_⟩|exact rfl|assumption)
  rintro⟨i,u⟩ H3 _ ⟨rfl,hi,hu,hx⟩;dsimp only at hi hu hx;refine⟨fun h=>?_,fun h=>?_⟩
  ·have aj:i<l.length:=by have:=dt h;dsimp only at this;omega
   refine aD l[i] fun cd N1=>?_
   have N5:l[i]?=some cd:=by rw[N1];exact aL aj
   have ca:R8 w cd:=hl _ (by rw[N1];exact List.getElem_mem aj)
   have bc:Ix v (l.take (i+1))=o7 u cd:=by rw[hx,List.take_add_one,N5,Option.toList_some,xF]
   refine Br (hb.up (ah)) N5 fun ad e1 hh=>?_
   refine⟨ad,⟨by dsimp only;omega,by dsimp only;omega,e1⟩,?_⟩;refine⟨_,hh,?_⟩;have Iy:=bn u
   have zO:(o7 u cd).length=w:=by rw[o7,List.length_set];exact hu
   refine⟨fun h=>?_,fun h=>?_⟩
   ·have h1:cd.2.1 = -1:=dt h;refine⟨⟨ca.1,by rw[bn,hu];exact ca.2.1⟩,?_⟩;refine⟨_,cK ca.1 (by rw[hu];exact ca.2.1),?_⟩
    have e:(aV u).set cd.1.toNat [.int .u64 1]=aV (o7 u cd):=by
     have:=jo u cd.1.toNat (x:=1) (by omega)
     rw[o7,if_pos h1];exact this
    refine⟨⟨by dsimp only;omega,by dsimp only;omega⟩,(i+1,o7 u cd),[(0,0),(1,1)],?_,⟨rfl,aj,zO,bc.symm⟩,by dsimp only;omega⟩
    (repeat' first|exact trivial|refine⟨?_,?_⟩|exact rfl|assumption)
   ·have h1:¬cd.2.1 = -1:=df h
    have E9:Iw w cd.2.2.1∧Iw w cd.2.2.2:=by
     rcases ca.2.2 with h | h
     ·exact absurd h.1 h1
     ·exact h.2.2
    have e:(aV u).set cd.1.toNat [.int .u64 (tL cd.2.1 (kS u cd.2.2.1) (kS u cd.2.2.2):Nat)]=aV (o7 u cd):=by
     have:=jo u cd.1.toNat (Bq cd.2.1 (kS u cd.2.2.1) (kS u cd.2.2.2))
     rw[o7,if_neg h1];exact this
    refine⟨none,?_⟩
    refine bH (α:=Unit) ?_ ?_ (.two 0 8 (.one [1000000,0,1] [0,1,2,3,4,5,6,7,9,10,11,8,12,13,14,15]) (.two 0 12 (.one [1000000,0,1] [1,2,3,4,5,6,7,9,10,11,8,0,12,13,14,15]) (.one [1000000,0,1] [1,2,3,4,5,6,7,9,10,11,8,12,0,13,14,15])))
     (fun _=>⟨[(2,.ptr 0 0),(5,.fn 266 [.ptr 0 0]),(11,.v (.slice a2 n2 k2)),(12,.v (.int .i64 n2)),(13,.v (.int .i64 (i:Nat)))],[(0,.cells 103 [.own 1]),(1,.row 126 1 (aV (o7 u cd)))],2⟩)
     (fun _ H'=>H'=H3) (by kernel_rfl) ⟨?_,?_,?_⟩ ?_
    ·exact⟨af.tt,af.eqs⟩
    ·exact aa
    ·refine⟨[0,1],rfl,dw hu E9.1 ?_⟩;refine⟨[0,1],rfl,dw hu E9.2 ?_⟩;refine mJ (fp _ _) (fp _ _) ?_;refine⟨⟨ca.1,by rw[bn,hu];exact ca.2.1⟩,?_⟩;refine⟨_,cK ca.1 (by rw[hu];exact ca.2.1),?_⟩;refine⟨(),[(0,0),(1,1)],?_,rfl⟩
     (repeat' first|exact trivial|refine⟨?_,?_⟩|exact rfl|assumption)
    ·refine⟨[0,1],rfl,dw hu E9.1 ?_⟩;refine⟨[0,1],rfl,dw hu E9.2 ?_⟩;refine mJ (fp _ _) (fp _ _) ?_;refine⟨⟨ca.1,by rw[bn,hu];exact ca.2.1⟩,?_⟩;refine⟨_,cK ca.1 (by rw[hu];exact ca.2.1),?_⟩;refine⟨(),[(0,0),(1,1)],?_,rfl⟩
     (repeat' first|exact trivial|refine⟨?_,?_⟩|exact rfl|assumption)
    ·refine⟨[0,1],rfl,dw hu E9.1 ?_⟩;refine⟨[0,1],rfl,dw hu E9.2 ?_⟩;refine mJ (fp _ _) (fp _ _) ?_;refine⟨⟨ca.1,by rw[bn,hu];exact ca.2.1⟩,?_⟩;refine⟨_,cK ca.1 (by rw[hu];exact ca.2.1),?_⟩;refine⟨(),[(0,0),(1,1)],?_,rfl⟩
     (repeat' first|exact trivial|refine⟨?_,?_⟩|exact rfl|assumption)
    rintro _ H5 _ rfl;refine⟨⟨by omega,by omega⟩,(i+1,o7 u cd),[(0,0),(1,1)],?_,⟨rfl,aj,zO,bc.symm⟩,by dsimp only;omega⟩
    (repeat' first|exact trivial|refine⟨?_,?_⟩|exact rfl|assumption)
  ·have aX:i=l.length:=by have:=df h;dsimp only at this;omega
   rw[aX,List.take_length]at hx;rw[hx];intro y H6 aI hy;obtain⟨a7,n7,c7,rfl,dz⟩:=RL.aC (α:=UInt64) hy jJ;exact hK _ _ _ _ ((ah).trans aI.le) dz
 ·subst he
  refine⟨Nat×Wd,fun z=>⟨[(2,.ptr 0 0),(5,.fn 266 [.ptr 0 0]),(11,.v (.slice a2 n2 k2)),(12,.v (.int .i64 n2)),(13,.v (.int .i64 z.1))],[(0,.cells 103 [.own 1]),(1,.row 126 1 (aV z.2))],2⟩,
   fun z H'=>H'=H∧z.1≤l.length∧z.2.length=w∧z.2=Ix [] (l.take z.1),fun z=>l.length - z.1,⟨(0,[]),[(0,0)],?_,rfl,Nat.zero_le _,hv,rfl⟩,?_⟩
  ·(repeat' first|exact trivial|refine⟨?_,?_⟩|exact rfl|assumption)
  rintro⟨i,u⟩ H3 _ ⟨rfl,hi,hu,hx⟩;dsimp only at hi hu hx;refine⟨fun h=>?_,fun h=>?_⟩
  ·have aj:i<l.length:=by have:=dt h;dsimp only at this;omega
   refine aD l[i] fun cd N1=>?_
   have N5:l[i]?=some cd:=by rw[N1];exact aL aj
   have ca:R8 w cd:=hl _ (by rw[N1];exact List.getElem_mem aj)
   have bc:Ix [] (l.take (i+1))=o7 u cd:=by rw[hx,List.take_add_one,N5,Option.toList_some,xF]
   refine Br (hb.up (Le.refl _)) N5 fun ad e1 hh=>?_
   refine⟨ad,⟨by dsimp only;omega,by dsimp only;omega,e1⟩,?_⟩;refine⟨_,hh,?_⟩;have Iy:=bn u
   have zO:(o7 u cd).length=w:=by rw[o7,List.length_set];exact hu
   refine⟨fun h=>?_,fun h=>?_⟩
   ·have h1:cd.2.1 = -1:=dt h;refine⟨⟨ca.1,by rw[bn,hu];exact ca.2.1⟩,?_⟩;refine⟨_,cK ca.1 (by rw[hu];exact ca.2.1),?_⟩
    have e:(aV u).set cd.1.toNat [.int .u64 1]=aV (o7 u cd):=by
     have:=jo u cd.1.toNat (x:=1) (by omega)
     rw[o7,if_pos h1];exact this
    refine⟨⟨by dsimp only;omega,by dsimp only;omega⟩,(i+1,o7 u cd),[(0,0),(1,1)],?_,⟨rfl,aj,zO,bc.symm⟩,by dsimp only;omega⟩
    (repeat' first|exact trivial|refine⟨?_,?_⟩|exact rfl|assumption)
   ·have h1:¬cd.2.1 = -1:=df h
    have E9:Iw w cd.2.2.1∧Iw w cd.2.2.2:=by
     rcases ca.2.2 with h | h
     ·exact absurd h.1 h1
     ·exact h.2.2
    have e:(aV u).set cd.1.toNat [.int .u64 (tL cd.2.1 (kS u cd.2.2.1) (kS u cd.2.2.2):Nat)]=aV (o7 u cd):=by
     have:=jo u cd.1.toNat (Bq cd.2.1 (kS u cd.2.2.1) (kS u cd.2.2.2))
     rw[o7,if_neg h1];exact this
    refine⟨none,?_⟩
    refine bH (α:=Unit) ?_ ?_ (.two 0 8 (.one [1000000,0,1] [0,1,2,3,4,5,6,7,9,10,11,8,12,13,14,15]) (.two 0 12 (.one [1000000,0,1] [1,2,3,4,5,6,7,9,10,11,8,0,12,13,14,15]) (.one [1000000,0,1] [1,2,3,4,5,6,7,9,10,11,8,12,0,13,14,15])))
     (fun _=>⟨[(2,.ptr 0 0),(5,.fn 266 [.ptr 0 0]),(11,.v (.slice a2 n2 k2)),(12,.v (.int .i64 n2)),(13,.v (.int .i64 (i:Nat)))],[(0,.cells 103 [.own 1]),(1,.row 126 1 (aV (o7 u cd)))],2⟩)
     (fun _ H'=>H'=H3) (by kernel_rfl) ⟨?_,?_,?_⟩ ?_
    ·exact⟨af.tt,af.eqs⟩
    ·exact aa
    ·refine⟨[0,1],rfl,dw hu E9.1 ?_⟩;refine⟨[0,1],rfl,dw hu E9.2 ?_⟩;refine mJ (fp _ _) (fp _ _) ?_;refine⟨⟨ca.1,by rw[bn,hu];exact ca.2.1⟩,?_⟩;refine⟨_,cK ca.1 (by rw[hu];exact ca.2.1),?_⟩;refine⟨(),[(0,0),(1,1)],?_,rfl⟩
     (repeat' first|exact trivial|refine⟨?_,?_⟩|exact rfl|assumption)
    ·refine⟨[0,1],rfl,dw hu E9.1 ?_⟩;refine⟨[0,1],rfl,dw hu E9.2 ?_⟩;refine mJ (fp _ _) (fp _ _) ?_;refine⟨⟨ca.1,by rw[bn,hu];exact ca.2.1⟩,?_⟩;refine⟨_,cK ca.1 (by rw[hu];exact ca.2.1),?_⟩;refine⟨(),[(0,0),(1,1)],?_,rfl⟩
     (repeat' first|exact trivial|refine⟨?_,?_⟩|exact rfl|assumption)
    ·refine⟨[0,1],rfl,dw hu E9.1 ?_⟩;refine⟨[0,1],rfl,dw hu E9.2 ?_⟩;refine mJ (fp _ _) (fp _ _) ?_;refine⟨⟨ca.1,by rw[bn,hu];exact ca.2.1⟩,?_⟩;refine⟨_,cK ca.1 (by rw[hu];exact ca.2.1),?_⟩;refine⟨(),[(0,0),(1,1)],?_,rfl⟩
     (repeat' first|exact trivial|refine⟨?_,?_⟩|exact rfl|assumption)
    rintro _ H5 _ rfl;refine⟨⟨by omega,by omega⟩,(i+1,o7 u cd),[(0,0),(1,1)],?_,⟨rfl,aj,zO,bc.symm⟩,by dsimp only;omega⟩
    (repeat' first|exact trivial|refine⟨?_,?_⟩|exact rfl|assumption)
  ·have aX:i=l.length:=by have:=df h;dsimp only at this;omega
   rw[aX,List.take_length]at hx;rw[hx];intro y H6 aI hy;obtain⟨a7,n7,c7,rfl,dz⟩:=RL.aC (α:=UInt64) hy jJ;exact hK _ _ _ _ ((Le.refl _).trans aI.le) dz
end Go.Proofs
end
section
namespace Go.Proofs
open Go.Sy
open Tryz
variable {H:Hp} {K:Value→Hp→Prop}
theorem il {w:Nat} (hw:w≤1024) {v:Wd} (hv:okW w v) {l:List Cd} (hl:Pn w l) {a a2:Option Addr} {n c n2 k2:Nat} (ha:RL H a n c v) (hb:RL H a2 n2 k2 l) (hK:∀a1 n1 c1 H',Le H H'→RL H' a1 n1 c1 (l9 l v)→K (.tuple #[.slice a1 n1 c1,.int .i64 0]) H'):
  aq prog 161 [.int .i64 3,.int .i64 (w:Nat),QG a2 n2 k2,.slice a n c] H K:=by
 refine ab af aa rfl func161 call161 ntmps161 results161 rfl rfl ?_;refine jL hw hl hb ?_;refine⟨(fun h=>absurd rfl (nt h)),fun _=>?_⟩;refine dF hw hv ha ?_;refine⟨(fun h=>by cases h),fun _=>?_⟩;refine⟨(fun h=>absurd rfl (nt h)),fun _=>?_⟩;refine xE ha ?_;refine⟨fun h=>?_,fun h=>?_⟩
 ·refine eM hw fun a1 n1 c1 H1 ak bh=>?_
  have e:l9 l v=kR w:=by rw[l9,if_pos h,hv.1]
  rw[e]at hK;exact hK _ _ _ _ ak bh
 ·refine Pp hw hv.1 hl ha hb fun a1 n1 c1 H1 ak bh=>?_
  have e:l9 l v=Ix v l:=by rw[l9,if_neg (by rw[h];decide)]
  rw[e]at hK;exact hK _ _ _ _ ak bh
theorem sx {w:Nat} {v:Wd} (hv:v.length=w) {r:Rf} (hr:Iw w r) {a:Option Addr} {n c:Nat} (ha:RL H a n c v) (hK:K (.int .u64 (kS v r:Nat)) H):aq prog 196 [.slice a n c,.agg (GA r).toArray] H K:=by
 have hn:=ha.aB;refine ab af aa rfl func196 call196 ntmps196 results196 rfl rfl ?_;refine⟨fun h=>?_,fun h=>?_⟩
 ·have h1:r.1 = -1:=by
   have:=dt h
   rcases hr with ⟨h2,_⟩ | h2
   ·exact h2
   ·omega
  refine jn (a:=r.2) ?_;exact cT hK (by rw[kS,if_pos h1])
 ·have h1:¬r.1 = -1:=by have:=df h;omega
  have hr:0≤r.1∧r.1<(w:Nat):=by
   rcases hr with ⟨h2,_⟩ | h2
   ·exact absurd h2 h1
   ·exact⟨h2.1,h2.2.1⟩
  have hi:v[r.1.toNat]?=some (v[r.1.toNat]'(by omega)):=aL _
  have e:kS v r=(v[r.1.toNat]'(by omega)).toNat:=by rw[kS,if_neg h1,hi];rfl
  refine dO ha hi fun ad e1 hh _=>?_
  rw[Int.toNat_of_nonneg hr.1]at hh;refine⟨ad,⟨hr.1,by omega,e1⟩,?_⟩;refine⟨_,hh,?_⟩;exact cT hK (by rw[e])
theorem lI {w:Nat} (hw:w≤1024) {v:Wd} (hv:okW w v) {l:List Cd} (hl:Pn w l) {a a2:Option Addr} {n c n2 k2:Nat} (ha:RL H a n c v) (hb:RL H a2 n2 k2 l) (hK:∀a1 n1 c1 H',Le H H'→RL H' a1 n1 c1 (l9 l v)→K (.slice a1 n1 c1) H'):
  aq prog 133 [.int .i64 3,QG a2 n2 k2,.slice a n c] H K:=by
 have hn:=ha.aB;have lv:=hb.aB;have eI:=hb.le;have B3:=hv.1;refine ab af aa rfl func133 call133 ntmps133 results133 rfl rfl ?_;refine⟨(fun h=>absurd rfl (nt h)),fun _=>?_⟩;obtain⟨css,gF,bf⟩:=ha.row;have fC:css.length=v.length:=bf.1;have ec:=DZ bf;subst ec;refine⟨_,gF,?_⟩;refine⟨⟨by show (0+(aV v).length)*8≤140737488355328;omega,by show 0+(aV v).length≤9223372036854775807;omega⟩,?_⟩
 refine⟨Nat,fun i=>⟨[(2,.v (.slice a n c)),(4,.ptr 0 0),(7,.own 1),(25,.v (.slice a n c)),(26,.v (.int .i64 n)),(27,.v (.int .i64 i))],[(0,.cells 143 [.v (.slice none 0 0),.v (.slice none 0 0),.v (.slice a2 n2 k2)]),(1,.row 126 1 (aV v))],2⟩,
  fun i H'=>H'=H∧i≤v.length∧ow (v.take i)=false,fun i=>v.length - i,⟨0,[(0,0),(1,2)],?_,rfl,Nat.zero_le _,rfl⟩,?_⟩
 ·(repeat' first|exact trivial|refine⟨?_,?_⟩|exact rfl|assumption)
 rintro i H1 _ ⟨rfl,hi,hz⟩;refine⟨fun h=>?_,fun h=>?_⟩
 ·have aj:i<v.length:=by have:=dt h;omega
  have bc:ow (v.take (i+1))=decide (v[i].toNat=0):=by
   have Qb:(v.take i).any (fun (x:UInt64)=>decide (x.toNat=0))=false:=hz;rw[ow,List.take_add_one,aL aj,Option.toList_some,List.any_append,Qb,Bool.false_or];simp
  refine dO ha (aL aj) fun ad e1 hh _=>?_
  refine⟨ad,⟨by omega,by omega,e1⟩,?_⟩;refine⟨_,hh,?_⟩;refine⟨fun h=>?_,fun h=>?_⟩
  ·have h0:v[i].toNat=0:=by have:=dt h;omega
   have B2:ow v=true:=List.any_eq_true.2 ⟨v[i],List.getElem_mem aj,decide_eq_true h0⟩
   have e:l9 l v=kR n:=by rw[l9,if_pos B2,hn]
   refine⟨⟨rfl,by omega,by show (n:Int)*8≤_;omega,by omega⟩,?_⟩;intro y H2 ah hy
   have e2:aW H2 y 1 (aV (kR n)):=by
    rw[aV,kR,List.map_replicate];exact hy
   obtain⟨a5,n5,c5,rfl,ct⟩:=RL.aC (α:=UInt64) e2 jJ;rw[e]at hK;exact hK _ _ _ _ ah.le ct
  ·have h0:¬v[i].toNat=0:=by have:=df h;omega
   refine⟨⟨by omega,by omega⟩,i+1,[(0,0),(1,1)],?_,⟨rfl,aj,by rw[bc,decide_eq_false h0]⟩,by dsimp only;omega⟩
   (repeat' first|exact trivial|refine⟨?_,?_⟩|exact rfl|assumption)
 ·have aX:i=v.length:=by have:=df h;omega
  rw[aX,List.take_length]at hz
  have e:l9 l v=Ix v l:=by rw[l9,if_neg (by rw[hz];decide)]
  rw[e]at hK
  refine⟨Nat×Wd,fun z=>⟨[(7,.own 0),(38,.v (.slice a2 n2 k2)),(39,.v (.int .i64 n2)),(40,.v (.int .i64 z.1))],[(0,.row 126 1 (aV z.2))],1⟩,
   fun z H'=>H'=H1∧z.1≤l.length∧z.2.length=w∧z.2=Ix v (l.take z.1),fun z=>l.length - z.1,⟨(0,v),[(0,1)],?_,rfl,Nat.zero_le _,B3,rfl⟩,?_⟩
  ·(repeat' first|exact trivial|refine⟨?_,?_⟩|exact rfl|assumption)
  rintro⟨i,u⟩ H3 _ ⟨rfl,hi,hu,hx⟩;dsimp only at hi hu hx;refine⟨fun h=>?_,fun h=>?_⟩
  ·have aj:i<l.length:=by have:=dt h;dsimp only at this;omega
   refine aD l[i] fun cd N1=>?_
   have N5:l[i]?=some cd:=by rw[N1];exact aL aj
   have ca:R8 w cd:=hl _ (by rw[N1];exact List.getElem_mem aj)
   have bc:Ix v (l.take (i+1))=o7 u cd:=by rw[hx,List.take_add_one,N5,Option.toList_some,xF]
   refine Br hb N5 fun ad e1 hh=>?_
   refine⟨ad,⟨by dsimp only;omega,by dsimp only;omega,e1⟩,?_⟩;refine⟨_,hh,?_⟩;have Iy:=bn u
   have zO:(o7 u cd).length=w:=by rw[o7,List.length_set];exact hu
   refine⟨fun h=>?_,fun h=>?_⟩
   ·have h1:¬cd.2.1 = -1:=by have:=dt h;omega
    have E9:Iw w cd.2.2.1∧Iw w cd.2.2.2:=by
     rcases ca.2.2 with h | h
     ·exact absurd h.1 h1
     ·exact h.2.2
    have e:(aV u).set cd.1.toNat [.int .u64 (tL cd.2.1 (kS u cd.2.2.1) (kS u cd.2.2.2):Nat)]=aV (o7 u cd):=by
     have:=jo u cd.1.toNat (Bq cd.2.1 (kS u cd.2.2.1) (kS u cd.2.2.2))
     rw[o7,if_neg h1];exact this
    refine⟨some ([],[0,1,2,3,4,6,7,8,5,9,10,11]),by kernel_rfl,?_⟩;intro y4 H4 aN Zr;obtain⟨a4,n4,c4,rfl,fm⟩:=RL.aC (α:=UInt64) Zr jJ;refine sx hu E9.1 fm ?_;intro y5 H5 aK Zs;obtain⟨a5,n5,c5,rfl,ct⟩:=RL.aC (α:=UInt64) Zs jJ;refine sx hu E9.2 ct ?_;refine J9 (fp _ _) (fp _ _) ?_;refine⟨⟨ca.1,by rw[bn,hu];exact ca.2.1⟩,?_⟩;refine⟨_,cK ca.1 (by rw[hu];exact ca.2.1),?_⟩;refine⟨⟨by dsimp only;omega,by dsimp only;omega⟩,(i+1,o7 u cd),[(0,0)],?_,⟨rfl,aj,zO,bc.symm⟩,by dsimp only;omega⟩
    (repeat' first|exact trivial|refine⟨?_,?_⟩|exact rfl|assumption)
   ·have h1:cd.2.1 = -1:=by
     have:=df h
     rcases ca.2.2 with h | h
     ·exact h.1
     ·omega
    refine⟨⟨ca.1,by rw[bn,hu];exact ca.2.1⟩,?_⟩;refine⟨_,cK ca.1 (by rw[hu];exact ca.2.1),?_⟩
    have e:(aV u).set cd.1.toNat [.int .u64 1]=aV (o7 u cd):=by
     have:=jo u cd.1.toNat (x:=1) (by omega)
     rw[o7,if_pos h1];exact this
    refine⟨⟨by dsimp only;omega,by dsimp only;omega⟩,(i+1,o7 u cd),[(0,0)],?_,⟨rfl,aj,zO,bc.symm⟩,by dsimp only;omega⟩
    (repeat' first|exact trivial|refine⟨?_,?_⟩|exact rfl|assumption)
  ·have aX:i=l.length:=by have:=df h;dsimp only at this;omega
   rw[aX,List.take_length]at hx;rw[hx];intro y H6 aI hy;obtain⟨a7,n7,c7,rfl,dz⟩:=RL.aC (α:=UInt64) hy jJ;exact hK _ _ _ _ aI.le dz
end Go.Proofs
end
section
namespace Go.Proofs
open Go.Sy
open Tryz
variable {H:Hp} {K:Value→Hp→Prop}
structure rD where
 l:List Cd
instance:cq rD where
 sz:=3
 R H cs x:=∃a n c,cs=[.slice none 0 0,.slice none 0 0,.slice a n c]∧RL H a n c x.l
 len h:=by obtain⟨_,_,_,rfl,_⟩:=h;rfl
 one h:=by obtain⟨_,_,_,rfl,_⟩:=h;intro u hu;simp at hu;rcases hu with rfl | rfl<;>rfl
 up hle h:=by obtain⟨a,n,c,e,h⟩:=h;exact⟨a,n,c,e,h.up hle⟩
structure gX where
 w:Nat
 m:Nat
 E:List cV
 vo:List Int
 vp:Wd
 T:List (List Cd)
structure SA where
 ea:Option Addr
 en:Nat
 ec:Nat
 na:Option Addr
 nn:Nat
 nc:Nat
 ia:Option Addr
 ni:Nat
 ic:Nat
 ta:Option Addr
 tn:Nat
 tc:Nat
abbrev fc (s:gX) (z:SA):List Value:=[.int .i64 3,.int .i64 (s.w:Nat),.int .i64 (s.m:Nat),.slice z.ea z.en z.ec,.slice z.na z.nn z.nc,.slice z.ia z.ni z.ic,.slice z.ta z.tn z.tc]
abbrev dG (s:gX) (z:SA):Value:=.agg (fc s z).toArray
structure dB (H:Hp) (s:gX) (z:SA):Prop where
 e:RL H z.ea z.en z.ec s.E
 n:RL H z.na z.nn z.nc s.vo
 i:RL H z.ia z.ni z.ic s.vp
 t:RL (α:=rD) H z.ta z.tn z.tc (s.T.map rD.mk)
theorem dB.up {H H':Hp} {s:gX} {z:SA} (h:dB H s z) (hle:Le H H'):dB H' s z:=⟨h.e.up hle,h.n.up hle,h.i.up hle,h.t.up hle⟩
structure gd (s:gX):Prop where
 w:s.w≤1024
 m:1≤s.m∧s.m≤256
 El:s.E.length≤1024
 En:∀e∈s.E,(0≤e.1∧e.1<(s.m:Nat))∧0≤e.2∧e.2<(s.m:Nat)
 vo:∀v∈s.vo,0≤v∧v<(s.m:Nat)
 vp:okW s.w s.vp
 Tl:s.T.length=s.m
 T:∀t∈s.T,Pn s.w t
theorem km {P:Prop} {H:Hp} {a:Option Addr} {n c:Nat} {T:List (List Cd)} (h:RL (α:=rD) H a n c (T.map rD.mk)) {i:Nat} {l:List Cd} (hi:T[i]?=some l) (k:∀ad a1 n1 c1,a=some ad→jz H ad (i:Int) 3 [.slice none 0 0,.slice none 0 0,.slice a1 n1 c1]→RL H a1 n1 c1 l→P):P :=
 kN h (i:=i) (x:=rD.mk l) (by rw[List.getElem?_map,hi];rfl) fun ad cs h1 h2 h3=>by
  obtain⟨a1,n1,c1,rfl,h4⟩:=h3;exact k ad a1 n1 c1 h1 h2 h4
theorem xG {s:gX} (h:gd s):lZ (s.m:Nat) s.E=true:=by
 have h1:=h.m;have h2:=h.El;rw[lZ,decide_eq_true (by omega),decide_eq_true (by omega),decide_eq_true h2];simp only[Bool.true_and,Bool.not_eq_true',decide_eq_false_iff_not];intro h0;obtain⟨e,he,h3⟩:=(tw s.E 0 (Int.le_refl 0)).1 h0;have h4:=h.En e he;rw[rX,decide_eq_true h4.1,decide_eq_true h4.2]at h3;cases h3
theorem xH {m:Int} {l:List cV} (h:lZ m l=true) {a:Option Addr} {n c:Nat} (ha:RL H a n c l) (hK:K (.bool true) H):aq prog 217 [.int .i64 m,.slice a n c] H K :=
 FW ha (by rw[h];exact hK)
theorem fN {s:gX} {z:SA} (ho:gd s) (hs:dB H s z) (hK:∀H',Le H H'→K (.int .i64 0) H'):aq prog 158 [dG s z] H K:=by
 have hm:=ho.m;have hw:=ho.w;have Bo:=hs.t.aB;rw[List.length_map,ho.Tl]at Bo;have TZ:=hs.n.aB;have yu:=hs.n.le;refine ab af aa rfl func158 call158 ntmps158 results158 rfl rfl ?_;refine .inl ⟨0,?_⟩;refine⟨none,?_⟩
 refine bH (α:=Unit) ?_ ?_ (.one [] [0,1,2,3,4,5,6,7,8,9,10,11,12,13,14,15,16,17,18])
  (fun _=>⟨[(1,.ptr 0 0),(26,.v (.bool false))],[(0,.cells 106 (vL (fc s z)))],1⟩) (fun _ H'=>Le H H') (by kernel_rfl) ?_ ?_
 ·exact⟨af.tt,af.eqs⟩
 ·exact aa
 ·refine fM hw ?_;refine⟨fun _=>?_,fun _=>?_⟩
  ·refine eM hw fun a1 n1 c1 H1 ak bh=>?_
   refine dF hw (vT s.w) bh ?_;exact⟨(),[(0,0)],by (repeat' first|exact trivial|refine⟨?_,?_⟩|exact rfl|assumption),ak⟩
  ·exact⟨(),[(0,0)],by (repeat' first|exact trivial|refine⟨?_,?_⟩|exact rfl|assumption),Le.refl H⟩
 rintro _ H1 _ hle;refine⟨(fun h=>by cases h),fun _=>?_⟩;have hs:=hs.up hle;refine xH (xG ho) hs.e ?_;refine⟨fun _=>?_,(fun h=>by cases h)⟩;refine⟨(fun h=>absurd (by rw[Bo]) (nt h)),fun _=>?_⟩
 refine⟨Nat,fun i=>⟨[(1,.ptr 0 0),(42,.v (.slice z.na z.nn z.nc)),(43,.v (.int .i64 z.nn)),(44,.v (.int .i64 i))],[(0,.cells 106 (vL (fc s z)))],1⟩,
  fun i H'=>H'=H1∧i≤s.vo.length,fun i=>s.vo.length - i,⟨0,[(0,0)],?_,rfl,Nat.zero_le _⟩,?_⟩
 ·(repeat' first|exact trivial|refine⟨?_,?_⟩|exact rfl|assumption)
 rintro i H2 _ ⟨rfl,hi⟩;refine⟨fun h=>?_,fun h=>?_⟩
 ·have aj:i<s.vo.length:=by have:=dt h;omega
  have hv:=ho.vo _ (List.getElem_mem aj)
  refine xo hs.n (aL aj) fun ad e1 hh=>?_
  refine⟨ad,⟨by omega,by omega,e1⟩,?_⟩;refine⟨_,hh,?_⟩;refine⟨fun _=>?_,(fun h=>absurd (dt h) (by omega))⟩;refine⟨(fun h=>absurd (dt h) (by omega)),fun _=>?_⟩;refine⟨⟨by omega,by omega⟩,i+1,[(0,0)],?_,⟨rfl,aj⟩,by dsimp only;omega⟩
  (repeat' first|exact trivial|refine⟨?_,?_⟩|exact rfl|assumption)
 refine dF hw ho.vp hs.i ?_;refine⟨(fun h=>by cases h),fun _=>?_⟩
 refine⟨Nat,fun i=>⟨[(1,.ptr 0 0),(66,.v (.slice z.ta z.tn z.tc)),(67,.v (.int .i64 z.tn)),(68,.v (.int .i64 i))],[(0,.cells 106 (vL (fc s z)))],1⟩,
  fun i H'=>H'=H2∧i≤s.T.length,fun i=>s.T.length - i,⟨0,[(0,0)],?_,rfl,Nat.zero_le _⟩,?_⟩
 ·(repeat' first|exact trivial|refine⟨?_,?_⟩|exact rfl|assumption)
 rintro j H3 _ ⟨rfl,hj⟩;have Ur:=ho.Tl;refine⟨fun h=>?_,fun h=>?_⟩
 ·have aj:j<s.T.length:=by have:=dt h;omega
  refine km hs.t (aL aj) fun ad a1 n1 c1 e1 hh bh=>?_
  refine⟨ad,⟨by omega,by omega,e1⟩,?_⟩;refine⟨_,hh,?_⟩;refine jL hw (ho.T _ (List.getElem_mem aj)) bh ?_;refine⟨(fun h=>absurd rfl (nt h)),fun _=>?_⟩;refine⟨⟨by omega,by omega⟩,j+1,[(0,0)],?_,⟨rfl,aj⟩,by dsimp only;omega⟩
  (repeat' first|exact trivial|refine⟨?_,?_⟩|exact rfl|assumption)
 ·exact hK _ hle
theorem qZ {s:gX} {z:SA} (ho:gd s) {v:Nat} (hv:v<s.m) (hs:dB H s z) (hK:K (.int .i64 0) H):aq prog 160 [dG s z,.int .i64 (v:Nat)] H K:=by
 refine ab af aa rfl func160 call160 ntmps160 results160 rfl rfl ?_
 refine fN (s:=s) (z:=z) ho hs fun _ _=>?_
 refine⟨(fun h=>absurd rfl (nt h)),fun _=>?_⟩;refine⟨fun _=>?_,(fun h=>absurd (dt h) (by omega))⟩;refine⟨(fun h=>absurd (dt h) (by omega)),fun _=>?_⟩;exact hK
def cg (s:gX) (v:Nat):Wd:=if (v:Int)∈s.vo then s.vp else kR s.w
theorem mL {s:gX} (ho:gd s) (v:Nat):okW s.w (cg s v):=by
 unfold cg;split
 ·exact ho.vp
 ·exact vT _
theorem o8 {s:gX} {z:SA} (ho:gd s) {v:Nat} (hs:dB H s z) (hK:∀a1 n1 c1 H',Le H H'→RL H' a1 n1 c1 (cg s v)→K (.slice a1 n1 c1) H'):aq prog 211 [dG s z,.int .i64 (v:Nat)] H K:=by
 have hi:=ho.vp.1;have hw:=ho.w;refine ab af aa rfl func211 call211 ntmps211 results211 rfl rfl ?_;refine kO hs.n ?_;refine⟨fun h=>?_,fun h=>?_⟩
 ·have hm:(v:Int)∈s.vo:=dt h;have e:cg s v=s.vp:=if_pos hm;rw[e]at hK;exact uN (by omega) hs.i hK
 ·have hm:¬(v:Int)∈s.vo:=df h;have e:cg s v=kR s.w:=if_neg hm;rw[e]at hK;exact eM hw hK
def yn (s:gX) (v:Nat):List Cd:=s.T[v]?.getD []
theorem j4 {s:gX} (ho:gd s) (v:Nat):Pn s.w (yn s v):=by
 unfold yn
 cases h:s.T[v]? with
 | none=>exact fun c hc=>by cases hc
 | some t=>exact ho.T t (dY h)
theorem nK {s:gX} (ho:gd s) {v:Nat} (hv:v<s.m):s.T[v]?=some (yn s v):=by
 have:v<s.T.length:=by rw[ho.Tl];exact hv
 rw[yn,aL this];rfl
theorem tN {s:gX} {z:SA} (ho:gd s) {v:Nat} (hv:v<s.m) {x:Wd} (hx:okW s.w x) {a:Option Addr} {n c:Nat} (hs:dB H s z) (ha:RL H a n c x) (hK:∀a1 n1 c1 H',Le H H'→RL H' a1 n1 c1 (l9 (yn s v) x)→K (.tuple #[.slice a1 n1 c1,.int .i64 0]) H'):
  aq prog 104 [dG s z,.int .i64 (v:Nat),.slice a n c] H K:=by
 have Bo:=hs.t.aB;rw[List.length_map,ho.Tl]at Bo;refine ab af aa rfl func104 call104 ntmps104 results104 rfl rfl ?_;refine qZ (s:=s) (z:=z) ho hv hs ?_;refine⟨(fun h=>absurd rfl (nt h)),fun _=>?_⟩
 refine km hs.t (nK ho hv) fun ad a1 n1 c1 e1 hh bh=>?_
 refine⟨some ([],[0,1,2,3,4,5,6,7,8,9,10,11,12,13,14]),by kernel_rfl,?_⟩;refine⟨ad,⟨by omega,by omega,e1⟩,?_⟩;refine⟨_,hh,?_⟩
 refine il ho.w hx (j4 ho v) ha bh fun a2 n2 c2 H2 ah bj=>?_
 exact hK _ _ _ _ ah bj
theorem p7 {m:Nat} {H:Hp}:RC (α:=Wd) H (List.replicate m [Value.slice none 0 0]) (List.replicate m []):=by
 refine⟨by simp,fun i cs x h1 h2=>?_⟩;rw[List.getElem?_replicate]at h1 h2;split at h1
 ·rename_i aj;rw[if_pos aj]at h2
  cases h1;cases h2
  exact⟨none,0,0,rfl,bz⟩
 ·cases h1
theorem lJ {P:Prop} {H:Hp} {css:List (List Value)} {A:List Wd} (h:RC (α:=Wd) H css A) {i:Nat} {x:Wd} (hi:A[i]?=some x) (k:∀a n c,css[i]?=some [.slice a n c]→RL H a n c x→P):P:=by
 have aj:=(gh.1 hi).1;have hl:css.length=A.length:=h.1;have hg:css[i]?=some (css[i]'(by omega)):=aL _;obtain⟨a,n,c,e,hr⟩:=h.2 i _ x hg hi;exact k a n c (by rw[hg,e]) hr
theorem o9 {H:Hp} {css:List (List Value)} {A:List Wd} (h:RC (α:=Wd) H css A) {i:Nat} {a:Option Addr} {n c:Nat} {x:Wd} (hx:RL H a n c x):RC (α:=Wd) H (css.set i [.slice a n c]) (A.set i x) :=
 RC.set h (show cq.R (α:=Wd) H [.slice a n c] x from ⟨a,n,c,rfl,hx⟩) i
def gl (f:Nat→Wd) (m i:Nat):List Wd:=(List.range i).map f++List.replicate (m - i) []
theorem p8 (f:Nat→Wd) {m i:Nat} (h:i≤m):(gl f m i).length=m:=by
 rw[gl,List.length_append,List.length_map,List.length_range,List.length_replicate];omega
theorem p9 (f:Nat→Wd) {m i:Nat} (h:i<m):(gl f m i)[i]?=some []:=by
 rw[gl,List.getElem?_append_right (by simp),List.length_map,List.length_range,Nat.sub_self,List.getElem?_replicate,if_pos (by omega)]
theorem qa (f:Nat→Wd) {m i:Nat} (h:i<m):(gl f m i).set i (f i)=gl f m (i+1):=by
 have hl:((List.range i).map f).length=i:=by simp
 have hr:List.replicate (m - i) ([]:Wd)=[]::List.replicate (m - (i+1)) []:=by rw[show m - i=(m - (i+1))+1 by omega,List.replicate_succ]
 rw[gl,gl,List.set_append_right _ _ (by omega),hl,Nat.sub_self,hr,List.set_cons_zero,List.range_succ,List.map_append];simp
theorem nL (f:Nat→Wd) (m:Nat):gl f m m=(List.range m).map f:=by simp [gl]
theorem map_const (m:Nat) (x:Wd):(List.range m).map (fun _=>x)=List.replicate m x:=by
 rw[List.map_const',List.length_range]
theorem iP {s:gX} {z:SA} (ho:gd s) (hs:dB H s z) (hK:∀v css H3 H',Le H H3→RC (α:=Wd) H3 css (List.replicate s.m (kR s.w))→qp 103 1 css H3 v H'→aW H' v 1 css→K (.tuple #[v,.int .i64 0]) H'):aq prog 103 [dG s z] H K:=by
 have hm:=ho.m;have hw:=ho.w;refine ab af aa rfl func103 call103 ntmps103 results103 rfl rfl ?_
 refine fN (s:=s) (z:=z) ho hs fun _ _=>?_
 refine⟨(fun h=>absurd rfl (nt h)),fun _=>?_⟩;refine⟨⟨rfl,by omega,by show (s.m:Int)*24≤_;omega,by omega⟩,?_⟩
 refine⟨Nat×List (List Value),fun q=>⟨[(1,.ptr 0 0),(5,.own 1),(16,.v (.int .i64 (s.m:Nat))),(17,.v (.int .i64 q.1))],[(0,.cells 106 (vL (fc s z))),(1,.row 103 1 q.2)],2⟩,
  fun q H'=>Le H H'∧q.1≤s.m∧RC (α:=Wd) H' q.2 (gl (fun _=>kR s.w) s.m q.1),fun q=>s.m - q.1,⟨(0,List.replicate s.m [.slice none 0 0]),[(0,0),(1,1)],?_,Le.refl H,Nat.zero_le _,by simpa [gl] using p7⟩,?_⟩
 ·have e:SV.v (.int .i64 ((List.replicate (s.m:Int).toNat [Value.slice none 0 0]).length:Nat))=SV.v (.int .i64 (s.m:Nat)):=by simp
  (repeat' first|exact trivial|refine⟨?_,?_⟩|exact rfl|assumption)
 rintro⟨i,css⟩ H1 _ ⟨ak,hi,bf⟩;dsimp only at hi bf
 have fC:css.length=s.m:=by have h1:=bf.1;rw[p8 _ hi]at h1;exact h1
 refine⟨fun h=>?_,fun h=>?_⟩
 ·have aj:i<s.m:=by have:=dt h;dsimp only at this;omega
  refine eM hw fun a1 n1 c1 H2 ah bh=>?_
  have b8:=RC.up bf ah
  refine lJ b8 (p9 _ aj) fun a0 n0 c0 hg _=>?_
  have rB:css[(i:Int).toNat]?=_:=hg;refine⟨⟨by dsimp only;omega,by dsimp only;omega⟩,?_⟩;refine⟨_,rB,?_⟩
  have nC:RC (α:=Wd) H2 (css.set i [.slice a1 n1 c1]) (gl (fun _=>kR s.w) s.m (i+1)):=by
   rw[←qa _ aj];exact o9 b8 bh
  refine⟨⟨by dsimp only;omega,by dsimp only;omega⟩,(i+1,css.set i [.slice a1 n1 c1]),[(0,0),(1,1)],?_,⟨ak.trans ah,aj,nC⟩,by dsimp only;omega⟩
  (repeat' first|exact trivial|refine⟨?_,?_⟩|exact rfl|assumption)
 ·have aX:i=s.m:=by have:=df h;dsimp only at this;omega
  rw[aX,nL,map_const]at bf;intro v H6 aI cZ;exact hK v css H1 H6 ak bf aI cZ
end Go.Proofs
end
section
namespace Go.Proofs
open Go.Sy
open Tryz
variable {H:Hp} {K:Value→Hp→Prop}
structure j5 (s:gX) (A:List Wd):Prop where
 len:A.length=s.m
 ok:∀x∈A,okW s.w x
def mM (A:List Wd) (v:Nat):Wd:=A[v]?.getD []
theorem eS {s:gX} {A:List Wd} (h:j5 s A) {v:Nat} (hv:v<s.m):A[v]?=some (mM A v):=by
 have:v<A.length:=by rw[h.len];exact hv
 rw[mM,aL this];rfl
theorem fO {s:gX} {A:List Wd} (h:j5 s A) {v:Nat} (hv:v<s.m):okW s.w (mM A v):=h.ok _ (dY (eS h hv))
def GD (s:gX) (A:List Wd) (e:cV):Wd:=l9 (yn s e.1.toNat) (mM A e.1.toNat)
def cM (s:gX) (A out:List Wd) (e:cV):List Wd:=out.set e.2.toNat (gM (mM out e.2.toNat) (GD s A e))
def da (s:gX):List Wd:=(List.range s.m).map (cg s)
def cW (s:gX) (A:List Wd):List Wd:=s.E.foldl (cM s A) (da s)
theorem mN {s:gX} (ho:gd s):j5 s (da s):=⟨by simp [da],fun x hx=>by
 obtain⟨v,_,rfl⟩:=List.mem_map.1 hx
 exact mL ho v⟩
theorem ko {s:gX} {A:List Wd} (hA:j5 s A) {e:cV} (he:0≤e.1∧e.1<(s.m:Nat)):okW s.w (GD s A e):=Po (fO hA (by omega)) _
theorem xI {s:gX} {A out:List Wd} (hA:j5 s A) (hO:j5 s out) {e:cV} (he:0≤e.1∧e.1<(s.m:Nat)) (y9:0≤e.2∧e.2<(s.m:Nat)):j5 s (cM s A out e):=by
 refine⟨by rw[cM,List.length_set];exact hO.len,fun x hx=>?_⟩
 rcases List.mem_or_eq_of_mem_set hx with hx | rfl
 ·exact hO.ok x hx
 ·exact sv (fO hO (by omega)) (ko hA he)
theorem nM {s:gX} {A:List Wd} (hA:j5 s A):∀(l:List cV) {out:List Wd},(∀e∈l,(0≤e.1∧e.1<(s.m:Nat))∧0≤e.2∧e.2<(s.m:Nat))→j5 s out→j5 s (l.foldl (cM s A) out)
 | [],_,_,h=>h
 | e::r,out,hl,h=>by
  have h1:=hl e List.mem_cons_self;exact nM hA r (out:=cM s A out e) (fun e he=>hl e (List.mem_cons_of_mem _ he)) (xI hA h h1.1 h1.2)
theorem iQ {s:gX} (ho:gd s) {A:List Wd} (hA:j5 s A):j5 s (cW s A):=nM hA s.E ho.En (mN ho)
abbrev bS (s:gX) (z:SA):List (Nat×Bx):=[(0,.cells 106 (vL (fc s z)))]
theorem tO {s:gX} {z:SA} (hw:s.w≤1024) {l:Wd} (hl:okW s.w l) {a:Option Addr} {n c:Nat} {H:Hp} {K:SV→St→Hp→Prop} (ha:RL H a n c l) (hK:K (.v (.bool false)) ⟨[],bS s z,1⟩ H):
  aY prog 252 [.v (.slice a n c),.ptr 0 0] (bS s z) 1 H K:=by
 refine aJ af aa func252 call252 ntmps252 results252 rfl rfl ?_;refine dF hw hl ha ?_;exact⟨.v (.bool false),bS s z,1,[(0,0)],by (repeat' first|exact trivial|refine⟨?_,?_⟩|exact rfl|assumption),hK⟩
theorem pb {s:gX} {z:SA} (hw:s.w≤1024) {l:List Wd} (hl:∀x∈l,okW s.w x) {a:Option Addr} {n c:Nat} {H:Hp} {K:SV→St→Hp→Prop} (ha:RL H a n c l) (hK:K (.v (.int .i64 (-1))) ⟨[],bS s z,1⟩ H):
  aY prog 306 [.v (.slice a n c),.fn 252 [.ptr 0 0]] (bS s z) 1 H K:=by
 have dd:=ha.aB;have eI:=ha.le;refine aJ af aa func306 call306 ntmps306 results306 rfl rfl ?_
 refine⟨Nat,fun j=>⟨[(0,.v (.slice a n c)),(1,.fn 252 [.ptr 0 0]),(7,.v (.int .i64 n)),(8,.v (.int .i64 j))],bS s z,1⟩,
  fun j H'=>H'=H∧j≤l.length,fun j=>l.length - j,⟨0,[(0,0)],?_,rfl,by omega⟩,?_⟩
 ·(repeat' first|exact trivial|refine⟨?_,?_⟩|exact rfl|assumption)
 rintro j H1 _ ⟨rfl,hi⟩;refine⟨fun h=>?_,fun h=>?_⟩
 ·have aj:j<l.length:=by have:=dt h;omega
  refine dj ha (aL aj) fun ad a5 n5 c5 q1 hh hr=>?_
  refine⟨ad,⟨by omega,by omega,q1⟩,?_⟩;refine⟨_,hh,?_⟩;refine⟨[0],rfl,tO (s:=s) (z:=z) hw (hl _ (List.getElem_mem aj)) hr ?_⟩;refine⟨(fun h=>by cases h),fun _=>?_⟩;refine⟨⟨by omega,by omega⟩,j+1,[(0,0)],?_,⟨rfl,by omega⟩,by dsimp only;omega⟩
  (repeat' first|exact trivial|refine⟨?_,?_⟩|exact rfl|assumption)
 ·exact⟨.v (.int .i64 (-1)),bS s z,1,[(0,0)],by (repeat' first|exact trivial|refine⟨?_,?_⟩|exact rfl|assumption),hK⟩
theorem q5 {s:gX} {z:SA} (hw:s.w≤1024) {l:List Wd} (hl:∀x∈l,okW s.w x) {a:Option Addr} {n c:Nat} {H:Hp} {K:SV→St→Hp→Prop} (ha:RL H a n c l) (hK:K (.v (.bool false)) ⟨[],bS s z,1⟩ H):
  aY prog 251 [.v (.slice a n c),.fn 252 [.ptr 0 0]] (bS s z) 1 H K:=by
 refine aJ af aa func251 call251 ntmps251 results251 rfl rfl ?_;refine⟨[0],rfl,pb (s:=s) (z:=z) hw hl ha ?_⟩;exact⟨.v (.bool false),bS s z,1,[(0,0)],by (repeat' first|exact trivial|refine⟨?_,?_⟩|exact rfl|assumption),hK⟩
theorem nN {s:gX} {z:SA} (hw:s.w≤1024) {A:List Wd} (hA:j5 s A) {a:Option Addr} {n c:Nat} (ha:RL H a n c A) (hK:K (.bool true) H):aq prog 210 [dG s z,.slice a n c] H K:=by
 have dd:=ha.aB;have hl:=hA.len;refine ab af aa rfl func210 call210 ntmps210 results210 rfl rfl ?_;refine⟨fun _=>?_,(fun h=>absurd (by rw[dd,hl]) (df h))⟩;refine⟨[0],rfl,q5 (s:=s) (z:=z) hw hA.ok ha ?_⟩;exact hK
theorem q8 {s:gX} {z:SA} (ho:gd s) {A:List Wd} (hA:j5 s A) {a:Option Addr} {n c:Nat} (hs:dB H s z) (ha:RL H a n c A) (hK:∀a1 n1 c1 H',Le H H'→RL H' a1 n1 c1 (cW s A)→K (.tuple #[.slice a1 n1 c1,.int .i64 0]) H'):
  aq prog 155 [dG s z,.slice a n c] H K:=by
 have hm:=ho.m;have hw:=ho.w;have cu:=hs.e.aB;have yu:=hs.e.le;have Fa:=ha.aB;have xh:=hA.len;have Bo:=hs.t.aB;rw[List.length_map,ho.Tl]at Bo;refine ab af aa rfl func155 call155 ntmps155 results155 rfl rfl ?_
 refine fN (s:=s) (z:=z) ho hs fun _ _=>?_
 refine⟨(fun h=>absurd rfl (nt h)),fun _=>?_⟩;refine nN (s:=s) (z:=z) hw hA ha ?_;refine⟨(fun h=>by cases h),fun _=>?_⟩;refine⟨⟨rfl,by omega,by show (s.m:Int)*24≤_;omega,by omega⟩,?_⟩
 refine⟨Nat×List (List Value),fun q=>⟨[(1,.v (.slice a n c)),(2,.ptr 0 0),(7,.own 1),(26,.v (.int .i64 (s.m:Nat))),(27,.v (.int .i64 q.1))],[(0,.cells 106 (vL (fc s z))),(1,.row 103 1 q.2)],2⟩,
  fun q H'=>Le H H'∧q.1≤s.m∧RC (α:=Wd) H' q.2 (gl (cg s) s.m q.1),fun q=>s.m - q.1,⟨(0,List.replicate s.m [.slice none 0 0]),[(0,0),(1,1)],?_,Le.refl H,Nat.zero_le _,by simpa [gl] using p7⟩,?_⟩
 ·have e:SV.v (.int .i64 ((List.replicate (s.m:Int).toNat [Value.slice none 0 0]).length:Nat))=SV.v (.int .i64 (s.m:Nat)):=by simp
  (repeat' first|exact trivial|refine⟨?_,?_⟩|exact rfl|assumption)
 rintro⟨i,css⟩ H1 _ ⟨ak,hi,bf⟩;dsimp only at hi bf
 have fC:css.length=s.m:=by have h1:=bf.1;rw[p8 _ hi]at h1;exact h1
 refine⟨fun h=>?_,fun h=>?_⟩
 ·have aj:i<s.m:=by have:=dt h;dsimp only at this;omega
  refine o8 (s:=s) (z:=z) ho (hs.up ak) fun a1 n1 c1 H2 ah bh=>?_
  have b8:=RC.up bf ah
  refine lJ b8 (p9 _ aj) fun a0 n0 c0 hg _=>?_
  have rB:css[(i:Int).toNat]?=_:=hg;refine⟨⟨by dsimp only;omega,by dsimp only;omega⟩,?_⟩;refine⟨_,rB,?_⟩
  have nC:RC (α:=Wd) H2 (css.set i [.slice a1 n1 c1]) (gl (cg s) s.m (i+1)):=by
   rw[←qa _ aj];exact o9 b8 bh
  refine⟨⟨by dsimp only;omega,by dsimp only;omega⟩,(i+1,css.set i [.slice a1 n1 c1]),[(0,0),(1,1)],?_,⟨ak.trans ah,aj,nC⟩,by dsimp only;omega⟩
  (repeat' first|exact trivial|refine⟨?_,?_⟩|exact rfl|assumption)
 have aX:i=s.m:=by have:=df h;dsimp only at this;omega
 rw[aX,nL]at bf
 refine⟨Nat×List (List Value),fun q=>⟨[(1,.v (.slice a n c)),(2,.ptr 0 0),(7,.own 1),(38,.v (.slice z.ea z.en z.ec)),(39,.v (.int .i64 z.en)),(40,.v (.int .i64 q.1))],[(0,.cells 106 (vL (fc s z))),(1,.row 103 1 q.2)],2⟩,
  fun q H'=>Le H1 H'∧q.1≤s.E.length∧RC (α:=Wd) H' q.2 ((s.E.take q.1).foldl (cM s A) (da s)),fun q=>s.E.length - q.1,⟨(0,css),[(0,0),(1,1)],?_,Le.refl H1,Nat.zero_le _,bf⟩,?_⟩
 ·(repeat' first|exact trivial|refine⟨?_,?_⟩|exact rfl|assumption)
 rintro⟨j,css⟩ H2 _ ⟨ah,hj,bf⟩;dsimp only at hj bf;have ca:j5 s ((s.E.take j).foldl (cM s A) (da s)):=nM hA _ (fun e he=>ho.En e (List.mem_of_mem_take he)) (mN ho)
 have fC:css.length=s.m:=by have h1:=bf.1;rw[ca.len]at h1;exact h1
 have hle:=ak.trans ah;refine⟨fun h=>?_,fun h=>?_⟩
 ·have aj:j<s.E.length:=by have:=dt h;dsimp only at this;omega
  refine aD s.E[j] fun e yw=>?_
  have sr:s.E[j]?=some e:=by rw[yw];exact aL aj
  have D0:=ho.En e (by rw[yw];exact List.getElem_mem aj)
  have bc:(s.E.take (j+1)).foldl (cM s A) (da s)=cM s A ((s.E.take j).foldl (cM s A) (da s)) e:=by
   rw[List.take_add_one,sr,Option.toList_some,List.foldl_append];rfl
  have N2:=hs.up hle
  have Ke:e.1.toNat<s.m:=by omega
  have Us:e.2.toNat<s.m:=by omega
  have Pq:((e.1.toNat:Nat):Int)=e.1:=Int.toNat_of_nonneg D0.1.1
  refine qV N2.e sr fun ad q1 hh=>?_
  refine⟨ad,⟨by dsimp only;omega,by dsimp only;omega,q1⟩,?_⟩;refine⟨_,hh,?_⟩
  refine km N2.t (nK ho Ke) fun iy a2 n2 c2 q2 gj bj=>?_
  rw[Pq]at gj
  refine dj (ha.up hle) (eS hA Ke) fun sy a3 n3 c3 q3 ql db=>?_
  rw[Pq]at ql;refine⟨some ([],[0,1,2,3,4,5,6,7,8,9,10,11,12,13,14,15,16,17,18,19,20]),by kernel_rfl,?_⟩;refine⟨iy,⟨by omega,by omega,q2⟩,?_⟩;refine⟨_,gj,?_⟩;refine⟨sy,⟨by omega,by omega,q3⟩,?_⟩;refine⟨_,ql,?_⟩
  refine il hw (fO hA Ke) (j4 ho _) db bj fun a4 n4 c4 H4 aN fm=>?_
  have MY:=RC.up bf aN
  refine lJ MY (eS ca Us) fun a5 n5 c5 hg ct=>?_
  refine⟨some ([1],[0,1,2,3,4,5,6,7,8,9,10,11,12,13,14,15,16,17,18]),by kernel_rfl,?_⟩;refine⟨⟨D0.2.1,by show e.2<(css.length:Int);omega⟩,?_⟩;refine⟨_,hg,?_⟩
  refine nH hw (fO ca Us) (ko hA D0.1) ct fm fun a6 n6 c6 H6 aI ji=>?_
  have Sb:RC (α:=Wd) H6 (css.set e.2.toNat [.slice a6 n6 c6]) ((s.E.take (j+1)).foldl (cM s A) (da s)):=by
   rw[bc];exact o9 (RC.up MY aI) ji
  refine⟨⟨D0.2.1,by show e.2<(css.length:Int);omega⟩,?_⟩;refine⟨_,hg,?_⟩;refine⟨⟨by dsimp only;omega,by dsimp only;omega⟩,(j+1,css.set e.2.toNat [.slice a6 n6 c6]),[(0,0),(1,1)],?_,⟨(ah.trans aN).trans aI,aj,Sb⟩,by dsimp only;omega⟩
  (repeat' first|exact trivial|refine⟨?_,?_⟩|exact rfl|assumption)
 ·have eD:j=s.E.length:=by have:=df h;dsimp only at this;omega
  rw[eD,List.take_length]at bf;intro v H6 aI cZ;obtain⟨a7,n7,c7,rfl,dz⟩:=RL.aC (α:=Wd) cZ (RC.up bf aI.le);exact hK _ _ _ _ (hle.trans aI.le) dz
end Go.Proofs
end
section
namespace Go.Proofs
open Go.Sy
open Tryz
variable {H:Hp} {K:Value→Hp→Prop}
theorem dX {α:Type} [DecidableEq α] {a b:List α} (hl:a.length=b.length) (h:∀i<a.length,a[i]?=b[i]?):a=b:=by
 apply List.ext_getElem?;intro i
 by_cases hi:i<a.length
 ·exact h i hi
 ·rw[List.getElem?_eq_none (by omega),List.getElem?_eq_none (by omega)]
theorem GF {x y:Wd} {a a2:Option Addr} {n c n2 k2:Nat} (ha:RL H a n c x) (hb:RL H a2 n2 k2 y) (hK:K (.bool (decide (x=y))) H):aq prog 214 [.slice a n c,.slice a2 n2 k2] H K:=by
 have hn:=ha.aB;have lv:=hb.aB;have eI:=ha.le;refine ab af aa rfl func214 call214 ntmps214 results214 rfl rfl ?_;refine⟨fun h=>?_,fun h=>?_⟩
 ·have h1:¬n=n2:=by have:=nt h;omega
  exact aA hK (decide_eq_false (fun e=>h1 (by rw[hn,lv,e])))
 ·have h1:n=n2:=by have:=nf h;omega
  refine⟨Nat,fun i=>⟨[(0,.v (.slice a n c)),(1,.v (.slice a2 n2 k2)),(11,.v (.slice a n c)),(12,.v (.int .i64 n)),(13,.v (.int .i64 i))],[],0⟩,
   fun i H'=>H'=H∧i≤x.length∧∀j<i,x[j]?=y[j]?,fun i=>x.length - i,⟨0,[],?_,rfl,Nat.zero_le _,fun j hj=>(by cases hj)⟩,?_⟩
  ·(repeat' first|exact trivial|refine⟨?_,?_⟩|exact rfl|assumption)
  rintro i H1 _ ⟨rfl,hi,hx⟩;refine⟨fun h=>?_,fun h=>?_⟩
  ·have aj:i<x.length:=by have:=dt h;omega
   have dK:i<y.length:=by omega
   have ex:=aL aj;have ey:=aL dK
   refine dO ha ex fun ad q1 hh _=>?_
   refine dO hb ey fun iy q2 gj _=>?_
   refine⟨some ([],[0,1,2,3,4,5,6,7,8]),by kernel_rfl,?_⟩;refine⟨ad,⟨by omega,by omega,q1⟩,?_⟩;refine⟨_,hh,?_⟩;refine⟨iy,⟨by omega,by omega,q2⟩,?_⟩;refine⟨_,gj,?_⟩;refine⟨fun h=>?_,fun h=>?_⟩
   ·have cu:¬x[i].toNat=y[i].toNat:=by have:=nt h;omega
    exact aA hK (decide_eq_false (fun e=>cu (by subst e;rfl)))
   ·have heq:x[i]=y[i]:=UInt64.toNat_inj.1 (by have:=nf h;omega);refine⟨⟨by omega,by omega⟩,i+1,[],?_,⟨rfl,aj,fun j hj=>?_⟩,by dsimp only;omega⟩
    ·(repeat' first|exact trivial|refine⟨?_,?_⟩|exact rfl|assumption)
    ·rcases Nat.lt_succ_iff_lt_or_eq.1 hj with h | h
     ·exact hx j h
     ·rw[h,ex,ey,heq]
  ·have aX:i=x.length:=by have:=df h;omega
   exact aA hK (decide_eq_true (dX (by omega) (fun j hj=>hx j (by omega))))
theorem D3 {A B:List Wd} {a a2:Option Addr} {n c n2 k2:Nat} {H:Hp} {K:SV→St→Hp→Prop} (ha:RL H a n c A) (hb:RL H a2 n2 k2 B) (hK:K (.v (.bool (decide (A=B)))) ⟨[],[],0⟩ H):
  aY prog 213 [.v (.slice a n c),.v (.slice a2 n2 k2),.fn 214 []] [] 0 H K:=by
 have hn:=ha.aB;have lv:=hb.aB;have eI:=ha.le
 have hF:¬A=B→K (.v (.bool false)) ⟨[],[],0⟩ H:=fun h=>by rw[decide_eq_false h]at hK;exact hK
 refine aJ af aa func213 call213 ntmps213 results213 rfl rfl ?_;refine⟨fun h=>?_,fun h=>?_⟩
 ·have h1:¬n=n2:=by have:=nt h;omega
  exact⟨.v (.bool false),[],0,[],by (repeat' first|exact trivial|refine⟨?_,?_⟩|exact rfl|assumption),hF (fun e=>h1 (by rw[hn,lv,e]))⟩
 ·have h1:n=n2:=by have:=nf h;omega
  refine⟨Nat,fun i=>⟨[(1,.v (.slice a2 n2 k2)),(2,.fn 214 []),(15,.v (.slice a n c)),(16,.v (.int .i64 n)),(17,.v (.int .i64 i))],[],0⟩,
   fun i H'=>H'=H∧i≤A.length∧∀j<i,A[j]?=B[j]?,fun i=>A.length - i,⟨0,[],?_,rfl,Nat.zero_le _,fun j hj=>(by cases hj)⟩,?_⟩
  ·(repeat' first|exact trivial|refine⟨?_,?_⟩|exact rfl|assumption)
  rintro i H1 _ ⟨rfl,hi,hx⟩;refine⟨fun h=>?_,fun h=>?_⟩
  ·have aj:i<A.length:=by have:=dt h;omega
   have dK:i<B.length:=by omega
   have ex:=aL aj;have ey:=aL dK
   refine dj ha ex fun ad a5 n5 c5 q1 hh bh=>?_
   refine dj hb ey fun iy a6 n6 c6 q2 gj bj=>?_
   refine⟨ad,⟨by omega,by omega,q1⟩,?_⟩;refine⟨_,hh,?_⟩;refine⟨iy,⟨by omega,by omega,q2⟩,?_⟩;refine⟨_,gj,?_⟩;refine GF bh bj ?_;refine⟨fun h=>?_,fun h=>?_⟩
   ·have cu:¬A[i]=B[i]:=nt h;exact⟨.v (.bool false),[],0,[],by (repeat' first|exact trivial|refine⟨?_,?_⟩|exact rfl|assumption),hF (fun e=>cu (by subst e;rfl))⟩
   ·have heq:A[i]=B[i]:=nf h;refine⟨⟨by omega,by omega⟩,i+1,[],?_,⟨rfl,aj,fun j hj=>?_⟩,by dsimp only;omega⟩
    ·(repeat' first|exact trivial|refine⟨?_,?_⟩|exact rfl|assumption)
    ·rcases Nat.lt_succ_iff_lt_or_eq.1 hj with h | h
     ·exact hx j h
     ·rw[h,ex,ey,heq]
  ·have aX:i=A.length:=by have:=df h;omega
   rw[decide_eq_true (dX (by omega) (fun j hj=>hx j (by omega)))]at hK;exact⟨.v (.bool true),[],0,[],by (repeat' first|exact trivial|refine⟨?_,?_⟩|exact rfl|assumption),hK⟩
theorem nO {A B:List Wd} {a a2:Option Addr} {n c n2 k2:Nat} (ha:RL H a n c A) (hb:RL H a2 n2 k2 B) (hK:K (.bool (decide (A=B))) H):aq prog 156 [.slice a n c,.slice a2 n2 k2] H K:=by
 refine ab af aa rfl func156 call156 ntmps156 results156 rfl rfl ?_;refine⟨[],rfl,D3 ha hb ?_⟩;exact hK
def dA (s:gX):Nat:=s.m*(2*s.w)+1
theorem eT {s:gX} (ho:gd s):dA s≤1000000:=by
 have h1:=ho.m;have h2:=ho.w;have:s.m*(2*s.w)≤256*(2*1024):=Nat.mul_le_mul h1.2 (by omega)
 unfold dA;omega
theorem pc {s:gX} {z:SA} (ho:gd s) (hK:K (.int .i64 (dA s:Nat)) H):aq prog 102 [dG s z] H K:=by
 have hE:=eT ho
 have ee:((s.m:Int))*((2*s.w:Nat):Int)=((s.m*(2*s.w):Nat):Int):=by push_cast;rfl
 refine ab af aa rfl func102 call102 ntmps102 results102 rfl rfl ?_;refine⟨some ([],[0,1,2,3,4,5,6,7,8,9]),by kernel_rfl,?_⟩;refine fM ho.w ?_;unfold dA at hE;refine⟨⟨by rw[ee];omega,by rw[ee];omega⟩,?_⟩;refine⟨⟨by rw[ee];omega,by rw[ee];omega⟩,?_⟩;exact cT hK (by rw[ee,dA];push_cast;rfl)
def b6 (s:gX):Nat→List Wd→List Wd
 | 0,A=>A
 | k+1,A=>if A=cW s A then A else b6 s k (cW s A)
def eU (s:gX):List Wd:=List.replicate s.m (kR s.w)
theorem kp (s:gX):j5 s (eU s):=⟨List.length_replicate,fun x hx=>by rw[(List.mem_replicate.1 hx).2];exact vT _⟩
def cU (s:gX):List Wd:=b6 s (dA s) (eU s)
theorem pd {s:gX} (ho:gd s):∀(k:Nat) {A:List Wd},j5 s A→j5 s (b6 s k A)
 | 0,_,h=>h
 | k+1,A,h=>by
  rw[b6];split
  ·exact h
  ·exact pd ho k (iQ ho h)
theorem fg {s:gX} (ho:gd s):j5 s (cU s):=pd ho _ (kp s)
abbrev bI (s:gX) (z:SA) (a:Option Addr) (n c:Nat):List (Nat×Bx):=[(0,.cells 106 (vL (fc s z))),(1,.cells 109 [.v (.slice a n c)])]
theorem kT {s:gX} {z:SA} (ho:gd s) {A:List Wd} (hA:j5 s A) {a:Option Addr} {n c:Nat} {H:Hp} {K:SV→St→Hp→Prop} (hs:dB H s z) (ha:RL H a n c A) (hK:∀a1 n1 c1 H',Le H H'→RL H' a1 n1 c1 (cW s A)→K (.v (.slice a1 n1 c1)) ⟨[],bI s z a n c,2⟩ H'):
  aY prog 154 [.ptr 0 0,.ptr 1 0] (bI s z a n c) 2 H K:=by
 refine aJ af aa func154 call154 ntmps154 results154 rfl rfl ?_
 refine q8 (s:=s) (z:=z) ho hA hs ha fun a1 n1 c1 H1 ak bh=>?_
 exact⟨.v (.slice a1 n1 c1),bI s z a n c,2,[(0,0),(1,1)],by (repeat' first|exact trivial|refine⟨?_,?_⟩|exact rfl|assumption),hK _ _ _ _ ak bh⟩
theorem nP {s:gX} {z:SA} (ho:gd s) {most:Nat} (Ut:most≤1000000) (hs:dB H s z) (hK:∀a1 n1 c1 k H',Le H H'→RL H' a1 n1 c1 (b6 s most (eU s))→K (.tuple #[.slice a1 n1 c1,.int .i64 k,.int .i64 0]) H'):
  aq prog 101 [dG s z,.int .i64 (most:Nat)] H K:=by
 refine ab af aa rfl func101 call101 ntmps101 results101 rfl rfl ?_
 refine .inr ⟨Nat×List Wd×(Option Addr×Nat×Nat),fun _=>0,fun q=>⟨[(1,.v (.int .i64 (most:Nat))),(2,.ptr 0 0),(7,.ptr 1 0),(9,.v (.int .i64 q.1)),(10,.fn 154 [.ptr 0 0,.ptr 1 0])],bI s z q.2.2.1 q.2.2.2.1 q.2.2.2.2,2⟩,
  fun q H'=>Le H H'∧RL H' q.2.2.1 q.2.2.2.1 q.2.2.2.2 q.2.1∧j5 s q.2.1∧q.1≤most∧b6 s most (eU s)=b6 s (most - q.1) q.2.1,fun q=>most - q.1,?_,?_⟩
 ·refine iP (s:=s) (z:=z) ho hs fun v css H3 H1 az bf ak hv=>?_
  obtain⟨a,n,c,rfl,hr⟩:=RL.aC (α:=Wd) hv (RC.up bf ak.le);have hle:Le H H1:=az.trans ak.le;have hr:RL H1 a n c (eU s):=hr;have hA:=kp s;have hI:b6 s most (eU s)=b6 s (most - 0) (eU s):=rfl;refine⟨fun h=>absurd rfl (nt h),fun _=>?_⟩;refine⟨[0,1],rfl,kT (s:=s) (z:=z) ho hA (hs.up hle) hr fun a2 n2 c2 H2 ah bj=>?_⟩;have MZ:=iQ ho hA;refine⟨fun h=>?_,fun h=>?_⟩
  ·have aj:0<most:=by have:=dt h; omega
   have bc:b6 s (most - 0) (eU s)=if (eU s)=cW s (eU s) then (eU s) else b6 s (most - (0+1)) (cW s (eU s)):=by
    rw[show most - 0=(most - (0+1))+1 by omega,b6]
   refine nO (hr.up ah) bj ?_;refine⟨fun h=>?_,fun h=>?_⟩
   ·have cu:=nt h;rw[bc,if_neg cu]at hI;refine⟨⟨by  omega,by  omega⟩,?_⟩;refine⟨(0+1,cW s (eU s),(a2,n2,c2)),[(0,0),(1,1)],rfl,?_,⟨hle.trans ah,bj,MZ,aj,hI⟩⟩
    (repeat' first|exact trivial|refine⟨?_,?_⟩|exact rfl|assumption)
   ·have heq:=nf h;rw[bc,if_pos heq]at hI;rw[hI]at hK;exact hK _ _ _ _ _ (hle.trans ah) (hr.up ah)
  ·have vu:¬0<most:=by have:=df h; omega
   rw[show most - 0=0 by omega,b6]at hI;rw[hI]at hK;exact hK _ _ _ _ _ (hle.trans ah) (hr.up ah)
 ·rintro⟨k,A,a,n,c⟩ H1 _ ⟨hle,hr,hA,hk,hI⟩;dsimp only at hr hA hk hI;refine⟨[0,1],rfl,kT (s:=s) (z:=z) ho hA (hs.up hle) hr fun a2 n2 c2 H2 ah bj=>?_⟩;have MZ:=iQ ho hA;refine⟨fun h=>?_,fun h=>?_⟩
  ·have aj:k<most:=by have:=dt h;dsimp only at this;omega
   have bc:b6 s (most - k) A=if A=cW s A then A else b6 s (most - (k+1)) (cW s A):=by
    rw[show most - k=(most - (k+1))+1 by omega,b6]
   refine nO (hr.up ah) bj ?_;refine⟨fun h=>?_,fun h=>?_⟩
   ·have cu:=nt h;rw[bc,if_neg cu]at hI;refine⟨⟨by dsimp only;omega,by dsimp only;omega⟩,?_⟩;refine⟨(k+1,cW s A,(a2,n2,c2)),[(0,0),(1,1)],rfl,?_,⟨hle.trans ah,bj,MZ,aj,hI⟩,by dsimp only;omega⟩
    (repeat' first|exact trivial|refine⟨?_,?_⟩|exact rfl|assumption)
   ·have heq:=nf h;rw[bc,if_pos heq]at hI;rw[hI]at hK;exact hK _ _ _ _ _ (hle.trans ah) (hr.up ah)
  ·have vu:¬k<most:=by have:=df h;dsimp only at this;omega
   rw[show most - k=0 by omega,b6]at hI;rw[hI]at hK;exact hK _ _ _ _ _ (hle.trans ah) (hr.up ah)
theorem pf {s:gX} {z:SA} (ho:gd s) (hs:dB H s z) (hK:∀a1 n1 c1 k H',Le H H'→RL H' a1 n1 c1 (cU s)→K (.tuple #[.slice a1 n1 c1,.int .i64 k,.int .i64 0]) H'):aq prog 65 [dG s z] H K:=by
 refine ab af aa rfl func65 call65 ntmps65 results65 rfl rfl ?_;refine⟨some ([],[0,1,2,3,4,5,6,7,8,9]),by kernel_rfl,?_⟩;refine pc (s:=s) (z:=z) ho ?_
 refine nP (s:=s) (z:=z) ho (eT ho) hs fun a1 n1 c1 k H1 ak bh=>?_
 exact hK _ _ _ _ _ ak bh
def sA (s:gX) (A:List Wd):List Wd:=(List.range s.m).map fun v=>l9 (yn s v) (mM A v)
def ox (f:Nat→Wd) (b:Wd) (m i:Nat):List Wd:=(List.range m).map fun v=>if v<i then f v else b
theorem D4 (f:Nat→Wd) (b:Wd) {m i:Nat} (h:i<m):(ox f b m i)[i]?=some b:=by
 rw[ox,List.getElem?_map,List.getElem?_range h];simp
theorem D5 (f:Nat→Wd) (b:Wd) {m i:Nat} (_:i<m):(ox f b m i).set i (f i)=ox f b m (i+1):=by
 apply List.ext_getElem?;intro j;rw[List.getElem?_set]
 have hl:(ox f b m i).length=m:=by simp [ox]
 split
 ·rename_i e;subst e;rw[if_pos (by omega),ox,List.getElem?_map,List.getElem?_range (by omega)];simp
 ·rename_i e;rw[ox,ox,List.getElem?_map,List.getElem?_map]
  by_cases hj:j<m
  ·rw[List.getElem?_range hj];simp only[Option.map_some,Option.some.injEq]
   by_cases h1:j<i
   ·rw[if_pos h1,if_pos (by omega)]
   ·rw[if_neg h1,if_neg (by omega)]
  ·rw[List.getElem?_eq_none (by simpa using hj)];rfl
theorem zW (f:Nat→Wd) (b:Wd) (m:Nat):ox f b m 0=List.replicate m b:=by
 rw[ox,←map_const];simp
theorem zX (f:Nat→Wd) (b:Wd) (m:Nat):ox f b m m=(List.range m).map f:=by
 apply List.map_congr_left;intro v hv;rw[if_pos (List.mem_range.1 hv)]
theorem M3 {H:Hp} {css:List (List Value)} {A:List Wd} (h:RC (α:=Wd) H css A):∀y∈css,y.length=1∧∀u∈y,u.oneCell'=true:=by
 intro y hy;obtain⟨i,hi⟩:=List.getElem?_of_mem hy;have aj:=(gh.1 hi).1;have fC:css.length=A.length:=h.1;have:=h.2 i y (A[i]'(by omega)) hi (aL _);exact⟨cq.len this,cq.one this⟩
theorem tP {s:gX} {z:SA} (ho:gd s) {H:Hp} {K:SV→St→Hp→Prop} (hs:dB H s z) (hK:∀css H',Le H H'→RC (α:=Wd) H' css (eU s)→K (.eo [.own 0,.v (.int .i64 0)]) ⟨[],[(0,.row 103 1 css)],1⟩ H'):
  aY prog 103 [.agg (vL (fc s z))] [] 0 H K:=by
 refine fF (args:=[dG s z]) (fun _=>rfl) (iP (s:=s) (z:=z) ho hs (K:=fun v H'=>∃x css H3,v = .tuple #[x,.int .i64 0]∧Le H H3∧RC (α:=Wd) H3 css (eU s)∧qp 103 1 css H3 x H') (fun v css H3 H' h1 h2 h3 _=>⟨v,css,H3,rfl,h1,h2,h3⟩)) ?_;rintro v H2 hle ⟨x,css,H3,rfl,h1,h2,h3⟩;refine .inr ⟨103,1,css,x,.eo [.own 0,.v (.int .i64 0)],fun ρ hρ=>?_,rfl,(qp.base h1 h3).new,M3 h2,fun H' ah iF=>hK css H' ah (RC.up h2 fun b o hb=>iF b o (h3.le b o hb) fun e=>?_)⟩
 ·show Value.tuple #[ρ.val 0,.int .i64 0]=_;rw[hρ]
 ·rcases h3.new with ⟨h4,_⟩ | ⟨g,cap,cc,h4,h5,_⟩
  ·rw[h4]at e;cases e
  ·rw[h4]at e;simp only[Value.ownBlock,Option.some.injEq]at e;subst e;rw[h5]at hb;cases hb
noncomputable def WA:Cx:={ P:=prog,tt:=tt,n:=0,wrap:=false,base:=0,gf:=103::cx.gf,eqs:=cx.eqs,xf:=[] }
theorem GG:eH WA:=⟨af.tt,af.eqs⟩
theorem q9 {s:gX} {z:SA} (ho:gd s) {A:List Wd} (hA:j5 s A) {a:Option Addr} {n c:Nat} (hs:dB H s z) (ha:RL H a n c A) (hK:∀a1 n1 c1 H',Le H H'→RL H' a1 n1 c1 (sA s A)→K (.tuple #[.slice a1 n1 c1,.int .i64 0]) H'):aq prog 66 [dG s z,.slice a n c] H K:=by
 have hm:=ho.m;have hw:=ho.w;have Fa:=ha.aB;have xh:=hA.len;refine ab GG aa rfl func66 call66 ntmps66 results66 rfl rfl ?_;refine⟨[],rfl,tP (s:=s) (z:=z) ho hs fun GH H1 ak M4=>?_⟩
 have M5:GH.length=s.m:=by have h1:=M4.1;rw[(kp s).len]at h1;exact h1
 refine⟨fun h=>absurd rfl (nt h),fun _=>?_⟩;refine⟨fun h=>absurd (by rw[Fa,xh,M5]) (nt h),fun _=>?_⟩
 refine⟨Nat×List (List Value),fun q=>⟨[(1,.v (.slice a n c)),(2,.ptr 0 0),(6,.own 1),(23,.v (.int .i64 (s.m:Nat))),(24,.v (.int .i64 q.1))],[(0,.cells 106 (vL (fc s z))),(1,.row 103 1 q.2)],2⟩,
  fun q H'=>Le H H'∧q.1≤s.m∧RC (α:=Wd) H' q.2 (ox (fun v=>l9 (yn s v) (mM A v)) (kR s.w) s.m q.1),fun q=>s.m - q.1,⟨(0,GH),[(0,0),(1,1)],?_,ak,Nat.zero_le _,by rw[zW];exact M4⟩,?_⟩
 ·have e:SV.v (.int .i64 (GH.length:Nat))=SV.v (.int .i64 (s.m:Nat)):=by rw[M5]
  (repeat' first|exact trivial|refine⟨?_,?_⟩|exact rfl|assumption)
 rintro⟨i,css⟩ H2 _ ⟨ah,hi,bf⟩;dsimp only at hi bf
 have fC:css.length=s.m:=by have h1:=bf.1;simpa [ox] using h1
 refine⟨fun h=>?_,fun h=>?_⟩
 ·have aj:i<s.m:=by have:=dt h;dsimp only at this;omega
  refine dj (ha.up ah) (eS hA aj) fun ad a5 n5 c5 q1 hh bh=>?_
  refine⟨some ([1],[0,1,2,3,4,5,6,7,8,9,10,11,12,13,14]),by kernel_rfl,?_⟩;refine⟨ad,⟨by dsimp only;omega,by dsimp only;omega,q1⟩,?_⟩;refine⟨_,hh,?_⟩
  refine tN (s:=s) (z:=z) ho aj (fO hA aj) (hs.up ah) bh fun a6 n6 c6 H3 az ji=>?_
  have b8:=RC.up bf az
  refine lJ b8 (D4 _ _ aj) fun a0 n0 c0 hg _=>?_
  have rB:css[(i:Int).toNat]?=_:=hg;refine⟨⟨by dsimp only;omega,by dsimp only;omega⟩,?_⟩;refine⟨_,rB,?_⟩
  have nC:RC (α:=Wd) H3 (css.set i [.slice a6 n6 c6]) (ox (fun v=>l9 (yn s v) (mM A v)) (kR s.w) s.m (i+1)):=by
   rw[←D5 _ _ aj];exact o9 b8 ji
  refine⟨fun h=>absurd rfl (nt h),fun _=>?_⟩;refine⟨⟨by dsimp only;omega,by dsimp only;omega⟩,(i+1,css.set i [.slice a6 n6 c6]),[(0,0),(1,1)],?_,⟨ah.trans az,aj,nC⟩,by dsimp only;omega⟩
  (repeat' first|exact trivial|refine⟨?_,?_⟩|exact rfl|assumption)
 ·have aX:i=s.m:=by have:=df h;dsimp only at this;omega
  rw[aX,zX]at bf;intro v H6 aI cZ;obtain⟨a7,n7,c7,rfl,dz⟩:=RL.aC (α:=Wd) cZ (RC.up bf aI.le);exact hK _ _ _ _ (ah.trans aI.le) dz
end Go.Proofs
end
section
namespace Go.Proofs
open Go.Sy
open Tryz
variable {H:Hp} {K:Value→Hp→Prop}
theorem D6 {x y:Wd} {a a2:Option Addr} {n c n2 k2:Nat} (ha:RL H a n c x) (hb:RL H a2 n2 k2 y) (hK:K (.bool (decide (x=y))) H):aq prog 242 [.slice a n c,.slice a2 n2 k2] H K:=by
 have hn:=ha.aB;have lv:=hb.aB;have eI:=ha.le;refine ab af aa rfl func242 call242 ntmps242 results242 rfl rfl ?_;refine⟨fun h=>?_,fun h=>?_⟩
 ·have h1:¬n=n2:=by have:=nt h;omega
  exact aA hK (decide_eq_false (fun e=>h1 (by rw[hn,lv,e])))
 ·have h1:n=n2:=by have:=nf h;omega
  refine⟨Nat,fun i=>⟨[(0,.v (.slice a n c)),(1,.v (.slice a2 n2 k2)),(11,.v (.slice a n c)),(12,.v (.int .i64 n)),(13,.v (.int .i64 i))],[],0⟩,
   fun i H'=>H'=H∧i≤x.length∧∀j<i,x[j]?=y[j]?,fun i=>x.length - i,⟨0,[],?_,rfl,Nat.zero_le _,fun j hj=>(by cases hj)⟩,?_⟩
  ·(repeat' first|exact trivial|refine⟨?_,?_⟩|exact rfl|assumption)
  rintro i H1 _ ⟨rfl,hi,hx⟩;refine⟨fun h=>?_,fun h=>?_⟩
  ·have aj:i<x.length:=by have:=dt h;omega
   have dK:i<y.length:=by omega
   have ex:=aL aj;have ey:=aL dK
   refine dO ha ex fun ad q1 hh _=>?_
   refine dO hb ey fun iy q2 gj _=>?_
   refine⟨some ([],[0,1,2,3,4,5,6,7,8]),by kernel_rfl,?_⟩;refine⟨ad,⟨by omega,by omega,q1⟩,?_⟩;refine⟨_,hh,?_⟩;refine⟨iy,⟨by omega,by omega,q2⟩,?_⟩;refine⟨_,gj,?_⟩;refine⟨fun h=>?_,fun h=>?_⟩
   ·have cu:¬x[i].toNat=y[i].toNat:=by have:=nt h;omega
    exact aA hK (decide_eq_false (fun e=>cu (by subst e;rfl)))
   ·have heq:x[i]=y[i]:=UInt64.toNat_inj.1 (by have:=nf h;omega);refine⟨⟨by omega,by omega⟩,i+1,[],?_,⟨rfl,aj,fun j hj=>?_⟩,by dsimp only;omega⟩
    ·(repeat' first|exact trivial|refine⟨?_,?_⟩|exact rfl|assumption)
    ·rcases Nat.lt_succ_iff_lt_or_eq.1 hj with h | h
     ·exact hx j h
     ·rw[h,ex,ey,heq]
  ·have aX:i=x.length:=by have:=df h;omega
   exact aA hK (decide_eq_true (dX (by omega) (fun j hj=>hx j (by omega))))
theorem uO {A B:List Wd} {a a2:Option Addr} {n c n2 k2:Nat} (ha:RL H a n c A) (hb:RL H a2 n2 k2 B) (hK:K (.bool (decide (A=B))) H):aq prog 190 [.slice a n c,.slice a2 n2 k2] H K:=by
 have hn:=ha.aB;have lv:=hb.aB;have eI:=ha.le;refine ab af aa rfl func190 call190 ntmps190 results190 rfl rfl ?_;refine⟨fun h=>?_,fun h=>?_⟩
 ·have h1:¬n=n2:=by have:=nt h;omega
  exact aA hK (decide_eq_false (fun e=>h1 (by rw[hn,lv,e])))
 ·have h1:n=n2:=by have:=nf h;omega
  refine⟨Nat,fun i=>⟨[(0,.v (.slice a n c)),(1,.v (.slice a2 n2 k2)),(11,.v (.slice a n c)),(12,.v (.int .i64 n)),(13,.v (.int .i64 i))],[],0⟩,
   fun i H'=>H'=H∧i≤A.length∧∀j<i,A[j]?=B[j]?,fun i=>A.length - i,⟨0,[],?_,rfl,Nat.zero_le _,fun j hj=>(by cases hj)⟩,?_⟩
  ·(repeat' first|exact trivial|refine⟨?_,?_⟩|exact rfl|assumption)
  rintro i H1 _ ⟨rfl,hi,hx⟩;refine⟨fun h=>?_,fun h=>?_⟩
  ·have aj:i<A.length:=by have:=dt h;omega
   have dK:i<B.length:=by omega
   have ex:=aL aj;have ey:=aL dK
   refine dj ha ex fun ad a5 n5 c5 q1 hh bh=>?_
   refine dj hb ey fun iy a6 n6 c6 q2 gj bj=>?_
   refine⟨some ([],[0,1,2,3,4,5,6,7,8,9]),by kernel_rfl,?_⟩;refine⟨ad,⟨by omega,by omega,q1⟩,?_⟩;refine⟨_,hh,?_⟩;refine⟨iy,⟨by omega,by omega,q2⟩,?_⟩;refine⟨_,gj,?_⟩;refine D6 bh bj ?_;refine⟨fun h=>?_,fun h=>?_⟩
   ·have cu:¬A[i]=B[i]:=nt h;exact aA hK (decide_eq_false (fun e=>cu (by subst e;rfl)))
   ·have heq:A[i]=B[i]:=nf h;refine⟨⟨by omega,by omega⟩,i+1,[],?_,⟨rfl,aj,fun j hj=>?_⟩,by dsimp only;omega⟩
    ·(repeat' first|exact trivial|refine⟨?_,?_⟩|exact rfl|assumption)
    ·rcases Nat.lt_succ_iff_lt_or_eq.1 hj with h | h
     ·exact hx j h
     ·rw[h,ex,ey,heq]
  ·have aX:i=A.length:=by have:=df h;omega
   exact aA hK (decide_eq_true (dX (by omega) (fun j hj=>hx j (by omega))))
theorem nQ {s:gX} {z:SA} (ho:gd s) (hK:K (.int .i64 (dA s:Nat)) H):aq prog 129 [dG s z] H K:=by
 have hE:=eT ho
 have ee:((s.m:Int))*((2*s.w:Nat):Int)=((s.m*(2*s.w):Nat):Int):=by push_cast;rfl
 refine ab af aa rfl func129 call129 ntmps129 results129 rfl rfl ?_;refine⟨some ([],[0,1,2,3,4,5,6,7,8,9]),by kernel_rfl,?_⟩;refine nI ho.w ?_;unfold dA at hE;refine⟨⟨by rw[ee];omega,by rw[ee];omega⟩,?_⟩;refine⟨⟨by rw[ee];omega,by rw[ee];omega⟩,?_⟩;exact cT hK (by rw[ee,dA];push_cast;rfl)
theorem qb {s:gX} {z:SA} (ho:gd s) {v:Int} (hv:0≤v∧v<(s.m:Nat)) {x:Wd} (hx:okW s.w x) {a:Option Addr} {n c:Nat} (hs:dB H s z) (ha:RL H a n c x) (hK:∀a1 n1 c1 H',Le H H'→RL H' a1 n1 c1 (l9 (yn s v.toNat) x)→K (.slice a1 n1 c1) H'):
  aq prog 237 [dG s z,.int .i64 v,.slice a n c] H K:=by
 have Bo:=hs.t.aB;rw[List.length_map,ho.Tl]at Bo;refine ab af aa rfl func237 call237 ntmps237 results237 rfl rfl ?_
 refine km hs.t (nK ho (v:=v.toNat) (by omega)) fun ad a1 n1 c1 e1 hh bh=>?_
 rw[Int.toNat_of_nonneg hv.1]at hh;refine⟨some ([],[0,1,2,3,4,5,6,7,8,9]),by kernel_rfl,?_⟩;refine⟨ad,⟨by omega,by omega,e1⟩,?_⟩;refine⟨_,hh,?_⟩
 refine lI ho.w hx (j4 ho v.toNat) ha bh fun a2 n2 c2 H2 ah bj=>?_
 exact hK _ _ _ _ ah bj
theorem pg {s:gX} {z:SA} (ho:gd s) {v:Nat} (hs:dB H s z) (hK:∀a1 n1 c1 H',Le H H'→RL H' a1 n1 c1 (cg s v)→K (.slice a1 n1 c1) H'):aq prog 240 [dG s z,.int .i64 (v:Nat)] H K:=by
 have hi:=ho.vp.1;have hw:=ho.w;refine ab af aa rfl func240 call240 ntmps240 results240 rfl rfl ?_;refine Io hs.n ?_;refine⟨fun h=>?_,fun h=>?_⟩
 ·have hm:(v:Int)∈s.vo:=dt h;have e:cg s v=s.vp:=if_pos hm;rw[e]at hK;obtain⟨css,gF,bf⟩:=hs.i.row;have fC:css.length=s.vp.length:=bf.1;refine⟨css,gF,?_⟩;refine⟨⟨by show (0+css.length)*8≤140737488355328;omega,by show 0+css.length≤9223372036854775807;omega⟩,?_⟩;intro y H1 ak hy;obtain⟨a1,n1,c1,rfl,hr⟩:=RL.aC (α:=UInt64) hy (RC.up bf ak.le);exact hK _ _ _ _ ak.le hr
 ·have hm:¬(v:Int)∈s.vo:=df h;have e:cg s v=kR s.w:=if_neg hm;rw[e]at hK;exact mK hw hK
theorem vU {H:Hp} {css:List (List Value)} {A:List Wd} (h:RC (α:=Wd) H css A) {a:Option Addr} {n c:Nat} {x:Wd} (hx:RL H a n c x):RC (α:=Wd) H (css++[[.slice a n c]]) (A++[x]) :=
 RC.snoc h (show cq.R (α:=Wd) H [.slice a n c] x from ⟨a,n,c,rfl,hx⟩)
theorem nR {s:gX} {z:SA} (ho:gd s) (hK:∀a1 n1 c1 H',Le H H'→RL H' a1 n1 c1 (eU s)→K (.slice a1 n1 c1) H'):aq prog 188 [dG s z] H K:=by
 have hm:=ho.m;have hw:=ho.w;refine ab af aa rfl func188 call188 ntmps188 results188 rfl rfl ?_
 refine⟨Nat×List (List Value),fun q=>⟨[(1,.ptr 0 0),(3,.own 1),(4,.v (.int .i64 q.1))],[(0,.cells 106 (vL (fc s z))),(1,.row 103 1 q.2)],2⟩,
  fun q H'=>Le H H'∧q.1≤s.m∧RC (α:=Wd) H' q.2 (List.replicate q.1 (kR s.w)),fun q=>s.m - q.1,⟨(0,[]),[(0,0)],?_,Le.refl H,Nat.zero_le _,RC.nil⟩,?_⟩
 ·(repeat' first|exact trivial|refine⟨?_,?_⟩|exact rfl|assumption)
 rintro⟨i,css⟩ H1 _ ⟨ak,hi,bf⟩;dsimp only at hi bf
 have fC:css.length=i:=by have h1:=bf.1;simpa using h1
 refine⟨fun h=>?_,fun h=>?_⟩
 ·have aj:i<s.m:=by have:=dt h;dsimp only at this;omega
  refine mK hw fun a1 n1 c1 H2 ah bh=>?_
  refine⟨⟨by show (css.length+1)*24≤140737488355328;omega,by show css.length+1≤9223372036854775807;omega⟩,?_⟩
  have b8:RC (α:=Wd) H2 (css++[[.slice a1 n1 c1]]) (List.replicate (i+1) (kR s.w)):=by
   rw[List.replicate_succ'];exact vU (RC.up bf ah) bh
  refine⟨⟨by dsimp only;omega,by dsimp only;omega⟩,(i+1,css++[[.slice a1 n1 c1]]),[(0,0),(1,3)],?_,⟨ak.trans ah,aj,b8⟩,by dsimp only;omega⟩
  (repeat' first|exact trivial|refine⟨?_,?_⟩|exact rfl|assumption)
 ·have aX:i=s.m:=by have:=df h;dsimp only at this;omega
  rw[aX]at bf;intro v H6 aI cZ;obtain⟨a7,n7,c7,rfl,dz⟩:=RL.aC (α:=Wd) cZ (RC.up bf aI.le);exact hK _ _ _ _ (ak.trans aI.le) dz
def eE (s:gX) (A:List Wd) (v:Nat) (x:Wd) (e:cV):Wd:=if e.2=(v:Int) then gM x (GD s A e) else x
def gP (s:gX) (A:List Wd):List Wd:=(List.range s.m).map fun v=>s.E.foldl (eE s A v) (cg s v)
theorem sB {s:gX} {A:List Wd} {v:Nat}:∀(l:List cV) (L:List Wd),v<L.length→(∀e∈l,0≤e.2∧e.2<(L.length:Nat))→(l.foldl (cM s A) L)[v]?=some (l.foldl (eE s A v) (mM L v))
 | [],L,h,_=>by rw[List.foldl_nil,List.foldl_nil,mM,aL h];rfl
 | e::r,L,h,he=>by
  have h1:=he e List.mem_cons_self
  have hl:(cM s A L e).length=L.length:=by rw[cM,List.length_set]
  rw[List.foldl_cons,List.foldl_cons,sB r (cM s A L e) (by rw[hl];exact h) (fun e' JU=>by rw[hl];exact he e' (List.mem_cons_of_mem _ JU))]
  congr 2
  rw[eE]
  by_cases hv:e.2=(v:Int)
  ·have xr:e.2.toNat=v:=by omega
   rw[if_pos hv,cM,xr,mM,List.getElem?_set_self h];rfl
  ·have xr:e.2.toNat≠v:=by omega
   rw[if_neg hv,cM,mM,List.getElem?_set_ne xr];rfl
theorem xJ {s:gX} (ho:gd s) (A:List Wd):gP s A=cW s A:=by
 have j1:(da s).length=s.m:=by simp [da]
 have yk:∀(l:List cV) (L:List Wd),(l.foldl (cM s A) L).length=L.length:=by
  intro l
  induction l with
  | nil=>exact fun _=>rfl
  | cons e r ih=>intro L;rw[List.foldl_cons,ih,cM,List.length_set]
 apply List.ext_getElem?;intro v
 by_cases hv:v<s.m
 ·rw[cW,sB s.E (da s) (by omega) (fun e he=>by rw[j1];exact (ho.En e he).2),gP,List.getElem?_map,List.getElem?_range hv]
  have:mM (da s) v=cg s v:=by rw[mM,da,List.getElem?_map,List.getElem?_range hv];rfl
  rw[this];rfl
 ·rw[List.getElem?_eq_none (by simp [gP];omega),List.getElem?_eq_none (by rw[cW,yk,j1];omega)]
theorem ph {s:gX} {A:List Wd} (hA:j5 s A) {v:Nat}:∀(l:List cV) {x:Wd},(∀e∈l,0≤e.1∧e.1<(s.m:Nat))→okW s.w x→okW s.w (l.foldl (eE s A v) x)
 | [],_,_,h=>h
 | e::r,x,hl,h=>by
  refine ph hA r (x:=eE s A v x e) (fun e he=>hl e (List.mem_cons_of_mem _ he)) ?_;unfold eE;split
  ·exact sv h (ko hA (hl e List.mem_cons_self))
  ·exact h
theorem rb {s:gX} {z:SA} (ho:gd s) {A:List Wd} (hA:j5 s A) {a:Option Addr} {n c:Nat} (hs:dB H s z) (ha:RL H a n c A) (hK:∀a1 n1 c1 H',Le H H'→RL H' a1 n1 c1 (cW s A)→K (.slice a1 n1 c1) H'):
  aq prog 189 [dG s z,.slice a n c] H K:=by
 have hm:=ho.m;have hw:=ho.w;have cu:=hs.e.aB;have yu:=hs.e.le;have Fa:=ha.aB;have xh:=hA.len;rw[←xJ ho]at hK;refine ab af aa rfl func189 call189 ntmps189 results189 rfl rfl ?_
 refine⟨Nat×List (List Value),fun q=>⟨[(1,.v (.slice a n c)),(2,.ptr 0 0),(5,.own 1),(6,.v (.int .i64 q.1))],[(0,.cells 106 (vL (fc s z))),(1,.row 103 1 q.2)],2⟩,
  fun q H'=>Le H H'∧q.1≤s.m∧RC (α:=Wd) H' q.2 ((gP s A).take q.1),fun q=>s.m - q.1,⟨(0,[]),[(0,0)],?_,Le.refl H,Nat.zero_le _,RC.nil⟩,?_⟩
 ·(repeat' first|exact trivial|refine⟨?_,?_⟩|exact rfl|assumption)
 rintro⟨i,css⟩ H1 _ ⟨ak,hi,bf⟩;dsimp only at hi bf
 have rO:(gP s A).length=s.m:=by simp [gP]
 have fC:css.length=i:=by have h1:=bf.1;rw[List.length_take]at h1;omega
 refine⟨fun h=>?_,fun h=>?_⟩
 ·have aj:i<s.m:=by have:=dt h;dsimp only at this;omega
  have bc:(gP s A).take (i+1)=(gP s A).take i++[s.E.foldl (eE s A i) (cg s i)]:=by
   rw[List.take_add_one,gP,List.getElem?_map,List.getElem?_range aj];rfl
  refine pg (s:=s) (z:=z) ho (hs.up ak) fun a1 n1 c1 H2 ah bh=>?_
  refine⟨Nat×Wd×(Option Addr×Nat×Nat),fun q=>⟨[(1,.v (.slice a n c)),(2,.ptr 0 0),(5,.own 1),(6,.v (.int .i64 (i:Nat))),(7,.v (.slice q.2.2.1 q.2.2.2.1 q.2.2.2.2)),(20,.v (.slice z.ea z.en z.ec)),(21,.v (.int .i64 z.en)),(22,.v (.int .i64 q.1))],[(0,.cells 106 (vL (fc s z))),(1,.row 103 1 css)],2⟩,
   fun q H'=>Le H2 H'∧q.1≤s.E.length∧RL H' q.2.2.1 q.2.2.2.1 q.2.2.2.2 q.2.1∧q.2.1=(s.E.take q.1).foldl (eE s A i) (cg s i),fun q=>s.E.length - q.1,⟨(0,cg s i,(a1,n1,c1)),[(0,0),(1,1)],?_,Le.refl H2,Nat.zero_le _,bh,rfl⟩,?_⟩
  ·(repeat' first|exact trivial|refine⟨?_,?_⟩|exact rfl|assumption)
  rintro⟨j,x,a2,n2,c2⟩ H3 _ ⟨az,hj,bj,hx⟩;dsimp only at hj bj hx
  have WB:okW s.w x:=by rw[hx];exact ph hA _ (fun e he=>(ho.En e (List.mem_of_mem_take he)).1) (mL ho i)
  have hle:=(ak.trans ah).trans az;refine⟨fun h=>?_,fun h=>?_⟩
  ·have eD:j<s.E.length:=by have:=dt h;dsimp only at this;omega
   refine aD s.E[j] fun e yw=>?_
   have sr:s.E[j]?=some e:=by rw[yw];exact aL eD
   have D0:=ho.En e (by rw[yw];exact List.getElem_mem eD)
   have kk:(s.E.take (j+1)).foldl (eE s A i) (cg s i)=eE s A i x e:=by
    rw[hx,List.take_add_one,sr,Option.toList_some,List.foldl_append];rfl
   refine qV (hs.up hle).e sr fun ad q1 hh=>?_
   refine⟨ad,⟨by dsimp only;omega,by dsimp only;omega,q1⟩,?_⟩;refine⟨_,hh,?_⟩;refine⟨fun h=>?_,fun h=>?_⟩
   ·have y9:e.2=(i:Int):=dt h
    have Ke:e.1.toNat<s.m:=by omega
    have Pq:((e.1.toNat:Nat):Int)=e.1:=Int.toNat_of_nonneg D0.1.1
    refine dj (ha.up hle) (eS hA Ke) fun sy a3 n3 c3 q3 ql db=>?_
    rw[Pq]at ql;refine⟨some ([],[0,1,2,3,4,5,6,7,8,9,10,11,12,13]),by kernel_rfl,?_⟩;refine⟨sy,⟨by omega,by omega,q3⟩,?_⟩;refine⟨_,ql,?_⟩
    refine qb (s:=s) (z:=z) ho D0.1 (fO hA Ke) (hs.up hle) db fun a4 n4 c4 H4 aN fm=>?_
    refine o6 hw WB (ko hA D0.1) (bj.up aN) fm fun a5 n5 c5 H5 aK ct=>?_
    refine⟨⟨by omega,by omega⟩,(j+1,eE s A i x e,(a5,n5,c5)),[(0,0),(1,1)],?_,⟨(az.trans aN).trans aK,eD,by rw[eE,if_pos y9];exact ct,kk.symm⟩,by dsimp only;omega⟩
    (repeat' first|exact trivial|refine⟨?_,?_⟩|exact rfl|assumption)
   ·have y9:¬e.2=(i:Int):=df h;refine⟨⟨by dsimp only;omega,by dsimp only;omega⟩,(j+1,x,(a2,n2,c2)),[(0,0),(1,1)],?_,⟨az,eD,bj,by rw[kk,eE,if_neg y9]⟩,by dsimp only;omega⟩
    (repeat' first|exact trivial|refine⟨?_,?_⟩|exact rfl|assumption)
  ·have eD:j=s.E.length:=by have:=df h;dsimp only at this;omega
   rw[eD,List.take_length]at hx;refine⟨⟨by show (css.length+1)*24≤140737488355328;omega,by show css.length+1≤9223372036854775807;omega⟩,?_⟩
   have b8:RC (α:=Wd) H3 (css++[[.slice a2 n2 c2]]) ((gP s A).take (i+1)):=by
    rw[bc,←hx];exact vU (RC.up bf (ah.trans az)) bj
   refine⟨⟨by omega,by omega⟩,(i+1,css++[[.slice a2 n2 c2]]),[(0,0),(1,3)],?_,⟨hle,aj,b8⟩,by dsimp only;omega⟩
   (repeat' first|exact trivial|refine⟨?_,?_⟩|exact rfl|assumption)
 ·have aX:i=s.m:=by have:=df h;dsimp only at this;omega
  rw[aX,List.take_of_length_le (by omega)]at bf;intro v H6 aI cZ;obtain⟨a7,n7,c7,rfl,dz⟩:=RL.aC (α:=Wd) cZ (RC.up bf aI.le);exact hK _ _ _ _ (ak.trans aI.le) dz
theorem pj {s:gX} {z:SA} (ho:gd s) {most:Nat} (Ut:most≤1000000) (hs:dB H s z) (hK:∀a1 n1 c1 k H',Le H H'→RL H' a1 n1 c1 (b6 s most (eU s))→K (.tuple #[.slice a1 n1 c1,.int .i64 k]) H'):
  aq prog 128 [dG s z,.int .i64 (most:Nat)] H K:=by
 refine ab af aa rfl func128 call128 ntmps128 results128 rfl rfl ?_
 refine nR (s:=s) (z:=z) ho fun a n c H1 ak bh=>?_
 refine⟨Nat×List Wd×(Option Addr×Nat×Nat),fun q=>⟨[(1,.v (.int .i64 (most:Nat))),(2,.ptr 0 0),(6,.v (.slice q.2.2.1 q.2.2.2.1 q.2.2.2.2)),(7,.v (.int .i64 q.1))],[(0,.cells 106 (vL (fc s z)))],1⟩,
  fun q H'=>Le H H'∧RL H' q.2.2.1 q.2.2.2.1 q.2.2.2.2 q.2.1∧j5 s q.2.1∧q.1≤most∧b6 s most (eU s)=b6 s (most - q.1) q.2.1,fun q=>most - q.1,⟨(0,eU s,(a,n,c)),[(0,0)],?_,ak,bh,kp s,Nat.zero_le _,rfl⟩,?_⟩
 ·(repeat' first|exact trivial|refine⟨?_,?_⟩|exact rfl|assumption)
 rintro⟨k,A,a,n,c⟩ H2 _ ⟨hle,hr,hA,hk,hI⟩;dsimp only at hr hA hk hI;refine⟨fun h=>?_,fun h=>?_⟩
 ·have aj:k<most:=by have:=dt h;dsimp only at this;omega
  have bc:b6 s (most - k) A=if A=cW s A then A else b6 s (most - (k+1)) (cW s A):=by
   rw[show most - k=(most - (k+1))+1 by omega,b6]
  refine rb (s:=s) (z:=z) ho hA (hs.up hle) hr fun a2 n2 c2 H3 az db=>?_
  have MZ:=iQ ho hA;refine uO (hr.up az) db ?_;refine⟨fun h=>?_,fun h=>?_⟩
  ·have heq:=dt h;rw[bc,if_pos heq]at hI;rw[hI]at hK;exact hK _ _ _ _ _ (hle.trans az) (hr.up az)
  ·have cu:=df h;rw[bc,if_neg cu]at hI;refine⟨⟨by dsimp only;omega,by dsimp only;omega⟩,(k+1,cW s A,(a2,n2,c2)),[(0,0)],?_,⟨hle.trans az,db,MZ,aj,hI⟩,by dsimp only;omega⟩
   (repeat' first|exact trivial|refine⟨?_,?_⟩|exact rfl|assumption)
 ·have vu:k=most:=by have:=df h;dsimp only at this;omega
  rw[show most - k=0 by omega,b6]at hI;rw[hI]at hK;exact hK _ _ _ _ _ hle hr
theorem pk {s:gX} {z:SA} (ho:gd s) (hs:dB H s z) (hK:∀a1 n1 c1 H',Le H H'→RL H' a1 n1 c1 (cU s)→K (.slice a1 n1 c1) H'):aq prog 81 [dG s z] H K:=by
 refine ab af aa rfl func81 call81 ntmps81 results81 rfl rfl ?_;refine⟨some ([],[0,1,2,3,4,5,6,7,8]),by kernel_rfl,?_⟩;refine nQ (s:=s) (z:=z) ho ?_
 refine pj (s:=s) (z:=z) ho (eT ho) hs fun a1 n1 c1 k H1 ak bh=>?_
 exact hK _ _ _ _ ak bh
end Go.Proofs
end
section
namespace Go.Proofs
open Go.Sy
open Tryz
variable {H:Hp} {K:Value→Hp→Prop}
def dH (p:Prog) (t:aQ):Int:=bw t (varsOf p) 0
def ir (p:Prog) (a:ks):Rf:=if 0≤dH p a.1.l then (dH p a.1.l,(0,0)) else (-1,(fu a.2.1,fu a.2.2))
def dI (p:Prog) (s:Stmt):List Cd :=
 if dH p s.2.1.l<0 then [] else if s.1=1 then [(dH p s.2.1.l,s.2.2.1,ir p s.2.2.2.1,ir p s.2.2.2.2)] else if s.1=2 then [(dH p s.2.1.l,-1,(0,(0,0)),(0,(0,0)))] else []
def bg (p:Prog) (l:List Stmt):List Cd:=l.flatMap (dI p)
theorem sC {p:Prog} {l:List Stmt} {i:Nat} {s:Stmt} (h:l[i]?=some s):bg p (l.take (i+1))=bg p (l.take i)++dI p s:=by
 rw[bg,List.take_add_one,h,Option.toList_some,List.flatMap_append,←bg];simp
theorem GI (p:Prog) (s:Stmt):(dI p s).length≤1:=by
 unfold dI
 repeat' split
 all_goals simp
theorem pn (p:Prog):∀l:List Stmt,(bg p l).length≤l.length
 | []=>Nat.le_refl _
 | s::r=>by
  have h1:=GI p s;have h2:=pn p r;have e:bg p (s::r)=dI p s++bg p r:=List.flatMap_cons
  rw[e,List.length_append,List.length_cons];omega
theorem eV (p:Prog) (t:aQ):dH p t = -1∨(0≤dH p t∧dH p t<((varsOf p).length:Nat)):=by
 have:=fG t (varsOf p) 0 (Int.le_refl 0)
 rcases this with h | ⟨h1,h2⟩
 ·exact .inl h
 ·exact .inr ⟨h1,by rw[dH];omega⟩
def WC (r:Rf):Prop:=oh r.1∧oh r.2.1∧oh r.2.2
def Uu (c:Cd):Prop:=oh c.1∧oh c.2.1∧WC c.2.2.1∧WC c.2.2.2
theorem Iz (p:Prog) (hv:(varsOf p).length≤1000000) (a:ks):WC (ir p a):=by
 have h1:=eV p a.1.l;have h2:=bK a.2.1;have h3:=bK a.2.2;unfold ir;split
 ·exact⟨⟨by dsimp only;omega,by dsimp only;omega⟩,⟨by dsimp only;omega,by dsimp only;omega⟩,⟨by dsimp only;omega,by dsimp only;omega⟩⟩
 ·exact⟨⟨by dsimp only;omega,by dsimp only;omega⟩,⟨by dsimp only;omega,by dsimp only;omega⟩,⟨by dsimp only;omega,by dsimp only;omega⟩⟩
theorem D7 (p:Prog) (hv:(varsOf p).length≤1000000) {s:Stmt} (hs:fl s):∀c∈dI p s,Uu c:=by
 have h1:=eV p s.2.1.l
 have hi:oh (dH p s.2.1.l):=⟨by omega,by omega⟩
 have z:oh 0:=⟨by decide,by decide⟩
 intro c hc;unfold dI at hc;split at hc
 ·cases hc
 ·split at hc
  ·rw[List.mem_singleton]at hc;rw[hc];exact⟨hi,hs.2.2.1,Iz p hv _,Iz p hv _⟩
  ·split at hc
   ·rw[List.mem_singleton]at hc;rw[hc];exact⟨hi,⟨by dsimp only;omega,by dsimp only;omega⟩,⟨z,z,z⟩,⟨z,z,z⟩⟩
   ·cases hc
theorem Sc {H:Hp} {c:Cd} (h:Uu c):cq.R H (qy c) c :=
 ⟨[_],[_,_,_,_,_,_,_],rfl,⟨rfl,h.1⟩,[_],[_,_,_,_,_,_],rfl,⟨rfl,h.2.1⟩,[_,_,_],[_,_,_],rfl,⟨[_],[_,_],rfl,⟨rfl,h.2.2.1.1⟩,[_],[_],rfl,⟨rfl,h.2.2.1.2.1⟩,⟨rfl,h.2.2.1.2.2⟩⟩,⟨[_],[_,_],rfl,⟨rfl,h.2.2.2.1⟩,[_],[_],rfl,⟨rfl,h.2.2.2.2.1⟩,⟨rfl,h.2.2.2.2.2⟩⟩⟩
abbrev fe (l:List Cd):List (List Value):=l.map qy
theorem Uv {H:Hp} {l:List Cd} (h:∀c∈l,Uu c):RC (α:=Cd) H (fe l) l:=by
 refine⟨by simp,fun i cs x h1 h2=>?_⟩;rw[List.getElem?_map,h2]at h1;cases h1;exact Sc (h x (dY h2))
abbrev bP (a:Option Addr) (n c:Nat):List (Nat×Bx):=[(0,.cells 24 [.v (.slice a n c)])]
theorem zY {p:Prog} (hc:iE p<400000) {x:ks} {a:Option Addr} {n c:Nat} {H:Hp} {K:SV→St→Hp→Prop} (ha:RL H a n c p) (hK:K (.agg (vL (GA (ir p x)))) ⟨[],bP a n c,1⟩ H):
  aY prog 230 [.agg (vL (dT x)),.ptr 0 0] (bP a n c) 1 H K:=by
 refine aJ af aa func230 call230 ntmps230 results230 rfl rfl ?_
 refine xp ha hc fun _ _=>?_
 have hr:=eV p x.1.l;refine⟨fun h=>?_,fun h=>?_⟩
 ·have h0:0≤dH p x.1.l:=dt h;have e:ir p x=(dH p x.1.l,(0,0)):=if_pos h0
  have e2:max (bw x.1.l (varsOf p) 0) 0=dH p x.1.l:=by rw[dH]at h0 ⊢;omega
  rw[e]at hK;rw[e2];exact⟨.agg (vL (GA (dH p x.1.l,(0,0)))),bP a n c,1,[(0,0)],by (repeat' first|exact trivial|refine⟨?_,?_⟩|exact rfl|assumption),hK⟩
 ·have h0:¬0≤dH p x.1.l:=df h;have e:ir p x=(-1,(fu x.2.1,fu x.2.2)):=if_neg h0;rw[e]at hK;refine mv ?_;exact⟨.agg (vL (GA (-1,(fu x.2.1,fu x.2.2)))),bP a n c,1,[(0,0)],by (repeat' first|exact trivial|refine⟨?_,?_⟩|exact rfl|assumption),hK⟩
theorem zZ {p:Prog} (hc:iE p<400000) {x:ks} {a:Option Addr} {n c:Nat} (ha:RL H a n c p) (hK:K (.agg (GA (ir p x)).toArray) H):
  aq prog 193 [.agg #[.slice a n c],.agg (dT x).toArray] H K:=by
 refine ab af aa rfl func193 call193 ntmps193 results193 rfl rfl ?_
 refine tB ha hc fun _ _=>?_
 have hr:=eV p x.1.l;refine⟨fun h=>?_,fun h=>?_⟩
 ·have h0:0≤dH p x.1.l:=dt h;have e:ir p x=(dH p x.1.l,(0,0)):=if_pos h0;rw[e]at hK;exact hK
 ·have h0:¬0≤dH p x.1.l:=df h;have e:ir p x=(-1,(fu x.2.1,fu x.2.2)):=if_neg h0;rw[e]at hK;refine gJ ?_;exact hK
theorem xK {p:Prog} (hc:iE p<400000) (hv:(varsOf p).length≤1000000) {l:List Stmt} (hl:l.length≤1000000) {a a2:Option Addr} {n c n2 k2:Nat} (ha:RL H a n c p) (hb:RL H a2 n2 k2 l)
  (hK:∀a1 n1 c1 H',Le H H'→RL H' a1 n1 c1 (bg p l)→K (.slice a1 n1 c1) H'):aq prog 174 [.agg #[.slice a n c],.slice a2 n2 k2] H K:=by
 have lv:=hb.aB;refine ab af aa rfl func174 call174 ntmps174 results174 rfl rfl ?_
 refine⟨Nat,fun i=>⟨[(2,.ptr 0 0),(5,.fn 230 [.ptr 0 0]),(6,.own 1),(12,.v (.slice a2 n2 k2)),(13,.v (.int .i64 n2)),(14,.v (.int .i64 i))],[(0,.cells 24 [.v (.slice a n c)]),(1,.row 227 8 (fe (bg p (l.take i))))],2⟩,
  fun i H'=>H'=H∧i≤l.length,fun i=>l.length - i,⟨0,[(0,0)],?_,rfl,Nat.zero_le _⟩,?_⟩
 ·(repeat' first|exact trivial|refine⟨?_,?_⟩|exact rfl|assumption)
 rintro i H1 _ ⟨rfl,hi⟩;have fC:=pn p (l.take i);rw[List.length_take]at fC;have xn:(fe (bg p (l.take i))).length=(bg p (l.take i)).length:=List.length_map _;refine⟨fun h=>?_,fun h=>?_⟩
 ·have aj:i<l.length:=by have:=dt h;omega
  refine aD l[i] fun s Be=>?_
  have dy:l[i]?=some s:=by rw[Be];exact aL aj
  have bc:=sC (p:=p) dy;have hr:=eV p s.2.1.l
  refine du hb dy fun ad q1 hh vM=>?_
  refine⟨ad,⟨by omega,by omega,q1⟩,?_⟩;refine⟨_,hh,?_⟩
  refine xp ha hc fun _ _=>?_
  refine⟨fun h=>?_,fun h=>?_⟩
  ·have h0:dH p s.2.1.l<0:=by have:¬0≤dH p s.2.1.l:=nt h;omega
   have e:dI p s=[]:=if_pos h0;rw[e,List.append_nil]at bc;refine⟨⟨by omega,by omega⟩,i+1,[(0,0),(1,1)],?_,⟨rfl,aj⟩,by dsimp only;omega⟩
   have er:fe (bg p (l.take i))=fe (bg p (l.take (i+1))):=by rw[bc]
   (repeat' first|exact trivial|refine⟨?_,?_⟩|exact rfl|assumption)
  ·have h0:0≤dH p s.2.1.l:=nf h
   have e2:max (bw s.2.1.l (varsOf p) 0) 0=dH p s.2.1.l:=by rw[dH]at h0 ⊢;omega
   rw[e2];refine⟨fun h=>?_,fun h=>?_⟩
   ·have h1:s.1=1:=dt h
    have e:dI p s=[(dH p s.2.1.l,s.2.2.1,ir p s.2.2.2.1,ir p s.2.2.2.2)]:=by rw[dI,if_neg (by omega),if_pos h1]
    rw[e]at bc;refine⟨some ([0,1,3],[0,1,2,3,4,5,6,7,8,10,11,12,13,9,14,15,16,17,18]),by kernel_rfl,?_⟩;refine⟨[0],rfl,zY hc ha ?_⟩;refine⟨[0],rfl,zY hc ha ?_⟩;refine⟨⟨by show (_+1)*64≤140737488355328;rw[xn];omega,by show _+1≤9223372036854775807;rw[xn];omega⟩,?_⟩;refine⟨⟨by omega,by omega⟩,i+1,[(0,0),(1,4)],?_,⟨rfl,aj⟩,by dsimp only;omega⟩
    have er:fe (bg p (l.take (i+1)))=fe (bg p (l.take i))++[qy (dH p s.2.1.l,s.2.2.1,ir p s.2.2.2.1,ir p s.2.2.2.2)]:=by rw[bc,fe,List.map_append];rfl
    have WD:=er.symm
    (repeat' first|exact trivial|refine⟨?_,?_⟩|exact rfl|assumption)
   ·have h1:¬s.1=1:=df h;refine⟨fun h=>?_,fun h=>?_⟩
    ·have h2:s.1=2:=dt h
     have e:dI p s=[(dH p s.2.1.l,-1,(0,(0,0)),(0,(0,0)))]:=by rw[dI,if_neg (by omega),if_neg h1,if_pos h2]
     rw[e]at bc;refine⟨⟨by show (_+1)*64≤140737488355328;rw[xn];omega,by show _+1≤9223372036854775807;rw[xn];omega⟩,?_⟩;refine⟨⟨by omega,by omega⟩,i+1,[(0,0),(1,4)],?_,⟨rfl,aj⟩,by dsimp only;omega⟩
     have er:fe (bg p (l.take (i+1)))=fe (bg p (l.take i))++[qy (dH p s.2.1.l,-1,(0,(0,0)),(0,(0,0)))]:=by rw[bc,fe,List.map_append];rfl
     have WD:=er.symm
     (repeat' first|exact trivial|refine⟨?_,?_⟩|exact rfl|assumption)
    ·have h2:¬s.1=2:=df h
     have e:dI p s=[]:=by rw[dI,if_neg (by omega),if_neg h1,if_neg h2]
     rw[e,List.append_nil]at bc;refine⟨⟨by omega,by omega⟩,i+1,[(0,0),(1,1)],?_,⟨rfl,aj⟩,by dsimp only;omega⟩
     have er:fe (bg p (l.take i))=fe (bg p (l.take (i+1))):=by rw[bc]
     (repeat' first|exact trivial|refine⟨?_,?_⟩|exact rfl|assumption)
 ·have aX:i=l.length:=by have:=df h;omega
  rw[aX,List.take_length];intro v H6 aI cZ
  have hR:∀c∈bg p l,Uu c:=fun c hc=>by
   obtain⟨s,hs,h1⟩:=List.mem_flatMap.1 hc;obtain⟨cs,hr⟩:=qO hb hs;exact D7 p hv (hC hr).2 c h1
  obtain⟨a7,n7,c7,rfl,dz⟩:=RL.aC (α:=Cd) cZ (Uv hR);exact hK _ _ _ _ aI.le dz
theorem uP {p:Prog} (hc:iE p<400000) (hv:(varsOf p).length≤1000000) {l:List Stmt} (hl:l.length≤1000000) {a a2:Option Addr} {n c n2 k2:Nat} (ha:RL H a n c p) (hb:RL H a2 n2 k2 l)
  (hK:∀a1 n1 c1 H',Le H H'→RL H' a1 n1 c1 (bg p l)→K (.slice a1 n1 c1) H'):aq prog 131 [.agg #[.slice a n c],.slice a2 n2 k2] H K:=by
 have lv:=hb.aB;refine ab af aa rfl func131 call131 ntmps131 results131 rfl rfl ?_
 refine⟨Nat,fun i=>⟨[(2,.ptr 0 0),(5,.own 1),(9,.v (.slice a2 n2 k2)),(10,.v (.int .i64 n2)),(11,.v (.int .i64 i))],[(0,.cells 24 [.v (.slice a n c)]),(1,.row 227 8 (fe (bg p (l.take i))))],2⟩,
  fun i H'=>H'=H∧i≤l.length,fun i=>l.length - i,⟨0,[(0,0)],?_,rfl,Nat.zero_le _⟩,?_⟩
 ·(repeat' first|exact trivial|refine⟨?_,?_⟩|exact rfl|assumption)
 rintro i H1 _ ⟨rfl,hi⟩;have fC:=pn p (l.take i);rw[List.length_take]at fC;have xn:(fe (bg p (l.take i))).length=(bg p (l.take i)).length:=List.length_map _;refine⟨fun h=>?_,fun h=>?_⟩
 ·have aj:i<l.length:=by have:=dt h;omega
  refine aD l[i] fun s Be=>?_
  have dy:l[i]?=some s:=by rw[Be];exact aL aj
  have bc:=sC (p:=p) dy;have hr:=eV p s.2.1.l
  refine du hb dy fun ad q1 hh vM=>?_
  refine⟨ad,⟨by omega,by omega,q1⟩,?_⟩;refine⟨_,hh,?_⟩
  refine tB ha hc fun _ _=>?_
  refine⟨fun h=>?_,fun h=>?_⟩
  ·have h0:dH p s.2.1.l<0:=dt h;have e:dI p s=[]:=if_pos h0;rw[e,List.append_nil]at bc;refine⟨⟨by omega,by omega⟩,i+1,[(0,0),(1,1)],?_,⟨rfl,aj⟩,by dsimp only;omega⟩
   have er:fe (bg p (l.take i))=fe (bg p (l.take (i+1))):=by rw[bc]
   (repeat' first|exact trivial|refine⟨?_,?_⟩|exact rfl|assumption)
  ·have h0:0≤dH p s.2.1.l:=by have:¬dH p s.2.1.l<0:=df h;omega
   refine⟨fun h=>?_,fun h=>?_⟩
   ·have h1:s.1=1:=dt h
    have e:dI p s=[(dH p s.2.1.l,s.2.2.1,ir p s.2.2.2.1,ir p s.2.2.2.2)]:=by rw[dI,if_neg (by omega),if_pos h1]
    rw[e]at bc;refine⟨some ([1,3],[0,1,2,3,4,5,6,7,8,10,11,12,13,9,14,15,16,17,18]),by kernel_rfl,?_⟩;refine zZ (x:=s.2.2.2.1) hc ha ?_;refine zZ (x:=s.2.2.2.2) hc ha ?_;refine⟨⟨by show (_+1)*64≤140737488355328;rw[xn];omega,by show _+1≤9223372036854775807;rw[xn];omega⟩,?_⟩;refine⟨(fun h=>absurd (dt h) (by omega)),fun _=>?_⟩;refine⟨⟨by omega,by omega⟩,i+1,[(0,0),(1,4)],?_,⟨rfl,aj⟩,by dsimp only;omega⟩
    have er:fe (bg p (l.take (i+1)))=fe (bg p (l.take i))++[qy (dH p s.2.1.l,s.2.2.1,ir p s.2.2.2.1,ir p s.2.2.2.2)]:=by rw[bc,fe,List.map_append];rfl
    have WD:=er.symm
    (repeat' first|exact trivial|refine⟨?_,?_⟩|exact rfl|assumption)
   ·have h1:¬s.1=1:=df h;refine⟨fun h=>?_,fun h=>?_⟩
    ·have h2:s.1=2:=dt h
     have e:dI p s=[(dH p s.2.1.l,-1,(0,(0,0)),(0,(0,0)))]:=by rw[dI,if_neg (by omega),if_neg h1,if_pos h2]
     rw[e]at bc;refine⟨⟨by show (_+1)*64≤140737488355328;rw[xn];omega,by show _+1≤9223372036854775807;rw[xn];omega⟩,?_⟩;refine⟨⟨by omega,by omega⟩,i+1,[(0,0),(1,4)],?_,⟨rfl,aj⟩,by dsimp only;omega⟩
     have er:fe (bg p (l.take (i+1)))=fe (bg p (l.take i))++[qy (dH p s.2.1.l,-1,(0,(0,0)),(0,(0,0)))]:=by rw[bc,fe,List.map_append];rfl
     have WD:=er.symm
     (repeat' first|exact trivial|refine⟨?_,?_⟩|exact rfl|assumption)
    ·have h2:¬s.1=2:=df h
     have e:dI p s=[]:=by rw[dI,if_neg (by omega),if_neg h1,if_neg h2]
     rw[e,List.append_nil]at bc;refine⟨⟨by omega,by omega⟩,i+1,[(0,0),(1,1)],?_,⟨rfl,aj⟩,by dsimp only;omega⟩
     have er:fe (bg p (l.take i))=fe (bg p (l.take (i+1))):=by rw[bc]
     (repeat' first|exact trivial|refine⟨?_,?_⟩|exact rfl|assumption)
 ·have aX:i=l.length:=by have:=df h;omega
  rw[aX,List.take_length];intro v H6 aI cZ
  have hR:∀c∈bg p l,Uu c:=fun c hc=>by
   obtain⟨s,hs,h1⟩:=List.mem_flatMap.1 hc;obtain⟨cs,hr⟩:=qO hb hs;exact D7 p hv (hC hr).2 c h1
  obtain⟨a7,n7,c7,rfl,dz⟩:=RL.aC (α:=Cd) cZ (Uv hR);exact hK _ _ _ _ aI.le dz
end Go.Proofs
end
section
namespace Go.Proofs
open Go.Sy
open Tryz
variable {H:Hp} {K:Value→Hp→Prop}
def mO:UInt64:=UInt64.ofNat 2
def cF (p:Prog):gX:=⟨(varsOf p).length,p.length,aR (aG p),[0],List.replicate (varsOf p).length mO,p.map fun b=>bg p b.2.1⟩
theorem D8:Bp (0,0)=2:=by decide
abbrev mP:List Value:=[.int .i64 0,.int .i64 0,.int .i64 0,.slice none 0 0,.slice none 0 0,.slice none 0 0,.slice none 0 0]
abbrev xL:List (List Value):=[[.int .i64 0]]
theorem D9 (i:Nat):aV (List.replicate (i+1) mO)=aV (List.replicate i mO)++[[.int .u64 (2:Nat)]]:=by
 rw[List.replicate_succ',aV,List.map_append];rfl
theorem IA {H:Hp} {css:List (List Value)} {T:List rD} (h:RC (α:=rD) H css T) {a:Option Addr} {n c:Nat} {l:List Cd} (hx:RL H a n c l):RC (α:=rD) H (css++[[.slice none 0 0,.slice none 0 0,.slice a n c]]) (T++[rD.mk l]) :=
 RC.snoc h (show cq.R (α:=rD) H [.slice none 0 0,.slice none 0 0,.slice a n c] (rD.mk l) from ⟨a,n,c,rfl,hx⟩)
theorem z6 {p:Prog} {i:Nat} {b:Block} (h:p[i]?=some b):((cF p).T.map rD.mk).take (i+1)=((cF p).T.map rD.mk).take i++[rD.mk (bg p b.2.1)]:=by
 have e:((cF p).T.map rD.mk)[i]?=some (rD.mk (bg p b.2.1)):=by
  show ((p.map fun b=>bg p b.2.1).map rD.mk)[i]?=_
  rw[List.getElem?_map,List.getElem?_map,h];rfl
 rw[List.take_add_one,e,Option.toList_some]
theorem jq {p:Prog} (h:al p=0):(varsOf p).length≤1000000:=by
 unfold al at h;split at h
 ·cases h
 ·split at h
  ·split at h
   ·cases h
   ·rename_i h1;omega
  ·cases h
theorem M6 {P:Prop} {H:Hp} {v:Value} (h:aW H v 1 xL) (k:∀a n c,v = .slice a n c→RL H a n c [(0:Int)]→P):P:=by
 obtain⟨a,n,c,e,hr⟩:=lY (l:=[0]) h (fun z hz=>by rw[List.mem_singleton]at hz;rw[hz];exact⟨by omega,by omega⟩);exact k a n c e hr
theorem Kf {p:Prog} (hp:p.length≤12) (hl:∀b∈p,b.2.1.length≤1000000) (hc:aw p≤1000000) (hv:iE p<400000) {a:Option Addr} {n c:Nat} (ha:RL H a n c p)
  (fK:al p≠0→∀H',Le H H'→K (.tuple #[.agg mP.toArray,.int .i64 (al p)]) H')
  (hK:al p=0→∀z H',Le H H'→dB H' (cF p) z→K (.tuple #[dG (cF p) z,.int .i64 0]) H'):aq prog 173 [.agg #[.slice a n c]] H K:=by
 have hn:=ha.aB;have eI:=ha.le;refine ab af aa rfl func173 call173 ntmps173 results173 rfl rfl ?_
 refine eL ha hc hv fun H0 yv=>?_
 refine⟨fun h=>?_,fun h=>?_⟩
 ·exact fK (nt h) _ (Le.refl H)
 have he:al p=0:=nf h;have hK:=hK he
 refine kM ha hv fun av nv cv H1 ak yo=>?_
 have uQ:=yo.aB;rw[List.length_map]at uQ
 have N6:nv≤1000000:=by rw[uQ];exact jq he
 refine⟨none,?_⟩
 refine bH (α:=Option Addr×Nat×Nat) ?_ ?_
  (.two 5 6 (.two 6 8 (.one [2,3] [0,1,2,3,4,5,6,7,8,9]) (.two 5 8 (.one [2,3] [0,1,2,3,4,5,8,6,7,9]) (.one [2,3] [0,1,2,3,4,8,5,6,7,9])))
   (.two 5 8 (.one [2,3] [0,1,2,3,4,6,5,7,8,9]) (.two 6 8 (.one [2,3] [0,1,2,3,4,6,8,5,7,9]) (.one [2,3] [0,1,2,3,4,8,6,5,7,9]))))
  (fun q=>⟨[(1,.ptr 0 0),(2,.ptr 1 0),(5,.v (.int .i64 nv)),(6,.ptr 2 0)],
   [(0,.cells 24 [.v (.slice a n c)]),(1,.cells 106 (vL mP)),(2,.cells 106 [.v (.int .i64 3),.v (.int .i64 nv),.v (.int .i64 n),.v (.slice q.1 q.2.1 q.2.2),.own 3,.v (.slice none 0 0),.v (.slice none 0 0)]),(3,.row 3 1 xL)],4⟩)
  (fun q H'=>Le H1 H'∧RL H' q.1 q.2.1 q.2.2 (aR (aG p))) (by kernel_rfl) ⟨⟨?_,?_,?_⟩,?_,?_,?_⟩ ?_
 ·exact⟨af.tt,af.eqs⟩
 ·exact aa
 ·refine cI hp (ha.up ak) fun a2 n2 c2 H2 ah bj=>?_
  refine⟨(a2,n2,c2),[(0,0),(1,1),(2,3),(3,2)],?_,ah,bj⟩
  (repeat' first|exact trivial|refine⟨?_,?_⟩|exact rfl|assumption)
 ·refine cI hp (ha.up ak) fun a2 n2 c2 H2 ah bj=>?_
  refine⟨(a2,n2,c2),[(0,0),(1,1),(2,2),(3,3)],?_,ah,bj⟩
  (repeat' first|exact trivial|refine⟨?_,?_⟩|exact rfl|assumption)
 ·refine cI hp (ha.up ak) fun a2 n2 c2 H2 ah bj=>?_
  refine⟨(a2,n2,c2),[(0,0),(1,1),(2,2),(3,3)],?_,ah,bj⟩
  (repeat' first|exact trivial|refine⟨?_,?_⟩|exact rfl|assumption)
 ·refine cI hp (ha.up ak) fun a2 n2 c2 H2 ah bj=>?_
  refine⟨(a2,n2,c2),[(0,0),(1,1),(2,3),(3,2)],?_,ah,bj⟩
  (repeat' first|exact trivial|refine⟨?_,?_⟩|exact rfl|assumption)
 ·refine cI hp (ha.up ak) fun a2 n2 c2 H2 ah bj=>?_
  refine⟨(a2,n2,c2),[(0,0),(1,1),(2,3),(3,2)],?_,ah,bj⟩
  (repeat' first|exact trivial|refine⟨?_,?_⟩|exact rfl|assumption)
 ·refine cI hp (ha.up ak) fun a2 n2 c2 H2 ah bj=>?_
  refine⟨(a2,n2,c2),[(0,0),(1,1),(2,2),(3,3)],?_,ah,bj⟩
  (repeat' first|exact trivial|refine⟨?_,?_⟩|exact rfl|assumption)
 rintro⟨ae,ne,ce⟩ H2 _ ⟨ah,Uw⟩;dsimp only at Uw
 refine⟨Nat,fun i=>⟨[(1,.ptr 0 0),(2,.ptr 1 0),(6,.ptr 2 0),(26,.v (.int .i64 nv)),(27,.v (.int .i64 i))],
   [(0,.cells 24 [.v (.slice a n c)]),(1,.cells 106 (vL mP)),(2,.cells 106 [.v (.int .i64 3),.v (.int .i64 nv),.v (.int .i64 n),.v (.slice ae ne ce),.own 3,.own 4,.v (.slice none 0 0)]),(3,.row 3 1 xL),(4,.row 126 1 (aV (List.replicate i mO)))],5⟩,
  fun i H'=>H'=H2∧i≤nv,fun i=>nv - i,⟨0,[(0,0),(1,1),(2,2),(3,3)],?_,rfl,Nat.zero_le _⟩,?_⟩
 ·(repeat' first|exact trivial|refine⟨?_,?_⟩|exact rfl|assumption)
 rintro i H3 _ ⟨rfl,hi⟩
 have aX:(aV (List.replicate i mO)).length=i:=by simp
 refine⟨fun h=>?_,fun h=>?_⟩
 ·have aj:i<nv:=by have:=dt h;omega
  refine⟨some ([1000000,2,4,5],[0,1,2,3,4,5,6,7]),by kernel_rfl,?_⟩;refine o2 (a:=(0,0)) ?_;rw[D8];refine⟨⟨by show (_+1)*8≤140737488355328;rw[aX];omega,by show _+1≤9223372036854775807;rw[aX];omega⟩,?_⟩;refine⟨⟨by omega,by omega⟩,i+1,[(0,0),(1,1),(2,2),(3,3),(4,6)],?_,⟨rfl,aj⟩,by dsimp only;omega⟩;have e:=(D9 i).symm
  (repeat' first|exact trivial|refine⟨?_,?_⟩|exact rfl|assumption)
 have Sd:i=nv:=by have:=df h;omega
 rw[Sd]
 refine⟨Nat×List (List Value),fun q=>⟨[(1,.ptr 0 0),(2,.ptr 1 0),(6,.ptr 2 0),(38,.v (.slice a n c)),(39,.v (.int .i64 n)),(40,.v (.int .i64 q.1))],
   [(0,.cells 24 [.v (.slice a n c)]),(1,.cells 106 (vL mP)),(2,.cells 106 [.v (.int .i64 3),.v (.int .i64 nv),.v (.int .i64 n),.v (.slice ae ne ce),.own 3,.own 4,.own 5]),(3,.row 3 1 xL),(4,.row 126 1 (aV (List.replicate nv mO))),(5,.row 143 3 q.2)],6⟩,
  fun q H'=>Le H3 H'∧q.1≤p.length∧RC (α:=rD) H' q.2 (((cF p).T.map rD.mk).take q.1),fun q=>p.length - q.1,⟨(0,[]),[(0,0),(1,1),(2,2),(3,3),(4,4)],?_,Le.refl _,Nat.zero_le _,RC.nil⟩,?_⟩
 ·(repeat' first|exact trivial|refine⟨?_,?_⟩|exact rfl|assumption)
 rintro⟨j,css⟩ H4 _ ⟨aN,hj,bf⟩;dsimp only at hj bf;have hle:Le H H4:=(ak.trans ah).trans aN
 have Ur:((cF p).T.map rD.mk).length=p.length:=by simp [cF]
 have fC:css.length=j:=by have h1:=bf.1;rw[List.length_take]at h1;omega
 refine⟨fun h=>?_,fun h=>?_⟩
 ·have aj:j<p.length:=by have:=dt h;dsimp only at this;omega
  refine aD p[j] fun b gV=>?_
  have bG:p[j]?=some b:=by rw[gV];exact aL aj
  refine bF (ha.up hle) bG fun ad a5 n5 c5 q1 hh ct xw vR=>?_
  refine⟨ad,⟨by dsimp only;omega,by dsimp only;omega,q1⟩,?_⟩;refine⟨_,hh,?_⟩;refine⟨some ([1000000,2,5,7],[0,1,2,3,4,5,6,7,8,9,10]),by kernel_rfl,?_⟩
  refine xK hv (jq he) (hl b (by rw[gV];exact List.getElem_mem aj)) (ha.up hle) ct fun a6 n6 c6 H5 aK ji=>?_
  refine⟨⟨by show (css.length+1)*72≤140737488355328;omega,by show css.length+1≤9223372036854775807;omega⟩,?_⟩
  have b8:RC (α:=rD) H5 (css++[[.slice none 0 0,.slice none 0 0,.slice a6 n6 c6]]) (((cF p).T.map rD.mk).take (j+1)):=by
   rw[z6 bG];exact IA (RC.up bf aK) ji
  refine⟨⟨by omega,by omega⟩,(j+1,css++[[.slice none 0 0,.slice none 0 0,.slice a6 n6 c6]]),[(0,0),(1,1),(2,2),(3,3),(4,4),(5,8)],?_,⟨aN.trans aK,aj,b8⟩,by dsimp only;omega⟩
  (repeat' first|exact trivial|refine⟨?_,?_⟩|exact rfl|assumption)
 ·have eD:j=p.length:=by have:=df h;dsimp only at this;omega
  rw[eD,List.take_of_length_le (by omega)]at bf;intro v1 H5 aK B3
  refine M6 B3 fun na nn nc WE bh=>?_
  subst WE;intro v2 H6 aI xr
  refine bZ (α:=UInt64) xr jJ fun ia ni ic WG bj=>?_
  subst WG;intro v3 H7 cS yl;have M7:=(aK.le.trans aI.le).trans cS.le
  refine bZ (α:=rD) yl (RC.up bf M7) fun ta tn tc Se db=>?_
  subst Se
  have GJ:dB H7 (cF p) ⟨ae,ne,ce,na,nn,nc,ia,ni,ic,ta,tn,tc⟩:=by
   refine⟨Uw.up (aN.trans M7),bh.up (aI.le.trans cS.le),?_,db⟩
   have e:(cF p).vp=List.replicate nv mO:=by rw[uQ];rfl
   rw[e];exact bj.up cS.le
  have hK:=hK ⟨ae,ne,ce,na,nn,nc,ia,ni,ic,ta,tn,tc⟩ H7 (hle.trans M7) GJ;have e1:(cF p).w=nv:=uQ.symm;have e2:(cF p).m=n:=hn.symm;rw[dG,fc,e1,e2]at hK;exact hK
theorem Kg {p:Prog} (hp:p.length≤12) (hl:∀b∈p,b.2.1.length≤1000000) (hv:iE p<400000) {a:Option Addr} {n c:Nat} (ha:RL H a n c p)
  (he:al p=0) (hK:∀z H',Le H H'→dB H' (cF p) z→K (dG (cF p) z) H'):aq prog 82 [.agg #[.slice a n c]] H K:=by
 have hn:=ha.aB;have eI:=ha.le;refine ab af aa rfl func82 call82 ntmps82 results82 rfl rfl ?_
 refine eh ha hv fun av nv cv H1 ak yo=>?_
 have uQ:=yo.aB;rw[List.length_map]at uQ
 have N6:nv≤1000000:=by rw[uQ];exact jq he
 refine⟨none,?_⟩
 refine bH (α:=Option Addr×Nat×Nat) ?_ ?_
  (.two 5 6 (.two 6 8 (.one [2,3] [0,1,2,3,4,5,6,7,8,9]) (.two 5 8 (.one [2,3] [0,1,2,3,4,5,8,6,7,9]) (.one [2,3] [0,1,2,3,4,8,5,6,7,9])))
   (.two 5 8 (.one [2,3] [0,1,2,3,4,6,5,7,8,9]) (.two 6 8 (.one [2,3] [0,1,2,3,4,6,8,5,7,9]) (.one [2,3] [0,1,2,3,4,8,6,5,7,9]))))
  (fun q=>⟨[(1,.ptr 0 0),(2,.ptr 1 0),(3,.v (.int .i64 nv)),(4,.ptr 2 0)],
   [(0,.cells 24 [.v (.slice a n c)]),(1,.cells 106 (vL mP)),(2,.cells 106 [.v (.int .i64 3),.v (.int .i64 nv),.v (.int .i64 n),.v (.slice q.1 q.2.1 q.2.2),.own 3,.v (.slice none 0 0),.v (.slice none 0 0)]),(3,.row 3 1 xL)],4⟩)
  (fun q H'=>Le H1 H'∧RL H' q.1 q.2.1 q.2.2 (aR (aG p))) (by kernel_rfl) ⟨⟨?_,?_,?_⟩,?_,?_,?_⟩ ?_
 ·exact⟨af.tt,af.eqs⟩
 ·exact aa
 ·refine cw hp (ha.up ak) fun a2 n2 c2 H2 ah bj=>?_
  refine⟨(a2,n2,c2),[(0,0),(1,1),(2,3),(3,2)],?_,ah,bj⟩
  (repeat' first|exact trivial|refine⟨?_,?_⟩|exact rfl|assumption)
 ·refine cw hp (ha.up ak) fun a2 n2 c2 H2 ah bj=>?_
  refine⟨(a2,n2,c2),[(0,0),(1,1),(2,2),(3,3)],?_,ah,bj⟩
  (repeat' first|exact trivial|refine⟨?_,?_⟩|exact rfl|assumption)
 ·refine cw hp (ha.up ak) fun a2 n2 c2 H2 ah bj=>?_
  refine⟨(a2,n2,c2),[(0,0),(1,1),(2,2),(3,3)],?_,ah,bj⟩
  (repeat' first|exact trivial|refine⟨?_,?_⟩|exact rfl|assumption)
 ·refine cw hp (ha.up ak) fun a2 n2 c2 H2 ah bj=>?_
  refine⟨(a2,n2,c2),[(0,0),(1,1),(2,3),(3,2)],?_,ah,bj⟩
  (repeat' first|exact trivial|refine⟨?_,?_⟩|exact rfl|assumption)
 ·refine cw hp (ha.up ak) fun a2 n2 c2 H2 ah bj=>?_
  refine⟨(a2,n2,c2),[(0,0),(1,1),(2,3),(3,2)],?_,ah,bj⟩
  (repeat' first|exact trivial|refine⟨?_,?_⟩|exact rfl|assumption)
 ·refine cw hp (ha.up ak) fun a2 n2 c2 H2 ah bj=>?_
  refine⟨(a2,n2,c2),[(0,0),(1,1),(2,2),(3,3)],?_,ah,bj⟩
  (repeat' first|exact trivial|refine⟨?_,?_⟩|exact rfl|assumption)
 rintro⟨ae,ne,ce⟩ H2 _ ⟨ah,Uw⟩;dsimp only at Uw
 refine⟨Nat,fun i=>⟨[(1,.ptr 0 0),(2,.ptr 1 0),(3,.v (.int .i64 nv)),(4,.ptr 2 0),(5,.v (.int .i64 i))],
   [(0,.cells 24 [.v (.slice a n c)]),(1,.cells 106 (vL mP)),(2,.cells 106 [.v (.int .i64 3),.v (.int .i64 nv),.v (.int .i64 n),.v (.slice ae ne ce),.own 3,.own 4,.v (.slice none 0 0)]),(3,.row 3 1 xL),(4,.row 126 1 (aV (List.replicate i mO)))],5⟩,
  fun i H'=>H'=H2∧i≤nv,fun i=>nv - i,⟨0,[(0,0),(1,1),(2,2),(3,3)],?_,rfl,Nat.zero_le _⟩,?_⟩
 ·(repeat' first|exact trivial|refine⟨?_,?_⟩|exact rfl|assumption)
 rintro i H3 _ ⟨rfl,hi⟩
 have aX:(aV (List.replicate i mO)).length=i:=by simp
 refine⟨fun h=>?_,fun h=>?_⟩
 ·have aj:i<nv:=by have:=dt h;omega
  refine⟨some ([1000000,2,4,5],[0,1,2,3,4,5,6,7]),by kernel_rfl,?_⟩;refine jn (a:=(0,0)) ?_;rw[D8];refine⟨⟨by show (_+1)*8≤140737488355328;rw[aX];omega,by show _+1≤9223372036854775807;rw[aX];omega⟩,?_⟩;refine⟨⟨by omega,by omega⟩,i+1,[(0,0),(1,1),(2,2),(3,3),(4,6)],?_,⟨rfl,aj⟩,by dsimp only;omega⟩;have e:=(D9 i).symm
  (repeat' first|exact trivial|refine⟨?_,?_⟩|exact rfl|assumption)
 have Sd:i=nv:=by have:=df h;omega
 rw[Sd]
 refine⟨Nat×List (List Value),fun q=>⟨[(1,.ptr 0 0),(2,.ptr 1 0),(4,.ptr 2 0),(32,.v (.slice a n c)),(33,.v (.int .i64 n)),(34,.v (.int .i64 q.1))],
   [(0,.cells 24 [.v (.slice a n c)]),(1,.cells 106 (vL mP)),(2,.cells 106 [.v (.int .i64 3),.v (.int .i64 nv),.v (.int .i64 n),.v (.slice ae ne ce),.own 3,.own 4,.own 5]),(3,.row 3 1 xL),(4,.row 126 1 (aV (List.replicate nv mO))),(5,.row 143 3 q.2)],6⟩,
  fun q H'=>Le H3 H'∧q.1≤p.length∧RC (α:=rD) H' q.2 (((cF p).T.map rD.mk).take q.1),fun q=>p.length - q.1,⟨(0,[]),[(0,0),(1,1),(2,2),(3,3),(4,4)],?_,Le.refl _,Nat.zero_le _,RC.nil⟩,?_⟩
 ·(repeat' first|exact trivial|refine⟨?_,?_⟩|exact rfl|assumption)
 rintro⟨j,css⟩ H4 _ ⟨aN,hj,bf⟩;dsimp only at hj bf;have hle:Le H H4:=(ak.trans ah).trans aN
 have Ur:((cF p).T.map rD.mk).length=p.length:=by simp [cF]
 have fC:css.length=j:=by have h1:=bf.1;rw[List.length_take]at h1;omega
 refine⟨fun h=>?_,fun h=>?_⟩
 ·have aj:j<p.length:=by have:=dt h;dsimp only at this;omega
  refine aD p[j] fun b gV=>?_
  have bG:p[j]?=some b:=by rw[gV];exact aL aj
  refine bF (ha.up hle) bG fun ad a5 n5 c5 q1 hh ct xw vR=>?_
  refine⟨ad,⟨by dsimp only;omega,by dsimp only;omega,q1⟩,?_⟩;refine⟨_,hh,?_⟩;refine⟨some ([1000000,2,5,7],[0,1,2,3,4,5,6,7,8,9,10]),by kernel_rfl,?_⟩
  refine uP hv (jq he) (hl b (by rw[gV];exact List.getElem_mem aj)) (ha.up hle) ct fun a6 n6 c6 H5 aK ji=>?_
  refine⟨⟨by show (css.length+1)*72≤140737488355328;omega,by show css.length+1≤9223372036854775807;omega⟩,?_⟩
  have b8:RC (α:=rD) H5 (css++[[.slice none 0 0,.slice none 0 0,.slice a6 n6 c6]]) (((cF p).T.map rD.mk).take (j+1)):=by
   rw[z6 bG];exact IA (RC.up bf aK) ji
  refine⟨⟨by omega,by omega⟩,(j+1,css++[[.slice none 0 0,.slice none 0 0,.slice a6 n6 c6]]),[(0,0),(1,1),(2,2),(3,3),(4,4),(5,8)],?_,⟨aN.trans aK,aj,b8⟩,by dsimp only;omega⟩
  (repeat' first|exact trivial|refine⟨?_,?_⟩|exact rfl|assumption)
 ·have eD:j=p.length:=by have:=df h;dsimp only at this;omega
  rw[eD,List.take_of_length_le (by omega)]at bf;intro v1 H5 aK B3
  refine M6 B3 fun na nn nc WE bh=>?_
  subst WE;intro v2 H6 aI xr
  refine bZ (α:=UInt64) xr jJ fun ia ni ic WG bj=>?_
  subst WG;intro v3 H7 cS yl;have M7:=(aK.le.trans aI.le).trans cS.le
  refine bZ (α:=rD) yl (RC.up bf M7) fun ta tn tc Se db=>?_
  subst Se
  have GJ:dB H7 (cF p) ⟨ae,ne,ce,na,nn,nc,ia,ni,ic,ta,tn,tc⟩:=by
   refine⟨Uw.up (aN.trans M7),bh.up (aI.le.trans cS.le),?_,db⟩
   have e:(cF p).vp=List.replicate nv mO:=by rw[uQ];rfl
   rw[e];exact bj.up cS.le
  have hK:=hK ⟨ae,ne,ce,na,nn,nc,ia,ni,ic,ta,tn,tc⟩ H7 (hle.trans M7) GJ;have e1:(cF p).w=nv:=uQ.symm;have e2:(cF p).m=n:=hn.symm;rw[dG,fc,e1,e2]at hK;exact hK
end Go.Proofs
end
section
namespace Go.Proofs
open Go.Sy
theorem Ea (p:Prog) (a:ks):Iw (varsOf p).length (ir p a):=by
 have h1:=eV p a.1.l;unfold ir;split
 ·rename_i h0;exact .inr ⟨h0,by dsimp only;omega,rfl⟩
 ·exact .inl ⟨rfl,vK _,vK _⟩
theorem Eb {x:Expr} (h:fo x=true):0≤x.1∧x.1≤4:=by
 unfold fo at h;split at h
 ·rename_i h1;simp only[vn,Bool.or_eq_true,decide_eq_true_eq]at h1;omega
 ·split at h
  ·rename_i h1;simp only[yy,Bool.or_eq_true,decide_eq_true_eq]at h1;omega
  ·cases h
theorem Kh {p:Prog} {s:Stmt} (h:dc s=true):∀c∈dI p s,R8 (varsOf p).length c:=by
 have h1:=eV p s.2.1.l;intro c hc;unfold dI at hc;split at hc
 ·cases hc
 ·rename_i h0
  have hr:0≤dH p s.2.1.l∧dH p s.2.1.l<((varsOf p).length:Nat):=by omega
  split at hc
  ·rename_i h2;rw[dc,if_pos h2,Bool.and_eq_true]at h;have h3:=Eb h.2;rw[List.mem_singleton]at hc;rw[hc];exact⟨hr.1,hr.2,.inr ⟨h3.1,h3.2,Ea p _,Ea p _⟩⟩
  ·split at hc
   ·rw[List.mem_singleton]at hc;rw[hc];exact⟨hr.1,hr.2,.inl ⟨rfl,rfl,rfl⟩⟩
   ·cases hc
theorem rf {p:Prog} {l:List Stmt} (h:∀s∈l,dc s=true):Pn (varsOf p).length (bg p l):=by
 intro c hc;obtain⟨s,hs,h1⟩:=List.mem_flatMap.1 hc;exact Kh (h s hs) c h1
theorem cj {p:Prog} (h:al p=0):1≤p.length∧p.length≤128∧(varsOf p).length≤64∧∀b∈p,bM b=true:=by
 unfold al at h;split at h
 ·cases h
 ·rename_i h0;split at h
  ·rename_i h1;split at h
   ·cases h
   ·refine⟨by omega,by omega,by omega,fun b hb=>List.all_eq_true.1 h1 b hb⟩
  ·cases h
theorem fP {b:Block} (h:bM b=true):∀s∈b.2.1,dc s=true:=by
 rw[bM,Bool.and_eq_true]at h
 exact fun s hs=>List.all_eq_true.1 h.2 s hs
theorem QH {p:Prog} {i:Nat} {t:aQ}:∀e∈eN p i t,e.1=(i:Int)∧0≤e.2∧e.2<(p.length:Nat):=by
 intro e he;unfold eN at he;have hr:=fG t (lE p) 0 (by omega);rw[List.length_map]at hr;split at he
 ·rename_i h0;simp only[List.mem_cons,List.not_mem_nil,or_false]at he;subst he;exact⟨rfl,h0,by dsimp only;omega⟩
 ·simp at he
theorem Ux {p:Prog} {i:Nat} {b:Block}:∀e∈eB p i b,e.1=(i:Int)∧0≤e.2∧e.2<(p.length:Nat):=by
 intro e he;unfold eB at he
 rcases List.mem_append.1 he with he | he
 ·split at he
  ·exact QH e he
  ·cases he
 ·split at he
  ·exact QH e he
  ·cases he
theorem Bv {p:Prog}:∀(l:List Block) (i:Nat),∀e∈cO p l i,((i:Int)≤e.1∧e.1<((i+l.length:Nat):Int))∧0≤e.2∧e.2<(p.length:Nat)
 | [],_,e,he=>by simp [cO]at he
 | b::r,i,e,he=>by
  rw[cO]at he
  rcases List.mem_append.1 he with he | he
  ·have h:=Ux e he;rw[List.length_cons];exact⟨⟨by omega,by omega⟩,h.2⟩
  ·have h:=Bv r (i+1) e he;rw[List.length_cons];exact⟨⟨by omega,by omega⟩,h.2⟩
theorem Sf:zS (mO).toNat=true:=by decide
theorem po {p:Prog} (h:al p=0):gd (cF p):=by
 have hf:=cj h;refine⟨?_,?_,?_,?_,?_,?_,?_,?_⟩
 ·show (varsOf p).length≤1024;omega
 ·show 1≤p.length∧p.length≤256;omega
 ·show (aR (aG p)).length≤1024;have h1:=dP (aG p);have h2:=fa p p 0;rw[aG]at h1 ⊢;omega
 ·intro e he;have he:e∈aG p:=(bJ _ _).1 he;have h1:=Bv p 0 e he;show (0≤e.1∧e.1<(p.length:Nat))∧0≤e.2∧e.2<(p.length:Nat);omega
 ·intro v hv;have hv:v∈[(0:Int)]:=hv;rw[List.mem_singleton]at hv;rw[hv];show 0≤(0:Int)∧(0:Int)<(p.length:Nat);omega
 ·refine⟨List.length_replicate,fun w hw=>?_⟩;have hw:w∈List.replicate (varsOf p).length mO:=hw;rw[(List.mem_replicate.1 hw).2];exact Sf
 ·exact List.length_map _
 ·intro t ht
  have ht:t∈p.map fun b=>bg p b.2.1:=ht
  obtain⟨b,hb,rfl⟩:=List.mem_map.1 ht;exact rf (fP (hf.2.2.2 b hb))
end Go.Proofs
end
section
namespace Go.Proofs
open Go.Sy
end Go.Proofs
end
section
namespace Go.Proofs
open Go.Sy
open Tryz
variable {H:Hp} {K:Value→Hp→Prop}
theorem z7 {p:Prog} (hp:p.length≤12) (hl:∀b∈p,b.2.1.length≤1000000) (hc:aw p≤1000000) (hv:iE p<400000) {a:Option Addr} {n c:Nat} (ha:RL H a n c p)
  (fK:al p≠0→∀H',Le H H'→K (.tuple #[.slice none 0 0,.slice none 0 0,.int .i64 (al p)]) H')
  (hK:al p=0→∀a1 n1 c1 a2 n2 c2 H',Le H H'→RL H' a1 n1 c1 (cU (cF p))→RL H' a2 n2 c2 (sA (cF p) (cU (cF p)))→K (.tuple #[.slice a1 n1 c1,.slice a2 n2 c2,.int .i64 0]) H'):
  aq prog 112 [.agg #[.slice a n c]] H K:=by
 refine ab af aa rfl func112 call112 ntmps112 results112 rfl rfl ?_;refine Kf hp hl hc hv ha (fun he H1 ak=>?_) (fun he z H1 ak hs=>?_)
 ·refine⟨fun _=>?_,(fun h=>absurd (nf h) he)⟩;exact fK he _ ak
 ·have ho:=po he;refine⟨(fun h=>absurd rfl (nt h)),fun _=>?_⟩
  refine pf ho hs fun a1 n1 c1 k H2 ah bj=>?_
  refine q9 ho (fg ho) (hs.up ah) bj fun a2 n2 c2 H3 az db=>?_
  exact hK he _ _ _ _ _ _ _ ((ak.trans ah).trans az) (bj.up az) db
theorem IB {p:Prog} (hp:p.length≤12) (hl:∀b∈p,b.2.1.length≤1000000) (hc:aw p≤1000000) (hv:iE p<400000) {a:Option Addr} {n c:Nat} {i j:Int} (ha:RL H a n c p)
  (fK:al p≠0→∀H',Le H H'→K (.tuple #[.slice none 0 0,.int .i64 (al p)]) H')
  (Pr:al p=0→(¬(0≤i∧0≤j∧∃b,p[i.toNat]?=some b∧i<(p.length:Nat)∧j≤(b.2.1.length:Nat)))→∀H',Le H H'→K (.tuple #[.slice none 0 0,.int .i64 1]) H')
  (hK:al p=0→∀b,p[i.toNat]?=some b→0≤i→0≤j→j≤(b.2.1.length:Nat)→i<(p.length:Nat)→∀a1 n1 c1 H',Le H H'→RL H' a1 n1 c1 (l9 (bg p (b.2.1.take j.toNat)) (mM (cU (cF p)) i.toNat))→K (.tuple #[.slice a1 n1 c1,.int .i64 0]) H'):
  aq prog 114 [.agg #[.slice a n c],.int .i64 i,.int .i64 j] H K:=by
 have hn:=ha.aB;have eI:=ha.le;refine ab af aa rfl func114 call114 ntmps114 results114 rfl rfl ?_;refine z7 hp hl hc hv ha (fun he H1 ak=>?_) (fun he a1 n1 c1 a2 n2 c2 H1 ak bh bj=>?_)
 ·refine⟨fun _=>?_,(fun h=>absurd (nf h) he)⟩;exact fK he _ ak
 have ho:=po he;have hA:=fg ho;have dd:=bh.aB;rw[hA.len]at dd;have hm:(cF p).m=p.length:=rfl;refine⟨(fun h=>absurd rfl (nt h)),fun _=>?_⟩;refine⟨fun h0=>?f0,fun h0=>?t0⟩
 case t0=>exact Pr he (fun h=>absurd (dt h0) (by omega)) _ ak
 refine⟨fun h1=>?f1,fun h1=>?t1⟩
 case t1=>exact Pr he (fun h=>h.2.2.elim fun b hb=>absurd (dt h1) (by omega)) _ ak
 refine⟨fun h2=>?f2,fun h2=>?t2⟩
 case t2=>exact Pr he (fun h=>absurd (dt h2) (by omega)) _ ak
 have h0:=df h0;have h1:=df h1;have h2:=df h2
 have aj:i.toNat<p.length:=by omega
 refine aD p[i.toNat] fun b gV=>?_
 have bG:p[i.toNat]?=some b:=by rw[gV];exact aL aj
 have ca:=cj he
 refine so (ha.up ak) (by omega) bG fun ad a5 n5 c5 q1 hh ct xw vR=>?_
 have xl:=ct.aB;refine⟨ad,⟨by omega,by omega,q1⟩,?_⟩;refine⟨_,hh,?_⟩;refine⟨fun h3=>?t3,fun h3=>?f3⟩
 case t3 =>
  refine Pr he (fun h=>h.2.2.elim fun b' gr=>?_) _ ak;have hb:=gr.1;rw[bG]at hb;cases hb;exact absurd (dt h3) (by omega)
 have h3:=df h3;have Zt:(cU (cF p))[i.toNat]?=some (mM (cU (cF p)) i.toNat):=eS hA (by rw[hm];exact aj);have Sg:=fO hA (v:=i.toNat) (by rw[hm];exact aj);have ei:((i.toNat:Nat):Int)=i:=Int.toNat_of_nonneg (by omega)
 refine dj bh Zt fun iy a6 n6 c6 q2 gj ji=>?_
 rw[ei]at gj;have E8:=ji.aB;rw[Sg.1]at E8;refine⟨some ([],[0,1,2,3,4,5,6,7,8,9,10,11,12,13,16,17,18,19,14,15,20,21,22,23,24]),by kernel_rfl,?_⟩;refine⟨iy,⟨by omega,by omega,q2⟩,?_⟩;refine⟨_,gj,?_⟩;refine⟨ad,⟨by omega,by omega,q1⟩,?_⟩;refine⟨_,hh,?_⟩
 have NY:j.toNat≤n5:=by omega
 have iK:=ct.cut (l:=0) (k:=j.toNat) (Nat.zero_le _) NY;have oJ:=hl b (by rw[gV];exact List.getElem_mem aj)
 have dK:((b.2.1.take j.toNat).drop 0).length≤1000000:=by rw[List.drop_zero,List.length_take];omega
 refine⟨⟨by omega,by omega,by have:=ct.2.1;omega⟩,?_⟩;refine⟨iy,⟨by omega,by omega,q2⟩,?_⟩;refine⟨_,gj,?_⟩
 refine xK hv (jq he) dK (ha.up ak) iK fun a7 n7 c7 H2 ah dz=>?_
 rw[List.drop_zero]at dz;have ji:=ji.up ah;rw[E8]at ji ⊢
 refine il (po he).w Sg (rf (fun s hs=>fP (ca.2.2.2 b (dY bG)) s (List.mem_of_mem_take hs))) ji dz fun a8 n8 c8 H3 az lj=>?_
 exact hK he b bG (by omega) (by omega) (by omega) (by omega) _ _ _ _ ((ak.trans ah).trans az) lj
theorem Ec {p:Prog} (he:al p=0) (hl:∀b∈p,b.2.1.length≤1000000) (hv:iE p<400000) {a a1:Option Addr} {n c n1 c1:Nat} {i j:Int} (ha:RL H a n c p)
  {x:Wd} (hx:okW (varsOf p).length x) (hr:RL H a1 n1 c1 x) {b:Block} (bG:p[i.toNat]?=some b) (h0:0≤i) (h1:i<(p.length:Nat)) (h2:0≤j) (h3:j≤(b.2.1.length:Nat))
  (hK:∀a1 n1 c1 H',Le H H'→RL H' a1 n1 c1 (l9 (bg p (b.2.1.take j.toNat)) x)→K (.slice a1 n1 c1) H'):
  aq prog 84 [.agg #[.slice a n c],.slice a1 n1 c1,.int .i64 i,.int .i64 j] H K:=by
 have hn:=ha.aB;have eI:=ha.le;have ca:=cj he;refine ab af aa rfl func84 call84 ntmps84 results84 rfl rfl ?_
 refine so ha h0 bG fun ad a5 n5 c5 q1 hh ct xw vR=>?_
 have xl:=ct.aB
 have NY:j.toNat≤n5:=by omega
 have iK:=ct.cut (l:=0) (k:=j.toNat) (Nat.zero_le _) NY;have oJ:=hl b (dY bG)
 have dK:((b.2.1.take j.toNat).drop 0).length≤1000000:=by rw[List.drop_zero,List.length_take];omega
 refine⟨some ([],[0,1,2,3,4,5,6,7,8,11,9,10,12,13]),by kernel_rfl,?_⟩;refine⟨ad,⟨by omega,by omega,q1⟩,?_⟩;refine⟨_,hh,?_⟩;refine⟨⟨by omega,by omega,by have:=ct.2.1;omega⟩,?_⟩
 refine uP hv (jq he) dK ha iK fun a7 n7 c7 H2 ah dz=>?_
 rw[List.drop_zero]at dz
 refine lI (w:=(varsOf p).length) (by omega) hx (rf (fun s hs=>fP (ca.2.2.2 b (dY bG)) s (List.mem_of_mem_take hs))) (hr.up ah) dz fun a8 n8 c8 H3 az lj=>?_
 exact hK _ _ _ _ (ah.trans az) lj
end Go.Proofs
end
