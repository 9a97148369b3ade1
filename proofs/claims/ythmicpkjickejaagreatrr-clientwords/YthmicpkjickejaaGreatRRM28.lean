/- Part 'M28' of the proof (Pr6, Pr7, Pr8, Pr9, Mg0, Mg1): lemmas, each with its own conditions in its own statement. -/
import Derived.Test.YthmicpkjickejaaGreatRRM12
import Derived.Test.YthmicpkjickejaaGreatRRM22
import Derived.Test.YthmicpkjickejaaGreatRRM27
section
namespace Go.Proofs
open Go.Sy
set_option maxRecDepth 20000
set_option maxHeartbeats 4000000
end Go.Proofs
end
section
namespace Go.Proofs
open Go.Sy
set_option maxRecDepth 20000
set_option maxHeartbeats 4000000
theorem block_kI {P:Prop} {H:Hp} {a:Option Addr} {n c:Nat} {xs:Prog} (h:RL H a n c xs) {j:Int} (h0:0≤j) {x:Block} (hi:xs[j.toNat]?=some x) (k:∀ad a1 n1 c1,a=some ad→ElemH H ad j 8 [.string (bs x.1.l),.slice a1 n1 c1,.int .i64 x.2.2.1,.string (bs x.2.2.2.1.1.l),.int .i64 x.2.2.2.1.2.1,.int .i64 x.2.2.2.1.2.2,.string (bs x.2.2.2.2.1.l),.string (bs x.2.2.2.2.2.l)]→RL H a1 n1 c1 x.2.1→sR x.1→termR x.2.2→P):P :=
 block_k h hi fun ad a1 n1 c1 e he h1 h2 h3=>k ad a1 n1 c1 e (by rwa[Int.toNat_of_nonneg h0]at he) h1 h2 h3
end Go.Proofs
end
section
namespace Go.Proofs
open Go.Sy
set_option maxRecDepth 20000
set_option maxHeartbeats 4000000
end Go.Proofs
end
section
namespace Go.Proofs
open Go.Sy
set_option maxRecDepth 20000
set_option maxHeartbeats 4000000
theorem small_stmts {p:Prog} (h:small4 p):stmtsN p≤1000000:=by
 have h1:∀q:Prog,(∀b∈q,smallB4 b)→stmtsN q≤12*q.length:=by
  intro q
  induction q with
  | nil=>exact fun _=>Nat.le_refl _
  | cons b r ih =>
   intro hq
   have h2:=ih fun b hb=>hq b (List.mem_cons_of_mem _ hb)
   have h3:=(hq b List.mem_cons_self).1.1;simp only[stmtsN,List.map_cons,List.sum_cons,List.length_cons]at h2 ⊢;omega
 have:=h1 p h.2;have:=h.1;omega
theorem small_cnt {p:Prog} (h:small4 p):cnt p<400000:=by
 have h1:∀q:Prog,(∀b∈q,smallB4 b)→cnt q≤37*q.length:=by
  intro q
  induction q with
  | nil=>exact fun _=>Nat.le_refl _
  | cons b r ih =>
   intro hq
   have h2:=ih fun b hb=>hq b (List.mem_cons_of_mem _ hb)
   have h3:=(hq b List.mem_cons_self).1.1;simp only[cnt,List.map_cons,List.sum_cons,List.length_cons]at h2 ⊢;omega
 have:=h1 p h.2;have:=h.1;omega
end Go.Proofs
end
section
namespace Go.Proofs
open Go.Sy
def indeg (q:Prog) (t:Int):Nat:=(gSort (edgesOf q)).countP fun e=>decide (e.2=t)
def toI (q:Prog) (b:Block):Int:=idxS b.2.2.2.2.1.l (nms q) 0
def okP (q:Prog) (a:Nat) (b:Block):Bool:=decide (b.2.2.1=1)&&decide (0<toI q b)&&!decide (toI q b=(a:Int))&&decide (indeg q (toI q b)=1)
def tgt (q:Prog) (a:Nat):Option (Nat×Nat):=match q[a]? with
 | some b=>if okP q a b then some (a,(toI q b).toNat) else none
 | none=>none
def firstP (q:Prog) (i:Nat):Option (Nat×Nat):=(List.range i).findSome? (tgt q)
def pairP (q:Prog):Option (Nat×Nat):=firstP q q.length
def catB (x y:Block):Block:=(x.1,x.2.1++y.2.1,y.2.2)
def joinP (q:Prog) (a t:Nat):Prog:=match q[a]?,q[t]? with
 | some x,some y=>(q.set a (catB x y)).eraseIdx t
 | _,_=>q
inductive Mrg:Prog→Prog→Prop
 | stop {q:Prog} (h:pairP q=none):Mrg q q
 | step {q r:Prog} {a t:Nat} (h:pairP q=some (a,t)) (hr:Mrg (joinP q a t) r):Mrg q r
theorem Mrg.one {q r s:Prog} (h:Mrg q r):Mrg q s→r=s:=by
 induction h with
 | stop h=>intro h2;cases h2 with
  | stop _=>rfl
  | step h3 _=>rw[h]at h3;cases h3
 | step h _ ih=>intro h2;cases h2 with
  | stop h3=>rw[h]at h3;cases h3
  | step h3 h4 =>
   rw[h]at h3;cases h3;exact ih h4
end Go.Proofs
end
section
namespace Go.Proofs
open Go.Sy
set_option maxRecDepth 20000
set_option maxHeartbeats 4000000
end Go.Proofs
end
