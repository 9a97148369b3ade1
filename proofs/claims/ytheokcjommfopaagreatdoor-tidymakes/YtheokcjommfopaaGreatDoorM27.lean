/- Part 'M27' of the proof (It2, It3): lemmas, each with its own conditions in its own statement. -/
import Derived.Maps.AppendAt
import Derived.RangeFuncBox
import Derived.RangeFuncWrites
import Derived.Test.YtheokcjommfopaaGreatDoorM14
import Derived.Test.YtheokcjommfopaaGreatDoorM15
import Derived.Test.YtheokcjommfopaaGreatDoorM16
import Derived.Test.YtheokcjommfopaaGreatDoorM18
import Derived.Test.YtheokcjommfopaaGreatDoorM9
set_option maxRecDepth 20000
set_option maxHeartbeats 4000000
section
namespace Go.Proofs
open Go.RowKit Go.Shelf Go.Sy
open Tryz
attribute [local go_sem] Oper.semAt_some
set_option maxHeartbeats 1000000 in
theorem RV (a:Option Addr) (len cap:Nat) (w:World):
  CallsIn Fence.wide 3 prog 162 #[.slice a len cap] w fun e w'=>e = .returned (.func (.func 223) #[] #[.pointer (some ⟨w.heap.size,0,none⟩)])∧w'=w.alloc (.cells #[.slice a len cap] 103):=by
 refine callsIn_of_wp func162 rfl trivial ?_ rfl;simp only[ntmps162,List.size_toArray,List.length_cons,List.length_nil,Nat.reduceAdd,Nat.reduceSub,Array.replicate_succ,Array.replicate_zero,List.push_toArray,List.append_toArray,List.nil_append,List.cons_append];gi_wp2
 go_ret
 exact⟨rfl,rfl⟩
set_option maxRecDepth 100000 in
set_option maxHeartbeats 1000000 in
theorem MJ (l Bs:Nat) (J:List Int→World→Prop) (W:World) (VY:∃c k,W.cell? ⟨Bs,0,none⟩=some (.slice c 0 k)) (h0:J [] W):
  CallsIn Fence.wide 3 prog 223 #[.func (.yield l) #[] #[],.pointer (some ⟨Bs,0,none⟩)] W fun e W'=>(∃v,e = .returned v)∧J [] W':=by
 obtain⟨c,k,VY⟩:=VY;refine callsIn_of_wp func223 rfl trivial ?_ rfl;simp only[ntmps223,List.size_toArray,List.length_cons,List.length_nil,Nat.reduceAdd,Nat.reduceSub,Array.replicate_succ,Array.replicate_zero,List.push_toArray,List.append_toArray,List.nil_append,List.cons_append];gi_wp2
 gi_loopw [7] (fun i wr=>i = .int .i64 0∧J [] wr) (fun _ _=>0)
 case atStart=>exact⟨rfl,h0⟩
 case round =>
  obtain⟨rfl,U8⟩:=hrel;gi_wp2
  go_end0
  exact⟨⟨_,rfl⟩,U8⟩
theorem DB {w:World} {e:TypeId} {sz:Nat} {v:Value} {k:Nat} {xs:List Value} {B B':Nat} (h:w.ownsRow B e sz v k xs) (hb:∀g,v.ownBlock=some g→B'≤g):w.ownsRow B' e sz v k xs:=by
 refine⟨h.1,?_⟩
 rcases h.2 with h1 | ⟨g,cap,cur,h1,_,h3⟩
 ·exact .inl h1
 ·exact .inr ⟨g,cap,cur,h1,hb g (by rw[h1];rfl),h3⟩
theorem RW {w:World} {e:TypeId} {sz:Nat} {v:Value} {k:Nat} {xs:List Value} {B:Nat} (h:w.ownsRow B e sz v k xs) {g:Nat} (hg:v.ownBlock=some g):B≤g:=by
 rcases h.2 with ⟨h1,_⟩ | ⟨g',cap,cur,h1,h2,_⟩
 ·rw[h1]at hg;cases hg
 ·rw[h1]at hg;simp only[Value.ownBlock,Option.some.injEq]at hg;omega
theorem uF (l:List Int):(au l).flatten=l.map (Value.int .i64):=by
 induction l with
 | nil=>rfl
 | cons x r ih=>rw[au,List.map_cons,List.flatten_cons,List.map_cons,←ih];rfl
theorem tF {F:Fence} {n:Nat} {w:World} {ops:Array Oper} {rest:List Oper} {o:Oper} {a:Act} {Q:Exit→Act→World→Prop} (Y3:o.guard=none) (s x:Operand)
  (ho:o.op = .call { callee:=.builtin .append,args:=#[s,x],argTypes:=#[102,102] }) (B:Nat) (v:Value) (xs:List Int) (hs:a.eval s=v) (gG:w.ownsRow B 3 1 v xs.length (xs.map (Value.int .i64)))
  (hB:B≤w.heap.size) (ad:Addr) (k:Int) (hx:a.eval x = .slice (some ad) 1 1) (hc:w.cell? ad=some (.int .i64 k)) (hlen:xs.length+1≤10000000)
  (h:∀v' w',w'.ownsRow B 3 1 v' (xs.length+1) ((xs++[k]).map (Value.int .i64))→w.grownBy w' v.ownBlock→w.drawn≤w'.drawn→wpListIn F n prog ops Q rest (a.put o.dst v') w'):
  wpListIn F n prog ops Q (o::rest) a w:=by
 refine wpListIn_plain Y3 fun K hK=>?_
 have Ue:w.ownsRow 0 3 1 v (au xs).length (au xs).flatten:=by
  rw[uF,List.length_map]
  exact DB gG fun _ _=>Nat.zero_le _
 have Uf:AM w (.slice (some ad) 1 1) 1 [[.int .i64 k]]:=?_
 ·obtain⟨v',w',hr,h2,h3,h4,h5,_⟩:=nq (C:=cx) (t:=102) (ty:=o.type) (e:=3) af rfl rfl (z:=.int .i64 0) rfl rfl (by decide) Ue Uf (by rw[List.length_map];show (xs.length+1)*8≤_;omega) (by rw[List.length_map];show xs.length+1≤_;omega);unfold Oper.wpIn;refine⟨by simp [Oper.about,ho,resolve,Target.leads,Sem.run_pure],?_⟩;rw[Oper.semAt_plain F _ _ (by rw[ho];intro c Y4;cases Y4)];have hr:(Builtin.append_ #[102,102] o.type #[v,.slice (some ad) 1 1]).run prog w = .ok v' w':=hr;simp [execOp,ho,resolve,invoke,builtin,hs,hx,hr,Result.andThen];refine hK _ _ (h v' w' ?_ h3 h5)
  have e:(au xs++[[Value.int .i64 k]]).flatten=(xs++[k]).map (Value.int .i64):=by
   rw[List.flatten_append,uF,List.map_append];rfl
  have e2:(au xs++[[Value.int .i64 k]]).length=xs.length+1:=by rw[List.length_append,List.length_map];rfl
  rw[e,e2]at h2
  refine DB h2 fun g hg=>?_
  rcases h4 g hg with h6 | h6
  ·exact RW gG h6
  ·omega
 ·refine⟨fun y hy=>?_,.inr ⟨ad,1,rfl,fun j u hj=>?_⟩⟩
  ·rw[List.mem_singleton]at hy;rw[hy];exact⟨rfl,fun u hu=>by rw[List.mem_singleton]at hu;rw[hu];rfl⟩
  ·have hj:[Value.int .i64 k][j]?=some u:=hj
   cases j with
   | zero =>
    simp only[List.getElem?_cons_zero,Option.some.injEq]at hj;rw[←hj];exact hc
   | succ j=>simp at hj
def QC (w0:World) (B:Nat) (pre:List Int) (W:World):Prop :=
 (∃v,Boxed W B 102 v∧W.ownsRow w0.heap.size 3 1 v pre.length (pre.map (Value.int .i64)))∧fx w0.heap.size w0 W
theorem JS {w0:World} {B b:Nat} (hb:w0.heap.size≤b):Li b (QC w0 B) where
 new:=fun s W o ⟨⟨v,h1,h2⟩,h3⟩=>⟨⟨v,h1.alloc o,h2.alloc o⟩,⟨h3.toBelow.alloc h3.size o,h3.drawn⟩⟩
 put:=fun s W r o o' ⟨⟨v,h1,h2⟩,h3⟩ hr hl ho=>by
  refine⟨⟨v,?_,ownsRow_putObj h2 o' hl ho⟩,⟨h3.toBelow.trans ?_,h3.drawn⟩⟩
  ·refine h1.kept (grownBy_putObj' W r o') (fun e=>?_);simp only[Option.some.injEq]at e;subst e;have:W.heap[B]?=some (.cells #[v] 102):=h1
   rw[this]at hl;cases hl;cases ho
  ·exact⟨rfl,rfl,rfl,by simp,fun k hk=>World.putObj_heap_other (by omega)⟩
end Go.Proofs
end
section
namespace Go.Proofs
open Go.RowKit Go.Shelf Go.Sy
open Tryz
attribute [local go_sem] Oper.semAt_some
def Im (W:World) (a:Option Addr) (len:Nat) (ws:List UInt64) (n₀:Nat):Prop :=
 len=ws.length∧((len=0)∨∃b off,a=some ⟨b,off,none⟩∧b<n₀∧∀j,j<len→W.cell? ⟨b,off+j,none⟩=some (.int .u64 ((ws[j]?.getD 0).toNat:Nat)))
set_option maxRecDepth 100000 in
set_option maxHeartbeats 2000000 in
theorem Pe (a:Option Addr) (len cap:Nat) (ws:List UInt64) (hw:ws.length≤100000) (w:World) (hs:0<w.heap.size) (iY:len≤cap) (hT:TabAt 0 Lib.deBruijn64tab w) (hA:Im w a len ws w.heap.size):
  CallsIn Fence.wide 4 prog 105 #[.slice a len cap] w fun e W'=>∃v,e = .returned v∧W'.ownsRow w.heap.size 3 1 v (dN ws 0).length ((dN ws 0).map (Value.int .i64))∧fx w.heap.size w W':=by
 obtain⟨hlen,hA⟩:=hA;subst hlen;refine callsIn_of_wp_marks func105 rfl trivial ?_ rfl;simp only[ntmps105,List.size_toArray,List.length_cons,List.length_nil,Nat.reduceAdd,Nat.reduceSub,Array.replicate_succ,Array.replicate_zero,List.push_toArray,List.append_toArray,List.nil_append,List.cons_append]
 gi_wp2_with (refine⟨trivial,?_⟩;gi_at_call 162;refine (RV a ws.length cap _).mono ?_;rintro e w' ⟨rfl,rfl⟩)
 have bO:=Boxed.new w 102 (.slice none 0 0);have bN:=Boxed.new (w.alloc (.cells #[.slice none 0 0] 102)) 103 (.slice a ws.length cap);rw[World.size_alloc]at bN
 have yB:fx w.heap.size w ((w.alloc (.cells #[.slice none 0 0] 102)).alloc (.cells #[.slice a ws.length cap] 103)):=⟨((Below.refl _ w).alloc (Nat.le_refl _) _).alloc (by simp) _,Nat.le_refl _⟩
 refine Lj (P:=prog) (n:=4) (gf:=223) (lb:=#[.pointer (some ⟨w.heap.size+1,0,none⟩)]) rfl (enters_of func223 (by kernel_rfl) rfl)
  (encs:=fun x:Int=>#[Value.int .i64 x]) (fun _=>rfl) (S:=fun ys=>ys=dN ws 0) (N:=(dN ws 0).length) (n₀:=w.heap.size) (by simp;omega) ?seq (QC w w.heap.size) (JS (by simp;omega)) ⟨⟨_,bO.alloc _,World.ownsRow_nil _ _ _ _⟩,yB⟩
  (fun x=>{ tmps:=#[.slice a ws.length cap,undef,.slice none 0 0,.pointer (some ⟨w.heap.size,0,none⟩),.int .i64 x,.slice a ws.length cap,.func (.func 223) #[] #[.pointer (some ⟨w.heap.size+1,0,none⟩)],.int .i64 x,undef,undef,undef,undef,undef],defers:=[] }) ?assign ?body ?done
 case seq =>
  intro l J W1 hW h0 hY;have XF:Below w.heap.size w W1:=yB.toBelow.trans (hW.mono (by simp;omega))
  have Y5:TabAt 0 Lib.deBruijn64tab W1:=fun j hj=>(XF.cell (p:=⟨0,j,none⟩) hs).trans (hT j hj)
  have KU:W1.cell? ⟨w.heap.size+1,0,none⟩=some (.slice a ws.length cap):=(hW.cell (p:=⟨w.heap.size+1,0,none⟩) (by simp)).trans bN.cell
  have hd:CallsIn Fence.wide 3 prog 223 #[.func (.yield l) #[] #[],.pointer (some ⟨w.heap.size+1,0,none⟩)] W1 fun e W'=>(∃v,e = .returned v) ∧
   ((∃ys,ys=dN ws 0∧J ys W')∨(∃pre,pre <+: dN ws 0∧False)):=by
   rcases hA with h | ⟨b,off,ha,bG,N5⟩
   ·have qM:ws=[]:=List.eq_nil_of_length_eq_zero h;subst qM
    exact (MJ l (w.heap.size+1) J W1 ⟨a,cap,KU⟩ h0).mono fun e W' ⟨h1,h2⟩=>⟨h1,.inl ⟨_,rfl,h2⟩⟩
   ·subst ha
    exact OQ l (w.heap.size+1) w.heap.size b off ws.length cap ws rfl (by omega) bG hs J (fun _ _=>False)
     (fun pre x W hj hl=>(hY pre x W hj hl).mono fun e W' ⟨h1,h2,h3⟩=>.inl ⟨h1,h2,h3⟩) W1 Y5 KU (fun j hj=>(XF.cell (p:=⟨b,off+j,none⟩) bG).trans (N5 j hj)) h0
  exact hd.mono fun e W' ⟨h1,h2⟩=>⟨h1,h2.elim (fun⟨ys,h3,h4⟩=>⟨ys,h3,h4⟩) (fun⟨_,_,h⟩=>h.elim)⟩
 case assign =>
  intro l x W K hK;gi_wp2;exact hK
 case body =>
  rintro l pre x W ⟨⟨v,hv,gF⟩,hB⟩ aj;have hc:=hv.cell;have xh:=rF ws 0
  gi_wp2_with (gi_at_builtin;refine tF rfl _ _ rfl w.heap.size _ pre rfl (gF.alloc _) (by have:=hB.size;simp;omega) ⟨W.heap.size,0,none⟩ x rfl (Boxed.new W 3 (.int .i64 x)).cell (by omega) ?_;intro v' w1 QD Ug Q9;obtain⟨g',Q3,rfl⟩:=ownsRow_succ QD;obtain⟨B3,xr,bj,kY,uu⟩:=hv.appended (by decide) gF hB.size (Nat.le_refl _) QD Ug;have Lr:=B3.cell;have JT:=B3.frozen)
  exact⟨kY,uu,⟨_,xr,by simpa using bj⟩,⟨hB.toBelow.trans uu,Nat.le_trans hB.drawn Q9⟩⟩
 case done =>
  rintro D ys W hD rfl ⟨⟨v,hv,gF⟩,hB⟩ hK;have hc:=hv.cell;gi_wp2;refine⟨by simp,.inl ⟨_,_,rfl,run_takeDeferred hK,?_⟩⟩;exact⟨_,results_tmp rfl _ _ _,v,rfl,ownsRow_putObj gF _ hK rfl,⟨hB.toBelow.trans (belowK_b (w:=w) (Nat.le_refl _) W D _ _ (by simp at hD;omega) hK rfl rfl),hB.drawn⟩⟩
end Go.Proofs
end
