/- Part 'M14' of the proof (It1): lemmas, each with its own conditions in its own statement. -/
import Derived.LoopIn
import Derived.LoopNIn
import Derived.OwnWalkIn
import Derived.RangeFuncBound
import Derived.RangeFuncCalls
import Derived.RangeFuncLeaves
import Derived.RangeFuncNested
import Derived.Shelf.Abstract
import Derived.Shelf.RegionOpen
import Derived.TacticsInMore
import Derived.WalkKit
import Derived.Test.YtheokcjommfopaaGreatDoorM2
import Derived.Test.YtheokcjommfopaaGreatDoorM4
set_option maxRecDepth 20000
set_option maxHeartbeats 4000000
namespace Go.Proofs
open Go.RowKit Go.Shelf
open Tryz
attribute [local go_sem] Oper.semAt_some
theorem TN {w:Nat} (h0:w≠0) (hw:w<18446744073709551616):bits BinOp.and IntKind.u64 (w:Int) ((w:Int) - 1)=((w &&& (w - 1):Nat):Int):=by
 have e1:(w:Int) - 1=((w - 1:Nat):Int):=by omega
 rw[e1,bits_and_u64_nat w _ hw (by omega)]
set_option maxRecDepth 100000 in
set_option maxHeartbeats 4000000 in
theorem OQ (l Bs n₀ b off len cap:Nat) (ws:List UInt64) (hlen:len=ws.length) (FJ:len*8≤1000000) (hb:b<n₀) (YB:0<n₀) (J Jx:List Int→World→Prop)
  (hY:∀pre x W,J pre W→pre.length<(dN ws 0).length→YieldAt Fence.wide 2 prog l #[.int .i64 x] W fun e W' =>
   (e = .returned (.bool true)∧J (pre++[x]) W'∧Below n₀ W W')∨(e = .returned (.bool false)∧Jx (pre++[x]) W'))
  (W:World) (hT:TabAt 0 Lib.deBruijn64tab W) (VY:W.cell? ⟨Bs,0,none⟩=some (.slice (some ⟨b,off,none⟩) len cap)) (hc:∀j,j<len→W.cell? ⟨b,off+j,none⟩=some (.int .u64 ((ws[j]?.getD 0).toNat:Nat))) (h0:J [] W):
  CallsIn Fence.wide 3 prog 223 #[.func (.yield l) #[] #[],.pointer (some ⟨Bs,0,none⟩)] W fun e W'=>(∃v,e = .returned v) ∧
   ((∃ys,ys=dN ws 0∧J ys W')∨(∃pre,pre <+: dN ws 0∧Jx pre W')):=by
 refine callsIn_of_wp func223 rfl trivial ?_ rfl;simp only[ntmps223,List.size_toArray,List.length_cons,List.length_nil,Nat.reduceAdd,Nat.reduceSub,Array.replicate_succ,Array.replicate_zero,List.push_toArray,List.append_toArray,List.nil_append,List.cons_append];gi_wp2
 gi_loopw [7] (fun i wr=>∃(k:Nat) (pre:List Int),k≤len∧i = .int .i64 k∧pre++dN (ws.drop k) k=dN ws 0∧J pre wr∧Below n₀ W wr)
  (fun i _=>len - (intOf i).toNat)
 case atStart=>exact⟨0,[],Nat.zero_le _,rfl,rfl,h0,Below.refl _ _⟩
 case round =>
  obtain⟨k,pre,hk,rfl,oL,U8,yu⟩:=hrel
  by_cases aj:k<len
  ·have YC:wr.cell? ⟨b,off+k,none⟩=some (.int .u64 ((ws[k]?.getD 0).toNat:Nat)):=(yu.cell (p:=⟨b,off+k,none⟩) hb).trans (hc k aj);have Xs:ws[k]?=some (ws[k]'(by omega)):=List.getElem?_eq_getElem (by omega)
   have kX:pre++(kB k (ws[k]?.getD 0).toNat++dN (ws.drop (k+1)) (k+1))=dN ws 0:=by rw[←oL,IX Xs,Xs];rfl
   have TO:(ws[k]?.getD 0).toNat<18446744073709551616:=UInt64.toNat_lt _;generalize (ws[k]?.getD 0).toNat=x0 at YC kX TO;gi_wp2
   gi_loopw [4] (fun v Xt=>∃(x:Nat) (pre:List Int),v = .int .u64 x∧x<18446744073709551616∧pre++(kB k x++dN (ws.drop (k+1)) (k+1))=dN ws 0∧J pre Xt∧Below n₀ W Xt)
    (fun v _=>(intOf v).toNat)
   case atStart=>exact⟨x0,pre,rfl,TO,kX,U8,yu⟩
   case round =>
    obtain⟨x,Rr,rfl,hx,OR,Xu,lv⟩:=hrel
    by_cases zd:x=0
    ·subst zd;gi_wp2
     have YD:kB k 0=[]:=by rw[kB,Fe];rfl
     rw[YD,List.nil_append]at OR;exact⟨⟨k+1,Rr,by omega,by simp,OR,Xu,lv⟩,by simp [intOf];omega⟩
    ·obtain⟨Fz,uu,S1⟩:=Ff zd hx
     have TB:TabAt 0 Lib.deBruijn64tab wr:=fun j hj=>(lv.cell (p:=⟨0,j,none⟩) YB).trans (hT j hj)
     obtain⟨fn,tmps,assign,body,hy,hR⟩:=hY Rr ((k:Int)*64+((Lib.ctz 64 x:Nat):Int)) wr Xu (by
      rw[←OR,kB,Fz];simp)
     gi_wp2_with (refine⟨trivial,?_⟩;gi_at_call 224;refine (callsIn_wide.2 (K3 x hx _ TB)).mono ?_;rintro e w' ⟨rfl,rfl⟩)
     have fE:(Rr++[(k:Int)*64+((Lib.ctz 64 x:Nat):Int)])++(kB k (x &&& (x - 1))++dN (ws.drop (k+1)) (k+1))=dN ws 0:=by
      rw[←OR]
      have e:kB k x=((k:Int)*64+((Lib.ctz 64 x:Nat):Int))::kB k (x &&& (x - 1)):=by
       rw[kB,Fz,List.map_cons,←kB];push_cast;rfl
      rw[e];simp
     refine hR.mono ?_;rintro e W3 (⟨rfl,YE,kJ⟩ | ⟨rfl,VZ⟩)
     ·have U9:=TN zd hx;gi_wp2
      go_roundw
      case rel=>exact⟨_,_,_,_,_,_,_,_,_,_,_,_,_,_,_,⟨x &&& (x - 1),_,rfl,by omega,fE,YE,lv.trans kJ⟩,by rw[decide_eq_true (show k<ws.length by omega)]⟩
      case measure =>
       show (intOf (.int .u64 ((x &&& (x - 1):Nat):Int))).toNat<(intOf (.int .u64 (x:Int))).toNat
       simp only[intOf];omega
     ·gi_wp2;refine bodyPost_ret (results_none rfl _ _ _) rfl ?_;exact⟨⟨_,rfl⟩,.inr ⟨_,⟨_,fE⟩,VZ⟩⟩
  ·obtain rfl:k=len:=by omega
   gi_wp2
   go_end0
   exact⟨⟨_,rfl⟩,.inl ⟨pre,by rw[←oL,hlen,List.drop_length];simp [dN],U8⟩⟩
end Go.Proofs
