/- Part 'M14' of the proof (It1): lemmas, each with its own conditions in its own statement. -/
import Derived.LoopIn
import Derived.LoopNIn
import Derived.OwnWalkIn
import Derived.RangeFuncBound
import Derived.RangeFuncCalls
import Derived.RangeFuncLeaves
import Derived.RangeFuncNested
import Derived.Shelf.Abstract
import Derived.Shelf.RegionOpen
import Derived.TacticsInMore
import Derived.WalkKit
import Derived.Test.YtheokcjommfopaaGreatDoorM2
import Derived.Test.YtheokcjommfopaaGreatDoorM4
namespace Go.Proofs
open Go.RowKit Go.Shelf
attribute [local go_sem] Oper.semAt_some
theorem wnext {w:Nat} (h0:w≠0) (hw:w<18446744073709551616):bits BinOp.and IntKind.u64 (w:Int) ((w:Int) - 1)=((w &&& (w - 1):Nat):Int):=by
 have e1:(w:Int) - 1=((w - 1:Nat):Int):=by omega
 rw[e1,bits_and_u64_nat w _ hw (by omega)]
set_option maxRecDepth 100000 in
set_option maxHeartbeats 4000000 in
theorem all1_in (l Bs n₀ b off len cap:Nat) (ws:List UInt64) (hlen:len=ws.length) (hreach:len*8≤1000000) (hb:b<n₀) (h0n:0<n₀) (J Jx:List Int→World→Prop)
  (hY:∀pre x W,J pre W→pre.length<(allL ws 0).length→YieldAt Fence.wide 2 Tryz.prog l #[.int .i64 x] W fun e W' =>
   (e = .returned (.bool true)∧J (pre++[x]) W'∧Below n₀ W W')∨(e = .returned (.bool false)∧Jx (pre++[x]) W'))
  (W:World) (hT:TabAt 0 Lib.deBruijn64tab W) (hBs:W.cell? ⟨Bs,0,none⟩=some (.slice (some ⟨b,off,none⟩) len cap)) (hc:∀j,j<len→W.cell? ⟨b,off+j,none⟩=some (.int .u64 ((ws[j]?.getD 0).toNat:Nat))) (h0:J [] W):
  CallsIn Fence.wide 3 Tryz.prog 223 #[.func (.yield l) #[] #[],.pointer (some ⟨Bs,0,none⟩)] W fun e W'=>(∃v,e = .returned v) ∧
   ((∃ys,ys=allL ws 0∧J ys W')∨(∃pre,pre <+: allL ws 0∧Jx pre W')):=by
 refine callsIn_of_wp Tryz.func223 rfl trivial ?_ rfl;simp only[Tryz.ntmps223,List.size_toArray,List.length_cons,List.length_nil,Nat.reduceAdd,Nat.reduceSub,Array.replicate_succ,Array.replicate_zero,List.push_toArray,List.append_toArray,List.nil_append,List.cons_append];gi_wp2
 gi_loopw [7] (fun i wr=>∃(k:Nat) (pre:List Int),k≤len∧i = .int .i64 k∧pre++allL (ws.drop k) k=allL ws 0∧J pre wr∧Below n₀ W wr)
  (fun i _=>len - (intOf i).toNat)
 case atStart=>exact⟨0,[],Nat.zero_le _,rfl,rfl,h0,Below.refl _ _⟩
 case round =>
  obtain⟨k,pre,hk,rfl,hpre,hJs,hnx⟩:=hrel
  by_cases hlt:k<len
  ·have hcx:wr.cell? ⟨b,off+k,none⟩=some (.int .u64 ((ws[k]?.getD 0).toNat:Nat)):=(hnx.cell (p:=⟨b,off+k,none⟩) hb).trans (hc k hlt);have hwk:ws[k]?=some (ws[k]'(by omega)):=List.getElem?_eq_getElem (by omega)
   have hin:pre++(wordL k (ws[k]?.getD 0).toNat++allL (ws.drop (k+1)) (k+1))=allL ws 0:=by rw[←hpre,allL_drop hwk,hwk];rfl
   have hwlt:(ws[k]?.getD 0).toNat<18446744073709551616:=UInt64.toNat_lt _;generalize (ws[k]?.getD 0).toNat=x0 at hcx hin hwlt;gi_wp2
   gi_loopw [4] (fun v wr2=>∃(x:Nat) (pre:List Int),v = .int .u64 x∧x<18446744073709551616∧pre++(wordL k x++allL (ws.drop (k+1)) (k+1))=allL ws 0∧J pre wr2∧Below n₀ W wr2)
    (fun v _=>(intOf v).toNat)
   case atStart=>exact⟨x0,pre,rfl,hwlt,hin,hJs,hnx⟩
   case round =>
    obtain⟨x,pre2,rfl,hx,hin2,hJ2,hn2⟩:=hrel
    by_cases hx0:x=0
    ·subst hx0;gi_wp2
     have h00:wordL k 0=[]:=by rw[wordL,bitsN_zero];rfl
     rw[h00,List.nil_append]at hin2;exact⟨⟨k+1,pre2,by omega,by simp,hin2,hJ2,hn2⟩,by simp [intOf];omega⟩
    ·obtain⟨hb1,hb2,hb3⟩:=bitsN_step hx0 hx
     have hT2:TabAt 0 Lib.deBruijn64tab wr:=fun j hj=>(hn2.cell (p:=⟨0,j,none⟩) h0n).trans (hT j hj)
     obtain⟨fn,tmps,assign,body,hy,hR⟩:=hY pre2 ((k:Int)*64+((Lib.ctz 64 x:Nat):Int)) wr hJ2 (by
      rw[←hin2,wordL,hb1];simp)
     gi_wp2_with (refine⟨trivial,?_⟩;gi_at_call 224;refine (callsIn_wide.2 (tz_calls x hx _ hT2)).mono ?_;rintro e w' ⟨rfl,rfl⟩)
     have hnext:(pre2++[(k:Int)*64+((Lib.ctz 64 x:Nat):Int)])++(wordL k (x &&& (x - 1))++allL (ws.drop (k+1)) (k+1))=allL ws 0:=by
      rw[←hin2]
      have e:wordL k x=((k:Int)*64+((Lib.ctz 64 x:Nat):Int))::wordL k (x &&& (x - 1)):=by
       rw[wordL,hb1,List.map_cons,←wordL];push_cast;rfl
      rw[e];simp
     refine hR.mono ?_;rintro e W3 (⟨rfl,hJ3,hk3⟩ | ⟨rfl,hJx3⟩)
     ·have hw1:=wnext hx0 hx;gi_wp2
      go_roundw
      case rel=>exact⟨_,_,_,_,_,_,_,_,_,_,_,_,_,_,_,⟨x &&& (x - 1),_,rfl,by omega,hnext,hJ3,hn2.trans hk3⟩,by rw[decide_eq_true (show k<ws.length by omega)]⟩
      case measure =>
       show (intOf (.int .u64 ((x &&& (x - 1):Nat):Int))).toNat<(intOf (.int .u64 (x:Int))).toNat
       simp only[intOf];omega
     ·gi_wp2;refine bodyPost_ret (results_none rfl _ _ _) rfl ?_;exact⟨⟨_,rfl⟩,.inr ⟨_,⟨_,hnext⟩,hJx3⟩⟩
  ·obtain rfl:k=len:=by omega
   gi_wp2
   go_end0
   exact⟨⟨_,rfl⟩,.inl ⟨pre,by rw[←hpre,hlen,List.drop_length];simp [allL],hJs⟩⟩
end Go.Proofs
