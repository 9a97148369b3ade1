/- Part 'M13' of the proof (SyX, SyOk8b, SyDraw, SyDrawB): lemmas, each with its own conditions in its own statement. -/
import Derived.Laws.BytesArg
import Derived.Laws.IdiomStrings
import Derived.Laws.MakeOwn
import Derived.Lib.Builder
import Derived.Lib.UnsafeStr
import Derived.Test.YtheokcjommfopaaGreatDoorM12
set_option maxRecDepth 20000
set_option maxHeartbeats 4000000
section
namespace Go.Sy
open Go.RowKit (Below)
section
variable {C:Cx} {B:Bs} {ρ:bk} {s:St} {H:Hp} {a:Act} {w:World} {P:Program}
theorem j3 (hr:Rel C B ρ s H a w) {lo:Option Operand} {hi mx:Operand} {l h m:Int} (b:Bool) (len cap:Nat) (hl:jA s lo 0=some l) (hh:qG s hi=some h) (hm:qG s mx=some m) (hle:0≤l∧l≤h∧h≤m∧m≤cap):
  (Instr.sliceBounds b len cap (lo.map a.eval) (some (a.eval hi)) (some (a.eval mx))).run P w = .ok (l.toNat,h.toNat,m.toNat) w:=by
 unfold Instr.sliceBounds;obtain⟨k',lQ⟩:=lz hr hh;obtain⟨k2,kY⟩:=lz hr hm
 cases lo with
 | none =>
  simp only[jA,Option.some.injEq]at hl;subst hl;simp [de kY (show 0≤m∧m≤(cap:Nat) by omega),de lQ (show 0≤h∧h≤(m.toNat:Nat) by omega)]
 | some x =>
  simp only[jA]at hl;obtain⟨k,hk⟩:=lz hr hl;simp [de kY (show 0≤m∧m≤(cap:Nat) by omega),de lQ (show 0≤h∧h≤(m.toNat:Nat) by omega),de hk (show 0≤l∧l≤(h.toNat:Nat) by omega)]
theorem lB {e:TypeId} {sz:Nat} {xs:List (List Value)} {k:Nat} (hb:bu ρ w k (.row e sz xs)):(ρ.sl k).2.1=xs.length∧xs.length≤(ρ.sl k).2.2:=by
 rcases fj hb with ⟨h1,rfl⟩ | ⟨cap,cur,h1,h2,h3,eI,h4,h5⟩
 ·rw[h1];exact⟨rfl,Nat.le_refl _⟩
 ·rw[h1];exact⟨rfl,h3⟩
theorem aW.Ty {H:Hp} {v:Value} {a:Option Addr} {m c sz:Nat} {xs:List (List Value)} (h:aW H v sz xs) (hv:v = .slice a m c) {lo n q:Nat} (hn:lo+n≤xs.length) (hq:lo+n≤q) (LN:q≤c):
  aW H (.slice (dR a lo q sz) n (q - lo)) sz ((xs.drop lo).take n):=by
 obtain⟨a',c',e,h1,h2,h3⟩:=h;rw[hv]at e;simp only[Value.slice.injEq]at e;obtain⟨rfl,rfl,rfl⟩:=e
 have hl:((xs.drop lo).take n).length=n:=by simp;omega
 refine⟨_,_,by rw[hl],by rw[hl];omega,fun x hx=>h2 x (List.mem_of_mem_drop (List.mem_of_mem_take hx)),?_⟩
 by_cases fC:q=lo
 ·exact .inl ⟨List.eq_nil_of_length_eq_zero (by rw[hl];omega),by omega⟩
 ·rcases h3 with ⟨h3,h4⟩ | ⟨ad,rfl,hs,cells,T,fr,hH,hc,hx⟩
  ·exact .inl ⟨List.eq_nil_of_length_eq_zero (by rw[h3];simp),by omega⟩
  ·obtain⟨b,o,sp⟩:=ad;simp only at hs;subst hs;refine .inr ⟨⟨b,o+lo*sz,none⟩,by rw[dR,if_neg fC,Option.map_some,Addr.at_],rfl,cells,T,fr,hH,?_,fun i x hi j hj=>?_⟩
   ·have h5:lo*sz+(q - lo)*sz=q*sz:=by rw[←Nat.add_mul];congr 1;omega
    have h6:q*sz≤c*sz:=Nat.mul_le_mul_right _ LN;simp only at hc ⊢;omega
   ·rw[List.getElem?_take]at hi;split at hi
    ·rw[List.getElem?_drop]at hi;have:=hx (lo+i) x hi j hj;rw[Nat.add_mul]at this;simp only at this ⊢;rw[show o+lo*sz+i*sz+j=o+(lo*sz+i*sz)+j by omega];exact this
    ·cases hi
theorem Ox (ht:eH C) {T' T:TypeId} {x:Operand} {k:Nat} (hx:get s x=some (.own k)) {lo hi:Option Operand} {mx:Operand} {K:KK} (h:Oj C s T' k lo hi mx H K):bp C s (.slice T' x lo hi (some mx)) T H K:=by
 unfold Oj at h;split at h
 ·exact h.elim
 ·rename_i hi;split at h
  ·exact h.elim
  ·rename_i e he;have hu:=ep ht he;split at h
   ·exact h.elim
   ·rename_i sz cN;split at h
    ·exact h.elim
    ·rename_i l hl;split at h
     ·exact h.elim
     ·rename_i B2 hh;split at h
      ·exact h.elim
      ·rename_i m hm;split at h
       ·rename_i e' cn xs hk
        have et:=dr h;clear h;obtain⟨hq,hle,h⟩:=et
        obtain rfl:=bE hq
        refine dq fun B ρ o a w ho _ hr=>?_
        have h1:=(ai hr hx).1;rw[ga]at h1;obtain⟨hn,iY⟩:=lB (hr.mem.ok _ _ hk).2.1;have CN:=j3 (P:=C.P) hr true xs.length (ρ.sl k).2.2 hl hh hm (by omega);obtain⟨H',vk,gF,iX⟩:=Fy hr hk;refine⟨_,_,H',ρ,w,?_,h (dR (ρ.sl k).1 l.toNat m.toNat cn) _ H' vk gF (gF.Ty rfl (by omega) (by omega) (by omega)),iX,vk,by rw[SV.lt]⟩;simp only[execOp,ho,Instr.sliceAt,Sem.run_bind,run_underlying hu,Result.andThen_ok,Instr.slice,h1,bk.val,hn,Option.map_some,Sem.run_pure,CN,bW ht cN,ga,dR]
       ·exact h.elim
theorem ok_slice (ht:eH C) {T' T:TypeId} {x:Operand} {k:Nat} (hx:get s x=some (.own k)) {lo hi mx:Option Operand} {K:KK} (h:match mx with
   | some m=>Oj C s T' k lo hi m H K
   | none=>match C.tt T' with
    | some (_,.slice e)=>match cL C e with
     | none=>False
     | some _=>match jA s lo 0 with
      | some 0=>match lk s.bx k with
       | some (.row e' cn xs)=>match jA s hi (xs.length:Int) with
        | none=>False
        | some h=>(0≤h∧h≤xs.length)∧K (.own s.nx) ((s.box k .dead).new (.row e' cn (xs.take h.toNat))) H
       | _=>False
      | _=>False
    | _=>False):bp C s (.slice T' x lo hi mx) T H K:=by
 split at h
 ·exact Ox ht hx h
 ·split at h
  ·rename_i i0 e hT;have hu:=(ht _ _ _ hT).2;split at h
   ·exact h.elim
   ·rename_i sz cN
    ·split at h
     ·rename_i hl;split at h
      ·rename_i e' cn xs hk;split at h
       ·exact h.elim
       ·rename_i B2 hh;obtain⟨hle,h⟩:=h
        refine dq fun B ρ o a w ho _ hr=>?_
        have h1:=(ai hr hx).1;rw[ga]at h1;have hb:=(hr.mem.ok _ _ hk).2.1
        have hn:(ρ.sl k).2.1=xs.length:=by
         rcases hb.1.2 with ⟨h2,h3⟩ | ⟨g,cap,cur,h2,_⟩
         ·simp only[bk.val,Value.slice.injEq]at h2;omega
         ·simp only[bk.val,Value.slice.injEq]at h2;exact h2.2.1
        have hlen:(xs.take B2.toNat).length=B2.toNat:=by rw[List.length_take];omega
        obtain⟨ρ',iX,hg⟩:=hr.CG (e:=e') (sz:=cn) (xs:=xs.take B2.toNat) (w':=w) (v:=((ρ.sl k).1,B2.toNat,(ρ.sl k).2.2)) hk rfl rfl ⟨rfl,Nat.le_refl _⟩ (Nat.le_refl _) (fun _ _ _=>rfl)
         (by
          rw[hlen,kr B2.toNat (fun x hx=>(hb.2.1 x hx).1)];have yk:xs.flatten.length=xs.length*cn:=hb.1.1;refine⟨by rw[List.length_take,yk];exact Nat.min_eq_left (Nat.mul_le_mul_right _ (by omega)),?_⟩
          rcases hb.1.2 with ⟨h2,h3⟩ | ⟨g,cap,cur,h2,h3,h4,h5,h6,h7,h8⟩
          ·simp only[bk.val,Value.slice.injEq]at h2
           have h0:B2.toNat=0:=by omega
           exact .inl ⟨by rw[h2.1,h2.2.2,h0],h0⟩
          ·simp only[bk.val,Value.slice.injEq]at h2;refine .inr ⟨g,cap,cur,by rw[h2.1,h2.2.2],h3,h4,by omega,h6,h7,?_⟩
           rw[←h8,List.take_take,Nat.min_eq_left (Nat.mul_le_mul_right _ (by omega))])
         (fun x hx=>hb.2.1 x (List.mem_of_mem_take hx))
         (fun g hg=>.inl (by
          simp only[br,bk.val]
          cases hs:(ρ.sl k).1 with
          | none=>simp [hs,Value.ownBlock]at hg
          | some ad=>simpa [hs,Value.ownBlock] using hg))
        refine⟨_,_,H,ρ',w,?_,h,iX,Le.refl H,by rw[SV.lt];exact Nat.ble_eq_true_of_le (Nat.le_refl _)⟩
        have iY:xs.length≤(ρ.sl k).2.2:=by
         rcases hb.1.2 with ⟨h2,h3⟩ | ⟨g,cap,cur,h2,h3,h4,h5,h6,h7,h8⟩
         ·omega
         ·simp only[bk.val,Value.slice.injEq]at h2;omega
        have CN:=eu (P:=C.P) hr true xs.length (ρ.sl k).2.2 hl hh (by omega);simp only[execOp,ho,Instr.sliceAt,Sem.run_bind,run_underlying hu,Result.andThen_ok,Instr.slice,h1,bk.val,hn,Option.map_none,Sem.run_pure,CN,bW ht cN,hg]
        have e1:(ρ.sl k).1.map (fun x=>x.add (Int.toNat 0*sz))=(ρ.sl k).1:=by
         cases (ρ.sl k).1<;>simp [Addr.add]
        rw[e1];simp
      ·exact h.elim
     ·exact h.elim
  ·exact h.elim
theorem LP (a:Option Addr) (lo l c sz:Nat) (hc:lo+l<c):dR (dR a lo c sz) l (c - lo) sz=dR a (lo+l) c sz:=by
 unfold dR;rw[if_neg (by omega),if_neg (by omega),if_neg (by omega)]
 cases a with
 | none=>rfl
 | some ad=>simp only[Option.map_some,Addr.add_add,Nat.add_mul]
theorem tl {fb:Prop} (ht:eH C) {T' T:TypeId} {x:Operand} {lo hi mx:Option Operand} {K:KK} (h:oC fb C s T' x lo hi mx fun r=>K r s H):lR C s (.slice T' x lo hi mx) T H K∨fb:=by
 unfold oC at h;split at h
 ·-- a string
  rename_i i0 hT;have hu:=(ht _ _ _ hT).2;split at h
  ·exact .inr h
  ·split at h
   ·rename_i b hx;split at h
    ·exact h.elim
    ·rename_i l hl;split at h
     ·exact h.elim
     ·rename_i B2 hh;obtain⟨hle,h⟩:=h
      refine .inl fun B ρ o a w ho _ hr=>⟨_,?_,h,by rw[SV.lt]⟩
      have h1:=(ai hr hx).1;rw[ga]at h1;have CN:=eu (P:=C.P) hr false b.size b.size hl hh hle;simp only[execOp,ho,Instr.sliceAt,Sem.run_bind,run_underlying hu,Result.andThen_ok,Instr.slice,h1,Option.map_none,Option.isSome_none,Bool.false_eq_true,if_false,Sem.run_pure,CN,ga,Fw]
   ·exact h.elim
 ·-- a slice
  rename_i i0 e hT;have hu:=(ht _ _ _ hT).2;split at h
  ·exact h.elim
  ·rename_i sz cN;split at h
   ·split at h
    ·rename_i ad n c hx;split at h
     ·exact h.elim
     ·rename_i l hl;split at h
      ·exact h.elim
      ·rename_i B2 hh;obtain⟨hle,h⟩:=h
       refine .inl fun B ρ o a w ho _ hr=>⟨_,?_,h,by rw[SV.lt]⟩
       have h1:=(ai hr hx).1;rw[ga]at h1;have CN:=eu (P:=C.P) hr true n c hl hh (by omega);simp only[execOp,ho,Instr.sliceAt,Sem.run_bind,run_underlying hu,Result.andThen_ok,Instr.slice,h1,Option.map_none,Sem.run_pure,CN,bW ht cN,ga,dR]
    ·rename_i k hx;split at h
     ·rename_i e' cn xs hk;split at h
      ·exact h.elim
      ·rename_i l hl;split at h
       ·exact h.elim
       ·rename_i B2 hh
        have et:=dr h;clear h;obtain⟨hq,hle,h⟩:=et
        obtain rfl:=bE hq
        refine .inl fun B ρ o a w ho _ hr=>⟨_,?_,h,?_⟩
        ·have h1:=(ai hr hx).1;rw[ga]at h1;obtain⟨hn,iY⟩:=lB (hr.mem.ok _ _ hk).2.1;have CN:=eu (P:=C.P) hr true xs.length (ρ.sl k).2.2 hl hh (by omega);simp only[execOp,ho,Instr.sliceAt,Sem.run_bind,run_underlying hu,Result.andThen_ok,Instr.slice,h1,bk.val,hn,Option.map_none,Sem.run_pure,CN,bW ht cN,ga,dR,bk.part]
        ·have:=(ai hr hx).2
         simpa only[SV.lt] using this
     ·exact h.elim
    ·rename_i k Ck Qc n hx;split at h
     ·rename_i e' cn xs hk;split at h
      ·exact h.elim
      ·rename_i l hl;split at h
       ·exact h.elim
       ·rename_i B2 hh
        have et:=dr h;clear h;obtain⟨hq,hle,h,h'⟩:=et
        simp only[Bool.and_eq_true]at hq;obtain rfl:=bE hq.1;obtain rfl:=bE hq.2
        by_cases aj:l<B2
        ·refine .inl fun B ρ o a w ho _ hr=>⟨_,?_,h aj,?_⟩
         ·have h1:=(ai hr hx).1;rw[ga,bk.part]at h1;obtain⟨hn,iY⟩:=lB (hr.mem.ok _ _ hk).2.1;have CN:=eu (P:=C.P) hr true n ((ρ.sl k).2.2 - Qc) hl hh (by omega);simp only[execOp,ho,Instr.sliceAt,Sem.run_bind,run_underlying hu,Result.andThen_ok,Instr.slice,h1,Option.map_none,Sem.run_pure,CN,bW ht cN,ga,bk.part];rw[←LP _ _ _ _ _ (by omega)];simp only[dR,Nat.sub_sub]
         ·have:=(ai hr hx).2
          simpa only[SV.lt] using this
        ·have Xm:l=B2:=by omega
         refine .inl fun B ρ o a w ho _ hr=>?_
         have h1:=(ai hr hx).1;rw[ga,bk.part]at h1;obtain⟨hn,iY⟩:=lB (hr.mem.ok _ _ hk).2.1;have CN:=eu (P:=C.P) hr true n ((ρ.sl k).2.2 - Qc) hl hh (by omega);refine⟨_,?_,h' Xm (dR (dR (ρ.sl k).1 Qc (ρ.sl k).2.2 Ck) l.toNat ((ρ.sl k).2.2 - Qc) Ck) ((ρ.sl k).2.2 - Qc - l.toNat),by rw[SV.lt]⟩;simp only[execOp,ho,Instr.sliceAt,Sem.run_bind,run_underlying hu,Result.andThen_ok,Instr.slice,h1,Option.map_none,Sem.run_pure,CN,bW ht cN,ga,Xm,Nat.sub_self];simp only[dR]
     ·exact h.elim
    ·exact h.elim
   ·split at h
    ·exact .inr h
    ·split at h
     ·rename_i ad n c hx;split at h
      ·exact h.elim
      ·rename_i l hl;split at h
       ·exact h.elim
       ·rename_i B2 hh;split at h
        ·exact h.elim
        ·rename_i m hm;obtain⟨hle,h⟩:=h
         refine .inl fun B ρ o a w ho _ hr=>⟨_,?_,h,by rw[SV.lt]⟩
         have h1:=(ai hr hx).1;rw[ga]at h1;have CN:=j3 (P:=C.P) hr true n c hl hh hm (by omega);simp only[execOp,ho,Instr.sliceAt,Sem.run_bind,run_underlying hu,Result.andThen_ok,Instr.slice,h1,Option.map_some,Sem.run_pure,CN,bW ht cN,ga,dR]
     ·rename_i k hx;split at h
      ·rename_i e' cn xs hk;split at h
       ·exact h.elim
       ·rename_i l hl;split at h
        ·exact h.elim
        ·rename_i B2 hh;split at h
         ·exact h.elim
         ·rename_i m hm
          have et:=dr h;clear h;obtain⟨hq,hle,h⟩:=et
          obtain rfl:=bE hq
          refine .inl fun B ρ o a w ho _ hr=>?_
          have h1:=(ai hr hx).1;rw[ga]at h1;obtain⟨hn,iY⟩:=lB (hr.mem.ok _ _ hk).2.1;have CN:=j3 (P:=C.P) hr true xs.length (ρ.sl k).2.2 hl hh hm (by omega);refine⟨_,?_,h (.slice (dR (ρ.sl k).1 l.toNat m.toNat cn) (B2.toNat - l.toNat) (m.toNat - l.toNat)),by rw[SV.lt]⟩;simp only[execOp,ho,Instr.sliceAt,Sem.run_bind,run_underlying hu,Result.andThen_ok,Instr.slice,h1,bk.val,hn,Option.map_some,Sem.run_pure,CN,bW ht cN,ga,dR]
      ·exact h.elim
     ·exact .inr h
 ·exact .inr h
theorem iI {sz:Nat}:∀ {xs:List (List Value)},(∀x∈xs,x.length=sz)→xs.flatten.length=xs.length*sz
 | [],_=>by simp
 | x::r,h=>by
  rw[List.flatten_cons,List.length_append,h x List.mem_cons_self,iI fun y hy=>h y (List.mem_cons_of_mem _ hy),List.length_cons,Nat.add_mul];omega
theorem FB {α:Type} (c Y:List α) (p m:Nat) (h1:p+Y.length≤m) (h2:m≤c.length):(c.take p++Y++c.drop (p+Y.length)).take m=(c.take m).take p++Y++(c.take m).drop (p+Y.length):=by
 have e1:(c.take p++Y).length=p+Y.length:=by simp;omega
 rw[List.take_append,e1,List.take_of_length_le (by rw[e1];exact h1),List.take_take,Nat.min_eq_left (by omega),List.drop_take]
theorem qJ (hr:Rel C B ρ s H a w) {k:Nat} {e:TypeId} {sz:Nat} {xs:List (List Value)} (hk:lk s.bx k=some (.row e sz xs)) {lo:Nat} {ys:List (List Value)}
  (hy:∀y∈ys,y.length=sz∧∀u∈y,u.oneCell'=true) (jZ:lo+ys.length≤xs.length) {base:Option Addr} (hb:ys=[]∨base=some ⟨ρ.b k,lo*sz,none⟩):
  ∃w',(match base with | some a=>storeCells a ys.flatten | none=>pure ()).run P w = .ok () w'∧Rel C B ρ (s.box k (.row e sz (xs.take lo++ys++xs.drop (lo+ys.length)))) H a w':=by
 have tm:=(hr.mem.ok _ _ hk).2.1
 by_cases KP:ys=[]
 ·subst KP
  refine⟨w,by cases base<;>simp [storeCells],?_⟩
  have:xs.take lo++[]++xs.drop (lo+([]:List (List Value)).length)=xs:=by simp
  rw[this]
  exact hr.with (bx:=(k,.row e sz xs)::s.bx) (hr.mem.write hk rfl rfl ⟨rfl,Nat.le_refl _⟩ (Nat.le_refl _) (fun _ _ _=>rfl) rfl tm (fun g hg=>hg))
 ·obtain rfl:=hb.resolve_left KP
  have cN:∀x∈xs,x.length=sz:=fun x hx=>(tm.2.1 x hx).1
  have KQ:=iI fun y hx=>(hy y hx).1
  have Qj:=iI cN;have ns:0<ys.length:=List.length_pos_iff.2 KP
  have Qk:lo*sz+ys.flatten.length≤xs.length*sz:=by rw[KQ,←Nat.add_mul];exact Nat.mul_le_mul_right _ jZ
  rcases fj tm with ⟨_,rfl⟩ | ⟨cap,cur,h1,h2,h3,eI,h4,h5⟩
  ·simp only[List.length_nil]at jZ;omega
  ·have fB:xs.length*sz≤cur.size:=by rw[h4];exact Nat.mul_le_mul_right _ h3
   have bc:=run_storeCells_at P (ρ.b k) (lo*sz) e ys.flatten 0 cur w h2 (by omega) (fun u hu=>by
    obtain⟨y,h6,h7⟩:=List.mem_flatten.1 hu
    exact (hy y h6).2 u h7)
   simp only[Nat.add_zero]at bc;refine⟨_,bc,?_⟩
   have ho:br ρ k (.row e sz xs) (ρ.b k):=by simp only[br,bk.val,h1];rfl
   refine hr.with (bx:=(k,.row e sz (xs.take lo++ys++xs.drop (lo+ys.length)))::s.bx) (np hr.mem hk h2 ho rfl (fun hh=>?_) (fun g hg=>hg))
   have AH:(xs.take lo++ys++xs.drop (lo+ys.length)).length=xs.length:=by simp;omega
   have LQ:(xs.take lo++ys++xs.drop (lo+ys.length)).flatten=xs.flatten.take (lo*sz)++ys.flatten++xs.flatten.drop (lo*sz+ys.flatten.length):=by
    rw[List.flatten_append,List.flatten_append,kr lo cN,tj _ cN,KQ,Nat.add_mul]
   refine⟨?_,fun x hx=>?_,fun g hg=>tm.2.2 g hg⟩
   ·rw[AH];refine⟨by rw[LQ];simp only[List.length_append,List.length_take,List.length_drop];omega,.inr ⟨ρ.b k,cap,_,by rw[bk.val,h1],Nat.zero_le _,hh,h3,eI,?_,?_⟩⟩
    ·simp only[List.size_toArray,List.length_append,List.length_take,List.length_drop,Array.length_toList];omega
    ·rw[LQ,←h5];exact FB _ _ _ _ Qk (by simpa using fB)
   ·rcases List.mem_append.1 hx with hx | hx
    ·rcases List.mem_append.1 hx with hx | hx
     ·exact tm.2.1 x (List.mem_of_mem_take hx)
     ·exact hy x hx
    ·exact tm.2.1 x (List.mem_of_mem_drop hx)
theorem CO (hr:Rel C B ρ s H a w) {x:SV} {K:Nat→TypeId→Nat→List (List Value)→Nat→Nat→Prop} (h:rG s x K):
  ∃k e sz xs lo n,lk s.bx k=some (.row e sz xs)∧K k e sz xs lo n∧∃base c,ga ρ x = .slice base n c∧(lo+n≤xs.length→n=0∨base=some ⟨ρ.b k,lo*sz,none⟩):=by
 unfold rG at h;split at h
 ·rename_i k;split at h
  ·rename_i e sz xs hk;refine⟨k,e,sz,xs,0,xs.length,hk,h,(ρ.sl k).1,(ρ.sl k).2.2,?_,fun _=>?_⟩
   ·rw[ga,bk.val,(lB (hr.mem.ok _ _ hk).2.1).1]
   ·rcases fj (hr.mem.ok _ _ hk).2.1 with ⟨_,rfl⟩ | ⟨cap,cur,h1,_⟩
    ·exact .inl rfl
    ·right;rw[h1];simp
  ·exact h.elim
 ·rename_i k sz lo n;split at h
  ·rename_i e cn xs hk
   have et:=dr h;clear h;obtain⟨hq,h⟩:=et
   obtain rfl:=bE hq;refine⟨k,e,cn,xs,lo,n,hk,h,_,_,by rw[ga,bk.part],fun hn=>?_⟩
   rcases fj (hr.mem.ok _ _ hk).2.1 with ⟨_,rfl⟩ | ⟨cap,cur,h1,_,h3,_⟩
   ·simp only[List.length_nil]at hn;left;omega
   ·by_cases hc:cap=lo
    ·left;omega
    ·right;rw[h1,dR,if_neg hc,Option.map_some,Addr.at_,Nat.zero_add]
  ·exact h.elim
 ·exact h.elim
theorem CP {v:Value} {sz:Nat} {ys:List (List Value)} (h:AM w v sz ys) (w':World):(Builtin.lenOf v).run P w' = .ok ys.length w':=by
 rcases h.2 with ⟨rfl,rfl⟩ | ⟨ad,c,rfl,_⟩<;>rfl
theorem wF {v:Value} {sz:Nat} {ys:List (List Value)} (h:AM w v sz ys) (m:Nat) (hm:m≤ys.length):(Builtin.firstCells sz m v).run P w = .ok ((ys.take m).flatten.toArray) w:=by
 rcases h.2 with ⟨rfl,rfl⟩ | ⟨ad,c,rfl,hc⟩
 ·simp [Builtin.firstCells]
 ·have cN:∀y∈ys,y.length=sz:=fun y hy=>(h.1 y hy).1
  have hl:((ys.take m).flatten).length=m*sz:=by rw[iI fun y hy=>cN y (List.mem_of_mem_take hy),List.length_take,Nat.min_eq_left hm]
  have:=run_loadCells_list (P:=P) w ad (ys.take m).flatten (fun j u hj=>hc j u (by
   rw[kr m cN,List.getElem?_take]at hj;split at hj
   ·exact hj
   ·cases hj))
  rw[hl]at this;simp only[Builtin.firstCells,this]
theorem Oy {fb:Prop} (ht:eH C) {c:Call} {T:TypeId} {K:KK} (hc:c.callee = .builtin .copy) (bA:fb→bp C s (.call c) T H K) (h:match c.args.toList with
    | [x,y]=>match c.argTypes.toList with
     | [t,_]=>match eY C t with
      | none=>fb
      | some e=>match cL C e with
       | none=>fb
       | some sz=>match get s x with
        | none=>fb
        | some x'=>match get s y with
         | none=>fb
         | some y'=>bif Nat.ble 1 sz then (rowOf s H y' sz fun ys=>rG s x' fun k e' cn xs lo n=>bif Nat.beq cn sz then
           (lo+n≤xs.length∧K (.v (.int .i64 ((ys.take n).length:Nat))) (s.box k (.row e' cn (xs.take lo++ys.take n++xs.drop (lo+(ys.take n).length)))) H) else False) else fb
     | _=>fb
    | _=>fb):bp C s (.call c) T H K:=by
 split at h
 ·rename_i x y hx
  have ha:c.args=#[x,y]:=by apply Array.ext';simpa using hx
  split at h
  ·rename_i t t' Jb
   have sZ:c.argTypes=#[t,t']:=by apply Array.ext';simpa using Jb
   split at h
   ·exact bA h
   ·rename_i e he;split at h
    ·exact bA h
    ·rename_i sz cN;split at h
     ·exact bA h
     ·rename_i x' mj;split at h
      ·exact bA h
      ·rename_i y' E4
       cases hz:Nat.ble 1 sz with
       | false=>rw[hz]at h;exact bA h
       | true =>
        rw[hz,cond_true]at h;have wA:=dp hz
        refine dq fun B ρ o a w ho _ hr=>?_
        obtain⟨ys,h1,hn⟩:=jh hr wA h;clear h;obtain⟨e1,l1⟩:=ai hr mj;obtain⟨e2,l2⟩:=ai hr E4;obtain⟨k,e',cn,xs,lo,n,hk,h2,base,cp,hv,cP⟩:=CO hr h1
        have et:=dr h2;clear h1 h2;obtain⟨hq,jZ,h⟩:=et
        obtain rfl:=bE hq
        have hm:(ys.take n).length=min ys.length n:=by rw[List.length_take,Nat.min_comm]
        obtain⟨w',hw,iX⟩:=qJ (P:=C.P) hr hk (lo:=lo) (ys:=ys.take n) (base:=base) (fun y hy=>hn.1 y (List.mem_of_mem_take hy)) (by omega) (by
         rcases cP jZ with h0 | h0
         ·left;subst h0;simp
         ·exact .inr h0)
        refine⟨_,_,H,ρ,w',?_,h,iX,Le.refl H,by rw[SV.lt]⟩;rw[ba ho hc,ha,sZ];have Ra:Nat.min ys.length n=(ys.take n).length:=hm.symm;have hf:=wF (P:=C.P) hn (ys.take n).length (by omega)
        have e3:ys.take (ys.take n).length=ys.take n:=by rw[List.length_take];exact List.take_eq_take_iff.2 (by omega)
        rw[e3]at hf;simp only[builtin,List.map_toArray,List.map_cons,List.map_nil,e1,e2,hv];have hu:=ep ht he;have hlen:=CP (P:=C.P) hn w;have Rb:=bW ht cN w
        obtain⟨m,U4⟩:∃m,m=(ys.take n).length:=⟨_,rfl⟩
        rw[←U4]at hf Ra ⊢
        cases base with
        | none =>
         simp at hw;subst hw;simp [Builtin.copy_,run_underlying hu,hlen,Rb,hf,Ra,ga,goInt]
        | some ad =>
         simp at hw;simp [Builtin.copy_,run_underlying hu,hlen,Rb,hf,Ra,hw,ga,goInt]
  ·exact bA h
 ·exact bA h
theorem wG (ht:eH C) {e:TypeId} {z:Nat×List Value} (h:pM C e=some z):∃i v,C.P.info? e=some i∧i.zero=some v∧v.cells.toList=z.2∧i.size=z.2.length∧1≤i.size∧i.bytes=z.1∧∀u∈z.2,u.oneCell'=true:=by
 unfold pM at h;split at h
 ·cases h
 ·rename_i i hi;split at h
  ·cases h
  ·rename_i cs fB;split at h
   ·cases h
   ·rename_i zl CF
    cases hq:(Nat.ble 1 i.1.size&&Nat.beq zl.length i.1.size) with
    | false=>rw[hq]at h;cases h
    | true =>
     rw[hq]at h;cases h;simp only[Bool.and_eq_true]at hq;have hv:=gE (ρ:=⟨fun _=>0,fun _=>(none,0,0)⟩) CF;unfold zeroCells at fB;rw[hi]at fB;simp only at fB;split at fB
     ·rename_i v Yj;cases fB;refine⟨i.1,v,AN ht hi,Yj,?_,(bE hq.2).symm,dp hq.1,rfl,hv.2⟩;have:=kF (ρ:=⟨fun _=>0,fun _=>(none,0,0)⟩) (.v v);rw[ga]at this;rw[this,hv.1]
     ·cases fB
theorem CQ (z:List Value):∀n,(List.replicate n z).flatten=(madeCells z.toArray (n*z.length)).toList:=by
 intro n;apply List.ext_getElem?;intro j
 by_cases hj:j<n*z.length
 ·have hz:0<z.length:=by
   rcases Nat.eq_zero_or_pos z.length with h | h
   ·rw[h]at hj;omega
   ·exact h
  have h1:j / z.length<n:=Nat.div_lt_of_lt_mul (by rw[Nat.mul_comm];exact hj);have h2:=gD (sz:=z.length) (xs:=List.replicate n z) (i:=j / z.length) (cs:=z) (fun x hx=>by rw[(List.mem_replicate.1 hx).2]) (by rw[List.getElem?_replicate,if_pos h1]) (j % z.length) (Nat.mod_lt _ hz);rw[Nat.mul_comm,Nat.div_add_mod]at h2;rw[h2];have hm:j % z.length<z.length:=Nat.mod_lt _ hz;simp [madeCells,hj,hm]
 ·have hl:((List.replicate n z).flatten).length=n*z.length:=by simp
  rw[List.getElem?_eq_none (by omega),List.getElem?_eq_none (by simp [madeCells];omega)]
theorem Oz {fb:Prop} (ht:eH C) {T' T:TypeId} {l c:Operand} {K:KK} (bA:fb→bp C s (.makeSlice T' l c) T H K) (h:match eY C T' with
  | none=>fb
  | some e=>match pM C e with
   | none=>fb
   | some (zb,zl)=>match qG s l with
    | none=>fb
    | some n=>match qG s c with
     | none=>fb
     | some m=>(m=n∧0≤n∧n*zb≤140737488355328∧n≤9223372036854775807)∧K (.own s.nx) (s.new (.row e zl.length (List.replicate n.toNat zl))) H):bp C s (.makeSlice T' l c) T H K:=by
 split at h
 ·exact bA h
 ·rename_i e he;split at h
  ·exact bA h
  ·rename_i zb zl hz;split at h
   ·exact bA h
   ·rename_i n hn;split at h
    ·exact bA h
    ·rename_i m hm;obtain⟨⟨rfl,h0,CM,vl⟩,h⟩:=h
     refine dq fun B ρ o a w ho _ hr=>?_
     obtain⟨i,v,i1,i2,i3,i4,i5,i6,i7⟩:=wG ht hz;simp only at i3 i4 i6 i7;obtain⟨kl,e8⟩:=lz hr hn;obtain⟨kc,Yk⟩:=lz hr hm;have fA:=run_make (P:=C.P) w T' e i v (ep ht he) i1 i2 kl kc m m h0 (by omega) (by rw[i6,Int.mul_comm];omega) (by omega)
     have Tz:v.cells=zl.toArray:=by rw[←i3]
     rw[Tz,i4]at fA
     have yk:=CQ zl m.toNat
     obtain⟨ρ',iX,hg⟩:=hr.yW (e:=e) (sz:=zl.length) (xs:=List.replicate m.toNat zl) (w':=w.alloc (.cells (madeCells zl.toArray (m.toNat*zl.length)) e)) (v:=(some ⟨w.heap.size,0,none⟩,m.toNat,m.toNat)) rfl rfl ⟨rfl,Nat.le_refl _⟩ (by simp) (fun g hg=>heap_alloc_old w _ g hg)
      (by
       rw[List.length_replicate,yk];refine⟨by simp [madeCells],.inr ⟨w.heap.size,m.toNat,_,rfl,Nat.zero_le _,heap_alloc_new w _,Nat.le_refl _,?_,by simp [madeCells],by rw[List.take_of_length_le (by simp [madeCells])]⟩⟩;simp only[maxLen]
       omega)
      (fun x hx=>by rw[(List.mem_replicate.1 hx).2];exact⟨rfl,i7⟩)
      (fun g hg=>by simp only[Value.ownBlock,Option.some.injEq]at hg;omega)
     refine⟨_,_,H,ρ',_,?_,h,iX,Le.refl H,by rw[SV.lt];exact Nat.ble_eq_true_of_le (Nat.le_refl _)⟩;simp only[execOp,ho,e8,Yk,Sem.run_bind,fA,hg]
     rfl
theorem LR {fb:Prop} (ht:eH C) {c:Call} {T:TypeId} {K:KK} (hc:c.callee = .builtin .clear) (bA:fb→bp C s (.call c) T H K) (h:match c.args.toList with
    | [x]=>match c.argTypes.toList with
     | [t]=>match eY C t with
      | none=>fb
      | some e=>match pM C e with
       | none=>fb
       | some (_,zl)=>match get s x with
        | none=>fb
        | some x'=>rG s x' fun k e' cn xs lo n=>bif Nat.beq cn zl.length then
          (lo+n≤xs.length∧K (.v (.tuple #[])) (s.box k (.row e' cn (xs.take lo++List.replicate n zl++xs.drop (lo+n)))) H) else False
     | _=>fb
    | _=>fb):bp C s (.call c) T H K:=by
 split at h
 ·rename_i x hx
  have ha:c.args=#[x]:=by apply Array.ext';simpa using hx
  split at h
  ·rename_i t Jb
   have sZ:c.argTypes=#[t]:=by apply Array.ext';simpa using Jb
   split at h
   ·exact bA h
   ·rename_i e he;split at h
    ·exact bA h
    ·rename_i zb zl hz;split at h
     ·exact bA h
     ·rename_i x' mj
      refine dq fun B ρ o a w ho _ hr=>?_
      obtain⟨e1,l1⟩:=ai hr mj;obtain⟨k,e',cn,xs,lo,n,hk,h2,base,cp,hv,cP⟩:=CO hr h
      have et:=dr h2;clear h h2;obtain⟨hq,jZ,h⟩:=et
      have hq:=bE hq;subst hq;obtain⟨i,v,i1,i2,i3,i4,i5,i6,i7⟩:=wG ht hz;simp only at i3 i4 i6 i7
      have Tz:v.cells=zl.toArray:=by rw[←i3]
      obtain⟨w',hw,iX⟩:=qJ (P:=C.P) hr hk (lo:=lo) (ys:=List.replicate n zl) (base:=base) (fun y hy=>by rw[(List.mem_replicate.1 hy).2];exact⟨rfl,i7⟩) (by simpa using jZ) (by
       rcases cP jZ with h0 | h0
       ·left;subst h0;rfl
       ·exact .inr h0)
      rw[List.length_replicate]at iX;refine⟨_,_,H,ρ,w',?_,h,iX,Le.refl H,by rw[SV.lt]⟩;rw[ba ho hc,ha,sZ];simp only[builtin,List.map_toArray,List.map_cons,List.map_nil,e1,hv];have hu:=ep ht he;rw[CQ]at hw
      have Yl:Builtin.zeroCells v.cells n=madeCells zl.toArray (n*zl.length):=by rw[Tz];rfl
      cases base with
      | none =>
       simp at hw;subst hw;simp [Builtin.clear_,run_underlying hu,ga]
      | some ad =>
       simp only at hw
       by_cases SY:n=0
       ·subst SY
        have:w'=w:=by
         have h9:(madeCells zl.toArray (0*zl.length)).toList=[]:=by simp [madeCells]
         rw[h9]at hw;simp [storeCells]at hw;exact hw.symm
        subst this;simp [Builtin.clear_,run_underlying hu,ga]
       ·obtain⟨m,rfl⟩:∃m,n=m+1:=⟨n - 1,by omega⟩
        simp [Builtin.clear_,run_underlying hu,zeroValue,typeInfo,i1,i2,Yl,hw,ga]
  ·exact bA h
 ·exact bA h
theorem Rc {fb:Prop} (ht:eH C) {c:Call} {T:TypeId} {K:KK} (hc:c.callee = .builtin .cap) (bA:fb→bp C s (.call c) T H K) (h:match c.args.toList with
    | [x]=>match c.argTypes.toList with
     | [t]=>match eY C t with
      | none=>fb
      | some _=>match get s x with
       | some (.own k)=>match lk s.bx k with
        | some (.row _ _ xs)=>∀m:Nat,xs.length≤m→m≤9223372036854775807→K (.v (.int .i64 m)) s H
        | _=>False
       | some (.v (.slice _ _ m))=>K (.v (.int .i64 m)) s H
       | _=>fb
     | _=>fb
    | _=>fb):bp C s (.call c) T H K:=by
 split at h
 ·rename_i x hx
  have ha:c.args=#[x]:=by apply Array.ext';simpa using hx
  split at h
  ·rename_i t Jb
   have sZ:c.argTypes=#[t]:=by apply Array.ext';simpa using Jb
   split at h
   ·exact bA h
   ·rename_i e he;have hu:=ep ht he;split at h
    ·rename_i k hg;split at h
     ·rename_i e' sz xs hk
      refine bd fun B ρ o a w ho _ hr=>?_
      have h1:=(ai hr hg).1;rw[ga,bk.val]at h1;have tm:=(hr.mem.ok _ _ hk).2.1
      have eI:(ρ.sl k).2.2≤9223372036854775807:=by
       rcases fj tm with ⟨h2,rfl⟩ | ⟨cap,cur,h2,h3,h4,eI,_⟩
       ·rw[h2];exact Nat.zero_le _
       ·rw[h2];simpa [maxLen] using eI
      refine⟨_,?_,h (ρ.sl k).2.2 (lB tm).2 eI,by rw[SV.lt]⟩;rw[ba ho hc,ha,sZ];simp [builtin,Builtin.cap_,h1,run_underlying hu,ga,goInt]
     ·exact h.elim
    ·rename_i ad n m hg
     refine bd fun B ρ o a w ho _ hr=>⟨_,?_,h,by rw[SV.lt]⟩
     have h1:=(ai hr hg).1;rw[ga]at h1;rw[ba ho hc,ha,sZ];simp [builtin,Builtin.cap_,h1,run_underlying hu,ga,goInt]
    ·exact bA h
  ·exact bA h
 ·exact bA h
theorem iJ:∀(b:List UInt8),(cC b).flatten=b.map fun c=>Value.int .u8 c.toNat
 | []=>rfl
 | c::r=>by
  have:=iJ r;simp only[cC,List.map_cons,List.flatten_cons]at this ⊢
  rw[this];rfl
theorem jv (b:List UInt8):(cC b).length=b.length:=by simp [cC]
theorem qq (b:List UInt8):∀x∈cC b,x.length=1∧∀u∈x,u.oneCell'=true:=by
 intro x hx;simp only[cC,List.mem_map]at hx;obtain⟨c,_,rfl⟩:=hx;refine⟨rfl,fun u hu=>?_⟩;simp only[List.mem_singleton]at hu;subst hu
 rfl
theorem CR (s:ByteArray):Lib.strCells s=(cC (sl s)).flatten:=by rw[iJ];rfl
theorem CS (ht:eH C) (hr:Rel C B ρ s H a w) {t ty e:TypeId} (he:eY C t=some e) {sz:Nat} (cN:cL C e=some sz) {k:Nat} {e':TypeId} {xs:List (List Value)} (hk:lk s.bx k=some (.row e' sz xs)) {lo n:Nat}
  {y:Value} {ys:List (List Value)} (hn:AM w y sz ys) (jZ:lo+n+ys.length≤xs.length):
  ∃w',(Builtin.append_ #[t,t] ty #[ρ.part k sz lo n,y]).run C.P w = .ok (ρ.part k sz lo (n+ys.length)) w'∧Rel C B ρ (s.box k (.row e' sz (xs.take (lo+n)++ys++xs.drop (lo+n+ys.length)))) H a w':=by
 have tm:=(hr.mem.ok _ _ hk).2.1;obtain⟨LS,vi⟩:=lB tm;have hu:=ep ht he;have Rb:=bW ht cN w;have hlen:=CP (P:=C.P) hn w;have hf:=wF (P:=C.P) hn ys.length (Nat.le_refl _);rw[List.take_of_length_le (Nat.le_refl _)]at hf
 have iH:n+ys.length≤(ρ.sl k).2.2 - lo:=by omega
 obtain⟨base,hb⟩:∃base,base=dR (ρ.sl k).1 lo (ρ.sl k).2.2 sz:=⟨_,rfl⟩
 have cP:ys=[]∨base.map (·.add (n*sz))=some ⟨ρ.b k,(lo+n)*sz,none⟩:=by
  rcases fj tm with ⟨_,rfl⟩ | ⟨cap,cur,h1,h2,h3,eI,h4,h5⟩
  ·left
   simp only[List.length_nil]at jZ;exact List.eq_nil_of_length_eq_zero (by omega)
  ·by_cases KP:ys=[]
   ·exact .inl KP
   ·right
    have:0<ys.length:=List.length_pos_iff.2 KP;rw[h1]at iH;simp only at iH;rw[hb,h1,dR,if_neg (by simp only;omega),Option.map_some,Option.map_some,Addr.add_add,Addr.at_,Nat.add_mul,Nat.zero_add]
 obtain⟨w',hw,iX⟩:=qJ (P:=C.P) hr hk (lo:=lo+n) (ys:=ys) (base:=base.map (·.add (n*sz))) hn.1 jZ cP;refine⟨w',?_,iX⟩
 have hz:∀w:World,((match (#[t,t]:Array TypeId)[1]? with
  | some xType=>do pure ((←underlying xType) matches .int _)
  | none=>pure false:Sem Bool)).run C.P w = .ok false w:=fun w=>by
  simp [run_underlying hu]
 cases base with
 | none =>
  simp at hw;subst hw;simp [Builtin.append_,run_underlying hu,bk.part,←hb,Rb,hlen,hf,iH]
 | some ad =>
  simp at hw;simp [Builtin.append_,run_underlying hu,bk.part,←hb,Rb,hlen,hf,iH,hw]
theorem qi {P:Program} (w:World) (t t' ty e:TypeId) (i:TypeInfo) (ht:P.underlying t=some (.slice e)) (hu:P.underlying t'=some .string) (hi:P.info? e=some i) (b:ByteArray) (hb:b.size=0):
  (Builtin.append_ #[t,t'] ty #[.slice none 0 0,.string b]).run P w = .ok (.slice none 0 0) w:=by
 have hf:=Lib.run_firstCells_string (P:=P) w i.size b;rw[hb]at hf;simp [Builtin.append_,run_underlying ht,run_underlying hu,sizeOf,typeInfo,hi,Builtin.lenOf,hb,hf]
theorem wH {t t' ty e:TypeId} {i:TypeInfo} (hu:C.P.underlying t=some (.slice e)) (FC:C.P.underlying t'=some .string) (hi:C.P.info? e=some i) (hz:i.zero=some (.int .u8 0)) (rP:i.size=1) (Fz:i.bytes=1)
  {v:Value} {xs:List (List Value)} (gG:w.ownsRow 0 e 1 v xs.length xs.flatten) (b:ByteArray) (hlen:xs.length+(sl b).length≤140737488355328):
  ∃v' w',(Builtin.append_ #[t,t'] ty #[v,.string b]).run C.P w = .ok v' w'∧w'.ownsRow 0 e 1 v' (xs++cC (sl b)).length (xs++cC (sl b)).flatten∧w.grownBy w' v.ownBlock∧(∀g,v'.ownBlock=some g→v.ownBlock=some g∨w.heap.size≤g)∧w.drawn≤w'.drawn∧∃a l c,v' = .slice a l c:=by
 have hbs:b.size=(sl b).length:=rfl
 have yk:(xs++cC (sl b)).flatten=xs.flatten++Lib.strCells b:=by rw[List.flatten_append,CR]
 have B1:(xs++cC (sl b)).length=xs.length+b.size:=by rw[List.length_append,jv];rfl
 rw[yk,B1]
 have hm:xs.length+b.size≤maxLen:=by simp only[maxLen];omega
 rcases gG.2 with ⟨rfl,h0⟩ | ⟨g,cap,cur,rfl,LC,hg,Yi,Q8,fB,yV⟩
 ·have hx:xs=[]:=List.eq_nil_of_length_eq_zero h0;subst hx;obtain⟨v',w',hr,ho,hg,_⟩:=Lib.run_append_own_string (P:=C.P) w w.heap.size t t' ty e i hu FC hi hz rP Fz (.slice none 0 0) 0 [] (World.ownsRow_nil _ _ _ _) b (by simpa using hm) (by simp only[List.length_nil]at hlen;omega) (Nat.le_refl _);refine⟨v',w',hr,?_,hg,fun g iW=>.inr (ho.lt g iW).1,?_,?_⟩
  ·refine⟨by simpa using ho.1,?_⟩
   rcases ho.2 with h | ⟨g,cap,cur,a1,a2,a3,a4,a5,a6,a7⟩
   ·exact .inl (by simpa using h)
   ·exact .inr ⟨g,cap,cur,by simpa using a1,Nat.zero_le _,a3,by simpa using a4,a5,a6,by simpa using a7⟩
  ·by_cases VJ:b.size=0
   ·have h2:=qi (P:=C.P) w t t' ty e i hu FC hi b VJ;rw[h2]at hr;simp only[Result.ok.injEq]at hr;rw[←hr.2];exact Nat.le_refl _
   ·have h2:=run_append_nil_string (P:=C.P) w t t' ty e i (.int .u8 0) hu FC hi hz b (by omega) (by omega) (by rw[Fz];simp only[List.length_nil]at hlen;omega);rw[hr]at h2;simp only[Result.ok.injEq]at h2;rw[h2.2];exact Nat.le_succ _
  ·rcases ho.2 with ⟨h1,_⟩ | ⟨g,cap,cur,h1,_⟩<;>exact⟨_,_,_,h1⟩
 ·obtain⟨v',w',hr,ho,LM,_⟩:=Lib.run_append_own_string (P:=C.P) w 0 t t' ty e i hu FC hi hz rP Fz _ xs.length xs.flatten gG b hm (by omega) (Nat.zero_le _)
  have Q9:w.drawn≤w'.drawn:=by
   by_cases iH:xs.length+b.size≤cap
   ·have h2:=Lib.run_append_room_string (P:=C.P) w t t' ty e i hu FC hi rP g xs.length cap cur hg b iH (by rw[fB];omega);rw[hr]at h2;simp only[Result.ok.injEq]at h2;rw[h2.2];exact Nat.le_refl _
   ·have h2:=Lib.run_append_grow_string (P:=C.P) w t t' ty e i (.int .u8 0) hu FC hi hz ⟨g,0,none⟩ xs.length cap xs.flatten (by rw[rP];exact gG.1) (gG.cells (g:=g) rfl) b (by omega) (by omega) (by rw[Fz];exact growslice_fits (by omega) (by omega));rw[hr]at h2;simp only[Result.ok.injEq]at h2;rw[h2.2];exact Nat.le_succ _
  refine⟨v',w',hr,ho,LM,fun g' iW=>?_,Q9,?_⟩
  ·by_cases iH:xs.length+b.size≤cap
   ·have h2:=Lib.run_append_room_string (P:=C.P) w t t' ty e i hu FC hi rP g xs.length cap cur hg b iH (by rw[fB];omega);rw[hr]at h2;simp only[Result.ok.injEq]at h2;rw[h2.1]at iW;exact .inl iW
   ·have h2:=Lib.run_append_grow_string (P:=C.P) w t t' ty e i (.int .u8 0) hu FC hi hz ⟨g,0,none⟩ xs.length cap xs.flatten (by rw[rP];exact gG.1) (gG.cells (g:=g) rfl) b (by omega) (by omega) (by rw[Fz];exact growslice_fits (by omega) (by omega));rw[hr]at h2;simp only[Result.ok.injEq]at h2;rw[h2.1]at iW;simp only[Value.ownBlock,Option.some.injEq]at iW;exact .inr (by omega)
  ·rcases ho.2 with ⟨h1,_⟩ | ⟨g,cap,cur,h1,_⟩<;>exact⟨_,_,_,h1⟩
theorem LU {s:St} {x:Option SV} {v:Value} (h:I0 s x=some v):x=some (.v v):=by
 unfold I0 at h;split at h
 ·cases hf:kD s.bx with
  | false=>rw[hf]at h;cases h
  | true=>rw[hf]at h;simp only[cond_true,Option.some.injEq]at h;rw[h]
 ·cases h
theorem Mem.Re {bx:List (Nat×Bx)} {nx:Nat} {w':World} {b b':Bx} {k:Nat} (hm:Mem B ρ bx nx H w) (hk:lk bx k=some b)
  (h1:w'.os=w.os) (h2:w'.tape=w.tape) (h3:OD w w') (h4:w.heap.size≤w'.heap.size)
  (hb:∀g,g<w.heap.size→¬br ρ k b g→w'.heap[g]?=w.heap[g]?) (aj:b'.lt nx=true) (ca:bu ρ w' k b') (uo:∀g,br ρ k b' g→br ρ k b g∨w.heap.size≤g):
  Mem B ρ ((k,b')::bx) nx H w':=by
 have jg:Mem B ρ ((k,.dead)::bx) nx H w':=hm.write hk h1 h2 h3 h4 hb rfl trivial (fun g hg=>hg.elim);have vz:=hm.ok k b hk
 have cu:∀ {j x},¬k=j→lk bx j=some x→lk ((k,Bx.dead)::bx) j=some x:=fun {j x} h hj=>by rw[aT,if_neg h];exact hj
 have Xn:∀ {j x g},¬k=j→lk bx j=some x→br ρ k b' g→br ρ j x g→False:=fun {j x g} h hj ho dx=>by
  rcases uo g ho with h5 | h5
  ·exact h (hm.eZ k j b x g hk hj h5 dx)
  ·have:=(hm.ok j x hj).2.1.lt dx;omega
 exact
 {os:=jg.os,tape:=jg.tape,output:=jg.output,size:=jg.size,frame:=jg.frame
  base:=jg.base,agree:=jg.agree,hp:=jg.hp,hle:=jg.hle,cR:=jg.cR
  ok:=fun j x hj=>by
   rw[aT]at hj;split at hj
   ·rename_i e;subst e;simp only[Option.some.injEq]at hj;subst hj;exact⟨vz.1,ca,aj⟩
   ·rename_i h;exact jg.ok j x (cu h hj)
  own:=fun j x g hj ho=>by
   rw[aT]at hj;split at hj
   ·rename_i e;subst e;simp only[Option.some.injEq]at hj;subst hj
    rcases uo g ho with h5 | h5
    ·exact hm.own _ b g hk h5
    ·refine⟨?_,.inl (Nat.le_trans hm.size h5)⟩
     cases hh:H g with
     | none=>rfl
     | some o =>
      have:=(Array.getElem?_eq_some_iff.1 (hm.hp g o hh)).1;omega
   ·exact hm.own j x g hj ho
  eZ:=fun j j' x x' g hj s8 ho dx=>by
   rw[aT]at hj s8
   split at hj<;>split at s8
   ·omega
   ·rename_i e1 e2;subst e1;simp only[Option.some.injEq]at hj;subst hj;exact (Xn e2 s8 ho dx).elim
   ·rename_i e1 e2;subst e2;simp only[Option.some.injEq]at s8;subst s8;exact (Xn e1 hj dx ho).elim
   ·exact hm.eZ j j' x x' g hj s8 ho dx }
theorem OA {fb:Prop} (ht:eH C) {c:Call} {T:TypeId} {K:KK} (hc:c.callee = .builtin .append) {x y:Operand} (ha:c.args=#[x,y]) {t:TypeId} (sZ:c.argTypes=#[t,t]) {e:TypeId} (he:eY C t=some e) {v:Value}
  (mj:get s x=some (.v v)) (bA:fb→bp C s (.call c) T H K) (h:K9 fb C e v (get s y) s H K):bp C s (.call c) T H K:=by
 unfold K9 at h;split at h
 ·exact bA h
 ·rename_i i hi;split at h
  ·exact bA h
  ·rename_i z hz;split at h
   ·exact bA h
   ·rename_i y' E4
    cases hb:(Nat.beq z.cells.size i.1.size&&Nat.ble 1 i.1.size) with
    | false=>rw[hb]at h;exact bA h
    | true =>
     rw[hb,cond_true]at h;simp only[Bool.and_eq_true]at hb;have Jc:=bE hb.1;have cN:=dp hb.2
     refine dq fun B ρ o a w ho _ hr=>?_
     obtain⟨ys,h,hn⟩:=jh hr cN h;obtain⟨e1,l1⟩:=ai hr mj;obtain⟨e2,l2⟩:=ai hr E4
     have fA:(execOp a.eval o).run C.P w=((do pure (.value (←Builtin.append_ #[t,t] o.type #[ga ρ (.v v),ga ρ y'])):Sem Next)).run C.P w:=by
      rw[ba ho hc,ha,sZ];simp only[builtin,List.map_toArray,List.map_cons,List.map_nil,e1,e2]
     obtain⟨k,F,A,D,xs,hk,hF,⟨CM,hlen⟩,h⟩:=h;obtain⟨dm,pQ⟩:=(hr.mem.ok _ _ hk).2.1
     have S2:(v,xs)∈F:=by rw[hF];exact List.mem_append_right _ List.mem_cons_self
     have hv:=dm _ S2;obtain⟨v',w',r1,r2,r3,r4,r5,a',l',c',rfl⟩:=nq (ty:=o.type) ht he hi hz Jc cN hv.1 hn CM hlen
     have th:l'=xs.length+ys.length:=by
      rcases r2.2 with ⟨h1,h2⟩ | ⟨g,cap,cur,h1,_⟩
      ·simp only[Value.slice.injEq]at h1;rw[List.length_append]at h2;rw[h1.2.1];exact h2.symm
      ·simp only[Value.slice.injEq]at h1;rw[h1.2.1,List.length_append]
     have h:=h a' c';rw[←th]at h
     have Xo:∀g,v.ownBlock=some g→br ρ k (.kW e i.1.size F) g:=fun g hg=>⟨(v,xs),S2,hg⟩
     have iF:∀ {p:Value×List (List Value)} {g:Nat},p∈A++D→p.1.ownBlock=some g→v.ownBlock≠some g∧g<w.heap.size:=fun {p g} hp hg=>by
      have I8:p∈F:=by
       rw[hF]
       rcases List.mem_append.1 hp with hp | hp
       ·exact List.mem_append_left _ hp
       ·exact List.mem_append_right _ (List.mem_cons_of_mem _ hp)
      refine⟨fun S4=>?_,(hr.mem.ok _ _ hk).2.1.lt ⟨p,I8,hg⟩⟩;rw[hF,List.pairwise_append,List.pairwise_cons]at pQ;obtain⟨_,⟨h2,_⟩,h3⟩:=pQ
      rcases List.mem_append.1 hp with hp | hp
      ·exact h3 p hp _ List.mem_cons_self g hg S4
      ·exact h2 p hp g S4 hg
     have jC:∀g,g<w.heap.size→v.ownBlock≠some g→w'.heap[g]?=w.heap[g]?:=fun g hg cu=>r3.block g hg (fun e=>cu e.symm)
     have vh:Mem B ρ ((k,.kW e i.1.size (A++(.slice a' l' c',xs++ys)::D))::s.bx) s.nx H w':=by
      refine hr.mem.Re hk r3.os r3.tape ⟨r3.output,r5⟩ r3.size (fun g hg gZ=>jC g hg fun e=>gZ (Xo g e)) rfl ⟨fun p hp=>?_,?_⟩ fun g hg=>?_
      ·rcases List.mem_append.1 hp with hp | hp
       ·have I8:p∈F:=by rw[hF];exact List.mem_append_left _ hp
        refine⟨fU (dm p I8).1 fun g hg=>?_,(dm p I8).2⟩;obtain⟨k1,k2⟩:=iF (List.mem_append_left _ hp) hg;exact jC g k2 k1
       ·rcases List.mem_cons.1 hp with rfl | hp
        ·refine⟨r2,fun x hx=>?_⟩
         rcases List.mem_append.1 hx with hx | hx
         ·exact hv.2 x hx
         ·exact hn.1 x hx
        ·have I8:p∈F:=by rw[hF];exact List.mem_append_right _ (List.mem_cons_of_mem _ hp)
         refine⟨fU (dm p I8).1 fun g hg=>?_,(dm p I8).2⟩;obtain⟨k1,k2⟩:=iF (List.mem_append_right _ hp) hg;exact jC g k2 k1
      ·have cR:∀ {p:Value×List (List Value)} {g:Nat},p∈A++D→p.1.ownBlock=some g→(Value.slice a' l' c').ownBlock≠some g:=fun {p g} hp hg S4=>by
        obtain⟨k1,k2⟩:=iF hp hg
        rcases r4 g S4 with h5 | h5
        ·exact k1 h5
        ·omega
       have Lt:=pQ;rw[hF,List.pairwise_append,List.pairwise_cons]at Lt;obtain⟨p1,⟨p2,p3⟩,p4⟩:=Lt;rw[List.pairwise_append,List.pairwise_cons];refine⟨p1,⟨fun p hp g hg iW=>cR (List.mem_append_right _ hp) iW hg,p3⟩,fun p hp q hq g hg iW=>?_⟩
       rcases List.mem_cons.1 hq with rfl | hq
       ·exact cR (List.mem_append_left _ hp) hg iW
       ·exact p4 p hp q (List.mem_cons_of_mem _ hq) g hg iW
      ·obtain⟨p,hp,hg⟩:=hg
       rcases List.mem_append.1 hp with hp | hp
       ·exact .inl ⟨p,by rw[hF];exact List.mem_append_left _ hp,hg⟩
       ·rcases List.mem_cons.1 hp with rfl | hp
        ·rcases r4 g hg with h5 | h5
         ·exact .inl (Xo g h5)
         ·exact .inr h5
        ·exact .inl ⟨p,by rw[hF];exact List.mem_append_right _ (List.mem_cons_of_mem _ hp),hg⟩
     refine⟨.v (.slice a' l' c'),_,H,ρ,w',?_,h,⟨hr.env,hr.sz,hr.defers,vh⟩,Le.refl H,rfl⟩;rw[fA,ga,Sem.run_bind,r1]
     rfl
theorem FD {fb:Prop} (ht:eH C) {c:Call} {T:TypeId} {K:KK} (hc:c.callee = .builtin .append) (bA:fb→bp C s (.call c) T H K) (h:match c.args.toList with
    | [x,y]=>match c.argTypes.toList with
     | [t,t']=>match eY C t with
      | none=>fb
      | some e=>match cL C e with
       | none=>fb
       | some sz=>match I0 s (get s x) with
        | some v=>bif Nat.beq t t' then K9 fb C e v (get s y) s H K else fb
        | none=>match get s x with
        | some (.sub k Ck lo n)=>bif Nat.beq t t'&&Nat.ble 1 sz then (match get s y with
         | none=>fb
         | some y'=>rowOf s H y' sz fun ys=>match lk s.bx k with
          | some (.row e' cn xs)=>bif Nat.beq cn sz&&Nat.beq Ck sz then (lo+n+ys.length≤xs.length∧K (.sub k sz lo (n+ys.length)) (s.box k (.row e' cn (xs.take (lo+n)++ys++xs.drop (lo+n+ys.length)))) H) else False
          | _=>False) else fb
        | some (.own k)=>match C.tt t' with
         | some (_,.string)=>match get s y with
          | some (.v (.string b))=>match C.tt e with
           | some (i,.int .u8)=>match lk s.bx k with
            | some (.row e' cn xs)=>bif Nat.beq e' e&&Nat.beq cn 1&&Nat.beq i.size 1&&Nat.beq i.bytes 1 then (i.zero=some (.int .u8 0)∧xs.length+(sl b).length≤140737488355328 ∧
              K (.own s.nx) ((s.box k .dead).new (.row e 1 (xs++cC (sl b)))) H) else False
            | _=>False
           | _=>fb
          | _=>fb
         | _=>fb
        | some (.v (.slice none 0 0))=>match C.tt t' with
         | some (_,.string)=>match get s y with
          | some (.v (.string b))=>match C.tt e with
           | some (i,.int .u8)=>bif Nat.beq i.size 1&&Nat.beq i.bytes 1 then (i.zero=some (.int .u8 0)∧(sl b).length≤140737488355328∧K (.own s.nx) (s.new (.row e 1 (cC (sl b)))) H) else False
           | _=>fb
          | _=>fb
         | _=>fb
        | _=>fb
     | _=>fb
    | _=>fb):bp C s (.call c) T H K:=by
 split at h
 ·rename_i x y hx
  have ha:c.args=#[x,y]:=by apply Array.ext';simpa using hx
  split at h
  ·rename_i t t' Jb
   have sZ:c.argTypes=#[t,t']:=by apply Array.ext';simpa using Jb
   split at h
   ·exact bA h
   ·rename_i e he;have hu:=ep ht he;split at h
    ·exact bA h
    ·rename_i sz cN;split at h
     ·rename_i v hv
      cases AO:Nat.beq t t' with
      | false=>rw[AO]at h;exact bA h
      | true =>
       rw[AO,cond_true]at h;obtain rfl:=bE AO;exact OA ht hc ha sZ he (LU hv) bA h
     split at h
     ·rename_i k Ck lo n mj
      cases AO:(Nat.beq t t'&&Nat.ble 1 sz) with
      | false=>rw[AO]at h;exact bA h
      | true =>
       rw[AO,cond_true]at h;simp only[Bool.and_eq_true]at AO;obtain rfl:=bE AO.1;have wA:=dp AO.2;split at h
       ·exact bA h
       ·rename_i y' E4
        refine dq fun B ρ o a w ho _ hr=>?_
        obtain⟨ys,h1,hn⟩:=jh hr wA h;clear h;split at h1
        ·rename_i e' cn xs hk
         have et:=dr h1;clear h1;obtain⟨hq,jZ,h⟩:=et
         simp only[Bool.and_eq_true]at hq;obtain rfl:=bE hq.1;obtain rfl:=bE hq.2;obtain⟨e1,l1⟩:=ai hr mj;obtain⟨e2,l2⟩:=ai hr E4;obtain⟨w',hw,iX⟩:=CS (ty:=o.type) ht hr he cN hk hn jZ;refine⟨_,_,H,ρ,w',?_,h,iX,Le.refl H,by simp only[SV.lt]at l1 ⊢;exact l1⟩;rw[ba ho hc,ha,sZ];rw[ga]at e1;simp only[builtin,List.map_toArray,List.map_cons,List.map_nil,e1,e2,Sem.run_bind,hw,ga]
         rfl
        ·exact h1.elim
     ·rename_i k mj;split at h
      ·rename_i i0 TB;have FC:=(ht _ _ _ TB).2;split at h
       ·rename_i b hb;split at h
        ·rename_i i hi;split at h
         ·rename_i e' cn xs hk
          have et:=dr h;clear h;obtain⟨hq,hz,hlen,h⟩:=et
          simp only[Bool.and_eq_true]at hq;obtain⟨⟨⟨Vs,E0⟩,VD⟩,Ym⟩:=hq;obtain rfl:=bE Vs;obtain rfl:=bE E0
          refine dq fun B ρ o a w ho _ hr=>?_
          obtain⟨e1,l1⟩:=ai hr mj;obtain⟨e2,l2⟩:=ai hr hb;have tm:=(hr.mem.ok _ _ hk).2.1;obtain⟨v',w',r1,r2,r3,r4,r5,a',l',c',rfl⟩:=wH (ty:=o.type) hu FC (ht _ _ _ hi).1 hz (bE VD) (bE Ym) tm.1 b hlen
          obtain⟨ρ',iX,hg⟩:=hr.CG (v:=(a',l',c')) hk r3.os r3.tape ⟨r3.output,r5⟩ r3.size (fun g hg gZ=>r3.block g hg (fun e=>gZ e.symm)) r2 (fun x hx=>by
            rcases List.mem_append.1 hx with hx | hx
            ·exact tm.2.1 x hx
            ·exact qq _ x hx) (fun g hg=>r4 g hg)
          refine⟨_,_,H,ρ',w',?_,h,iX,Le.refl H,by rw[SV.lt];exact Nat.ble_eq_true_of_le (Nat.le_refl _)⟩;rw[ba ho hc,ha,sZ];simp only[ga]at e1 e2;simp only[builtin,List.map_toArray,List.map_cons,List.map_nil,e1,e2,Sem.run_bind,r1,hg]
          rfl
         ·exact h.elim
        ·exact bA h
       ·exact bA h
      ·exact bA h
     ·rename_i mj;split at h
      ·rename_i i0 TB;have FC:=(ht _ _ _ TB).2;split at h
       ·rename_i b hb;split at h
        ·rename_i i hi
         have et:=dr h;clear h;obtain⟨hq,hz,hlen,h⟩:=et
         simp only[Bool.and_eq_true]at hq
         refine dq fun B ρ o a w ho _ hr=>?_
         obtain⟨e1,l1⟩:=ai hr mj;obtain⟨e2,l2⟩:=ai hr hb;obtain⟨v',w',r1,r2,r3,r4,r5,a',l',c',rfl⟩:=wH (xs:=[]) (v:=.slice none 0 0) (ty:=o.type) hu FC (ht _ _ _ hi).1 hz (bE hq.1) (bE hq.2) (World.ownsRow_nil w 0 e 1) b (by simpa using hlen)
         obtain⟨ρ',iX,hg⟩:=hr.yW (v:=(a',l',c')) r3.os r3.tape ⟨r3.output,r5⟩ r3.size (fun g hg=>r3.block g hg (by simp [Value.ownBlock])) (by simpa using r2) (fun x hx=>qq _ x hx) (fun g hg=>by
          rcases r4 g hg with h | h
          ·simp [Value.ownBlock]at h
          ·exact h)
         refine⟨_,_,H,ρ',w',?_,h,iX,Le.refl H,by rw[SV.lt];exact Nat.ble_eq_true_of_le (Nat.le_refl _)⟩;rw[ba ho hc,ha,sZ];simp only[ga]at e1 e2;simp only[builtin,List.map_toArray,List.map_cons,List.map_nil,e1,e2,Sem.run_bind,r1,hg]
         rfl
        ·exact bA h
       ·exact bA h
      ·exact bA h
     ·exact bA h
  ·exact bA h
 ·exact bA h
theorem wI (ht:eH C) {fb:Prop} {src dst T:TypeId} {x:Operand} {K:KK} (h:match C.tt src with
  | some _=>match C.tt dst with
   | some (_,.int k)=>match get s x with
    | some (.v (.int _ n))=>arith C k n fun r=>K r s H
    | _=>fb
   | some (_,.string)=>match get s x with
    | some (.v (.string t))=>K (.v (.string t)) s H
    | some y=>match eY C src with
     | none=>fb
     | some e=>match C.tt e with
      | some (_,.int .u8)=>rowOf s H y 1 fun xs=>∃b,xs=cC b∧K (.v (.string (bs b))) s H
      | _=>fb
    | none=>fb
   | _=>fb
  | none=>fb):lR C s (.convert src dst x) T H K∨fb:=by
 split at h
 ·rename_i di AP;have hu:=(ht src di.1 di.2 AP).2;split at h
  ·rename_i i k lU;have hd:=(ht _ _ _ lU).2;split at h
   ·rename_i k' n hx
    refine .inl fun B ρ o a w ho _ hr=>⟨_,?_,kE h,by rw[SV.lt]⟩
    have h1:=(ai hr hx).1;rw[ga]at h1;simp only[execOp,ho,h1,convert,Sem.run_bind,run_underlying hu,run_underlying hd,Result.andThen_ok,Conv.intToInt,ga]
    rfl
   ·exact .inr h
  ·rename_i i lU;have hd:=(ht _ _ _ lU).2;split at h
   ·rename_i t hx
    refine .inl fun B ρ o a w ho _ hr=>⟨_,?_,h,by rw[SV.lt]⟩
    have h1:=(ai hr hx).1;rw[ga]at h1;simp only[execOp,ho,h1,convert,Sem.run_bind,run_underlying hu,run_underlying hd,Result.andThen_ok,ga]
    rfl
   ·rename_i y _ hx;split at h
    ·exact .inr h
    ·rename_i e he;split at h
     ·rename_i i1 hi
      refine .inl fun B ρ o a w ho _ hr=>?_
      obtain⟨xs,⟨b,rfl,h⟩,hn⟩:=jh hr (by omega) h;refine⟨_,?_,h,by rw[SV.lt]⟩;have h1:=(ai hr hx).1;have FC:=ep ht he;have N0:=(ht _ _ _ hi).2;simp only[execOp,ho,h1,Sem.run_bind,ga]
      rcases hn.2 with ⟨h2,h3⟩ | ⟨ad,c,h2,h3⟩
      ·rw[h2,run_convert_bytes_nil w src e FC N0 0 0 dst hd]
       have:b=[]:=by cases b with
        | nil=>rfl
        | cons x r=>simp [cC]at h3
       subst this
       rfl
      ·rw[h2,jv,run_convert_bytes_back w src dst e ad c b FC N0 hd (fun j hj=>h3 j _ (by rw[iJ];simp [hj]))]
       rfl
     ·exact .inr h
   ·exact .inr h
  ·exact .inr h
 ·exact .inr h
theorem OB {fb:Prop} {c:Call} {T:TypeId} {K:KK} (hc:c.callee = .builtin .unsafeSliceData) (bA:fb→bp C s (.call c) T H K) (h:match c.args.toList with
    | [x]=>match C.P.underlying T with
     | some (.pointer _)=>match get s x with
      | some (.own k)=>match lk s.bx k with
       | some (.row _ sz xs)=>(xs≠[]→K (.rel k sz 0 0) s H)∧(xs=[]→∀p,K (.v (.pointer p)) s H)
       | _=>False
      | some (.v (.slice none 0 0))=>K (.v (.pointer none)) s H
      | _=>fb
     | _=>fb
    | _=>fb):bp C s (.call c) T H K:=by
 split at h
 ·rename_i x hx
  have ha:c.args=#[x]:=by apply Array.ext';simpa using hx
  split at h
  ·rename_i e0 hT;split at h
   ·rename_i k hg;split at h
    ·rename_i e' sz xs hk
     refine dq fun B ρ o a w ho Yn hr=>?_
     obtain⟨h1,l1⟩:=ai hr hg;have tm:=(hr.mem.ok _ _ hk).2.1
     have fA:∀w' v,(Builtin.unsafeSliceData_ c.argTypes o.type #[a.eval x]).run C.P w = .ok v w'→(execOp a.eval o).run C.P w = .ok (.value v) w':=fun w' v hv=>by
      rw[ba ho hc,ha];simp only[builtin,List.map_toArray,List.map_cons,List.map_nil,Sem.run_bind,hv]
      rfl
     rw[ga,bk.val]at h1
     rcases fj tm with ⟨h2,rfl⟩ | ⟨cap,cur,h2,h3,h4,eI,h5,_⟩
     ·rw[h2]at h1;refine⟨_,s,H,ρ,w,fA w _ ?_,h.2 rfl none,hr,Le.refl H,by rw[SV.lt]⟩;rw[h1,Lib.run_unsafeSliceData_nil,ga]
     ·rw[h2]at h1
      by_cases iY:cap=0
      ·subst iY;have yX:xs=[]:=List.eq_nil_of_length_eq_zero (by omega)
       have KR:w.shape? (ρ.b k)=some (e',cur.size):=by simp [World.shape?,h3]
       refine⟨.v (.pointer (some ⟨w.heap.size,0,none⟩)),s,H,ρ,w.alloc (.view ⟨ρ.b k,0,none⟩ e0),fA _ _ ?_,h.2 yX _,hr.with (bx:=s.bx) (hr.mem.step rfl rfl ⟨rfl,Nat.le_refl _⟩ (by simp) (fun g hg=>heap_alloc_old w _ g hg)),Le.refl H,by rw[SV.lt]⟩;rw[h1,Yn,Lib.run_unsafeSliceData_zero (P:=C.P) w c.argTypes T e0 hT ⟨ρ.b k,0,none⟩ xs.length _ KR,ga]
      ·by_cases yX:xs=[]
       ·refine⟨_,s,H,ρ,w,fA w _ ?_,h.2 yX (some ⟨ρ.b k,0,none⟩),hr,Le.refl H,by rw[SV.lt]⟩;rw[h1,Lib.run_unsafeSliceData_row _ _ _ _ _ _ iY,ga]
       ·refine⟨_,s,H,ρ,w,fA w _ ?_,h.1 yX,hr,Le.refl H,by simp only[SV.lt]at l1 ⊢;exact l1⟩;rw[h1,Lib.run_unsafeSliceData_row _ _ _ _ _ _ iY,ga];simp
    ·exact h.elim
   ·rename_i hg
    refine bd fun B ρ o a w ho _ hr=>⟨_,?_,h,by rw[SV.lt]⟩
    have h1:=(ai hr hg).1;rw[ga]at h1;rw[ba ho hc,ha];simp only[builtin,List.map_toArray,List.map_cons,List.map_nil,Sem.run_bind,h1,Lib.run_unsafeSliceData_nil,ga]
    rfl
   ·exact bA h
  ·exact bA h
 ·exact bA h
theorem AQ (w:World) (g n:Nat) (j:Nat) (h:j≠g):(w.freeze ⟨g,0,none⟩ n).heap[j]?=w.heap[j]?:=by
 unfold World.freeze;split
 ·rfl
 ·simp only[Array.getElem?_modify];rw[if_neg (fun e=>h e.symm)]
theorem LV {fb:Prop} {c:Call} {T:TypeId} {K:KK} (hc:c.callee = .builtin .unsafeString) (bA:fb→bp C s (.call c) T H K) (h:match c.args.toList with
    | [p,n]=>match c.argTypes.toList with
     | [pt,_]=>match get s n with
      | some (.v (.int .i64 m))=>match get s p with
       | some (.v (.pointer _))=>m=0∧K (.v (.string (bs []))) s H
       | some (.rel k 1 0 0)=>match lk s.bx k with
        | some (.row e sz xs)=>bif Nat.beq sz 1 then (C.P.underlying pt=some (.pointer e)∧C.P.cellsOf e=1∧∃b,xs=cC b∧b≠[]∧m=b.length∧K (.v (.string (bs b))) (s.box k .dead) H) else False
        | _=>False
       | _=>fb
      | _=>fb
     | _=>fb
    | _=>fb):bp C s (.call c) T H K:=by
 split at h
 ·rename_i p n hx
  have ha:c.args=#[p,n]:=by apply Array.ext';simpa using hx
  split at h
  ·rename_i pt it Jb
   have sZ:c.argTypes=#[pt,it]:=by apply Array.ext';simpa using Jb
   split at h
   ·rename_i m hm;split at h
    ·rename_i q hp;obtain⟨rfl,h⟩:=h
     refine bd fun B ρ o a w ho _ hr=>⟨_,?_,h,by rw[SV.lt]⟩
     have h1:=(ai hr hp).1;have h2:=(ai hr hm).1;rw[ga]at h1 h2;rw[ba ho hc,ha,sZ];simp only[builtin,List.map_toArray,List.map_cons,List.map_nil,Sem.run_bind,h1,h2,Lib.run_unsafeString_none,ga]
     rfl
    ·rename_i k hp;split at h
     ·rename_i e sz xs hk
      have et:=dr h;clear h;obtain⟨hq,Yo,N1,b,rfl,cu,rfl,h⟩:=et
      obtain rfl:=bE hq
      refine dq fun B ρ o a w ho _ hr=>?_
      have h1:=(ai hr hp).1;have h2:=(ai hr hm).1;simp only[ga]at h1 h2;have tm:=(hr.mem.ok _ _ hk).2.1
      rcases fj tm with ⟨_,h3⟩ | ⟨cap,cur,h3,h4,h5,eI,h6,h7⟩
      ·have:=congrArg List.length h3;rw[jv]at this;exact absurd (List.eq_nil_of_length_eq_zero this) cu
      ·have KR:w.shape? (ρ.b k)=some (e,cur.size):=by simp [World.shape?,h4]
       have Rg:br ρ k (.row e 1 (cC b)) (ρ.b k):=by simp only[br,bk.val,h3];rfl
       rw[jv]at h5 h7
       have fA:=Lib.run_unsafeString_row (P:=C.P) w pt it o.type e Yo N1 (ρ.b k) cur.size KR b cu (by omega) (by simp only[maxLen]at eI;omega) (fun j x hj=>by
        rw[Addr.at_,cell_of _ _ h4]
        have:cur.toList[j]?=some (.int .u8 x.toNat):=by
         have h8:(cur.toList.take (b.length*1))[j]?=some (.int .u8 x.toNat):=by
          rw[h7,iJ,List.getElem?_map,hj]
          rfl
         rw[List.getElem?_take]at h8;split at h8
         ·exact h8
         ·cases h8
        simpa using this)
       refine⟨_,_,H,ρ,w.freeze ⟨ρ.b k,0,none⟩ b.length,?_,h,hr.with (bx:=(k,.dead)::s.bx) (hr.mem.write hk (by unfold World.freeze;split<;>rfl) (by unfold World.freeze;split<;>rfl) (by unfold World.freeze;split<;>exact⟨rfl,Nat.le_refl _⟩) ?_ (fun g _ hg=>AQ w _ _ g (fun e=>hg (e▸Rg))) rfl trivial (fun g hg=>hg.elim)),Le.refl H,by rw[SV.lt]⟩
       ·rw[ba ho hc,ha,sZ];simp only[builtin,List.map_toArray,List.map_cons,List.map_nil,Sem.run_bind,h1,h2,Int.toNat_zero,Nat.zero_mul,Nat.zero_add];rw[fA];simp only[ga]
        rfl
       ·unfold World.freeze;split
        ·exact Nat.le_refl _
        ·simp
     ·exact h.elim
    ·exact bA h
   ·exact bA h
  ·exact bA h
 ·exact bA h
theorem OC (ht:eH C) {fb:Prop} {src dst T:TypeId} {x:Operand} {K:KK} (bA:fb→bp C s (.convert src dst x) T H K) (h:match get s x with
  | some (.ptr k off)=>match lk s.bx k with
   | some (.cells T0 cs)=>Fp C.P src dst T0 cs.length off=true∧K (.ptr k off) s H
   | _=>fb
  | some (.v (.int _ n))=>match C.tt src with
   | some _=>match C.tt dst with
    | some (_,.float k)=>K (.v (.float k (floatOfInt k n))) s H
    | _=>fb
   | none=>fb
  | some (.v (.float fk b))=>match C.tt src with
   | some _=>match C.tt dst with
    | some (_,.int k)=>∃n,floatToIntVal fk b k=some n∧K (.v (.int k n)) s H
    | _=>fb
   | none=>fb
  | _=>fb):bp C s (.convert src dst x) T H K:=by
 split at h
 ·rename_i k off hx;split at h
  ·rename_i T0 cs hk;obtain⟨hs,h⟩:=h
   refine bd fun B ρ o a w ho _ hr=>⟨_,?_,h,(ai hr hx).2⟩
   have h1:=(ai hr hx).1;rw[ga]at h1;have hb:=(hr.mem.ok _ _ hk).2.1;simp only[bu]at hb
   have KR:w.shape? (ρ.b k)=some (T0,cs.length):=by
    simp [World.shape?,hb,cH]
   have fA:(convert src dst (.pointer (some ⟨ρ.b k,off,none⟩))).run C.P w = .ok (.pointer (some ⟨ρ.b k,off,none⟩)) w:=by
    unfold Fp at hs;split at hs
    ·rename_i t AP;split at hs
     ·rename_i lU;split at hs
      ·rename_i j hj;simp only[Bool.and_eq_true,Nat.blt_eq]at hs;exact Lib.run_to_unsafe w ⟨ρ.b k,off,none⟩ AP lU hj (by omega) KR hs.2
      ·cases hs
     ·cases hs
    ·rename_i AP;split at hs
     ·rename_i u lU;split at hs
      ·rename_i j hj;exact Lib.run_from_unsafe w ⟨ρ.b k,off,none⟩ AP lU hj KR hs
      ·cases hs
     ·cases hs
    ·cases hs
   simp only[execOp,ho,h1,Sem.run_bind,fA,ga]
   rfl
  ·exact bA h
 ·rename_i ik n hx;split at h
  ·rename_i di AP;have hu:=(ht src di.1 di.2 AP).2;split at h
   ·rename_i i k lU;have hd:=(ht _ _ _ lU).2
    refine bd fun B ρ o a w ho _ hr=>⟨_,?_,h,by rw[SV.lt]⟩
    have h1:=(ai hr hx).1;rw[ga]at h1;simp only[execOp,ho,h1,Sem.run_bind,run_convert_int_float w src dst ik k n (by rw[hu];rfl) hd,ga]
    rfl
   ·exact bA h
  ·exact bA h
 ·rename_i fk b hx;split at h
  ·rename_i di AP;have hu:=(ht src di.1 di.2 AP).2;split at h
   ·rename_i i k lU;have hd:=(ht _ _ _ lU).2;obtain⟨n,hn,h⟩:=h
    refine bd fun B ρ o a w ho _ hr=>⟨_,?_,h,by rw[SV.lt]⟩
    have h1:=(ai hr hx).1;rw[ga]at h1;simp only[execOp,ho,h1,Sem.run_bind,run_convert_float_int w src dst fk k b n (by rw[hu];rfl) hd hn,ga]
    rfl
   ·exact bA h
  ·exact bA h
 ·exact bA h
def TC (fb:Prop) (s:St) (op:UnOp) (x:Operand) (H:Hp) (K:KK):Prop:=match op with
  | .neg=>match get s x with
   | some (.v (.float k b))=>K (.v (.float k (Op.negFloat k b))) s H
   | _=>fb
  | _=>fb
theorem OE {fb:Prop} {op:UnOp} {xT T:TypeId} {x:Operand} {K:KK} (bA:fb→bp C s (.unOp op xT x) T H K) (h:TC fb s op x H K):bp C s (.unOp op xT x) T H K:=by
 cases op with
 | neg =>
  simp only[TC]at h;split at h
  ·rename_i k b hx
   refine bd fun B ρ o a w ho _ hr=>⟨_,?_,h,by rw[SV.lt]⟩
   have h1:=(ai hr hx).1;rw[ga]at h1;simp only[execOp,ho,h1,Op.unary,ga]
   rfl
  ·exact bA h
 | _=>exact bA h
theorem OF {fb:Prop} {c:Call} {T:TypeId} {K:KK} (hc:c.callee = .builtin .real) (bA:fb→bp C s (.call c) T H K) (h:match c.args.toList with
    | [x]=>match get s x with
     | some (.v (.complex k a _))=>K (.v (.float k a)) s H
     | _=>fb
    | _=>fb):bp C s (.call c) T H K:=by
 split at h
 ·rename_i x hx
  have ha:c.args=#[x]:=by apply Array.ext';simpa using hx
  split at h
  ·rename_i k p q hg
   refine bd fun B ρ o a w ho _ hr=>⟨_,?_,h,by rw[SV.lt]⟩
   have h1:=(ai hr hg).1;rw[ga]at h1;rw[ba ho hc,ha];simp [builtin,run_real,h1,ga]
  ·exact bA h
 ·exact bA h
theorem OG {fb:Prop} {c:Call} {T:TypeId} {K:KK} (hc:c.callee = .builtin .imag) (bA:fb→bp C s (.call c) T H K) (h:match c.args.toList with
    | [x]=>match get s x with
     | some (.v (.complex k _ b))=>K (.v (.float k b)) s H
     | _=>fb
    | _=>fb):bp C s (.call c) T H K:=by
 split at h
 ·rename_i x hx
  have ha:c.args=#[x]:=by apply Array.ext';simpa using hx
  split at h
  ·rename_i k p q hg
   refine bd fun B ρ o a w ho _ hr=>⟨_,?_,h,by rw[SV.lt]⟩
   have h1:=(ai hr hg).1;rw[ga]at h1;rw[ba ho hc,ha];simp [builtin,run_imag,h1,ga]
  ·exact bA h
 ·exact bA h
theorem FE {fb:Prop} {c:Call} {T:TypeId} {K:KK} (hc:c.callee = .builtin .complex) (bA:fb→bp C s (.call c) T H K) (h:match c.args.toList with
    | [x,y]=>match get s x with
     | some (.v (.float k a))=>match get s y with
      | some (.v (.float k' b))=>k'=k∧K (.v (.complex k a b)) s H
      | _=>fb
     | _=>fb
    | _=>fb):bp C s (.call c) T H K:=by
 split at h
 ·rename_i x y hx
  have ha:c.args=#[x,y]:=by apply Array.ext';simpa using hx
  split at h
  ·rename_i k p hg;split at h
   ·rename_i k' q rB;obtain⟨rfl,h⟩:=h
    refine bd fun B ρ o a w ho _ hr=>⟨_,?_,h,by rw[SV.lt]⟩
    have h1:=(ai hr hg).1;have h2:=(ai hr rB).1;rw[ga]at h1 h2;rw[ba ho hc,ha];simp [builtin,run_complex,h1,h2,ga]
   ·exact bA h
  ·exact bA h
 ·exact bA h
theorem Rh {fb:Prop} (ht:eH C) {T' T:TypeId} {x i:Operand} {K:KK} (bA:fb→bp C s (.index T' x i) T H K) (h:match C.tt T' with
  | some (_,.array m e)=>match cL C e with
   | some 1=>match get s x with
    | some (.agg cs)=>match get s i with
     | some (.v (.int _ j))=>bif kC C e then fb else (∃y,(0≤j∧j<m∧cs[j.toNat]?=some y)∧K y s H)
     | _=>fb
    | _=>fb
   | _=>fb
  | _=>fb):bp C s (.index T' x i) T H K:=by
 split at h
 ·rename_i i0 m e hT;have hu:=(ht _ _ _ hT).2;split at h
  ·rename_i cN;split at h
   ·rename_i cs hx;split at h
    ·rename_i k j hi
     cases Ql:kC C e with
     | true=>rw[Ql]at h;exact bA h
     | false =>
      rw[Ql]at h;obtain⟨y,⟨h1,h2,h3⟩,h⟩:=h
      refine bd fun B ρ o a w ho _ hr=>⟨y,?_,h,?_⟩
      ·have h4:=(ai hr hx).1;have h5:=(ai hr hi).1;simp only[ga]at h4 h5
       have hp:=pR ht cN (l:=cs) (off:=j.toNat) (r:=y) (by
        rw[Ql];have aj:=(gh.1 h3).1
        have:(cs.drop j.toNat).take 1=[y]:=by
         rw[List.drop_eq_getElem_cons aj];have h6:=aL aj;rw[h3]at h6;simp only[Option.some.injEq]at h6;simp [←h6]
        rw[this]
        rfl) (ρ:=ρ) w
       simp only[execOp,ho,h4,h5,Instr.index,asIntOf,Sem.run_bind,Sem.run_pure,Result.andThen_ok,run_underlying hu,h1,h2,and_self,if_true,bW ht cN,Nat.mul_one,hp]
      ·have:=(ai hr hx).2;rw[SV.lt]at this;exact (dS _ _).1 this y (dY h3)
    ·exact bA h
   ·exact bA h
  ·exact bA h
 ·exact bA h
theorem Jd {fb:Prop} (ht:eH C) {T' T:TypeId} {len:Nat} {ps:Array (Nat×Operand)} {K:KK} (bA:fb→bp C s (.buildSlice T' len ps) T H K) (h:match eY C T' with
  | none=>fb
  | some e=>match cL C e with
   | none=>fb
   | some sz=>match zeroCells C e with
    | none=>fb
    | some z=>match ui s ps.toList with
     | none=>fb
     | some vs=>bif Nat.ble (len*sz) 16777216&&Nat.ble 1 sz&&Nat.beq z.length sz then (match kd (fun i=>some (i*sz,sz)) (rep len z) vs with
      | some cs=>ng cs fun cs=>bif Ap cs then (HD Og cs s H fun l s1 H1=>K (.own s1.nx) (s1.new (.row e sz (s5 sz len l))) H1) else fb
      | none=>fb) else fb):bp C s (.buildSlice T' len ps) T H K:=by
 split at h
 ·exact bA h
 ·rename_i e he;have hu:=ep ht he;split at h
  ·exact bA h
  ·rename_i sz cN;split at h
   ·exact bA h
   ·rename_i z hz;split at h
    ·exact bA h
    ·rename_i vs yr
     cases yv:(Nat.ble (len*sz) 16777216&&Nat.ble 1 sz&&Nat.beq z.length sz) with
     | false=>rw[yv]at h;exact bA h
     | true =>
     rw[yv,cond_true]at h;simp only[Bool.and_eq_true]at yv;obtain⟨⟨hle,wA⟩,CF⟩:=yv;have ez:=dp hle;have wA:=dp wA;have CF:=bE CF;split at h
     ·rename_i cs fB;rw[mf]at h
      cases Rg:Ap cs with
      | false=>rw[Rg]at h;exact bA h
      | true =>
       rw[Rg,cond_true,vw]at h
       refine dq fun B ρ o a w ho _ hr=>?_
       obtain⟨s1,H1,hk,bh,hle,yu⟩:=tg cs hr h
       obtain⟨l,hl⟩:∃l,l=cE ρ cs:=⟨_,rfl⟩
       rw[←hl]at hk;obtain⟨v,h1,h2,h3⟩:=fV (w:=w) ht hz;have hf:=rK ρ _ vs _ cs fB
       have Fx:cE ρ cs=l∧∀u∈l,u.oneCell'=true:=⟨hl.symm,by rw[hl];exact mi Rg⟩
       rw[Fx.1]at hf
       have B1:l.length=len*sz:=by
        rw[←Fx.1,cH,List.length_map,wz _ _ _ fB];have:=congrArg List.length (AK ρ z len);rw[cH,List.length_map]at this
        rw[this,CF];simp
       obtain⟨c1,c2,c3⟩:=te sz len l B1
       have oH:(ps.map fun (p:Nat×Operand)=>(p.1,a.eval p.2)).toList=vs.map (fun p=>(p.1,ga ρ p.2)):=by
        rw[Array.toList_map,(oE hr yr).1]
       have Q7:(cE ρ (rep len z)).toArray=(Array.range (len*sz)).map fun i=>(cE ρ z).toArray[i % (cE ρ z).toArray.size]!:=by
        rw[AK,Array.toArray_toList];simp only[List.size_toArray,cH,List.length_map,CF]
       obtain⟨ρ',iX,hg⟩:=bh.yW (e:=e) (sz:=sz) (xs:=s5 sz len l) (w':=w.alloc (.cells l.toArray e)) (v:=(some ⟨w.heap.size,0,none⟩,len,len)) rfl rfl ⟨rfl,Nat.le_refl _⟩ (by simp) (fun g hg=>heap_alloc_old w _ g hg)
        (by
         rw[c1,c2];refine⟨B1,.inr ⟨w.heap.size,len,l.toArray,rfl,Nat.zero_le _,heap_alloc_new w _,Nat.le_refl _,?_,by simpa using B1,by show l.take (len*sz)=l;exact List.take_of_length_le (by omega)⟩⟩;have:len≤len*sz:=Nat.le_mul_of_pos_right len wA;simp only[maxLen]
         omega)
        (fun x hx=>⟨(c3 x hx).1,fun u hu=>Fx.2 u ((c3 x hx).2 u hu)⟩)
        (fun g hg=>by simp only[Value.ownBlock,Option.some.injEq]at hg;omega)
       refine⟨_,_,H1,ρ',_,?_,hk,iX,hle,?_⟩
       ·rw[hg];simp only[execOp,ho,Instr.buildSlice,Sem.run_bind,run_underlying hu,Result.andThen_ok,bW ht cN];rw[if_neg (by omega)]
        by_cases h0:len*sz=0
        ·have e1:len=0:=by rcases Nat.mul_eq_zero.1 h0 with h | h<;>omega
         subst e1;rw[if_pos h0]
         have e2:(Array.range (0*sz)).map (fun i=>(#[]:Array Value)[i % (#[]:Array Value).size]!)=(cE ρ (rep 0 z)).toArray:=by simp [rep,cE]
         simp only[Sem.run_pure,Result.andThen_ok,e2,oH,hf,Sem.run_bind,newRow,run_newObj]
         rfl
        ·rw[if_neg h0];simp only[Sem.run_bind,h1,Result.andThen_ok,Sem.run_pure,h2 ρ,oH,←Q7,hf,newRow,run_newObj]
         rfl
       ·rw[SV.lt];exact Nat.ble_eq_true_of_le (Nat.le_refl _)
     ·exact bA h
theorem OH {x:SV} {v:Value} (h:K6 x=some v):ga ρ x=v:=by
 unfold K6 at h;split at h
 ·rename_i y
  cases ho:one (.v y) with
  | false=>rw[ho]at h;cases h
  | true=>rw[ho]at h;cases h;rw[ga]
 ·cases h;rw[ga]
 ·cases h
theorem CT {y:SV} {v:Value} (h:valOf y=some v):ga ρ y=v:=by
 unfold valOf at h;split at h
 ·split at h
  ·rename_i l hl;cases h;rw[ga,(gE (ρ:=ρ) hl).1]
  ·cases h
 ·exact OH h
theorem Rel.TD (hr:Rel C B ρ s H a w) {Φ:Obj→Prop} {o:Obj} (hΦ:Φ o):Rel C B (ρ.set s.nx w.heap.size (none,0,0)) (s.new (.obj Φ)) H a (w.alloc o) where
 env:=hr.vA _ _
 sz:=hr.sz
 defers:=hr.defers
 mem:=by
  refine hr.mem.alloc rfl rfl ⟨rfl,Nat.le_refl _⟩ (by simp) (fun g hg=>heap_alloc_old w _ g hg) rfl ?_ ?_
  ·simp only[bu,bk.set,if_true];exact⟨o,heap_alloc_new w _,hΦ⟩
  ·intro g hg;simp only[br,bk.set,if_true]at hg;omega
theorem FF {fb:Prop} {T' T:TypeId} {r:Option Operand} {K:KK} (bA:fb→bp C s (.makeMap T' r) T H K) (h:Au fb C s T' r H K):bp C s (.makeMap T' r) T H K:=by
 unfold Au at h;split at h
 ·exact bA h
 ·split at h
  ·rename_i i k e hT;obtain⟨ca,h⟩:=h
   refine dq fun B ρ o a w ho _ hr=>?_
   have hm:wb C.P k e 0 (fun _=>0) (.map #[] 0):=⟨ca,#[],0,rfl,⟨by simp,MapKept.stamped_empty 0,by simp⟩,Nat.le_refl _,fun kl _=>rfl⟩
   refine⟨_,_,H,_,_,?_,h,hr.TD hm,Le.refl H,?_⟩
   ·simp only[execOp,ho,Instr.makeMap,Option.map_none,Sem.run_bind,run_newObj,Result.andThen_ok,Sem.run_pure,ga,bk.set,if_true]
    rfl
   ·rw[SV.lt];exact Nat.ble_eq_true_of_le (Nat.le_refl _)
  ·exact bA h
theorem Je {fb:Prop} (ht:eH C) {T' T:TypeId} {m x:Operand} {ok:Bool} {K:KK} (bA:fb→bp C s (.lookup T' m x ok) T H K) (h:HE fb C s T' m x ok H K):bp C s (.lookup T' m x ok) T H K:=by
 unfold HE at h;split at h
 ·exact bA h
 ·split at h
  ·rename_i j hj;split at h
   ·rename_i Φ hk;split at h
    ·rename_i y hy;split at h
     ·rename_i kv VK;split at h
      ·rename_i i k e hT;obtain⟨n,g,kl,rfl,LW,h⟩:=h
       refine bd fun B ρ o a w ho _ hr=>⟨_,?_,h,by rw[SV.lt]⟩
       have h1:=(ai hr hj).1;have h2:=(ai hr hy).1;rw[CT VK]at h2;rw[ga]at h1;obtain⟨ob,hb,⟨hK,he,hz⟩,es,clock,rfl,jZ,cN,hg⟩:=(hr.mem.ok _ _ hk).2.1
       have gG:w.ownsMap (H:=Empty) C.P k (plainElem C.P e) (ρ.b j) es.size (.map ((es.toList.map (WideElems.rg C.P k (plainElem C.P e))).foldr DataW.insert [])):=⟨es,clock,hb,jZ,Nat.le_refl _,rfl⟩
       obtain⟨c,fA,sZ,_⟩:=gG.lookup_int hK (ht _ _ _ hT).2 he (hz w) LW;have VL:=hg kl ⟨kv,LW⟩;rw[sZ]at VL;simp only[DataW.lit.injEq,Lit.int.injEq,true_and]at VL;simp only[execOp,ho,h1,h2,fA,Sem.run_bind,Result.andThen_ok,ga,VL]
       rfl
      ·exact bA h
     ·exact bA h
    ·exact bA h
   ·exact bA h
  ·exact bA h
theorem AR {fb:Prop} (ht:eH C) {T' T:TypeId} {m x v:Operand} {K:KK} (bA:fb→bp C s (.mapUpdate T' m x v) T H K) (h:Oh fb C s T' m x v H K):bp C s (.mapUpdate T' m x v) T H K:=by
 unfold Oh at h;split at h
 ·rename_i j hj;split at h
  ·rename_i Φ hk;split at h
   ·rename_i y hy;split at h
    ·rename_i kv VK;split at h
     ·rename_i z hv;split at h
      ·rename_i i k e hT;obtain⟨n,g,kl,rfl,LW,⟨hn,kX⟩,h⟩:=h
       refine rL fun B ρ o a w ho _ hr=>?_
       have h1:=(ai hr hj).1;have h2:=(ai hr hy).1;have h3:=(ai hr hv).1;rw[CT VK]at h2;rw[ga]at h1;rw[ga]at h3;obtain⟨ob,hb,⟨hK,he,hz⟩,es,clock,rfl,jZ,cN,hg⟩:=(hr.mem.ok _ _ hk).2.1
       have gG:w.ownsMap (H:=Empty) C.P k (plainElem C.P e) (ρ.b j) n (.map ((es.toList.map (WideElems.rg C.P k (plainElem C.P e))).foldr DataW.insert [])):=⟨es,clock,hb,jZ,cN,rfl⟩
       have Yp:(Lit.int .i64 z).wf=true:=by
        simp only[UX]at kX;simp only[Lit.wf,Bool.and_eq_true,decide_eq_true_eq];exact kX
       obtain⟨w',fA,⟨Xp,LX,gr,TE,VM,Yq⟩,Qm⟩:=gG.store hK (ht _ _ _ hT).2 (by simpa [maxLen] using hn) LW (plainElem_int he Yp);have LM:=Qm.grown
       have Q9:w.drawn≤w'.drawn:=by
        obtain⟨_,_,_,_,_,rfl⟩:=Qm;exact Nat.le_refl _
       have hm:wb C.P k e (n+1) (Fi g kl z) (.map Xp LX):=by
        refine⟨⟨hK,he,hz⟩,Xp,LX,rfl,TE,VM,fun Yr VN=>?_⟩;rw[←Yq,Fi];split
        ·rename_i heq;subst heq;exact Maps.atKey_put_same ⟨_,rfl⟩ (hK.key LW) _ _
        ·rename_i cu;rw[Maps.atKey_put_other cu];exact hg Yr VN
       refine⟨_,H,ρ,w',?_,h,hr.with (bx:=(j,_)::s.bx) ?_,Le.refl H⟩
       ·simp only[execOp,ho,h1,h2,h3,fA,Sem.run_bind,Result.andThen_ok,Sem.run_pure]
       ·refine hr.mem.write hk LM.os LM.tape ⟨LM.output,Q9⟩ LM.size (fun g' iW gZ=>LM.block g' iW (fun e=>gZ (by simp only[br];simpa using e))) rfl ⟨_,gr,hm⟩ (fun g' iW=>iW)
      ·exact bA h
     ·exact bA h
    ·exact bA h
   ·exact bA h
  ·exact bA h
 ·exact bA h
theorem Jf {fb:Prop} (ht:eH C) {op:BinOp} {xT yT T:TypeId} {x y:Operand} {K:KK} (bA:fb→bp C s (.binOp op xT x y yT) T H K) (h:Av fb C s op xT x y H K):bp C s (.binOp op xT x y yT) T H K:=by
 unfold Av at h;split at h
 ·rename_i i0 e hT;split at h
  ·rename_i k sz lo n hx;split at h
   ·rename_i n' c' hy;split at h
    ·rename_i e' cn xs hk
     have et:=dr h;clear h;obtain⟨hq,hle,h⟩:=et
     obtain rfl:=bE hq
     refine dq fun B ρ o a w ho _ hr=>?_
     have h1:=(ai hr hx).1;have h2:=(ai hr hy).1;rw[ga,bk.part]at h1;rw[ga]at h2
     obtain⟨V,hV⟩:∃V,V=dR (ρ.sl k).1 lo (ρ.sl k).2.2 cn:=⟨_,rfl⟩
     rw[←hV]at h1
     have hn:V.isNone=true→n=0:=fun hb=>by
      have tm:=(hr.mem.ok _ _ hk).2.1
      rcases fj tm with ⟨g1,rfl⟩ | ⟨cap,cur,g1,g2,g3,_⟩
      ·simp only[List.length_nil]at hle;omega
      ·rw[hV,dR,g1]at hb;simp only at hb;split at hb
       ·cases hb
       ·cases hb
     have hv:eqv C xT (.v (.slice V n ((ρ.sl k).2.2 - lo))) (.v (.slice none n' c'))=some V.isNone:=by
      unfold eqv;rw[hT];simp only[HB,oB,hT]
     obtain⟨e1,e2,e3⟩:=HS ht hv ρ w;simp only[ga]at e1 e2 e3;have h3:=h V.isNone hn;split at h3
     ·refine⟨_,_,H,ρ,w,?_,h3,hr,Le.refl H,by rw[bool,SV.lt]⟩;simp only[execOp,ho,h1,h2,Sem.run_bind,e2,Result.andThen_ok,e3,e1,ga,bool]
      rfl
     ·refine⟨_,_,H,ρ,w,?_,h3,hr,Le.refl H,by rw[bool,SV.lt]⟩;simp only[execOp,ho,h1,h2,Sem.run_bind,e2,Result.andThen_ok,e3,e1,ga,bool]
      rfl
     ·exact h3.elim
    ·exact h.elim
   ·exact bA h
  ·exact bA h
 ·exact bA h
theorem Ri {fb:Prop} (ht:eH C) {op:Op} {T:TypeId} {K:KK} (bA:fb→bp C s op T H K) (h:I1 fb C s op T H K):bp C s op T H K:=by
 unfold I1 at h;split at h
 ·exact Jd ht bA h
 ·exact Rh ht bA h
 ·exact Jf ht bA h
 ·exact FF bA h
 ·exact Je ht bA h
 ·exact AR ht bA h
 ·exact Oz ht bA h
 ·exact OC ht bA h
 ·exact OE (fb:=fb) bA h
 ·rename_i c;split at h
  ·rename_i b hc;split at h
   ·exact Oy ht hc bA h
   ·exact FD ht hc bA h
   ·exact LR ht hc bA h
   ·exact OF hc bA h
   ·exact OG hc bA h
   ·exact FE hc bA h
   ·exact Rc ht hc bA h
   ·exact OB hc bA h
   ·exact LV hc bA h
   ·exact bA h
  ·exact bA h
 ·exact bA h
theorem Rel.LY (hr:Rel C B ρ s H a w) {k:Nat} {e:TypeId} {sz:Nat} {xs:List (List Value)} (hk:lk s.bx k=some (.row e sz xs)) {n:Nat} (hn:n≤xs.length) (cn:Nat):
  ∃ρ',Rel C B ρ' ((s.box k .dead).new (.row e sz (xs.take n))) H a w∧ga ρ' (.own s.nx)=ρ.part k cn 0 n:=by
 have hb:=(hr.mem.ok _ _ hk).2.1
 have hlen:(xs.take n).length=n:=by rw[List.length_take];omega
 obtain⟨ρ',iX,hg⟩:=hr.CG (e:=e) (sz:=sz) (xs:=xs.take n) (w':=w) (v:=((ρ.sl k).1,n,(ρ.sl k).2.2)) hk rfl rfl ⟨rfl,Nat.le_refl _⟩ (Nat.le_refl _) (fun _ _ _=>rfl)
  (by
   rw[hlen,kr n (fun x hx=>(hb.2.1 x hx).1)];have yk:xs.flatten.length=xs.length*sz:=hb.1.1;refine⟨by rw[List.length_take,yk];exact Nat.min_eq_left (Nat.mul_le_mul_right _ hn),?_⟩
   rcases fj hb with ⟨h1,rfl⟩ | ⟨cap,cur,h1,h2,h3,eI,h4,h5⟩
   ·simp only[List.length_nil]at hn;exact .inl ⟨by rw[h1,show n=0 by omega],by omega⟩
   ·refine .inr ⟨ρ.b k,cap,cur,by rw[h1],Nat.zero_le _,h2,by omega,eI,h4,?_⟩
    rw[←h5,List.take_take,Nat.min_eq_left (Nat.mul_le_mul_right _ hn)])
  (fun x hx=>hb.2.1 x (List.mem_of_mem_take hx))
  (fun g hg=>.inl (by
   simp only[br,bk.val]
   cases hs:(ρ.sl k).1 with
   | none=>simp [hs,Value.ownBlock]at hg
   | some ad=>simpa [hs,Value.ownBlock] using hg))
 refine⟨ρ',iX,?_⟩;rw[hg,bk.part]
 congr 1
 unfold dR;split
 ·rfl
 ·rcases fj hb with ⟨h1,rfl⟩ | ⟨cap,cur,h1,h2,h3,eI,h4,h5⟩
  ·rw[h1];rfl
  ·rw[h1];simp [Addr.add]
theorem CU {x:Operand} {T:TypeId} {K:KK} (h:match get s x with
  | some (.sub k sz lo n)=>K (.sub k sz lo n) s H∨La k lo n s H K
  | some y=>K y s H
  | none=>False):bp C s (.move x) T H K∧bp C s (.assign x) T H K:=by
 split at h
 ·rename_i k sz lo n hx
  rcases h with h | h
  ·have:=vD (C:=C) (s:=s) (H:=H) (T:=T) (x:=x) (K:=K) (by rw[hx];exact h);exact⟨bd this.1,bd this.2⟩
  ·unfold La at h;split at h
   ·rename_i e cn xs hk;obtain⟨⟨rfl,hn⟩,h⟩:=h
    constructor <;>
    ·refine dq fun B ρ o a w ho _ hr=>?_
     obtain⟨ρ',iX,hg⟩:=hr.LY hk hn sz;refine⟨_,_,H,ρ',w,?_,h,iX,Le.refl H,by rw[SV.lt];exact Nat.ble_eq_true_of_le (Nat.le_refl _)⟩;have h1:=(ai hr hx).1;rw[ga]at h1;simp only[execOp,ho,h1,hg]
     rfl
   ·exact h.elim
 ·rename_i y _ hx;have:=vD (C:=C) (s:=s) (H:=H) (T:=T) (x:=x) (K:=K) (by rw[hx];exact h);exact⟨bd this.1,bd this.2⟩
 ·exact h.elim
end
end Go.Sy
end
section
namespace Go.Sy
open Go.RowKit (Below)
section
variable {C:Cx} {B:Bs} {ρ:bk} {s:St} {H:Hp} {a:Act} {w:World} {P:Program}
theorem CV (ht:eH C) {t ty e:TypeId} {i:TypeInfo×TypeDesc} (hT:eY C t=some e) (hi:C.tt e=some i) {z:Value} (hz:i.1.zero=some z) (Jc:z.cells.size=i.1.size)
  {b:Addr} {n:Nat} {y:Value} {xs ys:List (List Value)} (hv:AM w (.slice (some b) n n) i.1.size xs) (hn:AM w y i.1.size ys) (ns:0<ys.length)
  (CM:(xs.length+ys.length)*i.1.bytes≤140737488355328) (hlen:xs.length+ys.length≤9223372036854775807):
  ∃v' w',(Builtin.append_ #[t,t] ty #[.slice (some b) n n,y]).run C.P w = .ok v' w'∧w'.ownsRow 0 e i.1.size v' (xs++ys).length (xs++ys).flatten∧w.grownBy w' none∧(∀g,v'.ownBlock=some g→w.heap.size≤g)∧w.drawn≤w'.drawn∧∃a l c,v' = .slice a l c:=by
 have hu:=ep ht hT;have oK:=AN ht hi
 have uq:∀ {zs:List (List Value)},(∀x∈zs,x.length=i.1.size∧∀u∈x,u.oneCell'=true)→zs.flatten.length=zs.length*i.1.size:=fun h=>iI fun x hx=>(h x hx).1
 have Qj:=uq hv.1;have KQ:=uq hn.1
 rcases hv.2 with ⟨h1,_⟩ | ⟨ad,c,h1,Ys⟩
 ·cases h1
 ·simp only[Value.slice.injEq,Option.some.injEq]at h1;obtain⟨rfl,rfl,rfl⟩:=h1
  rcases hn.2 with ⟨rfl,rfl⟩ | ⟨iy,c2,rfl,VO⟩
  ·exact absurd ns (Nat.lt_irrefl 0)
  ·have hm:xs.length+ys.length≤maxLen:=by simp only[maxLen];omega
   have hr:=run_append_grow (P:=C.P) w t ty e i.1 z hu oK hz b xs.length xs.length xs.flatten Qj Ys iy ys.length c2 ys.flatten KQ VO (by omega) (by omega) (growslice_fits (by omega) CM);refine⟨_,_,hr,?_,⟨rfl,rfl,rfl,by simp,fun k hk _=>heap_alloc_old w.drew _ k hk⟩,fun g hg=>?_,Nat.le_succ _,_,_,_,rfl⟩
   ·have vu:=grownCap_ge w (xs.length+ys.length) xs.length e;have Q8:grownCap w (xs.length+ys.length) xs.length e≤maxLen:=grownCap_le_maxLen w (xs.length+ys.length) xs.length e hm
    have vi:(xs.flatten++ys.flatten).length=(xs.length+ys.length)*i.1.size:=by rw[List.length_append,Qj,KQ,Nat.add_mul]
    rw[List.length_append,List.flatten_append];refine⟨vi,.inr ⟨w.heap.size,_,_,rfl,Nat.zero_le _,heap_alloc_new w.drew _,vu,Q8,?_,?_⟩⟩
    ·simp only[Array.size_append,List.size_toArray,size_zeroCells,Jc,Qj,KQ,←Nat.add_mul]
     congr 1
     omega
    ·simp only[Array.toList_append,List.append_assoc];rw[←List.append_assoc,←vi];exact List.take_left
   ·simp only[Value.ownBlock,Option.some.injEq]at hg;omega
theorem Jg {fb:Prop} (ht:eH C) {c:Call} {T:TypeId} {K:KK} (hc:c.callee = .builtin .append) (bA:fb→bp C s (.call c) T H K) (h:match c.args.toList with
    | [x,y]=>match c.argTypes.toList with
     | [t,t']=>bif Nat.beq t t' then (match I0 s (get s x) with
      | some _=>fb
      | none=>match get s x with
      | some (.sub _ _ _ _)=>fb
      | some x'=>match get s y with
       | some y'=>vx C t x' y' s H K
       | none=>False
      | none=>False) else fb
     | _=>False
    | _=>False):bp C s (.call c) T H K:=by
 split at h
 ·rename_i x y hx
  have ha:c.args=#[x,y]:=by apply Array.ext';simpa using hx
  split at h
  ·rename_i t t' Jb
   have sZ:c.argTypes=#[t,t']:=by apply Array.ext';simpa using Jb
   cases AO:Nat.beq t t' with
   | false=>rw[AO]at h;exact bA h
   | true =>
    rw[AO]at h;simp only[cond_true]at h;obtain rfl:=bE AO;split at h
    ·exact bA h
    split at h
    ·exact bA h
    ·rename_i x' _ mj;split at h
     ·rename_i y' E4;unfold vx at h;split at h
      ·exact h.elim
      ·rename_i e he;split at h
       ·exact h.elim
       ·rename_i i hi;split at h
        ·exact h.elim
        ·rename_i z hz;obtain⟨hb,h⟩:=dr h;simp only[Bool.and_eq_true]at hb;have Jc:=bE hb.1;have cN:=dp hb.2
         refine dq fun B ρ o a w ho _ hr=>?_
         obtain⟨ys,h,hn⟩:=jh hr cN h;obtain⟨e1,l1⟩:=ai hr mj;obtain⟨e2,l2⟩:=ai hr E4
         have fA:(execOp a.eval o).run C.P w=((do pure (.value (←Builtin.append_ #[t,t] o.type #[ga ρ x',ga ρ y'])):Sem Next)).run C.P w:=by
          rw[ba ho hc,ha,sZ];simp only[builtin,List.map_toArray,List.map_cons,List.map_nil,e1,e2]
         split at h
         ·rename_i k;split at h
          ·rename_i e' sz xs hk
           have et:=dr h;clear h;obtain⟨yw,⟨CM,hlen⟩,h⟩:=et
           simp only[Bool.and_eq_true]at yw;obtain rfl:=bE yw.1;obtain rfl:=bE yw.2;have tm:=(hr.mem.ok _ _ hk).2.1;obtain⟨v',w',r1,r2,r3,r4,r5,a',l',c',rfl⟩:=nq (ty:=o.type) ht he hi hz Jc cN tm.1 hn CM hlen
           obtain⟨ρ',iX,hg⟩:=hr.CG (v:=(a',l',c')) hk r3.os r3.tape ⟨r3.output,r5⟩ r3.size (fun g hg gZ=>r3.block g hg (fun e=>gZ e.symm)) r2 (fun x hx=>by
            rcases List.mem_append.1 hx with hx | hx
            ·exact tm.2.1 x hx
            ·exact hn.1 x hx) (fun g hg=>r4 g hg)
           refine⟨_,_,H,ρ',w',?_,h,iX,Le.refl H,by rw[SV.lt];exact Nat.ble_eq_true_of_le (Nat.le_refl _)⟩;rw[fA,hg,ga,Sem.run_bind,r1]
           rfl
          ·exact h.elim
         ·obtain⟨⟨CM,hlen⟩,h⟩:=h;obtain⟨v',w',r1,r2,r3,r4,r5,a',l',c',rfl⟩:=nq (xs:=[]) (v:=.slice none 0 0) (ty:=o.type) ht he hi hz Jc cN (World.ownsRow_nil w 0 e i.1.size) hn (by simpa using CM) (by simpa using hlen)
          obtain⟨ρ',iX,hg⟩:=hr.yW (v:=(a',l',c')) r3.os r3.tape ⟨r3.output,r5⟩ r3.size (fun g hg=>r3.block g hg (by simp [Value.ownBlock])) (by simpa using r2) (fun x hx=>hn.1 x hx) (fun g hg=>by
           rcases r4 g hg with h | h
           ·simp [Value.ownBlock]at h
           ·exact h)
          refine⟨_,_,H,ρ',w',?_,h,iX,Le.refl H,by rw[SV.lt];exact Nat.ble_eq_true_of_le (Nat.le_refl _)⟩;rw[fA,hg,ga,Sem.run_bind,r1]
          rfl
         ·obtain⟨xs,⟨gF,rfl,ns,CM,hlen⟩,h⟩:=h;obtain⟨Vw,yX,hv⟩:=jh (y:=.v (.slice (some _) _ _)) (K:=fun z=>z=xs) hr cN ⟨xs,gF,rfl⟩;subst yX;obtain⟨v',w',r1,r2,r3,r4,r5,a',l',c',rfl⟩:=CV (ty:=o.type) ht he hi hz Jc hv hn ns CM hlen
          obtain⟨ρ',iX,hg⟩:=hr.yW (v:=(a',l',c')) r3.os r3.tape ⟨r3.output,r5⟩ r3.size (fun g hg=>r3.block g hg (by simp)) r2 (fun x hx=>by
            rcases List.mem_append.1 hx with hx | hx
            ·exact hv.1 x hx
            ·exact hn.1 x hx) r4
          refine⟨_,_,H,ρ',w',?_,h,iX,Le.refl H,by rw[SV.lt];exact Nat.ble_eq_true_of_le (Nat.le_refl _)⟩;rw[fA,hg,ga,Sem.run_bind,r1]
          rfl
         ·exact h.elim
     ·exact h.elim
    ·exact h.elim
  ·exact h.elim
 ·exact h.elim
theorem AS (ht:eH C) {op:Op} {T:TypeId} {K:KK} (h:Qe C s op T H K):bp C s op T H K:=by
 have bA:I1 (bp C s op T H K) C s op T H K→bp C s op T H K:=Ri ht id;unfold Qe at h
 cases op with
 | move x=>exact (CU h).1
 | assign x=>exact (CU h).2
 | pick c x y=>exact (HM h).elim bd bA
 | binOp op xT x y yT =>
  simp only[ou]at h;split at h
  ·exact bA h
  ·exact (Lx ht h).elim bd bA
 | unOp op xT x =>
  cases op with
  | not=>exact (Ll h).elim bd bA
  | neg=>exact (Lm h).elim bd bA
  | xor=>exact bA h
  | plus=>exact bA h
 | box T' x=>exact Q0 h
 | alloc T'=>exact Ln ht h
 | build T' ps=>exact (CE ht h).elim bd bA
 | buildSlice T' n ps=>exact (yt ht h).elim id bA
 | fieldAddr T' x f=>exact (rM ht h).elim bd bA
 | field T' x f=>exact (Cz ht h).elim bd bA
 | load T' x=>exact (HR ht h).elim bd bA
 | store T' x y=>exact Lu ht h
 | nilCheck x=>exact (ur h).elim bd bA
 | convert src dst x=>exact (wI ht h).elim bd bA
 | indexAddr T' x i=>exact (rN ht h).elim bd bA
 | index T' x i=>exact (CA ht h).elim bd bA
 | extract x i=>exact (wx h).elim bd bA
 | makeFunc fn first cap=>exact (CB h).elim bd bA
 | slice T' x lo hi mx =>
  simp only[ou]at h;split at h
  ·rename_i k hk
   rcases h with h | h
   ·exact ok_slice ht hk h
   ·exact (tl ht h).elim bd bA
  ·exact (tl ht h).elim bd bA
 | call c =>
  obtain⟨callee,args,VP⟩:=c
  cases callee with
  | value g=>exact LH rfl h
  | invoke r m=>exact bA h
  | builtin b =>
   cases b with
   | len=>exact (LI ht rfl h).elim bd bA
   | append=>exact Jg ht rfl bA h
   | min=>exact (LJ rfl h).elim bd bA
   | max=>exact (LK rfl h).elim bd bA
   | _=>exact bA h
 | _=>exact bA h
end
end Go.Sy
end
section
/- A region whose order is open. -/
namespace Go.Sy
open Go.RowKit (Below)
section
variable {C:Cx} {s:St} {H:Hp}
theorem cb {b:Bool} {p:Prop} (h:bif b then p else False):b=true∧p:=by
 cases b
 ·exact h.elim
 ·exact⟨rfl,h⟩
theorem kH {k:IntKind} {n:Int} {K:SV→Prop} (h:arith C k n K):∃x,K x∧∀K':SV→Prop,K' x→arith C k n K':=by
 unfold arith at *
 cases hw:C.wrap with
 | true=>rw[hw]at h;exact⟨_,h,fun K' h'=>h'⟩
 | false=>rw[hw]at h;exact⟨_,h.2,fun K' h'=>⟨h.1,h'⟩⟩
theorem AU {op:BinOp} {k:IntKind} {a b:Int} {K:SV→Prop} (h:Ao C op k a b K):∃x,K x∧∀K':SV→Prop,K' x→Ao C op k a b K':=by
 cases op<;>simp only[Ao]at h ⊢
 case add=>exact kH h
 case sub=>exact kH h
 case mul=>exact kH h
 case quo=>obtain⟨x,h1,h2⟩:=kH h.2;exact⟨x,h1,fun K' h'=>⟨h.1,h2 K' h'⟩⟩
 case rem=>exact⟨_,h.2,fun K' h'=>⟨h.1,h'⟩⟩
 case shl=>obtain⟨x,h1,h2⟩:=kH h.2;exact⟨x,h1,fun K' h'=>⟨h.1,h2 K' h'⟩⟩
 case shr=>exact⟨_,h.2,fun K' h'=>⟨h.1,h'⟩⟩
 all_goals exact⟨_,h,fun K' h'=>h'⟩
theorem OI {op:BinOp} {a b:ByteArray} {K:SV→Prop} (h:IZ op a b K):∃x,K x∧∀K':SV→Prop,K' x→IZ op a b K':=by
 cases op<;>simp only[IZ]at h ⊢
 case add=>exact⟨_,h.2,fun K' h'=>⟨h.1,h'⟩⟩
 all_goals first | exact h.elim | exact⟨_,h,fun K' h'=>h'⟩
theorem Rj {op:BinOp} {xT:TypeId} {x y:Option SV} {K:SV→Prop} (h:bin C op xT x y K):∃r,K r∧∀K':SV→Prop,K' r→bin C op xT x y K':=by
 unfold bin at *;split at h
 ·split at h
  ·split at h
   ·exact AU h
   ·exact AU h
   ·obtain⟨hk,h⟩:=cb h;simp only[hk,cond_true];exact AU h
  ·exact h.elim
 ·split at h
  ·exact OI h
  ·exact h.elim
 ·split at h
  ·obtain⟨hk,h⟩:=h;unfold HC at *;split at h
   ·obtain⟨re,im,h1,h2⟩:=h;exact⟨_,h2,fun K' h'=>⟨hk,re,im,h1,h'⟩⟩
   ·obtain⟨re,im,h1,h2⟩:=h;exact⟨_,h2,fun K' h'=>⟨hk,re,im,h1,h'⟩⟩
   ·obtain⟨h0,re,im,h1,h2⟩:=h;exact⟨_,h2,fun K' h'=>⟨hk,h0,re,im,h1,h'⟩⟩
   ·exact h.elim
  ·exact h.elim
 ·unfold UZ at *;split at h
  ·split at h
   ·split at h
    ·split at h
     ·exact⟨_,h,fun K' h'=>h'⟩
     ·exact⟨_,h,fun K' h'=>h'⟩
     ·exact h.elim
    ·exact h.elim
   ·exact h.elim
  ·exact h.elim
theorem Jh {T:TypeId} {ps:List (Nat×Operand)} {K:SV→Prop} (h:s6 C T ps s K):∃r,K r∧∀K':SV→Prop,K' r→s6 C T ps s K':=by
 unfold s6 at *;split at h
 ·exact h.elim
 ·split at h
  ·exact h.elim
  ·split at h
   ·split at h
    ·split at h
     ·exact⟨_,h,fun K' h'=>h'⟩
     ·exact h.elim
    ·exact h.elim
   ·split at h
    ·split at h
     ·exact⟨_,h,fun K' h'=>h'⟩
     ·exact h.elim
    ·exact h.elim
   ·exact h.elim
theorem LZ {y:SV} {sz:Nat} {K:List (List Value)→Prop} (h:rowOf s H y sz K):∃xs,K xs∧∀K':List (List Value)→Prop,K' xs→rowOf s H y sz K':=by
 unfold rowOf at *;split at h
 ·split at h
  ·obtain⟨hb,h⟩:=cb h;exact⟨_,h,fun K' h'=>by simp only[hb,cond_true];exact h'⟩
  ·exact h.elim
 ·split at h
  ·obtain⟨hb,hn,h⟩:=cb h;exact⟨_,h,fun K' h'=>by simp only[hb,cond_true];exact⟨hn,h'⟩⟩
  ·exact h.elim
 ·obtain⟨xs,h1,h2⟩:=h;exact⟨xs,h2,fun K' h'=>⟨xs,h1,h'⟩⟩
 ·exact h.elim
theorem Ji {T':TypeId} {x:Operand} {lo hi:Option Operand} {K:SV→Prop} (hx:∀k sz l n,get s x≠some (.sub k sz l n)) (h:oC False C s T' x lo hi none K):∃r,K r∧∀K':SV→Prop,K' r→oC False C s T' x lo hi none K':=by
 unfold oC at *;split at h
 ·simp only at h ⊢;split at h
  ·split at h
   ·exact h.elim
   ·split at h
    ·exact h.elim
    ·exact⟨_,h.2,fun K' h'=>⟨h.1,h'⟩⟩
  ·exact h.elim
 ·split at h
  ·exact h.elim
  ·simp only at h ⊢;split at h
   ·split at h
    ·exact h.elim
    ·split at h
     ·exact h.elim
     ·exact⟨_,h.2,fun K' h'=>⟨h.1,h'⟩⟩
   ·split at h
    ·split at h
     ·exact h.elim
     ·split at h
      ·exact h.elim
      ·obtain⟨hb,h1,h2⟩:=cb h;exact⟨_,h2,fun K' h'=>by simp only[hb,cond_true];exact⟨h1,h'⟩⟩
    ·exact h.elim
   ·rename_i hq;exact absurd hq (hx _ _ _ _)
   ·exact h.elim
 ·exact h.elim
theorem Rk {op:Op} {T:TypeId} {K:KK} (hp:NW op=true) (h:vf C s op T H K):∃x,K x s H∧∀K':KK,K' x s H→vf C s op T H K':=by
 cases op with
 | slice T' x lo hi mx =>
  simp only[vf]at *;split at h
  ·exact h.elim
  ·split at h
   ·exact h.elim
   ·rename_i hq;obtain⟨r,h1,h2⟩:=Ji (fun k sz l n hc=>by rw[hc]at hq;exact hq _ _ _ _ rfl) h;exact⟨r,h1,fun K' h'=>h2 _ h'⟩
 | move x =>
  simp only[vf]at *;split at h
  ·exact⟨_,h,fun K' h'=>h'⟩
  ·exact h.elim
 | assign x =>
  simp only[vf]at *;split at h
  ·exact⟨_,h,fun K' h'=>h'⟩
  ·exact h.elim
 | pick c x y =>
  simp only[vf,ou]at *;split at h
  ·split at h
   ·exact⟨_,h,fun K' h'=>h'⟩
   ·exact h.elim
  ·exact h.elim
 | binOp op xT x y yT =>
  simp only[vf,ou]at *;split at h
  ·exact h.elim
  ·obtain⟨r,h1,h2⟩:=Rj h;exact⟨r,h1,fun K' h'=>h2 _ h'⟩
 | unOp op xT x =>
  cases op with
  | not =>
   simp only[vf,ou]at *;split at h
   ·exact⟨_,h,fun K' h'=>h'⟩
   ·exact⟨_,h,fun K' h'=>h'⟩
   ·exact h.elim
  | neg =>
   simp only[vf,ou]at *;split at h
   ·obtain⟨r,h1,h2⟩:=kH h;exact⟨r,h1,fun K' h'=>h2 _ h'⟩
   ·exact h.elim
  | xor=>exact h.elim
  | plus=>exact h.elim
 | fieldAddr T' x f =>
  simp only[vf,ou]at *;split at h
  ·exact h.elim
  ·split at h
   ·split at h
    ·exact⟨_,h,fun K' h'=>h'⟩
    ·exact⟨_,h,fun K' h'=>h'⟩
    ·exact⟨_,h,fun K' h'=>h'⟩
    ·exact h.elim
   ·exact h.elim
 | field T' x f =>
  simp only[vf,ou]at *;split at h
  ·exact h.elim
  ·split at h
   ·split at h
    ·split at h
     ·split at h
      ·exact⟨_,h,fun K' h'=>h'⟩
      ·exact h.elim
     ·exact h.elim
    ·exact h.elim
   ·exact h.elim
 | load T' x =>
  simp only[vf,ou]at *;split at h
  ·exact h.elim
  ·split at h
   ·split at h
    ·obtain⟨hb,h⟩:=cb h;simp only[hb,cond_true];split at h
     ·exact⟨_,h,fun K' h'=>h'⟩
     ·exact h.elim
    ·exact h.elim
   ·obtain⟨cs,h0,h⟩:=h;obtain⟨hb,h⟩:=cb h;split at h
    ·rename_i hm;exact⟨_,h,fun K' h'=>⟨cs,h0,by simp only[hb,cond_true,hm];exact h'⟩⟩
    ·exact h.elim
   ·split at h
    ·obtain⟨hb,cs,h0,h⟩:=cb h;obtain⟨uu,h⟩:=cb h;simp only[hb,cond_true];split at h
     ·rename_i hm;exact⟨_,h,fun K' h'=>⟨cs,h0,by simp only[uu,cond_true,hm];exact h'⟩⟩
     ·exact h.elim
    ·exact h.elim
   ·exact h.elim
 | convert src dst x =>
  simp only[vf,ou]at *;split at h
  ·split at h
   ·split at h
    ·obtain⟨r,h1,h2⟩:=kH h;exact⟨r,h1,fun K' h'=>h2 (fun r=>K' r s H) h'⟩
    ·exact h.elim
   ·split at h
    ·exact⟨_,h,fun K' h'=>h'⟩
    ·split at h
     ·exact h.elim
     ·split at h
      ·obtain⟨xs,⟨b,e,h⟩,hk⟩:=LZ h;exact⟨_,h,fun K' h'=>hk _ ⟨b,e,h'⟩⟩
      ·exact h.elim
    ·exact h.elim
   ·exact h.elim
  ·exact h.elim
 | nilCheck x =>
  simp only[vf,ou]at *;split at h
  ·exact⟨_,h,fun K' h'=>h'⟩
  ·exact⟨_,h,fun K' h'=>h'⟩
  ·exact⟨_,h,fun K' h'=>h'⟩
  ·exact⟨_,h,fun K' h'=>h'⟩
  ·exact h.elim
 | indexAddr T' x i =>
  simp only[vf,ou]at *;split at h
  ·exact h.elim
  ·split at h
   ·exact h.elim
   ·split at h
    ·split at h
     ·obtain⟨ad,h0,h⟩:=h;exact⟨_,h,fun K' h'=>⟨ad,h0,h'⟩⟩
     ·split at h
      ·obtain⟨hb,h0,h⟩:=cb h;simp only[hb,cond_true];exact⟨_,h,fun K' h'=>⟨h0,h'⟩⟩
      ·exact h.elim
     ·split at h
      ·obtain⟨hb,h0,h⟩:=cb h;simp only[hb,cond_true];exact⟨_,h,fun K' h'=>⟨h0,h'⟩⟩
      ·exact h.elim
     ·exact h.elim
    ·exact h.elim
 | index T' x i =>
  simp only[vf,ou]at *;split at h
  ·split at h
   ·split at h
    ·obtain⟨c,h0,h⟩:=h;exact⟨_,h,fun K' h'=>⟨c,h0,h'⟩⟩
    ·exact h.elim
   ·exact h.elim
  ·exact h.elim
 | extract t i =>
  simp only[vf,ou]at *;split at h
  ·split at h
   ·exact⟨_,h,fun K' h'=>h'⟩
   ·exact h.elim
  ·exact h.elim
 | build T' ps =>
  simp only[vf,ou]at *;obtain⟨r,h1,h2⟩:=Jh h;exact⟨r,h1,fun K' h'=>h2 _ h'⟩
 | call c =>
  obtain⟨callee,args,VP⟩:=c
  cases callee with
  | builtin b =>
   cases b with
   | len =>
    simp only[vf,ou]at *;split at h
    ·split at h
     ·split at h
      ·split at h
       ·exact⟨_,h,fun K' h'=>h'⟩
       ·split at h
        ·exact⟨_,h,fun K' h'=>h'⟩
        ·exact h.elim
       ·exact⟨_,h,fun K' h'=>h'⟩
       ·exact h.elim
      ·split at h
       ·exact⟨_,h,fun K' h'=>h'⟩
       ·exact h.elim
      ·exact h.elim
     ·exact h.elim
    ·exact h.elim
   | min =>
    simp only[vf,ou]at *;split at h
    ·split at h
     ·split at h
      ·exact⟨_,h,fun K' h'=>h'⟩
      ·exact h.elim
     ·exact h.elim
    ·exact h.elim
   | max =>
    simp only[vf,ou]at *;split at h
    ·split at h
     ·split at h
      ·exact⟨_,h,fun K' h'=>h'⟩
      ·exact h.elim
     ·exact h.elim
    ·exact h.elim
   | _=>cases hp
  | _=>cases hp
 | _=>cases hp
theorem OJ (ht:eH C) {op:Op} {T:TypeId} {K:KK} (hp:NW op=true) (h:vf C s op T H K):lR C s op T H K:=by
 cases op with
 | move x=>exact (vD h).1
 | assign x=>exact (vD h).2
 | pick c x y=>exact (HM (fb:=False) h).elim id False.elim
 | binOp op xT x y yT =>
  simp only[vf,ou]at h;split at h
  ·exact h.elim
  ·exact (Lx ht (fb:=False) h).elim id False.elim
 | unOp op xT x =>
  cases op with
  | not=>exact (Ll (fb:=False) h).elim id False.elim
  | neg=>exact (Lm (fb:=False) h).elim id False.elim
  | xor=>exact h.elim
  | plus=>exact h.elim
 | fieldAddr T' x f=>exact (rM ht h).elim id False.elim
 | field T' x f=>exact (Cz (fb:=False) ht h).elim id False.elim
 | load T' x=>exact (HR ht h).elim id False.elim
 | nilCheck x=>exact (ur h).elim id False.elim
 | convert src dst x=>exact (wI ht (fb:=False) h).elim id False.elim
 | indexAddr T' x i=>exact (rN ht h).elim id False.elim
 | index T' x i=>exact (CA ht h).elim id False.elim
 | slice T' x lo hi mx =>
  simp only[vf]at h;split at h
  ·exact h.elim
  ·split at h
   ·exact h.elim
   ·exact (tl ht h).elim id False.elim
 | extract x i=>exact (wx (fb:=False) h).elim id False.elim
 | build T' ps=>exact (CE (fb:=False) ht h).elim id False.elim
 | call c =>
  obtain⟨callee,args,VP⟩:=c
  cases callee with
  | builtin b =>
   cases b with
   | len=>exact (LI ht rfl h).elim id False.elim
   | min=>exact (LJ rfl h).elim id False.elim
   | max=>exact (LK rfl h).elim id False.elim
   | _=>cases hp
  | _=>cases hp
 | _=>cases hp
def Ext (s s':St):Prop:=s.nx≤s'.nx∧∃pre,s'.bx=pre++s.bx
theorem Ext.refl (s:St):Ext s s:=⟨Nat.le_refl _,[],rfl⟩
theorem Ext.trans {s s' nh:St} (h:Ext s s') (h':Ext s' nh):Ext s nh:=by
 obtain⟨h1,p,e⟩:=h;obtain⟨h2,q,f⟩:=h';exact⟨Nat.le_trans h1 h2,q++p,by rw[f,e,List.append_assoc]⟩
theorem Ext.new (s:St) (b:Bx):Ext s (s.new b):=⟨Nat.le_succ _,[(s.nx,b)],rfl⟩
theorem Ext.box (s:St) (k:Nat) (b:Bx):Ext s (s.box k b):=⟨Nat.le_refl _,[(k,b)],rfl⟩
def fW (hs:List Nat) (s s':St):Prop:=s.nx≤s'.nx∧∀k,k<s.nx→gp k hs=false→lk s'.bx k=lk s.bx k
theorem fW.refl {hs:List Nat} (s:St):fW hs s s:=⟨Nat.le_refl _,fun _ _ _=>rfl⟩
theorem fW.trans {hs:List Nat} {s s' nh:St} (h:fW hs s s') (h':fW hs s' nh):fW hs s nh:=⟨Nat.le_trans h.1 h'.1,fun k hk hc=>(h'.2 k (Nat.lt_of_lt_of_le hk h.1) hc).trans (h.2 k hk hc)⟩
theorem HY {hs:List Nat} {nx:Nat}:∀(pre r:List (Nat×Bx)),wj hs nx pre.length (pre++r)=true→∀k,k<nx→gp k hs=false→lk (pre++r) k=lk r k
 | [],r,_,k,_,_=>rfl
 | (j,b)::pre,r,h,k,hk,hc=>by
  simp only[List.length_cons,List.cons_append,wj]at h
  obtain⟨h1,h2⟩:(bif Nat.ble nx j then true else gp j hs)=true∧wj hs nx pre.length (pre++r)=true:=by
   revert h
   cases (bif Nat.ble nx j then true else gp j hs) with
   | true=>exact fun h=>⟨rfl,h⟩
   | false=>exact fun h=>by cases h
  rw[List.cons_append,aT]
  have cu:j≠k:=by
   intro e;subst e
   cases hb:Nat.ble nx j with
   | true=>have:=Nat.le_of_ble_eq_true hb;omega
   | false=>rw[hb,hc]at h1;cases h1
  rw[if_neg cu];exact HY pre r h2 k hk hc
theorem fW.Rl {hs:List Nat} {s s':St} (h:Ext s s') (hk:yP hs s s'=true):fW hs s s':=by
 obtain⟨h1,pre,e⟩:=h;refine⟨h1,fun k aj hc=>?_⟩;unfold yP at hk;rw[e]at hk ⊢;rw[List.length_append,Nat.add_sub_cancel]at hk;exact HY pre s.bx hk k aj hc
mutual
theorem AV:∀(x:SV) {s:St} {H:Hp} {K K':Value→St→Hp→Prop},fz x s H K→(∀v s H,K v s H→K' v s H)→fz x s H K'
 | .v x,s,H,K,K',h,hk=>by rw[fz]at *;exact hk _ _ _ h
 | .kb b,s,H,K,K',h,hk=>by rw[fz]at *;exact hk _ _ _ h
 | .own k,s,H,K,K',h,hk=>by
  rw[fz]at *;split at h
  ·exact fun x H' h1 h2=>hk _ _ _ (h x H' h1 h2)
  ·exact hk _ _ _ h
  ·exact h.elim
 | .sub k sz lo n,s,H,K,K',h,hk=>by
  rw[fz]at *;split at h
  ·rename_i kY;obtain⟨hq,hn,h⟩:=cb h;rw[hq];exact⟨hn,fun x v H' h1 h2 h3=>hk _ _ _ (h x v H' h1 h2 h3)⟩
  ·exact hk _ _ _ h
  ·exact h.elim
 | .agg cs,s,H,K,K',h,hk=>by rw[fz]at *;exact kI cs h fun _ _ _=>hk _ _ _
 | .fn f cs,s,H,K,K',h,hk=>by rw[fz]at *;exact kI cs h fun _ _ _=>hk _ _ _
 | .eo cs,s,H,K,K',h,hk=>by rw[fz]at *;exact kI cs h fun _ _ _=>hk _ _ _
 | .ptr _ _,s,H,K,K',h,hk=>by rw[fz]at h;exact h.elim
 | .el _ _ _ _,s,H,K,K',h,hk=>by rw[fz]at h;exact h.elim
 | .rel _ _ _ _,s,H,K,K',h,hk=>by rw[fz]at h;exact h.elim
 | .mp _,s,H,K,K',h,hk=>by rw[fz]at h;exact h.elim
theorem kI:∀(l:List SV) {s:St} {H:Hp} {K K':List Value→St→Hp→Prop},Aq l s H K→(∀v s H,K v s H→K' v s H)→Aq l s H K'
 | [],s,H,K,K',h,hk=>by rw[Aq]at *;exact hk _ _ _ h
 | x::r,s,H,K,K',h,hk=>by
  rw[Aq]at *
  exact AV x h fun v s1 H1 h1=>kI r h1 fun vs s2 H2 h2=>hk _ _ _ h2
end
theorem aq.mono {P:Program} {f:FuncId} {args:List Value} {K K':Value→Hp→Prop} (h:aq P f args H K) (hk:∀v H',K v H'→K' v H'):aq P f args H K' :=
 ⟨h.1,fun w hp=>(h.2 w hp).mono fun _ _ ⟨v,H',h1,h2,h3⟩=>⟨v,H',h1,hk _ _ h2,h3⟩⟩
mutual
theorem HZ:∀(x:SV) {s:St} {H:Hp} {K:Value→St→Hp→Prop},fz x s H K→fz x s H fun v s' H'=>K v s' H'∧Ext s s'
 | .v x,s,H,K,h=>by rw[fz]at *;exact⟨h,Ext.refl s⟩
 | .kb b,s,H,K,h=>by rw[fz]at *;exact⟨h,Ext.refl s⟩
 | .own k,s,H,K,h=>by
  rw[fz]at *;split at h
  ·rename_i hk
   exact fun x H' h1 h2=>⟨h x H' h1 h2,Ext.box _ _ _⟩
  ·exact⟨h,Ext.refl s⟩
  ·exact h.elim
 | .sub k sz lo n,s,H,K,h=>by
  rw[fz]at *;split at h
  ·rename_i kY;obtain⟨hq,hn,h⟩:=cb h;rw[hq];exact⟨hn,fun x v H' h1 h2 h3=>⟨h x v H' h1 h2 h3,Ext.box _ _ _⟩⟩
  ·exact⟨h,Ext.refl s⟩
  ·exact h.elim
 | .agg cs,s,H,K,h=>by rw[fz]at *;exact mm cs h
 | .fn f cs,s,H,K,h=>by rw[fz]at *;exact mm cs h
 | .eo cs,s,H,K,h=>by rw[fz]at *;exact mm cs h
 | .ptr _ _,s,H,K,h=>by rw[fz]at h;exact h.elim
 | .el _ _ _ _,s,H,K,h=>by rw[fz]at h;exact h.elim
 | .rel _ _ _ _,s,H,K,h=>by rw[fz]at h;exact h.elim
 | .mp _,s,H,K,h=>by rw[fz]at h;exact h.elim
theorem mm:∀(l:List SV) {s:St} {H:Hp} {K:List Value→St→Hp→Prop},Aq l s H K→Aq l s H fun v s' H'=>K v s' H'∧Ext s s'
 | [],s,H,K,h=>by rw[Aq]at *;exact⟨h,Ext.refl s⟩
 | x::r,s,H,K,h=>by
  rw[Aq]at *
  exact AV x (HZ x h) fun v s1 H1 ⟨h1,h2⟩=>kI r (mm r h1) fun vs s2 H2 ⟨h3,h4⟩=>⟨h3,h2.trans h4⟩
end
theorem qK (m:List Nat):∀(l:List SV) {s:St} {H:Hp} {K K':List SV→St→Hp→Prop},uk m l s H K→(∀ys s' H',K ys s' H'→Ext s s'→K' ys s' H')→uk m l s H K'
 | [],s,H,K,K',h,hk=>hk _ _ _ h (Ext.refl s)
 | x::r,s,H,K,K',h,hk=>by
  rw[uk]at *;split at h
  ·exact qK m r h fun ys s' H' h1 h2=>hk _ _ _ h1 h2
  ·rw[we]at *
   exact AV x (HZ x h) fun v s1 H1 ⟨h1,h2⟩=>qK m r h1 fun ys s' H' h3 h4=>hk _ _ _ h3 (h2.trans h4)
theorem aY.mono {P:Program} {f:FuncId} {args:List SV} {bx:List (Nat×Bx)} {nx:Nat} {H:Hp} {K K':SV→St→Hp→Prop} (h:aY P f args bx nx H K) (hk:∀x t H',K x t H'→K' x t H'):aY P f args bx nx H K' :=
 ⟨h.1,fun w ρ hm hl=>(h.2 w ρ hm hl).mono fun _ _ ⟨x,t,H',ρ',h1,h2,h3,h4⟩=>⟨x,t,H',ρ',h1,hk _ _ _ h2,h3,h4⟩⟩
theorem y7:∀(m:List Nat) (bx:List (Nat×Bx)),∃pre,uj m bx=pre++bx
 | [],bx=>⟨[],rfl⟩
 | k::r,bx=>by
  obtain⟨pre,e⟩:=y7 r bx;exact⟨(k,.dead)::pre,by rw[uj,e];rfl⟩
theorem FG {f:FuncId} {args:List SV} {K:KK} (h:Cm C f args s H K):Cm C f args s H fun x s' H'=>K x s' H'∧Ext s s':=by
 obtain⟨m,wE,h⟩:=h;refine⟨m,wE,qK m args h fun ys s1 H1 h1 h2=>?_⟩;obtain⟨QT,Tm,Tn⟩:=s1;simp only at h1 ⊢;split at h1
 ·exact h1.elim
 ·rename_i bl oJ
  refine h1.mono fun x t H2 h3=>?_
  split at h3
  ·exact h3.elim
  ·split at h3
   ·exact h3.elim
   ·rename_i b2 uu;refine⟨h3,h2.trans ⟨Nat.le_add_right _ _,?_⟩⟩;obtain⟨pre,e⟩:=y7 m Tm;exact⟨b2++pre,by rw[e,List.append_assoc]⟩
theorem nu {y:SV} {sz:Nat} {K K':List (List Value)→Prop} (h:rowOf s H y sz K) (hk:∀ys,K ys→K' ys):rowOf s H y sz K':=by
 unfold rowOf at *;split at h
 ·split at h
  ·obtain⟨hb,h⟩:=cb h;simp only[hb,cond_true];exact hk _ h
  ·exact h.elim
 ·split at h
  ·obtain⟨hb,hn,h⟩:=cb h;simp only[hb,cond_true];exact⟨hn,hk _ h⟩
  ·exact h.elim
 ·obtain⟨xs,h1,h2⟩:=h;exact⟨xs,h1,hk _ h2⟩
 ·exact h.elim
theorem wJ {x:SV} {K K':Nat→TypeId→Nat→List (List Value)→Nat→Nat→Prop} (h:rG s x K) (hk:∀k e sz xs lo n,K k e sz xs lo n→K' k e sz xs lo n):rG s x K':=by
 unfold rG at *;split at h
 ·split at h
  ·exact hk _ _ _ _ _ _ h
  ·exact h.elim
 ·split at h
  ·obtain⟨hb,h⟩:=cb h;simp only[hb,cond_true];exact hk _ _ _ _ _ _ h
  ·exact h.elim
 ·exact h.elim
theorem L0 {op:Op} {T:TypeId} {K:KK} (fb:Prop) (h:I1 False C s op T H K):I1 fb C s op T H fun x s' H'=>K x s' H'∧Ext s s':=by
 unfold I1 at *;split at h
 ·split at h
  ·exact h.elim
  ·split at h
   ·exact h.elim
   ·split at h
    ·exact h.elim
    ·split at h
     ·exact h.elim
     ·obtain⟨hb,h⟩:=cb h;simp only[hb,cond_true];split at h
      ·rw[mf]at *;obtain⟨hb,h⟩:=cb h;simp only[hb,cond_true];rw[vw]at *
       exact kI _ (mm _ h) fun vs s1 H1 ⟨h1,h2⟩=>⟨h1,h2.trans (Ext.new _ _)⟩
      ·exact h.elim
 ·split at h
  ·split at h
   ·split at h
    ·split at h
     ·cases Ql:kC C _ with
      | true=>rw[Ql]at h;exact h.elim
      | false =>
       rw[Ql]at h;obtain⟨y,h1,h2⟩:=h;exact⟨y,h1,h2,Ext.refl s⟩
     ·exact h.elim
    ·exact h.elim
   ·exact h.elim
  ·exact h.elim
 ·unfold Av at *;split at h
  ·split at h
   ·split at h
    ·split at h
     ·obtain⟨hb,h0,h⟩:=cb h;simp only[hb,cond_true];refine⟨h0,fun b gr=>?_⟩;have h:=h b gr;split at h
      ·exact⟨h,Ext.refl s⟩
      ·exact⟨h,Ext.refl s⟩
      ·exact h.elim
     ·exact h.elim
    ·exact h.elim
   ·exact h.elim
  ·exact h.elim
 ·unfold Au at *;split at h
  ·exact h.elim
  ·split at h
   ·exact⟨h.1,h.2,Ext.new s _⟩
   ·exact h.elim
 ·unfold HE at *;split at h
  ·exact h.elim
  ·split at h
   ·split at h
    ·split at h
     ·split at h
      ·split at h
       ·obtain⟨n,g,kl,h1,h2,h3⟩:=h;exact⟨n,g,kl,h1,h2,h3,Ext.refl s⟩
       ·exact h.elim
      ·exact h.elim
     ·exact h.elim
    ·exact h.elim
   ·exact h.elim
 ·unfold Oh at *;split at h
  ·split at h
   ·split at h
    ·split at h
     ·split at h
      ·split at h
       ·obtain⟨n,g,kl,h1,h2,h3,h4⟩:=h;exact⟨n,g,kl,h1,h2,h3,h4,Ext.box _ _ _⟩
       ·exact h.elim
      ·exact h.elim
     ·exact h.elim
    ·exact h.elim
   ·exact h.elim
  ·exact h.elim
 ·split at h
  ·exact h.elim
  ·split at h
   ·exact h.elim
   ·split at h
    ·exact h.elim
    ·split at h
     ·exact h.elim
     ·exact⟨h.1,h.2,Ext.new s _⟩
 ·split at h
  ·split at h
   ·exact⟨h.1,h.2,Ext.refl s⟩
   ·exact h.elim
  ·split at h
   ·split at h
    ·exact⟨h,Ext.refl s⟩
    ·exact h.elim
   ·exact h.elim
  ·split at h
   ·split at h
    ·obtain⟨n,hn,h⟩:=h;exact⟨n,hn,h,Ext.refl s⟩
    ·exact h.elim
   ·exact h.elim
  ·exact h.elim
 ·split at h
  ·split at h
   ·exact⟨h,Ext.refl s⟩
   ·exact h.elim
  ·exact h.elim
 ·split at h
  ·split at h
   ·-- copy
    split at h
    ·split at h
     ·split at h
      ·exact h.elim
      ·split at h
       ·exact h.elim
       ·split at h
        ·exact h.elim
        ·split at h
         ·exact h.elim
         ·obtain⟨hb,h⟩:=cb h;simp only[hb,cond_true]
          refine nu h fun ys h=>wJ h fun k e sz xs lo n h=>?_
          obtain⟨hb,h⟩:=cb h;simp only[hb,cond_true];exact⟨h.1,h.2,Ext.box _ _ _⟩
     ·exact h.elim
    ·exact h.elim
   ·-- append
    split at h
    ·split at h
     ·split at h
      ·exact h.elim
      ·split at h
       ·exact h.elim
       split at h
       ·obtain⟨hb,h⟩:=cb h;simp only[hb,cond_true];unfold K9 at *;split at h
        ·exact h.elim
        ·split at h
         ·exact h.elim
         ·split at h
          ·exact h.elim
          ·obtain⟨hb,h⟩:=cb h;simp only[hb,cond_true]
           refine nu h fun ys h=>?_
           obtain⟨k,F,A,D,xs,h1,h2,h3,h4⟩:=h;exact⟨k,F,A,D,xs,h1,h2,h3,fun a c=>⟨h4 a c,Ext.box _ _ _⟩⟩
       ·split at h
        ·obtain⟨hb,h⟩:=cb h;simp only[hb,cond_true];split at h
         ·exact h.elim
         ·refine nu h fun ys h=>?_
          split at h
          ·obtain⟨hb,h⟩:=cb h;simp only[hb,cond_true];exact⟨h.1,h.2,Ext.box _ _ _⟩
          ·exact h.elim
        ·split at h
         ·split at h
          ·split at h
           ·split at h
            ·obtain⟨hb,h⟩:=cb h;simp only[hb,cond_true];exact⟨h.1,h.2.1,h.2.2,(Ext.box _ _ _).trans (Ext.new _ _)⟩
            ·exact h.elim
           ·exact h.elim
          ·exact h.elim
         ·exact h.elim
        ·split at h
         ·split at h
          ·split at h
           ·obtain⟨hb,h⟩:=cb h;simp only[hb,cond_true];exact⟨h.1,h.2.1,h.2.2,Ext.new _ _⟩
           ·exact h.elim
          ·exact h.elim
         ·exact h.elim
        ·exact h.elim
     ·exact h.elim
    ·exact h.elim
   ·-- clear
    split at h
    ·split at h
     ·split at h
      ·exact h.elim
      ·split at h
       ·exact h.elim
       ·split at h
        ·exact h.elim
        ·refine wJ h fun k e sz xs lo n h=>?_
         obtain⟨hb,h⟩:=cb h;simp only[hb,cond_true];exact⟨h.1,h.2,Ext.box _ _ _⟩
     ·exact h.elim
    ·exact h.elim
   ·split at h
    ·split at h
     ·exact⟨h,Ext.refl s⟩
     ·exact h.elim
    ·exact h.elim
   ·split at h
    ·split at h
     ·exact⟨h,Ext.refl s⟩
     ·exact h.elim
    ·exact h.elim
   ·split at h
    ·split at h
     ·split at h
      ·exact⟨h.1,h.2,Ext.refl s⟩
      ·exact h.elim
     ·exact h.elim
    ·exact h.elim
   ·-- cap
    split at h
    ·split at h
     ·split at h
      ·exact h.elim
      ·split at h
       ·split at h
        ·exact fun m h1 h2=>⟨h m h1 h2,Ext.refl s⟩
        ·exact h.elim
       ·exact⟨h,Ext.refl s⟩
       ·exact h.elim
     ·exact h.elim
    ·exact h.elim
   ·-- unsafeSliceData
    split at h
    ·split at h
     ·split at h
      ·split at h
       ·exact⟨fun h1=>⟨h.1 h1,Ext.refl s⟩,fun h1 p=>⟨h.2 h1 p,Ext.refl s⟩⟩
       ·exact h.elim
      ·exact⟨h,Ext.refl s⟩
      ·exact h.elim
     ·exact h.elim
    ·exact h.elim
   ·-- unsafeString
    split at h
    ·split at h
     ·split at h
      ·split at h
       ·exact⟨h.1,h.2,Ext.refl s⟩
       ·split at h
        ·obtain⟨hb,h⟩:=cb h;simp only[hb,cond_true];obtain⟨h1,h2,b,h3,h4,h5,h6⟩:=h;exact⟨h1,h2,b,h3,h4,h5,h6,Ext.box _ _ _⟩
        ·exact h.elim
       ·exact h.elim
      ·exact h.elim
     ·exact h.elim
    ·exact h.elim
   ·exact h.elim
  ·exact h.elim
 ·exact h.elim
theorem L1 {op:Op} {T:TypeId} {K:KK} (he:Vu op=true) (h:ou (I1 False C s op T H K) C s op T H K) (fb:Prop):ou (I1 fb C s op T H fun x s' H'=>K x s' H'∧Ext s s') C s op T H fun x s' H'=>K x s' H'∧Ext s s':=by
 have hx:∀VQ,I1 False C s op T H K→I1 VQ C s op T H fun x s' H'=>K x s' H'∧Ext s s':=fun VQ h=>L0 VQ h
 cases op with
 | makeSlice T' l c =>
  simp only[ou]at *;exact hx fb h
 | box T' x =>
  simp only[ou]at *;split at h
  ·exact⟨h,Ext.new s _⟩
  ·exact h.elim
 | alloc T' =>
  simp only[ou]at *;split at h
  ·exact⟨h,Ext.new s _⟩
  ·exact h.elim
 | buildSlice T' n ps =>
  simp only[ou,lr]at *;split at h
  ·exact h.elim
  ·split at h
   ·exact h.elim
   ·split at h
    ·exact h.elim
    ·split at h
     ·exact h.elim
     ·obtain⟨hb,h⟩:=cb h;simp only[hb,cond_true];split at h
      ·split at h
       ·exact⟨h,Ext.new s _⟩
       ·exact hx fb h
      ·exact h.elim
 | store T' x y =>
  simp only[ou]at *;split at h
  ·exact h.elim
  ·split at h
   ·exact h.elim
   ·obtain⟨hb,h⟩:=cb h;obtain⟨uu,h⟩:=cb h;simp only[hb,uu,cond_true];split at h
    ·split at h
     ·obtain⟨S1,h⟩:=cb h;simp only[S1,cond_true];exact⟨h,Ext.box _ _ _⟩
     ·exact h.elim
    ·split at h
     ·obtain⟨S1,cs,hc,h⟩:=cb h;simp only[S1,cond_true];split at h
      ·exact⟨cs,hc,h,Ext.box _ _ _⟩
      ·exact h.elim
     ·exact h.elim
    ·cases hf:kD s.bx with
     | true =>
      simp only[hf,cond_true]at h ⊢;unfold Cl at *;split at h
      ·obtain⟨k,e,F,A,D,n1,c1,xs,cs,h1,h2,h3,h4,h⟩:=h;exact⟨k,e,F,A,D,n1,c1,xs,cs,h1,h2,h3,h4,h,Ext.box _ _ _⟩
      ·exact h.elim
     | false =>
      simp only[hf,cond_false]at h ⊢;exact hx fb h
    ·exact hx fb h
 | call c =>
  obtain⟨callee,args,VP⟩:=c
  cases callee with
  | builtin b =>
   cases b with
   | append =>
    simp only[ou]at *;split at h
    ·split at h
     ·rename_i t t' _
      cases hb:Nat.beq t t' with
      | false =>
       rw[hb]at h;simp only[cond_false]at h ⊢;exact hx fb h
      | true =>
      rw[hb]at h;simp only[cond_true]at h ⊢;split at h
      ·exact hx fb h
      split at h
      ·exact hx fb h
      ·split at h
       ·unfold vx at *;split at h
        ·exact h.elim
        ·split at h
         ·exact h.elim
         ·split at h
          ·exact h.elim
          ·obtain⟨hb,h⟩:=cb h;simp only[hb,cond_true]
           refine nu h fun ys h=>?_
           split at h
           ·split at h
            ·rename_i hk;obtain⟨hb,h0,h⟩:=cb h;simp only[hb,cond_true];exact⟨h0,h,(Ext.box _ _ _).trans (Ext.new _ _)⟩
            ·exact h.elim
           ·exact⟨h.1,h.2,Ext.new s _⟩
           ·obtain⟨xs,h0,h⟩:=h;exact⟨xs,h0,h,Ext.new s _⟩
           ·exact h.elim
       ·exact h.elim
      ·exact h.elim
     ·exact h.elim
    ·exact h.elim
   | copy=>simp only[ou]at *;exact hx fb h
   | clear=>simp only[ou]at *;exact hx fb h
   | cap=>simp only[ou]at *;exact hx fb h
   | unsafeSliceData=>simp only[ou]at *;exact hx fb h
   | unsafeString=>simp only[ou]at *;exact hx fb h
   | _=>cases he
  | value g =>
   simp only[ou]at *;split at h
   ·split at h
    ·rename_i f cap hg _ vs yr
     cases hxf:gp f C.xf with
     | true =>
      rw[hxf]at h;intro B ρ w hm hl;obtain⟨x,Fs,E2,H',ρ',w',e1,hk,hl,hm,hs,yu,oL,hle⟩:=h B ρ w hm hl;exact⟨x,Fs,E2,H',ρ',w',e1,⟨hk,yu,oL⟩,hl,hm,hs,yu,oL,hle⟩
     | false =>
     rw[hxf]at h;simp only[cond_false]at h ⊢
     cases hgf:gp f C.gf with
     | true =>
      rw[hgf]at h;exact FG h
     | false =>
      rw[hgf]at h;simp only[cond_false]at h ⊢;unfold Cj at *;simp only[vw]at *
      refine kI _ (mm _ h) fun vs s1 H1 ⟨h1,h2⟩=>?_
      cases hf:Ch C 6 T with
      | true =>
       rw[hf]at h1
       exact aq.mono h1 fun v H' hv=>⟨hv,Ext.refl s⟩
      | false =>
       rw[hf]at h1
       exact aq.mono h1 fun v H' hv=>⟨hv,h2⟩
    ·exact h.elim
   ·exact h.elim
  | invoke r m=>cases he
 | _=>cases he
def qj (C:Cx) (B:Bs) (H0:Hp) (Q:Ex→St→Hp→Prop):Exit→Act→World→Prop:=fun e a w=>∃e0 s H ρ,e=Ex.of e0∧Q e0 s H∧Rel C B ρ s H a w∧Le H0 H
end
end Go.Sy
end
section
/- A region whose order is open: every order comes to the same. -/
namespace Go.Sy
open Go.RowKit (Below)
section
variable {C:Cx} {hs:List Nat} {B:Bs} {ops:Array Oper}
structure E5 (ops:Array Oper) (a0:Act) (val:Nat→Value) (S:Nat→Prop) (a:Act):Prop where
 size:a.tmps.size=a0.tmps.size
 TF:∀i o d,S i→ops[i]?=some o→o.dst=some d→d<a0.tmps.size→a.tmps[d]?=some (val i)
 L2:∀t,(∀i o,S i→ops[i]?=some o→o.dst≠some t)→a.tmps[t]?=a0.tmps[t]?
theorem E5.put {a0 a:Act} {val:Nat→Value} {S:Nat→Prop} {i:Nat} {o:Oper} {v:Value} (h:E5 ops a0 val S a) (hi:¬S i) (ho:ops[i]?=some o)
  (hd:∀j o',S j→ops[j]?=some o'→∀d,o.dst=some d→o'.dst≠some d) (hv:val i=v):E5 ops a0 val (fun j=>S j∨j=i) (a.put o.dst v):=by
 cases lU:o.dst with
 | none =>
  refine⟨h.size,fun j o' d hj dx uv aj=>?_,fun t ht=>h.L2 t fun j o' hj dx=>ht j o' (.inl hj) dx⟩
  rcases hj with hj | rfl
  ·exact h.TF j o' d hj dx uv aj
  ·rw[ho]at dx;simp only[Option.some.injEq]at dx;subst dx;rw[lU]at uv;cases uv
 | some t0 =>
  refine⟨by simp [Act.put,h.size],fun j o' d hj dx uv aj=>?_,fun t ht=>?_⟩
  ·rcases hj with hj | rfl
   ·have cu:t0≠d:=fun e=>by subst e;exact hd j o' hj dx _ lU uv
    simp only[Act.put];rw[Array.getElem?_setIfInBounds_ne cu];exact h.TF j o' d hj dx uv aj
   ·rw[ho]at dx;simp only[Option.some.injEq]at dx;subst dx
    rw[lU]at uv;simp only[Option.some.injEq]at uv;subst uv
    simp only[Act.put];rw[Array.getElem?_setIfInBounds_self_of_lt (by rw[h.size];exact aj),hv]
  ·have cu:t0≠t:=fun e=>by subst e;exact ht i o (.inr rfl) ho lU
   simp only[Act.put];rw[Array.getElem?_setIfInBounds_ne cu]
   exact h.L2 t fun j o' hj dx=>ht j o' (.inl hj) dx
theorem E5.congr {a0 a:Act} {val val':Nat→Value} {S S':Nat→Prop} (h:E5 ops a0 val S a) (hs:∀i,S i↔S' i) (hv:∀i,S i→val i=val' i):E5 ops a0 val' S' a :=
 ⟨h.size,fun i o d hi ho hd aj=>by rw[←hv i ((hs i).2 hi)];exact h.TF i o d ((hs i).2 hi) ho hd aj,fun t ht=>h.L2 t fun i o hi ho=>ht i o ((hs i).1 hi) ho⟩
theorem E5.at {a0 a c:Act} {val:Nat→Value} {S M:Nat→Prop} (h:E5 ops a0 val S a) (hc:E5 ops a0 val M c) {t:Nat} (ht:∀d o,ops[d]?=some o→o.dst=some t→(S d↔M d)):a.tmps[t]?=c.tmps[t]?:=by
 by_cases hex:∃d o,ops[d]?=some o∧o.dst=some t∧S d
 ·obtain⟨d,o,ho,hd,hs⟩:=hex
  by_cases aj:t<a0.tmps.size
  ·rw[h.TF d o t hs ho hd aj,hc.TF d o t ((ht d o ho hd).1 hs) ho hd aj]
  ·rw[Array.getElem?_eq_none (by rw[h.size];omega),Array.getElem?_eq_none (by rw[hc.size];omega)]
 ·rw[h.L2 t fun i o hi ho hd=>hex ⟨i,o,ho,hd,hi⟩,hc.L2 t fun i o hi ho hd=>hex ⟨i,o,ho,hd,(ht i o ho hd).2 hi⟩]
theorem y8 {o:Oper} {a c:Act} (hs:∀cs b,o.op≠.select cs b) (h:∀t∈o.looksAt ops,a.tmps[t]?=c.tmps[t]?):
  execOp a.eval o=execOp c.eval o∧Region.wanted o (yielded ops a.tmps)=Region.wanted o (yielded ops c.tmps):=by
 constructor
 ·refine execOp_congr o hs fun x hx=>?_
  cases x with
  | tmp t =>
   have:=h t (List.mem_append_left _ (List.mem_filterMap.2 ⟨.tmp t,by simpa using hx,rfl⟩));simp only[Act.eval,Array.getD_eq_getD_getElem?,this]
  | _=>rfl
 ·unfold Region.wanted
  cases hg:o.guard with
  | none=>rfl
  | some gw =>
   obtain⟨g,want⟩:=gw
   have hy:yielded ops a.tmps g=yielded ops c.tmps g:=by
    unfold yielded
    cases ht:(ops[g]?).bind (·.dst) with
    | none=>rfl
    | some t =>
     have:=h t (List.mem_append_right _ (by simp [hg,ht]));simp only[Option.bind_some,this]
   simp only[hy]
theorem qL {hs:List Nat}:∀ {bx:List (Nat×Bx)} {k:Nat} {b:Bx},lk (HF hs bx) k=some b→(gp k hs=false∧lk bx k=some b)∨(b = .dead∧∃b',lk bx k=some b')
 | (j,b1)::r,k,b,h=>by
  rw[HF]at h;rw[aT]
  cases hj:gp j hs with
  | true =>
   rw[hj,cond_true,aT]at h;split at h
   ·rename_i e;rw[if_pos e];exact .inr ⟨(Option.some.inj h).symm,b1,rfl⟩
   ·rename_i e;rw[if_neg e];exact qL h
  | false =>
   rw[hj,cond_false,aT]at h;split at h
   ·rename_i e;subst e;rw[if_pos rfl];exact .inl ⟨hj,h⟩
   ·rename_i e;rw[if_neg e];exact qL h
theorem pS {hs:List Nat} {s:St} {k:Nat} {b:Bx} (h:lk (s.I2 hs).bx k=some b):(gp k hs=false∧lk s.bx k=some b)∨(b = .dead∧∃b',lk s.bx k=some b'):=by
 cases hs with
 | nil=>exact .inl ⟨rfl,h⟩
 | cons a r=>exact qL h
theorem Mem.elder {hs:List Nat} {ρ:bk} {s s1:St} {H H1:Hp} {w:World} (hm:Mem B ρ s.bx s.nx H w) (hk:fW hs s1 s) (hb:B.base≤s1.nx) (hle:Le H1 H) (yv:Le B.H H1)
  (aj:∀k b,lk s1.bx k=some b→k<s1.nx∧b.lt s1.nx=true):Mem B ρ (s1.I2 hs).bx s1.nx H1 w where
 os:=hm.os
 tape:=hm.tape
 output:=hm.output
 size:=hm.size
 frame:=hm.frame
 base:=hb
 agree:=hm.agree
 hp:=fun b o h=>hm.hp b o (hle b o h)
 hle:=yv
 cR:=fun b h1 h2 h3=>by
  cases h4:H1 b with
  | none=>rfl
  | some o=>have:=hle b o h4;rw[hm.cR b h1 h2 h3]at this;cases this
 ok:=fun k b h=>by
  rcases pS h with ⟨hv,h1⟩ | ⟨rfl,b',h1⟩
  ·obtain⟨h2,h3⟩:=aj k _ h1;exact⟨h2,(hm.ok k _ ((hk.2 k h2 hv).trans h1)).2.1,h3⟩
  ·exact⟨(aj k b' h1).1,trivial,rfl⟩
 own:=fun k b g h ho=>by
  rcases pS h with ⟨hv,h1⟩ | ⟨rfl,b',h1⟩
  ·have h2:=hm.own k _ g ((hk.2 k (aj k _ h1).1 hv).trans h1) ho;refine⟨?_,h2.2⟩
   cases h4:H1 g with
   | none=>rfl
   | some o=>have:=hle g o h4;rw[h2.1]at this;cases this
  ·exact ho.elim
 eZ:=fun k k' b b' g h h' ho dx=>by
  rcases pS h with ⟨hv,h1⟩ | ⟨rfl,b1,h1⟩
  ·rcases pS h' with ⟨Yt,CL⟩ | ⟨rfl,b1',CL⟩
   ·exact hm.eZ k k' _ _ g ((hk.2 k (aj k _ h1).1 hv).trans h1) ((hk.2 k' (aj k' _ CL).1 Yt).trans CL) ho dx
   ·exact dx.elim
  ·exact ho.elim
def rQ (C:Cx) (hs:List Nat) (B:Bs) (ops:Array Oper) (a0:Act) (pre:List Nat) (val:Nat→Value) (s:St) (H:Hp) (ρ:bk) (j:Nat):Prop :=
 ∃o A Z c,ops[j]?=some o∧pre=A++j::Z∧E5 ops a0 val (·∈A) c∧Aw C.rg B H c.defers ∧
  ((Region.wanted o (yielded ops c.tmps)=true∧∃(s1:St) (H1:Hp) (x:SV),(∀t y,lk s1.env t=some y→c.tmps[t]?=some (ga ρ y)∧y.lt s1.nx=true)∧fW hs s1 s∧B.base≤s1.nx∧Le H1 H∧Le B.H H1 ∧
    (∀k b,lk s1.bx k=some b→k<s1.nx∧b.lt s1.nx=true)∧x.lt s1.nx=true∧val j=ga ρ x ∧
    ∀B ρ (o':Oper) a w,o'.op=o.op→o'.type=o.type→Rel C B ρ (s1.I2 hs) H1 a w→(execOp a.eval o').run C.P w = .ok (.value (ga ρ x)) w) ∨
  (Region.wanted o (yielded ops c.tmps)=false∧val j=undef))
theorem rQ.later {a0:Act} {pre Z':List Nat} {val val':Nat→Value} {s s':St} {H H':Hp} {ρ ρ':bk} {j:Nat} (h:rQ C hs B ops a0 pre val s H ρ j) (hv:∀i∈pre,val' i=val i) (hk:fW hs s s') (hle:Le H H') (Ia:oD s.nx ρ ρ'):
  rQ C hs B ops a0 (pre++Z') val' s' H' ρ' j:=by
 obtain⟨o,A,Z,c,h1,h2,h3,h4,h5⟩:=h;subst h2;refine⟨o,A,Z++Z',c,h1,by simp,h3.congr (fun _=>Iff.rfl) (fun i hi=>(hv i (List.mem_append_left _ hi)).symm),h4.up hle,?_⟩;have hj:val' j=val j:=hv j (by simp)
 rcases h5 with ⟨h5,s1,H1,x,k1,k2,k3,k4,k5,k6,k7,k8,k9⟩ | ⟨h5,h6⟩
 ·have rP:oD s1.nx ρ ρ':=fun k lQ=>Ia k (Nat.lt_of_lt_of_le lQ k2.1)
  refine .inl ⟨h5,s1,H1,x,fun t y hy=>?_,k2.trans hk,k3,k4.trans hle,k5,k6,k7,by rw[hj,k8,pO rP x k7],k9⟩;rw[pO rP y (k1 t y hy).2];exact k1 t y hy
 ·exact .inr ⟨h5,by rw[hj,h6]⟩
theorem L3 {ρ:bk} {s:St} {H:Hp} {a:Act} {w:World} (hr:Rel C B ρ s H a w) {d:Nat} {x y:SV} (hx:lk s.env d=some x) (hy:ga ρ y=ga ρ x) (hl:y.lt s.nx=true):Rel C B ρ (s.put C.n (some d) y) H a w:=by
 simp only[St.put]
 cases Nat.ble (d+1) C.n with
 | false=>exact hr
 | true =>
  refine⟨fun u z hu=>?_,hr.sz,hr.defers,hr.mem⟩;simp only[cond_true,aT]at hu;split at hu
  ·rename_i e;subst e;simp only[Option.some.injEq]at hu;subst hu;rw[hy];exact⟨(hr.env _ _ hx).1,hl⟩
  ·exact hr.env u z hu
theorem tp {s:St} {n:Nat} {d:Option Tmp} {x:SV} {K:St→Prop}:s.eX n d x K↔K (s.put n d x):=by
 cases s with
 | mk env bx nx =>
  cases d with
  | none=>simp only[St.eX,St.put,pL,pK,je]
  | some t=>simp only[St.eX,St.put,pL,yM,pK,je];cases Nat.ble (t+1) n<;>rfl
theorem OK (n:Nat) (s:St) (d:Option Tmp) (x:SV):(s.put n d x).nx=s.nx∧(s.put n d x).bx=s.bx:=by
 cases d with
 | none=>exact⟨rfl,rfl⟩
 | some t=>simp only[St.put];cases Nat.ble (t+1) n<;>exact⟨rfl,rfl⟩
theorem fW.mono {hs:List Nat} {s s':St} (h:fW [] s s'):fW hs s s':=⟨h.1,fun k hk _=>h.2 k hk rfl⟩
theorem fW.put (n:Nat) (s:St) (d:Option Tmp) (x:SV):fW hs s (s.put n d x):=by
 obtain⟨h1,h2⟩:=OK n s d x;exact⟨by rw[h1];exact Nat.le_refl _,fun k _ _=>by rw[h2]⟩
theorem Jj {ρ:bk} {s:St} {H:Hp} {b:Act} {w:World} {Q:St→Hp→Prop} {i:Nat} {r:List Nat} (h:nj C hs ops.toList Q (i::r) s H) (hr:Rel C B ρ s H b w):
  ∃o s1,ops[i]?=some o∧Rel C B ρ s1 H b w∧(∀KS,fW KS s s1) ∧
   ((Region.wanted o (yielded ops b.tmps)=true∧um C hs (jY hs ops.toList i r) s1 o H fun s' H'=>nj C hs ops.toList Q r s' H')∨(Region.wanted o (yielded ops b.tmps)=false∧nj C hs ops.toList Q r (s1.put C.n o.dst unit) H)):=by
 rw[nj]at h;split at h
 ·exact h.elim
 ·rename_i o ho;rw[Array.getElem?_toList]at ho;refine⟨o,?_⟩;split at h
  ·rename_i hg;exact⟨s,ho,hr,fun _=>fW.refl s,.inl ⟨by simp [Region.wanted,hg],h⟩⟩
  ·rename_i j want hg;split at h
   ·exact h.elim
   ·rename_i d hd;simp only[tp]at h
    have uv:(ops[j]?).bind (·.dst)=some d:=by
     unfold yO at hd;split at hd
     ·rename_i o' dx;rw[Array.getElem?_toList]at dx
      rw[dx];exact hd
     ·cases hd
    have hw:∀x,lk s.env d=some x→Region.wanted o (yielded ops b.tmps)=(((match ga ρ x with | .bool b=>some b | _=>none):Option Bool) == some want):=fun x hx=>by
     simp only[Region.wanted,hg,yielded,uv,Option.bind_some,(hr.env _ _ hx).1]
     cases ga ρ x<;>rfl
    split at h
    ·rename_i v hx
     cases AW:(v == want) with
     | true =>
      rw[AW]at h;exact⟨s,ho,hr,fun _=>fW.refl s,.inl ⟨by rw[hw _ hx,ga];simpa using AW,h⟩⟩
     | false =>
      rw[AW]at h;exact⟨s,ho,hr,fun _=>fW.refl s,.inr ⟨by rw[hw _ hx,ga];simpa using AW,h⟩⟩
    ·rename_i v hx;obtain⟨h1,h2⟩:=h
     by_cases AW:v=want
     ·exact⟨_,ho,L3 hr hx (y:=.kb want) (by rw[ga,ga,AW]) (by rw[SV.lt]),fun _=>fW.put _ _ _ _,.inl ⟨by rw[hw _ hx,ga];simp [AW],h1 AW⟩⟩
     ·have uu:v=!want:=by cases v<;>cases want<;>simp_all
      exact⟨_,ho,L3 hr hx (y:=.kb !want) (by rw[ga,ga,uu]) (by rw[SV.lt]),fun _=>fW.put _ _ _ _,.inr ⟨by rw[hw _ hx,ga];simp [AW],h2 uu⟩⟩
    ·rename_i vs hx;exact⟨s,ho,hr,fun _=>fW.refl s,.inr ⟨by rw[hw _ hx,ga];simp,h⟩⟩
    ·exact h.elim
structure OL (C:Cx) (hs:List Nat) (B:Bs) (ops:Array Oper) (ord:List Nat) (a0:Act) (listed:Nat→Prop) (w:World) (pre rem:List Nat) (val:Nat→Value) (s:St) (H:Hp) (ρ:bk) (b:Act):Prop where
 ord:ord=pre++rem
 rel:Rel C B ρ s H b w
 Jk:E5 ops a0 val (·∈pre) b
 sub:∀i,listed i→i∈pre
 todo:∀j∈pre,¬listed j→∃r,(∀e∈rem,e∈r)∧rQ C (jY hs ops.toList j r) B ops a0 pre val s H ρ j
def CW (C:Cx) (hs:List Nat) (ops:Array Oper) (Q:St→Hp→Prop) (rem:List Nat) (s:St) (H:Hp) (b:Act):Prop :=
 (rem=[]∧Q s H)∨∃e o r,rem=e::r∧ops[e]?=some o∧NW o.op=false∧Vu o.op=true∧Region.wanted o (yielded ops b.tmps)=true ∧
  ou (I1 False C s o.op o.type H fun x s' H'=>bif yP (QU hs o.op) s s' then s'.eX C.n o.dst x fun nh=>nj C hs ops.toList Q r nh H' else False) C s o.op o.type H fun x s' H'=>bif yP (QU hs o.op) s s' then s'.eX C.n o.dst x fun nh=>nj C hs ops.toList Q r nh H' else False
structure CX (ops:Array Oper) (ord:List Nat):Prop where
 all:∀i,i<ops.size→i∈ord
 lt:∀i∈ord,i<ops.size
 Ib:ord.Pairwise fun p q=>jf ops p q=true
 self:∀i∈ord,Az ops i=true
theorem CY {ord:List Nat} (h:s7 ops ord=true):CX ops ord:=by
 simp only[s7,Bool.and_eq_true,List.all_eq_true,List.mem_range,List.contains_iff_mem]at h;obtain⟨⟨⟨h1,h2⟩,h3⟩,h4⟩:=h;refine⟨h1,fun i hi=>by have:=h2 i hi;simpa [Nat.blt_eq] using this,?_,h4⟩;clear h1 h2 h4
 induction ord with
 | nil=>exact List.Pairwise.nil
 | cons p r ih =>
  simp only[Ay,Bool.and_eq_true,List.all_eq_true]at h3;exact List.Pairwise.cons h3.1 (ih h3.2)
theorem eA {p q:Nat} {x y:Oper} (h:jf ops p q=true) (hx:ops[p]?=some x) (hy:ops[q]?=some y):p≠q∧(∀d,x.dst=some d→y.dst≠some d)∧qH ops ops.size p q=false∧(qH ops ops.size q p=true∨(NW x.op=true∧x.apart ops y=true)):=by
 simp only[jf,hx,hy,Bool.and_eq_true,bne_iff_ne,Bool.not_eq_true',Bool.or_eq_true]at h;obtain⟨⟨⟨h1,h2⟩,h3⟩,h4⟩:=h;refine⟨h1,fun d hd=>?_,h2,h3⟩;rw[hd]at h4
 simpa using h4
theorem S6 (ht:eH C) {Q:St→Hp→Prop} {ord:List Nat} (ca:CX ops ord) {a0:Act} {listed:Nat→Prop} {w:World}:∀(rem pre:List Nat) (val:Nat→Value) (s:St) (H:Hp) (ρ:bk) (b:Act),
  OL C hs B ops ord a0 listed w pre rem val s H ρ b→nj C hs ops.toList Q rem s H→Le B.H H →
  ∃AX wK val' s' b',OL C hs B ops ord a0 listed w AX wK val' s' H ρ b'∧CW C hs ops Q wK s' H b'∧∀i∈pre,val' i=val i
 | [],pre,val,s,H,ρ,b,hf,fA,_=>⟨pre,[],val,s,b,hf,.inl ⟨rfl,fA⟩,fun _ _=>rfl⟩
 | i::r,pre,val,s,H,ρ,b,hf,fA,hB=>by
  obtain⟨o,s1,ho,bh,og,TG⟩:=Jj fA hf.rel;have pQ:=ca.Ib;rw[hf.ord]at pQ
  have Rm:∀p∈pre,jf ops p i=true:=fun p hp=>(List.pairwise_append.1 pQ).2.2 p hp i List.mem_cons_self
  have TH:i ∉ pre:=fun hi=>(eA (Rm i hi) ho ho).1 rfl
  have next:∀(v:Value) (s2:St),Rel C B ρ s2 H (b.put o.dst v) w→(∀KS,fW KS s1 s2)→nj C hs ops.toList Q r s2 H →
    (∀val',val' i=v→(∀j∈pre,val' j=val j)→rQ C (jY hs ops.toList i r) B ops a0 (pre++[i]) val' s2 H ρ i) →
    ∃AX wK val' s' b',OL C hs B ops ord a0 listed w AX wK val' s' H ρ b'∧CW C hs ops Q wK s' H b'∧∀j∈pre,val' j=val j:=fun v s2 bj kY fA VR=>by
   let wL:Nat→Value:=fun j=>if j=i then v else val j
   have hv:∀j∈pre,wL j=val j:=fun j hj=>if_neg fun (e:j=i)=>TH (e▸hj)
   have E6:wL i=v:=if_pos rfl
   have HA:OL C hs B ops ord a0 listed w (pre++[i]) r wL s2 H ρ (b.put o.dst v) :=
    {ord:=by rw[hf.ord];simp
     rel:=bj
     Jk:=((hf.Jk.congr (val':=wL) (fun _=>Iff.rfl) (fun j hj=>(hv j hj).symm)).put TH ho (fun j o' hj dx d hd uv=>(eA (Rm j hj) dx ho).2.1 d uv hd) E6).congr (fun j=>by simp) (fun _ _=>rfl)
     sub:=fun j hj=>List.mem_append_left _ (hf.sub j hj)
     todo:=fun j hj AH=>by
      rcases List.mem_append.1 hj with hj | hj
      ·obtain⟨r',iX,hS⟩:=hf.todo j hj AH;exact⟨r',fun e he=>iX e (List.mem_cons_of_mem _ he),hS.later hv ((og _).trans (kY _)) (Le.refl H) (oD.refl _ _)⟩
      ·simp only[List.mem_singleton]at hj;subst hj
       exact⟨r,fun e he=>he,VR wL E6 hv⟩ }
   obtain⟨AX,wK,val',s',b',h1,h2,h3⟩:=S6 ht ca r _ _ _ _ _ _ HA fA hB;exact⟨AX,wK,val',s',b',h1,h2,fun j hj=>(h3 j (List.mem_append_left _ hj)).trans (hv j hj)⟩
  rcases TG with ⟨hw,dL⟩ | ⟨hw,fA⟩
  ·unfold um at dL
   cases hp:NW o.op with
   | true =>
    rw[hp]at dL;simp only[cond_true,tp]at dL;obtain⟨x,TI,L4⟩:=Rk hp dL
    have Yu:Rel C B ρ (s1.I2 (jY hs ops.toList i r)) H b w:=⟨bh.env,bh.sz,bh.defers,bh.mem.elder (fW.refl _) bh.mem.base (Le.refl H) hB (fun k b hk=>⟨(bh.mem.ok k b hk).1,(bh.mem.ok k b hk).2.2⟩)⟩
    have hF:∀B ρ (o':Oper) a w,o'.op=o.op→o'.type=o.type→Rel C B ρ (s1.I2 (jY hs ops.toList i r)) H a w→(execOp a.eval o').run C.P w = .ok (.value (ga ρ x)) w∧x.lt s1.nx=true:=fun B ρ o' a w e1 e2 hr=>by
     obtain⟨x',h1,h2,h3⟩:=OJ ht hp (L4 (fun x' s' H'=>x'=x) rfl) B ρ o' a w e1 e2 hr;subst h2;exact⟨h1,h3⟩
    have TJ:=(hF B ρ o b w rfl rfl Yu).2
    refine next (ga ρ x) _ (bh.put o.dst TJ) (fun _=>fW.put _ _ _ _) TI fun val' E6 hv=>⟨o,pre,[],b,ho,rfl,hf.Jk.congr (fun _=>Iff.rfl) (fun j hj=>(hv j hj).symm),bh.defers,.inl ⟨hw,s1,H,x,bh.env,fW.put _ _ _ _,bh.mem.base,Le.refl H,hB,fun k b hk=>⟨(bh.mem.ok k b hk).1,(bh.mem.ok k b hk).2.2⟩,TJ,E6,fun B ρ o' a w e1 e2 hr=>(hF B ρ o' a w e1 e2 hr).1⟩⟩
   | false =>
    rw[hp]at dL;simp only[cond_false]at dL;obtain⟨he,dL⟩:=dr dL
    refine⟨pre,i::r,val,s1,b,⟨hf.ord,bh,hf.Jk,hf.sub,fun j hj AH=>by
     obtain⟨r',iX,hS⟩:=hf.todo j hj AH;have:=hS.later (Z':=[]) (fun _ _=>rfl) (og _) (Le.refl H) (oD.refl _ _);rw[List.append_nil]at this
     exact⟨r',iX,this⟩⟩,.inr ⟨i,o,r,rfl,ho,hp,he,hw,dL⟩,fun _ _=>rfl⟩
  ·exact next undef _ (by have:=bh.put o.dst (x:=unit) (by rw[unit,SV.lt]);rwa[unit,ga]at this) (fun _=>fW.put _ _ _ _) fA fun val' E6 hv=>⟨o,pre,[],b,ho,rfl,hf.Jk.congr (fun _=>Iff.rfl) (fun j hj=>(hv j hj).symm),bh.defers,.inr ⟨hw,E6⟩⟩
def gu (listed:Array Bool) (i:Nat):Prop:=listed[i]?=some true
def L5 (ops:Array Oper) (listed:Array Bool):Prop:=∀i o,gu listed i→ops[i]?=some o→∀e∈o.after,Region.binds .any e=true→gu listed e.on
theorem mn {listed:Array Bool} (hc:L5 ops listed):∀(n i j:Nat) (o:Oper),ops[i]?=some o→(∀e∈o.after,Region.binds .any e=true→gu listed e.on)→qH ops n i j=true→gu listed j
 | 0,i,j,o,_,_,h=>by simp [qH]at h
 | n+1,i,j,o,ho,he,h=>by
  simp only[qH,ho,List.any_eq_true,Bool.and_eq_true,Bool.or_eq_true,beq_iff_eq]at h;obtain⟨e,Yv,y9,Yw⟩:=h;have hd:=he e (by simpa using Yv) y9
  rcases Yw with rfl | h
  ·exact hd
  ·cases dx:ops[e.on]? with
   | none =>
    cases n with
    | zero=>simp [qH]at h
    | succ n=>simp [qH,dx]at h
   | some o'=>exact mn hc n e.on j o' dx (hc e.on o' hd dx) h
theorem zc {p:Nat} {x:Oper} (h:Az ops p=true) (hx:ops[p]?=some x):(∀d,x.dst=some d→d ∉ x.looksAt ops)∧(∀cs b,x.op≠.select cs b)∧∀e∈x.after,Region.binds .any e=true→e.on<ops.size∧e.on≠p:=by
 simp only[Az,hx,Bool.and_eq_true,Bool.not_eq_true']at h;obtain⟨⟨h1,h2⟩,h3⟩:=h;refine⟨fun d hd hm=>?_,fun cs b e=>?_,fun e he hb=>?_⟩
 ·rw[hd]at h1;have h4:(!(x.looksAt ops).contains d)=true:=h1;rw[List.contains_iff_mem.2 hm]at h4;cases h4
 ·rw[e]at h2;cases h2
 ·have:=List.all_eq_true.1 h3 e (by simpa using he);rw[hb]at this
  simpa [Nat.blt_eq] using this
theorem L6 {i:Nat} {o:Oper} (ho:ops[i]?=some o) {e:Edge} (he:e∈o.after) (hb:Region.binds .any e=true):qH ops ops.size i e.on=true:=by
 have aj:=(Array.getElem?_eq_some_iff.1 ho).1
 obtain⟨n,hn⟩:∃n,ops.size=n+1:=⟨ops.size - 1,by omega⟩
 rw[hn,qH,ho];simp only[List.any_eq_true,Bool.and_eq_true,Bool.or_eq_true,beq_iff_eq];exact⟨e,by simpa using he,hb,.inl rfl⟩
theorem CZ {p:Nat→Prop} [DecidablePred p]:∀(l:List Nat),(∃i∈l,p i)→∃A i Z,l=A++i::Z∧p i∧∀j∈A,¬p j
 | [],h=>by obtain⟨i,hi,_⟩:=h;cases hi
 | x::r,h=>by
  by_cases hx:p x
  ·exact⟨[],x,r,rfl,hx,by simp⟩
  ·obtain⟨A,i,Z,h1,h2,h3⟩:=CZ r (by
    obtain⟨i,hi,hp⟩:=h
    rcases List.mem_cons.1 hi with rfl | hi
    ·exact absurd hp hx
    ·exact⟨i,hi,hp⟩)
   exact⟨x::A,i,Z,by rw[h1];rfl,h2,fun j hj=>by
    rcases List.mem_cons.1 hj with rfl | hj
    ·exact hx
    ·exact h3 j hj⟩
theorem FH {ord:List Nat} (ca:CX ops ord) {listed:Array Bool} (cN:listed.size=ops.size) (hex:∃i,i<ops.size∧¬gu listed i):Region.ready .any ops listed≠[]:=by
 obtain⟨i0,VS,SY⟩:=hex
 have:DecidablePred fun i=>¬gu listed i:=fun i=>by unfold gu;infer_instance
 obtain⟨A,i,Z,h1,h2,h3⟩:=CZ (p:=fun i=>¬gu listed i) ord ⟨i0,ca.all i0 VS,SY⟩
 have hi:i∈ord:=by rw[h1];simp
 have aj:=ca.lt i hi;have ho:ops[i]?=some ops[i]:=Array.getElem?_eq_getElem aj;intro hr
 have:i∈Region.ready .any ops listed:=mem_ready.2 ⟨by
  have OM:i<listed.size:=by rw[cN];exact aj
  rw[Array.getD_eq_getD_getElem?,Array.getElem?_eq_getElem OM]
  cases hb:listed[i] with
  | false=>rfl
  | true=>exact absurd (by unfold gu;rw[Array.getElem?_eq_getElem OM,hb]) h2,ops[i],ho,fun e he hb=>by
  obtain⟨rP,N2⟩:=(zc (ca.self i hi) ho).2.2 e he hb;have kX:=ca.all e.on rP;rw[h1]at kX
  have HK:gu listed e.on:=by
   rcases List.mem_append.1 kX with hA | hZ
   ·exact Classical.not_not.1 (h3 _ hA)
   ·rcases List.mem_cons.1 hZ with h4 | hZ
    ·exact absurd h4 N2
    ·have pQ:=ca.Ib;rw[h1]at pQ;have ON:jf ops i e.on=true:=(List.pairwise_cons.1 (List.pairwise_append.1 pQ).2.1).1 _ hZ;have U3:ops[e.on]?=some ops[e.on]:=Array.getElem?_eq_getElem rP;have:=(eA ON ho U3).2.2.1;rw[L6 ho he hb]at this;cases this
  unfold gu at HK
  rw[Array.getD_eq_getD_getElem?,HK];rfl⟩
 rw[hr]at this;cases this
theorem jD {listed:Array Bool} {i j:Nat} (hi:i<listed.size):gu (listed.setIfInBounds i true) j↔gu listed j∨j=i:=by
 unfold gu
 by_cases h:i=j
 ·subst h
  rw[Array.getElem?_setIfInBounds_self_of_lt hi];simp
 ·rw[Array.getElem?_setIfInBounds_ne h];simp [Ne.symm h]
theorem Rn {a0 a b:Act} {val:Nat→Value} {S:Nat→Prop} (h:E5 ops a0 val S a) (h':E5 ops a0 val S b):a.tmps=b.tmps:=by
 apply Array.ext_getElem?;intro t
 exact h.at h' fun _ _ _ _=>Iff.rfl
theorem Jl {P:Program} {o:Oper} {a b:Act} {next next':Act→World→Prop} {Q Q':Exit→Act→World→Prop} (hn:∀v w,next (b.put o.dst v) w→next' (a.put o.dst v) w) (hd:∀a w,next a w→a.defers=b.defers)
  (hq:∀e a w,Q e a w→False):∀(r:Result Next),o.upon P b next Q r→o.upon P a next' Q' r
 | .ok (.value v) w,h=>hn _ _ h
 | .ok .skip w,h=>hn _ _ h
 | .ok (.enter f as) w,h=>Calls.mono h fun e w' he=>by
  cases e with
  | returned v=>exact hn _ _ he
  | panicked c=>exact (hq _ _ _ he).elim
  | outgrown=>obtain⟨a,w,h⟩:=he;exact (hq _ _ _ h).elim
 | .ok (.defer d) w,h=>by
  have:=hd _ _ h
  cases lU:o.dst<;>simp [Act.put,lU]at this
 | .ok (.row row as) w,h=>Rows.mono h fun v w' he=>hn _ _ he
 | .halt (.panic v) w,h=>(hq _ _ _ h).elim
 | .ok (.round ..) w,h=>h.elim
 | .ok .recover w,h=>h.elim
 | .ok (.spawn _) w,h=>h.elim
 | .ok (.comm ..) w,h=>h.elim
 | .ok .numGoroutine w,h=>h.elim
 | .ok .collect w,h=>h.elim
 | .ok (.watch _) w,h=>h.elim
 | .ok (.newcoro ..) w,h=>h.elim
 | .ok (.coroswitch ..) w,h=>h.elim
 | .ok (.sleep _) w,h=>h.elim
 | .ok (.timer _) w,h=>h.elim
 | .ok (.alone ..) w,h=>h.elim
 | .ok (.callThen ..) w,h=>h.elim
 | .ok (.stack ..) w,h=>h.elim
 | .halt .goexit w,h=>h.elim
 | .halt .blocked w,h=>h.elim
 | .halt .waiting w,h=>h.elim
 | .halt (.exit _) w,h=>h.elim
 | .halt (.fatal _) w,h=>h.elim
 | .halt (.throw _) w,h=>h.elim
 | .halt (.unsupported _) w,h=>h.elim
 | .halt (.stuck _) w,h=>h.elim
theorem put_eq {a b:Act} {d:Option Tmp} {v u:Value} (hs:a.tmps.size=b.tmps.size) (h:b.put d v=b.put d u):a.put d v=a.put d u:=by
 cases d with
 | none=>rfl
 | some t =>
  simp only[Act.put,Act.mk.injEq,and_true]at h ⊢
  by_cases aj:t<b.tmps.size
  ·have:=congrArg (fun (x:Array Value)=>x[t]?) h;simp only[Array.getElem?_setIfInBounds_self_of_lt aj,Option.some.injEq]at this;rw[this]
  ·rw[Array.setIfInBounds,dif_neg (by rw[hs];exact aj),Array.setIfInBounds,dif_neg (by rw[hs];exact aj)]
theorem C0 {hs:List Nat} {j i:Nat} {o:Oper}:∀ {r:List Nat},Co hs ops.toList j r=true→i∈r→ops[i]?=some o→NW o.op=false→Cn hs o.op=false→qH ops ops.size i j=true
 | [],_,h,_,_,_=>by cases h
 | e::r,h,hi,ho,hp,hmi=>by
  rw[Co]at h;split at h
  ·rename_i o' dx;rw[Array.getElem?_toList]at dx
   cases hb:(bif NW o'.op then true else bif Cn hs o'.op then true else qH ops.toList.toArray ops.toList.length e j) with
   | false=>rw[hb]at h;cases h
   | true =>
    rw[hb]at h
    rcases List.mem_cons.1 hi with rfl | hi
    ·rw[ho]at dx;cases dx;rw[hp,hmi]at hb
     simpa using hb
    ·exact C0 h hi ho hp hmi
  ·cases h
theorem L7 (ht:eH C) {ord:List Nat} (ca:CX ops ord) {Q:St→Hp→Prop} {H0:Hp} {a0:Act}:∀(fuel:Nat) (un:List Nat) (listed:Array Bool) (a:Act) (w:World),un.length=fuel→un.Nodup→listed.size=ops.size →
  (∀i,i∈un↔i<ops.size∧¬gu listed i)→L5 ops listed →
  (∃pre rem val s H ρ b,OL C hs B ops ord a0 (gu listed) w pre rem val s H ρ b∧CW C hs ops Q rem s H b∧E5 ops a0 val (gu listed) a∧Aw C.rg B H a.defers∧Le H0 H) →
  wpAny C.P .any ops (qj C B H0 fun e s H=>match e with | .normal=>Q s H | _=>False) fuel listed a w:=by
 intro fuel
 have fin:∀(listed:Array Bool) (a:Act) (w:World),(∀i,i<ops.size→gu listed i) →
   (∃pre rem val s H ρ b,OL C hs B ops ord a0 (gu listed) w pre rem val s H ρ b∧CW C hs ops Q rem s H b∧E5 ops a0 val (gu listed) a∧Aw C.rg B H a.defers∧Le H0 H) →
   qj C B H0 (fun e s H=>match e with | .normal=>Q s H | _=>False) .normal a w:=by
  rintro listed a w dm ⟨pre,rem,val,s,H,ρ,b,hf,Qn,Qo,U5,hle⟩
  rcases Qn with ⟨rfl,hq⟩ | ⟨e,o,r,rfl,ho,_⟩
  ·refine⟨.normal,s,H,ρ,rfl,hq,⟨fun t x hx=>?_,?_,U5,hf.rel.mem⟩,hle⟩
   ·have wM:=Rn (Qo.congr (S':=(·∈pre)) (fun i=>⟨hf.sub i,fun hi=>dm i (ca.lt i (by rw[hf.ord];simp [hi]))⟩) (fun _ _=>rfl)) hf.Jk
    rw[wM];exact hf.rel.env t x hx
   ·have:=hf.rel.sz;rw[hf.Jk.size]at this;rw[Qo.size];exact this
  ·have hd:=dm e (Array.getElem?_eq_some_iff.1 ho).1;have h1:=hf.sub e hd;have pQ:=ca.Ib;rw[hf.ord]at pQ;exact absurd rfl (eA ((List.pairwise_append.1 pQ).2.2 e h1 e List.mem_cons_self) ho ho).1
 induction fuel with
 | zero =>
  intro un listed a w hl wE cN Ro hc hex;have hu:un=[]:=List.eq_nil_of_length_eq_zero hl;subst hu
  have dm:∀i,i<ops.size→gu listed i:=fun i hi=>Classical.not_not.1 fun hn=>by have:=(Ro i).2 ⟨hi,hn⟩;cases this
  refine⟨?_,fin listed a w dm hex⟩;apply List.eq_nil_iff_forall_not_mem.2;intro j hj;obtain⟨h1,o,ho,_⟩:=mem_ready.1 hj;have:=dm j (Array.getElem?_eq_some_iff.1 ho).1;unfold gu at this;rw[Array.getD_eq_getD_getElem?,this]at h1;cases h1
 | succ fuel ih =>
  intro un listed a w hl wE cN Ro hc hex;refine⟨fun hr=>fin listed a w (fun i hi=>Classical.not_not.1 fun hn=>FH ca cN ⟨i,hi,hn⟩ hr) hex,fun i hi=>?_⟩;obtain⟨h1,o,ho,TK⟩:=mem_ready.1 hi;have Rp:=(Array.getElem?_eq_some_iff.1 ho).1
  have aX:i<listed.size:=by rw[cN];exact Rp
  have FI:¬gu listed i:=fun h=>by
   unfold gu at h
   rw[Array.getD_eq_getD_getElem?,h]at h1;cases h1
  have wN:∀e∈o.after,Region.binds .any e=true→gu listed e.on:=fun e he hb=>by
   have:=TK e he hb;unfold gu;rw[Array.getD_eq_getD_getElem?]at this
   cases h2:listed[e.on]? with
   | none=>rw[h2]at this;cases this
   | some v=>rw[h2]at this;simp at this;rw[this]
  have L8:i∈ord:=ca.all i Rp;obtain⟨VT,L9,_⟩:=zc (ca.self i L8) ho
  have step:∀(a':Act) (w':World),(∃pre rem val s H ρ b,OL C hs B ops ord a0 (gu (listed.setIfInBounds i true)) w' pre rem val s H ρ b∧CW C hs ops Q rem s H b∧E5 ops a0 val (gu (listed.setIfInBounds i true)) a'∧Aw C.rg B H a'.defers∧Le H0 H) →
    wpAny C.P .any ops (qj C B H0 fun e s H=>match e with | .normal=>Q s H | _=>False) fuel (listed.setIfInBounds i true) a' w':=fun a' w' VU=>by
   refine ih (un.erase i) _ a' w' ?_ (wE.erase i) (by simpa using cN) (fun j=>?_) (fun j o' hj dx e he hb=>?_) VU
   ·have hm:=(Ro i).2 ⟨Rp,FI⟩
    rw[List.length_erase_of_mem hm,hl];rfl
   ·rw[wE.mem_erase_iff,Ro j,jD aX];constructor
    ·rintro⟨h2,h3,h4⟩;exact⟨h3,fun h=>h.elim h4 h2⟩
    ·rintro⟨h2,h3⟩;exact⟨fun e=>h3 (.inr e),h2,fun h=>h3 (.inl h)⟩
   ·rw[jD aX]at hj ⊢
    rcases hj with hj | rfl
    ·exact .inl (hc j o' hj dx e he hb)
    ·rw[ho]at dx;simp only[Option.some.injEq]at dx;subst dx
     exact .inl (wN e he hb)
  obtain⟨pre,rem,val,s,H,ρ,b,hf,Qn,Qo,U5,hle⟩:=hex;have pQ:=ca.Ib;rw[hf.ord]at pQ;unfold wpOp;rw[ho]
  show if _ then _ else _
  by_cases oL:i∈pre
  ·-- it has been reckoned
   obtain⟨r0,_,o',A,Z,c,dx,VV,Lr,TL,VW⟩:=hf.todo i oL FI
   rw[ho]at dx;simp only[Option.some.injEq]at dx;subst dx
   have Ma:∀t∈o.looksAt ops,a.tmps[t]?=c.tmps[t]?:=fun t wM=>Qo.at Lr fun d x hx U6=>by
    constructor
    ·intro hd;have Xq:=hf.sub d hd;rw[VV]at Xq pQ
     rcases List.mem_append.1 Xq with h2 | h2
     ·exact h2
     ·rcases List.mem_cons.1 h2 with rfl | h2
      ·exact absurd hd FI
      ·have ON:jf ops i d=true:=(List.pairwise_cons.1 (List.pairwise_append.1 (List.pairwise_append.1 pQ).1).2.1).1 d h2;obtain⟨_,_,_,h3⟩:=eA ON ho hx
       rcases h3 with h3 | ⟨_,h3⟩
       ·exact absurd (mn hc _ d i x hx (hc d x hd hx) h3) FI
       ·exact absurd wM ((Oper.apart_spec h3).2.2 t U6)
    ·intro hd;rw[VV]at pQ;have ON:jf ops d i=true:=(List.pairwise_append.1 (List.pairwise_append.1 pQ).1).2.2 d hd i List.mem_cons_self;obtain⟨_,_,_,h3⟩:=eA ON hx ho
     rcases h3 with h3 | ⟨_,h3⟩
     ·exact mn hc _ i d o ho wN h3
     ·exact absurd wM ((Oper.apart_spec h3).1 t U6)
   obtain⟨Rq,OO⟩:=y8 L9 Ma
   have Mb:∀v,val i=v→wpAny C.P .any ops (qj C B H0 fun e s H=>match e with | .normal=>Q s H | _=>False) fuel (listed.setIfInBounds i true) (a.put o.dst v) w:=fun v hv=>step _ _
    ⟨pre,rem,val,s,H,ρ,b,⟨hf.ord,hf.rel,hf.Jk,fun j hj=>by
      rw[jD aX]at hj
      rcases hj with hj | rfl
      ·exact hf.sub j hj
      ·exact oL,fun j hj Yx=>hf.todo j hj fun h=>Yx ((jD aX).2 (.inl h))⟩,Qn,
     (Qo.put FI ho (fun j o' hj dx d hd uv=>by
      have Xr:=hf.sub j hj
      have Yy:j≠i:=fun e=>FI (e▸hj)
      have OP:jf ops j i=true∨jf ops i j=true:=by
       rw[VV]at Xr pQ;have qo:=(List.pairwise_append.1 pQ).1
       rcases List.mem_append.1 Xr with h2 | h2
       ·exact .inl ((List.pairwise_append.1 qo).2.2 j h2 i List.mem_cons_self)
       ·rcases List.mem_cons.1 h2 with h2 | h2
        ·exact absurd h2 Yy
        ·exact .inr ((List.pairwise_cons.1 (List.pairwise_append.1 qo).2.1).1 j h2)
      rcases OP with h2 | h2
      ·exact (eA h2 dx ho).2.1 d uv hd
      ·exact (eA h2 ho dx).2.1 d hd uv) hv).congr (fun j=>((jD aX).symm)) (fun _ _=>rfl),by
      cases lU:o.dst<;>simpa [Act.put] using U5,hle⟩
   rcases VW with ⟨hw,s1,H1,x,k1,k2,k3,k4,k5,k6,k7,k8,k9⟩ | ⟨hw,hv⟩
   ·rw[if_pos (by rw[OO];exact hw)];refine .inl ?_;unfold Oper.wp;have fA:(execOp c.eval o).run C.P w = .ok (.value (ga ρ x)) w:=k9 B ρ o { c with defers:=[] } w rfl rfl ⟨k1,by have:=hf.rel.sz;rw[hf.Jk.size]at this;show c.tmps.size=_;rw[Lr.size];exact this,Aw.nil _ _ _,hf.rel.mem.elder k2 k3 k4 k5 k6⟩;rw[Rq,fA];exact Mb _ k8
   ·rw[if_neg (by rw[OO,hw];simp)];exact Mb undef hv
  ·-- it is Fu next one on Fu memory
   rcases Qn with ⟨rfl,hq⟩ | ⟨e,o',r,rfl,dx,hp,he,hw,Tz⟩
   ·exact absurd (by have:=L8;rw[hf.ord]at this;simpa using this) oL
   ·have U7:i=e:=by
     have:=L8;rw[hf.ord]at this
     rcases List.mem_append.1 this with h2 | h2
     ·exact absurd h2 oL
     ·rcases List.mem_cons.1 h2 with h2 | h2
      ·exact h2
      ·have ON:jf ops e i=true:=(List.pairwise_cons.1 (List.pairwise_append.1 pQ).2.1).1 i h2;obtain⟨_,_,_,h3⟩:=eA ON dx ho
       rcases h3 with h3 | ⟨h3,_⟩
       ·have:=hf.sub e (mn hc _ i e o ho wN h3);exact absurd rfl (eA ((List.pairwise_append.1 pQ).2.2 e this e List.mem_cons_self) dx dx).1
       ·rw[hp]at h3;cases h3
    subst U7
    rw[ho]at dx;simp only[Option.some.injEq]at dx;subst dx
    have Ma:∀t∈o.looksAt ops,a.tmps[t]?=b.tmps[t]?:=fun t wM=>Qo.at hf.Jk fun d x hx U6=>by
     refine⟨hf.sub d,fun hd=>?_⟩;have ON:jf ops d i=true:=(List.pairwise_append.1 pQ).2.2 d hd i List.mem_cons_self;obtain⟨_,_,_,h3⟩:=eA ON hx ho
     rcases h3 with h3 | ⟨_,h3⟩
     ·exact mn hc _ i d o ho wN h3
     ·exact absurd wM ((Oper.apart_spec h3).1 t U6)
    obtain⟨Rq,OO⟩:=y8 L9 Ma;rw[if_pos (by rw[OO];exact hw)];refine .inl ?_
    let B':Bs:={ B with base:=s.nx,ρ:=ρ }
    have Yz:Rel C B' ρ s H b w:=⟨hf.rel.env,hf.rel.sz,hf.rel.defers.re rfl rfl,
     {hf.rel.mem with base:=Nat.le_refl _,agree:=fun _ _=>⟨rfl,rfl⟩ }⟩
    have TM:=AS ht (L1 he Tz _) B' ρ o b w rfl rfl Yz
     (fun b' w'=>∃x s' H' ρ',(s'.eX C.n o.dst x fun nh=>nj C hs ops.toList Q r nh H')∧fW (QU hs o.op) s s'∧Rel C B ρ' s' H' b w'∧oD s.nx ρ ρ'∧Le H H'∧x.lt s'.nx=true∧b'=b.put o.dst (ga ρ' x)) (fun _ _ _=>False)
     (fun x s' H' ρ' w' ⟨h2,h3⟩ h4 h5 h6=>⟨x,s',H',ρ',(dr h2).2,fW.Rl h3 (dr h2).1,⟨h4.env,h4.sz,h4.defers.re rfl rfl,{ h4.mem with
       base:=Nat.le_trans hf.rel.mem.base h3.1
       agree:=fun k hk=>by
        have h7:=h4.mem.agree k (Nat.lt_of_lt_of_le hk hf.rel.mem.base);have h8:=hf.rel.mem.agree k hk
        exact⟨h7.1.trans h8.1,h7.2.trans h8.2⟩ }⟩,fun k hk=>h4.mem.agree k hk,h5,h6,rfl⟩)
    unfold Oper.wp at TM ⊢;rw[Rq];refine Jl (next:=_) (Q:=fun _ _ _=>False) ?_ ?_ (fun _ _ _ h=>h) _ TM
    ·rintro v w' ⟨x,s',H',ρ',h2,h3,h4,h5,h6,h7,h8⟩;rw[put_eq (a:=a) (b:=b) (by rw[Qo.size,hf.Jk.size]) h8];rw[tp]at h2
     let wL:Nat→Value:=fun j=>if j=i then ga ρ' x else val j
     have TH:i ∉ pre:=oL
     have hv:∀j∈pre,wL j=val j:=fun j hj=>if_neg fun (e:j=i)=>TH (e▸hj)
     have E6:wL i=ga ρ' x:=if_pos rfl
     have Rm:∀p∈pre,jf ops p i=true:=fun p hp=>(List.pairwise_append.1 pQ).2.2 p hp i List.mem_cons_self
     have HA:OL C hs B ops ord a0 (gu (listed.setIfInBounds i true)) w' (pre++[i]) r wL (s'.put C.n o.dst x) H' ρ' (b.put o.dst (ga ρ' x)) :=
      {ord:=by rw[hf.ord];simp
       rel:=h4.put o.dst h7
       Jk:=((hf.Jk.congr (val':=wL) (fun _=>Iff.rfl) (fun j hj=>(hv j hj).symm)).put TH ho (fun j o' hj dx d hd uv=>(eA (Rm j hj) dx ho).2.1 d uv hd) E6).congr (fun j=>by simp) (fun _ _=>rfl)
       sub:=fun j hj=>by
        rw[jD aX]at hj
        rcases hj with hj | rfl
        ·exact List.mem_append_left _ (hf.sub j hj)
        ·simp
       todo:=fun j hj AH=>by
        rw[jD aX]at AH
        rcases List.mem_append.1 hj with hj | hj
        ·obtain⟨r',iX,hS⟩:=hf.todo j hj fun h=>AH (.inl h)
         refine⟨r',fun e he=>iX e (List.mem_cons_of_mem _ he),hS.later hv ?_ h6 h5⟩;have YA:i∈r':=iX i List.mem_cons_self
         cases hmi:Cn hs o.op with
         | true =>
          rw[QU,hmi]at h3;exact (fW.mono h3).trans (fW.put _ _ _ _)
         | false =>
          rw[QU,hmi]at h3;unfold jY;split
          ·exact h3.trans (fW.put _ _ _ _)
          ·cases VX:Co hs ops.toList j r' with
           | false=>exact h3.trans (fW.put _ _ _ _)
           | true =>
            exact absurd (.inl (mn hc _ i j o ho wN (C0 VX YA ho hp hmi))) AH
        ·simp only[List.mem_singleton]at hj
         exact absurd (.inr hj) AH }
     obtain⟨AX,wK,val',s2,b2,g1,g2,g3⟩:=S6 ht ca r _ _ _ _ _ _ HA h2 (hf.rel.mem.hle.trans h6)
     have yr:∀j,gu listed j→wL j=val j:=fun j hj=>hv j (hf.sub j hj)
     refine step _ _ ⟨AX,wK,val',s2,H',ρ',b2,g1,g2,?_,by cases lU:o.dst<;>simpa [Act.put] using U5.up h6,hle.trans h6⟩
     refine (((Qo.congr (val':=val') (fun _=>Iff.rfl) (fun j hj=>by rw[g3 j (List.mem_append_left _ (hf.sub j hj)),yr j hj])).put FI ho (fun j o' hj dx d hd uv=>(eA (Rm j (hf.sub j hj)) dx ho).2.1 d uv hd) (by rw[g3 i (by simp),E6])).congr (fun j=>(jD aX).symm) (fun _ _=>rfl))
    ·rintro a1 w1 ⟨x,s',H',ρ',h2,h3,h4,h5,h6,h7,rfl⟩
     cases lU:o.dst<;>simp [Act.put]
theorem wO (ht:eH C) {ord:List Nat} (ca:CX ops ord) {Q:St→Hp→Prop} {s:St} {H:Hp} {ρ:bk} {a:Act} {w:World} (h:nj C hs ops.toList Q ord s H) (hr:Rel C B ρ s H a w):
  wpAny C.P .any ops (qj C B H fun e s H=>match e with | .normal=>Q s H | _=>False) ops.size (Array.replicate ops.size false) a w:=by
 have gZ:∀i,¬gu (Array.replicate ops.size false) i:=fun i h=>by
  unfold gu at h;rw[Array.getElem?_replicate]at h
  split at h<;>simp at h
 have hf:OL C hs B ops ord a (gu (Array.replicate ops.size false)) w [] ord (fun _=>undef) s H ρ a :=
  ⟨rfl,hr,⟨rfl,fun i o d hi=>(by cases hi),fun _ _=>rfl⟩,fun i hi=>(gZ i hi).elim,fun j hj=>(by cases hj)⟩
 obtain⟨AX,wK,val',s',b',h1,h2,_⟩:=S6 ht ca ord _ _ _ _ _ _ hf h hr.mem.hle
 exact L7 ht ca ops.size (List.range ops.size) _ a w (by simp) List.nodup_range (by simp) (fun i=>by simp [gZ]) (fun i o hi=>(gZ i hi).elim)
  ⟨AX,wK,val',s',H,ρ,b',h1,h2,⟨rfl,fun i o d hi=>(gZ i hi).elim,fun _ _=>rfl⟩,hr.defers,Le.refl H⟩
end
end Go.Sy
end
