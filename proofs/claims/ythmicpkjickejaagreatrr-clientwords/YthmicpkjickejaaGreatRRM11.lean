/- Part 'M11' of the proof (SyX, SyOk8b, SyDraw, SyDrawB): lemmas, each with its own conditions in its own statement. -/
import Derived.Laws.BytesArg
import Derived.Laws.IdiomStrings
import Derived.Laws.MakeOwn
import Derived.Lib.Builder
import Derived.Lib.UnsafeStr
import Derived.Test.YthmicpkjickejaaGreatRRM10
section
namespace Go.Sy
open Go.RowKit (Below)
section
variable {C:Cx} {B:Bs} {ρ:Rho} {s:St} {H:Hp} {a:Act} {w:World} {P:Program}
theorem sliceBounds3_ok (hr:Rel C B ρ s H a w) {lo:Option Operand} {hi mx:Operand} {l h m:Int} (b:Bool) (len cap:Nat) (hl:optN s lo 0=some l) (hh:getN s hi=some h) (hm:getN s mx=some m) (hle:0≤l∧l≤h∧h≤m∧m≤cap):
  (Instr.sliceBounds b len cap (lo.map a.eval) (some (a.eval hi)) (some (a.eval mx))).run P w = .ok (l.toNat,h.toNat,m.toNat) w:=by
 unfold Instr.sliceBounds;obtain⟨k',hk'⟩:=getN_ok hr hh;obtain⟨k2,hk2⟩:=getN_ok hr hm
 cases lo with
 | none =>
  simp only[optN,Option.some.injEq]at hl;subst hl;simp [sliceBound_ok hk2 (show 0≤m∧m≤(cap:Nat) by omega),sliceBound_ok hk' (show 0≤h∧h≤(m.toNat:Nat) by omega)]
 | some x =>
  simp only[optN]at hl;obtain⟨k,hk⟩:=getN_ok hr hl;simp [sliceBound_ok hk2 (show 0≤m∧m≤(cap:Nat) by omega),sliceBound_ok hk' (show 0≤h∧h≤(m.toNat:Nat) by omega),sliceBound_ok hk (show 0≤l∧l≤(h.toNat:Nat) by omega)]
theorem row_len {e:TypeId} {sz:Nat} {xs:List (List Value)} {k:Nat} (hb:BoxOK ρ w k (.row e sz xs)):(ρ.sl k).2.1=xs.length∧xs.length≤(ρ.sl k).2.2:=by
 rcases row_arr hb with ⟨h1,rfl⟩ | ⟨cap,cur,h1,h2,h3,hmx,h4,h5⟩
 ·rw[h1];exact⟨rfl,Nat.le_refl _⟩
 ·rw[h1];exact⟨rfl,h3⟩
theorem RowAt.partM {H:Hp} {v:Value} {a:Option Addr} {m c sz:Nat} {xs:List (List Value)} (h:RowAt H v sz xs) (hv:v = .slice a m c) {lo n q:Nat} (hn:lo+n≤xs.length) (hq:lo+n≤q) (hqc:q≤c):
  RowAt H (.slice (cutA a lo q sz) n (q - lo)) sz ((xs.drop lo).take n):=by
 obtain⟨a',c',e,h1,h2,h3⟩:=h;rw[hv]at e;simp only[Value.slice.injEq]at e;obtain⟨rfl,rfl,rfl⟩:=e
 have hl:((xs.drop lo).take n).length=n:=by simp;omega
 refine⟨_,_,by rw[hl],by rw[hl];omega,fun x hx=>h2 x (List.mem_of_mem_drop (List.mem_of_mem_take hx)),?_⟩
 by_cases hcl:q=lo
 ·exact .inl ⟨List.eq_nil_of_length_eq_zero (by rw[hl];omega),by omega⟩
 ·rcases h3 with ⟨h3,h4⟩ | ⟨ad,rfl,hs,cells,T,fr,hH,hc,hx⟩
  ·exact .inl ⟨List.eq_nil_of_length_eq_zero (by rw[h3];simp),by omega⟩
  ·obtain⟨b,o,sp⟩:=ad;simp only at hs;subst hs;refine .inr ⟨⟨b,o+lo*sz,none⟩,by rw[cutA,if_neg hcl,Option.map_some,Addr.at_],rfl,cells,T,fr,hH,?_,fun i x hi j hj=>?_⟩
   ·have h5:lo*sz+(q - lo)*sz=q*sz:=by rw[←Nat.add_mul];congr 1;omega
    have h6:q*sz≤c*sz:=Nat.mul_le_mul_right _ hqc;simp only at hc ⊢;omega
   ·rw[List.getElem?_take]at hi;split at hi
    ·rw[List.getElem?_drop]at hi;have:=hx (lo+i) x hi j hj;rw[Nat.add_mul]at this;simp only at this ⊢;rw[show o+lo*sz+i*sz+j=o+(lo*sz+i*sz)+j by omega];exact this
    ·cases hi
theorem ok_cut3 (ht:TOK C) {T' T:TypeId} {x:Operand} {k:Nat} (hx:get s x=some (.own k)) {lo hi:Option Operand} {mx:Operand} {K:KK} (h:cut3 C s T' k lo hi mx H K):RawOp C s (.slice T' x lo hi (some mx)) T H K:=by
 unfold cut3 at h;split at h
 ·exact h.elim
 ·rename_i hi;split at h
  ·exact h.elim
  ·rename_i e he;have hu:=telem_ok ht he;split at h
   ·exact h.elim
   ·rename_i sz hsz;split at h
    ·exact h.elim
    ·rename_i l hl;split at h
     ·exact h.elim
     ·rename_i hh0 hh;split at h
      ·exact h.elim
      ·rename_i m hm;split at h
       ·rename_i e' sz' xs hk
        have hbif:=bif_f h;clear h;obtain⟨hq,hle,h⟩:=hbif
        obtain rfl:=beq_t hq
        refine raw_val fun B ρ o a w ho _ hr=>?_
        have h1:=(eval_get hr hx).1;rw[ga]at h1;obtain⟨hn,hcap⟩:=row_len (hr.mem.ok _ _ hk).2.1;have hbd:=sliceBounds3_ok (P:=C.P) hr true xs.length (ρ.sl k).2.2 hl hh hm (by omega);obtain⟨H',hle',hrow,hr'⟩:=fz_own hr hk;refine⟨_,_,H',ρ,w,?_,h (cutA (ρ.sl k).1 l.toNat m.toNat sz') _ H' hle' hrow (hrow.partM rfl (by omega) (by omega) (by omega)),hr',hle',by rw[SV.lt]⟩;simp only[execOp,ho,Instr.sliceAt,Sem.run_bind,run_underlying hu,Result.andThen_ok,Instr.slice,h1,Rho.val,hn,Option.map_some,Sem.run_pure,hbd,tsize_ok ht hsz,ga,cutA]
       ·exact h.elim
theorem ok_slice (ht:TOK C) {T' T:TypeId} {x:Operand} {k:Nat} (hx:get s x=some (.own k)) {lo hi mx:Option Operand} {K:KK} (h:match mx with
   | some m=>cut3 C s T' k lo hi m H K
   | none=>match C.tt T' with
    | some (_,.slice e)=>match tsize C e with
     | none=>False
     | some _=>match optN s lo 0 with
      | some 0=>match lk s.bx k with
       | some (.row e' sz' xs)=>match optN s hi (xs.length:Int) with
        | none=>False
        | some h=>(0≤h∧h≤xs.length)∧K (.own s.nx) ((s.box k .dead).new (.row e' sz' (xs.take h.toNat))) H
       | _=>False
      | _=>False
    | _=>False):RawOp C s (.slice T' x lo hi mx) T H K:=by
 split at h
 ·exact ok_cut3 ht hx h
 ·split at h
  ·rename_i i0 e hT;have hu:=(ht _ _ _ hT).2;split at h
   ·exact h.elim
   ·rename_i sz hsz
    ·split at h
     ·rename_i hl;split at h
      ·rename_i e' sz' xs hk;split at h
       ·exact h.elim
       ·rename_i hh0 hh;obtain⟨hle,h⟩:=h
        refine raw_val fun B ρ o a w ho _ hr=>?_
        have h1:=(eval_get hr hx).1;rw[ga]at h1;have hb:=(hr.mem.ok _ _ hk).2.1
        have hn:(ρ.sl k).2.1=xs.length:=by
         rcases hb.1.2 with ⟨h2,h3⟩ | ⟨g,cap,cur,h2,_⟩
         ·simp only[Rho.val,Value.slice.injEq]at h2;omega
         ·simp only[Rho.val,Value.slice.injEq]at h2;exact h2.2.1
        have hlen:(xs.take hh0.toNat).length=hh0.toNat:=by rw[List.length_take];omega
        obtain⟨ρ',hr',hg⟩:=hr.moved (e:=e') (sz:=sz') (xs:=xs.take hh0.toNat) (w':=w) (v:=((ρ.sl k).1,hh0.toNat,(ρ.sl k).2.2)) hk rfl rfl ⟨rfl,Nat.le_refl _⟩ (Nat.le_refl _) (fun _ _ _=>rfl)
         (by
          rw[hlen,take_flat hh0.toNat (fun x hx=>(hb.2.1 x hx).1)];have hfl:xs.flatten.length=xs.length*sz':=hb.1.1;refine⟨by rw[List.length_take,hfl];exact Nat.min_eq_left (Nat.mul_le_mul_right _ (by omega)),?_⟩
          rcases hb.1.2 with ⟨h2,h3⟩ | ⟨g,cap,cur,h2,h3,h4,h5,h6,h7,h8⟩
          ·simp only[Rho.val,Value.slice.injEq]at h2
           have h0:hh0.toNat=0:=by omega
           exact .inl ⟨by rw[h2.1,h2.2.2,h0],h0⟩
          ·simp only[Rho.val,Value.slice.injEq]at h2;refine .inr ⟨g,cap,cur,by rw[h2.1,h2.2.2],h3,h4,by omega,h6,h7,?_⟩
           rw[←h8,List.take_take,Nat.min_eq_left (Nat.mul_le_mul_right _ (by omega))])
         (fun x hx=>hb.2.1 x (List.mem_of_mem_take hx))
         (fun g hg=>.inl (by
          simp only[Owns,Rho.val]
          cases hs:(ρ.sl k).1 with
          | none=>simp [hs,Value.ownBlock]at hg
          | some ad=>simpa [hs,Value.ownBlock] using hg))
        refine⟨_,_,H,ρ',w,?_,h,hr',Le.refl H,by rw[SV.lt];exact Nat.ble_eq_true_of_le (Nat.le_refl _)⟩
        have hcap:xs.length≤(ρ.sl k).2.2:=by
         rcases hb.1.2 with ⟨h2,h3⟩ | ⟨g,cap,cur,h2,h3,h4,h5,h6,h7,h8⟩
         ·omega
         ·simp only[Rho.val,Value.slice.injEq]at h2;omega
        have hbd:=sliceBounds_ok (P:=C.P) hr true xs.length (ρ.sl k).2.2 hl hh (by omega);simp only[execOp,ho,Instr.sliceAt,Sem.run_bind,run_underlying hu,Result.andThen_ok,Instr.slice,h1,Rho.val,hn,Option.map_none,Sem.run_pure,hbd,tsize_ok ht hsz,hg]
        have e1:(ρ.sl k).1.map (fun x=>x.add (Int.toNat 0*sz))=(ρ.sl k).1:=by
         cases (ρ.sl k).1<;>simp [Addr.add]
        rw[e1];simp
      ·exact h.elim
     ·exact h.elim
  ·exact h.elim
theorem cutA_cut (a:Option Addr) (lo l c sz:Nat) (hc:lo+l<c):cutA (cutA a lo c sz) l (c - lo) sz=cutA a (lo+l) c sz:=by
 unfold cutA;rw[if_neg (by omega),if_neg (by omega),if_neg (by omega)]
 cases a with
 | none=>rfl
 | some ad=>simp only[Option.map_some,Addr.add_add,Nat.add_mul]
theorem ok_sliceV {fb:Prop} (ht:TOK C) {T' T:TypeId} {x:Operand} {lo hi mx:Option Operand} {K:KK} (h:sliceV fb C s T' x lo hi mx fun r=>K r s H):RawP C s (.slice T' x lo hi mx) T H K∨fb:=by
 unfold sliceV at h;split at h
 ·-- a string
  rename_i i0 hT;have hu:=(ht _ _ _ hT).2;split at h
  ·exact .inr h
  ·split at h
   ·rename_i b hx;split at h
    ·exact h.elim
    ·rename_i l hl;split at h
     ·exact h.elim
     ·rename_i hh0 hh;obtain⟨hle,h⟩:=h
      refine .inl fun B ρ o a w ho _ hr=>⟨_,?_,h,by rw[SV.lt]⟩
      have h1:=(eval_get hr hx).1;rw[ga]at h1;have hbd:=sliceBounds_ok (P:=C.P) hr false b.size b.size hl hh hle;simp only[execOp,ho,Instr.sliceAt,Sem.run_bind,run_underlying hu,Result.andThen_ok,Instr.slice,h1,Option.map_none,Option.isSome_none,Bool.false_eq_true,if_false,Sem.run_pure,hbd,ga,extract_bs]
   ·exact h.elim
 ·-- a slice
  rename_i i0 e hT;have hu:=(ht _ _ _ hT).2;split at h
  ·exact h.elim
  ·rename_i sz hsz;split at h
   ·split at h
    ·rename_i ad n c hx;split at h
     ·exact h.elim
     ·rename_i l hl;split at h
      ·exact h.elim
      ·rename_i hh0 hh;obtain⟨hle,h⟩:=h
       refine .inl fun B ρ o a w ho _ hr=>⟨_,?_,h,by rw[SV.lt]⟩
       have h1:=(eval_get hr hx).1;rw[ga]at h1;have hbd:=sliceBounds_ok (P:=C.P) hr true n c hl hh (by omega);simp only[execOp,ho,Instr.sliceAt,Sem.run_bind,run_underlying hu,Result.andThen_ok,Instr.slice,h1,Option.map_none,Sem.run_pure,hbd,tsize_ok ht hsz,ga,cutA]
    ·rename_i k hx;split at h
     ·rename_i e' sz' xs hk;split at h
      ·exact h.elim
      ·rename_i l hl;split at h
       ·exact h.elim
       ·rename_i hh0 hh
        have hbif:=bif_f h;clear h;obtain⟨hq,hle,h⟩:=hbif
        obtain rfl:=beq_t hq
        refine .inl fun B ρ o a w ho _ hr=>⟨_,?_,h,?_⟩
        ·have h1:=(eval_get hr hx).1;rw[ga]at h1;obtain⟨hn,hcap⟩:=row_len (hr.mem.ok _ _ hk).2.1;have hbd:=sliceBounds_ok (P:=C.P) hr true xs.length (ρ.sl k).2.2 hl hh (by omega);simp only[execOp,ho,Instr.sliceAt,Sem.run_bind,run_underlying hu,Result.andThen_ok,Instr.slice,h1,Rho.val,hn,Option.map_none,Sem.run_pure,hbd,tsize_ok ht hsz,ga,cutA,Rho.part]
        ·have:=(eval_get hr hx).2
         simpa only[SV.lt] using this
     ·exact h.elim
    ·rename_i k sz0 lo0 n hx;split at h
     ·rename_i e' sz' xs hk;split at h
      ·exact h.elim
      ·rename_i l hl;split at h
       ·exact h.elim
       ·rename_i hh0 hh
        have hbif:=bif_f h;clear h;obtain⟨hq,hle,h,h'⟩:=hbif
        simp only[Bool.and_eq_true]at hq;obtain rfl:=beq_t hq.1;obtain rfl:=beq_t hq.2
        by_cases hlt:l<hh0
        ·refine .inl fun B ρ o a w ho _ hr=>⟨_,?_,h hlt,?_⟩
         ·have h1:=(eval_get hr hx).1;rw[ga,Rho.part]at h1;obtain⟨hn,hcap⟩:=row_len (hr.mem.ok _ _ hk).2.1;have hbd:=sliceBounds_ok (P:=C.P) hr true n ((ρ.sl k).2.2 - lo0) hl hh (by omega);simp only[execOp,ho,Instr.sliceAt,Sem.run_bind,run_underlying hu,Result.andThen_ok,Instr.slice,h1,Option.map_none,Sem.run_pure,hbd,tsize_ok ht hsz,ga,Rho.part];rw[←cutA_cut _ _ _ _ _ (by omega)];simp only[cutA,Nat.sub_sub]
         ·have:=(eval_get hr hx).2
          simpa only[SV.lt] using this
        ·have hlh:l=hh0:=by omega
         refine .inl fun B ρ o a w ho _ hr=>?_
         have h1:=(eval_get hr hx).1;rw[ga,Rho.part]at h1;obtain⟨hn,hcap⟩:=row_len (hr.mem.ok _ _ hk).2.1;have hbd:=sliceBounds_ok (P:=C.P) hr true n ((ρ.sl k).2.2 - lo0) hl hh (by omega);refine⟨_,?_,h' hlh (cutA (cutA (ρ.sl k).1 lo0 (ρ.sl k).2.2 sz0) l.toNat ((ρ.sl k).2.2 - lo0) sz0) ((ρ.sl k).2.2 - lo0 - l.toNat),by rw[SV.lt]⟩;simp only[execOp,ho,Instr.sliceAt,Sem.run_bind,run_underlying hu,Result.andThen_ok,Instr.slice,h1,Option.map_none,Sem.run_pure,hbd,tsize_ok ht hsz,ga,hlh,Nat.sub_self];simp only[cutA]
     ·exact h.elim
    ·exact h.elim
   ·split at h
    ·exact .inr h
    ·split at h
     ·rename_i ad n c hx;split at h
      ·exact h.elim
      ·rename_i l hl;split at h
       ·exact h.elim
       ·rename_i hh0 hh;split at h
        ·exact h.elim
        ·rename_i m hm;obtain⟨hle,h⟩:=h
         refine .inl fun B ρ o a w ho _ hr=>⟨_,?_,h,by rw[SV.lt]⟩
         have h1:=(eval_get hr hx).1;rw[ga]at h1;have hbd:=sliceBounds3_ok (P:=C.P) hr true n c hl hh hm (by omega);simp only[execOp,ho,Instr.sliceAt,Sem.run_bind,run_underlying hu,Result.andThen_ok,Instr.slice,h1,Option.map_some,Sem.run_pure,hbd,tsize_ok ht hsz,ga,cutA]
     ·rename_i k hx;split at h
      ·rename_i e' sz' xs hk;split at h
       ·exact h.elim
       ·rename_i l hl;split at h
        ·exact h.elim
        ·rename_i hh0 hh;split at h
         ·exact h.elim
         ·rename_i m hm
          have hbif:=bif_f h;clear h;obtain⟨hq,hle,h⟩:=hbif
          obtain rfl:=beq_t hq
          refine .inl fun B ρ o a w ho _ hr=>?_
          have h1:=(eval_get hr hx).1;rw[ga]at h1;obtain⟨hn,hcap⟩:=row_len (hr.mem.ok _ _ hk).2.1;have hbd:=sliceBounds3_ok (P:=C.P) hr true xs.length (ρ.sl k).2.2 hl hh hm (by omega);refine⟨_,?_,h (.slice (cutA (ρ.sl k).1 l.toNat m.toNat sz') (hh0.toNat - l.toNat) (m.toNat - l.toNat)),by rw[SV.lt]⟩;simp only[execOp,ho,Instr.sliceAt,Sem.run_bind,run_underlying hu,Result.andThen_ok,Instr.slice,h1,Rho.val,hn,Option.map_some,Sem.run_pure,hbd,tsize_ok ht hsz,ga,cutA]
      ·exact h.elim
     ·exact .inr h
 ·exact .inr h
theorem flat_len {sz:Nat}:∀ {xs:List (List Value)},(∀x∈xs,x.length=sz)→xs.flatten.length=xs.length*sz
 | [],_=>by simp
 | x::r,h=>by
  rw[List.flatten_cons,List.length_append,h x List.mem_cons_self,flat_len fun y hy=>h y (List.mem_cons_of_mem _ hy),List.length_cons,Nat.add_mul];omega
theorem patch_take {α:Type} (c Y:List α) (p m:Nat) (h1:p+Y.length≤m) (h2:m≤c.length):(c.take p++Y++c.drop (p+Y.length)).take m=(c.take m).take p++Y++(c.take m).drop (p+Y.length):=by
 have e1:(c.take p++Y).length=p+Y.length:=by simp;omega
 rw[List.take_append,e1,List.take_of_length_le (by rw[e1];exact h1),List.take_take,Nat.min_eq_left (by omega),List.drop_take]
theorem store_view (hr:Rel C B ρ s H a w) {k:Nat} {e:TypeId} {sz:Nat} {xs:List (List Value)} (hk:lk s.bx k=some (.row e sz xs)) {lo:Nat} {ys:List (List Value)}
  (hy:∀y∈ys,y.length=sz∧∀u∈y,u.oneCell'=true) (hfit:lo+ys.length≤xs.length) {base:Option Addr} (hb:ys=[]∨base=some ⟨ρ.b k,lo*sz,none⟩):
  ∃w',(match base with | some a=>storeCells a ys.flatten | none=>pure ()).run P w = .ok () w'∧Rel C B ρ (s.box k (.row e sz (xs.take lo++ys++xs.drop (lo+ys.length)))) H a w':=by
 have hbx:=(hr.mem.ok _ _ hk).2.1
 by_cases hys:ys=[]
 ·subst hys
  refine⟨w,by cases base<;>simp [storeCells],?_⟩
  have:xs.take lo++[]++xs.drop (lo+([]:List (List Value)).length)=xs:=by simp
  rw[this]
  exact hr.with (bx:=(k,.row e sz xs)::s.bx) (hr.mem.write hk rfl rfl ⟨rfl,Nat.le_refl _⟩ (Nat.le_refl _) (fun _ _ _=>rfl) rfl hbx (fun g hg=>hg))
 ·obtain rfl:=hb.resolve_left hys
  have hsz:∀x∈xs,x.length=sz:=fun x hx=>(hbx.2.1 x hx).1
  have hyl:=flat_len fun y hx=>(hy y hx).1
  have hxl:=flat_len hsz;have hpos:0<ys.length:=List.length_pos_iff.2 hys
  have hfs:lo*sz+ys.flatten.length≤xs.length*sz:=by rw[hyl,←Nat.add_mul];exact Nat.mul_le_mul_right _ hfit
  rcases row_arr hbx with ⟨_,rfl⟩ | ⟨cap,cur,h1,h2,h3,hmx,h4,h5⟩
  ·simp only[List.length_nil]at hfit;omega
  ·have hcs:xs.length*sz≤cur.size:=by rw[h4];exact Nat.mul_le_mul_right _ h3
   have hst:=run_storeCells_at P (ρ.b k) (lo*sz) e ys.flatten 0 cur w h2 (by omega) (fun u hu=>by
    obtain⟨y,h6,h7⟩:=List.mem_flatten.1 hu
    exact (hy y h6).2 u h7)
   simp only[Nat.add_zero]at hst;refine⟨_,hst,?_⟩
   have ho:Owns ρ k (.row e sz xs) (ρ.b k):=by simp only[Owns,Rho.val,h1];rfl
   refine hr.with (bx:=(k,.row e sz (xs.take lo++ys++xs.drop (lo+ys.length)))::s.bx) (setRow_write hr.mem hk h2 ho rfl (fun hh=>?_) (fun g hg=>hg))
   have hnl:(xs.take lo++ys++xs.drop (lo+ys.length)).length=xs.length:=by simp;omega
   have hnf:(xs.take lo++ys++xs.drop (lo+ys.length)).flatten=xs.flatten.take (lo*sz)++ys.flatten++xs.flatten.drop (lo*sz+ys.flatten.length):=by
    rw[List.flatten_append,List.flatten_append,take_flat lo hsz,drop_flat _ hsz,hyl,Nat.add_mul]
   refine⟨?_,fun x hx=>?_,fun g hg=>hbx.2.2 g hg⟩
   ·rw[hnl];refine⟨by rw[hnf];simp only[List.length_append,List.length_take,List.length_drop];omega,.inr ⟨ρ.b k,cap,_,by rw[Rho.val,h1],Nat.zero_le _,hh,h3,hmx,?_,?_⟩⟩
    ·simp only[List.size_toArray,List.length_append,List.length_take,List.length_drop,Array.length_toList];omega
    ·rw[hnf,←h5];exact patch_take _ _ _ _ hfs (by simpa using hcs)
   ·rcases List.mem_append.1 hx with hx | hx
    ·rcases List.mem_append.1 hx with hx | hx
     ·exact hbx.2.1 x (List.mem_of_mem_take hx)
     ·exact hy x hx
    ·exact hbx.2.1 x (List.mem_of_mem_drop hx)
theorem viewK_ok (hr:Rel C B ρ s H a w) {x:SV} {K:Nat→TypeId→Nat→List (List Value)→Nat→Nat→Prop} (h:viewK s x K):
  ∃k e sz xs lo n,lk s.bx k=some (.row e sz xs)∧K k e sz xs lo n∧∃base c,ga ρ x = .slice base n c∧(lo+n≤xs.length→n=0∨base=some ⟨ρ.b k,lo*sz,none⟩):=by
 unfold viewK at h;split at h
 ·rename_i k;split at h
  ·rename_i e sz xs hk;refine⟨k,e,sz,xs,0,xs.length,hk,h,(ρ.sl k).1,(ρ.sl k).2.2,?_,fun _=>?_⟩
   ·rw[ga,Rho.val,(row_len (hr.mem.ok _ _ hk).2.1).1]
   ·rcases row_arr (hr.mem.ok _ _ hk).2.1 with ⟨_,rfl⟩ | ⟨cap,cur,h1,_⟩
    ·exact .inl rfl
    ·right;rw[h1];simp
  ·exact h.elim
 ·rename_i k sz lo n;split at h
  ·rename_i e sz' xs hk
   have hbif:=bif_f h;clear h;obtain⟨hq,h⟩:=hbif
   obtain rfl:=beq_t hq;refine⟨k,e,sz',xs,lo,n,hk,h,_,_,by rw[ga,Rho.part],fun hn=>?_⟩
   rcases row_arr (hr.mem.ok _ _ hk).2.1 with ⟨_,rfl⟩ | ⟨cap,cur,h1,_,h3,_⟩
   ·simp only[List.length_nil]at hn;left;omega
   ·by_cases hc:cap=lo
    ·left;omega
    ·right;rw[h1,cutA,if_neg hc,Option.map_some,Addr.at_,Nat.zero_add]
  ·exact h.elim
 ·exact h.elim
theorem news_len {v:Value} {sz:Nat} {ys:List (List Value)} (h:News w v sz ys) (w':World):(Builtin.lenOf v).run P w' = .ok ys.length w':=by
 rcases h.2 with ⟨rfl,rfl⟩ | ⟨ad,c,rfl,_⟩<;>rfl
theorem news_first {v:Value} {sz:Nat} {ys:List (List Value)} (h:News w v sz ys) (m:Nat) (hm:m≤ys.length):(Builtin.firstCells sz m v).run P w = .ok ((ys.take m).flatten.toArray) w:=by
 rcases h.2 with ⟨rfl,rfl⟩ | ⟨ad,c,rfl,hc⟩
 ·simp [Builtin.firstCells]
 ·have hsz:∀y∈ys,y.length=sz:=fun y hy=>(h.1 y hy).1
  have hl:((ys.take m).flatten).length=m*sz:=by rw[flat_len fun y hy=>hsz y (List.mem_of_mem_take hy),List.length_take,Nat.min_eq_left hm]
  have:=run_loadCells_list (P:=P) w ad (ys.take m).flatten (fun j u hj=>hc j u (by
   rw[take_flat m hsz,List.getElem?_take]at hj;split at hj
   ·exact hj
   ·cases hj))
  rw[hl]at this;simp only[Builtin.firstCells,this]
theorem ok_copy {fb:Prop} (ht:TOK C) {c:Call} {T:TypeId} {K:KK} (hc:c.callee = .builtin .copy) (hfb:fb→RawOp C s (.call c) T H K) (h:match c.args.toList with
    | [x,y]=>match c.argTypes.toList with
     | [t,_]=>match telem C t with
      | none=>fb
      | some e=>match tsize C e with
       | none=>fb
       | some sz=>match get s x with
        | none=>fb
        | some x'=>match get s y with
         | none=>fb
         | some y'=>bif Nat.ble 1 sz then (rowOf s H y' sz fun ys=>viewK s x' fun k e' sz' xs lo n=>bif Nat.beq sz' sz then
           (lo+n≤xs.length∧K (.v (.int .i64 ((ys.take n).length:Nat))) (s.box k (.row e' sz' (xs.take lo++ys.take n++xs.drop (lo+(ys.take n).length)))) H) else False) else fb
     | _=>fb
    | _=>fb):RawOp C s (.call c) T H K:=by
 split at h
 ·rename_i x y hx
  have ha:c.args=#[x,y]:=by apply Array.ext';simpa using hx
  split at h
  ·rename_i t t' hT'
   have hat:c.argTypes=#[t,t']:=by apply Array.ext';simpa using hT'
   split at h
   ·exact hfb h
   ·rename_i e he;split at h
    ·exact hfb h
    ·rename_i sz hsz;split at h
     ·exact hfb h
     ·rename_i x' hx';split at h
      ·exact hfb h
      ·rename_i y' hy'
       cases hz:Nat.ble 1 sz with
       | false=>rw[hz]at h;exact hfb h
       | true =>
        rw[hz,cond_true]at h;have hsz1:=ble_t hz
        refine raw_val fun B ρ o a w ho _ hr=>?_
        obtain⟨ys,h1,hn⟩:=rowOf_news hr hsz1 h;clear h;obtain⟨e1,l1⟩:=eval_get hr hx';obtain⟨e2,l2⟩:=eval_get hr hy';obtain⟨k,e',sz',xs,lo,n,hk,h2,base,cp,hv,hbase⟩:=viewK_ok hr h1
        have hbif:=bif_f h2;clear h1 h2;obtain⟨hq,hfit,h⟩:=hbif
        obtain rfl:=beq_t hq
        have hm:(ys.take n).length=min ys.length n:=by rw[List.length_take,Nat.min_comm]
        obtain⟨w',hw,hr'⟩:=store_view (P:=C.P) hr hk (lo:=lo) (ys:=ys.take n) (base:=base) (fun y hy=>hn.1 y (List.mem_of_mem_take hy)) (by omega) (by
         rcases hbase hfit with h0 | h0
         ·left;subst h0;simp
         ·exact .inr h0)
        refine⟨_,_,H,ρ,w',?_,h,hr',Le.refl H,by rw[SV.lt]⟩;rw[exec_builtin ho hc,ha,hat];have hmin:Nat.min ys.length n=(ys.take n).length:=hm.symm;have hf:=news_first (P:=C.P) hn (ys.take n).length (by omega)
        have e3:ys.take (ys.take n).length=ys.take n:=by rw[List.length_take];exact List.take_eq_take_iff.2 (by omega)
        rw[e3]at hf;simp only[builtin,List.map_toArray,List.map_cons,List.map_nil,e1,e2,hv];have hu:=telem_ok ht he;have hlen:=news_len (P:=C.P) hn w;have hts:=tsize_ok ht hsz w
        obtain⟨m,hmm⟩:∃m,m=(ys.take n).length:=⟨_,rfl⟩
        rw[←hmm]at hf hmin ⊢
        cases base with
        | none =>
         simp at hw;subst hw;simp [Builtin.copy_,run_underlying hu,hlen,hts,hf,hmin,ga,goInt]
        | some ad =>
         simp at hw;simp [Builtin.copy_,run_underlying hu,hlen,hts,hf,hmin,hw,ga,goInt]
  ·exact hfb h
 ·exact hfb h
theorem zeroRow_ok (ht:TOK C) {e:TypeId} {z:Nat×List Value} (h:zeroRow C e=some z):∃i v,C.P.info? e=some i∧i.zero=some v∧v.cells.toList=z.2∧i.size=z.2.length∧1≤i.size∧i.bytes=z.1∧∀u∈z.2,u.oneCell'=true:=by
 unfold zeroRow at h;split at h
 ·cases h
 ·rename_i i hi;split at h
  ·cases h
  ·rename_i cs hcs;split at h
   ·cases h
   ·rename_i zl hzl
    cases hq:(Nat.ble 1 i.1.size&&Nat.beq zl.length i.1.size) with
    | false=>rw[hq]at h;cases h
    | true =>
     rw[hq]at h;cases h;simp only[Bool.and_eq_true]at hq;have hv:=vals_gas (ρ:=⟨fun _=>0,fun _=>(none,0,0)⟩) hzl;unfold zeroCells at hcs;rw[hi]at hcs;simp only at hcs;split at hcs
     ·rename_i v hzv;cases hcs;refine⟨i.1,v,tt_zero ht hi,hzv,?_,(beq_t hq.2).symm,ble_t hq.1,rfl,hv.2⟩;have:=cells_ga (ρ:=⟨fun _=>0,fun _=>(none,0,0)⟩) (.v v);rw[ga]at this;rw[this,hv.1]
     ·cases hcs
theorem rep_flat (z:List Value):∀n,(List.replicate n z).flatten=(madeCells z.toArray (n*z.length)).toList:=by
 intro n;apply List.ext_getElem?;intro j
 by_cases hj:j<n*z.length
 ·have hz:0<z.length:=by
   rcases Nat.eq_zero_or_pos z.length with h | h
   ·rw[h]at hj;omega
   ·exact h
  have h1:j / z.length<n:=Nat.div_lt_of_lt_mul (by rw[Nat.mul_comm];exact hj);have h2:=flat_get (sz:=z.length) (xs:=List.replicate n z) (i:=j / z.length) (cs:=z) (fun x hx=>by rw[(List.mem_replicate.1 hx).2]) (by rw[List.getElem?_replicate,if_pos h1]) (j % z.length) (Nat.mod_lt _ hz);rw[Nat.mul_comm,Nat.div_add_mod]at h2;rw[h2];have hm:j % z.length<z.length:=Nat.mod_lt _ hz;simp [madeCells,hj,hm]
 ·have hl:((List.replicate n z).flatten).length=n*z.length:=by simp
  rw[List.getElem?_eq_none (by omega),List.getElem?_eq_none (by simp [madeCells];omega)]
theorem ok_make {fb:Prop} (ht:TOK C) {T' T:TypeId} {l c:Operand} {K:KK} (hfb:fb→RawOp C s (.makeSlice T' l c) T H K) (h:match telem C T' with
  | none=>fb
  | some e=>match zeroRow C e with
   | none=>fb
   | some (zb,zl)=>match getN s l with
    | none=>fb
    | some n=>match getN s c with
     | none=>fb
     | some m=>(m=n∧0≤n∧n*zb≤140737488355328∧n≤9223372036854775807)∧K (.own s.nx) (s.new (.row e zl.length (List.replicate n.toNat zl))) H):RawOp C s (.makeSlice T' l c) T H K:=by
 split at h
 ·exact hfb h
 ·rename_i e he;split at h
  ·exact hfb h
  ·rename_i zb zl hz;split at h
   ·exact hfb h
   ·rename_i n hn;split at h
    ·exact hfb h
    ·rename_i m hm;obtain⟨⟨rfl,h0,hby,hmax⟩,h⟩:=h
     refine raw_val fun B ρ o a w ho _ hr=>?_
     obtain⟨i,v,i1,i2,i3,i4,i5,i6,i7⟩:=zeroRow_ok ht hz;simp only at i3 i4 i6 i7;obtain⟨kl,hkl⟩:=getN_ok hr hn;obtain⟨kc,hkc⟩:=getN_ok hr hm;have hrun:=run_make (P:=C.P) w T' e i v (telem_ok ht he) i1 i2 kl kc m m h0 (by omega) (by rw[i6,Int.mul_comm];omega) (by omega)
     have hvc:v.cells=zl.toArray:=by rw[←i3]
     rw[hvc,i4]at hrun
     have hfl:=rep_flat zl m.toNat
     obtain⟨ρ',hr',hg⟩:=hr.rowed (e:=e) (sz:=zl.length) (xs:=List.replicate m.toNat zl) (w':=w.alloc (.cells (madeCells zl.toArray (m.toNat*zl.length)) e)) (v:=(some ⟨w.heap.size,0,none⟩,m.toNat,m.toNat)) rfl rfl ⟨rfl,Nat.le_refl _⟩ (by simp) (fun g hg=>heap_alloc_old w _ g hg)
      (by
       rw[List.length_replicate,hfl];refine⟨by simp [madeCells],.inr ⟨w.heap.size,m.toNat,_,rfl,Nat.zero_le _,heap_alloc_new w _,Nat.le_refl _,?_,by simp [madeCells],by rw[List.take_of_length_le (by simp [madeCells])]⟩⟩;simp only[maxLen]
       omega)
      (fun x hx=>by rw[(List.mem_replicate.1 hx).2];exact⟨rfl,i7⟩)
      (fun g hg=>by simp only[Value.ownBlock,Option.some.injEq]at hg;omega)
     refine⟨_,_,H,ρ',_,?_,h,hr',Le.refl H,by rw[SV.lt];exact Nat.ble_eq_true_of_le (Nat.le_refl _)⟩;simp only[execOp,ho,hkl,hkc,Sem.run_bind,hrun,hg]
     rfl
theorem ok_clear {fb:Prop} (ht:TOK C) {c:Call} {T:TypeId} {K:KK} (hc:c.callee = .builtin .clear) (hfb:fb→RawOp C s (.call c) T H K) (h:match c.args.toList with
    | [x]=>match c.argTypes.toList with
     | [t]=>match telem C t with
      | none=>fb
      | some e=>match zeroRow C e with
       | none=>fb
       | some (_,zl)=>match get s x with
        | none=>fb
        | some x'=>viewK s x' fun k e' sz' xs lo n=>bif Nat.beq sz' zl.length then
          (lo+n≤xs.length∧K (.v (.tuple #[])) (s.box k (.row e' sz' (xs.take lo++List.replicate n zl++xs.drop (lo+n)))) H) else False
     | _=>fb
    | _=>fb):RawOp C s (.call c) T H K:=by
 split at h
 ·rename_i x hx
  have ha:c.args=#[x]:=by apply Array.ext';simpa using hx
  split at h
  ·rename_i t hT'
   have hat:c.argTypes=#[t]:=by apply Array.ext';simpa using hT'
   split at h
   ·exact hfb h
   ·rename_i e he;split at h
    ·exact hfb h
    ·rename_i zb zl hz;split at h
     ·exact hfb h
     ·rename_i x' hx'
      refine raw_val fun B ρ o a w ho _ hr=>?_
      obtain⟨e1,l1⟩:=eval_get hr hx';obtain⟨k,e',sz',xs,lo,n,hk,h2,base,cp,hv,hbase⟩:=viewK_ok hr h
      have hbif:=bif_f h2;clear h h2;obtain⟨hq,hfit,h⟩:=hbif
      have hq:=beq_t hq;subst hq;obtain⟨i,v,i1,i2,i3,i4,i5,i6,i7⟩:=zeroRow_ok ht hz;simp only at i3 i4 i6 i7
      have hvc:v.cells=zl.toArray:=by rw[←i3]
      obtain⟨w',hw,hr'⟩:=store_view (P:=C.P) hr hk (lo:=lo) (ys:=List.replicate n zl) (base:=base) (fun y hy=>by rw[(List.mem_replicate.1 hy).2];exact⟨rfl,i7⟩) (by simpa using hfit) (by
       rcases hbase hfit with h0 | h0
       ·left;subst h0;rfl
       ·exact .inr h0)
      rw[List.length_replicate]at hr';refine⟨_,_,H,ρ,w',?_,h,hr',Le.refl H,by rw[SV.lt]⟩;rw[exec_builtin ho hc,ha,hat];simp only[builtin,List.map_toArray,List.map_cons,List.map_nil,e1,hv];have hu:=telem_ok ht he;rw[rep_flat]at hw
      have hzc:Builtin.zeroCells v.cells n=madeCells zl.toArray (n*zl.length):=by rw[hvc];rfl
      cases base with
      | none =>
       simp at hw;subst hw;simp [Builtin.clear_,run_underlying hu,ga]
      | some ad =>
       simp only at hw
       by_cases hn0:n=0
       ·subst hn0
        have:w'=w:=by
         have h9:(madeCells zl.toArray (0*zl.length)).toList=[]:=by simp [madeCells]
         rw[h9]at hw;simp [storeCells]at hw;exact hw.symm
        subst this;simp [Builtin.clear_,run_underlying hu,ga]
       ·obtain⟨m,rfl⟩:∃m,n=m+1:=⟨n - 1,by omega⟩
        simp [Builtin.clear_,run_underlying hu,zeroValue,typeInfo,i1,i2,hzc,hw,ga]
  ·exact hfb h
 ·exact hfb h
theorem ok_cap {fb:Prop} (ht:TOK C) {c:Call} {T:TypeId} {K:KK} (hc:c.callee = .builtin .cap) (hfb:fb→RawOp C s (.call c) T H K) (h:match c.args.toList with
    | [x]=>match c.argTypes.toList with
     | [t]=>match telem C t with
      | none=>fb
      | some _=>match get s x with
       | some (.own k)=>match lk s.bx k with
        | some (.row _ _ xs)=>∀m:Nat,xs.length≤m→m≤9223372036854775807→K (.v (.int .i64 m)) s H
        | _=>False
       | some (.v (.slice _ _ m))=>K (.v (.int .i64 m)) s H
       | _=>fb
     | _=>fb
    | _=>fb):RawOp C s (.call c) T H K:=by
 split at h
 ·rename_i x hx
  have ha:c.args=#[x]:=by apply Array.ext';simpa using hx
  split at h
  ·rename_i t hT'
   have hat:c.argTypes=#[t]:=by apply Array.ext';simpa using hT'
   split at h
   ·exact hfb h
   ·rename_i e he;have hu:=telem_ok ht he;split at h
    ·rename_i k hg;split at h
     ·rename_i e' sz xs hk
      refine raw_pure fun B ρ o a w ho _ hr=>?_
      have h1:=(eval_get hr hg).1;rw[ga,Rho.val]at h1;have hbx:=(hr.mem.ok _ _ hk).2.1
      have hmx:(ρ.sl k).2.2≤9223372036854775807:=by
       rcases row_arr hbx with ⟨h2,rfl⟩ | ⟨cap,cur,h2,h3,h4,hmx,_⟩
       ·rw[h2];exact Nat.zero_le _
       ·rw[h2];simpa [maxLen] using hmx
      refine⟨_,?_,h (ρ.sl k).2.2 (row_len hbx).2 hmx,by rw[SV.lt]⟩;rw[exec_builtin ho hc,ha,hat];simp [builtin,Builtin.cap_,h1,run_underlying hu,ga,goInt]
     ·exact h.elim
    ·rename_i ad n m hg
     refine raw_pure fun B ρ o a w ho _ hr=>⟨_,?_,h,by rw[SV.lt]⟩
     have h1:=(eval_get hr hg).1;rw[ga]at h1;rw[exec_builtin ho hc,ha,hat];simp [builtin,Builtin.cap_,h1,run_underlying hu,ga,goInt]
    ·exact hfb h
  ·exact hfb h
 ·exact hfb h
theorem byte_rows_flat:∀(b:List UInt8),(byteRows b).flatten=b.map fun c=>Value.int .u8 c.toNat
 | []=>rfl
 | c::r=>by
  have:=byte_rows_flat r;simp only[byteRows,List.map_cons,List.flatten_cons]at this ⊢
  rw[this];rfl
theorem byte_rows_len (b:List UInt8):(byteRows b).length=b.length:=by simp [byteRows]
theorem byte_rows_one (b:List UInt8):∀x∈byteRows b,x.length=1∧∀u∈x,u.oneCell'=true:=by
 intro x hx;simp only[byteRows,List.mem_map]at hx;obtain⟨c,_,rfl⟩:=hx;refine⟨rfl,fun u hu=>?_⟩;simp only[List.mem_singleton]at hu;subst hu
 rfl
theorem strCells_sl (s:ByteArray):Lib.strCells s=(byteRows (sl s)).flatten:=by rw[byte_rows_flat];rfl
theorem append_view (ht:TOK C) (hr:Rel C B ρ s H a w) {t ty e:TypeId} (he:telem C t=some e) {sz:Nat} (hsz:tsize C e=some sz) {k:Nat} {e':TypeId} {xs:List (List Value)} (hk:lk s.bx k=some (.row e' sz xs)) {lo n:Nat}
  {y:Value} {ys:List (List Value)} (hn:News w y sz ys) (hfit:lo+n+ys.length≤xs.length):
  ∃w',(Builtin.append_ #[t,t] ty #[ρ.part k sz lo n,y]).run C.P w = .ok (ρ.part k sz lo (n+ys.length)) w'∧Rel C B ρ (s.box k (.row e' sz (xs.take (lo+n)++ys++xs.drop (lo+n+ys.length)))) H a w':=by
 have hbx:=(hr.mem.ok _ _ hk).2.1;obtain⟨hl1,hl2⟩:=row_len hbx;have hu:=telem_ok ht he;have hts:=tsize_ok ht hsz w;have hlen:=news_len (P:=C.P) hn w;have hf:=news_first (P:=C.P) hn ys.length (Nat.le_refl _);rw[List.take_of_length_le (Nat.le_refl _)]at hf
 have hroom:n+ys.length≤(ρ.sl k).2.2 - lo:=by omega
 obtain⟨base,hb⟩:∃base,base=cutA (ρ.sl k).1 lo (ρ.sl k).2.2 sz:=⟨_,rfl⟩
 have hbase:ys=[]∨base.map (·.add (n*sz))=some ⟨ρ.b k,(lo+n)*sz,none⟩:=by
  rcases row_arr hbx with ⟨_,rfl⟩ | ⟨cap,cur,h1,h2,h3,hmx,h4,h5⟩
  ·left
   simp only[List.length_nil]at hfit;exact List.eq_nil_of_length_eq_zero (by omega)
  ·by_cases hys:ys=[]
   ·exact .inl hys
   ·right
    have:0<ys.length:=List.length_pos_iff.2 hys;rw[h1]at hroom;simp only at hroom;rw[hb,h1,cutA,if_neg (by simp only;omega),Option.map_some,Option.map_some,Addr.add_add,Addr.at_,Nat.add_mul,Nat.zero_add]
 obtain⟨w',hw,hr'⟩:=store_view (P:=C.P) hr hk (lo:=lo+n) (ys:=ys) (base:=base.map (·.add (n*sz))) hn.1 hfit hbase;refine⟨w',?_,hr'⟩
 have hz:∀w:World,((match (#[t,t]:Array TypeId)[1]? with
  | some xType=>do pure ((←underlying xType) matches .int _)
  | none=>pure false:Sem Bool)).run C.P w = .ok false w:=fun w=>by
  simp [run_underlying hu]
 cases base with
 | none =>
  simp at hw;subst hw;simp [Builtin.append_,run_underlying hu,Rho.part,←hb,hts,hlen,hf,hroom]
 | some ad =>
  simp at hw;simp [Builtin.append_,run_underlying hu,Rho.part,←hb,hts,hlen,hf,hroom,hw]
theorem run_append_none_str {P:Program} (w:World) (t t' ty e:TypeId) (i:TypeInfo) (ht:P.underlying t=some (.slice e)) (hu:P.underlying t'=some .string) (hi:P.info? e=some i) (b:ByteArray) (hb:b.size=0):
  (Builtin.append_ #[t,t'] ty #[.slice none 0 0,.string b]).run P w = .ok (.slice none 0 0) w:=by
 have hf:=Lib.run_firstCells_string (P:=P) w i.size b;rw[hb]at hf;simp [Builtin.append_,run_underlying ht,run_underlying hu,sizeOf,typeInfo,hi,Builtin.lenOf,hb,hf]
theorem append_str {t t' ty e:TypeId} {i:TypeInfo} (hu:C.P.underlying t=some (.slice e)) (hu2:C.P.underlying t'=some .string) (hi:C.P.info? e=some i) (hz:i.zero=some (.int .u8 0)) (hs1:i.size=1) (hb1:i.bytes=1)
  {v:Value} {xs:List (List Value)} (hown:w.ownsRow 0 e 1 v xs.length xs.flatten) (b:ByteArray) (hlen:xs.length+(sl b).length≤140737488355328):
  ∃v' w',(Builtin.append_ #[t,t'] ty #[v,.string b]).run C.P w = .ok v' w'∧w'.ownsRow 0 e 1 v' (xs++byteRows (sl b)).length (xs++byteRows (sl b)).flatten∧w.grownBy w' v.ownBlock∧(∀g,v'.ownBlock=some g→v.ownBlock=some g∨w.heap.size≤g)∧w.drawn≤w'.drawn∧∃a l c,v' = .slice a l c:=by
 have hbs:b.size=(sl b).length:=rfl
 have hfl:(xs++byteRows (sl b)).flatten=xs.flatten++Lib.strCells b:=by rw[List.flatten_append,strCells_sl]
 have hll:(xs++byteRows (sl b)).length=xs.length+b.size:=by rw[List.length_append,byte_rows_len];rfl
 rw[hfl,hll]
 have hm:xs.length+b.size≤maxLen:=by simp only[maxLen];omega
 rcases hown.2 with ⟨rfl,h0⟩ | ⟨g,cap,cur,rfl,hb0,hg,hnc,hcm,hcs,htk⟩
 ·have hx:xs=[]:=List.eq_nil_of_length_eq_zero h0;subst hx;obtain⟨v',w',hr,ho,hg,_⟩:=Lib.run_append_own_string (P:=C.P) w w.heap.size t t' ty e i hu hu2 hi hz hs1 hb1 (.slice none 0 0) 0 [] (World.ownsRow_nil _ _ _ _) b (by simpa using hm) (by simp only[List.length_nil]at hlen;omega) (Nat.le_refl _);refine⟨v',w',hr,?_,hg,fun g hg'=>.inr (ho.lt g hg').1,?_,?_⟩
  ·refine⟨by simpa using ho.1,?_⟩
   rcases ho.2 with h | ⟨g,cap,cur,a1,a2,a3,a4,a5,a6,a7⟩
   ·exact .inl (by simpa using h)
   ·exact .inr ⟨g,cap,cur,by simpa using a1,Nat.zero_le _,a3,by simpa using a4,a5,a6,by simpa using a7⟩
  ·by_cases hy0:b.size=0
   ·have h2:=run_append_none_str (P:=C.P) w t t' ty e i hu hu2 hi b hy0;rw[h2]at hr;simp only[Result.ok.injEq]at hr;rw[←hr.2];exact Nat.le_refl _
   ·have h2:=run_append_nil_string (P:=C.P) w t t' ty e i (.int .u8 0) hu hu2 hi hz b (by omega) (by omega) (by rw[hb1];simp only[List.length_nil]at hlen;omega);rw[hr]at h2;simp only[Result.ok.injEq]at h2;rw[h2.2];exact Nat.le_succ _
  ·rcases ho.2 with ⟨h1,_⟩ | ⟨g,cap,cur,h1,_⟩<;>exact⟨_,_,_,h1⟩
 ·obtain⟨v',w',hr,ho,hgr,_⟩:=Lib.run_append_own_string (P:=C.P) w 0 t t' ty e i hu hu2 hi hz hs1 hb1 _ xs.length xs.flatten hown b hm (by omega) (Nat.zero_le _)
  have hdr:w.drawn≤w'.drawn:=by
   by_cases hroom:xs.length+b.size≤cap
   ·have h2:=Lib.run_append_room_string (P:=C.P) w t t' ty e i hu hu2 hi hs1 g xs.length cap cur hg b hroom (by rw[hcs];omega);rw[hr]at h2;simp only[Result.ok.injEq]at h2;rw[h2.2];exact Nat.le_refl _
   ·have h2:=Lib.run_append_grow_string (P:=C.P) w t t' ty e i (.int .u8 0) hu hu2 hi hz ⟨g,0,none⟩ xs.length cap xs.flatten (by rw[hs1];exact hown.1) (hown.cells (g:=g) rfl) b (by omega) (by omega) (by rw[hb1];exact growslice_fits (by omega) (by omega));rw[hr]at h2;simp only[Result.ok.injEq]at h2;rw[h2.2];exact Nat.le_succ _
  refine⟨v',w',hr,ho,hgr,fun g' hg'=>?_,hdr,?_⟩
  ·by_cases hroom:xs.length+b.size≤cap
   ·have h2:=Lib.run_append_room_string (P:=C.P) w t t' ty e i hu hu2 hi hs1 g xs.length cap cur hg b hroom (by rw[hcs];omega);rw[hr]at h2;simp only[Result.ok.injEq]at h2;rw[h2.1]at hg';exact .inl hg'
   ·have h2:=Lib.run_append_grow_string (P:=C.P) w t t' ty e i (.int .u8 0) hu hu2 hi hz ⟨g,0,none⟩ xs.length cap xs.flatten (by rw[hs1];exact hown.1) (hown.cells (g:=g) rfl) b (by omega) (by omega) (by rw[hb1];exact growslice_fits (by omega) (by omega));rw[hr]at h2;simp only[Result.ok.injEq]at h2;rw[h2.1]at hg';simp only[Value.ownBlock,Option.some.injEq]at hg';exact .inr (by omega)
  ·rcases ho.2 with ⟨h1,_⟩ | ⟨g,cap,cur,h1,_⟩<;>exact⟨_,_,_,h1⟩
theorem famX_get {s:St} {x:Option SV} {v:Value} (h:famX s x=some v):x=some (.v v):=by
 unfold famX at h;split at h
 ·cases hf:famAlive s.bx with
  | false=>rw[hf]at h;cases h
  | true=>rw[hf]at h;simp only[cond_true,Option.some.injEq]at h;rw[h]
 ·cases h
theorem Mem.writeN {bx:List (Nat×Bx)} {nx:Nat} {w':World} {b b':Bx} {k:Nat} (hm:Mem B ρ bx nx H w) (hk:lk bx k=some b)
  (h1:w'.os=w.os) (h2:w'.tape=w.tape) (h3:OD w w') (h4:w.heap.size≤w'.heap.size)
  (hb:∀g,g<w.heap.size→¬Owns ρ k b g→w'.heap[g]?=w.heap[g]?) (hlt:b'.lt nx=true) (hok:BoxOK ρ w' k b') (howns:∀g,Owns ρ k b' g→Owns ρ k b g∨w.heap.size≤g):
  Mem B ρ ((k,b')::bx) nx H w':=by
 have hm1:Mem B ρ ((k,.dead)::bx) nx H w':=hm.write hk h1 h2 h3 h4 hb rfl trivial (fun g hg=>hg.elim);have hkk:=hm.ok k b hk
 have hne:∀ {j x},¬k=j→lk bx j=some x→lk ((k,Bx.dead)::bx) j=some x:=fun {j x} h hj=>by rw[lk_cons,if_neg h];exact hj
 have hap:∀ {j x g},¬k=j→lk bx j=some x→Owns ρ k b' g→Owns ρ j x g→False:=fun {j x g} h hj ho ho'=>by
  rcases howns g ho with h5 | h5
  ·exact h (hm.disj k j b x g hk hj h5 ho')
  ·have:=(hm.ok j x hj).2.1.lt ho';omega
 exact
 {os:=hm1.os,tape:=hm1.tape,output:=hm1.output,size:=hm1.size,frame:=hm1.frame
  base:=hm1.base,agree:=hm1.agree,hp:=hm1.hp,hle:=hm1.hle,hnew:=hm1.hnew
  ok:=fun j x hj=>by
   rw[lk_cons]at hj;split at hj
   ·rename_i e;subst e;simp only[Option.some.injEq]at hj;subst hj;exact⟨hkk.1,hok,hlt⟩
   ·rename_i h;exact hm1.ok j x (hne h hj)
  own:=fun j x g hj ho=>by
   rw[lk_cons]at hj;split at hj
   ·rename_i e;subst e;simp only[Option.some.injEq]at hj;subst hj
    rcases howns g ho with h5 | h5
    ·exact hm.own _ b g hk h5
    ·refine⟨?_,.inl (Nat.le_trans hm.size h5)⟩
     cases hh:H g with
     | none=>rfl
     | some o =>
      have:=(Array.getElem?_eq_some_iff.1 (hm.hp g o hh)).1;omega
   ·exact hm.own j x g hj ho
  disj:=fun j j' x x' g hj hj' ho ho'=>by
   rw[lk_cons]at hj hj'
   split at hj<;>split at hj'
   ·omega
   ·rename_i e1 e2;subst e1;simp only[Option.some.injEq]at hj;subst hj;exact (hap e2 hj' ho ho').elim
   ·rename_i e1 e2;subst e2;simp only[Option.some.injEq]at hj';subst hj';exact (hap e1 hj ho' ho).elim
   ·exact hm.disj j j' x x' g hj hj' ho ho' }
theorem ok_appF {fb:Prop} (ht:TOK C) {c:Call} {T:TypeId} {K:KK} (hc:c.callee = .builtin .append) {x y:Operand} (ha:c.args=#[x,y]) {t:TypeId} (hat:c.argTypes=#[t,t]) {e:TypeId} (he:telem C t=some e) {v:Value}
  (hx':get s x=some (.v v)) (hfb:fb→RawOp C s (.call c) T H K) (h:appF fb C e v (get s y) s H K):RawOp C s (.call c) T H K:=by
 unfold appF at h;split at h
 ·exact hfb h
 ·rename_i i hi;split at h
  ·exact hfb h
  ·rename_i z hz;split at h
   ·exact hfb h
   ·rename_i y' hy'
    cases hb:(Nat.beq z.cells.size i.1.size&&Nat.ble 1 i.1.size) with
    | false=>rw[hb]at h;exact hfb h
    | true =>
     rw[hb,cond_true]at h;simp only[Bool.and_eq_true]at hb;have hzs:=beq_t hb.1;have hsz:=ble_t hb.2
     refine raw_val fun B ρ o a w ho _ hr=>?_
     obtain⟨ys,h,hn⟩:=rowOf_news hr hsz h;obtain⟨e1,l1⟩:=eval_get hr hx';obtain⟨e2,l2⟩:=eval_get hr hy'
     have hrun:(execOp a.eval o).run C.P w=((do pure (.value (←Builtin.append_ #[t,t] o.type #[ga ρ (.v v),ga ρ y'])):Sem Next)).run C.P w:=by
      rw[exec_builtin ho hc,ha,hat];simp only[builtin,List.map_toArray,List.map_cons,List.map_nil,e1,e2]
     obtain⟨k,F,A,D,xs,hk,hF,⟨hby,hlen⟩,h⟩:=h;obtain⟨hall,hpw⟩:=(hr.mem.ok _ _ hk).2.1
     have hvm:(v,xs)∈F:=by rw[hF];exact List.mem_append_right _ List.mem_cons_self
     have hv:=hall _ hvm;obtain⟨v',w',r1,r2,r3,r4,r5,a',l',c',rfl⟩:=append_run (ty:=o.type) ht he hi hz hzs hsz hv.1 hn hby hlen
     have hl':l'=xs.length+ys.length:=by
      rcases r2.2 with ⟨h1,h2⟩ | ⟨g,cap,cur,h1,_⟩
      ·simp only[Value.slice.injEq]at h1;rw[List.length_append]at h2;rw[h1.2.1];exact h2.symm
      ·simp only[Value.slice.injEq]at h1;rw[h1.2.1,List.length_append]
     have h:=h a' c';rw[←hl']at h
     have hOv:∀g,v.ownBlock=some g→Owns ρ k (.fam e i.1.size F) g:=fun g hg=>⟨(v,xs),hvm,hg⟩
     have hkeep:∀ {p:Value×List (List Value)} {g:Nat},p∈A++D→p.1.ownBlock=some g→v.ownBlock≠some g∧g<w.heap.size:=fun {p g} hp hg=>by
      have hpF:p∈F:=by
       rw[hF]
       rcases List.mem_append.1 hp with hp | hp
       ·exact List.mem_append_left _ hp
       ·exact List.mem_append_right _ (List.mem_cons_of_mem _ hp)
      refine⟨fun hgv=>?_,(hr.mem.ok _ _ hk).2.1.lt ⟨p,hpF,hg⟩⟩;rw[hF,List.pairwise_append,List.pairwise_cons]at hpw;obtain⟨_,⟨h2,_⟩,h3⟩:=hpw
      rcases List.mem_append.1 hp with hp | hp
      ·exact h3 p hp _ List.mem_cons_self g hg hgv
      ·exact h2 p hp g hgv hg
     have hsame:∀g,g<w.heap.size→v.ownBlock≠some g→w'.heap[g]?=w.heap[g]?:=fun g hg hne=>r3.block g hg (fun e=>hne e.symm)
     have hm':Mem B ρ ((k,.fam e i.1.size (A++(.slice a' l' c',xs++ys)::D))::s.bx) s.nx H w':=by
      refine hr.mem.writeN hk r3.os r3.tape ⟨r3.output,r5⟩ r3.size (fun g hg hno=>hsame g hg fun e=>hno (hOv g e)) rfl ⟨fun p hp=>?_,?_⟩ fun g hg=>?_
      ·rcases List.mem_append.1 hp with hp | hp
       ·have hpF:p∈F:=by rw[hF];exact List.mem_append_left _ hp
        refine⟨ownsRow_heap (hall p hpF).1 fun g hg=>?_,(hall p hpF).2⟩;obtain⟨k1,k2⟩:=hkeep (List.mem_append_left _ hp) hg;exact hsame g k2 k1
       ·rcases List.mem_cons.1 hp with rfl | hp
        ·refine⟨r2,fun x hx=>?_⟩
         rcases List.mem_append.1 hx with hx | hx
         ·exact hv.2 x hx
         ·exact hn.1 x hx
        ·have hpF:p∈F:=by rw[hF];exact List.mem_append_right _ (List.mem_cons_of_mem _ hp)
         refine⟨ownsRow_heap (hall p hpF).1 fun g hg=>?_,(hall p hpF).2⟩;obtain⟨k1,k2⟩:=hkeep (List.mem_append_right _ hp) hg;exact hsame g k2 k1
      ·have hnew:∀ {p:Value×List (List Value)} {g:Nat},p∈A++D→p.1.ownBlock=some g→(Value.slice a' l' c').ownBlock≠some g:=fun {p g} hp hg hgv=>by
        obtain⟨k1,k2⟩:=hkeep hp hg
        rcases r4 g hgv with h5 | h5
        ·exact k1 h5
        ·omega
       have hpw':=hpw;rw[hF,List.pairwise_append,List.pairwise_cons]at hpw';obtain⟨p1,⟨p2,p3⟩,p4⟩:=hpw';rw[List.pairwise_append,List.pairwise_cons];refine⟨p1,⟨fun p hp g hg hg'=>hnew (List.mem_append_right _ hp) hg' hg,p3⟩,fun p hp q hq g hg hg'=>?_⟩
       rcases List.mem_cons.1 hq with rfl | hq
       ·exact hnew (List.mem_append_left _ hp) hg hg'
       ·exact p4 p hp q (List.mem_cons_of_mem _ hq) g hg hg'
      ·obtain⟨p,hp,hg⟩:=hg
       rcases List.mem_append.1 hp with hp | hp
       ·exact .inl ⟨p,by rw[hF];exact List.mem_append_left _ hp,hg⟩
       ·rcases List.mem_cons.1 hp with rfl | hp
        ·rcases r4 g hg with h5 | h5
         ·exact .inl (hOv g h5)
         ·exact .inr h5
        ·exact .inl ⟨p,by rw[hF];exact List.mem_append_right _ (List.mem_cons_of_mem _ hp),hg⟩
     refine⟨.v (.slice a' l' c'),_,H,ρ,w',?_,h,⟨hr.env,hr.sz,hr.defers,hm'⟩,Le.refl H,rfl⟩;rw[hrun,ga,Sem.run_bind,r1]
     rfl
theorem ok_appendX {fb:Prop} (ht:TOK C) {c:Call} {T:TypeId} {K:KK} (hc:c.callee = .builtin .append) (hfb:fb→RawOp C s (.call c) T H K) (h:match c.args.toList with
    | [x,y]=>match c.argTypes.toList with
     | [t,t']=>match telem C t with
      | none=>fb
      | some e=>match tsize C e with
       | none=>fb
       | some sz=>match famX s (get s x) with
        | some v=>bif Nat.beq t t' then appF fb C e v (get s y) s H K else fb
        | none=>match get s x with
        | some (.sub k sz0 lo n)=>bif Nat.beq t t'&&Nat.ble 1 sz then (match get s y with
         | none=>fb
         | some y'=>rowOf s H y' sz fun ys=>match lk s.bx k with
          | some (.row e' sz' xs)=>bif Nat.beq sz' sz&&Nat.beq sz0 sz then (lo+n+ys.length≤xs.length∧K (.sub k sz lo (n+ys.length)) (s.box k (.row e' sz' (xs.take (lo+n)++ys++xs.drop (lo+n+ys.length)))) H) else False
          | _=>False) else fb
        | some (.own k)=>match C.tt t' with
         | some (_,.string)=>match get s y with
          | some (.v (.string b))=>match C.tt e with
           | some (i,.int .u8)=>match lk s.bx k with
            | some (.row e' sz' xs)=>bif Nat.beq e' e&&Nat.beq sz' 1&&Nat.beq i.size 1&&Nat.beq i.bytes 1 then (i.zero=some (.int .u8 0)∧xs.length+(sl b).length≤140737488355328 ∧
              K (.own s.nx) ((s.box k .dead).new (.row e 1 (xs++byteRows (sl b)))) H) else False
            | _=>False
           | _=>fb
          | _=>fb
         | _=>fb
        | some (.v (.slice none 0 0))=>match C.tt t' with
         | some (_,.string)=>match get s y with
          | some (.v (.string b))=>match C.tt e with
           | some (i,.int .u8)=>bif Nat.beq i.size 1&&Nat.beq i.bytes 1 then (i.zero=some (.int .u8 0)∧(sl b).length≤140737488355328∧K (.own s.nx) (s.new (.row e 1 (byteRows (sl b)))) H) else False
           | _=>fb
          | _=>fb
         | _=>fb
        | _=>fb
     | _=>fb
    | _=>fb):RawOp C s (.call c) T H K:=by
 split at h
 ·rename_i x y hx
  have ha:c.args=#[x,y]:=by apply Array.ext';simpa using hx
  split at h
  ·rename_i t t' hT'
   have hat:c.argTypes=#[t,t']:=by apply Array.ext';simpa using hT'
   split at h
   ·exact hfb h
   ·rename_i e he;have hu:=telem_ok ht he;split at h
    ·exact hfb h
    ·rename_i sz hsz;split at h
     ·rename_i v hv
      cases htt:Nat.beq t t' with
      | false=>rw[htt]at h;exact hfb h
      | true =>
       rw[htt,cond_true]at h;obtain rfl:=beq_t htt;exact ok_appF ht hc ha hat he (famX_get hv) hfb h
     split at h
     ·rename_i k sz0 lo n hx'
      cases htt:(Nat.beq t t'&&Nat.ble 1 sz) with
      | false=>rw[htt]at h;exact hfb h
      | true =>
       rw[htt,cond_true]at h;simp only[Bool.and_eq_true]at htt;obtain rfl:=beq_t htt.1;have hsz1:=ble_t htt.2;split at h
       ·exact hfb h
       ·rename_i y' hy'
        refine raw_val fun B ρ o a w ho _ hr=>?_
        obtain⟨ys,h1,hn⟩:=rowOf_news hr hsz1 h;clear h;split at h1
        ·rename_i e' sz' xs hk
         have hbif:=bif_f h1;clear h1;obtain⟨hq,hfit,h⟩:=hbif
         simp only[Bool.and_eq_true]at hq;obtain rfl:=beq_t hq.1;obtain rfl:=beq_t hq.2;obtain⟨e1,l1⟩:=eval_get hr hx';obtain⟨e2,l2⟩:=eval_get hr hy';obtain⟨w',hw,hr'⟩:=append_view (ty:=o.type) ht hr he hsz hk hn hfit;refine⟨_,_,H,ρ,w',?_,h,hr',Le.refl H,by simp only[SV.lt]at l1 ⊢;exact l1⟩;rw[exec_builtin ho hc,ha,hat];rw[ga]at e1;simp only[builtin,List.map_toArray,List.map_cons,List.map_nil,e1,e2,Sem.run_bind,hw,ga]
         rfl
        ·exact h1.elim
     ·rename_i k hx';split at h
      ·rename_i i0 hT2;have hu2:=(ht _ _ _ hT2).2;split at h
       ·rename_i b hb;split at h
        ·rename_i i hi;split at h
         ·rename_i e' sz' xs hk
          have hbif:=bif_f h;clear h;obtain⟨hq,hz,hlen,h⟩:=hbif
          simp only[Bool.and_eq_true]at hq;obtain⟨⟨⟨hq1,hq2⟩,hq3⟩,hq4⟩:=hq;obtain rfl:=beq_t hq1;obtain rfl:=beq_t hq2
          refine raw_val fun B ρ o a w ho _ hr=>?_
          obtain⟨e1,l1⟩:=eval_get hr hx';obtain⟨e2,l2⟩:=eval_get hr hb;have hbx:=(hr.mem.ok _ _ hk).2.1;obtain⟨v',w',r1,r2,r3,r4,r5,a',l',c',rfl⟩:=append_str (ty:=o.type) hu hu2 (ht _ _ _ hi).1 hz (beq_t hq3) (beq_t hq4) hbx.1 b hlen
          obtain⟨ρ',hr',hg⟩:=hr.moved (v:=(a',l',c')) hk r3.os r3.tape ⟨r3.output,r5⟩ r3.size (fun g hg hno=>r3.block g hg (fun e=>hno e.symm)) r2 (fun x hx=>by
            rcases List.mem_append.1 hx with hx | hx
            ·exact hbx.2.1 x hx
            ·exact byte_rows_one _ x hx) (fun g hg=>r4 g hg)
          refine⟨_,_,H,ρ',w',?_,h,hr',Le.refl H,by rw[SV.lt];exact Nat.ble_eq_true_of_le (Nat.le_refl _)⟩;rw[exec_builtin ho hc,ha,hat];simp only[ga]at e1 e2;simp only[builtin,List.map_toArray,List.map_cons,List.map_nil,e1,e2,Sem.run_bind,r1,hg]
          rfl
         ·exact h.elim
        ·exact hfb h
       ·exact hfb h
      ·exact hfb h
     ·rename_i hx';split at h
      ·rename_i i0 hT2;have hu2:=(ht _ _ _ hT2).2;split at h
       ·rename_i b hb;split at h
        ·rename_i i hi
         have hbif:=bif_f h;clear h;obtain⟨hq,hz,hlen,h⟩:=hbif
         simp only[Bool.and_eq_true]at hq
         refine raw_val fun B ρ o a w ho _ hr=>?_
         obtain⟨e1,l1⟩:=eval_get hr hx';obtain⟨e2,l2⟩:=eval_get hr hb;obtain⟨v',w',r1,r2,r3,r4,r5,a',l',c',rfl⟩:=append_str (xs:=[]) (v:=.slice none 0 0) (ty:=o.type) hu hu2 (ht _ _ _ hi).1 hz (beq_t hq.1) (beq_t hq.2) (World.ownsRow_nil w 0 e 1) b (by simpa using hlen)
         obtain⟨ρ',hr',hg⟩:=hr.rowed (v:=(a',l',c')) r3.os r3.tape ⟨r3.output,r5⟩ r3.size (fun g hg=>r3.block g hg (by simp [Value.ownBlock])) (by simpa using r2) (fun x hx=>byte_rows_one _ x hx) (fun g hg=>by
          rcases r4 g hg with h | h
          ·simp [Value.ownBlock]at h
          ·exact h)
         refine⟨_,_,H,ρ',w',?_,h,hr',Le.refl H,by rw[SV.lt];exact Nat.ble_eq_true_of_le (Nat.le_refl _)⟩;rw[exec_builtin ho hc,ha,hat];simp only[ga]at e1 e2;simp only[builtin,List.map_toArray,List.map_cons,List.map_nil,e1,e2,Sem.run_bind,r1,hg]
         rfl
        ·exact hfb h
       ·exact hfb h
      ·exact hfb h
     ·exact hfb h
  ·exact hfb h
 ·exact hfb h
theorem ok_convert (ht:TOK C) {fb:Prop} {src dst T:TypeId} {x:Operand} {K:KK} (h:match C.tt src with
  | some _=>match C.tt dst with
   | some (_,.int k)=>match get s x with
    | some (.v (.int _ n))=>arith C k n fun r=>K r s H
    | _=>fb
   | some (_,.string)=>match get s x with
    | some (.v (.string t))=>K (.v (.string t)) s H
    | some y=>match telem C src with
     | none=>fb
     | some e=>match C.tt e with
      | some (_,.int .u8)=>rowOf s H y 1 fun xs=>∃b,xs=byteRows b∧K (.v (.string (bs b))) s H
      | _=>fb
    | none=>fb
   | _=>fb
  | none=>fb):RawP C s (.convert src dst x) T H K∨fb:=by
 split at h
 ·rename_i di hsrc;have hu:=(ht src di.1 di.2 hsrc).2;split at h
  ·rename_i i k hdst;have hd:=(ht _ _ _ hdst).2;split at h
   ·rename_i k' n hx
    refine .inl fun B ρ o a w ho _ hr=>⟨_,?_,arith_ok h,by rw[SV.lt]⟩
    have h1:=(eval_get hr hx).1;rw[ga]at h1;simp only[execOp,ho,h1,convert,Sem.run_bind,run_underlying hu,run_underlying hd,Result.andThen_ok,Conv.intToInt,ga]
    rfl
   ·exact .inr h
  ·rename_i i hdst;have hd:=(ht _ _ _ hdst).2;split at h
   ·rename_i t hx
    refine .inl fun B ρ o a w ho _ hr=>⟨_,?_,h,by rw[SV.lt]⟩
    have h1:=(eval_get hr hx).1;rw[ga]at h1;simp only[execOp,ho,h1,convert,Sem.run_bind,run_underlying hu,run_underlying hd,Result.andThen_ok,ga]
    rfl
   ·rename_i y _ hx;split at h
    ·exact .inr h
    ·rename_i e he;split at h
     ·rename_i i1 hi
      refine .inl fun B ρ o a w ho _ hr=>?_
      obtain⟨xs,⟨b,rfl,h⟩,hn⟩:=rowOf_news hr (by omega) h;refine⟨_,?_,h,by rw[SV.lt]⟩;have h1:=(eval_get hr hx).1;have hu2:=telem_ok ht he;have hu3:=(ht _ _ _ hi).2;simp only[execOp,ho,h1,Sem.run_bind,ga]
      rcases hn.2 with ⟨h2,h3⟩ | ⟨ad,c,h2,h3⟩
      ·rw[h2,run_convert_bytes_nil w src e hu2 hu3 0 0 dst hd]
       have:b=[]:=by cases b with
        | nil=>rfl
        | cons x r=>simp [byteRows]at h3
       subst this
       rfl
      ·rw[h2,byte_rows_len,run_convert_bytes_back w src dst e ad c b hu2 hu3 hd (fun j hj=>h3 j _ (by rw[byte_rows_flat];simp [hj]))]
       rfl
     ·exact .inr h
   ·exact .inr h
  ·exact .inr h
 ·exact .inr h
theorem ok_data {fb:Prop} {c:Call} {T:TypeId} {K:KK} (hc:c.callee = .builtin .unsafeSliceData) (hfb:fb→RawOp C s (.call c) T H K) (h:match c.args.toList with
    | [x]=>match C.P.underlying T with
     | some (.pointer _)=>match get s x with
      | some (.own k)=>match lk s.bx k with
       | some (.row _ sz xs)=>(xs≠[]→K (.rel k sz 0 0) s H)∧(xs=[]→∀p,K (.v (.pointer p)) s H)
       | _=>False
      | some (.v (.slice none 0 0))=>K (.v (.pointer none)) s H
      | _=>fb
     | _=>fb
    | _=>fb):RawOp C s (.call c) T H K:=by
 split at h
 ·rename_i x hx
  have ha:c.args=#[x]:=by apply Array.ext';simpa using hx
  split at h
  ·rename_i e0 hT;split at h
   ·rename_i k hg;split at h
    ·rename_i e' sz xs hk
     refine raw_val fun B ρ o a w ho hoT hr=>?_
     obtain⟨h1,l1⟩:=eval_get hr hg;have hbx:=(hr.mem.ok _ _ hk).2.1
     have hrun:∀w' v,(Builtin.unsafeSliceData_ c.argTypes o.type #[a.eval x]).run C.P w = .ok v w'→(execOp a.eval o).run C.P w = .ok (.value v) w':=fun w' v hv=>by
      rw[exec_builtin ho hc,ha];simp only[builtin,List.map_toArray,List.map_cons,List.map_nil,Sem.run_bind,hv]
      rfl
     rw[ga,Rho.val]at h1
     rcases row_arr hbx with ⟨h2,rfl⟩ | ⟨cap,cur,h2,h3,h4,hmx,h5,_⟩
     ·rw[h2]at h1;refine⟨_,s,H,ρ,w,hrun w _ ?_,h.2 rfl none,hr,Le.refl H,by rw[SV.lt]⟩;rw[h1,Lib.run_unsafeSliceData_nil,ga]
     ·rw[h2]at h1
      by_cases hcap:cap=0
      ·subst hcap;have hxs:xs=[]:=List.eq_nil_of_length_eq_zero (by omega)
       have hsh:w.shape? (ρ.b k)=some (e',cur.size):=by simp [World.shape?,h3]
       refine⟨.v (.pointer (some ⟨w.heap.size,0,none⟩)),s,H,ρ,w.alloc (.view ⟨ρ.b k,0,none⟩ e0),hrun _ _ ?_,h.2 hxs _,hr.with (bx:=s.bx) (hr.mem.step rfl rfl ⟨rfl,Nat.le_refl _⟩ (by simp) (fun g hg=>heap_alloc_old w _ g hg)),Le.refl H,by rw[SV.lt]⟩;rw[h1,hoT,Lib.run_unsafeSliceData_zero (P:=C.P) w c.argTypes T e0 hT ⟨ρ.b k,0,none⟩ xs.length _ hsh,ga]
      ·by_cases hxs:xs=[]
       ·refine⟨_,s,H,ρ,w,hrun w _ ?_,h.2 hxs (some ⟨ρ.b k,0,none⟩),hr,Le.refl H,by rw[SV.lt]⟩;rw[h1,Lib.run_unsafeSliceData_row _ _ _ _ _ _ hcap,ga]
       ·refine⟨_,s,H,ρ,w,hrun w _ ?_,h.1 hxs,hr,Le.refl H,by simp only[SV.lt]at l1 ⊢;exact l1⟩;rw[h1,Lib.run_unsafeSliceData_row _ _ _ _ _ _ hcap,ga];simp
    ·exact h.elim
   ·rename_i hg
    refine raw_pure fun B ρ o a w ho _ hr=>⟨_,?_,h,by rw[SV.lt]⟩
    have h1:=(eval_get hr hg).1;rw[ga]at h1;rw[exec_builtin ho hc,ha];simp only[builtin,List.map_toArray,List.map_cons,List.map_nil,Sem.run_bind,h1,Lib.run_unsafeSliceData_nil,ga]
    rfl
   ·exact hfb h
  ·exact hfb h
 ·exact hfb h
theorem freeze_other (w:World) (g n:Nat) (j:Nat) (h:j≠g):(w.freeze ⟨g,0,none⟩ n).heap[j]?=w.heap[j]?:=by
 unfold World.freeze;split
 ·rfl
 ·simp only[Array.getElem?_modify];rw[if_neg (fun e=>h e.symm)]
theorem ok_unstr {fb:Prop} {c:Call} {T:TypeId} {K:KK} (hc:c.callee = .builtin .unsafeString) (hfb:fb→RawOp C s (.call c) T H K) (h:match c.args.toList with
    | [p,n]=>match c.argTypes.toList with
     | [pt,_]=>match get s n with
      | some (.v (.int .i64 m))=>match get s p with
       | some (.v (.pointer _))=>m=0∧K (.v (.string (bs []))) s H
       | some (.rel k 1 0 0)=>match lk s.bx k with
        | some (.row e sz xs)=>bif Nat.beq sz 1 then (C.P.underlying pt=some (.pointer e)∧C.P.cellsOf e=1∧∃b,xs=byteRows b∧b≠[]∧m=b.length∧K (.v (.string (bs b))) (s.box k .dead) H) else False
        | _=>False
       | _=>fb
      | _=>fb
     | _=>fb
    | _=>fb):RawOp C s (.call c) T H K:=by
 split at h
 ·rename_i p n hx
  have ha:c.args=#[p,n]:=by apply Array.ext';simpa using hx
  split at h
  ·rename_i pt it hT'
   have hat:c.argTypes=#[pt,it]:=by apply Array.ext';simpa using hT'
   split at h
   ·rename_i m hm;split at h
    ·rename_i q hp;obtain⟨rfl,h⟩:=h
     refine raw_pure fun B ρ o a w ho _ hr=>⟨_,?_,h,by rw[SV.lt]⟩
     have h1:=(eval_get hr hp).1;have h2:=(eval_get hr hm).1;rw[ga]at h1 h2;rw[exec_builtin ho hc,ha,hat];simp only[builtin,List.map_toArray,List.map_cons,List.map_nil,Sem.run_bind,h1,h2,Lib.run_unsafeString_none,ga]
     rfl
    ·rename_i k hp;split at h
     ·rename_i e sz xs hk
      have hbif:=bif_f h;clear h;obtain⟨hq,hpt,hce,b,rfl,hne,rfl,h⟩:=hbif
      obtain rfl:=beq_t hq
      refine raw_val fun B ρ o a w ho _ hr=>?_
      have h1:=(eval_get hr hp).1;have h2:=(eval_get hr hm).1;simp only[ga]at h1 h2;have hbx:=(hr.mem.ok _ _ hk).2.1
      rcases row_arr hbx with ⟨_,h3⟩ | ⟨cap,cur,h3,h4,h5,hmx,h6,h7⟩
      ·have:=congrArg List.length h3;rw[byte_rows_len]at this;exact absurd (List.eq_nil_of_length_eq_zero this) hne
      ·have hsh:w.shape? (ρ.b k)=some (e,cur.size):=by simp [World.shape?,h4]
       have ho1:Owns ρ k (.row e 1 (byteRows b)) (ρ.b k):=by simp only[Owns,Rho.val,h3];rfl
       rw[byte_rows_len]at h5 h7
       have hrun:=Lib.run_unsafeString_row (P:=C.P) w pt it o.type e hpt hce (ρ.b k) cur.size hsh b hne (by omega) (by simp only[maxLen]at hmx;omega) (fun j x hj=>by
        rw[Addr.at_,cell_of _ _ h4]
        have:cur.toList[j]?=some (.int .u8 x.toNat):=by
         have h8:(cur.toList.take (b.length*1))[j]?=some (.int .u8 x.toNat):=by
          rw[h7,byte_rows_flat,List.getElem?_map,hj]
          rfl
         rw[List.getElem?_take]at h8;split at h8
         ·exact h8
         ·cases h8
        simpa using this)
       refine⟨_,_,H,ρ,w.freeze ⟨ρ.b k,0,none⟩ b.length,?_,h,hr.with (bx:=(k,.dead)::s.bx) (hr.mem.write hk (by unfold World.freeze;split<;>rfl) (by unfold World.freeze;split<;>rfl) (by unfold World.freeze;split<;>exact⟨rfl,Nat.le_refl _⟩) ?_ (fun g _ hg=>freeze_other w _ _ g (fun e=>hg (e▸ho1))) rfl trivial (fun g hg=>hg.elim)),Le.refl H,by rw[SV.lt]⟩
       ·rw[exec_builtin ho hc,ha,hat];simp only[builtin,List.map_toArray,List.map_cons,List.map_nil,Sem.run_bind,h1,h2,Int.toNat_zero,Nat.zero_mul,Nat.zero_add];rw[hrun];simp only[ga]
        rfl
       ·unfold World.freeze;split
        ·exact Nat.le_refl _
        ·simp
     ·exact h.elim
    ·exact hfb h
   ·exact hfb h
  ·exact hfb h
 ·exact hfb h
theorem ok_seen (ht:TOK C) {fb:Prop} {src dst T:TypeId} {x:Operand} {K:KK} (hfb:fb→RawOp C s (.convert src dst x) T H K) (h:match get s x with
  | some (.ptr k off)=>match lk s.bx k with
   | some (.cells T0 cs)=>seenOK C.P src dst T0 cs.length off=true∧K (.ptr k off) s H
   | _=>fb
  | some (.v (.int _ n))=>match C.tt src with
   | some _=>match C.tt dst with
    | some (_,.float k)=>K (.v (.float k (floatOfInt k n))) s H
    | _=>fb
   | none=>fb
  | some (.v (.float fk b))=>match C.tt src with
   | some _=>match C.tt dst with
    | some (_,.int k)=>∃n,floatToIntVal fk b k=some n∧K (.v (.int k n)) s H
    | _=>fb
   | none=>fb
  | _=>fb):RawOp C s (.convert src dst x) T H K:=by
 split at h
 ·rename_i k off hx;split at h
  ·rename_i T0 cs hk;obtain⟨hs,h⟩:=h
   refine raw_pure fun B ρ o a w ho _ hr=>⟨_,?_,h,(eval_get hr hx).2⟩
   have h1:=(eval_get hr hx).1;rw[ga]at h1;have hb:=(hr.mem.ok _ _ hk).2.1;simp only[BoxOK]at hb
   have hsh:w.shape? (ρ.b k)=some (T0,cs.length):=by
    simp [World.shape?,hb,gas_eq]
   have hrun:(convert src dst (.pointer (some ⟨ρ.b k,off,none⟩))).run C.P w = .ok (.pointer (some ⟨ρ.b k,off,none⟩)) w:=by
    unfold seenOK at hs;split at hs
    ·rename_i t hsrc;split at hs
     ·rename_i hdst;split at hs
      ·rename_i j hj;simp only[Bool.and_eq_true,Nat.blt_eq]at hs;exact Lib.run_to_unsafe w ⟨ρ.b k,off,none⟩ hsrc hdst hj (by omega) hsh hs.2
      ·cases hs
     ·cases hs
    ·rename_i hsrc;split at hs
     ·rename_i u hdst;split at hs
      ·rename_i j hj;exact Lib.run_from_unsafe w ⟨ρ.b k,off,none⟩ hsrc hdst hj hsh hs
      ·cases hs
     ·cases hs
    ·cases hs
   simp only[execOp,ho,h1,Sem.run_bind,hrun,ga]
   rfl
  ·exact hfb h
 ·rename_i ik n hx;split at h
  ·rename_i di hsrc;have hu:=(ht src di.1 di.2 hsrc).2;split at h
   ·rename_i i k hdst;have hd:=(ht _ _ _ hdst).2
    refine raw_pure fun B ρ o a w ho _ hr=>⟨_,?_,h,by rw[SV.lt]⟩
    have h1:=(eval_get hr hx).1;rw[ga]at h1;simp only[execOp,ho,h1,Sem.run_bind,run_convert_int_float w src dst ik k n (by rw[hu];rfl) hd,ga]
    rfl
   ·exact hfb h
  ·exact hfb h
 ·rename_i fk b hx;split at h
  ·rename_i di hsrc;have hu:=(ht src di.1 di.2 hsrc).2;split at h
   ·rename_i i k hdst;have hd:=(ht _ _ _ hdst).2;obtain⟨n,hn,h⟩:=h
    refine raw_pure fun B ρ o a w ho _ hr=>⟨_,?_,h,by rw[SV.lt]⟩
    have h1:=(eval_get hr hx).1;rw[ga]at h1;simp only[execOp,ho,h1,Sem.run_bind,run_convert_float_int w src dst fk k b n (by rw[hu];rfl) hd hn,ga]
    rfl
   ·exact hfb h
  ·exact hfb h
 ·exact hfb h
def negF (fb:Prop) (s:St) (op:UnOp) (x:Operand) (H:Hp) (K:KK):Prop:=match op with
  | .neg=>match get s x with
   | some (.v (.float k b))=>K (.v (.float k (Op.negFloat k b))) s H
   | _=>fb
  | _=>fb
theorem ok_negF {fb:Prop} {op:UnOp} {xT T:TypeId} {x:Operand} {K:KK} (hfb:fb→RawOp C s (.unOp op xT x) T H K) (h:negF fb s op x H K):RawOp C s (.unOp op xT x) T H K:=by
 cases op with
 | neg =>
  simp only[negF]at h;split at h
  ·rename_i k b hx
   refine raw_pure fun B ρ o a w ho _ hr=>⟨_,?_,h,by rw[SV.lt]⟩
   have h1:=(eval_get hr hx).1;rw[ga]at h1;simp only[execOp,ho,h1,Op.unary,ga]
   rfl
  ·exact hfb h
 | _=>exact hfb h
theorem ok_real {fb:Prop} {c:Call} {T:TypeId} {K:KK} (hc:c.callee = .builtin .real) (hfb:fb→RawOp C s (.call c) T H K) (h:match c.args.toList with
    | [x]=>match get s x with
     | some (.v (.complex k a _))=>K (.v (.float k a)) s H
     | _=>fb
    | _=>fb):RawOp C s (.call c) T H K:=by
 split at h
 ·rename_i x hx
  have ha:c.args=#[x]:=by apply Array.ext';simpa using hx
  split at h
  ·rename_i k p q hg
   refine raw_pure fun B ρ o a w ho _ hr=>⟨_,?_,h,by rw[SV.lt]⟩
   have h1:=(eval_get hr hg).1;rw[ga]at h1;rw[exec_builtin ho hc,ha];simp [builtin,run_real,h1,ga]
  ·exact hfb h
 ·exact hfb h
theorem ok_imag {fb:Prop} {c:Call} {T:TypeId} {K:KK} (hc:c.callee = .builtin .imag) (hfb:fb→RawOp C s (.call c) T H K) (h:match c.args.toList with
    | [x]=>match get s x with
     | some (.v (.complex k _ b))=>K (.v (.float k b)) s H
     | _=>fb
    | _=>fb):RawOp C s (.call c) T H K:=by
 split at h
 ·rename_i x hx
  have ha:c.args=#[x]:=by apply Array.ext';simpa using hx
  split at h
  ·rename_i k p q hg
   refine raw_pure fun B ρ o a w ho _ hr=>⟨_,?_,h,by rw[SV.lt]⟩
   have h1:=(eval_get hr hg).1;rw[ga]at h1;rw[exec_builtin ho hc,ha];simp [builtin,run_imag,h1,ga]
  ·exact hfb h
 ·exact hfb h
theorem ok_complex {fb:Prop} {c:Call} {T:TypeId} {K:KK} (hc:c.callee = .builtin .complex) (hfb:fb→RawOp C s (.call c) T H K) (h:match c.args.toList with
    | [x,y]=>match get s x with
     | some (.v (.float k a))=>match get s y with
      | some (.v (.float k' b))=>k'=k∧K (.v (.complex k a b)) s H
      | _=>fb
     | _=>fb
    | _=>fb):RawOp C s (.call c) T H K:=by
 split at h
 ·rename_i x y hx
  have ha:c.args=#[x,y]:=by apply Array.ext';simpa using hx
  split at h
  ·rename_i k p hg;split at h
   ·rename_i k' q hg2;obtain⟨rfl,h⟩:=h
    refine raw_pure fun B ρ o a w ho _ hr=>⟨_,?_,h,by rw[SV.lt]⟩
    have h1:=(eval_get hr hg).1;have h2:=(eval_get hr hg2).1;rw[ga]at h1 h2;rw[exec_builtin ho hc,ha];simp [builtin,run_complex,h1,h2,ga]
   ·exact hfb h
  ·exact hfb h
 ·exact hfb h
theorem ok_arr {fb:Prop} (ht:TOK C) {T' T:TypeId} {x i:Operand} {K:KK} (hfb:fb→RawOp C s (.index T' x i) T H K) (h:match C.tt T' with
  | some (_,.array m e)=>match tsize C e with
   | some 1=>match get s x with
    | some (.agg cs)=>match get s i with
     | some (.v (.int _ j))=>bif tagg C e then fb else (∃y,(0≤j∧j<m∧cs[j.toNat]?=some y)∧K y s H)
     | _=>fb
    | _=>fb
   | _=>fb
  | _=>fb):RawOp C s (.index T' x i) T H K:=by
 split at h
 ·rename_i i0 m e hT;have hu:=(ht _ _ _ hT).2;split at h
  ·rename_i hsz;split at h
   ·rename_i cs hx;split at h
    ·rename_i k j hi
     cases hta:tagg C e with
     | true=>rw[hta]at h;exact hfb h
     | false =>
      rw[hta]at h;obtain⟨y,⟨h1,h2,h3⟩,h⟩:=h
      refine raw_pure fun B ρ o a w ho _ hr=>⟨y,?_,h,?_⟩
      ·have h4:=(eval_get hr hx).1;have h5:=(eval_get hr hi).1;simp only[ga]at h4 h5
       have hp:=part_ok ht hsz (l:=cs) (off:=j.toNat) (r:=y) (by
        rw[hta];have hlt:=(List.getElem?_eq_some_iff.1 h3).1
        have:(cs.drop j.toNat).take 1=[y]:=by
         rw[List.drop_eq_getElem_cons hlt];have h6:=List.getElem?_eq_getElem hlt;rw[h3]at h6;simp only[Option.some.injEq]at h6;simp [←h6]
        rw[this]
        rfl) (ρ:=ρ) w
       simp only[execOp,ho,h4,h5,Instr.index,asIntOf,Sem.run_bind,Sem.run_pure,Result.andThen_ok,run_underlying hu,h1,h2,and_self,if_true,tsize_ok ht hsz,Nat.mul_one,hp]
      ·have:=(eval_get hr hx).2;rw[SV.lt]at this;exact (lts_iff _ _).1 this y (List.mem_of_getElem? h3)
    ·exact hfb h
   ·exact hfb h
  ·exact hfb h
 ·exact hfb h
theorem ok_buildF {fb:Prop} (ht:TOK C) {T' T:TypeId} {len:Nat} {ps:Array (Nat×Operand)} {K:KK} (hfb:fb→RawOp C s (.buildSlice T' len ps) T H K) (h:match telem C T' with
  | none=>fb
  | some e=>match tsize C e with
   | none=>fb
   | some sz=>match zeroCells C e with
    | none=>fb
    | some z=>match getPs s ps.toList with
     | none=>fb
     | some vs=>bif Nat.ble (len*sz) 16777216&&Nat.ble 1 sz&&Nat.beq z.length sz then (match fillE (fun i=>some (i*sz,sz)) (rep len z) vs with
      | some cs=>forceL cs fun cs=>bif ones cs then (fzL fz2 cs s H fun l s1 H1=>K (.own s1.nx) (s1.new (.row e sz (chop sz len l))) H1) else fb
      | none=>fb) else fb):RawOp C s (.buildSlice T' len ps) T H K:=by
 split at h
 ·exact hfb h
 ·rename_i e he;have hu:=telem_ok ht he;split at h
  ·exact hfb h
  ·rename_i sz hsz;split at h
   ·exact hfb h
   ·rename_i z hz;split at h
    ·exact hfb h
    ·rename_i vs hvs
     cases hle0:(Nat.ble (len*sz) 16777216&&Nat.ble 1 sz&&Nat.beq z.length sz) with
     | false=>rw[hle0]at h;exact hfb h
     | true =>
     rw[hle0,cond_true]at h;simp only[Bool.and_eq_true]at hle0;obtain⟨⟨hle,hsz1⟩,hzl⟩:=hle0;have hle9:=ble_t hle;have hsz1:=ble_t hsz1;have hzl:=beq_t hzl;split at h
     ·rename_i cs hcs;rw[forceL_eq]at h
      cases ho1:ones cs with
      | false=>rw[ho1]at h;exact hfb h
      | true =>
       rw[ho1,cond_true,fzL2_eq]at h
       refine raw_val fun B ρ o a w ho _ hr=>?_
       obtain⟨s1,H1,hk,hr1,hle,hnx⟩:=fzs_ok cs hr h
       obtain⟨l,hl⟩:∃l,l=gas ρ cs:=⟨_,rfl⟩
       rw[←hl]at hk;obtain⟨v,h1,h2,h3⟩:=zeroCells_ok (w:=w) ht hz;have hf:=fill_ok ρ _ vs _ cs hcs
       have hgas:gas ρ cs=l∧∀u∈l,u.oneCell'=true:=⟨hl.symm,by rw[hl];exact ones_cell ho1⟩
       rw[hgas.1]at hf
       have hll:l.length=len*sz:=by
        rw[←hgas.1,gas_eq,List.length_map,fill_len _ _ _ hcs];have:=congrArg List.length (rep_ga ρ z len);rw[gas_eq,List.length_map]at this
        rw[this,hzl];simp
       obtain⟨c1,c2,c3⟩:=chop_flat sz len l hll
       have hparts:(ps.map fun (p:Nat×Operand)=>(p.1,a.eval p.2)).toList=vs.map (fun p=>(p.1,ga ρ p.2)):=by
        rw[Array.toList_map,(getPs_ok hr hvs).1]
       have hrep:(gas ρ (rep len z)).toArray=(Array.range (len*sz)).map fun i=>(gas ρ z).toArray[i % (gas ρ z).toArray.size]!:=by
        rw[rep_ga,Array.toArray_toList];simp only[List.size_toArray,gas_eq,List.length_map,hzl]
       obtain⟨ρ',hr',hg⟩:=hr1.rowed (e:=e) (sz:=sz) (xs:=chop sz len l) (w':=w.alloc (.cells l.toArray e)) (v:=(some ⟨w.heap.size,0,none⟩,len,len)) rfl rfl ⟨rfl,Nat.le_refl _⟩ (by simp) (fun g hg=>heap_alloc_old w _ g hg)
        (by
         rw[c1,c2];refine⟨hll,.inr ⟨w.heap.size,len,l.toArray,rfl,Nat.zero_le _,heap_alloc_new w _,Nat.le_refl _,?_,by simpa using hll,by show l.take (len*sz)=l;exact List.take_of_length_le (by omega)⟩⟩;have:len≤len*sz:=Nat.le_mul_of_pos_right len hsz1;simp only[maxLen]
         omega)
        (fun x hx=>⟨(c3 x hx).1,fun u hu=>hgas.2 u ((c3 x hx).2 u hu)⟩)
        (fun g hg=>by simp only[Value.ownBlock,Option.some.injEq]at hg;omega)
       refine⟨_,_,H1,ρ',_,?_,hk,hr',hle,?_⟩
       ·rw[hg];simp only[execOp,ho,Instr.buildSlice,Sem.run_bind,run_underlying hu,Result.andThen_ok,tsize_ok ht hsz];rw[if_neg (by omega)]
        by_cases h0:len*sz=0
        ·have e1:len=0:=by rcases Nat.mul_eq_zero.1 h0 with h | h<;>omega
         subst e1;rw[if_pos h0]
         have e2:(Array.range (0*sz)).map (fun i=>(#[]:Array Value)[i % (#[]:Array Value).size]!)=(gas ρ (rep 0 z)).toArray:=by simp [rep,gas]
         simp only[Sem.run_pure,Result.andThen_ok,e2,hparts,hf,Sem.run_bind,newRow,run_newObj]
         rfl
        ·rw[if_neg h0];simp only[Sem.run_bind,h1,Result.andThen_ok,Sem.run_pure,h2 ρ,hparts,←hrep,hf,newRow,run_newObj]
         rfl
       ·rw[SV.lt];exact Nat.ble_eq_true_of_le (Nat.le_refl _)
     ·exact hfb h
theorem val1_ga {x:SV} {v:Value} (h:val1 x=some v):ga ρ x=v:=by
 unfold val1 at h;split at h
 ·rename_i y
  cases ho:one (.v y) with
  | false=>rw[ho]at h;cases h
  | true=>rw[ho]at h;cases h;rw[ga]
 ·cases h;rw[ga]
 ·cases h
theorem valOf_ok {y:SV} {v:Value} (h:valOf y=some v):ga ρ y=v:=by
 unfold valOf at h;split at h
 ·split at h
  ·rename_i l hl;cases h;rw[ga,(vals_gas (ρ:=ρ) hl).1]
  ·cases h
 ·exact val1_ga h
theorem Rel.objed (hr:Rel C B ρ s H a w) {Φ:Obj→Prop} {o:Obj} (hΦ:Φ o):Rel C B (ρ.set s.nx w.heap.size (none,0,0)) (s.new (.obj Φ)) H a (w.alloc o) where
 env:=hr.env_new _ _
 sz:=hr.sz
 defers:=hr.defers
 mem:=by
  refine hr.mem.alloc rfl rfl ⟨rfl,Nat.le_refl _⟩ (by simp) (fun g hg=>heap_alloc_old w _ g hg) rfl ?_ ?_
  ·simp only[BoxOK,Rho.set,if_true];exact⟨o,heap_alloc_new w _,hΦ⟩
  ·intro g hg;simp only[Owns,Rho.set,if_true]at hg;omega
theorem ok_makeMap {fb:Prop} {T' T:TypeId} {r:Option Operand} {K:KK} (hfb:fb→RawOp C s (.makeMap T' r) T H K) (h:mkMapE fb C s T' r H K):RawOp C s (.makeMap T' r) T H K:=by
 unfold mkMapE at h;split at h
 ·exact hfb h
 ·split at h
  ·rename_i i k e hT;obtain⟨hok,h⟩:=h
   refine raw_val fun B ρ o a w ho _ hr=>?_
   have hm:MapI C.P k e 0 (fun _=>0) (.map #[] 0):=⟨hok,#[],0,rfl,⟨by simp,MapKept.stamped_empty 0,by simp⟩,Nat.le_refl _,fun kl _=>rfl⟩
   refine⟨_,_,H,_,_,?_,h,hr.objed hm,Le.refl H,?_⟩
   ·simp only[execOp,ho,Instr.makeMap,Option.map_none,Sem.run_bind,run_newObj,Result.andThen_ok,Sem.run_pure,ga,Rho.set,if_true]
    rfl
   ·rw[SV.lt];exact Nat.ble_eq_true_of_le (Nat.le_refl _)
  ·exact hfb h
theorem ok_lookup {fb:Prop} (ht:TOK C) {T' T:TypeId} {m x:Operand} {ok:Bool} {K:KK} (hfb:fb→RawOp C s (.lookup T' m x ok) T H K) (h:lookE fb C s T' m x ok H K):RawOp C s (.lookup T' m x ok) T H K:=by
 unfold lookE at h;split at h
 ·exact hfb h
 ·split at h
  ·rename_i j hj;split at h
   ·rename_i Φ hk;split at h
    ·rename_i y hy;split at h
     ·rename_i kv hkv;split at h
      ·rename_i i k e hT;obtain⟨n,g,kl,rfl,hkey,h⟩:=h
       refine raw_pure fun B ρ o a w ho _ hr=>⟨_,?_,h,by rw[SV.lt]⟩
       have h1:=(eval_get hr hj).1;have h2:=(eval_get hr hy).1;rw[valOf_ok hkv]at h2;rw[ga]at h1;obtain⟨ob,hb,⟨hK,he,hz⟩,es,clock,rfl,hfit,hsz,hg⟩:=(hr.mem.ok _ _ hk).2.1
       have hown:w.ownsMap (H:=Empty) C.P k (plainElem C.P e) (ρ.b j) es.size (.map ((es.toList.map (WideElems.rg C.P k (plainElem C.P e))).foldr DataW.insert [])):=⟨es,clock,hb,hfit,Nat.le_refl _,rfl⟩
       obtain⟨c,hrun,hat,_⟩:=hown.lookup_int hK (ht _ _ _ hT).2 he (hz w) hkey;have hgk:=hg kl ⟨kv,hkey⟩;rw[hat]at hgk;simp only[DataW.lit.injEq,Lit.int.injEq,true_and]at hgk;simp only[execOp,ho,h1,h2,hrun,Sem.run_bind,Result.andThen_ok,ga,hgk]
       rfl
      ·exact hfb h
     ·exact hfb h
    ·exact hfb h
   ·exact hfb h
  ·exact hfb h
theorem ok_mapUpdate {fb:Prop} (ht:TOK C) {T' T:TypeId} {m x v:Operand} {K:KK} (hfb:fb→RawOp C s (.mapUpdate T' m x v) T H K) (h:updE fb C s T' m x v H K):RawOp C s (.mapUpdate T' m x v) T H K:=by
 unfold updE at h;split at h
 ·rename_i j hj;split at h
  ·rename_i Φ hk;split at h
   ·rename_i y hy;split at h
    ·rename_i kv hkv;split at h
     ·rename_i z hv;split at h
      ·rename_i i k e hT;obtain⟨n,g,kl,rfl,hkey,⟨hn,hin⟩,h⟩:=h
       refine raw_skip fun B ρ o a w ho _ hr=>?_
       have h1:=(eval_get hr hj).1;have h2:=(eval_get hr hy).1;have h3:=(eval_get hr hv).1;rw[valOf_ok hkv]at h2;rw[ga]at h1;rw[ga]at h3;obtain⟨ob,hb,⟨hK,he,hz⟩,es,clock,rfl,hfit,hsz,hg⟩:=(hr.mem.ok _ _ hk).2.1
       have hown:w.ownsMap (H:=Empty) C.P k (plainElem C.P e) (ρ.b j) n (.map ((es.toList.map (WideElems.rg C.P k (plainElem C.P e))).foldr DataW.insert [])):=⟨es,clock,hb,hfit,hsz,rfl⟩
       have hwf:(Lit.int .i64 z).wf=true:=by
        simp only[inR]at hin;simp only[Lit.wf,Bool.and_eq_true,decide_eq_true_eq];exact hin
       obtain⟨w',hrun,⟨es',clock',hb',hfit',hsz',hD'⟩,hturn⟩:=hown.store hK (ht _ _ _ hT).2 (by simpa [maxLen] using hn) hkey (plainElem_int he hwf);have hgr:=hturn.grown
       have hdr:w.drawn≤w'.drawn:=by
        obtain⟨_,_,_,_,_,rfl⟩:=hturn;exact Nat.le_refl _
       have hm:MapI C.P k e (n+1) (updL g kl z) (.map es' clock'):=by
        refine⟨⟨hK,he,hz⟩,es',clock',rfl,hfit',hsz',fun kl' hkl'=>?_⟩;rw[←hD',updL];split
        ·rename_i heq;subst heq;exact Maps.atKey_put_same ⟨_,rfl⟩ (hK.key hkey) _ _
        ·rename_i hne;rw[Maps.atKey_put_other hne];exact hg kl' hkl'
       refine⟨_,H,ρ,w',?_,h,hr.with (bx:=(j,_)::s.bx) ?_,Le.refl H⟩
       ·simp only[execOp,ho,h1,h2,h3,hrun,Sem.run_bind,Result.andThen_ok,Sem.run_pure]
       ·refine hr.mem.write hk hgr.os hgr.tape ⟨hgr.output,hdr⟩ hgr.size (fun g' hg' hno=>hgr.block g' hg' (fun e=>hno (by simp only[Owns];simpa using e))) rfl ⟨_,hb',hm⟩ (fun g' hg'=>hg')
      ·exact hfb h
     ·exact hfb h
    ·exact hfb h
   ·exact hfb h
  ·exact hfb h
 ·exact hfb h
theorem ok_subNil {fb:Prop} (ht:TOK C) {op:BinOp} {xT yT T:TypeId} {x y:Operand} {K:KK} (hfb:fb→RawOp C s (.binOp op xT x y yT) T H K) (h:subNil fb C s op xT x y H K):RawOp C s (.binOp op xT x y yT) T H K:=by
 unfold subNil at h;split at h
 ·rename_i i0 e hT;split at h
  ·rename_i k sz lo n hx;split at h
   ·rename_i n' c' hy;split at h
    ·rename_i e' sz' xs hk
     have hbif:=bif_f h;clear h;obtain⟨hq,hle,h⟩:=hbif
     obtain rfl:=beq_t hq
     refine raw_val fun B ρ o a w ho _ hr=>?_
     have h1:=(eval_get hr hx).1;have h2:=(eval_get hr hy).1;rw[ga,Rho.part]at h1;rw[ga]at h2
     obtain⟨V,hV⟩:∃V,V=cutA (ρ.sl k).1 lo (ρ.sl k).2.2 sz':=⟨_,rfl⟩
     rw[←hV]at h1
     have hn:V.isNone=true→n=0:=fun hb=>by
      have hbx:=(hr.mem.ok _ _ hk).2.1
      rcases row_arr hbx with ⟨g1,rfl⟩ | ⟨cap,cur,g1,g2,g3,_⟩
      ·simp only[List.length_nil]at hle;omega
      ·rw[hV,cutA,g1]at hb;simp only at hb;split at hb
       ·cases hb
       ·cases hb
     have hv:eqv C xT (.v (.slice V n ((ρ.sl k).2.2 - lo))) (.v (.slice none n' c'))=some V.isNone:=by
      unfold eqv;rw[hT];simp only[eqT,eqStep,hT]
     obtain⟨e1,e2,e3⟩:=eqv_run ht hv ρ w;simp only[ga]at e1 e2 e3;have h3:=h V.isNone hn;split at h3
     ·refine⟨_,_,H,ρ,w,?_,h3,hr,Le.refl H,by rw[bool,SV.lt]⟩;simp only[execOp,ho,h1,h2,Sem.run_bind,e2,Result.andThen_ok,e3,e1,ga,bool]
      rfl
     ·refine⟨_,_,H,ρ,w,?_,h3,hr,Le.refl H,by rw[bool,SV.lt]⟩;simp only[execOp,ho,h1,h2,Sem.run_bind,e2,Result.andThen_ok,e3,e1,ga,bool]
      rfl
     ·exact h3.elim
    ·exact h.elim
   ·exact hfb h
  ·exact hfb h
 ·exact hfb h
theorem opX_ok {fb:Prop} (ht:TOK C) {op:Op} {T:TypeId} {K:KK} (hfb:fb→RawOp C s op T H K) (h:opX fb C s op T H K):RawOp C s op T H K:=by
 unfold opX at h;split at h
 ·exact ok_buildF ht hfb h
 ·exact ok_arr ht hfb h
 ·exact ok_subNil ht hfb h
 ·exact ok_makeMap hfb h
 ·exact ok_lookup ht hfb h
 ·exact ok_mapUpdate ht hfb h
 ·exact ok_make ht hfb h
 ·exact ok_seen ht hfb h
 ·exact ok_negF (fb:=fb) hfb h
 ·rename_i c;split at h
  ·rename_i b hc;split at h
   ·exact ok_copy ht hc hfb h
   ·exact ok_appendX ht hc hfb h
   ·exact ok_clear ht hc hfb h
   ·exact ok_real hc hfb h
   ·exact ok_imag hc hfb h
   ·exact ok_complex hc hfb h
   ·exact ok_cap ht hc hfb h
   ·exact ok_data hc hfb h
   ·exact ok_unstr hc hfb h
   ·exact hfb h
  ·exact hfb h
 ·exact hfb h
theorem Rel.shrunk (hr:Rel C B ρ s H a w) {k:Nat} {e:TypeId} {sz:Nat} {xs:List (List Value)} (hk:lk s.bx k=some (.row e sz xs)) {n:Nat} (hn:n≤xs.length) (sz':Nat):
  ∃ρ',Rel C B ρ' ((s.box k .dead).new (.row e sz (xs.take n))) H a w∧ga ρ' (.own s.nx)=ρ.part k sz' 0 n:=by
 have hb:=(hr.mem.ok _ _ hk).2.1
 have hlen:(xs.take n).length=n:=by rw[List.length_take];omega
 obtain⟨ρ',hr',hg⟩:=hr.moved (e:=e) (sz:=sz) (xs:=xs.take n) (w':=w) (v:=((ρ.sl k).1,n,(ρ.sl k).2.2)) hk rfl rfl ⟨rfl,Nat.le_refl _⟩ (Nat.le_refl _) (fun _ _ _=>rfl)
  (by
   rw[hlen,take_flat n (fun x hx=>(hb.2.1 x hx).1)];have hfl:xs.flatten.length=xs.length*sz:=hb.1.1;refine⟨by rw[List.length_take,hfl];exact Nat.min_eq_left (Nat.mul_le_mul_right _ hn),?_⟩
   rcases row_arr hb with ⟨h1,rfl⟩ | ⟨cap,cur,h1,h2,h3,hmx,h4,h5⟩
   ·simp only[List.length_nil]at hn;exact .inl ⟨by rw[h1,show n=0 by omega],by omega⟩
   ·refine .inr ⟨ρ.b k,cap,cur,by rw[h1],Nat.zero_le _,h2,by omega,hmx,h4,?_⟩
    rw[←h5,List.take_take,Nat.min_eq_left (Nat.mul_le_mul_right _ hn)])
  (fun x hx=>hb.2.1 x (List.mem_of_mem_take hx))
  (fun g hg=>.inl (by
   simp only[Owns,Rho.val]
   cases hs:(ρ.sl k).1 with
   | none=>simp [hs,Value.ownBlock]at hg
   | some ad=>simpa [hs,Value.ownBlock] using hg))
 refine⟨ρ',hr',?_⟩;rw[hg,Rho.part]
 congr 1
 unfold cutA;split
 ·rfl
 ·rcases row_arr hb with ⟨h1,rfl⟩ | ⟨cap,cur,h1,h2,h3,hmx,h4,h5⟩
  ·rw[h1];rfl
  ·rw[h1];simp [Addr.add]
theorem ok_moveG {x:Operand} {T:TypeId} {K:KK} (h:match get s x with
  | some (.sub k sz lo n)=>K (.sub k sz lo n) s H∨headS k lo n s H K
  | some y=>K y s H
  | none=>False):RawOp C s (.move x) T H K∧RawOp C s (.assign x) T H K:=by
 split at h
 ·rename_i k sz lo n hx
  rcases h with h | h
  ·have:=ok_move (C:=C) (s:=s) (H:=H) (T:=T) (x:=x) (K:=K) (by rw[hx];exact h);exact⟨raw_pure this.1,raw_pure this.2⟩
  ·unfold headS at h;split at h
   ·rename_i e sz' xs hk;obtain⟨⟨rfl,hn⟩,h⟩:=h
    constructor <;>
    ·refine raw_val fun B ρ o a w ho _ hr=>?_
     obtain⟨ρ',hr',hg⟩:=hr.shrunk hk hn sz;refine⟨_,_,H,ρ',w,?_,h,hr',Le.refl H,by rw[SV.lt];exact Nat.ble_eq_true_of_le (Nat.le_refl _)⟩;have h1:=(eval_get hr hx).1;rw[ga]at h1;simp only[execOp,ho,h1,hg]
     rfl
   ·exact h.elim
 ·rename_i y _ hx;have:=ok_move (C:=C) (s:=s) (H:=H) (T:=T) (x:=x) (K:=K) (by rw[hx];exact h);exact⟨raw_pure this.1,raw_pure this.2⟩
 ·exact h.elim
end
end Go.Sy
end
section
namespace Go.Sy
open Go.RowKit (Below)
section
variable {C:Cx} {B:Bs} {ρ:Rho} {s:St} {H:Hp} {a:Act} {w:World} {P:Program}
theorem append_full (ht:TOK C) {t ty e:TypeId} {i:TypeInfo×TypeDesc} (hT:telem C t=some e) (hi:C.tt e=some i) {z:Value} (hz:i.1.zero=some z) (hzs:z.cells.size=i.1.size)
  {b:Addr} {n:Nat} {y:Value} {xs ys:List (List Value)} (hv:News w (.slice (some b) n n) i.1.size xs) (hn:News w y i.1.size ys) (hpos:0<ys.length)
  (hby:(xs.length+ys.length)*i.1.bytes≤140737488355328) (hlen:xs.length+ys.length≤9223372036854775807):
  ∃v' w',(Builtin.append_ #[t,t] ty #[.slice (some b) n n,y]).run C.P w = .ok v' w'∧w'.ownsRow 0 e i.1.size v' (xs++ys).length (xs++ys).flatten∧w.grownBy w' none∧(∀g,v'.ownBlock=some g→w.heap.size≤g)∧w.drawn≤w'.drawn∧∃a l c,v' = .slice a l c:=by
 have hu:=telem_ok ht hT;have hinfo:=tt_zero ht hi
 have hflat:∀ {zs:List (List Value)},(∀x∈zs,x.length=i.1.size∧∀u∈x,u.oneCell'=true)→zs.flatten.length=zs.length*i.1.size:=fun h=>flat_len fun x hx=>(h x hx).1
 have hxl:=hflat hv.1;have hyl:=hflat hn.1
 rcases hv.2 with ⟨h1,_⟩ | ⟨ad,c,h1,hcv⟩
 ·cases h1
 ·simp only[Value.slice.injEq,Option.some.injEq]at h1;obtain⟨rfl,rfl,rfl⟩:=h1
  rcases hn.2 with ⟨rfl,rfl⟩ | ⟨ad2,c2,rfl,hcn⟩
  ·exact absurd hpos (Nat.lt_irrefl 0)
  ·have hm:xs.length+ys.length≤maxLen:=by simp only[maxLen];omega
   have hr:=run_append_grow (P:=C.P) w t ty e i.1 z hu hinfo hz b xs.length xs.length xs.flatten hxl hcv ad2 ys.length c2 ys.flatten hyl hcn (by omega) (by omega) (growslice_fits (by omega) hby);refine⟨_,_,hr,?_,⟨rfl,rfl,rfl,by simp,fun k hk _=>heap_alloc_old w.drew _ k hk⟩,fun g hg=>?_,Nat.le_succ _,_,_,_,rfl⟩
   ·have hge:=grownCap_ge w (xs.length+ys.length) xs.length e;have hcm:grownCap w (xs.length+ys.length) xs.length e≤maxLen:=grownCap_le_maxLen w (xs.length+ys.length) xs.length e hm
    have hl2:(xs.flatten++ys.flatten).length=(xs.length+ys.length)*i.1.size:=by rw[List.length_append,hxl,hyl,Nat.add_mul]
    rw[List.length_append,List.flatten_append];refine⟨hl2,.inr ⟨w.heap.size,_,_,rfl,Nat.zero_le _,heap_alloc_new w.drew _,hge,hcm,?_,?_⟩⟩
    ·simp only[Array.size_append,List.size_toArray,size_zeroCells,hzs,hxl,hyl,←Nat.add_mul]
     congr 1
     omega
    ·simp only[Array.toList_append,List.append_assoc];rw[←List.append_assoc,←hl2];exact List.take_left
   ·simp only[Value.ownBlock,Option.some.injEq]at hg;omega
theorem ok_append {fb:Prop} (ht:TOK C) {c:Call} {T:TypeId} {K:KK} (hc:c.callee = .builtin .append) (hfb:fb→RawOp C s (.call c) T H K) (h:match c.args.toList with
    | [x,y]=>match c.argTypes.toList with
     | [t,t']=>bif Nat.beq t t' then (match famX s (get s x) with
      | some _=>fb
      | none=>match get s x with
      | some (.sub _ _ _ _)=>fb
      | some x'=>match get s y with
       | some y'=>appendE C t x' y' s H K
       | none=>False
      | none=>False) else fb
     | _=>False
    | _=>False):RawOp C s (.call c) T H K:=by
 split at h
 ·rename_i x y hx
  have ha:c.args=#[x,y]:=by apply Array.ext';simpa using hx
  split at h
  ·rename_i t t' hT'
   have hat:c.argTypes=#[t,t']:=by apply Array.ext';simpa using hT'
   cases htt:Nat.beq t t' with
   | false=>rw[htt]at h;exact hfb h
   | true =>
    rw[htt]at h;simp only[cond_true]at h;obtain rfl:=beq_t htt;split at h
    ·exact hfb h
    split at h
    ·exact hfb h
    ·rename_i x' _ hx';split at h
     ·rename_i y' hy';unfold appendE at h;split at h
      ·exact h.elim
      ·rename_i e he;split at h
       ·exact h.elim
       ·rename_i i hi;split at h
        ·exact h.elim
        ·rename_i z hz;obtain⟨hb,h⟩:=bif_f h;simp only[Bool.and_eq_true]at hb;have hzs:=beq_t hb.1;have hsz:=ble_t hb.2
         refine raw_val fun B ρ o a w ho _ hr=>?_
         obtain⟨ys,h,hn⟩:=rowOf_news hr hsz h;obtain⟨e1,l1⟩:=eval_get hr hx';obtain⟨e2,l2⟩:=eval_get hr hy'
         have hrun:(execOp a.eval o).run C.P w=((do pure (.value (←Builtin.append_ #[t,t] o.type #[ga ρ x',ga ρ y'])):Sem Next)).run C.P w:=by
          rw[exec_builtin ho hc,ha,hat];simp only[builtin,List.map_toArray,List.map_cons,List.map_nil,e1,e2]
         split at h
         ·rename_i k;split at h
          ·rename_i e' sz xs hk
           have hbif:=bif_f h;clear h;obtain⟨hee,⟨hby,hlen⟩,h⟩:=hbif
           simp only[Bool.and_eq_true]at hee;obtain rfl:=beq_t hee.1;obtain rfl:=beq_t hee.2;have hbx:=(hr.mem.ok _ _ hk).2.1;obtain⟨v',w',r1,r2,r3,r4,r5,a',l',c',rfl⟩:=append_run (ty:=o.type) ht he hi hz hzs hsz hbx.1 hn hby hlen
           obtain⟨ρ',hr',hg⟩:=hr.moved (v:=(a',l',c')) hk r3.os r3.tape ⟨r3.output,r5⟩ r3.size (fun g hg hno=>r3.block g hg (fun e=>hno e.symm)) r2 (fun x hx=>by
            rcases List.mem_append.1 hx with hx | hx
            ·exact hbx.2.1 x hx
            ·exact hn.1 x hx) (fun g hg=>r4 g hg)
           refine⟨_,_,H,ρ',w',?_,h,hr',Le.refl H,by rw[SV.lt];exact Nat.ble_eq_true_of_le (Nat.le_refl _)⟩;rw[hrun,hg,ga,Sem.run_bind,r1]
           rfl
          ·exact h.elim
         ·obtain⟨⟨hby,hlen⟩,h⟩:=h;obtain⟨v',w',r1,r2,r3,r4,r5,a',l',c',rfl⟩:=append_run (xs:=[]) (v:=.slice none 0 0) (ty:=o.type) ht he hi hz hzs hsz (World.ownsRow_nil w 0 e i.1.size) hn (by simpa using hby) (by simpa using hlen)
          obtain⟨ρ',hr',hg⟩:=hr.rowed (v:=(a',l',c')) r3.os r3.tape ⟨r3.output,r5⟩ r3.size (fun g hg=>r3.block g hg (by simp [Value.ownBlock])) (by simpa using r2) (fun x hx=>hn.1 x hx) (fun g hg=>by
           rcases r4 g hg with h | h
           ·simp [Value.ownBlock]at h
           ·exact h)
          refine⟨_,_,H,ρ',w',?_,h,hr',Le.refl H,by rw[SV.lt];exact Nat.ble_eq_true_of_le (Nat.le_refl _)⟩;rw[hrun,hg,ga,Sem.run_bind,r1]
          rfl
         ·obtain⟨xs,⟨hrow,rfl,hpos,hby,hlen⟩,h⟩:=h;obtain⟨xs',hxs,hv⟩:=rowOf_news (y:=.v (.slice (some _) _ _)) (K:=fun z=>z=xs) hr hsz ⟨xs,hrow,rfl⟩;subst hxs;obtain⟨v',w',r1,r2,r3,r4,r5,a',l',c',rfl⟩:=append_full (ty:=o.type) ht he hi hz hzs hv hn hpos hby hlen
          obtain⟨ρ',hr',hg⟩:=hr.rowed (v:=(a',l',c')) r3.os r3.tape ⟨r3.output,r5⟩ r3.size (fun g hg=>r3.block g hg (by simp)) r2 (fun x hx=>by
            rcases List.mem_append.1 hx with hx | hx
            ·exact hv.1 x hx
            ·exact hn.1 x hx) r4
          refine⟨_,_,H,ρ',w',?_,h,hr',Le.refl H,by rw[SV.lt];exact Nat.ble_eq_true_of_le (Nat.le_refl _)⟩;rw[hrun,hg,ga,Sem.run_bind,r1]
          rfl
         ·exact h.elim
     ·exact h.elim
    ·exact h.elim
  ·exact h.elim
 ·exact h.elim
theorem opE_ok (ht:TOK C) {op:Op} {T:TypeId} {K:KK} (h:opE C s op T H K):RawOp C s op T H K:=by
 have hfb:opX (RawOp C s op T H K) C s op T H K→RawOp C s op T H K:=opX_ok ht id;unfold opE at h
 cases op with
 | move x=>exact (ok_moveG h).1
 | assign x=>exact (ok_moveG h).2
 | pick c x y=>exact (ok_pick h).elim raw_pure hfb
 | binOp op xT x y yT =>
  simp only[opG]at h;split at h
  ·exact hfb h
  ·exact (ok_bin ht h).elim raw_pure hfb
 | unOp op xT x =>
  cases op with
  | not=>exact (ok_not h).elim raw_pure hfb
  | neg=>exact (ok_neg h).elim raw_pure hfb
  | xor=>exact hfb h
  | plus=>exact hfb h
 | box T' x=>exact ok_box h
 | alloc T'=>exact ok_alloc ht h
 | build T' ps=>exact (ok_build ht h).elim raw_pure hfb
 | buildSlice T' n ps=>exact (ok_buildSlice ht h).elim id hfb
 | fieldAddr T' x f=>exact (ok_fieldAddr ht h).elim raw_pure hfb
 | field T' x f=>exact (ok_field ht h).elim raw_pure hfb
 | load T' x=>exact (ok_load ht h).elim raw_pure hfb
 | store T' x y=>exact ok_store ht h
 | nilCheck x=>exact (ok_nilCheck h).elim raw_pure hfb
 | convert src dst x=>exact (ok_convert ht h).elim raw_pure hfb
 | indexAddr T' x i=>exact (ok_indexAddr ht h).elim raw_pure hfb
 | index T' x i=>exact (ok_index ht h).elim raw_pure hfb
 | extract x i=>exact (ok_extract h).elim raw_pure hfb
 | makeFunc fn first cap=>exact (ok_makeFunc h).elim raw_pure hfb
 | slice T' x lo hi mx =>
  simp only[opG]at h;split at h
  ·rename_i k hk
   rcases h with h | h
   ·exact ok_slice ht hk h
   ·exact (ok_sliceV ht h).elim raw_pure hfb
  ·exact (ok_sliceV ht h).elim raw_pure hfb
 | call c =>
  obtain⟨callee,args,ats⟩:=c
  cases callee with
  | value g=>exact ok_value rfl h
  | invoke r m=>exact hfb h
  | builtin b =>
   cases b with
   | len=>exact (ok_len ht rfl h).elim raw_pure hfb
   | append=>exact ok_append ht rfl hfb h
   | min=>exact (ok_min rfl h).elim raw_pure hfb
   | max=>exact (ok_max rfl h).elim raw_pure hfb
   | _=>exact hfb h
 | _=>exact hfb h
end
end Go.Sy
end
section
/- A region whose order is open. -/
namespace Go.Sy
open Go.RowKit (Below)
section
variable {C:Cx} {s:St} {H:Hp}
theorem bif_f' {b:Bool} {p:Prop} (h:bif b then p else False):b=true∧p:=by
 cases b
 ·exact h.elim
 ·exact⟨rfl,h⟩
theorem arith_ex {k:IntKind} {n:Int} {K:SV→Prop} (h:arith C k n K):∃x,K x∧∀K':SV→Prop,K' x→arith C k n K':=by
 unfold arith at *
 cases hw:C.wrap with
 | true=>rw[hw]at h;exact⟨_,h,fun K' h'=>h'⟩
 | false=>rw[hw]at h;exact⟨_,h.2,fun K' h'=>⟨h.1,h'⟩⟩
theorem binI_ex {op:BinOp} {k:IntKind} {a b:Int} {K:SV→Prop} (h:binI C op k a b K):∃x,K x∧∀K':SV→Prop,K' x→binI C op k a b K':=by
 cases op<;>simp only[binI]at h ⊢
 case add=>exact arith_ex h
 case sub=>exact arith_ex h
 case mul=>exact arith_ex h
 case quo=>obtain⟨x,h1,h2⟩:=arith_ex h.2;exact⟨x,h1,fun K' h'=>⟨h.1,h2 K' h'⟩⟩
 case rem=>exact⟨_,h.2,fun K' h'=>⟨h.1,h'⟩⟩
 case shl=>obtain⟨x,h1,h2⟩:=arith_ex h.2;exact⟨x,h1,fun K' h'=>⟨h.1,h2 K' h'⟩⟩
 case shr=>exact⟨_,h.2,fun K' h'=>⟨h.1,h'⟩⟩
 all_goals exact⟨_,h,fun K' h'=>h'⟩
theorem binS_ex {op:BinOp} {a b:ByteArray} {K:SV→Prop} (h:binS op a b K):∃x,K x∧∀K':SV→Prop,K' x→binS op a b K':=by
 cases op<;>simp only[binS]at h ⊢
 case add=>exact⟨_,h.2,fun K' h'=>⟨h.1,h'⟩⟩
 all_goals first | exact h.elim | exact⟨_,h,fun K' h'=>h'⟩
theorem bin_ex {op:BinOp} {xT:TypeId} {x y:Option SV} {K:SV→Prop} (h:bin C op xT x y K):∃r,K r∧∀K':SV→Prop,K' r→bin C op xT x y K':=by
 unfold bin at *;split at h
 ·split at h
  ·split at h
   ·exact binI_ex h
   ·exact binI_ex h
   ·obtain⟨hk,h⟩:=bif_f' h;simp only[hk,cond_true];exact binI_ex h
  ·exact h.elim
 ·split at h
  ·exact binS_ex h
  ·exact h.elim
 ·split at h
  ·obtain⟨hk,h⟩:=h;unfold cplxE at *;split at h
   ·obtain⟨re,im,h1,h2⟩:=h;exact⟨_,h2,fun K' h'=>⟨hk,re,im,h1,h'⟩⟩
   ·obtain⟨re,im,h1,h2⟩:=h;exact⟨_,h2,fun K' h'=>⟨hk,re,im,h1,h'⟩⟩
   ·obtain⟨h0,re,im,h1,h2⟩:=h;exact⟨_,h2,fun K' h'=>⟨hk,h0,re,im,h1,h'⟩⟩
   ·exact h.elim
  ·exact h.elim
 ·unfold eqE at *;split at h
  ·split at h
   ·split at h
    ·split at h
     ·exact⟨_,h,fun K' h'=>h'⟩
     ·exact⟨_,h,fun K' h'=>h'⟩
     ·exact h.elim
    ·exact h.elim
   ·exact h.elim
  ·exact h.elim
theorem buildE_ex {T:TypeId} {ps:List (Nat×Operand)} {K:SV→Prop} (h:buildE C T ps s K):∃r,K r∧∀K':SV→Prop,K' r→buildE C T ps s K':=by
 unfold buildE at *;split at h
 ·exact h.elim
 ·split at h
  ·exact h.elim
  ·split at h
   ·split at h
    ·split at h
     ·exact⟨_,h,fun K' h'=>h'⟩
     ·exact h.elim
    ·exact h.elim
   ·split at h
    ·split at h
     ·exact⟨_,h,fun K' h'=>h'⟩
     ·exact h.elim
    ·exact h.elim
   ·exact h.elim
theorem rowOf_ex {y:SV} {sz:Nat} {K:List (List Value)→Prop} (h:rowOf s H y sz K):∃xs,K xs∧∀K':List (List Value)→Prop,K' xs→rowOf s H y sz K':=by
 unfold rowOf at *;split at h
 ·split at h
  ·obtain⟨hb,h⟩:=bif_f' h;exact⟨_,h,fun K' h'=>by simp only[hb,cond_true];exact h'⟩
  ·exact h.elim
 ·split at h
  ·obtain⟨hb,hn,h⟩:=bif_f' h;exact⟨_,h,fun K' h'=>by simp only[hb,cond_true];exact⟨hn,h'⟩⟩
  ·exact h.elim
 ·obtain⟨xs,h1,h2⟩:=h;exact⟨xs,h2,fun K' h'=>⟨xs,h1,h'⟩⟩
 ·exact h.elim
theorem sliceV_ex {T':TypeId} {x:Operand} {lo hi:Option Operand} {K:SV→Prop} (hx:∀k sz l n,get s x≠some (.sub k sz l n)) (h:sliceV False C s T' x lo hi none K):∃r,K r∧∀K':SV→Prop,K' r→sliceV False C s T' x lo hi none K':=by
 unfold sliceV at *;split at h
 ·simp only at h ⊢;split at h
  ·split at h
   ·exact h.elim
   ·split at h
    ·exact h.elim
    ·exact⟨_,h.2,fun K' h'=>⟨h.1,h'⟩⟩
  ·exact h.elim
 ·split at h
  ·exact h.elim
  ·simp only at h ⊢;split at h
   ·split at h
    ·exact h.elim
    ·split at h
     ·exact h.elim
     ·exact⟨_,h.2,fun K' h'=>⟨h.1,h'⟩⟩
   ·split at h
    ·split at h
     ·exact h.elim
     ·split at h
      ·exact h.elim
      ·obtain⟨hb,h1,h2⟩:=bif_f' h;exact⟨_,h2,fun K' h'=>by simp only[hb,cond_true];exact⟨h1,h'⟩⟩
    ·exact h.elim
   ·rename_i hq;exact absurd hq (hx _ _ _ _)
   ·exact h.elim
 ·exact h.elim
theorem pur_ex {op:Op} {T:TypeId} {K:KK} (hp:pur op=true) (h:opP C s op T H K):∃x,K x s H∧∀K':KK,K' x s H→opP C s op T H K':=by
 cases op with
 | slice T' x lo hi mx =>
  simp only[opP]at *;split at h
  ·exact h.elim
  ·split at h
   ·exact h.elim
   ·rename_i hq;obtain⟨r,h1,h2⟩:=sliceV_ex (fun k sz l n hc=>by rw[hc]at hq;exact hq _ _ _ _ rfl) h;exact⟨r,h1,fun K' h'=>h2 _ h'⟩
 | move x =>
  simp only[opP]at *;split at h
  ·exact⟨_,h,fun K' h'=>h'⟩
  ·exact h.elim
 | assign x =>
  simp only[opP]at *;split at h
  ·exact⟨_,h,fun K' h'=>h'⟩
  ·exact h.elim
 | pick c x y =>
  simp only[opP,opG]at *;split at h
  ·split at h
   ·exact⟨_,h,fun K' h'=>h'⟩
   ·exact h.elim
  ·exact h.elim
 | binOp op xT x y yT =>
  simp only[opP,opG]at *;split at h
  ·exact h.elim
  ·obtain⟨r,h1,h2⟩:=bin_ex h;exact⟨r,h1,fun K' h'=>h2 _ h'⟩
 | unOp op xT x =>
  cases op with
  | not =>
   simp only[opP,opG]at *;split at h
   ·exact⟨_,h,fun K' h'=>h'⟩
   ·exact⟨_,h,fun K' h'=>h'⟩
   ·exact h.elim
  | neg =>
   simp only[opP,opG]at *;split at h
   ·obtain⟨r,h1,h2⟩:=arith_ex h;exact⟨r,h1,fun K' h'=>h2 _ h'⟩
   ·exact h.elim
  | xor=>exact h.elim
  | plus=>exact h.elim
 | fieldAddr T' x f =>
  simp only[opP,opG]at *;split at h
  ·exact h.elim
  ·split at h
   ·split at h
    ·exact⟨_,h,fun K' h'=>h'⟩
    ·exact⟨_,h,fun K' h'=>h'⟩
    ·exact⟨_,h,fun K' h'=>h'⟩
    ·exact h.elim
   ·exact h.elim
 | field T' x f =>
  simp only[opP,opG]at *;split at h
  ·exact h.elim
  ·split at h
   ·split at h
    ·split at h
     ·split at h
      ·exact⟨_,h,fun K' h'=>h'⟩
      ·exact h.elim
     ·exact h.elim
    ·exact h.elim
   ·exact h.elim
 | load T' x =>
  simp only[opP,opG]at *;split at h
  ·exact h.elim
  ·split at h
   ·split at h
    ·obtain⟨hb,h⟩:=bif_f' h;simp only[hb,cond_true];split at h
     ·exact⟨_,h,fun K' h'=>h'⟩
     ·exact h.elim
    ·exact h.elim
   ·obtain⟨cs,h0,h⟩:=h;obtain⟨hb,h⟩:=bif_f' h;split at h
    ·rename_i hm;exact⟨_,h,fun K' h'=>⟨cs,h0,by simp only[hb,cond_true,hm];exact h'⟩⟩
    ·exact h.elim
   ·split at h
    ·obtain⟨hb,cs,h0,h⟩:=bif_f' h;obtain⟨hb2,h⟩:=bif_f' h;simp only[hb,cond_true];split at h
     ·rename_i hm;exact⟨_,h,fun K' h'=>⟨cs,h0,by simp only[hb2,cond_true,hm];exact h'⟩⟩
     ·exact h.elim
    ·exact h.elim
   ·exact h.elim
 | convert src dst x =>
  simp only[opP,opG]at *;split at h
  ·split at h
   ·split at h
    ·obtain⟨r,h1,h2⟩:=arith_ex h;exact⟨r,h1,fun K' h'=>h2 (fun r=>K' r s H) h'⟩
    ·exact h.elim
   ·split at h
    ·exact⟨_,h,fun K' h'=>h'⟩
    ·split at h
     ·exact h.elim
     ·split at h
      ·obtain⟨xs,⟨b,e,h⟩,hk⟩:=rowOf_ex h;exact⟨_,h,fun K' h'=>hk _ ⟨b,e,h'⟩⟩
      ·exact h.elim
    ·exact h.elim
   ·exact h.elim
  ·exact h.elim
 | nilCheck x =>
  simp only[opP,opG]at *;split at h
  ·exact⟨_,h,fun K' h'=>h'⟩
  ·exact⟨_,h,fun K' h'=>h'⟩
  ·exact⟨_,h,fun K' h'=>h'⟩
  ·exact⟨_,h,fun K' h'=>h'⟩
  ·exact h.elim
 | indexAddr T' x i =>
  simp only[opP,opG]at *;split at h
  ·split at h
   ·split at h
    ·split at h
     ·split at h
      ·obtain⟨h0,h⟩:=h;exact⟨_,h,fun K' h'=>⟨h0,h'⟩⟩
      ·exact h.elim
     ·exact h.elim
    ·exact h.elim
   ·exact h.elim
  ·split at h
   ·exact h.elim
   ·split at h
    ·split at h
     ·obtain⟨ad,h0,h⟩:=h;exact⟨_,h,fun K' h'=>⟨ad,h0,h'⟩⟩
     ·split at h
      ·obtain⟨hb,h0,h⟩:=bif_f' h;simp only[hb,cond_true];exact⟨_,h,fun K' h'=>⟨h0,h'⟩⟩
      ·exact h.elim
     ·split at h
      ·obtain⟨hb,h0,h⟩:=bif_f' h;simp only[hb,cond_true];exact⟨_,h,fun K' h'=>⟨h0,h'⟩⟩
      ·exact h.elim
     ·exact h.elim
    ·exact h.elim
 | index T' x i =>
  simp only[opP,opG]at *;split at h
  ·split at h
   ·split at h
    ·obtain⟨c,h0,h⟩:=h;exact⟨_,h,fun K' h'=>⟨c,h0,h'⟩⟩
    ·exact h.elim
   ·exact h.elim
  ·exact h.elim
 | extract t i =>
  simp only[opP,opG]at *;split at h
  ·split at h
   ·exact⟨_,h,fun K' h'=>h'⟩
   ·exact h.elim
  ·exact h.elim
 | build T' ps =>
  simp only[opP,opG]at *;obtain⟨r,h1,h2⟩:=buildE_ex h;exact⟨r,h1,fun K' h'=>h2 _ h'⟩
 | call c =>
  obtain⟨callee,args,ats⟩:=c
  cases callee with
  | builtin b =>
   cases b with
   | len =>
    simp only[opP,opG]at *;split at h
    ·split at h
     ·split at h
      ·split at h
       ·exact⟨_,h,fun K' h'=>h'⟩
       ·split at h
        ·exact⟨_,h,fun K' h'=>h'⟩
        ·exact h.elim
       ·exact⟨_,h,fun K' h'=>h'⟩
       ·exact h.elim
      ·split at h
       ·exact⟨_,h,fun K' h'=>h'⟩
       ·exact h.elim
      ·exact h.elim
     ·exact h.elim
    ·exact h.elim
   | min =>
    simp only[opP,opG]at *;split at h
    ·split at h
     ·split at h
      ·exact⟨_,h,fun K' h'=>h'⟩
      ·exact h.elim
     ·exact h.elim
    ·exact h.elim
   | max =>
    simp only[opP,opG]at *;split at h
    ·split at h
     ·split at h
      ·exact⟨_,h,fun K' h'=>h'⟩
      ·exact h.elim
     ·exact h.elim
    ·exact h.elim
   | _=>cases hp
  | _=>cases hp
 | _=>cases hp
theorem pur_run (ht:TOK C) {op:Op} {T:TypeId} {K:KK} (hp:pur op=true) (h:opP C s op T H K):RawP C s op T H K:=by
 cases op with
 | move x=>exact (ok_move h).1
 | assign x=>exact (ok_move h).2
 | pick c x y=>exact (ok_pick (fb:=False) h).elim id False.elim
 | binOp op xT x y yT =>
  simp only[opP,opG]at h;split at h
  ·exact h.elim
  ·exact (ok_bin ht (fb:=False) h).elim id False.elim
 | unOp op xT x =>
  cases op with
  | not=>exact (ok_not (fb:=False) h).elim id False.elim
  | neg=>exact (ok_neg (fb:=False) h).elim id False.elim
  | xor=>exact h.elim
  | plus=>exact h.elim
 | fieldAddr T' x f=>exact (ok_fieldAddr ht h).elim id False.elim
 | field T' x f=>exact (ok_field (fb:=False) ht h).elim id False.elim
 | load T' x=>exact (ok_load ht h).elim id False.elim
 | nilCheck x=>exact (ok_nilCheck h).elim id False.elim
 | convert src dst x=>exact (ok_convert ht (fb:=False) h).elim id False.elim
 | indexAddr T' x i=>exact (ok_indexAddr ht h).elim id False.elim
 | index T' x i=>exact (ok_index ht h).elim id False.elim
 | slice T' x lo hi mx =>
  simp only[opP]at h;split at h
  ·exact h.elim
  ·split at h
   ·exact h.elim
   ·exact (ok_sliceV ht h).elim id False.elim
 | extract x i=>exact (ok_extract (fb:=False) h).elim id False.elim
 | build T' ps=>exact (ok_build (fb:=False) ht h).elim id False.elim
 | call c =>
  obtain⟨callee,args,ats⟩:=c
  cases callee with
  | builtin b =>
   cases b with
   | len=>exact (ok_len ht rfl h).elim id False.elim
   | min=>exact (ok_min rfl h).elim id False.elim
   | max=>exact (ok_max rfl h).elim id False.elim
   | _=>cases hp
  | _=>cases hp
 | _=>cases hp
def Ext (s s':St):Prop:=s.nx≤s'.nx∧∃pre,s'.bx=pre++s.bx
theorem Ext.refl (s:St):Ext s s:=⟨Nat.le_refl _,[],rfl⟩
theorem Ext.trans {s s' s'':St} (h:Ext s s') (h':Ext s' s''):Ext s s'':=by
 obtain⟨h1,p,e⟩:=h;obtain⟨h2,q,f⟩:=h';exact⟨Nat.le_trans h1 h2,q++p,by rw[f,e,List.append_assoc]⟩
theorem Ext.new (s:St) (b:Bx):Ext s (s.new b):=⟨Nat.le_succ _,[(s.nx,b)],rfl⟩
theorem Ext.box (s:St) (k:Nat) (b:Bx):Ext s (s.box k b):=⟨Nat.le_refl _,[(k,b)],rfl⟩
def Keep (hs:List Nat) (s s':St):Prop:=s.nx≤s'.nx∧∀k,k<s.nx→hasN k hs=false→lk s'.bx k=lk s.bx k
theorem Keep.refl {hs:List Nat} (s:St):Keep hs s s:=⟨Nat.le_refl _,fun _ _ _=>rfl⟩
theorem Keep.trans {hs:List Nat} {s s' s'':St} (h:Keep hs s s') (h':Keep hs s' s''):Keep hs s s'':=⟨Nat.le_trans h.1 h'.1,fun k hk hc=>(h'.2 k (Nat.lt_of_lt_of_le hk h.1) hc).trans (h.2 k hk hc)⟩
theorem keys_lk {hs:List Nat} {nx:Nat}:∀(pre r:List (Nat×Bx)),keysOK hs nx pre.length (pre++r)=true→∀k,k<nx→hasN k hs=false→lk (pre++r) k=lk r k
 | [],r,_,k,_,_=>rfl
 | (j,b)::pre,r,h,k,hk,hc=>by
  simp only[List.length_cons,List.cons_append,keysOK]at h
  obtain⟨h1,h2⟩:(bif Nat.ble nx j then true else hasN j hs)=true∧keysOK hs nx pre.length (pre++r)=true:=by
   revert h
   cases (bif Nat.ble nx j then true else hasN j hs) with
   | true=>exact fun h=>⟨rfl,h⟩
   | false=>exact fun h=>by cases h
  rw[List.cons_append,lk_cons]
  have hne:j≠k:=by
   intro e;subst e
   cases hb:Nat.ble nx j with
   | true=>have:=Nat.le_of_ble_eq_true hb;omega
   | false=>rw[hb,hc]at h1;cases h1
  rw[if_neg hne];exact keys_lk pre r h2 k hk hc
theorem Keep.of_ext {hs:List Nat} {s s':St} (h:Ext s s') (hk:keepB hs s s'=true):Keep hs s s':=by
 obtain⟨h1,pre,e⟩:=h;refine⟨h1,fun k hlt hc=>?_⟩;unfold keepB at hk;rw[e]at hk ⊢;rw[List.length_append,Nat.add_sub_cancel]at hk;exact keys_lk pre s.bx hk k hlt hc
mutual
theorem fz_mono:∀(x:SV) {s:St} {H:Hp} {K K':Value→St→Hp→Prop},fz x s H K→(∀v s H,K v s H→K' v s H)→fz x s H K'
 | .v x,s,H,K,K',h,hk=>by rw[fz]at *;exact hk _ _ _ h
 | .kb b,s,H,K,K',h,hk=>by rw[fz]at *;exact hk _ _ _ h
 | .own k,s,H,K,K',h,hk=>by
  rw[fz]at *;split at h
  ·exact fun x H' h1 h2=>hk _ _ _ (h x H' h1 h2)
  ·exact hk _ _ _ h
  ·exact h.elim
 | .sub k sz lo n,s,H,K,K',h,hk=>by
  rw[fz]at *;split at h
  ·rename_i hk2;obtain⟨hq,hn,h⟩:=bif_f' h;rw[hq];exact⟨hn,fun x v H' h1 h2 h3=>hk _ _ _ (h x v H' h1 h2 h3)⟩
  ·exact hk _ _ _ h
  ·exact h.elim
 | .agg cs,s,H,K,K',h,hk=>by rw[fz]at *;exact fzs_mono cs h fun _ _ _=>hk _ _ _
 | .fn f cs,s,H,K,K',h,hk=>by rw[fz]at *;exact fzs_mono cs h fun _ _ _=>hk _ _ _
 | .tup cs,s,H,K,K',h,hk=>by rw[fz]at *;exact fzs_mono cs h fun _ _ _=>hk _ _ _
 | .ptr _ _,s,H,K,K',h,hk=>by rw[fz]at h;exact h.elim
 | .el _ _ _ _,s,H,K,K',h,hk=>by rw[fz]at h;exact h.elim
 | .rel _ _ _ _,s,H,K,K',h,hk=>by rw[fz]at h;exact h.elim
 | .mp _,s,H,K,K',h,hk=>by rw[fz]at h;exact h.elim
theorem fzs_mono:∀(l:List SV) {s:St} {H:Hp} {K K':List Value→St→Hp→Prop},fzs l s H K→(∀v s H,K v s H→K' v s H)→fzs l s H K'
 | [],s,H,K,K',h,hk=>by rw[fzs]at *;exact hk _ _ _ h
 | x::r,s,H,K,K',h,hk=>by
  rw[fzs]at *
  exact fz_mono x h fun v s1 H1 h1=>fzs_mono r h1 fun vs s2 H2 h2=>hk _ _ _ h2
end
theorem Does.mono {P:Program} {f:FuncId} {args:List Value} {K K':Value→Hp→Prop} (h:Does P f args H K) (hk:∀v H',K v H'→K' v H'):Does P f args H K' :=
 ⟨h.1,fun w hp=>(h.2 w hp).mono fun _ _ ⟨v,H',h1,h2,h3⟩=>⟨v,H',h1,hk _ _ h2,h3⟩⟩
mutual
theorem fz_keep:∀(x:SV) {s:St} {H:Hp} {K:Value→St→Hp→Prop},fz x s H K→fz x s H fun v s' H'=>K v s' H'∧Ext s s'
 | .v x,s,H,K,h=>by rw[fz]at *;exact⟨h,Ext.refl s⟩
 | .kb b,s,H,K,h=>by rw[fz]at *;exact⟨h,Ext.refl s⟩
 | .own k,s,H,K,h=>by
  rw[fz]at *;split at h
  ·rename_i hk
   exact fun x H' h1 h2=>⟨h x H' h1 h2,Ext.box _ _ _⟩
  ·exact⟨h,Ext.refl s⟩
  ·exact h.elim
 | .sub k sz lo n,s,H,K,h=>by
  rw[fz]at *;split at h
  ·rename_i hk2;obtain⟨hq,hn,h⟩:=bif_f' h;rw[hq];exact⟨hn,fun x v H' h1 h2 h3=>⟨h x v H' h1 h2 h3,Ext.box _ _ _⟩⟩
  ·exact⟨h,Ext.refl s⟩
  ·exact h.elim
 | .agg cs,s,H,K,h=>by rw[fz]at *;exact fzs_keep cs h
 | .fn f cs,s,H,K,h=>by rw[fz]at *;exact fzs_keep cs h
 | .tup cs,s,H,K,h=>by rw[fz]at *;exact fzs_keep cs h
 | .ptr _ _,s,H,K,h=>by rw[fz]at h;exact h.elim
 | .el _ _ _ _,s,H,K,h=>by rw[fz]at h;exact h.elim
 | .rel _ _ _ _,s,H,K,h=>by rw[fz]at h;exact h.elim
 | .mp _,s,H,K,h=>by rw[fz]at h;exact h.elim
theorem fzs_keep:∀(l:List SV) {s:St} {H:Hp} {K:List Value→St→Hp→Prop},fzs l s H K→fzs l s H fun v s' H'=>K v s' H'∧Ext s s'
 | [],s,H,K,h=>by rw[fzs]at *;exact⟨h,Ext.refl s⟩
 | x::r,s,H,K,h=>by
  rw[fzs]at *
  exact fz_mono x (fz_keep x h) fun v s1 H1 ⟨h1,h2⟩=>fzs_mono r (fzs_keep r h1) fun vs s2 H2 ⟨h3,h4⟩=>⟨h3,h2.trans h4⟩
end
theorem argsG_keep (m:List Nat):∀(l:List SV) {s:St} {H:Hp} {K K':List SV→St→Hp→Prop},argsG m l s H K→(∀ys s' H',K ys s' H'→Ext s s'→K' ys s' H')→argsG m l s H K'
 | [],s,H,K,K',h,hk=>hk _ _ _ h (Ext.refl s)
 | x::r,s,H,K,K',h,hk=>by
  rw[argsG]at *;split at h
  ·exact argsG_keep m r h fun ys s' H' h1 h2=>hk _ _ _ h1 h2
  ·rw[fz2_eq]at *
   exact fz_mono x (fz_keep x h) fun v s1 H1 ⟨h1,h2⟩=>argsG_keep m r h1 fun ys s' H' h3 h4=>hk _ _ _ h3 (h2.trans h4)
theorem DoesG.mono {P:Program} {f:FuncId} {args:List SV} {bx:List (Nat×Bx)} {nx:Nat} {H:Hp} {K K':SV→St→Hp→Prop} (h:DoesG P f args bx nx H K) (hk:∀x t H',K x t H'→K' x t H'):DoesG P f args bx nx H K' :=
 ⟨h.1,fun w ρ hm hl=>(h.2 w ρ hm hl).mono fun _ _ ⟨x,t,H',ρ',h1,h2,h3,h4⟩=>⟨x,t,H',ρ',h1,hk _ _ _ h2,h3,h4⟩⟩
theorem deadB_ext:∀(m:List Nat) (bx:List (Nat×Bx)),∃pre,deadB m bx=pre++bx
 | [],bx=>⟨[],rfl⟩
 | k::r,bx=>by
  obtain⟨pre,e⟩:=deadB_ext r bx;exact⟨(k,.dead)::pre,by rw[deadB,e];rfl⟩
theorem callG_keep {f:FuncId} {args:List SV} {K:KK} (h:callG C f args s H K):callG C f args s H fun x s' H'=>K x s' H'∧Ext s s':=by
 obtain⟨m,hnd,h⟩:=h;refine⟨m,hnd,argsG_keep m args h fun ys s1 H1 h1 h2=>?_⟩;obtain⟨env1,bx1,nx1⟩:=s1;simp only at h1 ⊢;split at h1
 ·exact h1.elim
 ·rename_i bl hbl
  refine h1.mono fun x t H2 h3=>?_
  split at h3
  ·exact h3.elim
  ·split at h3
   ·exact h3.elim
   ·rename_i b2 hb2;refine⟨h3,h2.trans ⟨Nat.le_add_right _ _,?_⟩⟩;obtain⟨pre,e⟩:=deadB_ext m bx1;exact⟨b2++pre,by rw[e,List.append_assoc]⟩
theorem rowOf_mono {y:SV} {sz:Nat} {K K':List (List Value)→Prop} (h:rowOf s H y sz K) (hk:∀ys,K ys→K' ys):rowOf s H y sz K':=by
 unfold rowOf at *;split at h
 ·split at h
  ·obtain⟨hb,h⟩:=bif_f' h;simp only[hb,cond_true];exact hk _ h
  ·exact h.elim
 ·split at h
  ·obtain⟨hb,hn,h⟩:=bif_f' h;simp only[hb,cond_true];exact⟨hn,hk _ h⟩
  ·exact h.elim
 ·obtain⟨xs,h1,h2⟩:=h;exact⟨xs,h1,hk _ h2⟩
 ·exact h.elim
theorem viewK_mono {x:SV} {K K':Nat→TypeId→Nat→List (List Value)→Nat→Nat→Prop} (h:viewK s x K) (hk:∀k e sz xs lo n,K k e sz xs lo n→K' k e sz xs lo n):viewK s x K':=by
 unfold viewK at *;split at h
 ·split at h
  ·exact hk _ _ _ _ _ _ h
  ·exact h.elim
 ·split at h
  ·obtain⟨hb,h⟩:=bif_f' h;simp only[hb,cond_true];exact hk _ _ _ _ _ _ h
  ·exact h.elim
 ·exact h.elim
theorem opX_keep {op:Op} {T:TypeId} {K:KK} (fb:Prop) (h:opX False C s op T H K):opX fb C s op T H fun x s' H'=>K x s' H'∧Ext s s':=by
 unfold opX at *;split at h
 ·split at h
  ·exact h.elim
  ·split at h
   ·exact h.elim
   ·split at h
    ·exact h.elim
    ·split at h
     ·exact h.elim
     ·obtain⟨hb,h⟩:=bif_f' h;simp only[hb,cond_true];split at h
      ·rw[forceL_eq]at *;obtain⟨hb,h⟩:=bif_f' h;simp only[hb,cond_true];rw[fzL2_eq]at *
       exact fzs_mono _ (fzs_keep _ h) fun vs s1 H1 ⟨h1,h2⟩=>⟨h1,h2.trans (Ext.new _ _)⟩
      ·exact h.elim
 ·split at h
  ·split at h
   ·split at h
    ·split at h
     ·cases hta:tagg C _ with
      | true=>rw[hta]at h;exact h.elim
      | false =>
       rw[hta]at h;obtain⟨y,h1,h2⟩:=h;exact⟨y,h1,h2,Ext.refl s⟩
     ·exact h.elim
    ·exact h.elim
   ·exact h.elim
  ·exact h.elim
 ·unfold subNil at *;split at h
  ·split at h
   ·split at h
    ·split at h
     ·obtain⟨hb,h0,h⟩:=bif_f' h;simp only[hb,cond_true];refine⟨h0,fun b hb'=>?_⟩;have h:=h b hb';split at h
      ·exact⟨h,Ext.refl s⟩
      ·exact⟨h,Ext.refl s⟩
      ·exact h.elim
     ·exact h.elim
    ·exact h.elim
   ·exact h.elim
  ·exact h.elim
 ·unfold mkMapE at *;split at h
  ·exact h.elim
  ·split at h
   ·exact⟨h.1,h.2,Ext.new s _⟩
   ·exact h.elim
 ·unfold lookE at *;split at h
  ·exact h.elim
  ·split at h
   ·split at h
    ·split at h
     ·split at h
      ·split at h
       ·obtain⟨n,g,kl,h1,h2,h3⟩:=h;exact⟨n,g,kl,h1,h2,h3,Ext.refl s⟩
       ·exact h.elim
      ·exact h.elim
     ·exact h.elim
    ·exact h.elim
   ·exact h.elim
 ·unfold updE at *;split at h
  ·split at h
   ·split at h
    ·split at h
     ·split at h
      ·split at h
       ·obtain⟨n,g,kl,h1,h2,h3,h4⟩:=h;exact⟨n,g,kl,h1,h2,h3,h4,Ext.box _ _ _⟩
       ·exact h.elim
      ·exact h.elim
     ·exact h.elim
    ·exact h.elim
   ·exact h.elim
  ·exact h.elim
 ·split at h
  ·exact h.elim
  ·split at h
   ·exact h.elim
   ·split at h
    ·exact h.elim
    ·split at h
     ·exact h.elim
     ·exact⟨h.1,h.2,Ext.new s _⟩
 ·split at h
  ·split at h
   ·exact⟨h.1,h.2,Ext.refl s⟩
   ·exact h.elim
  ·split at h
   ·split at h
    ·exact⟨h,Ext.refl s⟩
    ·exact h.elim
   ·exact h.elim
  ·split at h
   ·split at h
    ·obtain⟨n,hn,h⟩:=h;exact⟨n,hn,h,Ext.refl s⟩
    ·exact h.elim
   ·exact h.elim
  ·exact h.elim
 ·split at h
  ·split at h
   ·exact⟨h,Ext.refl s⟩
   ·exact h.elim
  ·exact h.elim
 ·split at h
  ·split at h
   ·-- copy
    split at h
    ·split at h
     ·split at h
      ·exact h.elim
      ·split at h
       ·exact h.elim
       ·split at h
        ·exact h.elim
        ·split at h
         ·exact h.elim
         ·obtain⟨hb,h⟩:=bif_f' h;simp only[hb,cond_true]
          refine rowOf_mono h fun ys h=>viewK_mono h fun k e sz xs lo n h=>?_
          obtain⟨hb,h⟩:=bif_f' h;simp only[hb,cond_true];exact⟨h.1,h.2,Ext.box _ _ _⟩
     ·exact h.elim
    ·exact h.elim
   ·-- append
    split at h
    ·split at h
     ·split at h
      ·exact h.elim
      ·split at h
       ·exact h.elim
       split at h
       ·obtain⟨hb,h⟩:=bif_f' h;simp only[hb,cond_true];unfold appF at *;split at h
        ·exact h.elim
        ·split at h
         ·exact h.elim
         ·split at h
          ·exact h.elim
          ·obtain⟨hb,h⟩:=bif_f' h;simp only[hb,cond_true]
           refine rowOf_mono h fun ys h=>?_
           obtain⟨k,F,A,D,xs,h1,h2,h3,h4⟩:=h;exact⟨k,F,A,D,xs,h1,h2,h3,fun a c=>⟨h4 a c,Ext.box _ _ _⟩⟩
       ·split at h
        ·obtain⟨hb,h⟩:=bif_f' h;simp only[hb,cond_true];split at h
         ·exact h.elim
         ·refine rowOf_mono h fun ys h=>?_
          split at h
          ·obtain⟨hb,h⟩:=bif_f' h;simp only[hb,cond_true];exact⟨h.1,h.2,Ext.box _ _ _⟩
          ·exact h.elim
        ·split at h
         ·split at h
          ·split at h
           ·split at h
            ·obtain⟨hb,h⟩:=bif_f' h;simp only[hb,cond_true];exact⟨h.1,h.2.1,h.2.2,(Ext.box _ _ _).trans (Ext.new _ _)⟩
            ·exact h.elim
           ·exact h.elim
          ·exact h.elim
         ·exact h.elim
        ·split at h
         ·split at h
          ·split at h
           ·obtain⟨hb,h⟩:=bif_f' h;simp only[hb,cond_true];exact⟨h.1,h.2.1,h.2.2,Ext.new _ _⟩
           ·exact h.elim
          ·exact h.elim
         ·exact h.elim
        ·exact h.elim
     ·exact h.elim
    ·exact h.elim
   ·-- clear
    split at h
    ·split at h
     ·split at h
      ·exact h.elim
      ·split at h
       ·exact h.elim
       ·split at h
        ·exact h.elim
        ·refine viewK_mono h fun k e sz xs lo n h=>?_
         obtain⟨hb,h⟩:=bif_f' h;simp only[hb,cond_true];exact⟨h.1,h.2,Ext.box _ _ _⟩
     ·exact h.elim
    ·exact h.elim
   ·split at h
    ·split at h
     ·exact⟨h,Ext.refl s⟩
     ·exact h.elim
    ·exact h.elim
   ·split at h
    ·split at h
     ·exact⟨h,Ext.refl s⟩
     ·exact h.elim
    ·exact h.elim
   ·split at h
    ·split at h
     ·split at h
      ·exact⟨h.1,h.2,Ext.refl s⟩
      ·exact h.elim
     ·exact h.elim
    ·exact h.elim
   ·-- cap
    split at h
    ·split at h
     ·split at h
      ·exact h.elim
      ·split at h
       ·split at h
        ·exact fun m h1 h2=>⟨h m h1 h2,Ext.refl s⟩
        ·exact h.elim
       ·exact⟨h,Ext.refl s⟩
       ·exact h.elim
     ·exact h.elim
    ·exact h.elim
   ·-- unsafeSliceData
    split at h
    ·split at h
     ·split at h
      ·split at h
       ·exact⟨fun h1=>⟨h.1 h1,Ext.refl s⟩,fun h1 p=>⟨h.2 h1 p,Ext.refl s⟩⟩
       ·exact h.elim
      ·exact⟨h,Ext.refl s⟩
      ·exact h.elim
     ·exact h.elim
    ·exact h.elim
   ·-- unsafeString
    split at h
    ·split at h
     ·split at h
      ·split at h
       ·exact⟨h.1,h.2,Ext.refl s⟩
       ·split at h
        ·obtain⟨hb,h⟩:=bif_f' h;simp only[hb,cond_true];obtain⟨h1,h2,b,h3,h4,h5,h6⟩:=h;exact⟨h1,h2,b,h3,h4,h5,h6,Ext.box _ _ _⟩
        ·exact h.elim
       ·exact h.elim
      ·exact h.elim
     ·exact h.elim
    ·exact h.elim
   ·exact h.elim
  ·exact h.elim
 ·exact h.elim
theorem eff_keep {op:Op} {T:TypeId} {K:KK} (he:eff op=true) (h:opG (opX False C s op T H K) C s op T H K) (fb:Prop):opG (opX fb C s op T H fun x s' H'=>K x s' H'∧Ext s s') C s op T H fun x s' H'=>K x s' H'∧Ext s s':=by
 have hx:∀fb',opX False C s op T H K→opX fb' C s op T H fun x s' H'=>K x s' H'∧Ext s s':=fun fb' h=>opX_keep fb' h
 cases op with
 | makeSlice T' l c =>
  simp only[opG]at *;exact hx fb h
 | box T' x =>
  simp only[opG]at *;split at h
  ·exact⟨h,Ext.new s _⟩
  ·exact h.elim
 | alloc T' =>
  simp only[opG]at *;split at h
  ·exact⟨h,Ext.new s _⟩
  ·exact h.elim
 | buildSlice T' n ps =>
  simp only[opG,buildSliceE]at *;split at h
  ·exact h.elim
  ·split at h
   ·exact h.elim
   ·split at h
    ·exact h.elim
    ·split at h
     ·exact h.elim
     ·obtain⟨hb,h⟩:=bif_f' h;simp only[hb,cond_true];split at h
      ·split at h
       ·exact⟨h,Ext.new s _⟩
       ·exact hx fb h
      ·exact h.elim
 | store T' x y =>
  simp only[opG]at *;split at h
  ·exact h.elim
  ·split at h
   ·exact h.elim
   ·obtain⟨hb,h⟩:=bif_f' h;obtain⟨hb2,h⟩:=bif_f' h;simp only[hb,hb2,cond_true];split at h
    ·split at h
     ·obtain⟨hb3,h⟩:=bif_f' h;simp only[hb3,cond_true];exact⟨h,Ext.box _ _ _⟩
     ·exact h.elim
    ·split at h
     ·obtain⟨hb3,cs,hc,h⟩:=bif_f' h;simp only[hb3,cond_true];split at h
      ·exact⟨cs,hc,h,Ext.box _ _ _⟩
      ·exact h.elim
     ·exact h.elim
    ·cases hf:famAlive s.bx with
     | true =>
      simp only[hf,cond_true]at h ⊢;unfold famSt at *;split at h
      ·obtain⟨k,e,F,A,D,n1,c1,xs,cs,h1,h2,h3,h4,h⟩:=h;exact⟨k,e,F,A,D,n1,c1,xs,cs,h1,h2,h3,h4,h,Ext.box _ _ _⟩
      ·exact h.elim
     | false =>
      simp only[hf,cond_false]at h ⊢;exact hx fb h
    ·exact hx fb h
 | call c =>
  obtain⟨callee,args,ats⟩:=c
  cases callee with
  | builtin b =>
   cases b with
   | append =>
    simp only[opG]at *;split at h
    ·split at h
     ·rename_i t t' _
      cases hb:Nat.beq t t' with
      | false =>
       rw[hb]at h;simp only[cond_false]at h ⊢;exact hx fb h
      | true =>
      rw[hb]at h;simp only[cond_true]at h ⊢;split at h
      ·exact hx fb h
      split at h
      ·exact hx fb h
      ·split at h
       ·unfold appendE at *;split at h
        ·exact h.elim
        ·split at h
         ·exact h.elim
         ·split at h
          ·exact h.elim
          ·obtain⟨hb,h⟩:=bif_f' h;simp only[hb,cond_true]
           refine rowOf_mono h fun ys h=>?_
           split at h
           ·split at h
            ·rename_i hk;obtain⟨hb,h0,h⟩:=bif_f' h;simp only[hb,cond_true];exact⟨h0,h,(Ext.box _ _ _).trans (Ext.new _ _)⟩
            ·exact h.elim
           ·exact⟨h.1,h.2,Ext.new s _⟩
           ·obtain⟨xs,h0,h⟩:=h;exact⟨xs,h0,h,Ext.new s _⟩
           ·exact h.elim
       ·exact h.elim
      ·exact h.elim
     ·exact h.elim
    ·exact h.elim
   | copy=>simp only[opG]at *;exact hx fb h
   | clear=>simp only[opG]at *;exact hx fb h
   | cap=>simp only[opG]at *;exact hx fb h
   | unsafeSliceData=>simp only[opG]at *;exact hx fb h
   | unsafeString=>simp only[opG]at *;exact hx fb h
   | _=>cases he
  | value g =>
   simp only[opG]at *;split at h
   ·split at h
    ·rename_i f cap hg _ vs hvs
     cases hxf:hasN f C.xf with
     | true =>
      rw[hxf]at h;intro B ρ w hm hl;obtain⟨x,bx',nx',H',ρ',w',e1,hk,hl,hm,hs,hnx,hpre,hle⟩:=h B ρ w hm hl;exact⟨x,bx',nx',H',ρ',w',e1,⟨hk,hnx,hpre⟩,hl,hm,hs,hnx,hpre,hle⟩
     | false =>
     rw[hxf]at h;simp only[cond_false]at h ⊢
     cases hgf:hasN f C.gf with
     | true =>
      rw[hgf]at h;exact callG_keep h
     | false =>
      rw[hgf]at h;simp only[cond_false]at h ⊢;unfold callE at *;simp only[fzL2_eq]at *
      refine fzs_mono _ (fzs_keep _ h) fun vs s1 H1 ⟨h1,h2⟩=>?_
      cases hf:hfree C 6 T with
      | true =>
       rw[hf]at h1
       exact Does.mono h1 fun v H' hv=>⟨hv,Ext.refl s⟩
      | false =>
       rw[hf]at h1
       exact Does.mono h1 fun v H' hv=>⟨hv,h2⟩
    ·exact h.elim
   ·exact h.elim
  | invoke r m=>cases he
 | _=>cases he
def Post (C:Cx) (B:Bs) (H0:Hp) (Q:Ex→St→Hp→Prop):Exit→Act→World→Prop:=fun e a w=>∃e0 s H ρ,e=Ex.of e0∧Q e0 s H∧Rel C B ρ s H a w∧Le H0 H
end
end Go.Sy
end
section
/- A region whose order is open: every order comes to the same. -/
namespace Go.Sy
open Go.RowKit (Below)
section
variable {C:Cx} {hs:List Nat} {B:Bs} {ops:Array Oper}
structure Agr (ops:Array Oper) (a0:Act) (val:Nat→Value) (S:Nat→Prop) (a:Act):Prop where
 size:a.tmps.size=a0.tmps.size
 hit:∀i o d,S i→ops[i]?=some o→o.dst=some d→d<a0.tmps.size→a.tmps[d]?=some (val i)
 miss:∀t,(∀i o,S i→ops[i]?=some o→o.dst≠some t)→a.tmps[t]?=a0.tmps[t]?
theorem Agr.put {a0 a:Act} {val:Nat→Value} {S:Nat→Prop} {i:Nat} {o:Oper} {v:Value} (h:Agr ops a0 val S a) (hi:¬S i) (ho:ops[i]?=some o)
  (hd:∀j o',S j→ops[j]?=some o'→∀d,o.dst=some d→o'.dst≠some d) (hv:val i=v):Agr ops a0 val (fun j=>S j∨j=i) (a.put o.dst v):=by
 cases hdst:o.dst with
 | none =>
  refine⟨h.size,fun j o' d hj ho' hd' hlt=>?_,fun t ht=>h.miss t fun j o' hj ho'=>ht j o' (.inl hj) ho'⟩
  rcases hj with hj | rfl
  ·exact h.hit j o' d hj ho' hd' hlt
  ·rw[ho]at ho';simp only[Option.some.injEq]at ho';subst ho';rw[hdst]at hd';cases hd'
 | some t0 =>
  refine⟨by simp [Act.put,h.size],fun j o' d hj ho' hd' hlt=>?_,fun t ht=>?_⟩
  ·rcases hj with hj | rfl
   ·have hne:t0≠d:=fun e=>by subst e;exact hd j o' hj ho' _ hdst hd'
    simp only[Act.put];rw[Array.getElem?_setIfInBounds_ne hne];exact h.hit j o' d hj ho' hd' hlt
   ·rw[ho]at ho';simp only[Option.some.injEq]at ho';subst ho'
    rw[hdst]at hd';simp only[Option.some.injEq]at hd';subst hd'
    simp only[Act.put];rw[Array.getElem?_setIfInBounds_self_of_lt (by rw[h.size];exact hlt),hv]
  ·have hne:t0≠t:=fun e=>by subst e;exact ht i o (.inr rfl) ho hdst
   simp only[Act.put];rw[Array.getElem?_setIfInBounds_ne hne]
   exact h.miss t fun j o' hj ho'=>ht j o' (.inl hj) ho'
theorem Agr.congr {a0 a:Act} {val val':Nat→Value} {S S':Nat→Prop} (h:Agr ops a0 val S a) (hs:∀i,S i↔S' i) (hv:∀i,S i→val i=val' i):Agr ops a0 val' S' a :=
 ⟨h.size,fun i o d hi ho hd hlt=>by rw[←hv i ((hs i).2 hi)];exact h.hit i o d ((hs i).2 hi) ho hd hlt,fun t ht=>h.miss t fun i o hi ho=>ht i o ((hs i).1 hi) ho⟩
theorem Agr.at {a0 a c:Act} {val:Nat→Value} {S M:Nat→Prop} (h:Agr ops a0 val S a) (hc:Agr ops a0 val M c) {t:Nat} (ht:∀d o,ops[d]?=some o→o.dst=some t→(S d↔M d)):a.tmps[t]?=c.tmps[t]?:=by
 by_cases hex:∃d o,ops[d]?=some o∧o.dst=some t∧S d
 ·obtain⟨d,o,ho,hd,hs⟩:=hex
  by_cases hlt:t<a0.tmps.size
  ·rw[h.hit d o t hs ho hd hlt,hc.hit d o t ((ht d o ho hd).1 hs) ho hd hlt]
  ·rw[Array.getElem?_eq_none (by rw[h.size];omega),Array.getElem?_eq_none (by rw[hc.size];omega)]
 ·rw[h.miss t fun i o hi ho hd=>hex ⟨i,o,ho,hd,hi⟩,hc.miss t fun i o hi ho hd=>hex ⟨i,o,ho,hd,(ht i o ho hd).2 hi⟩]
theorem look_exec {o:Oper} {a c:Act} (hs:∀cs b,o.op≠.select cs b) (h:∀t∈o.looksAt ops,a.tmps[t]?=c.tmps[t]?):
  execOp a.eval o=execOp c.eval o∧Region.wanted o (yielded ops a.tmps)=Region.wanted o (yielded ops c.tmps):=by
 constructor
 ·refine execOp_congr o hs fun x hx=>?_
  cases x with
  | tmp t =>
   have:=h t (List.mem_append_left _ (List.mem_filterMap.2 ⟨.tmp t,by simpa using hx,rfl⟩));simp only[Act.eval,Array.getD_eq_getD_getElem?,this]
  | _=>rfl
 ·unfold Region.wanted
  cases hg:o.guard with
  | none=>rfl
  | some gw =>
   obtain⟨g,want⟩:=gw
   have hy:yielded ops a.tmps g=yielded ops c.tmps g:=by
    unfold yielded
    cases ht:(ops[g]?).bind (·.dst) with
    | none=>rfl
    | some t =>
     have:=h t (List.mem_append_right _ (by simp [hg,ht]));simp only[Option.bind_some,this]
   simp only[hy]
theorem hides_some {hs:List Nat}:∀ {bx:List (Nat×Bx)} {k:Nat} {b:Bx},lk (hides hs bx) k=some b→(hasN k hs=false∧lk bx k=some b)∨(b = .dead∧∃b',lk bx k=some b')
 | (j,b1)::r,k,b,h=>by
  rw[hides]at h;rw[lk_cons]
  cases hj:hasN j hs with
  | true =>
   rw[hj,cond_true,lk_cons]at h;split at h
   ·rename_i e;rw[if_pos e];exact .inr ⟨(Option.some.inj h).symm,b1,rfl⟩
   ·rename_i e;rw[if_neg e];exact hides_some h
  | false =>
   rw[hj,cond_false,lk_cons]at h;split at h
   ·rename_i e;subst e;rw[if_pos rfl];exact .inl ⟨hj,h⟩
   ·rename_i e;rw[if_neg e];exact hides_some h
theorem hide_some {hs:List Nat} {s:St} {k:Nat} {b:Bx} (h:lk (s.hide hs).bx k=some b):(hasN k hs=false∧lk s.bx k=some b)∨(b = .dead∧∃b',lk s.bx k=some b'):=by
 cases hs with
 | nil=>exact .inl ⟨rfl,h⟩
 | cons a r=>exact hides_some h
theorem Mem.elder {hs:List Nat} {ρ:Rho} {s s1:St} {H H1:Hp} {w:World} (hm:Mem B ρ s.bx s.nx H w) (hk:Keep hs s1 s) (hb:B.base≤s1.nx) (hle:Le H1 H) (hle0:Le B.H H1)
  (hlt:∀k b,lk s1.bx k=some b→k<s1.nx∧b.lt s1.nx=true):Mem B ρ (s1.hide hs).bx s1.nx H1 w where
 os:=hm.os
 tape:=hm.tape
 output:=hm.output
 size:=hm.size
 frame:=hm.frame
 base:=hb
 agree:=hm.agree
 hp:=fun b o h=>hm.hp b o (hle b o h)
 hle:=hle0
 hnew:=fun b h1 h2 h3=>by
  cases h4:H1 b with
  | none=>rfl
  | some o=>have:=hle b o h4;rw[hm.hnew b h1 h2 h3]at this;cases this
 ok:=fun k b h=>by
  rcases hide_some h with ⟨hv,h1⟩ | ⟨rfl,b',h1⟩
  ·obtain⟨h2,h3⟩:=hlt k _ h1;exact⟨h2,(hm.ok k _ ((hk.2 k h2 hv).trans h1)).2.1,h3⟩
  ·exact⟨(hlt k b' h1).1,trivial,rfl⟩
 own:=fun k b g h ho=>by
  rcases hide_some h with ⟨hv,h1⟩ | ⟨rfl,b',h1⟩
  ·have h2:=hm.own k _ g ((hk.2 k (hlt k _ h1).1 hv).trans h1) ho;refine⟨?_,h2.2⟩
   cases h4:H1 g with
   | none=>rfl
   | some o=>have:=hle g o h4;rw[h2.1]at this;cases this
  ·exact ho.elim
 disj:=fun k k' b b' g h h' ho ho'=>by
  rcases hide_some h with ⟨hv,h1⟩ | ⟨rfl,b1,h1⟩
  ·rcases hide_some h' with ⟨hv',h1'⟩ | ⟨rfl,b1',h1'⟩
   ·exact hm.disj k k' _ _ g ((hk.2 k (hlt k _ h1).1 hv).trans h1) ((hk.2 k' (hlt k' _ h1').1 hv').trans h1') ho ho'
   ·exact ho'.elim
  ·exact ho.elim
def Settled (C:Cx) (hs:List Nat) (B:Bs) (ops:Array Oper) (a0:Act) (pre:List Nat) (val:Nat→Value) (s:St) (H:Hp) (ρ:Rho) (j:Nat):Prop :=
 ∃o A Z c,ops[j]?=some o∧pre=A++j::Z∧Agr ops a0 val (·∈A) c∧Dfs C.rg B H c.defers ∧
  ((Region.wanted o (yielded ops c.tmps)=true∧∃(s1:St) (H1:Hp) (x:SV),(∀t y,lk s1.env t=some y→c.tmps[t]?=some (ga ρ y)∧y.lt s1.nx=true)∧Keep hs s1 s∧B.base≤s1.nx∧Le H1 H∧Le B.H H1 ∧
    (∀k b,lk s1.bx k=some b→k<s1.nx∧b.lt s1.nx=true)∧x.lt s1.nx=true∧val j=ga ρ x ∧
    ∀B ρ (o':Oper) a w,o'.op=o.op→o'.type=o.type→Rel C B ρ (s1.hide hs) H1 a w→(execOp a.eval o').run C.P w = .ok (.value (ga ρ x)) w) ∨
  (Region.wanted o (yielded ops c.tmps)=false∧val j=undef))
theorem Settled.later {a0:Act} {pre Z':List Nat} {val val':Nat→Value} {s s':St} {H H':Hp} {ρ ρ':Rho} {j:Nat} (h:Settled C hs B ops a0 pre val s H ρ j) (hv:∀i∈pre,val' i=val i) (hk:Keep hs s s') (hle:Le H H') (hsm:Same s.nx ρ ρ'):
  Settled C hs B ops a0 (pre++Z') val' s' H' ρ' j:=by
 obtain⟨o,A,Z,c,h1,h2,h3,h4,h5⟩:=h;subst h2;refine⟨o,A,Z++Z',c,h1,by simp,h3.congr (fun _=>Iff.rfl) (fun i hi=>(hv i (List.mem_append_left _ hi)).symm),h4.up hle,?_⟩;have hj:val' j=val j:=hv j (by simp)
 rcases h5 with ⟨h5,s1,H1,x,k1,k2,k3,k4,k5,k6,k7,k8,k9⟩ | ⟨h5,h6⟩
 ·have hs1:Same s1.nx ρ ρ':=fun k hk'=>hsm k (Nat.lt_of_lt_of_le hk' k2.1)
  refine .inl ⟨h5,s1,H1,x,fun t y hy=>?_,k2.trans hk,k3,k4.trans hle,k5,k6,k7,by rw[hj,k8,ga_same hs1 x k7],k9⟩;rw[ga_same hs1 y (k1 t y hy).2];exact k1 t y hy
 ·exact .inr ⟨h5,by rw[hj,h6]⟩
theorem reput2 {ρ:Rho} {s:St} {H:Hp} {a:Act} {w:World} (hr:Rel C B ρ s H a w) {d:Nat} {x y:SV} (hx:lk s.env d=some x) (hy:ga ρ y=ga ρ x) (hl:y.lt s.nx=true):Rel C B ρ (s.put C.n (some d) y) H a w:=by
 simp only[St.put]
 cases Nat.ble (d+1) C.n with
 | false=>exact hr
 | true =>
  refine⟨fun u z hu=>?_,hr.sz,hr.defers,hr.mem⟩;simp only[cond_true,lk_cons]at hu;split at hu
  ·rename_i e;subst e;simp only[Option.some.injEq]at hu;subst hu;rw[hy];exact⟨(hr.env _ _ hx).1,hl⟩
  ·exact hr.env u z hu
theorem putK_iff2 {s:St} {n:Nat} {d:Option Tmp} {x:SV} {K:St→Prop}:s.putK n d x K↔K (s.put n d x):=by
 cases s with
 | mk env bx nx =>
  cases d with
  | none=>simp only[St.putK,St.put,forceB_eq,forceE_eq,forceN_eq]
  | some t=>simp only[St.putK,St.put,forceB_eq,forceV_eq,forceE_eq,forceN_eq];cases Nat.ble (t+1) n<;>rfl
theorem put_nx2 (n:Nat) (s:St) (d:Option Tmp) (x:SV):(s.put n d x).nx=s.nx∧(s.put n d x).bx=s.bx:=by
 cases d with
 | none=>exact⟨rfl,rfl⟩
 | some t=>simp only[St.put];cases Nat.ble (t+1) n<;>exact⟨rfl,rfl⟩
theorem Keep.mono {hs:List Nat} {s s':St} (h:Keep [] s s'):Keep hs s s':=⟨h.1,fun k hk _=>h.2 k hk rfl⟩
theorem Keep.put (n:Nat) (s:St) (d:Option Tmp) (x:SV):Keep hs s (s.put n d x):=by
 obtain⟨h1,h2⟩:=put_nx2 n s d x;exact⟨by rw[h1];exact Nat.le_refl _,fun k _ _=>by rw[h2]⟩
theorem head_step {ρ:Rho} {s:St} {H:Hp} {b:Act} {w:World} {Q:St→Hp→Prop} {i:Nat} {r:List Nat} (h:runD C hs ops.toList Q (i::r) s H) (hr:Rel C B ρ s H b w):
  ∃o s1,ops[i]?=some o∧Rel C B ρ s1 H b w∧(∀hs',Keep hs' s s1) ∧
   ((Region.wanted o (yielded ops b.tmps)=true∧stepD C hs (hidesR hs ops.toList i r) s1 o H fun s' H'=>runD C hs ops.toList Q r s' H')∨(Region.wanted o (yielded ops b.tmps)=false∧runD C hs ops.toList Q r (s1.put C.n o.dst unit) H)):=by
 rw[runD]at h;split at h
 ·exact h.elim
 ·rename_i o ho;rw[Array.getElem?_toList]at ho;refine⟨o,?_⟩;split at h
  ·rename_i hg;exact⟨s,ho,hr,fun _=>Keep.refl s,.inl ⟨by simp [Region.wanted,hg],h⟩⟩
  ·rename_i j want hg;split at h
   ·exact h.elim
   ·rename_i d hd;simp only[putK_iff2]at h
    have hd':(ops[j]?).bind (·.dst)=some d:=by
     unfold dstOf at hd;split at hd
     ·rename_i o' ho';rw[Array.getElem?_toList]at ho'
      rw[ho'];exact hd
     ·cases hd
    have hw:∀x,lk s.env d=some x→Region.wanted o (yielded ops b.tmps)=(((match ga ρ x with | .bool b=>some b | _=>none):Option Bool) == some want):=fun x hx=>by
     simp only[Region.wanted,hg,yielded,hd',Option.bind_some,(hr.env _ _ hx).1]
     cases ga ρ x<;>rfl
    split at h
    ·rename_i v hx
     cases hbw:(v == want) with
     | true =>
      rw[hbw]at h;exact⟨s,ho,hr,fun _=>Keep.refl s,.inl ⟨by rw[hw _ hx,ga];simpa using hbw,h⟩⟩
     | false =>
      rw[hbw]at h;exact⟨s,ho,hr,fun _=>Keep.refl s,.inr ⟨by rw[hw _ hx,ga];simpa using hbw,h⟩⟩
    ·rename_i v hx;obtain⟨h1,h2⟩:=h
     by_cases hbw:v=want
     ·exact⟨_,ho,reput2 hr hx (y:=.kb want) (by rw[ga,ga,hbw]) (by rw[SV.lt]),fun _=>Keep.put _ _ _ _,.inl ⟨by rw[hw _ hx,ga];simp [hbw],h1 hbw⟩⟩
     ·have hb2:v=!want:=by cases v<;>cases want<;>simp_all
      exact⟨_,ho,reput2 hr hx (y:=.kb !want) (by rw[ga,ga,hb2]) (by rw[SV.lt]),fun _=>Keep.put _ _ _ _,.inr ⟨by rw[hw _ hx,ga];simp [hbw],h2 hb2⟩⟩
    ·rename_i vs hx;exact⟨s,ho,hr,fun _=>Keep.refl s,.inr ⟨by rw[hw _ hx,ga];simp,h⟩⟩
    ·exact h.elim
structure Far (C:Cx) (hs:List Nat) (B:Bs) (ops:Array Oper) (ord:List Nat) (a0:Act) (listed:Nat→Prop) (w:World) (pre rem:List Nat) (val:Nat→Value) (s:St) (H:Hp) (ρ:Rho) (b:Act):Prop where
 ord:ord=pre++rem
 rel:Rel C B ρ s H b w
 agr:Agr ops a0 val (·∈pre) b
 sub:∀i,listed i→i∈pre
 todo:∀j∈pre,¬listed j→∃r,(∀e∈rem,e∈r)∧Settled C (hidesR hs ops.toList j r) B ops a0 pre val s H ρ j
def Front (C:Cx) (hs:List Nat) (ops:Array Oper) (Q:St→Hp→Prop) (rem:List Nat) (s:St) (H:Hp) (b:Act):Prop :=
 (rem=[]∧Q s H)∨∃e o r,rem=e::r∧ops[e]?=some o∧pur o.op=false∧eff o.op=true∧Region.wanted o (yielded ops b.tmps)=true ∧
  opG (opX False C s o.op o.type H fun x s' H'=>bif keepB (hsE hs o.op) s s' then s'.putK C.n o.dst x fun s''=>runD C hs ops.toList Q r s'' H' else False) C s o.op o.type H fun x s' H'=>bif keepB (hsE hs o.op) s s' then s'.putK C.n o.dst x fun s''=>runD C hs ops.toList Q r s'' H' else False
structure OrdOK (ops:Array Oper) (ord:List Nat):Prop where
 all:∀i,i<ops.size→i∈ord
 lt:∀i∈ord,i<ops.size
 pairs:ord.Pairwise fun p q=>pairOK ops p q=true
 self:∀i∈ord,selfOK ops i=true
theorem ordOK_of {ord:List Nat} (h:drawOK ops ord=true):OrdOK ops ord:=by
 simp only[drawOK,Bool.and_eq_true,List.all_eq_true,List.mem_range,List.contains_iff_mem]at h;obtain⟨⟨⟨h1,h2⟩,h3⟩,h4⟩:=h;refine⟨h1,fun i hi=>by have:=h2 i hi;simpa [Nat.blt_eq] using this,?_,h4⟩;clear h1 h2 h4
 induction ord with
 | nil=>exact List.Pairwise.nil
 | cons p r ih =>
  simp only[pairsOK,Bool.and_eq_true,List.all_eq_true]at h3;exact List.Pairwise.cons h3.1 (ih h3.2)
theorem pair_dst {p q:Nat} {x y:Oper} (h:pairOK ops p q=true) (hx:ops[p]?=some x) (hy:ops[q]?=some y):p≠q∧(∀d,x.dst=some d→y.dst≠some d)∧depB ops ops.size p q=false∧(depB ops ops.size q p=true∨(pur x.op=true∧x.apart ops y=true)):=by
 simp only[pairOK,hx,hy,Bool.and_eq_true,bne_iff_ne,Bool.not_eq_true',Bool.or_eq_true]at h;obtain⟨⟨⟨h1,h2⟩,h3⟩,h4⟩:=h;refine⟨h1,fun d hd=>?_,h2,h3⟩;rw[hd]at h4
 simpa using h4
theorem adv (ht:TOK C) {Q:St→Hp→Prop} {ord:List Nat} (hok:OrdOK ops ord) {a0:Act} {listed:Nat→Prop} {w:World}:∀(rem pre:List Nat) (val:Nat→Value) (s:St) (H:Hp) (ρ:Rho) (b:Act),
  Far C hs B ops ord a0 listed w pre rem val s H ρ b→runD C hs ops.toList Q rem s H→Le B.H H →
  ∃pre' rem' val' s' b',Far C hs B ops ord a0 listed w pre' rem' val' s' H ρ b'∧Front C hs ops Q rem' s' H b'∧∀i∈pre,val' i=val i
 | [],pre,val,s,H,ρ,b,hf,hrun,_=>⟨pre,[],val,s,b,hf,.inl ⟨rfl,hrun⟩,fun _ _=>rfl⟩
 | i::r,pre,val,s,H,ρ,b,hf,hrun,hB=>by
  obtain⟨o,s1,ho,hr1,hk1,hcase⟩:=head_step hrun hf.rel;have hpw:=hok.pairs;rw[hf.ord]at hpw
  have hpi:∀p∈pre,pairOK ops p i=true:=fun p hp=>(List.pairwise_append.1 hpw).2.2 p hp i List.mem_cons_self
  have hni:i ∉ pre:=fun hi=>(pair_dst (hpi i hi) ho ho).1 rfl
  have next:∀(v:Value) (s2:St),Rel C B ρ s2 H (b.put o.dst v) w→(∀hs',Keep hs' s1 s2)→runD C hs ops.toList Q r s2 H →
    (∀val',val' i=v→(∀j∈pre,val' j=val j)→Settled C (hidesR hs ops.toList i r) B ops a0 (pre++[i]) val' s2 H ρ i) →
    ∃pre' rem' val' s' b',Far C hs B ops ord a0 listed w pre' rem' val' s' H ρ b'∧Front C hs ops Q rem' s' H b'∧∀j∈pre,val' j=val j:=fun v s2 hr2 hk2 hrun hset=>by
   let val2:Nat→Value:=fun j=>if j=i then v else val j
   have hv:∀j∈pre,val2 j=val j:=fun j hj=>if_neg fun (e:j=i)=>hni (e▸hj)
   have hvi:val2 i=v:=if_pos rfl
   have hf2:Far C hs B ops ord a0 listed w (pre++[i]) r val2 s2 H ρ (b.put o.dst v) :=
    {ord:=by rw[hf.ord];simp
     rel:=hr2
     agr:=((hf.agr.congr (val':=val2) (fun _=>Iff.rfl) (fun j hj=>(hv j hj).symm)).put hni ho (fun j o' hj ho' d hd hd'=>(pair_dst (hpi j hj) ho' ho).2.1 d hd' hd) hvi).congr (fun j=>by simp) (fun _ _=>rfl)
     sub:=fun j hj=>List.mem_append_left _ (hf.sub j hj)
     todo:=fun j hj hnl=>by
      rcases List.mem_append.1 hj with hj | hj
      ·obtain⟨r',hr',hS⟩:=hf.todo j hj hnl;exact⟨r',fun e he=>hr' e (List.mem_cons_of_mem _ he),hS.later hv ((hk1 _).trans (hk2 _)) (Le.refl H) (Same.refl _ _)⟩
      ·simp only[List.mem_singleton]at hj;subst hj
       exact⟨r,fun e he=>he,hset val2 hvi hv⟩ }
   obtain⟨pre',rem',val',s',b',h1,h2,h3⟩:=adv ht hok r _ _ _ _ _ _ hf2 hrun hB;exact⟨pre',rem',val',s',b',h1,h2,fun j hj=>(h3 j (List.mem_append_left _ hj)).trans (hv j hj)⟩
  rcases hcase with ⟨hw,hstep⟩ | ⟨hw,hrun⟩
  ·unfold stepD at hstep
   cases hp:pur o.op with
   | true =>
    rw[hp]at hstep;simp only[cond_true,putK_iff2]at hstep;obtain⟨x,hx1,hx2⟩:=pur_ex hp hstep
    have hrh:Rel C B ρ (s1.hide (hidesR hs ops.toList i r)) H b w:=⟨hr1.env,hr1.sz,hr1.defers,hr1.mem.elder (Keep.refl _) hr1.mem.base (Le.refl H) hB (fun k b hk=>⟨(hr1.mem.ok k b hk).1,(hr1.mem.ok k b hk).2.2⟩)⟩
    have hF:∀B ρ (o':Oper) a w,o'.op=o.op→o'.type=o.type→Rel C B ρ (s1.hide (hidesR hs ops.toList i r)) H a w→(execOp a.eval o').run C.P w = .ok (.value (ga ρ x)) w∧x.lt s1.nx=true:=fun B ρ o' a w e1 e2 hr=>by
     obtain⟨x',h1,h2,h3⟩:=pur_run ht hp (hx2 (fun x' s' H'=>x'=x) rfl) B ρ o' a w e1 e2 hr;subst h2;exact⟨h1,h3⟩
    have hxlt:=(hF B ρ o b w rfl rfl hrh).2
    refine next (ga ρ x) _ (hr1.put o.dst hxlt) (fun _=>Keep.put _ _ _ _) hx1 fun val' hvi hv=>⟨o,pre,[],b,ho,rfl,hf.agr.congr (fun _=>Iff.rfl) (fun j hj=>(hv j hj).symm),hr1.defers,.inl ⟨hw,s1,H,x,hr1.env,Keep.put _ _ _ _,hr1.mem.base,Le.refl H,hB,fun k b hk=>⟨(hr1.mem.ok k b hk).1,(hr1.mem.ok k b hk).2.2⟩,hxlt,hvi,fun B ρ o' a w e1 e2 hr=>(hF B ρ o' a w e1 e2 hr).1⟩⟩
   | false =>
    rw[hp]at hstep;simp only[cond_false]at hstep;obtain⟨he,hstep⟩:=bif_f hstep
    refine⟨pre,i::r,val,s1,b,⟨hf.ord,hr1,hf.agr,hf.sub,fun j hj hnl=>by
     obtain⟨r',hr',hS⟩:=hf.todo j hj hnl;have:=hS.later (Z':=[]) (fun _ _=>rfl) (hk1 _) (Le.refl H) (Same.refl _ _);rw[List.append_nil]at this
     exact⟨r',hr',this⟩⟩,.inr ⟨i,o,r,rfl,ho,hp,he,hw,hstep⟩,fun _ _=>rfl⟩
  ·exact next undef _ (by have:=hr1.put o.dst (x:=unit) (by rw[unit,SV.lt]);rwa[unit,ga]at this) (fun _=>Keep.put _ _ _ _) hrun fun val' hvi hv=>⟨o,pre,[],b,ho,rfl,hf.agr.congr (fun _=>Iff.rfl) (fun j hj=>(hv j hj).symm),hr1.defers,.inr ⟨hw,hvi⟩⟩
def Done (listed:Array Bool) (i:Nat):Prop:=listed[i]?=some true
def Closed (ops:Array Oper) (listed:Array Bool):Prop:=∀i o,Done listed i→ops[i]?=some o→∀e∈o.after,Region.binds .any e=true→Done listed e.on
theorem dep_done {listed:Array Bool} (hc:Closed ops listed):∀(n i j:Nat) (o:Oper),ops[i]?=some o→(∀e∈o.after,Region.binds .any e=true→Done listed e.on)→depB ops n i j=true→Done listed j
 | 0,i,j,o,_,_,h=>by simp [depB]at h
 | n+1,i,j,o,ho,he,h=>by
  simp only[depB,ho,List.any_eq_true,Bool.and_eq_true,Bool.or_eq_true,beq_iff_eq]at h;obtain⟨e,he1,he2,he3⟩:=h;have hd:=he e (by simpa using he1) he2
  rcases he3 with rfl | h
  ·exact hd
  ·cases ho':ops[e.on]? with
   | none =>
    cases n with
    | zero=>simp [depB]at h
    | succ n=>simp [depB,ho']at h
   | some o'=>exact dep_done hc n e.on j o' ho' (hc e.on o' hd ho') h
theorem self_spec {p:Nat} {x:Oper} (h:selfOK ops p=true) (hx:ops[p]?=some x):(∀d,x.dst=some d→d ∉ x.looksAt ops)∧(∀cs b,x.op≠.select cs b)∧∀e∈x.after,Region.binds .any e=true→e.on<ops.size∧e.on≠p:=by
 simp only[selfOK,hx,Bool.and_eq_true,Bool.not_eq_true']at h;obtain⟨⟨h1,h2⟩,h3⟩:=h;refine⟨fun d hd hm=>?_,fun cs b e=>?_,fun e he hb=>?_⟩
 ·rw[hd]at h1;have h4:(!(x.looksAt ops).contains d)=true:=h1;rw[List.contains_iff_mem.2 hm]at h4;cases h4
 ·rw[e]at h2;cases h2
 ·have:=List.all_eq_true.1 h3 e (by simpa using he);rw[hb]at this
  simpa [Nat.blt_eq] using this
theorem dep_edge {i:Nat} {o:Oper} (ho:ops[i]?=some o) {e:Edge} (he:e∈o.after) (hb:Region.binds .any e=true):depB ops ops.size i e.on=true:=by
 have hlt:=(Array.getElem?_eq_some_iff.1 ho).1
 obtain⟨n,hn⟩:∃n,ops.size=n+1:=⟨ops.size - 1,by omega⟩
 rw[hn,depB,ho];simp only[List.any_eq_true,Bool.and_eq_true,Bool.or_eq_true,beq_iff_eq];exact⟨e,by simpa using he,hb,.inl rfl⟩
theorem first_of {p:Nat→Prop} [DecidablePred p]:∀(l:List Nat),(∃i∈l,p i)→∃A i Z,l=A++i::Z∧p i∧∀j∈A,¬p j
 | [],h=>by obtain⟨i,hi,_⟩:=h;cases hi
 | x::r,h=>by
  by_cases hx:p x
  ·exact⟨[],x,r,rfl,hx,by simp⟩
  ·obtain⟨A,i,Z,h1,h2,h3⟩:=first_of r (by
    obtain⟨i,hi,hp⟩:=h
    rcases List.mem_cons.1 hi with rfl | hi
    ·exact absurd hp hx
    ·exact⟨i,hi,hp⟩)
   exact⟨x::A,i,Z,by rw[h1];rfl,h2,fun j hj=>by
    rcases List.mem_cons.1 hj with rfl | hj
    ·exact hx
    ·exact h3 j hj⟩
theorem ready_some {ord:List Nat} (hok:OrdOK ops ord) {listed:Array Bool} (hsz:listed.size=ops.size) (hex:∃i,i<ops.size∧¬Done listed i):Region.ready .any ops listed≠[]:=by
 obtain⟨i0,hi0,hn0⟩:=hex
 have:DecidablePred fun i=>¬Done listed i:=fun i=>by unfold Done;infer_instance
 obtain⟨A,i,Z,h1,h2,h3⟩:=first_of (p:=fun i=>¬Done listed i) ord ⟨i0,hok.all i0 hi0,hn0⟩
 have hi:i∈ord:=by rw[h1];simp
 have hlt:=hok.lt i hi;have ho:ops[i]?=some ops[i]:=Array.getElem?_eq_getElem hlt;intro hr
 have:i∈Region.ready .any ops listed:=mem_ready.2 ⟨by
  have hlt':i<listed.size:=by rw[hsz];exact hlt
  rw[Array.getD_eq_getD_getElem?,Array.getElem?_eq_getElem hlt']
  cases hb:listed[i] with
  | false=>rfl
  | true=>exact absurd (by unfold Done;rw[Array.getElem?_eq_getElem hlt',hb]) h2,ops[i],ho,fun e he hb=>by
  obtain⟨hs1,hs2⟩:=(self_spec (hok.self i hi) ho).2.2 e he hb;have hin:=hok.all e.on hs1;rw[h1]at hin
  have hdone:Done listed e.on:=by
   rcases List.mem_append.1 hin with hA | hZ
   ·exact Classical.not_not.1 (h3 _ hA)
   ·rcases List.mem_cons.1 hZ with h4 | hZ
    ·exact absurd h4 hs2
    ·have hpw:=hok.pairs;rw[h1]at hpw;have hpq:pairOK ops i e.on=true:=(List.pairwise_cons.1 (List.pairwise_append.1 hpw).2.1).1 _ hZ;have ho2:ops[e.on]?=some ops[e.on]:=Array.getElem?_eq_getElem hs1;have:=(pair_dst hpq ho ho2).2.2.1;rw[dep_edge ho he hb]at this;cases this
  unfold Done at hdone
  rw[Array.getD_eq_getD_getElem?,hdone];rfl⟩
 rw[hr]at this;cases this
theorem done_set {listed:Array Bool} {i j:Nat} (hi:i<listed.size):Done (listed.setIfInBounds i true) j↔Done listed j∨j=i:=by
 unfold Done
 by_cases h:i=j
 ·subst h
  rw[Array.getElem?_setIfInBounds_self_of_lt hi];simp
 ·rw[Array.getElem?_setIfInBounds_ne h];simp [Ne.symm h]
theorem agr_eq {a0 a b:Act} {val:Nat→Value} {S:Nat→Prop} (h:Agr ops a0 val S a) (h':Agr ops a0 val S b):a.tmps=b.tmps:=by
 apply Array.ext_getElem?;intro t
 exact h.at h' fun _ _ _ _=>Iff.rfl
theorem upon_swap {P:Program} {o:Oper} {a b:Act} {next next':Act→World→Prop} {Q Q':Exit→Act→World→Prop} (hn:∀v w,next (b.put o.dst v) w→next' (a.put o.dst v) w) (hd:∀a w,next a w→a.defers=b.defers)
  (hq:∀e a w,Q e a w→False):∀(r:Result Next),o.upon P b next Q r→o.upon P a next' Q' r
 | .ok (.value v) w,h=>hn _ _ h
 | .ok .skip w,h=>hn _ _ h
 | .ok (.enter f as) w,h=>Calls.mono h fun e w' he=>by
  cases e with
  | returned v=>exact hn _ _ he
  | panicked c=>exact (hq _ _ _ he).elim
  | outgrown=>obtain⟨a,w,h⟩:=he;exact (hq _ _ _ h).elim
 | .ok (.defer d) w,h=>by
  have:=hd _ _ h
  cases hdst:o.dst<;>simp [Act.put,hdst]at this
 | .ok (.row row as) w,h=>Rows.mono h fun v w' he=>hn _ _ he
 | .halt (.panic v) w,h=>(hq _ _ _ h).elim
 | .ok (.round ..) w,h=>h.elim
 | .ok .recover w,h=>h.elim
 | .ok (.spawn _) w,h=>h.elim
 | .ok (.comm ..) w,h=>h.elim
 | .ok .numGoroutine w,h=>h.elim
 | .ok .collect w,h=>h.elim
 | .ok (.watch _) w,h=>h.elim
 | .ok (.newcoro ..) w,h=>h.elim
 | .ok (.coroswitch ..) w,h=>h.elim
 | .ok (.sleep _) w,h=>h.elim
 | .ok (.timer _) w,h=>h.elim
 | .ok (.alone ..) w,h=>h.elim
 | .ok (.callThen ..) w,h=>h.elim
 | .ok (.stack ..) w,h=>h.elim
 | .halt .goexit w,h=>h.elim
 | .halt .blocked w,h=>h.elim
 | .halt .waiting w,h=>h.elim
 | .halt (.exit _) w,h=>h.elim
 | .halt (.fatal _) w,h=>h.elim
 | .halt (.throw _) w,h=>h.elim
 | .halt (.unsupported _) w,h=>h.elim
 | .halt (.stuck _) w,h=>h.elim
theorem put_eq {a b:Act} {d:Option Tmp} {v u:Value} (hs:a.tmps.size=b.tmps.size) (h:b.put d v=b.put d u):a.put d v=a.put d u:=by
 cases d with
 | none=>rfl
 | some t =>
  simp only[Act.put,Act.mk.injEq,and_true]at h ⊢
  by_cases hlt:t<b.tmps.size
  ·have:=congrArg (fun (x:Array Value)=>x[t]?) h;simp only[Array.getElem?_setIfInBounds_self_of_lt hlt,Option.some.injEq]at this;rw[this]
  ·rw[Array.setIfInBounds,dif_neg (by rw[hs];exact hlt),Array.setIfInBounds,dif_neg (by rw[hs];exact hlt)]
theorem safe_dep {hs:List Nat} {j i:Nat} {o:Oper}:∀ {r:List Nat},safeB hs ops.toList j r=true→i∈r→ops[i]?=some o→pur o.op=false→mildH hs o.op=false→depB ops ops.size i j=true
 | [],_,h,_,_,_=>by cases h
 | e::r,h,hi,ho,hp,hmi=>by
  rw[safeB]at h;split at h
  ·rename_i o' ho';rw[Array.getElem?_toList]at ho'
   cases hb:(bif pur o'.op then true else bif mildH hs o'.op then true else depB ops.toList.toArray ops.toList.length e j) with
   | false=>rw[hb]at h;cases h
   | true =>
    rw[hb]at h
    rcases List.mem_cons.1 hi with rfl | hi
    ·rw[ho]at ho';cases ho';rw[hp,hmi]at hb
     simpa using hb
    ·exact safe_dep h hi ho hp hmi
  ·cases h
theorem draw_any (ht:TOK C) {ord:List Nat} (hok:OrdOK ops ord) {Q:St→Hp→Prop} {H0:Hp} {a0:Act}:∀(fuel:Nat) (un:List Nat) (listed:Array Bool) (a:Act) (w:World),un.length=fuel→un.Nodup→listed.size=ops.size →
  (∀i,i∈un↔i<ops.size∧¬Done listed i)→Closed ops listed →
  (∃pre rem val s H ρ b,Far C hs B ops ord a0 (Done listed) w pre rem val s H ρ b∧Front C hs ops Q rem s H b∧Agr ops a0 val (Done listed) a∧Dfs C.rg B H a.defers∧Le H0 H) →
  wpAny C.P .any ops (Post C B H0 fun e s H=>match e with | .normal=>Q s H | _=>False) fuel listed a w:=by
 intro fuel
 have fin:∀(listed:Array Bool) (a:Act) (w:World),(∀i,i<ops.size→Done listed i) →
   (∃pre rem val s H ρ b,Far C hs B ops ord a0 (Done listed) w pre rem val s H ρ b∧Front C hs ops Q rem s H b∧Agr ops a0 val (Done listed) a∧Dfs C.rg B H a.defers∧Le H0 H) →
   Post C B H0 (fun e s H=>match e with | .normal=>Q s H | _=>False) .normal a w:=by
  rintro listed a w hall ⟨pre,rem,val,s,H,ρ,b,hf,hfr,hag,hdf,hle⟩
  rcases hfr with ⟨rfl,hq⟩ | ⟨e,o,r,rfl,ho,_⟩
  ·refine⟨.normal,s,H,ρ,rfl,hq,⟨fun t x hx=>?_,?_,hdf,hf.rel.mem⟩,hle⟩
   ·have htm:=agr_eq (hag.congr (S':=(·∈pre)) (fun i=>⟨hf.sub i,fun hi=>hall i (hok.lt i (by rw[hf.ord];simp [hi]))⟩) (fun _ _=>rfl)) hf.agr
    rw[htm];exact hf.rel.env t x hx
   ·have:=hf.rel.sz;rw[hf.agr.size]at this;rw[hag.size];exact this
  ·have hd:=hall e (Array.getElem?_eq_some_iff.1 ho).1;have h1:=hf.sub e hd;have hpw:=hok.pairs;rw[hf.ord]at hpw;exact absurd rfl (pair_dst ((List.pairwise_append.1 hpw).2.2 e h1 e List.mem_cons_self) ho ho).1
 induction fuel with
 | zero =>
  intro un listed a w hl hnd hsz hun hc hex;have hu:un=[]:=List.eq_nil_of_length_eq_zero hl;subst hu
  have hall:∀i,i<ops.size→Done listed i:=fun i hi=>Classical.not_not.1 fun hn=>by have:=(hun i).2 ⟨hi,hn⟩;cases this
  refine⟨?_,fin listed a w hall hex⟩;apply List.eq_nil_iff_forall_not_mem.2;intro j hj;obtain⟨h1,o,ho,_⟩:=mem_ready.1 hj;have:=hall j (Array.getElem?_eq_some_iff.1 ho).1;unfold Done at this;rw[Array.getD_eq_getD_getElem?,this]at h1;cases h1
 | succ fuel ih =>
  intro un listed a w hl hnd hsz hun hc hex;refine⟨fun hr=>fin listed a w (fun i hi=>Classical.not_not.1 fun hn=>ready_some hok hsz ⟨i,hi,hn⟩ hr) hex,fun i hi=>?_⟩;obtain⟨h1,o,ho,hedge⟩:=mem_ready.1 hi;have hilt:=(Array.getElem?_eq_some_iff.1 ho).1
  have hil:i<listed.size:=by rw[hsz];exact hilt
  have hnd':¬Done listed i:=fun h=>by
   unfold Done at h
   rw[Array.getD_eq_getD_getElem?,h]at h1;cases h1
  have hedges:∀e∈o.after,Region.binds .any e=true→Done listed e.on:=fun e he hb=>by
   have:=hedge e he hb;unfold Done;rw[Array.getD_eq_getD_getElem?]at this
   cases h2:listed[e.on]? with
   | none=>rw[h2]at this;cases this
   | some v=>rw[h2]at this;simp at this;rw[this]
  have hiord:i∈ord:=hok.all i hilt;obtain⟨hself1,hself2,_⟩:=self_spec (hok.self i hiord) ho
  have step:∀(a':Act) (w':World),(∃pre rem val s H ρ b,Far C hs B ops ord a0 (Done (listed.setIfInBounds i true)) w' pre rem val s H ρ b∧Front C hs ops Q rem s H b∧Agr ops a0 val (Done (listed.setIfInBounds i true)) a'∧Dfs C.rg B H a'.defers∧Le H0 H) →
    wpAny C.P .any ops (Post C B H0 fun e s H=>match e with | .normal=>Q s H | _=>False) fuel (listed.setIfInBounds i true) a' w':=fun a' w' hex'=>by
   refine ih (un.erase i) _ a' w' ?_ (hnd.erase i) (by simpa using hsz) (fun j=>?_) (fun j o' hj ho' e he hb=>?_) hex'
   ·have hm:=(hun i).2 ⟨hilt,hnd'⟩
    rw[List.length_erase_of_mem hm,hl];rfl
   ·rw[hnd.mem_erase_iff,hun j,done_set hil];constructor
    ·rintro⟨h2,h3,h4⟩;exact⟨h3,fun h=>h.elim h4 h2⟩
    ·rintro⟨h2,h3⟩;exact⟨fun e=>h3 (.inr e),h2,fun h=>h3 (.inl h)⟩
   ·rw[done_set hil]at hj ⊢
    rcases hj with hj | rfl
    ·exact .inl (hc j o' hj ho' e he hb)
    ·rw[ho]at ho';simp only[Option.some.injEq]at ho';subst ho'
     exact .inl (hedges e he hb)
  obtain⟨pre,rem,val,s,H,ρ,b,hf,hfr,hag,hdf,hle⟩:=hex;have hpw:=hok.pairs;rw[hf.ord]at hpw;unfold wpOp;rw[ho]
  show if _ then _ else _
  by_cases hpre:i∈pre
  ·-- it has been reckoned
   obtain⟨r0,_,o',A,Z,c,ho',hAZ,hc1,hc2,hc3⟩:=hf.todo i hpre hnd'
   rw[ho]at ho';simp only[Option.some.injEq]at ho';subst ho'
   have hlook:∀t∈o.looksAt ops,a.tmps[t]?=c.tmps[t]?:=fun t htm=>hag.at hc1 fun d x hx hxd=>by
    constructor
    ·intro hd;have hdp:=hf.sub d hd;rw[hAZ]at hdp hpw
     rcases List.mem_append.1 hdp with h2 | h2
     ·exact h2
     ·rcases List.mem_cons.1 h2 with rfl | h2
      ·exact absurd hd hnd'
      ·have hpq:pairOK ops i d=true:=(List.pairwise_cons.1 (List.pairwise_append.1 (List.pairwise_append.1 hpw).1).2.1).1 d h2;obtain⟨_,_,_,h3⟩:=pair_dst hpq ho hx
       rcases h3 with h3 | ⟨_,h3⟩
       ·exact absurd (dep_done hc _ d i x hx (hc d x hd hx) h3) hnd'
       ·exact absurd htm ((Oper.apart_spec h3).2.2 t hxd)
    ·intro hd;rw[hAZ]at hpw;have hpq:pairOK ops d i=true:=(List.pairwise_append.1 (List.pairwise_append.1 hpw).1).2.2 d hd i List.mem_cons_self;obtain⟨_,_,_,h3⟩:=pair_dst hpq hx ho
     rcases h3 with h3 | ⟨_,h3⟩
     ·exact dep_done hc _ i d o ho hedges h3
     ·exact absurd htm ((Oper.apart_spec h3).1 t hxd)
   obtain⟨hex1,hex2⟩:=look_exec hself2 hlook
   have hput:∀v,val i=v→wpAny C.P .any ops (Post C B H0 fun e s H=>match e with | .normal=>Q s H | _=>False) fuel (listed.setIfInBounds i true) (a.put o.dst v) w:=fun v hv=>step _ _
    ⟨pre,rem,val,s,H,ρ,b,⟨hf.ord,hf.rel,hf.agr,fun j hj=>by
      rw[done_set hil]at hj
      rcases hj with hj | rfl
      ·exact hf.sub j hj
      ·exact hpre,fun j hj hnj=>hf.todo j hj fun h=>hnj ((done_set hil).2 (.inl h))⟩,hfr,
     (hag.put hnd' ho (fun j o' hj ho' d hd hd'=>by
      have hjp:=hf.sub j hj
      have hji:j≠i:=fun e=>hnd' (e▸hj)
      have hcmp:pairOK ops j i=true∨pairOK ops i j=true:=by
       rw[hAZ]at hjp hpw;have hp1:=(List.pairwise_append.1 hpw).1
       rcases List.mem_append.1 hjp with h2 | h2
       ·exact .inl ((List.pairwise_append.1 hp1).2.2 j h2 i List.mem_cons_self)
       ·rcases List.mem_cons.1 h2 with h2 | h2
        ·exact absurd h2 hji
        ·exact .inr ((List.pairwise_cons.1 (List.pairwise_append.1 hp1).2.1).1 j h2)
      rcases hcmp with h2 | h2
      ·exact (pair_dst h2 ho' ho).2.1 d hd' hd
      ·exact (pair_dst h2 ho ho').2.1 d hd hd') hv).congr (fun j=>((done_set hil).symm)) (fun _ _=>rfl),by
      cases hdst:o.dst<;>simpa [Act.put] using hdf,hle⟩
   rcases hc3 with ⟨hw,s1,H1,x,k1,k2,k3,k4,k5,k6,k7,k8,k9⟩ | ⟨hw,hv⟩
   ·rw[if_pos (by rw[hex2];exact hw)];refine .inl ?_;unfold Oper.wp;have hrun:(execOp c.eval o).run C.P w = .ok (.value (ga ρ x)) w:=k9 B ρ o { c with defers:=[] } w rfl rfl ⟨k1,by have:=hf.rel.sz;rw[hf.agr.size]at this;show c.tmps.size=_;rw[hc1.size];exact this,Dfs.nil _ _ _,hf.rel.mem.elder k2 k3 k4 k5 k6⟩;rw[hex1,hrun];exact hput _ k8
   ·rw[if_neg (by rw[hex2,hw];simp)];exact hput undef hv
  ·-- it is the next one on the memory
   rcases hfr with ⟨rfl,hq⟩ | ⟨e,o',r,rfl,ho',hp,he,hw,hvc⟩
   ·exact absurd (by have:=hiord;rw[hf.ord]at this;simpa using this) hpre
   ·have hie:i=e:=by
     have:=hiord;rw[hf.ord]at this
     rcases List.mem_append.1 this with h2 | h2
     ·exact absurd h2 hpre
     ·rcases List.mem_cons.1 h2 with h2 | h2
      ·exact h2
      ·have hpq:pairOK ops e i=true:=(List.pairwise_cons.1 (List.pairwise_append.1 hpw).2.1).1 i h2;obtain⟨_,_,_,h3⟩:=pair_dst hpq ho' ho
       rcases h3 with h3 | ⟨h3,_⟩
       ·have:=hf.sub e (dep_done hc _ i e o ho hedges h3);exact absurd rfl (pair_dst ((List.pairwise_append.1 hpw).2.2 e this e List.mem_cons_self) ho' ho').1
       ·rw[hp]at h3;cases h3
    subst hie
    rw[ho]at ho';simp only[Option.some.injEq]at ho';subst ho'
    have hlook:∀t∈o.looksAt ops,a.tmps[t]?=b.tmps[t]?:=fun t htm=>hag.at hf.agr fun d x hx hxd=>by
     refine⟨hf.sub d,fun hd=>?_⟩;have hpq:pairOK ops d i=true:=(List.pairwise_append.1 hpw).2.2 d hd i List.mem_cons_self;obtain⟨_,_,_,h3⟩:=pair_dst hpq hx ho
     rcases h3 with h3 | ⟨_,h3⟩
     ·exact dep_done hc _ i d o ho hedges h3
     ·exact absurd htm ((Oper.apart_spec h3).1 t hxd)
    obtain⟨hex1,hex2⟩:=look_exec hself2 hlook;rw[if_pos (by rw[hex2];exact hw)];refine .inl ?_
    let B':Bs:={ B with base:=s.nx,ρ:=ρ }
    have hrB:Rel C B' ρ s H b w:=⟨hf.rel.env,hf.rel.sz,hf.rel.defers.re rfl rfl,
     {hf.rel.mem with base:=Nat.le_refl _,agree:=fun _ _=>⟨rfl,rfl⟩ }⟩
    have hraw:=opE_ok ht (eff_keep he hvc _) B' ρ o b w rfl rfl hrB
     (fun b' w'=>∃x s' H' ρ',(s'.putK C.n o.dst x fun s''=>runD C hs ops.toList Q r s'' H')∧Keep (hsE hs o.op) s s'∧Rel C B ρ' s' H' b w'∧Same s.nx ρ ρ'∧Le H H'∧x.lt s'.nx=true∧b'=b.put o.dst (ga ρ' x)) (fun _ _ _=>False)
     (fun x s' H' ρ' w' ⟨h2,h3⟩ h4 h5 h6=>⟨x,s',H',ρ',(bif_f h2).2,Keep.of_ext h3 (bif_f h2).1,⟨h4.env,h4.sz,h4.defers.re rfl rfl,{ h4.mem with
       base:=Nat.le_trans hf.rel.mem.base h3.1
       agree:=fun k hk=>by
        have h7:=h4.mem.agree k (Nat.lt_of_lt_of_le hk hf.rel.mem.base);have h8:=hf.rel.mem.agree k hk
        exact⟨h7.1.trans h8.1,h7.2.trans h8.2⟩ }⟩,fun k hk=>h4.mem.agree k hk,h5,h6,rfl⟩)
    unfold Oper.wp at hraw ⊢;rw[hex1];refine upon_swap (next:=_) (Q:=fun _ _ _=>False) ?_ ?_ (fun _ _ _ h=>h) _ hraw
    ·rintro v w' ⟨x,s',H',ρ',h2,h3,h4,h5,h6,h7,h8⟩;rw[put_eq (a:=a) (b:=b) (by rw[hag.size,hf.agr.size]) h8];rw[putK_iff2]at h2
     let val2:Nat→Value:=fun j=>if j=i then ga ρ' x else val j
     have hni:i ∉ pre:=hpre
     have hv:∀j∈pre,val2 j=val j:=fun j hj=>if_neg fun (e:j=i)=>hni (e▸hj)
     have hvi:val2 i=ga ρ' x:=if_pos rfl
     have hpi:∀p∈pre,pairOK ops p i=true:=fun p hp=>(List.pairwise_append.1 hpw).2.2 p hp i List.mem_cons_self
     have hf2:Far C hs B ops ord a0 (Done (listed.setIfInBounds i true)) w' (pre++[i]) r val2 (s'.put C.n o.dst x) H' ρ' (b.put o.dst (ga ρ' x)) :=
      {ord:=by rw[hf.ord];simp
       rel:=h4.put o.dst h7
       agr:=((hf.agr.congr (val':=val2) (fun _=>Iff.rfl) (fun j hj=>(hv j hj).symm)).put hni ho (fun j o' hj ho' d hd hd'=>(pair_dst (hpi j hj) ho' ho).2.1 d hd' hd) hvi).congr (fun j=>by simp) (fun _ _=>rfl)
       sub:=fun j hj=>by
        rw[done_set hil]at hj
        rcases hj with hj | rfl
        ·exact List.mem_append_left _ (hf.sub j hj)
        ·simp
       todo:=fun j hj hnl=>by
        rw[done_set hil]at hnl
        rcases List.mem_append.1 hj with hj | hj
        ·obtain⟨r',hr',hS⟩:=hf.todo j hj fun h=>hnl (.inl h)
         refine⟨r',fun e he=>hr' e (List.mem_cons_of_mem _ he),hS.later hv ?_ h6 h5⟩;have hir:i∈r':=hr' i List.mem_cons_self
         cases hmi:mildH hs o.op with
         | true =>
          rw[hsE,hmi]at h3;exact (Keep.mono h3).trans (Keep.put _ _ _ _)
         | false =>
          rw[hsE,hmi]at h3;unfold hidesR;split
          ·exact h3.trans (Keep.put _ _ _ _)
          ·cases hsf:safeB hs ops.toList j r' with
           | false=>exact h3.trans (Keep.put _ _ _ _)
           | true =>
            exact absurd (.inl (dep_done hc _ i j o ho hedges (safe_dep hsf hir ho hp hmi))) hnl
        ·simp only[List.mem_singleton]at hj
         exact absurd (.inr hj) hnl }
     obtain⟨pre',rem',val',s2,b2,g1,g2,g3⟩:=adv ht hok r _ _ _ _ _ _ hf2 h2 (hf.rel.mem.hle.trans h6)
     have hvs:∀j,Done listed j→val2 j=val j:=fun j hj=>hv j (hf.sub j hj)
     refine step _ _ ⟨pre',rem',val',s2,H',ρ',b2,g1,g2,?_,by cases hdst:o.dst<;>simpa [Act.put] using hdf.up h6,hle.trans h6⟩
     refine (((hag.congr (val':=val') (fun _=>Iff.rfl) (fun j hj=>by rw[g3 j (List.mem_append_left _ (hf.sub j hj)),hvs j hj])).put hnd' ho (fun j o' hj ho' d hd hd'=>(pair_dst (hpi j (hf.sub j hj)) ho' ho).2.1 d hd' hd) (by rw[g3 i (by simp),hvi])).congr (fun j=>(done_set hil).symm) (fun _ _=>rfl))
    ·rintro a1 w1 ⟨x,s',H',ρ',h2,h3,h4,h5,h6,h7,rfl⟩
     cases hdst:o.dst<;>simp [Act.put]
theorem draw_start (ht:TOK C) {ord:List Nat} (hok:OrdOK ops ord) {Q:St→Hp→Prop} {s:St} {H:Hp} {ρ:Rho} {a:Act} {w:World} (h:runD C hs ops.toList Q ord s H) (hr:Rel C B ρ s H a w):
  wpAny C.P .any ops (Post C B H fun e s H=>match e with | .normal=>Q s H | _=>False) ops.size (Array.replicate ops.size false) a w:=by
 have hno:∀i,¬Done (Array.replicate ops.size false) i:=fun i h=>by
  unfold Done at h;rw[Array.getElem?_replicate]at h
  split at h<;>simp at h
 have hf:Far C hs B ops ord a (Done (Array.replicate ops.size false)) w [] ord (fun _=>undef) s H ρ a :=
  ⟨rfl,hr,⟨rfl,fun i o d hi=>(by cases hi),fun _ _=>rfl⟩,fun i hi=>(hno i hi).elim,fun j hj=>(by cases hj)⟩
 obtain⟨pre',rem',val',s',b',h1,h2,_⟩:=adv ht hok ord _ _ _ _ _ _ hf h hr.mem.hle
 exact draw_any ht hok ops.size (List.range ops.size) _ a w (by simp) List.nodup_range (by simp) (fun i=>by simp [hno]) (fun i o hi=>(hno i hi).elim)
  ⟨pre',rem',val',s',H,ρ,b',h1,h2,⟨rfl,fun i o d hi=>(hno i hi).elim,fun _ _=>rfl⟩,hr.defers,Le.refl H⟩
end
end Go.Sy
end
