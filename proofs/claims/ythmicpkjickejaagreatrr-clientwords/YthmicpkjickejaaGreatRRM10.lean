/- Part 'M10' of the proof (SyOk6, SyOk7, SyG, SyOk8): lemmas, each with its own conditions in its own statement. -/
import Derived.Laws.AppendOwnNone
import Derived.Test.YthmicpkjickejaaGreatRRM9
section
namespace Go.Sy
open Go.RowKit (Below)
section
variable {C:Cx} {B:Bs} {ρ:Rho} {s:St} {H:Hp} {a:Act} {w:World} {P:Program}
theorem Mem.move {bx:List (Nat×Bx)} {nx k:Nat} {w':World} {b b':Bx} {g:Nat} {v:Option Addr×Nat×Nat} (hm:Mem B ρ bx nx H w) (hk:lk bx k=some b)
  (h1:w'.os=w.os) (h2:w'.tape=w.tape) (h3:OD w w') (h4:w.heap.size≤w'.heap.size)
  (hb:∀g,g<w.heap.size→¬Owns ρ k b g→w'.heap[g]?=w.heap[g]?)
  (hlt:b'.lt (nx+1)=true) (hok:BoxOK (ρ.set nx g v) w' nx b') (hnew:∀g',Owns (ρ.set nx g v) nx b' g'→Owns ρ k b g'∨w.heap.size≤g'):
  Mem B (ρ.set nx g v) ((nx,b')::(k,.dead)::bx) (nx+1) H w':=by
 have hm1:Mem B ρ ((k,.dead)::bx) nx H w':=hm.write hk h1 h2 h3 h4 hb rfl trivial (fun g hg=>hg.elim);have hs:=Rho.set_same ρ nx g v;exact
 {os:=hm1.os,tape:=hm1.tape,output:=hm1.output,size:=hm1.size,frame:=hm1.frame
  base:=Nat.le_succ_of_le hm1.base
  agree:=fun j hj=>by
   have:=hs j (Nat.lt_of_lt_of_le hj hm1.base)
   rw[this.1,this.2];exact hm1.agree j hj
  hp:=hm1.hp,hle:=hm1.hle,hnew:=hm1.hnew
  ok:=fun j x hj=>by
   rw[lk_cons]at hj;split at hj
   ·rename_i e;subst e;simp only[Option.some.injEq]at hj;subst hj;exact⟨Nat.lt_succ_self _,hok,hlt⟩
   ·obtain⟨a1,a2,a3⟩:=hm1.ok j x hj;refine⟨Nat.lt_succ_of_lt a1,a2.same hs a1 a3,?_⟩
    cases x with
    | cells T cs=>exact lts_mono (Nat.le_succ _) cs a3
    | _=>rfl
  own:=fun j x g' hj ho=>by
   rw[lk_cons]at hj;split at hj
   ·rename_i e;subst e;simp only[Option.some.injEq]at hj;subst hj
    rcases hnew g' ho with hg | hg
    ·exact hm.own k b g' hk hg
    ·refine⟨?_,.inl (Nat.le_trans hm.size hg)⟩
     cases hh:H g' with
     | none=>rfl
     | some o =>
      have:=(Array.getElem?_eq_some_iff.1 (hm.hp g' o hh)).1;omega
   ·exact hm1.own j x g' hj (ho.same hs (hm1.ok j x hj).1)
  disj:=fun j j' x x' g' hj hj' ho ho'=>by
   have key:∀(j:Nat) (x:Bx),lk ((k,Bx.dead)::bx) j=some x→Owns ρ j x g'→∀y,Owns (ρ.set nx g v) nx b' g'→y=j→False:=by
    intro j x hj ho y hy _
    have hjk:j≠k:=by
     intro e;subst e;rw[lk_cons,if_pos rfl]at hj;simp only[Option.some.injEq]at hj;subst hj;exact ho
    rw[lk_cons,if_neg (Ne.symm hjk)]at hj
    rcases hnew g' hy with hg | hg
    ·exact hjk (hm.disj j k x b g' hj hk ho hg)
    ·have:=(hm.ok j x hj).2.1.lt ho;omega
   rw[lk_cons]at hj hj'
   split at hj<;>split at hj'
   ·omega
   ·rename_i e1 e2;subst e1;simp only[Option.some.injEq]at hj;subst hj;exact (key j' x' hj' (ho'.same hs (hm1.ok j' x' hj').1) j' ho rfl).elim
   ·rename_i e1 e2;subst e2;simp only[Option.some.injEq]at hj';subst hj';exact (key j x hj (ho.same hs (hm1.ok j x hj).1) j ho' rfl).elim
   ·exact hm1.disj j j' x x' g' hj hj' (ho.same hs (hm1.ok j x hj).1) (ho'.same hs (hm1.ok j' x' hj').1) }
theorem Rel.moved (hr:Rel C B ρ s H a w) {k:Nat} {b:Bx} {e:TypeId} {sz:Nat} {xs:List (List Value)} {w':World} {v:Option Addr×Nat×Nat} (hk:lk s.bx k=some b)
  (h1:w'.os=w.os) (h2:w'.tape=w.tape) (h3:OD w w') (h4:w.heap.size≤w'.heap.size) (hb:∀g,g<w.heap.size→¬Owns ρ k b g→w'.heap[g]?=w.heap[g]?)
  (hown:w'.ownsRow 0 e sz (.slice v.1 v.2.1 v.2.2) xs.length xs.flatten) (hxs:∀x∈xs,x.length=sz∧∀u∈x,u.oneCell'=true)
  (hnew:∀g,(Value.slice v.1 v.2.1 v.2.2).ownBlock=some g→Owns ρ k b g∨w.heap.size≤g):
  ∃ρ',Rel C B ρ' ((s.box k .dead).new (.row e sz xs)) H a w'∧ga ρ' (.own s.nx) = .slice v.1 v.2.1 v.2.2:=by
 refine⟨ρ.set s.nx ((Value.slice v.1 v.2.1 v.2.2).ownBlock.getD 0) v,⟨hr.env_new _ _,hr.sz,hr.defers,?_⟩,by rw[ga];simp [Rho.val,Rho.set]⟩;refine hr.mem.move hk h1 h2 h3 h4 hb rfl ?_ ?_
 ·refine⟨?_,hxs,fun g hg=>?_⟩
  ·simpa [Rho.val,Rho.set] using hown
  ·simp only[Rho.val,Rho.set,if_true]at hg ⊢
   rw[hg];rfl
 ·intro g hg;simp only[Owns,Rho.val,Rho.set,if_true]at hg;exact hnew g hg
theorem getN_ok (hr:Rel C B ρ s H a w) {x:Operand} {n:Int} (h:getN s x=some n):∃k,a.eval x = .int k n:=by
 unfold getN at h;split at h
 ·rename_i k m hx;simp only[Option.some.injEq]at h;subst h;have:=(eval_get hr hx).1;rw[ga]at this;exact⟨k,this⟩
 ·cases h
theorem sliceBound_ok {x:Value} {k:IntKind} {n:Int} {y:Nat} (hx:x = .int k n) (h:0≤n∧n≤y) (c:BoundsCode) (w:World):(Instr.sliceBound x y c).run P w = .ok n.toNat w:=by
 subst hx;simp [Instr.sliceBound,asIntOf,h]
theorem sliceBounds_ok (hr:Rel C B ρ s H a w) {lo hi:Option Operand} {l h:Int} (b:Bool) (len cap:Nat) (hl:optN s lo 0=some l) (hh:optN s hi (len:Int)=some h) (hle:0≤l∧l≤h∧h≤cap):
  (Instr.sliceBounds b len cap (lo.map a.eval) (hi.map a.eval) none).run P w = .ok (l.toNat,h.toNat,cap) w:=by
 unfold Instr.sliceBounds
 cases hi with
 | none =>
  simp only[optN,Option.some.injEq]at hh;subst hh
  cases lo with
  | none =>
   simp only[optN,Option.some.injEq]at hl;subst hl;simp
  | some x =>
   simp only[optN]at hl;obtain⟨k,hk⟩:=getN_ok hr hl;simp [sliceBound_ok hk (show 0≤l∧l≤(len:Nat) by omega)]
 | some y =>
  simp only[optN]at hh;obtain⟨k',hk'⟩:=getN_ok hr hh
  cases lo with
  | none =>
   simp only[optN,Option.some.injEq]at hl;subst hl;simp [sliceBound_ok hk' (show 0≤h∧h≤(cap:Nat) by omega)]
  | some x =>
   simp only[optN]at hl;obtain⟨k,hk⟩:=getN_ok hr hl;simp [sliceBound_ok hk' (show 0≤h∧h≤(cap:Nat) by omega),sliceBound_ok hk (show 0≤l∧l≤((h.toNat:Nat):Int) by omega)]
theorem take_flat {sz:Nat}:∀ {xs:List (List Value)} (n:Nat),(∀x∈xs,x.length=sz)→(xs.take n).flatten=xs.flatten.take (n*sz)
 | [],n,_=>by simp
 | x::r,0,_=>by simp
 | x::r,n+1,h=>by
  have h1:=h x List.mem_cons_self;rw[List.take_succ_cons,List.flatten_cons,take_flat n (fun y hy=>h y (List.mem_cons_of_mem _ hy)),List.flatten_cons,show (n+1)*sz=x.length+n*sz by rw[Nat.add_mul];omega,List.take_length_add_append]
end
end Go.Sy
end
section
namespace Go.Sy
open Go.RowKit (Below)
section
variable {C:Cx} {B:Bs} {ρ:Rho} {s:St} {H:Hp} {a:Act} {w:World} {P:Program}
theorem Mem.freeze {bx:List (Nat×Bx)} {nx k g:Nat} {b:Bx} {o:Obj} (hm:Mem B ρ bx nx H w) (hk:lk bx k=some b) (ho:Owns ρ k b g) (hg:w.heap[g]?=some o) {x:Value} (hx:ρ.val k=x):
  Mem B ρ ((k,.frz x)::bx) nx (fun j=>if j=g then some o else H j) w:=by
 have hm1:Mem B ρ ((k,.frz x)::bx) nx H w:=hm.write hk rfl rfl ⟨rfl,Nat.le_refl _⟩ (Nat.le_refl _) (fun _ _ _=>rfl) rfl hx (fun g hg=>hg.elim)
 have hgH:=(hm.own k b g hk ho)
 exact
 {os:=hm1.os,tape:=hm1.tape,output:=hm1.output,size:=hm1.size,frame:=hm1.frame,base:=hm1.base,agree:=hm1.agree
  hp:=fun j o' hj=>by
   by_cases e:j=g
   ·subst e;simp only[if_true,Option.some.injEq]at hj;subst hj;exact hg
   ·simp only[e,if_false]at hj;exact hm.hp j o' hj
  hle:=fun j o' hj=>by
   have:=hm.hle j o' hj
   by_cases e:j=g
   ·subst e;rw[hgH.1]at this;cases this
   ·simp only[e,if_false];exact this
  hnew:=fun j h1 h2 h3=>by
   have e:j≠g:=fun e=>by
    subst e
    rcases hgH.2 with h | h
    ·omega
    ·exact h3 h
   simp only[e,if_false];exact hm.hnew j h1 h2 h3
  ok:=hm1.ok
  own:=fun j y g' hj hy=>by
   have h1:=hm1.own j y g' hj hy
   have e:g'≠g:=fun e=>by
    subst e;rw[lk_cons]at hj;split at hj
    ·simp only[Option.some.injEq]at hj;subst hj;exact hy
    ·rename_i hne;exact hne (hm.disj k j b y g' hk hj ho hy)
   simp only[e,if_false];exact h1
  disj:=hm1.disj }
theorem le_freeze {g:Nat} {o:Obj} (h:H g=none):Le H (fun j=>if j=g then some o else H j):=fun j o' hj=>by
 have e:j≠g:=fun e=>by subst e;rw[h]at hj;cases hj
 simp only[e,if_false];exact hj
theorem row_at {e:TypeId} {sz:Nat} {xs:List (List Value)} {k:Nat} (hb:BoxOK ρ w k (.row e sz xs)) {H':Hp}
  (hH:∀g o,(ρ.val k).ownBlock=some g→w.heap[g]?=some o→H' g=some o):RowAt H' (ρ.val k) sz xs:=by
 rcases hb.1.2 with ⟨h1,h2⟩ | ⟨g,cap,cur,h1,_,h2,h3,hmx,h4,h5⟩
 ·have:xs=[]:=List.eq_nil_of_length_eq_zero h2;subst this;exact⟨none,0,h1,⟨Nat.le_refl _,by omega⟩,by simp,.inl ⟨rfl,rfl⟩⟩
 ·have hH':=hH g _ (by rw[h1];rfl) h2;refine⟨some ⟨g,0,none⟩,cap,h1,⟨h3,by simpa [maxLen] using hmx⟩,hb.2.1,.inr ⟨_,rfl,rfl,cur,e,_,hH',by simp only;omega,fun i x hi j hj=>?_⟩⟩;have h6:=flat_get (sz:=sz) (fun x hx=>(hb.2.1 x hx).1) hi j hj;have hlt:=(List.getElem?_eq_some_iff.1 hi).1
  have h7:i*sz+j<xs.length*sz:=by
   have:(i+1)*sz≤xs.length*sz:=Nat.mul_le_mul_right sz hlt;rw[Nat.add_mul]at this;omega
  rw[←h5,List.getElem?_take,if_pos h7]at h6;simp only[Nat.zero_add];rw[←h6];simp
theorem fz_own (hr:Rel C B ρ s H a w) {k:Nat} {e:TypeId} {sz:Nat} {xs:List (List Value)} (hk:lk s.bx k=some (.row e sz xs)):
  ∃H',LeN e sz xs H (ρ.val k) H'∧RowAt H' (ρ.val k) sz xs∧Rel C B ρ (s.box k (.frz (ρ.val k))) H' a w:=by
 have hb:=(hr.mem.ok _ _ hk).2.1
 cases hg:(ρ.val k).ownBlock with
 | none =>
  have hn:NewAt e sz xs H (ρ.val k) H:=by
   rcases hb.1.2 with ⟨h1,h2⟩ | ⟨g,cap,cur,h1,_⟩
   ·exact .inl ⟨h1,List.eq_nil_of_length_eq_zero h2⟩
   ·rw[h1]at hg;cases hg
  refine⟨H,⟨Le.refl H,hn⟩,row_at hb (fun g o h=>by rw[hg]at h;cases h),hr.with (bx:=(k,.frz (ρ.val k))::s.bx) ?_⟩;exact hr.mem.write hk rfl rfl ⟨rfl,Nat.le_refl _⟩ (Nat.le_refl _) (fun _ _ _=>rfl) rfl rfl (fun g hg=>hg.elim)
 | some g =>
  have ho:Owns ρ k (.row e sz xs) g:=hg;obtain⟨c,T,hblk⟩:=hb.blockR ho
  have hn:NewAt e sz xs H (ρ.val k) (fun j=>if j=g then some (.cells c T (0,0)) else H j):=by
   rcases hb.1.2 with ⟨h1,h2⟩ | ⟨g',cap,cur,h1,_,h2,h3,h4,h5,h6⟩
   ·rw[h1]at hg;cases hg
   ·have e1:g'=g:=by rw[h1]at hg;simpa [Value.ownBlock] using hg
    subst e1;rw[hblk]at h2;simp only[Option.some.injEq,Obj.cells.injEq]at h2;obtain⟨rfl,rfl,_⟩:=h2;exact .inr ⟨g',cap,c,h1,(hr.mem.own k _ g' hk ho).1,by simp only[if_true],h3,h4,h5,h6⟩
  refine⟨_,⟨le_freeze (o:=.cells c T (0,0)) (hr.mem.own k _ g hk ho).1,hn⟩,row_at hb (fun g' o h ho'=>?_),hr.with (bx:=(k,.frz (ρ.val k))::s.bx) (hr.mem.freeze hk ho hblk rfl) (le_freeze (o:=.cells c T (0,0)) (hr.mem.own k _ g hk ho).1)⟩;rw[hg]at h;simp only[Option.some.injEq]at h;subst h;rw[hblk]at ho';simp only[if_true];exact ho'
theorem RowAt.part {H:Hp} {v:Value} {a:Option Addr} {m c sz:Nat} {xs:List (List Value)} (h:RowAt H v sz xs) (hv:v = .slice a m c) {lo n:Nat} (hn:lo+n≤xs.length):
  RowAt H (.slice (cutA a lo c sz) n (c - lo)) sz ((xs.drop lo).take n):=by
 obtain⟨a',c',e,h1,h2,h3⟩:=h;rw[hv]at e;simp only[Value.slice.injEq]at e;obtain⟨rfl,rfl,rfl⟩:=e
 have hl:((xs.drop lo).take n).length=n:=by simp;omega
 refine⟨_,_,by rw[hl],by rw[hl];omega,fun x hx=>h2 x (List.mem_of_mem_drop (List.mem_of_mem_take hx)),?_⟩
 by_cases hcl:c=lo
 ·exact .inl ⟨List.eq_nil_of_length_eq_zero (by rw[hl];omega),by omega⟩
 ·rcases h3 with ⟨h3,h4⟩ | ⟨ad,rfl,hs,cells,T,fr,hH,hc,hx⟩
  ·exact .inl ⟨List.eq_nil_of_length_eq_zero (by rw[h3];simp),by omega⟩
  ·obtain⟨b,o,sp⟩:=ad;simp only at hs;subst hs;refine .inr ⟨⟨b,o+lo*sz,none⟩,by rw[cutA,if_neg hcl,Option.map_some,Addr.at_],rfl,cells,T,fr,hH,?_,fun i x hi j hj=>?_⟩
   ·have:lo*sz+(c - lo)*sz=c*sz:=by rw[←Nat.add_mul];congr 1;omega
    simp only at hc ⊢;omega
   ·rw[List.getElem?_take]at hi;split at hi
    ·rw[List.getElem?_drop]at hi;have:=hx (lo+i) x hi j hj;rw[Nat.add_mul]at this;simp only at this ⊢;rw[show o+lo*sz+i*sz+j=o+(lo*sz+i*sz)+j by omega];exact this
    ·cases hi
mutual
theorem fz_ok:∀(x:SV) {s:St} {H:Hp} {K:Value→St→Hp→Prop},Rel C B ρ s H a w→fz x s H K→∃s' H',K (ga ρ x) s' H'∧Rel C B ρ s' H' a w∧Le H H'∧s'.nx=s.nx
 | .v x,s,H,K,hr,h=>by rw[fz]at h;exact⟨s,H,by rw[ga];exact h,hr,Le.refl H,rfl⟩
 | .kb b,s,H,K,hr,h=>by rw[fz]at h;exact⟨s,H,by rw[ga];exact h,hr,Le.refl H,rfl⟩
 | .own k,s,H,K,hr,h=>by
  rw[fz]at h;split at h
  ·rename_i e sz xs hk;obtain⟨H',h1,h2,h3⟩:=fz_own hr hk;exact⟨_,H',by rw[ga];exact h _ H' h1 h2,h3,h1.le,rfl⟩
  ·rename_i x hk;have:=(hr.mem.ok _ _ hk).2.1;simp only[BoxOK]at this;exact⟨s,H,by rw[ga,this];exact h,hr,Le.refl H,rfl⟩
  ·exact h.elim
 | .sub k sz lo n,s,H,K,hr,h=>by
  rw[fz]at h;split at h
  ·rename_i e sz' xs hk;obtain⟨hq,hn,h⟩:=bif_f h;have:=beq_t hq;subst this;obtain⟨H',h1,h2,h3⟩:=fz_own hr hk;exact⟨_,H',by rw[ga,Rho.part];exact h _ _ H' h1.le h2 (h2.part rfl hn),h3,h1.le,rfl⟩
  ·rename_i a n' c hk;have:=(hr.mem.ok _ _ hk).2.1;simp only[BoxOK,Rho.val,Value.slice.injEq]at this;exact⟨s,H,by rw[ga,Rho.part,this.1,this.2.2];exact h,hr,Le.refl H,rfl⟩
  ·exact h.elim
 | .agg cs,s,H,K,hr,h=>by
  rw[fz]at h;obtain⟨s',H',h1,h2,h3,h4⟩:=fzs_ok cs hr h;exact⟨s',H',by rw[ga];exact h1,h2,h3,h4⟩
 | .fn f cs,s,H,K,hr,h=>by
  rw[fz]at h;obtain⟨s',H',h1,h2,h3,h4⟩:=fzs_ok cs hr h;exact⟨s',H',by rw[ga];exact h1,h2,h3,h4⟩
 | .tup cs,s,H,K,hr,h=>by
  rw[fz]at h;obtain⟨s',H',h1,h2,h3,h4⟩:=fzs_ok cs hr h;exact⟨s',H',by rw[ga];exact h1,h2,h3,h4⟩
 | .ptr _ _,s,H,K,hr,h=>by rw[fz]at h;exact h.elim
 | .el _ _ _ _,s,H,K,hr,h=>by rw[fz]at h;exact h.elim
 | .rel _ _ _ _,s,H,K,hr,h=>by rw[fz]at h;exact h.elim
 | .mp _,s,H,K,hr,h=>by rw[fz]at h;exact h.elim
theorem fzs_ok:∀(l:List SV) {s:St} {H:Hp} {K:List Value→St→Hp→Prop},Rel C B ρ s H a w→fzs l s H K→∃s' H',K (gas ρ l) s' H'∧Rel C B ρ s' H' a w∧Le H H'∧s'.nx=s.nx
 | [],s,H,K,hr,h=>by rw[fzs]at h;exact⟨s,H,by rw[gas];exact h,hr,Le.refl H,rfl⟩
 | x::r,s,H,K,hr,h=>by
  rw[fzs]at h;obtain⟨s1,H1,h1,h2,h3,h4⟩:=fz_ok x hr h;obtain⟨s2,H2,h5,h6,h7,h8⟩:=fzs_ok r h2 h1;exact⟨s2,H2,by rw[gas];exact h5,h6,h3.trans h7,h8.trans h4⟩
end
theorem ofV_ga (ρ:Rho) (x:Value):ga ρ (ofV x)=x∧∀n,(ofV x).lt n=true:=by
 have h0:∀y:Value,ga ρ (ofV0 y)=y∧∀n,(ofV0 y).lt n=true:=fun y=>by
  unfold ofV0;split
  ·exact⟨by rw[ga,gas_v],fun n=>by rw[SV.lt];exact lts_v n _⟩
  ·exact⟨by rw[ga],fun n=>by rw[SV.lt]⟩
 unfold ofV;split
 ·exact⟨by rw[ga,gas_v],fun n=>by rw[SV.lt];exact lts_v n _⟩
 ·rename_i vs;refine⟨?_,fun n=>?_⟩
  ·rw[ga,gas_eq,List.map_map]
   have:(ga ρ∘ofV0)=id:=by funext y;exact (h0 y).1
   rw[this];simp
  ·rw[SV.lt,lts_iff];intro y hy;simp only[List.mem_map]at hy;obtain⟨z,_,rfl⟩:=hy;exact (h0 z).2 n
 ·rename_i fn first cap
  cases fn with
  | func f =>
   simp only;split
   ·rename_i hf
    have:first=#[]:=by apply Array.ext';simpa using hf
    subst this;exact⟨by rw[ga,gas_v],fun n=>by rw[SV.lt];exact lts_v n _⟩
   ·exact⟨by rw[ga],fun n=>by rw[SV.lt]⟩
  | _=>exact⟨by rw[ga],fun n=>by rw[SV.lt]⟩
 ·exact⟨by rw[ga],fun n=>by rw[SV.lt]⟩
theorem Mem.called {bx:List (Nat×Bx)} {nx:Nat} {H':Hp} {w':World} (hm:Mem B ρ bx nx H w) (hle:Le H H') (hp:∀b o,H' b=some o→w'.heap[b]?=some o)
  (hn:∀b,H b=none→b<w.heap.size→H' b=none) (hb:BelowD w.heap.size w w'):Mem B ρ bx nx H' w':=by
 have h1:=hm.step hb.os hb.tape ⟨hb.output,hb.drawn⟩ hb.size hb.block
 exact { h1 with
  hp:=hp
  hle:=hm.hle.trans hle
  hnew:=fun b h2 h3 h4=>hn b (hm.hnew b h2 h3 h4) (Nat.lt_of_lt_of_le h3 hm.size)
  own:=fun k b g hk ho=>⟨hn g (hm.own k b g hk ho).1 ((hm.ok k b hk).2.1.lt ho),(hm.own k b g hk ho).2⟩ }
theorem call_spec {f:FuncId} {vs:List Value} {K:Value→Hp→Prop} (hs:Does P f vs H K) (hp:∀b o,H b=some o→w.heap[b]?=some o) {o:Oper} {next:Act→World→Prop} {Q:Exit→Act→World→Prop}
  (hn:∀v H' w',K v H'→Le H H'→(∀b o,H' b=some o→w'.heap[b]?=some o)→(∀b,H b=none→b<w.heap.size→H' b=none)→BelowD w.heap.size w w'→next (a.put o.dst v) w'):
  o.upon P a next Q ((callFunc f vs.toArray).run P w):=by
 rw[hs.1];show Calls P f vs.toArray w _
 refine (hs.2 w hp).mono fun e w' h=>?_
 obtain⟨v,H',rfl,h1,h2,h3,h4,h5⟩:=h;exact hn v H' w' h1 h2 h3 h4 h5
theorem ok_callE {f:FuncId} {args:List SV} {T:TypeId} {K:KK} (h:callE C f args T s H K) (hr:Rel C B ρ s H a w) {o:Oper} {next:Act→World→Prop} {Q:Exit→Act→World→Prop}
  (hn:∀x s' H' ρ' w',K x s' H'→Rel C B ρ' s' H' a w'→Le H H'→x.lt s'.nx=true→next (a.put o.dst (ga ρ' x)) w'):
  o.upon C.P a next Q ((callFunc f (gas ρ args).toArray).run C.P w):=by
 unfold callE at h;simp only[fzL2_eq]at h;obtain⟨s1,H1,h1,h2,h3,h4⟩:=fzs_ok args hr h
 cases hf:hfree C 6 T with
 | true =>
  rw[hf]at h1;simp only[cond_true]at h1
  refine call_spec h1 h2.mem.hp fun v H' w' k1 k2 k3 k4 k5=>?_
  have:=hn (ofV v) s H ρ w' k1 ⟨hr.env,hr.sz,hr.defers,hr.mem.step k5.os k5.tape ⟨k5.output,k5.drawn⟩ k5.size k5.block⟩ (Le.refl H) ((ofV_ga ρ v).2 _);rwa[(ofV_ga ρ v).1]at this
 | false =>
  rw[hf]at h1;simp only[cond_false]at h1
  refine call_spec h1 h2.mem.hp fun v H' w' k1 k2 k3 k4 k5=>?_
  have:=hn (ofV v) s1 H' ρ w' k1 ⟨h2.env,h2.sz,h2.defers.up k2,h2.mem.called k2 k3 k4 k5⟩ (h3.trans k2) ((ofV_ga ρ v).2 _);rwa[(ofV_ga ρ v).1]at this
end
end Go.Sy
end
section
namespace Go.Sy
open Go.RowKit (Below)
section
variable {C:Cx} {B:Bs} {ρ:Rho} {s:St} {H:Hp} {a:Act} {w:World} {P:Program}
def Good (f:Nat→Option Nat) (ρ:Rho) (n:Nat) (ρ':Rho) (n':Nat):Prop:=∀k j,f k=some j→k<n→j<n'∧ρ'.b j=ρ.b k∧ρ'.sl j=ρ.sl k
theorem ble_of_lt {k n:Nat} (h:k<n):Nat.ble (k+1) n=true:=Nat.ble_eq_true_of_le h
variable {f:Nat→Option Nat} {n n':Nat} {ρ':Rho}
theorem ren0_ok (hg:Good f ρ n ρ' n') {x y:SV} (h:ren0 f x=some y) (hl:x.lt n=true):ga ρ' y=ga ρ x∧y.lt n'=true:=by
 cases x with
 | v x=>cases h;rw[ga,ga,SV.lt];exact⟨rfl,rfl⟩
 | kb b=>cases h;rw[ga,ga,SV.lt];exact⟨rfl,rfl⟩
 | el a i sz off=>cases h;rw[SV.lt];exact⟨by cases a<;>rfl,rfl⟩
 | ptr k off =>
  simp only[ren0]at h
  cases hj:f k with
  | none=>rw[hj]at h;cases h
  | some j =>
   rw[hj]at h;cases h;rw[SV.lt]at hl;obtain⟨h1,h2,h3⟩:=hg k j hj (Nat.le_of_ble_eq_true hl);rw[ga,ga,h2,SV.lt];exact⟨rfl,ble_of_lt h1⟩
 | rel k m i off =>
  simp only[ren0]at h
  cases hj:f k with
  | none=>rw[hj]at h;cases h
  | some j =>
   rw[hj]at h;cases h;rw[SV.lt]at hl;obtain⟨h1,h2,h3⟩:=hg k j hj (Nat.le_of_ble_eq_true hl);rw[ga,ga,h2,SV.lt];exact⟨rfl,ble_of_lt h1⟩
 | own k =>
  simp only[ren0]at h
  cases hj:f k with
  | none=>rw[hj]at h;cases h
  | some j =>
   rw[hj]at h;cases h;rw[SV.lt]at hl;obtain⟨h1,h2,h3⟩:=hg k j hj (Nat.le_of_ble_eq_true hl);rw[ga,ga,Rho.val,Rho.val,h3,SV.lt];exact⟨rfl,ble_of_lt h1⟩
 | sub k sz lo m =>
  simp only[ren0]at h
  cases hj:f k with
  | none=>rw[hj]at h;cases h
  | some j =>
   rw[hj]at h;cases h;rw[SV.lt]at hl;obtain⟨h1,h2,h3⟩:=hg k j hj (Nat.le_of_ble_eq_true hl);rw[ga,ga,Rho.part,Rho.part,h3,SV.lt];exact⟨rfl,ble_of_lt h1⟩
 | mp k =>
  simp only[ren0]at h
  cases hj:f k with
  | none=>rw[hj]at h;cases h
  | some j =>
   rw[hj]at h;cases h;rw[SV.lt]at hl;obtain⟨h1,h2,h3⟩:=hg k j hj (Nat.le_of_ble_eq_true hl);rw[ga,ga,h2,SV.lt];exact⟨rfl,ble_of_lt h1⟩
 | agg cs=>cases h
 | fn g cs=>cases h
 | tup cs=>cases h
def RenOK (ρ:Rho) (n:Nat) (ρ':Rho) (n':Nat) (g:SV→Option SV):Prop:=∀x y,g x=some y→x.lt n=true→ga ρ' y=ga ρ x∧y.lt n'=true
theorem renL_ok {g:SV→Option SV} (hg:RenOK ρ n ρ' n' g):∀ {l r:List SV},renL g l=some r→SV.lts n l=true→gas ρ' r=gas ρ l∧SV.lts n' r=true
 | [],r,h,_=>by
  simp only[renL,Option.some.injEq]at h;subst h;exact⟨by rw[gas,gas],by rw[SV.lts]⟩
 | x::l,r,h,hl=>by
  rw[renL]at h;rw[lts_iff]at hl;split at h
  ·rename_i y hy;split at h
   ·rename_i l' hl';simp only[Option.some.injEq]at h;subst h;obtain⟨h1,h2⟩:=hg x y hy (hl x List.mem_cons_self);obtain⟨h3,h4⟩:=renL_ok hg hl' ((lts_iff n l).2 fun z hz=>hl z (List.mem_cons_of_mem _ hz));exact⟨by rw[gas,gas,h1,h3],by rw[SV.lts,h2];exact h4⟩
   ·cases h
  ·cases h
theorem ren1_ok (hg:Good f ρ n ρ' n'):RenOK ρ n ρ' n' (ren1 f):=by
 intro x y h hl
 have h0:RenOK ρ n ρ' n' (ren0 f):=fun x y h hl=>ren0_ok hg h hl
 unfold ren1 at h;split at h
 ·split at h
  ·rename_i cs l hl';cases h;rw[SV.lt]at hl;obtain⟨h1,h2⟩:=renL_ok h0 hl' hl;rw[ga,ga,h1,SV.lt];exact⟨rfl,h2⟩
  ·cases h
 ·split at h
  ·rename_i cs l hl';cases h;rw[SV.lt]at hl;obtain⟨h1,h2⟩:=renL_ok h0 hl' hl;rw[ga,ga,h1,SV.lt];exact⟨rfl,h2⟩
  ·cases h
 ·split at h
  ·rename_i cs l hl';cases h;rw[SV.lt]at hl;obtain⟨h1,h2⟩:=renL_ok h0 hl' hl;rw[ga,ga,h1,SV.lt];exact⟨rfl,h2⟩
  ·cases h
 ·exact h0 _ _ h hl
theorem ren2_ok (hg:Good f ρ n ρ' n'):RenOK ρ n ρ' n' (ren2 f):=by
 intro x y h hl;have h0:RenOK ρ n ρ' n' (ren1 f):=ren1_ok hg;unfold ren2 at h;split at h
 ·split at h
  ·rename_i cs l hl';cases h;rw[SV.lt]at hl;obtain⟨h1,h2⟩:=renL_ok h0 hl' hl;rw[ga,ga,h1,SV.lt];exact⟨rfl,h2⟩
  ·cases h
 ·split at h
  ·rename_i cs l hl';cases h;rw[SV.lt]at hl;obtain⟨h1,h2⟩:=renL_ok h0 hl' hl;rw[ga,ga,h1,SV.lt];exact⟨rfl,h2⟩
  ·cases h
 ·split at h
  ·rename_i cs l hl';cases h;rw[SV.lt]at hl;obtain⟨h1,h2⟩:=renL_ok h0 hl' hl;rw[ga,ga,h1,SV.lt];exact⟨rfl,h2⟩
  ·cases h
 ·exact ren0_ok hg h hl
theorem renB_ok (hg:Good f ρ n ρ' n') {b b':Bx} {k j:Nat} (hk:f k=some j) (hkn:k<n) (h:renB f b=some b') (hb:BoxOK ρ w k b) (hl:b.lt n=true):
  BoxOK ρ' w j b'∧b'.lt n'=true∧∀g,Owns ρ' j b' g↔Owns ρ k b g:=by
 obtain⟨_,e1,e2⟩:=hg k j hk hkn
 have e3:ρ'.val j=ρ.val k:=by rw[Rho.val,Rho.val,e2]
 unfold renB at h;split at h
 ·split at h
  ·rename_i T cs l hl';cases h;obtain⟨h1,h2⟩:=renL_ok (ren1_ok hg) hl' hl;refine⟨?_,h2,fun g=>?_⟩
   ·simp only[BoxOK]at *
    rw[e1,h1];exact hb
   ·simp only[Owns,e1]
  ·cases h
 ·cases h;refine⟨?_,rfl,fun g=>?_⟩
  ·simp only[BoxOK]at *
   rw[e3,e1];exact hb
  ·simp only[Owns,e3]
 ·cases h;refine⟨?_,rfl,fun g=>Iff.rfl⟩;simp only[BoxOK]at *
  rw[e3];exact hb
 ·cases h;refine⟨?_,rfl,fun g=>?_⟩
  ·simp only[BoxOK]at *
   rw[e1];exact hb
  ·simp only[Owns,e1]
 ·cases h;exact⟨hb,rfl,fun g=>Iff.rfl⟩
 ·cases h;exact⟨trivial,rfl,fun g=>Iff.rfl⟩
theorem renBs_lk:∀ {l r:List (Nat×Bx)},renBs f l=some r→∀ {j:Nat} {b':Bx},lk r j=some b'→∃k b,lk l k=some b∧f k=some j∧renB f b=some b'
 | [],r,h,j,b',hj=>by
  simp only[renBs,Option.some.injEq]at h;subst h;simp [lk]at hj
 | (k,b)::l,r,h,j,b',hj=>by
  rw[renBs]at h;split at h
  ·rename_i j0 hj0;split at h
   ·rename_i b0 hb0;split at h
    ·rename_i l' hl';simp only[Option.some.injEq]at h;subst h;rw[lk_cons]at hj;split at hj
     ·rename_i e;subst e;cases hj;exact⟨k,b,by rw[lk_cons,if_pos rfl],hj0,hb0⟩
     ·rename_i hne;obtain⟨k2,b2,h1,h2,h3⟩:=renBs_lk hl' hj;refine⟨k2,b2,?_,h2,h3⟩;rw[lk_cons,if_neg]
      ·exact h1
      ·intro e;subst e;rw[hj0]at h2;exact hne (Option.some.inj h2)
    ·cases h
   ·cases h
  ·cases h
theorem hasN_iff {k:Nat}:∀ {l:List Nat},hasN k l=true↔k∈l
 | []=>by simp [hasN]
 | j::r=>by
  rw[hasN]
  cases h:Nat.beq j k with
  | true=>simp [beq_t h]
  | false =>
   have:=beq_f h;simp only[cond_false,hasN_iff (l:=r),List.mem_cons];exact⟨.inr,fun h=>h.resolve_left fun e=>this e.symm⟩
theorem nodupN_iff:∀ {l:List Nat},nodupN l=true→l.Nodup
 | [],_=>List.nodup_nil
 | k::r,h=>by
  rw[nodupN]at h
  cases hk:hasN k r with
  | true=>rw[hk]at h;cases h
  | false =>
   rw[hk]at h;refine List.nodup_cons.2 ⟨fun hm=>?_,nodupN_iff h⟩;rw[hasN_iff.2 hm]at hk;cases hk
theorem fk_get:∀ {m:List Nat} {i k j:Nat},fk m i k=some j→i≤j∧m[j - i]?=some k
 | [],i,k,j,h=>by simp [fk]at h
 | x::r,i,k,j,h=>by
  rw[fk]at h
  cases hx:Nat.beq x k with
  | true=>rw[hx]at h;cases h;simp [beq_t hx]
  | false =>
   rw[hx]at h;obtain⟨h1,h2⟩:=fk_get h;refine⟨by omega,?_⟩;rw[show j - i=(j - (i+1))+1 by omega]
   simpa using h2
theorem rk_lt:∀ {m:List Nat} {nx i:Nat},i<m.length→m[i]?=some (rk m nx i)
 | x::r,nx,0,_=>by simp [rk]
 | x::r,nx,i+1,h=>by
  rw[rk]
  simpa using rk_lt (m:=r) (nx:=nx) (by simpa using h)
theorem rk_ge:∀ {m:List Nat} {nx i:Nat},m.length≤i→rk m nx i=nx+(i - m.length)
 | [],nx,i,_=>by simp [rk]
 | x::r,nx,i+1,h=>by
  rw[rk,rk_ge (m:=r) (by simpa using h)];simp
theorem lendB_lk {m:List Nat} {bx:List (Nat×Bx)}:∀ {i:Nat} {r:List Nat} {bl:List (Nat×Bx)},lendB m bx i r=some bl →
  (∀j b',lk bl j=some b'→i≤j∧∃k b,r[j - i]?=some k∧lk bx k=some b∧renB (fk m 0) b=some b')∧∀k∈r,∃b,lk bx k=some b
 | i,[],bl,h=>by
  simp only[lendB,Option.some.injEq]at h;subst h;exact⟨fun j b' h=>by simp [lk]at h,fun k hk=>by simp at hk⟩
 | i,k::r,bl,h=>by
  rw[lendB]at h;split at h
  ·rename_i b hb;split at h
   ·rename_i b1 hb1;split at h
    ·rename_i l hl;simp only[Option.some.injEq]at h;subst h;obtain⟨h1,h2⟩:=lendB_lk hl;refine⟨fun j b' hj=>?_,fun k' hk=>?_⟩
     ·rw[lk_cons]at hj;split at hj
      ·rename_i e;subst e;cases hj;exact⟨Nat.le_refl _,k,b,by simp,hb,hb1⟩
      ·obtain⟨h3,k',b0,h4,h5,h6⟩:=h1 j b' hj;refine⟨by omega,k',b0,?_,h5,h6⟩;rw[show j - i=(j - (i+1))+1 by omega]
       simpa using h4
     ·rcases List.mem_cons.1 hk with rfl | hk
      ·exact⟨b,hb⟩
      ·exact h2 k' hk
    ·cases h
   ·cases h
  ·cases h
theorem deadB_lk {bx:List (Nat×Bx)} {k:Nat} {b:Bx}:∀ {m:List Nat},lk (deadB m bx) k=some b→(k∈m∧b = .dead)∨(k ∉ m∧lk bx k=some b)
 | [],h=>.inr ⟨by simp,h⟩
 | j::r,h=>by
  rw[deadB,lk_cons]at h;split at h
  ·rename_i e;cases h;exact .inl ⟨by simp [e],rfl⟩
  ·rename_i hne
   rcases deadB_lk h with ⟨h1,h2⟩ | ⟨h1,h2⟩
   ·exact .inl ⟨List.mem_cons_of_mem _ h1,h2⟩
   ·exact .inr ⟨fun hm=>(List.mem_cons.1 hm).elim (fun e=>hne e.symm) h1,h2⟩
theorem lk_append {α:Type} (k:Nat):∀(l r:List (Nat×α)),lk (l++r) k=match lk l k with | some x=>some x | none=>lk r k
 | [],r=>rfl
 | (j,x)::l,r=>by
  rw[List.cons_append,lk_cons,lk_cons,lk_append k l r]
  split<;>rfl
theorem argsG_ok (m:List Nat):∀(l:List SV) {s:St} {H:Hp} {K:List SV→St→Hp→Prop},Rel C B ρ s H a w→SV.lts s.nx l=true→argsG m l s H K →
  ∃ys s' H',K ys s' H'∧Rel C B ρ s' H' a w∧Le H H'∧s'.nx=s.nx∧∀ρ' n',Good (fk m 0) ρ s.nx ρ' n'→gas ρ' ys=gas ρ l∧SV.lts n' ys=true
 | [],s,H,K,hr,_,h=>⟨[],s,H,h,hr,Le.refl H,rfl,fun _ _ _=>⟨by rw[gas,gas],by rw[SV.lts]⟩⟩
 | x::r,s,H,K,hr,hl,h=>by
  rw[lts_iff]at hl;have hx:=hl x List.mem_cons_self
  have hrl:=(lts_iff s.nx r).2 fun z hz=>hl z (List.mem_cons_of_mem _ hz)
  rw[argsG]at h;split at h
  ·rename_i y hy;obtain⟨ys,s',H',h1,h2,h3,h4,h5⟩:=argsG_ok m r hr hrl h;refine⟨y::ys,s',H',h1,h2,h3,h4,fun ρ' n' hg=>?_⟩;obtain⟨h6,h7⟩:=h5 ρ' n' hg;obtain⟨h8,h9⟩:=ren2_ok hg x y hy hx;exact⟨by rw[gas,gas,h6,h8],by rw[SV.lts,h9];exact h7⟩
  ·rw[fz2_eq]at h;obtain⟨s1,H1,k1,k2,k3,k4⟩:=fz_ok x hr h;obtain⟨ys,s',H',h1,h2,h3,h4,h5⟩:=argsG_ok m r k2 (by rw[k4];exact hrl) k1;refine⟨_::ys,s',H',h1,h2,k3.trans h3,h4.trans k4,fun ρ' n' hg=>?_⟩;obtain⟨h6,h7⟩:=h5 ρ' n' (by rw[k4];exact hg);exact⟨by rw[gas,gas,h6,(ofV_ga ρ' _).1],by rw[SV.lts,(ofV_ga ρ' _).2];exact h7⟩
theorem Mem.lend {bx bl:List (Nat×Bx)} {nx:Nat} {m:List Nat} (hm:Mem B ρ bx nx H w) (hnd:nodupN m=true) (hbl:lendB m bx 0 m=some bl):
  ∃ρl,Good (fk m 0) ρ nx ρl m.length∧Mem (Bs.lent w ρl bl m.length H) ρl bl m.length H w ∧
   (∀i,i<m.length→ρl.b i=ρ.b (rk m nx i)∧ρl.sl i=ρ.sl (rk m nx i))∧(∀g,(Bs.lent w ρl bl m.length H).E g↔∃k b,k∈m∧lk bx k=some b∧Owns ρ k b g∧∃b',renB (fk m 0) b=some b'):=by
 let ρl:Rho:=⟨fun i=>ρ.b (rk m nx i),fun i=>ρ.sl (rk m nx i)⟩
 have hN:=nodupN_iff hnd;obtain⟨hlk,hall⟩:=lendB_lk hbl
 have hfk:∀k j,fk m 0 k=some j→j<m.length∧m[j]?=some k∧rk m nx j=k:=fun k j h=>by
  obtain⟨_,h1⟩:=fk_get h;have h2:=(List.getElem?_eq_some_iff.1 h1).1;rw[Nat.sub_zero]at h1 h2;refine⟨h2,h1,?_⟩;have:=rk_lt (m:=m) (nx:=nx) h2;rw[h1]at this;exact (Option.some.inj this).symm
 have hkf:∀i k,m[i]?=some k→fk m 0 k=some i:=fun i k h=>by
  have hex:∀(r:List Nat) (o i:Nat),r[i]?=some k→∃j,fk r o k=some j:=by
   intro r
   induction r with
   | nil=>intro o i h;simp at h
   | cons x r ih =>
    intro o i h;rw[fk]
    cases hx:Nat.beq x k with
    | true=>exact⟨_,rfl⟩
    | false =>
     cases i with
     | zero=>simp at h;subst h;simp at hx
     | succ i=>simp at h;exact ih (o+1) i h
  obtain⟨j,hj⟩:=hex m 0 i h;obtain⟨h1,h2,_⟩:=hfk k j hj;rw[hj]
  congr 1
  exact (List.getElem?_inj h1 hN).1 (h2.trans h.symm)
 have hgood:Good (fk m 0) ρ nx ρl m.length:=fun k j h _=>by
  obtain⟨h1,h2,h3⟩:=hfk k j h;refine⟨h1,?_,?_⟩
  ·show ρ.b (rk m nx j)=_;rw[h3]
  ·show ρ.sl (rk m nx j)=_;rw[h3]
 have hbox:∀i b',lk bl i=some b'→∃k b,m[i]?=some k∧lk bx k=some b∧renB (fk m 0) b=some b'∧BoxOK ρl w i b'∧b'.lt m.length=true∧∀g,Owns ρl i b' g↔Owns ρ k b g:=fun i b' h=>by
  obtain⟨_,k,b,h1,h2,h3⟩:=hlk i b' h;rw[Nat.sub_zero]at h1;obtain⟨k1,k2,k3⟩:=hm.ok k b h2;obtain⟨e1,e2,e3⟩:=renB_ok hgood (hkf i k h1) k1 h3 k2 k3;exact⟨k,b,h1,h2,h3,e1,e2,e3⟩
 refine⟨ρl,hgood,?_,fun i _=>⟨rfl,rfl⟩,fun g=>⟨fun⟨i,b',h1,h2⟩=>?_,fun⟨k,b,h1,h2,h3,b',h4⟩=>?_⟩⟩
 ·exact
  {os:=rfl,tape:=rfl,output:=OD.refl _,size:=Nat.le_refl _,frame:=fun _ _ _=>rfl,base:=Nat.le_refl _,agree:=fun _ _=>⟨rfl,rfl⟩
   hp:=hm.hp,hle:=Le.refl H,hnew:=fun _ h _ _=>h
   ok:=fun i b' h=>by
    obtain⟨k,b,h1,_,_,h4,h5,_⟩:=hbox i b' h;exact⟨(List.getElem?_eq_some_iff.1 h1).1,h4,h5⟩
   own:=fun i b' g h ho=>by
    obtain⟨k,b,_,h2,_,_,_,h6⟩:=hbox i b' h;exact⟨(hm.own k b g h2 ((h6 g).1 ho)).1,.inr ⟨i,b',h,ho⟩⟩
   disj:=fun i i' b b' g h h' ho ho'=>by
    obtain⟨k,c,h1,h2,_,_,_,h6⟩:=hbox i b h;obtain⟨k',c',h1',h2',_,_,_,h6'⟩:=hbox i' b' h';have e:=hm.disj k k' c c' g h2 h2' ((h6 g).1 ho) ((h6' g).1 ho');subst e
    exact (List.getElem?_inj (List.getElem?_eq_some_iff.1 h1).1 hN).1 (h1.trans h1'.symm) }
 ·obtain⟨k,b,e1,e2,e3,_,_,e6⟩:=hbox i b' h1;exact⟨k,b,List.mem_of_getElem? e1,e2,(e6 g).1 h2,b',e3⟩
 ·obtain⟨i,hi⟩:=List.getElem?_of_mem h1
  have hin:∀(r:List Nat) (o:Nat) (l:List (Nat×Bx)),lendB m bx o r=some l→∀i,r[i]?=some k→∃b',lk l (o+i)=some b':=by
   intro r
   induction r with
   | nil=>intro o l _ i h;simp at h
   | cons x r ih =>
    intro o l hl i hi;rw[lendB]at hl;split at hl
    ·split at hl
     ·split at hl
      ·rename_i l' hl';simp only[Option.some.injEq]at hl;subst hl
       cases i with
       | zero=>exact⟨_,by rw[Nat.add_zero,lk_cons,if_pos rfl]⟩
       | succ i =>
        simp at hi;obtain⟨b',hb'⟩:=ih (o+1) l' hl' i hi;rw[show o+1+i=o+(i+1) by omega]at hb';exact⟨b',by rw[lk_cons,if_neg (by omega)];exact hb'⟩
      ·cases hl
     ·cases hl
    ·cases hl
  obtain⟨c,hc⟩:=hin m 0 bl hbl i hi;rw[Nat.zero_add]at hc;obtain⟨k',b2,e1,e2,_,_,_,e6⟩:=hbox i c hc;rw[hi]at e1;obtain rfl:=Option.some.inj e1;rw[h2]at e2;obtain rfl:=Option.some.inj e2;exact⟨i,c,hc,(e6 g).2 h3⟩
theorem Mem.merge {bx bl b2:List (Nat×Bx)} {nx:Nat} {m:List Nat} {ρl ρ2:Rho} {t:St} {H2:Hp} {w':World} (hm:Mem B ρ bx nx H w) (hbl:lendB m bx 0 m=some bl)
  (hml:∀i,i<m.length→ρl.b i=ρ.b (rk m nx i)∧ρl.sl i=ρ.sl (rk m nx i)) (hE:∀g,(Bs.lent w ρl bl m.length H).E g↔∃k b,k∈m∧lk bx k=some b∧Owns ρ k b g∧∃b',renB (fk m 0) b=some b')
  (hm2:Mem (Bs.lent w ρl bl m.length H) ρ2 t.bx t.nx H2 w') (hb2:renBs (fun i=>some (rk m nx i)) t.bx=some b2):
  ∃ρ3,Same nx ρ ρ3∧Good (fun i=>some (rk m nx i)) ρ2 t.nx ρ3 (nx+(t.nx - m.length))∧Mem B ρ3 (b2++deadB m bx) (nx+(t.nx - m.length)) H2 w':=by
 let ρ3:Rho:=⟨fun k=>if k<nx then ρ.b k else ρ2.b (k - nx+m.length),fun k=>if k<nx then ρ.sl k else ρ2.sl (k - nx+m.length)⟩
 obtain⟨_,hall⟩:=lendB_lk hbl;have hbase:m.length≤t.nx:=hm2.base
 have hmn:∀k∈m,k<nx:=fun k hk=>by
  obtain⟨b,hb⟩:=hall k hk;exact (hm.ok k b hb).1
 have hsame:Same nx ρ ρ3:=fun k hk=>⟨if_pos hk,if_pos hk⟩
 have hgood:Good (fun i=>some (rk m nx i)) ρ2 t.nx ρ3 (nx+(t.nx - m.length)):=fun i j h hi=>by
  simp only[Option.some.injEq]at h;subst h
  by_cases hlt:i<m.length
  ·have h1:=rk_lt (nx:=nx) hlt;have h2:=hmn _ (List.mem_of_getElem? h1);obtain⟨h3,h4⟩:=hml i hlt;obtain⟨h5,h6⟩:=hm2.agree i hlt;refine⟨by omega,?_,?_⟩
   ·rw[(hsame _ h2).1,←h3];exact h5.symm
   ·rw[(hsame _ h2).2,←h4];exact h6.symm
  ·have h1:=rk_ge (nx:=nx) (Nat.le_of_not_lt hlt);rw[h1]
   have h2:¬nx+(i - m.length)<nx:=by omega
   have h3:nx+(i - m.length) - nx+m.length=i:=by omega
   refine⟨by omega,?_,?_⟩
   ·show (if _ then _ else _)=_;rw[if_neg h2,h3]
   ·show (if _ then _ else _)=_;rw[if_neg h2,h3]
 have new:∀k b,lk b2 k=some b→∃i b0,lk t.bx i=some b0∧rk m nx i=k∧k<nx+(t.nx - m.length)∧BoxOK ρ3 w' k b∧b.lt (nx+(t.nx - m.length))=true∧∀g,Owns ρ3 k b g↔Owns ρ2 i b0 g:=fun k b h=>by
  obtain⟨i,b0,h1,h2,h3⟩:=renBs_lk hb2 h;obtain⟨k1,k2,k3⟩:=hm2.ok i b0 h1;obtain⟨e1,e2,e3⟩:=renB_ok hgood h2 k1 h3 k2 k3;have h4:=(hgood i k h2 k1).1;simp only[Option.some.injEq]at h2;exact⟨i,b0,h1,h2,h4,e1,e2,e3⟩
 have nE:∀k b g,k ∉ m→lk bx k=some b→Owns ρ k b g→¬(Bs.lent w ρl bl m.length H).E g:=fun k b g hk hb ho he=>by
  obtain⟨k',b',h1,h2,h3,_⟩:=(hE g).1 he;have:=hm.disj k k' b b' g hb h2 ho h3;subst this;exact hk h1
 have old:∀k b,k ∉ m→lk bx k=some b→k<nx∧BoxOK ρ3 w' k b∧b.lt nx=true∧∀g,Owns ρ3 k b g→Owns ρ k b g:=fun k b hk hb=>by
  obtain⟨h1,h2,h3⟩:=hm.ok k b hb;refine⟨h1,(h2.heap fun g ho=>?_).same hsame h1 h3,h3,fun g ho=>ho.same hsame h1⟩;exact hm2.frame g (h2.lt ho) (nE k b g hk hb ho)
 refine⟨ρ3,hsame,hgood,?_⟩
 have hEB:∀g,(Bs.lent w ρl bl m.length H).E g→H g=none∧(B.N≤g∨B.E g)∧g<w.heap.size:=fun g he=>by
  obtain⟨k,b,_,h2,h3,_⟩:=(hE g).1 he;obtain⟨h4,h5⟩:=hm.own k b g h2 h3;exact⟨h4,h5,(hm.ok k b h2).2.1.lt h3⟩
 have hnx:nx≤nx+(t.nx - m.length):=Nat.le_add_right _ _
 have split:∀k b,lk (b2++deadB m bx) k=some b→lk b2 k=some b∨(b = .dead∧k∈m)∨(k ∉ m∧lk bx k=some b):=fun k b h=>by
  rw[lk_append]at h;split at h
  ·rename_i x hx;cases h;exact .inl hx
  ·rcases deadB_lk h with ⟨h1,h2⟩ | h1
   ·exact .inr (.inl ⟨h2,h1⟩)
   ·exact .inr (.inr h1)
 exact
 {os:=hm2.os.trans hm.os,tape:=hm2.tape.trans hm.tape,output:=hm.output.trans hm2.output
  size:=Nat.le_trans hm.size hm2.size
  frame:=fun g hg hge=>by
   refine (hm2.frame g (Nat.lt_of_lt_of_le hg hm.size) fun he=>?_).trans (hm.frame g hg hge)
   rcases (hEB g he).2.1 with h | h
   ·omega
   ·exact hge h
  base:=Nat.le_trans hm.base hnx
  agree:=fun k hk=>by
   have:=hsame k (Nat.lt_of_lt_of_le hk hm.base)
   rw[this.1,this.2];exact hm.agree k hk
  hp:=hm2.hp
  hle:=hm.hle.trans hm2.hle
  hnew:=fun g h1 h2 h3=>hm2.hnew g (hm.hnew g h1 h2 h3) (Nat.lt_of_lt_of_le h2 hm.size) fun he=>by
   rcases (hEB g he).2.1 with h | h
   ·omega
   ·exact h3 h
  ok:=fun k b h=>by
   rcases split k b h with h | ⟨rfl,hkm⟩ | ⟨h1,h2⟩
   ·obtain⟨i,b0,_,_,h4,h5,h6,_⟩:=new k b h;exact⟨h4,h5,h6⟩
   ·exact⟨Nat.lt_of_lt_of_le (hmn k hkm) hnx,trivial,rfl⟩
   ·obtain⟨h3,h4,h5,_⟩:=old k b h1 h2;refine⟨Nat.lt_of_lt_of_le h3 hnx,h4,?_⟩
    cases b with
    | cells T cs=>exact lts_mono hnx cs h5
    | _=>rfl
  own:=fun k b g h ho=>by
   rcases split k b h with h | ⟨rfl,h⟩ | ⟨h1,h2⟩
   ·obtain⟨i,b0,h1,_,_,_,_,h7⟩:=new k b h;obtain⟨h8,h9⟩:=hm2.own i b0 g h1 ((h7 g).1 ho);refine⟨h8,?_⟩
    rcases h9 with h9 | h9
    ·exact .inl (Nat.le_trans hm.size h9)
    ·exact (hEB g h9).2.1
   ·exact ho.elim
   ·obtain⟨h3,_,_,h6⟩:=old k b h1 h2;obtain⟨h7,h8⟩:=hm.own k b g h2 (h6 g ho);exact⟨hm2.hnew g h7 ((hm.ok k b h2).2.1.lt (h6 g ho)) (nE k b g h1 h2 (h6 g ho)),h8⟩
  disj:=fun k k' b b' g h h' ho ho'=>by
   have mix:∀k b k' b',lk b2 k=some b→k' ∉ m→lk bx k'=some b'→Owns ρ3 k b g→Owns ρ3 k' b' g→False:=fun k b k' b' h h1 h2 ho ho'=>by
    obtain⟨i,b0,e1,_,_,_,_,e7⟩:=new k b h;obtain⟨e3,_,_,e6⟩:=old k' b' h1 h2;have ho2:=e6 g ho'
    rcases (hm2.own i b0 g e1 ((e7 g).1 ho)).2 with h9 | h9
    ·have:=(hm.ok k' b' h2).2.1.lt ho2;exact absurd h9 (Nat.not_le_of_lt this)
    ·exact nE k' b' g h1 h2 ho2 h9
   rcases split k b h with h | ⟨rfl,h⟩ | ⟨h1,h2⟩
   ·rcases split k' b' h' with h' | ⟨rfl,h'⟩ | ⟨h1',h2'⟩
    ·obtain⟨i,b0,e1,e2,_,_,_,e7⟩:=new k b h;obtain⟨i',b0',e1',e2',_,_,_,e7'⟩:=new k' b' h';have:=hm2.disj i i' b0 b0' g e1 e1' ((e7 g).1 ho) ((e7' g).1 ho');rw[←e2,←e2',this]
    ·exact ho'.elim
    ·exact (mix k b k' b' h h1' h2' ho ho').elim
   ·exact ho.elim
   ·rcases split k' b' h' with h' | ⟨rfl,h'⟩ | ⟨h1',h2'⟩
    ·exact (mix k' b' k b h' h1 h2 ho' ho).elim
    ·exact ho'.elim
    ·obtain⟨_,_,_,e6⟩:=old k b h1 h2;obtain⟨_,_,_,e6'⟩:=old k' b' h1' h2'
     exact hm.disj k k' b b' g h2 h2' (e6 g ho) (e6' g ho') }
theorem ok_callG {f:FuncId} {args:List SV} {K:KK} (h:callG C f args s H K) (hl:SV.lts s.nx args=true) (hr:Rel C B ρ s H a w) {o:Oper} {next:Act→World→Prop} {Q:Exit→Act→World→Prop}
  (hn:∀x s' H' ρ' w',K x s' H'→Rel C B ρ' s' H' a w'→Le H H'→x.lt s'.nx=true→next (a.put o.dst (ga ρ' x)) w'):
  o.upon C.P a next Q ((callFunc f (gas ρ args).toArray).run C.P w):=by
 obtain⟨m,hnd,h⟩:=h;obtain⟨ys,s1,H1,h1,h2,h3,h4,h5⟩:=argsG_ok m args hr hl h;obtain⟨env1,bx1,nx1⟩:=s1;simp only at h1 h4;subst h4;split at h1
 ·exact h1.elim
 ·rename_i bl hbl;obtain⟨ρl,hg,hml,hmap,hE⟩:=Mem.lend h2.mem hnd hbl;obtain⟨e1,e2⟩:=h5 ρl m.length hg;rw[h1.1,←e1];show Calls C.P f (gas ρl ys).toArray w _
  refine (h1.2 w ρl hml e2).mono fun e w' ⟨x,t,H2,ρ2,he,hK,hx,hm2⟩=>?_
  subst he;simp only at hK;split at hK
  ·exact hK.elim
  ·rename_i y hy;split at hK
   ·exact hK.elim
   ·rename_i b2 hb2;obtain⟨ρ3,hs3,hg3,hm3⟩:=Mem.merge h2.mem hbl hmap hE hm2 hb2;obtain⟨e3,e4⟩:=ren2_ok hg3 x y hy hx;have:=hn y _ H2 ρ3 w' hK ⟨fun u z hu=>?_,h2.sz,h2.defers.up hm2.hle,hm3⟩ (h3.trans hm2.hle) e4
    ·rwa[e3]at this
    ·obtain⟨g1,g2⟩:=h2.env u z hu;exact⟨by rw[g1,ga_same hs3 z g2],lt_mono (Nat.le_add_right _ _) z g2⟩
theorem exec_builtin {o:Oper} {c:Call} {b:Builtin} (ho:o.op = .call c) (hc:c.callee = .builtin b) (ev:Operand→Value) (w:World):
  (execOp ev o).run P w=(builtin b c.argTypes o.type (c.args.map fun | .const _=>true | _=>false) (c.args.map ev)).run P w:=by
 simp only[execOp,ho,resolve,hc,Sem.run_bind,Sem.run_pure,Result.andThen_ok,invoke]
 rfl
theorem ok_value {c:Call} {g:Operand} {T:TypeId} {K:KK} (hc:c.callee = .value g) (h:match get s g with
   | some (.fn f cap)=>match gets s c.args.toList with
    | some vs=>bif hasN f C.xf then callX C f (vs++cap) s H K else bif hasN f C.gf then callG C f (vs++cap) s H K else callE C f (vs++cap) T s H K
    | none=>False
   | _=>RawOp C s (.call c) T H K):RawOp C s (.call c) T H K:=by
 split at h
 ·rename_i f cap hg;split at h
  ·rename_i vs hvs;intro B ρ o a w ho hT hr next Q hn;have h1:=(eval_get hr hg).1;have h2:=(eval_gets hr hvs).1;rw[ga]at h1
   have h3:c.args.map a.eval=(gas ρ vs).toArray:=by apply Array.ext';simpa using h2
   unfold Oper.wp
   have h4:(execOp a.eval o).run C.P w=(callFunc f (gas ρ (vs++cap)).toArray).run C.P w:=by
    simp only[execOp,ho,resolve,hc,h1,Deferred.ofValue,Sem.run_bind,Sem.run_pure,Result.andThen_ok,invoke,h3]
    congr 2
    simp [gas_eq]
   rw[h4]
   have hlts:SV.lts s.nx (vs++cap)=true:=by
    have hc:=(eval_get hr hg).2;rw[SV.lt]at hc;rw[lts_iff]at *;intro x hx
    rcases List.mem_append.1 hx with hx | hx
    ·exact (lts_iff _ _).1 (eval_gets hr hvs).2 x hx
    ·exact hc x hx
   cases hxf:hasN f C.xf with
   | true =>
    rw[hxf]at h;obtain⟨x,bx',nx',H',ρ',w',e1,hk,hl,hm,hs,hnx,_,hle⟩:=h B ρ w hr.mem hlts;rw[e1];refine hn _ _ _ _ _ hk ⟨fun t y hy=>?_,hr.sz,hr.defers.up hle,hm⟩ hle hl;obtain⟨a1,a2⟩:=hr.env t y hy;exact⟨by rw[a1,ga_same hs y a2],lt_mono hnx y a2⟩
   | false =>
   rw[hxf]at h;simp only[cond_false]at h
   cases hgf:hasN f C.gf with
   | false=>rw[hgf]at h;exact ok_callE h hr hn
   | true =>
    rw[hgf]at h;exact ok_callG h hlts hr hn
  ·exact h.elim
 ·exact h
end
end Go.Sy
end
section
namespace Go.Sy
open Go.RowKit (Below)
section
variable {C:Cx} {B:Bs} {ρ:Rho} {s:St} {H:Hp} {a:Act} {w:World} {P:Program}
theorem len_own (hr:Rel C B ρ s H a w) {k:Nat} {e:TypeId} {sz:Nat} {xs:List (List Value)} (hk:lk s.bx k=some (.row e sz xs)):(ρ.sl k).2.1=xs.length:=by
 rcases (hr.mem.ok _ _ hk).2.1.1.2 with ⟨h2,h3⟩ | ⟨g,cap,cur,h2,_⟩
 ·simp only[Rho.val,Value.slice.injEq]at h2;omega
 ·simp only[Rho.val,Value.slice.injEq]at h2;exact h2.2.1
theorem ok_len {fb:Prop} (ht:TOK C) {c:Call} {T:TypeId} {K:KK} (hc:c.callee = .builtin .len) (h:match c.args.toList with
    | [x]=>match c.argTypes.toList with
     | [T']=>match C.tt T' with
      | some (_,.slice _)=>match get s x with
       | some (.v (.slice _ n _))=>K (.v (.int .i64 n)) s H
       | some (.own k)=>match lk s.bx k with
        | some (.row _ _ xs)=>K (.v (.int .i64 xs.length)) s H
        | _=>False
       | some (.sub _ _ _ n)=>K (.v (.int .i64 n)) s H
       | _=>False
      | some (_,.string)=>match get s x with
       | some (.v (.string t))=>K (.v (.int .i64 (sl t).length)) s H
       | _=>False
      | _=>fb
     | _=>False
    | _=>False):RawP C s (.call c) T H K∨fb:=by
 split at h
 ·rename_i x hx
  have ha:c.args=#[x]:=by apply Array.ext';simpa using hx
  split at h
  ·rename_i T' hT'
   have hat:c.argTypes=#[T']:=by apply Array.ext';simpa using hT'
   split at h
   ·rename_i i0 e hT;have hu:=(ht _ _ _ hT).2;split at h
    ·rename_i ad n cp hg
     refine .inl fun B ρ o a w ho _ hr=>⟨_,?_,h,by rw[SV.lt]⟩
     have h1:=(eval_get hr hg).1;rw[ga]at h1;rw[exec_builtin ho hc,ha,hat];simp [builtin,Builtin.len_,h1,run_underlying hu,ga,goInt]
    ·rename_i k hg;split at h
     ·rename_i e' sz xs hk
      refine .inl fun B ρ o a w ho _ hr=>⟨_,?_,h,by rw[SV.lt]⟩
      have h1:=(eval_get hr hg).1;have h2:=len_own hr hk;rw[ga]at h1;rw[exec_builtin ho hc,ha,hat];simp [builtin,Builtin.len_,h1,run_underlying hu,ga,goInt,Rho.val,h2]
     ·exact h.elim
    ·rename_i k sz lo n hg
     refine .inl fun B ρ o a w ho _ hr=>⟨_,?_,h,by rw[SV.lt]⟩
     have h1:=(eval_get hr hg).1;rw[ga,Rho.part]at h1;rw[exec_builtin ho hc,ha,hat];simp [builtin,Builtin.len_,h1,run_underlying hu,ga,goInt]
    ·exact h.elim
   ·rename_i i0 hT;have hu:=(ht _ _ _ hT).2;split at h
    ·rename_i t hg
     refine .inl fun B ρ o a w ho _ hr=>⟨_,?_,h,by rw[SV.lt]⟩
     have h1:=(eval_get hr hg).1;rw[ga]at h1;rw[exec_builtin ho hc,ha,hat];simp [builtin,Builtin.len_,h1,run_underlying hu,ga,goInt]
     rfl
    ·exact h.elim
   ·exact .inr h
  ·exact h.elim
 ·exact h.elim
theorem ok_min {fb:Prop} {c:Call} {T:TypeId} {K:KK} (hc:c.callee = .builtin .min) (h:match c.args.toList with
    | [x,y]=>match get s x with
     | some (.v (.int k a))=>match get s y with
      | some (.v (.int _ b))=>K (.v (.int k (min a b))) s H
      | _=>False
     | _=>fb
    | _=>fb):RawP C s (.call c) T H K∨fb:=by
 split at h
 ·rename_i x y hx
  have ha:c.args=#[x,y]:=by apply Array.ext';simpa using hx
  split at h
  ·rename_i k m hg;split at h
   ·rename_i k' n hg'
    refine .inl fun B ρ o a w ho _ hr=>⟨_,?_,h,by rw[SV.lt]⟩
    have h1:=(eval_get hr hg).1;have h2:=(eval_get hr hg').1;rw[ga]at h1 h2;rw[exec_builtin ho hc,ha]
    have e:(if n<m then n else m)=min m n:=by split<;>omega
    simp [builtin,Builtin.min_,Builtin.min2,h1,h2,ga,e]
   ·exact h.elim
  ·exact .inr h
 ·exact .inr h
theorem ok_max {fb:Prop} {c:Call} {T:TypeId} {K:KK} (hc:c.callee = .builtin .max) (h:match c.args.toList with
    | [x,y]=>match get s x with
     | some (.v (.int k a))=>match get s y with
      | some (.v (.int _ b))=>K (.v (.int k (max a b))) s H
      | _=>False
     | _=>fb
    | _=>fb):RawP C s (.call c) T H K∨fb:=by
 split at h
 ·rename_i x y hx
  have ha:c.args=#[x,y]:=by apply Array.ext';simpa using hx
  split at h
  ·rename_i k m hg;split at h
   ·rename_i k' n hg'
    refine .inl fun B ρ o a w ho _ hr=>⟨_,?_,h,by rw[SV.lt]⟩
    have h1:=(eval_get hr hg).1;have h2:=(eval_get hr hg').1;rw[ga]at h1 h2;rw[exec_builtin ho hc,ha]
    have e:(if m<n then n else m)=max m n:=by split<;>omega
    simp [builtin,Builtin.max_,Builtin.max2,h1,h2,ga,e]
   ·exact h.elim
  ·exact .inr h
 ·exact .inr h
def News (w:World) (v:Value) (sz:Nat) (ys:List (List Value)):Prop :=
 (∀y∈ys,y.length=sz∧∀u∈y,u.oneCell'=true) ∧
  ((v = .slice none 0 0∧ys=[])∨∃ad c,v = .slice (some ad) ys.length c∧∀j u,ys.flatten[j]?=some u→w.cell? (ad.add j)=some u)
theorem flat_split {sz:Nat} (hsz:0<sz) {ys:List (List Value)} (h:∀y∈ys,y.length=sz) {j:Nat} {u:Value} (hj:ys.flatten[j]?=some u):
  ∃y,ys[j / sz]?=some y∧y[j % sz]?=some u:=by
 have hl:ys.flatten.length=ys.length*sz:=by
  clear hj
  induction ys with
  | nil=>simp
  | cons x r ih=>rw[List.flatten_cons,List.length_append,h x List.mem_cons_self,ih (fun y hy=>h y (List.mem_cons_of_mem _ hy)),List.length_cons,Nat.add_mul];omega
 have hlt:=(List.getElem?_eq_some_iff.1 hj).1;rw[hl]at hlt;have h1:j / sz<ys.length:=Nat.div_lt_of_lt_mul (by rw[Nat.mul_comm];exact hlt);refine⟨ys[j / sz],List.getElem?_eq_getElem h1,?_⟩;rw[←flat_get (sz:=sz) h (List.getElem?_eq_getElem h1) (j % sz) (Nat.mod_lt _ hsz),Nat.mul_comm,Nat.div_add_mod];exact hj
theorem drop_flat {sz:Nat}:∀ {xs:List (List Value)} (n:Nat),(∀x∈xs,x.length=sz)→(xs.drop n).flatten=xs.flatten.drop (n*sz)
 | [],n,_=>by simp
 | x::r,0,_=>by simp
 | x::r,n+1,h=>by
  have h1:=h x List.mem_cons_self;rw[List.drop_succ_cons,drop_flat n (fun y hy=>h y (List.mem_cons_of_mem _ hy)),List.flatten_cons,show (n+1)*sz=x.length+n*sz by rw[Nat.add_mul];omega,List.drop_length_add_append]
theorem row_arr {e:TypeId} {sz:Nat} {xs:List (List Value)} {k:Nat} (hb:BoxOK ρ w k (.row e sz xs)):
  (ρ.sl k=(none,0,0)∧xs=[])∨∃cap cur,ρ.sl k=(some ⟨ρ.b k,0,none⟩,xs.length,cap)∧w.heap[ρ.b k]?=some (.cells cur e (0,0))∧xs.length≤cap∧cap≤maxLen∧cur.size=cap*sz∧cur.toList.take (xs.length*sz)=xs.flatten:=by
 rcases hb.1.2 with ⟨h1,h2⟩ | ⟨g,cap,cur,h1,_,h2,h3,hmx,h4,h5⟩
 ·left
  have:=List.eq_nil_of_length_eq_zero h2;refine⟨?_,this⟩;simp only[Rho.val,Value.slice.injEq]at h1;obtain⟨e1,e2,e3⟩:=h1;exact Prod.ext e1 (Prod.ext e2 e3)
 ·right
  have hg:=hb.2.2 g (by rw[h1];rfl);subst hg;simp only[Rho.val,Value.slice.injEq]at h1;obtain⟨e1,e2,e3⟩:=h1;exact⟨cap,cur,Prod.ext e1 (Prod.ext e2 e3),h2,h3,hmx,h4,h5⟩
theorem sub_news {e:TypeId} {sz:Nat} {xs:List (List Value)} {k lo n:Nat} (hb:BoxOK ρ w k (.row e sz xs)) (hn:lo+n≤xs.length):News w (ρ.part k sz lo n) sz ((xs.drop lo).take n):=by
 refine⟨fun y hy=>hb.2.1 y (List.mem_of_mem_drop (List.mem_of_mem_take hy)),?_⟩
 have hl:((xs.drop lo).take n).length=n:=by simp;omega
 have hsz:∀x∈xs,x.length=sz:=fun x hx=>(hb.2.1 x hx).1
 rcases row_arr hb with ⟨h1,rfl⟩ | ⟨cap,cur,h1,h2,h3,hmx,h4,h5⟩
 ·simp only[List.length_nil,Nat.le_zero]at hn
  obtain⟨rfl,rfl⟩:lo=0∧n=0:=by omega
  refine .inl ⟨?_,by simp⟩;rw[Rho.part,h1]
  rfl
 ·rw[Rho.part,h1,hl]
  by_cases hc:cap=lo
  ·refine .inr ⟨⟨ρ.b k,0,none⟩,_,by rw[cutA,if_pos hc],fun j u hj=>?_⟩;have:(xs.drop lo).take n=[]:=List.eq_nil_of_length_eq_zero (by rw[hl];omega);rw[this]at hj;simp at hj
  ·refine .inr ⟨⟨ρ.b k,lo*sz,none⟩,_,by rw[cutA,if_neg hc,Option.map_some,Addr.at_,Nat.zero_add],fun j u hj=>?_⟩;rw[Addr.at_,cell_of _ _ h2];rw[take_flat n (fun x hx=>hsz x (List.mem_of_mem_drop hx)),drop_flat lo hsz,List.getElem?_take]at hj;split at hj
   ·rw[List.getElem?_drop,←h5,List.getElem?_take]at hj;split at hj
    ·rw[←hj];simp
    ·cases hj
   ·cases hj
theorem rowOf_news (hr:Rel C B ρ s H a w) {y:SV} {sz:Nat} (hsz:0<sz) {K:List (List Value)→Prop} (h:rowOf s H y sz K):∃ys,K ys∧News w (ga ρ y) sz ys:=by
 unfold rowOf at h;split at h
 ·rename_i k;split at h
  ·rename_i e sz' xs hk
   have hbif:=bif_f h;clear h;obtain⟨hszz,h⟩:=hbif
   obtain rfl:=beq_t hszz;have hb:=(hr.mem.ok _ _ hk).2.1;refine⟨xs,h,hb.2.1,?_⟩;rw[ga]
   rcases hb.1.2 with ⟨h2,h3⟩ | ⟨g,cap,cur,h2,_⟩
   ·exact .inl ⟨h2,List.eq_nil_of_length_eq_zero h3⟩
   ·exact .inr ⟨_,_,h2,hb.1.cells (by rw[h2];rfl)⟩
  ·exact h.elim
 ·rename_i k sz0 lo n;split at h
  ·rename_i e sz' xs hk
   have hbif:=bif_f h;clear h;obtain⟨hszz,hn,h⟩:=hbif
   simp only[Bool.and_eq_true]at hszz;obtain rfl:=beq_t hszz.1;obtain rfl:=beq_t hszz.2;exact⟨_,h,by rw[ga];exact sub_news (hr.mem.ok _ _ hk).2.1 hn⟩
  ·exact h.elim
 ·rename_i v;obtain⟨xs,⟨a',cap,h1,h2,h3,h4⟩,h⟩:=h;refine⟨xs,h,h3,?_⟩;rw[ga]
  rcases h4 with ⟨rfl,rfl⟩ | ⟨ad,rfl,hsp,c,T,fr,hH,hc,hel⟩
  ·cases a' with
   | none=>exact .inl ⟨h1,rfl⟩
   | some ad=>exact .inr ⟨ad,0,h1,fun j u hj=>by simp at hj⟩
  ·refine .inr ⟨ad,cap,h1,fun j u hj=>?_⟩;obtain⟨y,hy,hu⟩:=flat_split hsz (fun y hy=>(h3 y hy).1) hj;have h5:=hel _ _ hy (j % sz) (Nat.mod_lt _ hsz)
   have h6:ad.add j=⟨ad.block,ad.off+j,none⟩:=by
    obtain⟨b,o,sp⟩:=ad;simp only at hsp;subst hsp;rw[Addr.at_]
   rw[h6,cell_of _ _ (hr.mem.hp _ _ hH)];rw[Nat.add_assoc,Nat.mul_comm,Nat.div_add_mod,hu]at h5;exact h5
 ·exact h.elim
theorem tt_zero (ht:TOK C) {e:TypeId} {i:TypeInfo×TypeDesc} (h:C.tt e=some i):C.P.info? e=some i.1:=(ht e i.1 i.2 h).1
theorem run_append_none0 {P:Program} (w:World) (t ty e:TypeId) (i:TypeInfo) (ht:P.underlying t=some (.slice e)) (hi:P.info? e=some i) (ad:Addr) (c:Nat):
  (Builtin.append_ #[t,t] ty #[.slice none 0 0,.slice (some ad) 0 c]).run P w = .ok (.slice none 0 0) w:=by
 have hf:=run_firstCells_some (P:=P) w i.size 0 ad 0 c [] (by simp) (by simp);simp [Builtin.append_,run_underlying ht,sizeOf,typeInfo,hi,Builtin.lenOf,hf]
theorem append_run (ht:TOK C) {t ty e:TypeId} {i:TypeInfo×TypeDesc} (hT:telem C t=some e) (hi:C.tt e=some i) {z:Value} (hz:i.1.zero=some z) (hzs:z.cells.size=i.1.size) (hsz:0<i.1.size)
  {v y:Value} {xs ys:List (List Value)} (hown:w.ownsRow 0 e i.1.size v xs.length xs.flatten) (hn:News w y i.1.size ys)
  (hby:(xs.length+ys.length)*i.1.bytes≤140737488355328) (hlen:xs.length+ys.length≤9223372036854775807):
  ∃v' w',(Builtin.append_ #[t,t] ty #[v,y]).run C.P w = .ok v' w'∧w'.ownsRow 0 e i.1.size v' (xs++ys).length (xs++ys).flatten∧w.grownBy w' v.ownBlock∧(∀g,v'.ownBlock=some g→v.ownBlock=some g∨w.heap.size≤g)∧w.drawn≤w'.drawn∧∃a l c,v' = .slice a l c:=by
 have hu:=telem_ok ht hT;have hinfo:=tt_zero ht hi;have hfl:(xs++ys).flatten=xs.flatten++ys.flatten:=List.flatten_append
 rcases hn.2 with ⟨rfl,rfl⟩ | ⟨ad,c,rfl,hcell⟩
 ·refine⟨v,w,run_append_owned_none w 0 t ty e i.1 i.1.size hu hinfo v _ _ hown,by simpa using hown,⟨rfl,rfl,rfl,Nat.le_refl _,fun _ _ _=>rfl⟩,fun g hg=>.inl hg,Nat.le_refl _,?_⟩
  rcases hown.2 with ⟨h1,_⟩ | ⟨g,cap,cur,h1,_⟩
  ·exact⟨_,_,_,h1⟩
  ·exact⟨_,_,_,h1⟩
 ·have hl:ys.flatten.length=ys.length*i.1.size:=by
   clear hcell;have:=hn.1;clear hn hby hlen hown hfl
   induction ys with
   | nil=>simp
   | cons x r ih=>rw[List.flatten_cons,List.length_append,(this x List.mem_cons_self).1,ih (fun y hy=>this y (List.mem_cons_of_mem _ hy)),List.length_cons,Nat.add_mul];omega
  have h1:∀u∈ys.flatten,u.oneCell'=true:=fun u hu=>by
   obtain⟨y,hy,hu⟩:=List.mem_flatten.1 hu;exact (hn.1 y hy).2 u hu
  have hm:xs.length+ys.length≤maxLen:=by simp only[maxLen];omega
  rw[hfl,List.length_append]
  rcases hown.2 with ⟨rfl,h0⟩ | ⟨g,cap,cur,rfl,hb0,hg,hnc,hcm,hcs,htk⟩
  ·have hx:xs=[]:=List.eq_nil_of_length_eq_zero h0;subst hx;obtain⟨v',w',hr,ho,hg,_⟩:=run_append_own (P:=C.P) w w.heap.size t ty e i.1 z i.1.size i.1.bytes hu hinfo hz rfl rfl hzs hsz (.slice none 0 0) 0 [] (World.ownsRow_nil _ _ _ _) ad ys.length c ys.flatten hl hcell h1 (by simpa using hm) (by simpa using hby) (Nat.le_refl _);refine⟨v',w',hr,?_,hg,fun g hg'=>.inr (ho.lt g hg').1,?_,?_⟩
   ·refine⟨by simpa using ho.1,?_⟩
    rcases ho.2 with h | ⟨g,cap,cur,a1,a2,a3,a4,a5,a6,a7⟩
    ·exact .inl (by simpa using h)
    ·exact .inr ⟨g,cap,cur,by simpa using a1,Nat.zero_le _,a3,by simpa using a4,a5,a6,by simpa using a7⟩
   ·by_cases hy0:ys.length=0
    ·have hy:ys=[]:=List.eq_nil_of_length_eq_zero hy0;subst hy;have h2:=run_append_none0 (P:=C.P) w t ty e i.1 hu hinfo ad c;rw[List.length_nil,h2]at hr;simp only[Result.ok.injEq]at hr;rw[←hr.2];exact Nat.le_refl _
    ·have h2:=run_append_nil (P:=C.P) w t ty e i.1 z hu hinfo hz ad ys.length c ys.flatten hl hcell (by omega) (by omega) (by simp only[List.length_nil,Nat.zero_add]at hby;omega);rw[hr]at h2;simp only[Result.ok.injEq]at h2;rw[h2.2];exact Nat.le_succ _
   ·rcases ho.2 with ⟨h1,_⟩ | ⟨g,cap,cur,h1,_⟩<;>exact⟨_,_,_,h1⟩
  ·obtain⟨v',w',hr,ho,hgr,_⟩:=run_append_own (P:=C.P) w 0 t ty e i.1 z i.1.size i.1.bytes hu hinfo hz rfl rfl hzs hsz _ xs.length xs.flatten hown ad ys.length c ys.flatten hl hcell h1 hm hby (Nat.zero_le _)
   have hdr:w.drawn≤w'.drawn:=by
    by_cases hroom:xs.length+ys.length≤cap
    ·have hfit:xs.length*i.1.size+ys.flatten.length≤cur.size:=by rw[hl,hcs,←Nat.add_mul];exact Nat.mul_le_mul_right _ hroom
     have h2:=run_append_room (P:=C.P) w t ty e i.1 hu hinfo g xs.length cap cur hg ad ys.length c ys.flatten hl hcell h1 hroom hfit;rw[hr]at h2;simp only[Result.ok.injEq]at h2;rw[h2.2];exact Nat.le_refl _
    ·have h2:=run_append_grow (P:=C.P) w t ty e i.1 z hu hinfo hz ⟨g,0,none⟩ xs.length cap xs.flatten hown.1 (hown.cells (g:=g) rfl) ad ys.length c ys.flatten hl hcell (by omega) (by omega) (growslice_fits (by omega) hby);rw[hr]at h2;simp only[Result.ok.injEq]at h2;rw[h2.2];exact Nat.le_succ _
   refine⟨v',w',hr,ho,hgr,fun g' hg'=>?_,hdr,?_⟩
   ·by_cases hroom:xs.length+ys.length≤cap
    ·have hfit:xs.length*i.1.size+ys.flatten.length≤cur.size:=by rw[hl,hcs,←Nat.add_mul];exact Nat.mul_le_mul_right _ hroom
     have h2:=run_append_room (P:=C.P) w t ty e i.1 hu hinfo g xs.length cap cur hg ad ys.length c ys.flatten hl hcell h1 hroom hfit;rw[hr]at h2;simp only[Result.ok.injEq]at h2;rw[h2.1]at hg';exact .inl hg'
    ·have h2:=run_append_grow (P:=C.P) w t ty e i.1 z hu hinfo hz ⟨g,0,none⟩ xs.length cap xs.flatten hown.1 (hown.cells (g:=g) rfl) ad ys.length c ys.flatten hl hcell (by omega) (by omega) (growslice_fits (by omega) hby);rw[hr]at h2;simp only[Result.ok.injEq]at h2;rw[h2.1]at hg';simp only[Value.ownBlock,Option.some.injEq]at hg';exact .inr (by omega)
   ·rcases ho.2 with ⟨h1,_⟩ | ⟨g,cap,cur,h1,_⟩<;>exact⟨_,_,_,h1⟩
end
end Go.Sy
end
