/- Part 'M12' of the proof (SyOk6, SyOk7, SyG, SyOk8): lemmas, each with its own conditions in its own statement. -/
import Derived.Laws.AppendOwnNone
import Derived.Test.YtheokcjommfopaaGreatDoorM11
set_option maxRecDepth 20000
set_option maxHeartbeats 4000000
section
namespace Go.Sy
open Go.RowKit (Below)
section
variable {C:Cx} {B:Bs} {ρ:bk} {s:St} {H:Hp} {a:Act} {w:World} {P:Program}
theorem Mem.move {bx:List (Nat×Bx)} {nx k:Nat} {w':World} {b b':Bx} {g:Nat} {v:Option Addr×Nat×Nat} (hm:Mem B ρ bx nx H w) (hk:lk bx k=some b)
  (h1:w'.os=w.os) (h2:w'.tape=w.tape) (h3:OD w w') (h4:w.heap.size≤w'.heap.size)
  (hb:∀g,g<w.heap.size→¬br ρ k b g→w'.heap[g]?=w.heap[g]?)
  (aj:b'.lt (nx+1)=true) (ca:bu (ρ.set nx g v) w' nx b') (cR:∀g',br (ρ.set nx g v) nx b' g'→br ρ k b g'∨w.heap.size≤g'):
  Mem B (ρ.set nx g v) ((nx,b')::(k,.dead)::bx) (nx+1) H w':=by
 have jg:Mem B ρ ((k,.dead)::bx) nx H w':=hm.write hk h1 h2 h3 h4 hb rfl trivial (fun g hg=>hg.elim);have hs:=bk.rJ ρ nx g v;exact
 {os:=jg.os,tape:=jg.tape,output:=jg.output,size:=jg.size,frame:=jg.frame
  base:=Nat.le_succ_of_le jg.base
  agree:=fun j hj=>by
   have:=hs j (Nat.lt_of_lt_of_le hj jg.base)
   rw[this.1,this.2];exact jg.agree j hj
  hp:=jg.hp,hle:=jg.hle,cR:=jg.cR
  ok:=fun j x hj=>by
   rw[aT]at hj;split at hj
   ·rename_i e;subst e;simp only[Option.some.injEq]at hj;subst hj;exact⟨Nat.lt_succ_self _,ca,aj⟩
   ·obtain⟨a1,a2,a3⟩:=jg.ok j x hj;refine⟨Nat.lt_succ_of_lt a1,a2.same hs a1 a3,?_⟩
    cases x with
    | cells T cs=>exact jB (Nat.le_succ _) cs a3
    | _=>rfl
  own:=fun j x g' hj ho=>by
   rw[aT]at hj;split at hj
   ·rename_i e;subst e;simp only[Option.some.injEq]at hj;subst hj
    rcases cR g' ho with hg | hg
    ·exact hm.own k b g' hk hg
    ·refine⟨?_,.inl (Nat.le_trans hm.size hg)⟩
     cases hh:H g' with
     | none=>rfl
     | some o =>
      have:=(Array.getElem?_eq_some_iff.1 (hm.hp g' o hh)).1;omega
   ·exact jg.own j x g' hj (ho.same hs (jg.ok j x hj).1)
  eZ:=fun j j' x x' g' hj s8 ho dx=>by
   have key:∀(j:Nat) (x:Bx),lk ((k,Bx.dead)::bx) j=some x→br ρ j x g'→∀y,br (ρ.set nx g v) nx b' g'→y=j→False:=by
    intro j x hj ho y hy _
    have Xk:j≠k:=by
     intro e;subst e;rw[aT,if_pos rfl]at hj;simp only[Option.some.injEq]at hj;subst hj;exact ho
    rw[aT,if_neg (Ne.symm Xk)]at hj
    rcases cR g' hy with hg | hg
    ·exact Xk (hm.eZ j k x b g' hj hk ho hg)
    ·have:=(hm.ok j x hj).2.1.lt ho;omega
   rw[aT]at hj s8
   split at hj<;>split at s8
   ·omega
   ·rename_i e1 e2;subst e1;simp only[Option.some.injEq]at hj;subst hj;exact (key j' x' s8 (dx.same hs (jg.ok j' x' s8).1) j' ho rfl).elim
   ·rename_i e1 e2;subst e2;simp only[Option.some.injEq]at s8;subst s8;exact (key j x hj (ho.same hs (jg.ok j x hj).1) j dx rfl).elim
   ·exact jg.eZ j j' x x' g' hj s8 (ho.same hs (jg.ok j x hj).1) (dx.same hs (jg.ok j' x' s8).1) }
theorem Rel.CG (hr:Rel C B ρ s H a w) {k:Nat} {b:Bx} {e:TypeId} {sz:Nat} {xs:List (List Value)} {w':World} {v:Option Addr×Nat×Nat} (hk:lk s.bx k=some b)
  (h1:w'.os=w.os) (h2:w'.tape=w.tape) (h3:OD w w') (h4:w.heap.size≤w'.heap.size) (hb:∀g,g<w.heap.size→¬br ρ k b g→w'.heap[g]?=w.heap[g]?)
  (gG:w'.ownsRow 0 e sz (.slice v.1 v.2.1 v.2.2) xs.length xs.flatten) (yX:∀x∈xs,x.length=sz∧∀u∈x,u.oneCell'=true)
  (cR:∀g,(Value.slice v.1 v.2.1 v.2.2).ownBlock=some g→br ρ k b g∨w.heap.size≤g):
  ∃ρ',Rel C B ρ' ((s.box k .dead).new (.row e sz xs)) H a w'∧ga ρ' (.own s.nx) = .slice v.1 v.2.1 v.2.2:=by
 refine⟨ρ.set s.nx ((Value.slice v.1 v.2.1 v.2.2).ownBlock.getD 0) v,⟨hr.vA _ _,hr.sz,hr.defers,?_⟩,by rw[ga];simp [bk.val,bk.set]⟩;refine hr.mem.move hk h1 h2 h3 h4 hb rfl ?_ ?_
 ·refine⟨?_,yX,fun g hg=>?_⟩
  ·simpa [bk.val,bk.set] using gG
  ·simp only[bk.val,bk.set,if_true]at hg ⊢
   rw[hg];rfl
 ·intro g hg;simp only[br,bk.val,bk.set,if_true]at hg;exact cR g hg
theorem lz (hr:Rel C B ρ s H a w) {x:Operand} {n:Int} (h:qG s x=some n):∃k,a.eval x = .int k n:=by
 unfold qG at h;split at h
 ·rename_i k m hx;simp only[Option.some.injEq]at h;subst h;have:=(ai hr hx).1;rw[ga]at this;exact⟨k,this⟩
 ·cases h
theorem de {x:Value} {k:IntKind} {n:Int} {y:Nat} (hx:x = .int k n) (h:0≤n∧n≤y) (c:BoundsCode) (w:World):(Instr.sliceBound x y c).run P w = .ok n.toNat w:=by
 subst hx;simp [Instr.sliceBound,asIntOf,h]
theorem eu (hr:Rel C B ρ s H a w) {lo hi:Option Operand} {l h:Int} (b:Bool) (len cap:Nat) (hl:jA s lo 0=some l) (hh:jA s hi (len:Int)=some h) (hle:0≤l∧l≤h∧h≤cap):
  (Instr.sliceBounds b len cap (lo.map a.eval) (hi.map a.eval) none).run P w = .ok (l.toNat,h.toNat,cap) w:=by
 unfold Instr.sliceBounds
 cases hi with
 | none =>
  simp only[jA,Option.some.injEq]at hh;subst hh
  cases lo with
  | none =>
   simp only[jA,Option.some.injEq]at hl;subst hl;simp
  | some x =>
   simp only[jA]at hl;obtain⟨k,hk⟩:=lz hr hl;simp [de hk (show 0≤l∧l≤(len:Nat) by omega)]
 | some y =>
  simp only[jA]at hh;obtain⟨k',lQ⟩:=lz hr hh
  cases lo with
  | none =>
   simp only[jA,Option.some.injEq]at hl;subst hl;simp [de lQ (show 0≤h∧h≤(cap:Nat) by omega)]
  | some x =>
   simp only[jA]at hl;obtain⟨k,hk⟩:=lz hr hl;simp [de lQ (show 0≤h∧h≤(cap:Nat) by omega),de hk (show 0≤l∧l≤((h.toNat:Nat):Int) by omega)]
theorem kr {sz:Nat}:∀ {xs:List (List Value)} (n:Nat),(∀x∈xs,x.length=sz)→(xs.take n).flatten=xs.flatten.take (n*sz)
 | [],n,_=>by simp
 | x::r,0,_=>by simp
 | x::r,n+1,h=>by
  have h1:=h x List.mem_cons_self;rw[List.take_succ_cons,List.flatten_cons,kr n (fun y hy=>h y (List.mem_cons_of_mem _ hy)),List.flatten_cons,show (n+1)*sz=x.length+n*sz by rw[Nat.add_mul];omega,List.take_length_add_append]
end
end Go.Sy
end
section
namespace Go.Sy
open Go.RowKit (Below)
section
variable {C:Cx} {B:Bs} {ρ:bk} {s:St} {H:Hp} {a:Act} {w:World} {P:Program}
theorem Mem.freeze {bx:List (Nat×Bx)} {nx k g:Nat} {b:Bx} {o:Obj} (hm:Mem B ρ bx nx H w) (hk:lk bx k=some b) (ho:br ρ k b g) (hg:w.heap[g]?=some o) {x:Value} (hx:ρ.val k=x):
  Mem B ρ ((k,.qh x)::bx) nx (fun j=>if j=g then some o else H j) w:=by
 have jg:Mem B ρ ((k,.qh x)::bx) nx H w:=hm.write hk rfl rfl ⟨rfl,Nat.le_refl _⟩ (Nat.le_refl _) (fun _ _ _=>rfl) rfl hx (fun g hg=>hg.elim)
 have U0:=(hm.own k b g hk ho)
 exact
 {os:=jg.os,tape:=jg.tape,output:=jg.output,size:=jg.size,frame:=jg.frame,base:=jg.base,agree:=jg.agree
  hp:=fun j o' hj=>by
   by_cases e:j=g
   ·subst e;simp only[if_true,Option.some.injEq]at hj;subst hj;exact hg
   ·simp only[e,if_false]at hj;exact hm.hp j o' hj
  hle:=fun j o' hj=>by
   have:=hm.hle j o' hj
   by_cases e:j=g
   ·subst e;rw[U0.1]at this;cases this
   ·simp only[e,if_false];exact this
  cR:=fun j h1 h2 h3=>by
   have e:j≠g:=fun e=>by
    subst e
    rcases U0.2 with h | h
    ·omega
    ·exact h3 h
   simp only[e,if_false];exact hm.cR j h1 h2 h3
  ok:=jg.ok
  own:=fun j y g' hj hy=>by
   have h1:=jg.own j y g' hj hy
   have e:g'≠g:=fun e=>by
    subst e;rw[aT]at hj;split at hj
    ·simp only[Option.some.injEq]at hj;subst hj;exact hy
    ·rename_i cu;exact cu (hm.eZ k j b y g' hk hj ho hy)
   simp only[e,if_false];exact h1
  eZ:=jg.eZ }
theorem yY {g:Nat} {o:Obj} (h:H g=none):Le H (fun j=>if j=g then some o else H j):=fun j o' hj=>by
 have e:j≠g:=fun e=>by subst e;rw[h]at hj;cases hj
 simp only[e,if_false];exact hj
theorem AL {e:TypeId} {sz:Nat} {xs:List (List Value)} {k:Nat} (hb:bu ρ w k (.row e sz xs)) {H':Hp}
  (hH:∀g o,(ρ.val k).ownBlock=some g→w.heap[g]?=some o→H' g=some o):aW H' (ρ.val k) sz xs:=by
 rcases hb.1.2 with ⟨h1,h2⟩ | ⟨g,cap,cur,h1,_,h2,h3,eI,h4,h5⟩
 ·have:xs=[]:=List.eq_nil_of_length_eq_zero h2;subst this;exact⟨none,0,h1,⟨Nat.le_refl _,by omega⟩,by simp,.inl ⟨rfl,rfl⟩⟩
 ·have Ot:=hH g _ (by rw[h1];rfl) h2;refine⟨some ⟨g,0,none⟩,cap,h1,⟨h3,by simpa [maxLen] using eI⟩,hb.2.1,.inr ⟨_,rfl,rfl,cur,e,_,Ot,by simp only;omega,fun i x hi j hj=>?_⟩⟩;have h6:=gD (sz:=sz) (fun x hx=>(hb.2.1 x hx).1) hi j hj;have aj:=(gh.1 hi).1
  have h7:i*sz+j<xs.length*sz:=by
   have:(i+1)*sz≤xs.length*sz:=Nat.mul_le_mul_right sz aj;rw[Nat.add_mul]at this;omega
  rw[←h5,List.getElem?_take,if_pos h7]at h6;simp only[Nat.zero_add];rw[←h6];simp
theorem Fy (hr:Rel C B ρ s H a w) {k:Nat} {e:TypeId} {sz:Nat} {xs:List (List Value)} (hk:lk s.bx k=some (.row e sz xs)):
  ∃H',qp e sz xs H (ρ.val k) H'∧aW H' (ρ.val k) sz xs∧Rel C B ρ (s.box k (.qh (ρ.val k))) H' a w:=by
 have hb:=(hr.mem.ok _ _ hk).2.1
 cases hg:(ρ.val k).ownBlock with
 | none =>
  have hn:j9 e sz xs H (ρ.val k) H:=by
   rcases hb.1.2 with ⟨h1,h2⟩ | ⟨g,cap,cur,h1,_⟩
   ·exact .inl ⟨h1,List.eq_nil_of_length_eq_zero h2⟩
   ·rw[h1]at hg;cases hg
  refine⟨H,⟨Le.refl H,hn⟩,AL hb (fun g o h=>by rw[hg]at h;cases h),hr.with (bx:=(k,.qh (ρ.val k))::s.bx) ?_⟩;exact hr.mem.write hk rfl rfl ⟨rfl,Nat.le_refl _⟩ (Nat.le_refl _) (fun _ _ _=>rfl) rfl rfl (fun g hg=>hg.elim)
 | some g =>
  have ho:br ρ k (.row e sz xs) g:=hg;obtain⟨c,T,hblk⟩:=hb.QX ho
  have hn:j9 e sz xs H (ρ.val k) (fun j=>if j=g then some (.cells c T (0,0)) else H j):=by
   rcases hb.1.2 with ⟨h1,h2⟩ | ⟨g',cap,cur,h1,_,h2,h3,h4,h5,h6⟩
   ·rw[h1]at hg;cases hg
   ·have e1:g'=g:=by rw[h1]at hg;simpa [Value.ownBlock] using hg
    subst e1;rw[hblk]at h2;simp only[Option.some.injEq,Obj.cells.injEq]at h2;obtain⟨rfl,rfl,_⟩:=h2;exact .inr ⟨g',cap,c,h1,(hr.mem.own k _ g' hk ho).1,by simp only[if_true],h3,h4,h5,h6⟩
  refine⟨_,⟨yY (o:=.cells c T (0,0)) (hr.mem.own k _ g hk ho).1,hn⟩,AL hb (fun g' o h dx=>?_),hr.with (bx:=(k,.qh (ρ.val k))::s.bx) (hr.mem.freeze hk ho hblk rfl) (yY (o:=.cells c T (0,0)) (hr.mem.own k _ g hk ho).1)⟩;rw[hg]at h;simp only[Option.some.injEq]at h;subst h;rw[hblk]at dx;simp only[if_true];exact dx
theorem aW.part {H:Hp} {v:Value} {a:Option Addr} {m c sz:Nat} {xs:List (List Value)} (h:aW H v sz xs) (hv:v = .slice a m c) {lo n:Nat} (hn:lo+n≤xs.length):
  aW H (.slice (dR a lo c sz) n (c - lo)) sz ((xs.drop lo).take n):=by
 obtain⟨a',c',e,h1,h2,h3⟩:=h;rw[hv]at e;simp only[Value.slice.injEq]at e;obtain⟨rfl,rfl,rfl⟩:=e
 have hl:((xs.drop lo).take n).length=n:=by simp;omega
 refine⟨_,_,by rw[hl],by rw[hl];omega,fun x hx=>h2 x (List.mem_of_mem_drop (List.mem_of_mem_take hx)),?_⟩
 by_cases fC:c=lo
 ·exact .inl ⟨List.eq_nil_of_length_eq_zero (by rw[hl];omega),by omega⟩
 ·rcases h3 with ⟨h3,h4⟩ | ⟨ad,rfl,hs,cells,T,fr,hH,hc,hx⟩
  ·exact .inl ⟨List.eq_nil_of_length_eq_zero (by rw[h3];simp),by omega⟩
  ·obtain⟨b,o,sp⟩:=ad;simp only at hs;subst hs;refine .inr ⟨⟨b,o+lo*sz,none⟩,by rw[dR,if_neg fC,Option.map_some,Addr.at_],rfl,cells,T,fr,hH,?_,fun i x hi j hj=>?_⟩
   ·have:lo*sz+(c - lo)*sz=c*sz:=by rw[←Nat.add_mul];congr 1;omega
    simp only at hc ⊢;omega
   ·rw[List.getElem?_take]at hi;split at hi
    ·rw[List.getElem?_drop]at hi;have:=hx (lo+i) x hi j hj;rw[Nat.add_mul]at this;simp only at this ⊢;rw[show o+lo*sz+i*sz+j=o+(lo*sz+i*sz)+j by omega];exact this
    ·cases hi
mutual
theorem LA:∀(x:SV) {s:St} {H:Hp} {K:Value→St→Hp→Prop},Rel C B ρ s H a w→fz x s H K→∃s' H',K (ga ρ x) s' H'∧Rel C B ρ s' H' a w∧Le H H'∧s'.nx=s.nx
 | .v x,s,H,K,hr,h=>by rw[fz]at h;exact⟨s,H,by rw[ga];exact h,hr,Le.refl H,rfl⟩
 | .kb b,s,H,K,hr,h=>by rw[fz]at h;exact⟨s,H,by rw[ga];exact h,hr,Le.refl H,rfl⟩
 | .own k,s,H,K,hr,h=>by
  rw[fz]at h;split at h
  ·rename_i e sz xs hk;obtain⟨H',h1,h2,h3⟩:=Fy hr hk;exact⟨_,H',by rw[ga];exact h _ H' h1 h2,h3,h1.le,rfl⟩
  ·rename_i x hk;have:=(hr.mem.ok _ _ hk).2.1;simp only[bu]at this;exact⟨s,H,by rw[ga,this];exact h,hr,Le.refl H,rfl⟩
  ·exact h.elim
 | .sub k sz lo n,s,H,K,hr,h=>by
  rw[fz]at h;split at h
  ·rename_i e cn xs hk;obtain⟨hq,hn,h⟩:=dr h;have:=bE hq;subst this;obtain⟨H',h1,h2,h3⟩:=Fy hr hk;exact⟨_,H',by rw[ga,bk.part];exact h _ _ H' h1.le h2 (h2.part rfl hn),h3,h1.le,rfl⟩
  ·rename_i a n' c hk;have:=(hr.mem.ok _ _ hk).2.1;simp only[bu,bk.val,Value.slice.injEq]at this;exact⟨s,H,by rw[ga,bk.part,this.1,this.2.2];exact h,hr,Le.refl H,rfl⟩
  ·exact h.elim
 | .agg cs,s,H,K,hr,h=>by
  rw[fz]at h;obtain⟨s',H',h1,h2,h3,h4⟩:=tg cs hr h;exact⟨s',H',by rw[ga];exact h1,h2,h3,h4⟩
 | .fn f cs,s,H,K,hr,h=>by
  rw[fz]at h;obtain⟨s',H',h1,h2,h3,h4⟩:=tg cs hr h;exact⟨s',H',by rw[ga];exact h1,h2,h3,h4⟩
 | .eo cs,s,H,K,hr,h=>by
  rw[fz]at h;obtain⟨s',H',h1,h2,h3,h4⟩:=tg cs hr h;exact⟨s',H',by rw[ga];exact h1,h2,h3,h4⟩
 | .ptr _ _,s,H,K,hr,h=>by rw[fz]at h;exact h.elim
 | .el _ _ _ _,s,H,K,hr,h=>by rw[fz]at h;exact h.elim
 | .rel _ _ _ _,s,H,K,hr,h=>by rw[fz]at h;exact h.elim
 | .mp _,s,H,K,hr,h=>by rw[fz]at h;exact h.elim
theorem tg:∀(l:List SV) {s:St} {H:Hp} {K:List Value→St→Hp→Prop},Rel C B ρ s H a w→Aq l s H K→∃s' H',K (cE ρ l) s' H'∧Rel C B ρ s' H' a w∧Le H H'∧s'.nx=s.nx
 | [],s,H,K,hr,h=>by rw[Aq]at h;exact⟨s,H,by rw[cE];exact h,hr,Le.refl H,rfl⟩
 | x::r,s,H,K,hr,h=>by
  rw[Aq]at h;obtain⟨s1,H1,h1,h2,h3,h4⟩:=LA x hr h;obtain⟨s2,H2,h5,h6,h7,h8⟩:=tg r h2 h1;exact⟨s2,H2,by rw[cE];exact h5,h6,h3.trans h7,h8.trans h4⟩
end
theorem oI (ρ:bk) (x:Value):ga ρ (NV x)=x∧∀n,(NV x).lt n=true:=by
 have h0:∀y:Value,ga ρ (K7 y)=y∧∀n,(K7 y).lt n=true:=fun y=>by
  unfold K7;split
  ·exact⟨by rw[ga,wq],fun n=>by rw[SV.lt];exact yS n _⟩
  ·exact⟨by rw[ga],fun n=>by rw[SV.lt]⟩
 unfold NV;split
 ·exact⟨by rw[ga,wq],fun n=>by rw[SV.lt];exact yS n _⟩
 ·rename_i vs;refine⟨?_,fun n=>?_⟩
  ·rw[ga,cH,List.map_map]
   have:(ga ρ∘K7)=id:=by funext y;exact (h0 y).1
   rw[this];simp
  ·rw[SV.lt,dS];intro y hy;simp only[List.mem_map]at hy;obtain⟨z,_,rfl⟩:=hy;exact (h0 z).2 n
 ·rename_i fn first cap
  cases fn with
  | func f =>
   simp only;split
   ·rename_i hf
    have:first=#[]:=by apply Array.ext';simpa using hf
    subst this;exact⟨by rw[ga,wq],fun n=>by rw[SV.lt];exact yS n _⟩
   ·exact⟨by rw[ga],fun n=>by rw[SV.lt]⟩
  | _=>exact⟨by rw[ga],fun n=>by rw[SV.lt]⟩
 ·exact⟨by rw[ga],fun n=>by rw[SV.lt]⟩
theorem Mem.called {bx:List (Nat×Bx)} {nx:Nat} {H':Hp} {w':World} (hm:Mem B ρ bx nx H w) (hle:Le H H') (hp:∀b o,H' b=some o→w'.heap[b]?=some o)
  (hn:∀b,H b=none→b<w.heap.size→H' b=none) (hb:fx w.heap.size w w'):Mem B ρ bx nx H' w':=by
 have h1:=hm.step hb.os hb.tape ⟨hb.output,hb.drawn⟩ hb.size hb.block
 exact { h1 with
  hp:=hp
  hle:=hm.hle.trans hle
  cR:=fun b h2 h3 h4=>hn b (hm.cR b h2 h3 h4) (Nat.lt_of_lt_of_le h3 hm.size)
  own:=fun k b g hk ho=>⟨hn g (hm.own k b g hk ho).1 ((hm.ok k b hk).2.1.lt ho),(hm.own k b g hk ho).2⟩ }
theorem yZ {f:FuncId} {vs:List Value} {K:Value→Hp→Prop} (hs:aq P f vs H K) (hp:∀b o,H b=some o→w.heap[b]?=some o) {o:Oper} {next:Act→World→Prop} {Q:Exit→Act→World→Prop}
  (hn:∀v H' w',K v H'→Le H H'→(∀b o,H' b=some o→w'.heap[b]?=some o)→(∀b,H b=none→b<w.heap.size→H' b=none)→fx w.heap.size w w'→next (a.put o.dst v) w'):
  o.upon P a next Q ((callFunc f vs.toArray).run P w):=by
 rw[hs.1];show Calls P f vs.toArray w _
 refine (hs.2 w hp).mono fun e w' h=>?_
 obtain⟨v,H',rfl,h1,h2,h3,h4,h5⟩:=h;exact hn v H' w' h1 h2 h3 h4 h5
theorem LB {f:FuncId} {args:List SV} {T:TypeId} {K:KK} (h:Cj C f args T s H K) (hr:Rel C B ρ s H a w) {o:Oper} {next:Act→World→Prop} {Q:Exit→Act→World→Prop}
  (hn:∀x s' H' ρ' w',K x s' H'→Rel C B ρ' s' H' a w'→Le H H'→x.lt s'.nx=true→next (a.put o.dst (ga ρ' x)) w'):
  o.upon C.P a next Q ((callFunc f (cE ρ args).toArray).run C.P w):=by
 unfold Cj at h;simp only[vw]at h;obtain⟨s1,H1,h1,h2,h3,h4⟩:=tg args hr h
 cases hf:Ch C 6 T with
 | true =>
  rw[hf]at h1;simp only[cond_true]at h1
  refine yZ h1 h2.mem.hp fun v H' w' k1 k2 k3 k4 k5=>?_
  have:=hn (NV v) s H ρ w' k1 ⟨hr.env,hr.sz,hr.defers,hr.mem.step k5.os k5.tape ⟨k5.output,k5.drawn⟩ k5.size k5.block⟩ (Le.refl H) ((oI ρ v).2 _);rwa[(oI ρ v).1]at this
 | false =>
  rw[hf]at h1;simp only[cond_false]at h1
  refine yZ h1 h2.mem.hp fun v H' w' k1 k2 k3 k4 k5=>?_
  have:=hn (NV v) s1 H' ρ w' k1 ⟨h2.env,h2.sz,h2.defers.up k2,h2.mem.called k2 k3 k4 k5⟩ (h3.trans k2) ((oI ρ v).2 _);rwa[(oI ρ v).1]at this
end
end Go.Sy
end
section
namespace Go.Sy
open Go.RowKit (Below)
section
variable {C:Cx} {B:Bs} {ρ:bk} {s:St} {H:Hp} {a:Act} {w:World} {P:Program}
def Good (f:Nat→Option Nat) (ρ:bk) (n:Nat) (ρ':bk) (n':Nat):Prop:=∀k j,f k=some j→k<n→j<n'∧ρ'.b j=ρ.b k∧ρ'.sl j=ρ.sl k
theorem ml {k n:Nat} (h:k<n):Nat.ble (k+1) n=true:=Nat.ble_eq_true_of_le h
variable {f:Nat→Option Nat} {n n':Nat} {ρ':bk}
theorem HU (hg:Good f ρ n ρ' n') {x y:SV} (h:ve f x=some y) (hl:x.lt n=true):ga ρ' y=ga ρ x∧y.lt n'=true:=by
 cases x with
 | v x=>cases h;rw[ga,ga,SV.lt];exact⟨rfl,rfl⟩
 | kb b=>cases h;rw[ga,ga,SV.lt];exact⟨rfl,rfl⟩
 | el a i sz off=>cases h;rw[SV.lt];exact⟨by cases a<;>rfl,rfl⟩
 | ptr k off =>
  simp only[ve]at h
  cases hj:f k with
  | none=>rw[hj]at h;cases h
  | some j =>
   rw[hj]at h;cases h;rw[SV.lt]at hl;obtain⟨h1,h2,h3⟩:=hg k j hj (Nat.le_of_ble_eq_true hl);rw[ga,ga,h2,SV.lt];exact⟨rfl,ml h1⟩
 | rel k m i off =>
  simp only[ve]at h
  cases hj:f k with
  | none=>rw[hj]at h;cases h
  | some j =>
   rw[hj]at h;cases h;rw[SV.lt]at hl;obtain⟨h1,h2,h3⟩:=hg k j hj (Nat.le_of_ble_eq_true hl);rw[ga,ga,h2,SV.lt];exact⟨rfl,ml h1⟩
 | own k =>
  simp only[ve]at h
  cases hj:f k with
  | none=>rw[hj]at h;cases h
  | some j =>
   rw[hj]at h;cases h;rw[SV.lt]at hl;obtain⟨h1,h2,h3⟩:=hg k j hj (Nat.le_of_ble_eq_true hl);rw[ga,ga,bk.val,bk.val,h3,SV.lt];exact⟨rfl,ml h1⟩
 | sub k sz lo m =>
  simp only[ve]at h
  cases hj:f k with
  | none=>rw[hj]at h;cases h
  | some j =>
   rw[hj]at h;cases h;rw[SV.lt]at hl;obtain⟨h1,h2,h3⟩:=hg k j hj (Nat.le_of_ble_eq_true hl);rw[ga,ga,bk.part,bk.part,h3,SV.lt];exact⟨rfl,ml h1⟩
 | mp k =>
  simp only[ve]at h
  cases hj:f k with
  | none=>rw[hj]at h;cases h
  | some j =>
   rw[hj]at h;cases h;rw[SV.lt]at hl;obtain⟨h1,h2,h3⟩:=hg k j hj (Nat.le_of_ble_eq_true hl);rw[ga,ga,h2,SV.lt];exact⟨rfl,ml h1⟩
 | agg cs=>cases h
 | fn g cs=>cases h
 | eo cs=>cases h
def CH (ρ:bk) (n:Nat) (ρ':bk) (n':Nat) (g:SV→Option SV):Prop:=∀x y,g x=some y→x.lt n=true→ga ρ' y=ga ρ x∧y.lt n'=true
theorem lA {g:SV→Option SV} (hg:CH ρ n ρ' n' g):∀ {l r:List SV},wi g l=some r→SV.jW n l=true→cE ρ' r=cE ρ l∧SV.jW n' r=true
 | [],r,h,_=>by
  simp only[wi,Option.some.injEq]at h;subst h;exact⟨by rw[cE,cE],by rw[SV.jW]⟩
 | x::l,r,h,hl=>by
  rw[wi]at h;rw[dS]at hl;split at h
  ·rename_i y hy;split at h
   ·rename_i l' th;simp only[Option.some.injEq]at h;subst h;obtain⟨h1,h2⟩:=hg x y hy (hl x List.mem_cons_self);obtain⟨h3,h4⟩:=lA hg th ((dS n l).2 fun z hz=>hl z (List.mem_cons_of_mem _ hz));exact⟨by rw[cE,cE,h1,h3],by rw[SV.jW,h2];exact h4⟩
   ·cases h
  ·cases h
theorem HV (hg:Good f ρ n ρ' n'):CH ρ n ρ' n' (Fq f):=by
 intro x y h hl
 have h0:CH ρ n ρ' n' (ve f):=fun x y h hl=>HU hg h hl
 unfold Fq at h;split at h
 ·split at h
  ·rename_i cs l th;cases h;rw[SV.lt]at hl;obtain⟨h1,h2⟩:=lA h0 th hl;rw[ga,ga,h1,SV.lt];exact⟨rfl,h2⟩
  ·cases h
 ·split at h
  ·rename_i cs l th;cases h;rw[SV.lt]at hl;obtain⟨h1,h2⟩:=lA h0 th hl;rw[ga,ga,h1,SV.lt];exact⟨rfl,h2⟩
  ·cases h
 ·split at h
  ·rename_i cs l th;cases h;rw[SV.lt]at hl;obtain⟨h1,h2⟩:=lA h0 th hl;rw[ga,ga,h1,SV.lt];exact⟨rfl,h2⟩
  ·cases h
 ·exact h0 _ _ h hl
theorem HW (hg:Good f ρ n ρ' n'):CH ρ n ρ' n' (Oi f):=by
 intro x y h hl;have h0:CH ρ n ρ' n' (Fq f):=HV hg;unfold Oi at h;split at h
 ·split at h
  ·rename_i cs l th;cases h;rw[SV.lt]at hl;obtain⟨h1,h2⟩:=lA h0 th hl;rw[ga,ga,h1,SV.lt];exact⟨rfl,h2⟩
  ·cases h
 ·split at h
  ·rename_i cs l th;cases h;rw[SV.lt]at hl;obtain⟨h1,h2⟩:=lA h0 th hl;rw[ga,ga,h1,SV.lt];exact⟨rfl,h2⟩
  ·cases h
 ·split at h
  ·rename_i cs l th;cases h;rw[SV.lt]at hl;obtain⟨h1,h2⟩:=lA h0 th hl;rw[ga,ga,h1,SV.lt];exact⟨rfl,h2⟩
  ·cases h
 ·exact HU hg h hl
theorem HX (hg:Good f ρ n ρ' n') {b b':Bx} {k j:Nat} (hk:f k=some j) (Ou:k<n) (h:Ax f b=some b') (hb:bu ρ w k b) (hl:b.lt n=true):
  bu ρ' w j b'∧b'.lt n'=true∧∀g,br ρ' j b' g↔br ρ k b g:=by
 obtain⟨_,e1,e2⟩:=hg k j hk Ou
 have e3:ρ'.val j=ρ.val k:=by rw[bk.val,bk.val,e2]
 unfold Ax at h;split at h
 ·split at h
  ·rename_i T cs l th;cases h;obtain⟨h1,h2⟩:=lA (HV hg) th hl;refine⟨?_,h2,fun g=>?_⟩
   ·simp only[bu]at *
    rw[e1,h1];exact hb
   ·simp only[br,e1]
  ·cases h
 ·cases h;refine⟨?_,rfl,fun g=>?_⟩
  ·simp only[bu]at *
   rw[e3,e1];exact hb
  ·simp only[br,e3]
 ·cases h;refine⟨?_,rfl,fun g=>Iff.rfl⟩;simp only[bu]at *
  rw[e3];exact hb
 ·cases h;refine⟨?_,rfl,fun g=>?_⟩
  ·simp only[bu]at *
   rw[e1];exact hb
  ·simp only[br,e1]
 ·cases h;exact⟨hb,rfl,fun g=>Iff.rfl⟩
 ·cases h;exact⟨trivial,rfl,fun g=>Iff.rfl⟩
theorem CI:∀ {l r:List (Nat×Bx)},yN f l=some r→∀ {j:Nat} {b':Bx},lk r j=some b'→∃k b,lk l k=some b∧f k=some j∧Ax f b=some b'
 | [],r,h,j,b',hj=>by
  simp only[yN,Option.some.injEq]at h;subst h;simp [lk]at hj
 | (k,b)::l,r,h,j,b',hj=>by
  rw[yN]at h;split at h
  ·rename_i j0 NY;split at h
   ·rename_i b0 LC;split at h
    ·rename_i l' th;simp only[Option.some.injEq]at h;subst h;rw[aT]at hj;split at hj
     ·rename_i e;subst e;cases hj;exact⟨k,b,by rw[aT,if_pos rfl],NY,LC⟩
     ·rename_i cu;obtain⟨k2,b2,h1,h2,h3⟩:=CI th hj;refine⟨k2,b2,?_,h2,h3⟩;rw[aT,if_neg]
      ·exact h1
      ·intro e;subst e;rw[NY]at h2;exact cu (Option.some.inj h2)
    ·cases h
   ·cases h
  ·cases h
theorem CJ {k:Nat}:∀ {l:List Nat},gp k l=true↔k∈l
 | []=>by simp [gp]
 | j::r=>by
  rw[gp]
  cases h:Nat.beq j k with
  | true=>simp [bE h]
  | false =>
   have:=Cr h;simp only[cond_false,CJ (l:=r),List.mem_cons];exact⟨.inr,fun h=>h.resolve_left fun e=>this e.symm⟩
theorem wB:∀ {l:List Nat},wg l=true→l.Nodup
 | [],_=>List.nodup_nil
 | k::r,h=>by
  rw[wg]at h
  cases hk:gp k r with
  | true=>rw[hk]at h;cases h
  | false =>
   rw[hk]at h;refine List.nodup_cons.2 ⟨fun hm=>?_,wB h⟩;rw[CJ.2 hm]at hk;cases hk
theorem LD:∀ {m:List Nat} {i k j:Nat},fk m i k=some j→i≤j∧m[j - i]?=some k
 | [],i,k,j,h=>by simp [fk]at h
 | x::r,i,k,j,h=>by
  rw[fk]at h
  cases hx:Nat.beq x k with
  | true=>rw[hx]at h;cases h;simp [bE hx]
  | false =>
   rw[hx]at h;obtain⟨h1,h2⟩:=LD h;refine⟨by omega,?_⟩;rw[show j - i=(j - (i+1))+1 by omega]
   simpa using h2
theorem LF:∀ {m:List Nat} {nx i:Nat},i<m.length→m[i]?=some (rk m nx i)
 | x::r,nx,0,_=>by simp [rk]
 | x::r,nx,i+1,h=>by
  rw[rk]
  simpa using LF (m:=r) (nx:=nx) (by simpa using h)
theorem Qi:∀ {m:List Nat} {nx i:Nat},m.length≤i→rk m nx i=nx+(i - m.length)
 | [],nx,i,_=>by simp [rk]
 | x::r,nx,i+1,h=>by
  rw[rk,Qi (m:=r) (by simpa using h)];simp
theorem wC {m:List Nat} {bx:List (Nat×Bx)}:∀ {i:Nat} {r:List Nat} {bl:List (Nat×Bx)},rH m bx i r=some bl →
  (∀j b',lk bl j=some b'→i≤j∧∃k b,r[j - i]?=some k∧lk bx k=some b∧Ax (fk m 0) b=some b')∧∀k∈r,∃b,lk bx k=some b
 | i,[],bl,h=>by
  simp only[rH,Option.some.injEq]at h;subst h;exact⟨fun j b' h=>by simp [lk]at h,fun k hk=>by simp at hk⟩
 | i,k::r,bl,h=>by
  rw[rH]at h;split at h
  ·rename_i b hb;split at h
   ·rename_i b1 Fz;split at h
    ·rename_i l hl;simp only[Option.some.injEq]at h;subst h;obtain⟨h1,h2⟩:=wC hl;refine⟨fun j b' hj=>?_,fun k' hk=>?_⟩
     ·rw[aT]at hj;split at hj
      ·rename_i e;subst e;cases hj;exact⟨Nat.le_refl _,k,b,by simp,hb,Fz⟩
      ·obtain⟨h3,k',b0,h4,h5,h6⟩:=h1 j b' hj;refine⟨by omega,k',b0,?_,h5,h6⟩;rw[show j - i=(j - (i+1))+1 by omega]
       simpa using h4
     ·rcases List.mem_cons.1 hk with rfl | hk
      ·exact⟨b,hb⟩
      ·exact h2 k' hk
    ·cases h
   ·cases h
  ·cases h
theorem CK {bx:List (Nat×Bx)} {k:Nat} {b:Bx}:∀ {m:List Nat},lk (uj m bx) k=some b→(k∈m∧b = .dead)∨(k ∉ m∧lk bx k=some b)
 | [],h=>.inr ⟨by simp,h⟩
 | j::r,h=>by
  rw[uj,aT]at h;split at h
  ·rename_i e;cases h;exact .inl ⟨by simp [e],rfl⟩
  ·rename_i cu
   rcases CK h with ⟨h1,h2⟩ | ⟨h1,h2⟩
   ·exact .inl ⟨List.mem_cons_of_mem _ h1,h2⟩
   ·exact .inr ⟨fun hm=>(List.mem_cons.1 hm).elim (fun e=>cu e.symm) h1,h2⟩
theorem y0 {α:Type} (k:Nat):∀(l r:List (Nat×α)),lk (l++r) k=match lk l k with | some x=>some x | none=>lk r k
 | [],r=>rfl
 | (j,x)::l,r=>by
  rw[List.cons_append,aT,aT,y0 k l r]
  split<;>rfl
theorem wD (m:List Nat):∀(l:List SV) {s:St} {H:Hp} {K:List SV→St→Hp→Prop},Rel C B ρ s H a w→SV.jW s.nx l=true→uk m l s H K →
  ∃ys s' H',K ys s' H'∧Rel C B ρ s' H' a w∧Le H H'∧s'.nx=s.nx∧∀ρ' n',Good (fk m 0) ρ s.nx ρ' n'→cE ρ' ys=cE ρ l∧SV.jW n' ys=true
 | [],s,H,K,hr,_,h=>⟨[],s,H,h,hr,Le.refl H,rfl,fun _ _ _=>⟨by rw[cE,cE],by rw[SV.jW]⟩⟩
 | x::r,s,H,K,hr,hl,h=>by
  rw[dS]at hl;have hx:=hl x List.mem_cons_self
  have rO:=(dS s.nx r).2 fun z hz=>hl z (List.mem_cons_of_mem _ hz)
  rw[uk]at h;split at h
  ·rename_i y hy;obtain⟨ys,s',H',h1,h2,h3,h4,h5⟩:=wD m r hr rO h;refine⟨y::ys,s',H',h1,h2,h3,h4,fun ρ' n' hg=>?_⟩;obtain⟨h6,h7⟩:=h5 ρ' n' hg;obtain⟨h8,h9⟩:=HW hg x y hy hx;exact⟨by rw[cE,cE,h6,h8],by rw[SV.jW,h9];exact h7⟩
  ·rw[we]at h;obtain⟨s1,H1,k1,k2,k3,k4⟩:=LA x hr h;obtain⟨ys,s',H',h1,h2,h3,h4,h5⟩:=wD m r k2 (by rw[k4];exact rO) k1;refine⟨_::ys,s',H',h1,h2,k3.trans h3,h4.trans k4,fun ρ' n' hg=>?_⟩;obtain⟨h6,h7⟩:=h5 ρ' n' (by rw[k4];exact hg);exact⟨by rw[cE,cE,h6,(oI ρ' _).1],by rw[SV.jW,(oI ρ' _).2];exact h7⟩
theorem Mem.VE {bx bl:List (Nat×Bx)} {nx:Nat} {m:List Nat} (hm:Mem B ρ bx nx H w) (wE:wg m=true) (oJ:rH m bx 0 m=some bl):
  ∃ρl,Good (fk m 0) ρ nx ρl m.length∧Mem (Bs.lP w ρl bl m.length H) ρl bl m.length H w ∧
   (∀i,i<m.length→ρl.b i=ρ.b (rk m nx i)∧ρl.sl i=ρ.sl (rk m nx i))∧(∀g,(Bs.lP w ρl bl m.length H).E g↔∃k b,k∈m∧lk bx k=some b∧br ρ k b g∧∃b',Ax (fk m 0) b=some b'):=by
 let ρl:bk:=⟨fun i=>ρ.b (rk m nx i),fun i=>ρ.sl (rk m nx i)⟩
 have hN:=wB wE;obtain⟨Tv,dm⟩:=wC oJ
 have U1:∀k j,fk m 0 k=some j→j<m.length∧m[j]?=some k∧rk m nx j=k:=fun k j h=>by
  obtain⟨_,h1⟩:=LD h;have h2:=(gh.1 h1).1;rw[Nat.sub_zero]at h1 h2;refine⟨h2,h1,?_⟩;have:=LF (m:=m) (nx:=nx) h2;rw[h1]at this;exact (Option.some.inj this).symm
 have Yc:∀i k,m[i]?=some k→fk m 0 k=some i:=fun i k h=>by
  have hex:∀(r:List Nat) (o i:Nat),r[i]?=some k→∃j,fk r o k=some j:=by
   intro r
   induction r with
   | nil=>intro o i h;simp at h
   | cons x r ih =>
    intro o i h;rw[fk]
    cases hx:Nat.beq x k with
    | true=>exact⟨_,rfl⟩
    | false =>
     cases i with
     | zero=>simp at h;subst h;simp at hx
     | succ i=>simp at h;exact ih (o+1) i h
  obtain⟨j,hj⟩:=hex m 0 i h;obtain⟨h1,h2,_⟩:=U1 k j hj;rw[hj]
  congr 1
  exact (List.getElem?_inj h1 hN).1 (h2.trans h.symm)
 have y6:Good (fk m 0) ρ nx ρl m.length:=fun k j h _=>by
  obtain⟨h1,h2,h3⟩:=U1 k j h;refine⟨h1,?_,?_⟩
  ·show ρ.b (rk m nx j)=_;rw[h3]
  ·show ρ.sl (rk m nx j)=_;rw[h3]
 have vj:∀i b',lk bl i=some b'→∃k b,m[i]?=some k∧lk bx k=some b∧Ax (fk m 0) b=some b'∧bu ρl w i b'∧b'.lt m.length=true∧∀g,br ρl i b' g↔br ρ k b g:=fun i b' h=>by
  obtain⟨_,k,b,h1,h2,h3⟩:=Tv i b' h;rw[Nat.sub_zero]at h1;obtain⟨k1,k2,k3⟩:=hm.ok k b h2;obtain⟨e1,e2,e3⟩:=HX y6 (Yc i k h1) k1 h3 k2 k3;exact⟨k,b,h1,h2,h3,e1,e2,e3⟩
 refine⟨ρl,y6,?_,fun i _=>⟨rfl,rfl⟩,fun g=>⟨fun⟨i,b',h1,h2⟩=>?_,fun⟨k,b,h1,h2,h3,b',h4⟩=>?_⟩⟩
 ·exact
  {os:=rfl,tape:=rfl,output:=OD.refl _,size:=Nat.le_refl _,frame:=fun _ _ _=>rfl,base:=Nat.le_refl _,agree:=fun _ _=>⟨rfl,rfl⟩
   hp:=hm.hp,hle:=Le.refl H,cR:=fun _ h _ _=>h
   ok:=fun i b' h=>by
    obtain⟨k,b,h1,_,_,h4,h5,_⟩:=vj i b' h;exact⟨(gh.1 h1).1,h4,h5⟩
   own:=fun i b' g h ho=>by
    obtain⟨k,b,_,h2,_,_,_,h6⟩:=vj i b' h;exact⟨(hm.own k b g h2 ((h6 g).1 ho)).1,.inr ⟨i,b',h,ho⟩⟩
   eZ:=fun i i' b b' g h h' ho dx=>by
    obtain⟨k,c,h1,h2,_,_,_,h6⟩:=vj i b h;obtain⟨k',c',CL,NZ,_,_,_,Ov⟩:=vj i' b' h';have e:=hm.eZ k k' c c' g h2 NZ ((h6 g).1 ho) ((Ov g).1 dx);subst e
    exact (List.getElem?_inj (gh.1 h1).1 hN).1 (h1.trans CL.symm) }
 ·obtain⟨k,b,e1,e2,e3,_,_,e6⟩:=vj i b' h1;exact⟨k,b,dY e1,e2,(e6 g).1 h2,b',e3⟩
 ·obtain⟨i,hi⟩:=List.getElem?_of_mem h1
  have kX:∀(r:List Nat) (o:Nat) (l:List (Nat×Bx)),rH m bx o r=some l→∀i,r[i]?=some k→∃b',lk l (o+i)=some b':=by
   intro r
   induction r with
   | nil=>intro o l _ i h;simp at h
   | cons x r ih =>
    intro o l hl i hi;rw[rH]at hl;split at hl
    ·split at hl
     ·split at hl
      ·rename_i l' th;simp only[Option.some.injEq]at hl;subst hl
       cases i with
       | zero=>exact⟨_,by rw[Nat.add_zero,aT,if_pos rfl]⟩
       | succ i =>
        simp at hi;obtain⟨b',gr⟩:=ih (o+1) l' th i hi;rw[show o+1+i=o+(i+1) by omega]at gr;exact⟨b',by rw[aT,if_neg (by omega)];exact gr⟩
      ·cases hl
     ·cases hl
    ·cases hl
  obtain⟨c,hc⟩:=kX m 0 bl oJ i hi;rw[Nat.zero_add]at hc;obtain⟨k',b2,e1,e2,_,_,_,e6⟩:=vj i c hc;rw[hi]at e1;obtain rfl:=Option.some.inj e1;rw[h2]at e2;obtain rfl:=Option.some.inj e2;exact⟨i,c,hc,(e6 g).2 h3⟩
theorem Mem.merge {bx bl b2:List (Nat×Bx)} {nx:Nat} {m:List Nat} {ρl ρ2:bk} {t:St} {H2:Hp} {w':World} (hm:Mem B ρ bx nx H w) (oJ:rH m bx 0 m=some bl)
  (U2:∀i,i<m.length→ρl.b i=ρ.b (rk m nx i)∧ρl.sl i=ρ.sl (rk m nx i)) (hE:∀g,(Bs.lP w ρl bl m.length H).E g↔∃k b,k∈m∧lk bx k=some b∧br ρ k b g∧∃b',Ax (fk m 0) b=some b')
  (ti:Mem (Bs.lP w ρl bl m.length H) ρ2 t.bx t.nx H2 w') (uu:yN (fun i=>some (rk m nx i)) t.bx=some b2):
  ∃ρ3,oD nx ρ ρ3∧Good (fun i=>some (rk m nx i)) ρ2 t.nx ρ3 (nx+(t.nx - m.length))∧Mem B ρ3 (b2++uj m bx) (nx+(t.nx - m.length)) H2 w':=by
 let ρ3:bk:=⟨fun k=>if k<nx then ρ.b k else ρ2.b (k - nx+m.length),fun k=>if k<nx then ρ.sl k else ρ2.sl (k - nx+m.length)⟩
 obtain⟨_,dm⟩:=wC oJ;have cP:m.length≤t.nx:=ti.base
 have Xl:∀k∈m,k<nx:=fun k hk=>by
  obtain⟨b,hb⟩:=dm k hk;exact (hm.ok k b hb).1
 have jC:oD nx ρ ρ3:=fun k hk=>⟨if_pos hk,if_pos hk⟩
 have y6:Good (fun i=>some (rk m nx i)) ρ2 t.nx ρ3 (nx+(t.nx - m.length)):=fun i j h hi=>by
  simp only[Option.some.injEq]at h;subst h
  by_cases aj:i<m.length
  ·have h1:=LF (nx:=nx) aj;have h2:=Xl _ (dY h1);obtain⟨h3,h4⟩:=U2 i aj;obtain⟨h5,h6⟩:=ti.agree i aj;refine⟨by omega,?_,?_⟩
   ·rw[(jC _ h2).1,←h3];exact h5.symm
   ·rw[(jC _ h2).2,←h4];exact h6.symm
  ·have h1:=Qi (nx:=nx) (Nat.le_of_not_lt aj);rw[h1]
   have h2:¬nx+(i - m.length)<nx:=by omega
   have h3:nx+(i - m.length) - nx+m.length=i:=by omega
   refine⟨by omega,?_,?_⟩
   ·show (if _ then _ else _)=_;rw[if_neg h2,h3]
   ·show (if _ then _ else _)=_;rw[if_neg h2,h3]
 have new:∀k b,lk b2 k=some b→∃i b0,lk t.bx i=some b0∧rk m nx i=k∧k<nx+(t.nx - m.length)∧bu ρ3 w' k b∧b.lt (nx+(t.nx - m.length))=true∧∀g,br ρ3 k b g↔br ρ2 i b0 g:=fun k b h=>by
  obtain⟨i,b0,h1,h2,h3⟩:=CI uu h;obtain⟨k1,k2,k3⟩:=ti.ok i b0 h1;obtain⟨e1,e2,e3⟩:=HX y6 h2 k1 h3 k2 k3;have h4:=(y6 i k h2 k1).1;simp only[Option.some.injEq]at h2;exact⟨i,b0,h1,h2,h4,e1,e2,e3⟩
 have nE:∀k b g,k ∉ m→lk bx k=some b→br ρ k b g→¬(Bs.lP w ρl bl m.length H).E g:=fun k b g hk hb ho he=>by
  obtain⟨k',b',h1,h2,h3,_⟩:=(hE g).1 he;have:=hm.eZ k k' b b' g hb h2 ho h3;subst this;exact hk h1
 have Tw:∀k b,k ∉ m→lk bx k=some b→k<nx∧bu ρ3 w' k b∧b.lt nx=true∧∀g,br ρ3 k b g→br ρ k b g:=fun k b hk hb=>by
  obtain⟨h1,h2,h3⟩:=hm.ok k b hb;refine⟨h1,(h2.heap fun g ho=>?_).same jC h1 h3,h3,fun g ho=>ho.same jC h1⟩;exact ti.frame g (h2.lt ho) (nE k b g hk hb ho)
 refine⟨ρ3,jC,y6,?_⟩
 have VF:∀g,(Bs.lP w ρl bl m.length H).E g→H g=none∧(B.N≤g∨B.E g)∧g<w.heap.size:=fun g he=>by
  obtain⟨k,b,_,h2,h3,_⟩:=(hE g).1 he;obtain⟨h4,h5⟩:=hm.own k b g h2 h3;exact⟨h4,h5,(hm.ok k b h2).2.1.lt h3⟩
 have yu:nx≤nx+(t.nx - m.length):=Nat.le_add_right _ _
 have split:∀k b,lk (b2++uj m bx) k=some b→lk b2 k=some b∨(b = .dead∧k∈m)∨(k ∉ m∧lk bx k=some b):=fun k b h=>by
  rw[y0]at h;split at h
  ·rename_i x hx;cases h;exact .inl hx
  ·rcases CK h with ⟨h1,h2⟩ | h1
   ·exact .inr (.inl ⟨h2,h1⟩)
   ·exact .inr (.inr h1)
 exact
 {os:=ti.os.trans hm.os,tape:=ti.tape.trans hm.tape,output:=hm.output.trans ti.output
  size:=Nat.le_trans hm.size ti.size
  frame:=fun g hg vu=>by
   refine (ti.frame g (Nat.lt_of_lt_of_le hg hm.size) fun he=>?_).trans (hm.frame g hg vu)
   rcases (VF g he).2.1 with h | h
   ·omega
   ·exact vu h
  base:=Nat.le_trans hm.base yu
  agree:=fun k hk=>by
   have:=jC k (Nat.lt_of_lt_of_le hk hm.base)
   rw[this.1,this.2];exact hm.agree k hk
  hp:=ti.hp
  hle:=hm.hle.trans ti.hle
  cR:=fun g h1 h2 h3=>ti.cR g (hm.cR g h1 h2 h3) (Nat.lt_of_lt_of_le h2 hm.size) fun he=>by
   rcases (VF g he).2.1 with h | h
   ·omega
   ·exact h3 h
  ok:=fun k b h=>by
   rcases split k b h with h | ⟨rfl,Tx⟩ | ⟨h1,h2⟩
   ·obtain⟨i,b0,_,_,h4,h5,h6,_⟩:=new k b h;exact⟨h4,h5,h6⟩
   ·exact⟨Nat.lt_of_lt_of_le (Xl k Tx) yu,trivial,rfl⟩
   ·obtain⟨h3,h4,h5,_⟩:=Tw k b h1 h2;refine⟨Nat.lt_of_lt_of_le h3 yu,h4,?_⟩
    cases b with
    | cells T cs=>exact jB yu cs h5
    | _=>rfl
  own:=fun k b g h ho=>by
   rcases split k b h with h | ⟨rfl,h⟩ | ⟨h1,h2⟩
   ·obtain⟨i,b0,h1,_,_,_,_,h7⟩:=new k b h;obtain⟨h8,h9⟩:=ti.own i b0 g h1 ((h7 g).1 ho);refine⟨h8,?_⟩
    rcases h9 with h9 | h9
    ·exact .inl (Nat.le_trans hm.size h9)
    ·exact (VF g h9).2.1
   ·exact ho.elim
   ·obtain⟨h3,_,_,h6⟩:=Tw k b h1 h2;obtain⟨h7,h8⟩:=hm.own k b g h2 (h6 g ho);exact⟨ti.cR g h7 ((hm.ok k b h2).2.1.lt (h6 g ho)) (nE k b g h1 h2 (h6 g ho)),h8⟩
  eZ:=fun k k' b b' g h h' ho dx=>by
   have mix:∀k b k' b',lk b2 k=some b→k' ∉ m→lk bx k'=some b'→br ρ3 k b g→br ρ3 k' b' g→False:=fun k b k' b' h h1 h2 ho dx=>by
    obtain⟨i,b0,e1,_,_,_,_,e7⟩:=new k b h;obtain⟨e3,_,_,e6⟩:=Tw k' b' h1 h2;have U3:=e6 g dx
    rcases (ti.own i b0 g e1 ((e7 g).1 ho)).2 with h9 | h9
    ·have:=(hm.ok k' b' h2).2.1.lt U3;exact absurd h9 (Nat.not_le_of_lt this)
    ·exact nE k' b' g h1 h2 U3 h9
   rcases split k b h with h | ⟨rfl,h⟩ | ⟨h1,h2⟩
   ·rcases split k' b' h' with h' | ⟨rfl,h'⟩ | ⟨CL,NZ⟩
    ·obtain⟨i,b0,e1,e2,_,_,_,e7⟩:=new k b h;obtain⟨i',Yd,Ye,Yf,_,_,_,Yg⟩:=new k' b' h';have:=ti.eZ i i' b0 Yd g e1 Ye ((e7 g).1 ho) ((Yg g).1 dx);rw[←e2,←Yf,this]
    ·exact dx.elim
    ·exact (mix k b k' b' h CL NZ ho dx).elim
   ·exact ho.elim
   ·rcases split k' b' h' with h' | ⟨rfl,h'⟩ | ⟨CL,NZ⟩
    ·exact (mix k' b' k b h' h1 h2 dx ho).elim
    ·exact dx.elim
    ·obtain⟨_,_,_,e6⟩:=Tw k b h1 h2;obtain⟨_,_,_,Yh⟩:=Tw k' b' CL NZ
     exact hm.eZ k k' b b' g h2 NZ (e6 g ho) (Yh g dx) }
theorem LG {f:FuncId} {args:List SV} {K:KK} (h:Cm C f args s H K) (hl:SV.jW s.nx args=true) (hr:Rel C B ρ s H a w) {o:Oper} {next:Act→World→Prop} {Q:Exit→Act→World→Prop}
  (hn:∀x s' H' ρ' w',K x s' H'→Rel C B ρ' s' H' a w'→Le H H'→x.lt s'.nx=true→next (a.put o.dst (ga ρ' x)) w'):
  o.upon C.P a next Q ((callFunc f (cE ρ args).toArray).run C.P w):=by
 obtain⟨m,wE,h⟩:=h;obtain⟨ys,s1,H1,h1,h2,h3,h4,h5⟩:=wD m args hr hl h;obtain⟨QT,Tm,Tn⟩:=s1;simp only at h1 h4;subst h4;split at h1
 ·exact h1.elim
 ·rename_i bl oJ;obtain⟨ρl,hg,U2,VG,hE⟩:=Mem.VE h2.mem wE oJ;obtain⟨e1,e2⟩:=h5 ρl m.length hg;rw[h1.1,←e1];show Calls C.P f (cE ρl ys).toArray w _
  refine (h1.2 w ρl U2 e2).mono fun e w' ⟨x,t,H2,ρ2,he,hK,hx,ti⟩=>?_
  subst he;simp only at hK;split at hK
  ·exact hK.elim
  ·rename_i y hy;split at hK
   ·exact hK.elim
   ·rename_i b2 uu;obtain⟨ρ3,VH,S5,VI⟩:=Mem.merge h2.mem oJ VG hE ti uu;obtain⟨e3,e4⟩:=HW S5 x y hy hx;have:=hn y _ H2 ρ3 w' hK ⟨fun u z hu=>?_,h2.sz,h2.defers.up ti.hle,VI⟩ (h3.trans ti.hle) e4
    ·rwa[e3]at this
    ·obtain⟨g1,g2⟩:=h2.env u z hu;exact⟨by rw[g1,pO VH z g2],vy (Nat.le_add_right _ _) z g2⟩
theorem ba {o:Oper} {c:Call} {b:Builtin} (ho:o.op = .call c) (hc:c.callee = .builtin b) (ev:Operand→Value) (w:World):
  (execOp ev o).run P w=(builtin b c.argTypes o.type (c.args.map fun | .const _=>true | _=>false) (c.args.map ev)).run P w:=by
 simp only[execOp,ho,resolve,hc,Sem.run_bind,Sem.run_pure,Result.andThen_ok,invoke]
 rfl
theorem LH {c:Call} {g:Operand} {T:TypeId} {K:KK} (hc:c.callee = .value g) (h:match get s g with
   | some (.fn f cap)=>match Ci s c.args.toList with
    | some vs=>bif gp f C.xf then Qd C f (vs++cap) s H K else bif gp f C.gf then Cm C f (vs++cap) s H K else Cj C f (vs++cap) T s H K
    | none=>False
   | _=>bp C s (.call c) T H K):bp C s (.call c) T H K:=by
 split at h
 ·rename_i f cap hg;split at h
  ·rename_i vs yr;intro B ρ o a w ho hT hr next Q hn;have h1:=(ai hr hg).1;have h2:=(mh hr yr).1;rw[ga]at h1
   have h3:c.args.map a.eval=(cE ρ vs).toArray:=by apply Array.ext';simpa using h2
   unfold Oper.wp
   have h4:(execOp a.eval o).run C.P w=(callFunc f (cE ρ (vs++cap)).toArray).run C.P w:=by
    simp only[execOp,ho,resolve,hc,h1,Deferred.ofValue,Sem.run_bind,Sem.run_pure,Result.andThen_ok,invoke,h3]
    congr 2
    simp [cH]
   rw[h4]
   have Ja:SV.jW s.nx (vs++cap)=true:=by
    have hc:=(ai hr hg).2;rw[SV.lt]at hc;rw[dS]at *;intro x hx
    rcases List.mem_append.1 hx with hx | hx
    ·exact (dS _ _).1 (mh hr yr).2 x hx
    ·exact hc x hx
   cases hxf:gp f C.xf with
   | true =>
    rw[hxf]at h;obtain⟨x,Fs,E2,H',ρ',w',e1,hk,hl,hm,hs,yu,_,hle⟩:=h B ρ w hr.mem Ja;rw[e1];refine hn _ _ _ _ _ hk ⟨fun t y hy=>?_,hr.sz,hr.defers.up hle,hm⟩ hle hl;obtain⟨a1,a2⟩:=hr.env t y hy;exact⟨by rw[a1,pO hs y a2],vy yu y a2⟩
   | false =>
   rw[hxf]at h;simp only[cond_false]at h
   cases hgf:gp f C.gf with
   | false=>rw[hgf]at h;exact LB h hr hn
   | true =>
    rw[hgf]at h;exact LG h Ja hr hn
  ·exact h.elim
 ·exact h
end
end Go.Sy
end
section
namespace Go.Sy
open Go.RowKit (Below)
section
variable {C:Cx} {B:Bs} {ρ:bk} {s:St} {H:Hp} {a:Act} {w:World} {P:Program}
theorem Ow (hr:Rel C B ρ s H a w) {k:Nat} {e:TypeId} {sz:Nat} {xs:List (List Value)} (hk:lk s.bx k=some (.row e sz xs)):(ρ.sl k).2.1=xs.length:=by
 rcases (hr.mem.ok _ _ hk).2.1.1.2 with ⟨h2,h3⟩ | ⟨g,cap,cur,h2,_⟩
 ·simp only[bk.val,Value.slice.injEq]at h2;omega
 ·simp only[bk.val,Value.slice.injEq]at h2;exact h2.2.1
theorem LI {fb:Prop} (ht:eH C) {c:Call} {T:TypeId} {K:KK} (hc:c.callee = .builtin .len) (h:match c.args.toList with
    | [x]=>match c.argTypes.toList with
     | [T']=>match C.tt T' with
      | some (_,.slice _)=>match get s x with
       | some (.v (.slice _ n _))=>K (.v (.int .i64 n)) s H
       | some (.own k)=>match lk s.bx k with
        | some (.row _ _ xs)=>K (.v (.int .i64 xs.length)) s H
        | _=>False
       | some (.sub _ _ _ n)=>K (.v (.int .i64 n)) s H
       | _=>False
      | some (_,.string)=>match get s x with
       | some (.v (.string t))=>K (.v (.int .i64 (sl t).length)) s H
       | _=>False
      | _=>fb
     | _=>False
    | _=>False):lR C s (.call c) T H K∨fb:=by
 split at h
 ·rename_i x hx
  have ha:c.args=#[x]:=by apply Array.ext';simpa using hx
  split at h
  ·rename_i T' Jb
   have sZ:c.argTypes=#[T']:=by apply Array.ext';simpa using Jb
   split at h
   ·rename_i i0 e hT;have hu:=(ht _ _ _ hT).2;split at h
    ·rename_i ad n cp hg
     refine .inl fun B ρ o a w ho _ hr=>⟨_,?_,h,by rw[SV.lt]⟩
     have h1:=(ai hr hg).1;rw[ga]at h1;rw[ba ho hc,ha,sZ];simp [builtin,Builtin.len_,h1,run_underlying hu,ga,goInt]
    ·rename_i k hg;split at h
     ·rename_i e' sz xs hk
      refine .inl fun B ρ o a w ho _ hr=>⟨_,?_,h,by rw[SV.lt]⟩
      have h1:=(ai hr hg).1;have h2:=Ow hr hk;rw[ga]at h1;rw[ba ho hc,ha,sZ];simp [builtin,Builtin.len_,h1,run_underlying hu,ga,goInt,bk.val,h2]
     ·exact h.elim
    ·rename_i k sz lo n hg
     refine .inl fun B ρ o a w ho _ hr=>⟨_,?_,h,by rw[SV.lt]⟩
     have h1:=(ai hr hg).1;rw[ga,bk.part]at h1;rw[ba ho hc,ha,sZ];simp [builtin,Builtin.len_,h1,run_underlying hu,ga,goInt]
    ·exact h.elim
   ·rename_i i0 hT;have hu:=(ht _ _ _ hT).2;split at h
    ·rename_i t hg
     refine .inl fun B ρ o a w ho _ hr=>⟨_,?_,h,by rw[SV.lt]⟩
     have h1:=(ai hr hg).1;rw[ga]at h1;rw[ba ho hc,ha,sZ];simp [builtin,Builtin.len_,h1,run_underlying hu,ga,goInt]
     rfl
    ·exact h.elim
   ·exact .inr h
  ·exact h.elim
 ·exact h.elim
theorem LJ {fb:Prop} {c:Call} {T:TypeId} {K:KK} (hc:c.callee = .builtin .min) (h:match c.args.toList with
    | [x,y]=>match get s x with
     | some (.v (.int k a))=>match get s y with
      | some (.v (.int _ b))=>K (.v (.int k (min a b))) s H
      | _=>False
     | _=>fb
    | _=>fb):lR C s (.call c) T H K∨fb:=by
 split at h
 ·rename_i x y hx
  have ha:c.args=#[x,y]:=by apply Array.ext';simpa using hx
  split at h
  ·rename_i k m hg;split at h
   ·rename_i k' n iW
    refine .inl fun B ρ o a w ho _ hr=>⟨_,?_,h,by rw[SV.lt]⟩
    have h1:=(ai hr hg).1;have h2:=(ai hr iW).1;rw[ga]at h1 h2;rw[ba ho hc,ha]
    have e:(if n<m then n else m)=min m n:=by split<;>omega
    simp [builtin,Builtin.min_,Builtin.min2,h1,h2,ga,e]
   ·exact h.elim
  ·exact .inr h
 ·exact .inr h
theorem LK {fb:Prop} {c:Call} {T:TypeId} {K:KK} (hc:c.callee = .builtin .max) (h:match c.args.toList with
    | [x,y]=>match get s x with
     | some (.v (.int k a))=>match get s y with
      | some (.v (.int _ b))=>K (.v (.int k (max a b))) s H
      | _=>False
     | _=>fb
    | _=>fb):lR C s (.call c) T H K∨fb:=by
 split at h
 ·rename_i x y hx
  have ha:c.args=#[x,y]:=by apply Array.ext';simpa using hx
  split at h
  ·rename_i k m hg;split at h
   ·rename_i k' n iW
    refine .inl fun B ρ o a w ho _ hr=>⟨_,?_,h,by rw[SV.lt]⟩
    have h1:=(ai hr hg).1;have h2:=(ai hr iW).1;rw[ga]at h1 h2;rw[ba ho hc,ha]
    have e:(if m<n then n else m)=max m n:=by split<;>omega
    simp [builtin,Builtin.max_,Builtin.max2,h1,h2,ga,e]
   ·exact h.elim
  ·exact .inr h
 ·exact .inr h
def AM (w:World) (v:Value) (sz:Nat) (ys:List (List Value)):Prop :=
 (∀y∈ys,y.length=sz∧∀u∈y,u.oneCell'=true) ∧
  ((v = .slice none 0 0∧ys=[])∨∃ad c,v = .slice (some ad) ys.length c∧∀j u,ys.flatten[j]?=some u→w.cell? (ad.add j)=some u)
theorem FA {sz:Nat} (cN:0<sz) {ys:List (List Value)} (h:∀y∈ys,y.length=sz) {j:Nat} {u:Value} (hj:ys.flatten[j]?=some u):
  ∃y,ys[j / sz]?=some y∧y[j % sz]?=some u:=by
 have hl:ys.flatten.length=ys.length*sz:=by
  clear hj
  induction ys with
  | nil=>simp
  | cons x r ih=>rw[List.flatten_cons,List.length_append,h x List.mem_cons_self,ih (fun y hy=>h y (List.mem_cons_of_mem _ hy)),List.length_cons,Nat.add_mul];omega
 have aj:=(gh.1 hj).1;rw[hl]at aj;have h1:j / sz<ys.length:=Nat.div_lt_of_lt_mul (by rw[Nat.mul_comm];exact aj);refine⟨ys[j / sz],aL h1,?_⟩;rw[←gD (sz:=sz) h (aL h1) (j % sz) (Nat.mod_lt _ cN),Nat.mul_comm,Nat.div_add_mod];exact hj
theorem tj {sz:Nat}:∀ {xs:List (List Value)} (n:Nat),(∀x∈xs,x.length=sz)→(xs.drop n).flatten=xs.flatten.drop (n*sz)
 | [],n,_=>by simp
 | x::r,0,_=>by simp
 | x::r,n+1,h=>by
  have h1:=h x List.mem_cons_self;rw[List.drop_succ_cons,tj n (fun y hy=>h y (List.mem_cons_of_mem _ hy)),List.flatten_cons,show (n+1)*sz=x.length+n*sz by rw[Nat.add_mul];omega,List.drop_length_add_append]
theorem fj {e:TypeId} {sz:Nat} {xs:List (List Value)} {k:Nat} (hb:bu ρ w k (.row e sz xs)):
  (ρ.sl k=(none,0,0)∧xs=[])∨∃cap cur,ρ.sl k=(some ⟨ρ.b k,0,none⟩,xs.length,cap)∧w.heap[ρ.b k]?=some (.cells cur e (0,0))∧xs.length≤cap∧cap≤maxLen∧cur.size=cap*sz∧cur.toList.take (xs.length*sz)=xs.flatten:=by
 rcases hb.1.2 with ⟨h1,h2⟩ | ⟨g,cap,cur,h1,_,h2,h3,eI,h4,h5⟩
 ·left
  have:=List.eq_nil_of_length_eq_zero h2;refine⟨?_,this⟩;simp only[bk.val,Value.slice.injEq]at h1;obtain⟨e1,e2,e3⟩:=h1;exact Prod.ext e1 (Prod.ext e2 e3)
 ·right
  have hg:=hb.2.2 g (by rw[h1];rfl);subst hg;simp only[bk.val,Value.slice.injEq]at h1;obtain⟨e1,e2,e3⟩:=h1;exact⟨cap,cur,Prod.ext e1 (Prod.ext e2 e3),h2,h3,eI,h4,h5⟩
theorem LL {e:TypeId} {sz:Nat} {xs:List (List Value)} {k lo n:Nat} (hb:bu ρ w k (.row e sz xs)) (hn:lo+n≤xs.length):AM w (ρ.part k sz lo n) sz ((xs.drop lo).take n):=by
 refine⟨fun y hy=>hb.2.1 y (List.mem_of_mem_drop (List.mem_of_mem_take hy)),?_⟩
 have hl:((xs.drop lo).take n).length=n:=by simp;omega
 have cN:∀x∈xs,x.length=sz:=fun x hx=>(hb.2.1 x hx).1
 rcases fj hb with ⟨h1,rfl⟩ | ⟨cap,cur,h1,h2,h3,eI,h4,h5⟩
 ·simp only[List.length_nil,Nat.le_zero]at hn
  obtain⟨rfl,rfl⟩:lo=0∧n=0:=by omega
  refine .inl ⟨?_,by simp⟩;rw[bk.part,h1]
  rfl
 ·rw[bk.part,h1,hl]
  by_cases hc:cap=lo
  ·refine .inr ⟨⟨ρ.b k,0,none⟩,_,by rw[dR,if_pos hc],fun j u hj=>?_⟩;have:(xs.drop lo).take n=[]:=List.eq_nil_of_length_eq_zero (by rw[hl];omega);rw[this]at hj;simp at hj
  ·refine .inr ⟨⟨ρ.b k,lo*sz,none⟩,_,by rw[dR,if_neg hc,Option.map_some,Addr.at_,Nat.zero_add],fun j u hj=>?_⟩;rw[Addr.at_,cell_of _ _ h2];rw[kr n (fun x hx=>cN x (List.mem_of_mem_drop hx)),tj lo cN,List.getElem?_take]at hj;split at hj
   ·rw[List.getElem?_drop,←h5,List.getElem?_take]at hj;split at hj
    ·rw[←hj];simp
    ·cases hj
   ·cases hj
theorem jh (hr:Rel C B ρ s H a w) {y:SV} {sz:Nat} (cN:0<sz) {K:List (List Value)→Prop} (h:rowOf s H y sz K):∃ys,K ys∧AM w (ga ρ y) sz ys:=by
 unfold rowOf at h;split at h
 ·rename_i k;split at h
  ·rename_i e cn xs hk
   have et:=dr h;clear h;obtain⟨oF,h⟩:=et
   obtain rfl:=bE oF;have hb:=(hr.mem.ok _ _ hk).2.1;refine⟨xs,h,hb.2.1,?_⟩;rw[ga]
   rcases hb.1.2 with ⟨h2,h3⟩ | ⟨g,cap,cur,h2,_⟩
   ·exact .inl ⟨h2,List.eq_nil_of_length_eq_zero h3⟩
   ·exact .inr ⟨_,_,h2,hb.1.cells (by rw[h2];rfl)⟩
  ·exact h.elim
 ·rename_i k Ck lo n;split at h
  ·rename_i e cn xs hk
   have et:=dr h;clear h;obtain⟨oF,hn,h⟩:=et
   simp only[Bool.and_eq_true]at oF;obtain rfl:=bE oF.1;obtain rfl:=bE oF.2;exact⟨_,h,by rw[ga];exact LL (hr.mem.ok _ _ hk).2.1 hn⟩
  ·exact h.elim
 ·rename_i v;obtain⟨xs,⟨a',cap,h1,h2,h3,h4⟩,h⟩:=h;refine⟨xs,h,h3,?_⟩;rw[ga]
  rcases h4 with ⟨rfl,rfl⟩ | ⟨ad,rfl,AG,c,T,fr,hH,hc,gq⟩
  ·cases a' with
   | none=>exact .inl ⟨h1,rfl⟩
   | some ad=>exact .inr ⟨ad,0,h1,fun j u hj=>by simp at hj⟩
  ·refine .inr ⟨ad,cap,h1,fun j u hj=>?_⟩;obtain⟨y,hy,hu⟩:=FA cN (fun y hy=>(h3 y hy).1) hj;have h5:=gq _ _ hy (j % sz) (Nat.mod_lt _ cN)
   have h6:ad.add j=⟨ad.block,ad.off+j,none⟩:=by
    obtain⟨b,o,sp⟩:=ad;simp only at AG;subst AG;rw[Addr.at_]
   rw[h6,cell_of _ _ (hr.mem.hp _ _ hH)];rw[Nat.add_assoc,Nat.mul_comm,Nat.div_add_mod,hu]at h5;exact h5
 ·exact h.elim
theorem AN (ht:eH C) {e:TypeId} {i:TypeInfo×TypeDesc} (h:C.tt e=some i):C.P.info? e=some i.1:=(ht e i.1 i.2 h).1
theorem tk {P:Program} (w:World) (t ty e:TypeId) (i:TypeInfo) (ht:P.underlying t=some (.slice e)) (hi:P.info? e=some i) (ad:Addr) (c:Nat):
  (Builtin.append_ #[t,t] ty #[.slice none 0 0,.slice (some ad) 0 c]).run P w = .ok (.slice none 0 0) w:=by
 have hf:=run_firstCells_some (P:=P) w i.size 0 ad 0 c [] (by simp) (by simp);simp [Builtin.append_,run_underlying ht,sizeOf,typeInfo,hi,Builtin.lenOf,hf]
theorem nq (ht:eH C) {t ty e:TypeId} {i:TypeInfo×TypeDesc} (hT:eY C t=some e) (hi:C.tt e=some i) {z:Value} (hz:i.1.zero=some z) (Jc:z.cells.size=i.1.size) (cN:0<i.1.size)
  {v y:Value} {xs ys:List (List Value)} (gG:w.ownsRow 0 e i.1.size v xs.length xs.flatten) (hn:AM w y i.1.size ys)
  (CM:(xs.length+ys.length)*i.1.bytes≤140737488355328) (hlen:xs.length+ys.length≤9223372036854775807):
  ∃v' w',(Builtin.append_ #[t,t] ty #[v,y]).run C.P w = .ok v' w'∧w'.ownsRow 0 e i.1.size v' (xs++ys).length (xs++ys).flatten∧w.grownBy w' v.ownBlock∧(∀g,v'.ownBlock=some g→v.ownBlock=some g∨w.heap.size≤g)∧w.drawn≤w'.drawn∧∃a l c,v' = .slice a l c:=by
 have hu:=ep ht hT;have oK:=AN ht hi;have yk:(xs++ys).flatten=xs.flatten++ys.flatten:=List.flatten_append
 rcases hn.2 with ⟨rfl,rfl⟩ | ⟨ad,c,rfl,fD⟩
 ·refine⟨v,w,run_append_owned_none w 0 t ty e i.1 i.1.size hu oK v _ _ gG,by simpa using gG,⟨rfl,rfl,rfl,Nat.le_refl _,fun _ _ _=>rfl⟩,fun g hg=>.inl hg,Nat.le_refl _,?_⟩
  rcases gG.2 with ⟨h1,_⟩ | ⟨g,cap,cur,h1,_⟩
  ·exact⟨_,_,_,h1⟩
  ·exact⟨_,_,_,h1⟩
 ·have hl:ys.flatten.length=ys.length*i.1.size:=by
   clear fD;have:=hn.1;clear hn CM hlen gG yk
   induction ys with
   | nil=>simp
   | cons x r ih=>rw[List.flatten_cons,List.length_append,(this x List.mem_cons_self).1,ih (fun y hy=>this y (List.mem_cons_of_mem _ hy)),List.length_cons,Nat.add_mul];omega
  have h1:∀u∈ys.flatten,u.oneCell'=true:=fun u hu=>by
   obtain⟨y,hy,hu⟩:=List.mem_flatten.1 hu;exact (hn.1 y hy).2 u hu
  have hm:xs.length+ys.length≤maxLen:=by simp only[maxLen];omega
  rw[yk,List.length_append]
  rcases gG.2 with ⟨rfl,h0⟩ | ⟨g,cap,cur,rfl,LC,hg,Yi,Q8,fB,yV⟩
  ·have hx:xs=[]:=List.eq_nil_of_length_eq_zero h0;subst hx;obtain⟨v',w',hr,ho,hg,_⟩:=run_append_own (P:=C.P) w w.heap.size t ty e i.1 z i.1.size i.1.bytes hu oK hz rfl rfl Jc cN (.slice none 0 0) 0 [] (World.ownsRow_nil _ _ _ _) ad ys.length c ys.flatten hl fD h1 (by simpa using hm) (by simpa using CM) (Nat.le_refl _);refine⟨v',w',hr,?_,hg,fun g iW=>.inr (ho.lt g iW).1,?_,?_⟩
   ·refine⟨by simpa using ho.1,?_⟩
    rcases ho.2 with h | ⟨g,cap,cur,a1,a2,a3,a4,a5,a6,a7⟩
    ·exact .inl (by simpa using h)
    ·exact .inr ⟨g,cap,cur,by simpa using a1,Nat.zero_le _,a3,by simpa using a4,a5,a6,by simpa using a7⟩
   ·by_cases VJ:ys.length=0
    ·have hy:ys=[]:=List.eq_nil_of_length_eq_zero VJ;subst hy;have h2:=tk (P:=C.P) w t ty e i.1 hu oK ad c;rw[List.length_nil,h2]at hr;simp only[Result.ok.injEq]at hr;rw[←hr.2];exact Nat.le_refl _
    ·have h2:=run_append_nil (P:=C.P) w t ty e i.1 z hu oK hz ad ys.length c ys.flatten hl fD (by omega) (by omega) (by simp only[List.length_nil,Nat.zero_add]at CM;omega);rw[hr]at h2;simp only[Result.ok.injEq]at h2;rw[h2.2];exact Nat.le_succ _
   ·rcases ho.2 with ⟨h1,_⟩ | ⟨g,cap,cur,h1,_⟩<;>exact⟨_,_,_,h1⟩
  ·obtain⟨v',w',hr,ho,LM,_⟩:=run_append_own (P:=C.P) w 0 t ty e i.1 z i.1.size i.1.bytes hu oK hz rfl rfl Jc cN _ xs.length xs.flatten gG ad ys.length c ys.flatten hl fD h1 hm CM (Nat.zero_le _)
   have Q9:w.drawn≤w'.drawn:=by
    by_cases iH:xs.length+ys.length≤cap
    ·have jZ:xs.length*i.1.size+ys.flatten.length≤cur.size:=by rw[hl,fB,←Nat.add_mul];exact Nat.mul_le_mul_right _ iH
     have h2:=run_append_room (P:=C.P) w t ty e i.1 hu oK g xs.length cap cur hg ad ys.length c ys.flatten hl fD h1 iH jZ;rw[hr]at h2;simp only[Result.ok.injEq]at h2;rw[h2.2];exact Nat.le_refl _
    ·have h2:=run_append_grow (P:=C.P) w t ty e i.1 z hu oK hz ⟨g,0,none⟩ xs.length cap xs.flatten gG.1 (gG.cells (g:=g) rfl) ad ys.length c ys.flatten hl fD (by omega) (by omega) (growslice_fits (by omega) CM);rw[hr]at h2;simp only[Result.ok.injEq]at h2;rw[h2.2];exact Nat.le_succ _
   refine⟨v',w',hr,ho,LM,fun g' iW=>?_,Q9,?_⟩
   ·by_cases iH:xs.length+ys.length≤cap
    ·have jZ:xs.length*i.1.size+ys.flatten.length≤cur.size:=by rw[hl,fB,←Nat.add_mul];exact Nat.mul_le_mul_right _ iH
     have h2:=run_append_room (P:=C.P) w t ty e i.1 hu oK g xs.length cap cur hg ad ys.length c ys.flatten hl fD h1 iH jZ;rw[hr]at h2;simp only[Result.ok.injEq]at h2;rw[h2.1]at iW;exact .inl iW
    ·have h2:=run_append_grow (P:=C.P) w t ty e i.1 z hu oK hz ⟨g,0,none⟩ xs.length cap xs.flatten gG.1 (gG.cells (g:=g) rfl) ad ys.length c ys.flatten hl fD (by omega) (by omega) (growslice_fits (by omega) CM);rw[hr]at h2;simp only[Result.ok.injEq]at h2;rw[h2.1]at iW;simp only[Value.ownBlock,Option.some.injEq]at iW;exact .inr (by omega)
   ·rcases ho.2 with ⟨h1,_⟩ | ⟨g,cap,cur,h1,_⟩<;>exact⟨_,_,_,h1⟩
end
end Go.Sy
end
