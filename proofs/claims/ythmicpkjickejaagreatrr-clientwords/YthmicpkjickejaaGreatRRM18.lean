/- Part 'M18' of the proof (SyMk): lemmas, each with its own conditions in its own statement. -/
import Derived.RangeFuncLeaves
import Derived.RangeFuncRecord
import Derived.Test.YthmicpkjickejaaGreatRRM16
namespace Go.Sy
open Go.RowKit (Below)
section
variable {C:Cx} {B:Bs} {ρ:Rho} {s:St} {H:Hp} {a:Act} {w:World} {P:Program}
theorem Mem.off {bx:List (Nat×Bx)} {nx:Nat} {H':Hp} {w':World} (hm:Mem B ρ bx nx H w) (X:Nat→Prop) (h1:w'.os=w.os) (h2:w'.tape=w.tape) (h3:OD w w') (h4:w.heap.size≤w'.heap.size)
  (hX:∀b,b<w.heap.size→¬X b→w'.heap[b]?=w.heap[b]?) (hXN:∀b,X b→B.N≤b) (hXH:∀b,X b→H' b=none) (hXo:∀k b g,lk bx k=some b→Owns ρ k b g→¬X g)
  (hle:Le H' H) (hle0:Le B.H H'):Mem B ρ bx nx H' w' where
 os:=h1.trans hm.os
 tape:=h2.trans hm.tape
 output:=hm.output.trans h3
 size:=Nat.le_trans hm.size h4
 frame:=fun b hbN hE=>by
  rw[hX b (Nat.lt_of_lt_of_le hbN hm.size) (fun h=>absurd (hXN b h) (Nat.not_le.2 hbN))];exact hm.frame b hbN hE
 base:=hm.base
 agree:=hm.agree
 hp:=fun b o ho=>by
  have:=hm.hp b o (hle b o ho)
  rw[hX b (Array.getElem?_eq_some_iff.1 this).1 (fun h=>by rw[hXH b h]at ho;cases ho)];exact this
 hle:=hle0
 hnew:=fun b hb1 hb2 hb3=>by
  cases h:H' b with
  | none=>rfl
  | some o=>have:=hm.hnew b hb1 hb2 hb3;rw[hle b o h]at this;cases this
 ok:=fun k b hk=>⟨(hm.ok k b hk).1,(hm.ok k b hk).2.1.heap (fun g hg=>hX g ((hm.ok k b hk).2.1.lt hg) (hXo k b g hk hg)),(hm.ok k b hk).2.2⟩
 own:=fun k b g hk ho=>by
  refine⟨?_,(hm.own k b g hk ho).2⟩
  cases h:H' g with
  | none=>rfl
  | some o=>have:=(hm.own k b g hk ho).1;rw[hle g o h]at this;cases this
 disj:=hm.disj
def CellsLe (H H':Hp):Prop:=∀b c T f,H b=some (.cells c T f)→H' b=some (.cells c T f)
theorem CellsLe.refl (H:Hp):CellsLe H H:=fun _ _ _ _ h=>h
theorem CellsLe.trans {H1 H2 H3:Hp} (h:CellsLe H1 H2) (h':CellsLe H2 H3):CellsLe H1 H3:=fun _ _ _ _ hb=>h' _ _ _ _ (h _ _ _ _ hb)
theorem unmark (hmk:C.rg=true) {d:Deferred} {ds:List Deferred} (hd:a.defers=d::ds) (hr:Rel C B ρ s H a w):
  ∃D H' w',d.target = .collected D∧(Instr.takeDeferred D).run P w = .ok [] w'∧Le H' H∧Le B.H H'∧CellsLe H H'∧Rel C B ρ s H' { a with defers:=ds } w':=by
 have hM:Marks B H (d::ds):=by have:=hr.defers;rw[hmk,hd]at this;exact this
 obtain⟨D,rfl,h1,h2,h3⟩:=hM.at_ d List.mem_cons_self;have hw:=hr.mem.hp _ _ h3;have hlt:=(Array.getElem?_eq_some_iff.1 hw).1
 have hle:Le (fun b=>if b=D then none else H b) H:=fun b o hb=>by
  dsimp only at hb;split at hb
  ·cases hb
  ·exact hb
 have hle0:Le B.H (fun b=>if b=D then none else H b):=fun b o hb=>by
  dsimp only;rw[if_neg (fun e=>by rw[e,h2]at hb;cases hb)];exact hr.mem.hle b o hb
 have hcl:CellsLe H (fun b=>if b=D then none else H b):=fun b c T f hb=>by
  dsimp only;rw[if_neg (fun e=>by rw[e,h3]at hb;cases hb)];exact hb
 refine⟨D,fun b=>if b=D then none else H b,w.putObj D (.deferred none),rfl,run_takeDeferred hw,hle,hle0,hcl,hr.env,hr.sz,?_,?_⟩
 ·have hM2:Marks B (fun b=>if b=D then none else H b) ds:=by
   refine⟨(List.nodup_cons.1 hM.nodup).2,fun d' hd'=>?_⟩;obtain⟨D',rfl,g1,g2,g3⟩:=hM.at_ d' (List.mem_cons_of_mem _ hd');refine⟨D',rfl,g1,g2,?_⟩;rw[if_neg (fun e=>by subst e;exact (List.nodup_cons.1 hM.nodup).1 hd')];exact g3
  show Dfs C.rg B _ ds
  rw[hmk];exact hM2
 ·refine hr.mem.off (fun b=>b=D) rfl rfl ⟨rfl,Nat.le_refl _⟩ (by simp [World.putObj]) (fun b _ hb=>World.putObj_heap_other hb) (fun b hb=>hb▸h1) (fun b hb=>if_pos hb) (fun k b g hk ho hg=>?_) hle hle0;subst hg;have:=(hr.mem.own k b _ hk ho).1
  rw[h3]at this;cases this
theorem leave (hmk:C.rg=true) {F:Fence} {n:Nat} {fn:Func} {R:Ending→World→Prop}:∀(ds:List Deferred) {H:Hp} {a:Act} {w:World},a.defers=ds→Rel C B ρ s H a w →
  (∀H' w',Le H' H→Le B.H H'→CellsLe H H'→Rel C B ρ s H' { a with defers:=[] } w'→∃v,(results fn a.tmps).run P w' = .ok v w'∧R (.returned v) w') →
  LeavesInM F n P fn a.tmps R ds .returning w
 | [],H,a,w,hd,hr,h=>by
  obtain⟨tmps,defers⟩:=a;dsimp only at hd;subst hd;exact h H w (Le.refl H) hr.mem.hle (CellsLe.refl H) hr
 | d::ds,H,a,w,hd,hr,h=>by
  obtain⟨D,H',w',h1,h2,h3,h4,h5,h6⟩:=unmark (P:=P) hmk hd hr;refine⟨(fun h=>by cases h),.inl ⟨D,w',h1,h2,leave hmk ds (a:={ a with defers:=ds }) rfl h6 fun H2 w2 g1 g2 g3 g4=>h H2 w2 (g1.trans h3) g2 (h5.trans g3) g4⟩⟩
noncomputable def fnM (C:Cx) (n:Nat) (c:Code) (res:List ResultVar) (args:List Value) (H:Hp) (K:Value→Hp→Prop):Prop :=
 wpR { C with n:=n,rg:=true } (scE { C with n:=n,rg:=true } (wpR { C with n:=n,rg:=true } (sc0 { C with n:=n,rg:=true }))) c (fun e s' H'=>match e with
   | .normal | .ret=>match resE { C with n:=n,rg:=true } s' res with
    | some l=>∀Hm,Le H Hm→CellsLe H' Hm→fz2 (resV l) s' Hm fun v _ H''=>K v H''
    | none=>False
   | _=>False) { env:=argEnv 0 args,bx:=[],nx:=0 } H
theorem spec_ofM (ht:TOK C) (hm:C.P.follows .mixedOrders=true) (hb:C.base=0) {f:FuncId} {fn:Func} (hf:C.P.funcs[f]?=some fn) (hc:∀as w,(callFunc f as).run C.P w = .ok (.enter f as) w) {n:Nat} (hn:fn.ntmps=n) {rs:Array ResultVar} (hrs:fn.results=rs) {c:Code} (hbody:fn.body=some c) {args:List Value} (hsz:Nat.ble args.length n=true)
  {K:Value→Hp→Prop} (h:fnM C n c rs.toList args H K):Does C.P f args H K:=by
 refine⟨hc,fun w hp=>?_⟩;subst hn;subst hrs;have hsz:=ble_t hsz;unfold fnM at h;rw[wpR_eq,funext (wpR_eq { C with n:=fn.ntmps,rg:=true } (sc0 { C with n:=fn.ntmps,rg:=true }))]at h;refine (callsIn_wide (n:=4)).1 (callsIn_of_wp_marks hf hbody trivial ?_ rfl)
 let C':Cx:={ C with n:=fn.ntmps,rg:=true }
 have ht':TOK C':=⟨ht.tt,ht.eqs⟩
 let B:Bs:={ N:=w.heap.size,w0:=w,E:=fun _=>False,base:=0,ρ:=⟨fun _=>0,fun _=>(none,0,0)⟩,H:=H }
 have hr:Rel C' B ⟨fun _=>0,fun _=>(none,0,0)⟩ { env:=argEnv 0 args,bx:=[],nx:=0 } H { tmps:=args.toArray++Array.replicate (fn.ntmps - args.toArray.size) undef,defers:=[] } w :=
  {env:=fun t x hx=>by
    obtain⟨_,v,h1,rfl⟩:=argEnv_lk 0 args t x hx;have hlt:=(List.getElem?_eq_some_iff.1 h1).1;refine⟨?_,(ofV_ga ⟨fun _=>0,fun _=>(none,0,0)⟩ v).2 _⟩;rw[(ofV_ga _ v).1];simp only[Nat.sub_zero]at h1 hlt;rw[Array.getElem?_append_left (by simpa using hlt)]
    simpa using h1
   sz:=by simp [C'];omega
   defers:=Dfs.nil _ _ _
   mem:={ os:=rfl,tape:=rfl,output:=OD.refl _,size:=Nat.le_refl _,frame:=fun _ _ _=>rfl,base:=Nat.zero_le _,agree:=fun k hk=>absurd hk (Nat.not_lt_zero k),hp:=hp,hle:=Le.refl H,hnew:=fun _ h _ _=>h,ok:=fun k b hk=>by simp [lk]at hk,own:=fun k b g hk=>by simp [lk]at hk,disj:=fun k k' b b' g hk=>by simp [lk]at hk } }
 refine wpIn_mono (wpIn_wide.2 (wpE_ok1 (B:=B) ht' hm hb.symm c h hr)) fun e a' w' ⟨e0,s',H',ρ',h1,h2,h3,h4⟩=>?_
 subst h1
 have fin:∀l,resE C' s' fn.results.toList=some l→(∀Hm,Le H Hm→CellsLe H' Hm→fz2 (resV l) s' Hm (fun v _ H''=>K v H''))→LeavesInM Fence.wide 4 C.P fn a'.tmps (fun e w''=>∃v1 H1,e = .returned v1∧K v1 H1∧Le H H1∧(∀b o,H1 b=some o→w''.heap[b]?=some o) ∧
   (∀b,H b=none→b<w.heap.size→H1 b=none)∧BelowD w.heap.size w w'') a'.defers .returning w':=fun l hl hz=>by
  refine leave (C:=C') rfl a'.defers rfl h3 fun Hm wm g1 g2 g3 g4=>?_
  have hz:=hz Hm g2 g3;rw[fz2_eq]at hz;obtain⟨s1,H1,k1,k2,k3,k4⟩:=fz_ok (resV l) g4 hz;exact⟨_,results_ok ht' g4 hl,_,H1,rfl,k1,g2.trans k3,k2.mem.hp,fun b hb hlt=>k2.mem.hnew b hb hlt (fun h=>h),⟨⟨k2.mem.os,k2.mem.tape,k2.mem.output.1,k2.mem.size,fun b hb=>k2.mem.frame b hb (fun h=>h)⟩,k2.mem.output.2⟩⟩
 cases e0 with
 | normal =>
  simp only at h2;split at h2
  ·rename_i l hl;exact fin l hl h2
  ·exact h2.elim
 | ret =>
  simp only at h2;split at h2
  ·rename_i l hl;exact fin l hl h2
  ·exact h2.elim
 | exit i=>exact h2.elim
 | goto l=>exact h2.elim
end
end Go.Sy
