/- Part 'M20' of the proof (SyRg): lemmas, each with its own conditions in its own statement. -/
import Derived.RangeFuncSeq
import Derived.Test.YthmicpkjickejaaGreatRRM18
namespace Go.Sy
open Go.RowKit (Below)
structure RCalm (N:Nat) (F:Nat→Prop) (W W':World):Prop where
 os:W'.os=W.os
 tape:W'.tape=W.tape
 od:OD W W'
 size:W.heap.size≤W'.heap.size
 heap:∀b,b<N∨F b→W'.heap[b]?=W.heap[b]?
structure RKept (F:Nat→Prop) (W W':World):Prop where
 os:W'.os=W.os
 tape:W'.tape=W.tape
 od:OD W W'
 size:W.heap.size≤W'.heap.size
 heap:∀b,b<W.heap.size→¬F b→W'.heap[b]?=W.heap[b]?
def IterH {α:Type} (P:Program) (gf:FuncId) (lb:Array Value) (enc:α→Value) (Z:List α) (H:Hp):Prop :=
 ∀(l:Nat) (J:List α→World→(Nat→Prop)→Prop) (W1:World) (F0:Nat→Prop),
  (∀b o,H b=some o→W1.heap[b]?=some o)→J [] W1 F0→(∀b,F0 b→H b=none∧b<W1.heap.size) →
  (∀pre W F W',J pre W F→RCalm W1.heap.size F W W'→J pre W' F) →
  (∀pre x W F,J pre W F→pre++[x] <+: Z→YieldAt Fence.wide 2 P l #[enc x] W fun e W'=>e = .returned (.bool true)∧∃F',J (pre++[x]) W' F'∧RKept F W W'∧∀b,F' b→(F b∨W.heap.size≤b)∧b<W'.heap.size) →
  CallsIn Fence.wide 3 P gf (#[.func (.yield l) #[] #[]]++lb) W1 fun e W'=>(∃v,e = .returned v)∧∃F,J Z W' F
section
variable {C:Cx} {B:Bs} {ρ:Rho} {s:St} {H:Hp} {a:Act} {w:World} {P:Program}
theorem Mem.lkc {bx bx':List (Nat×Bx)} {nx:Nat} (hm:Mem B ρ bx nx H w) (h:∀k,lk bx' k=lk bx k):Mem B ρ bx' nx H w where
 os:=hm.os
 tape:=hm.tape
 output:=hm.output
 size:=hm.size
 frame:=hm.frame
 base:=hm.base
 agree:=hm.agree
 hp:=hm.hp
 hle:=hm.hle
 hnew:=hm.hnew
 ok:=fun k b hk=>hm.ok k b ((h k).symm.trans hk)
 own:=fun k b g hk=>hm.own k b g ((h k).symm.trans hk)
 disj:=fun k k' b b' g hk hk'=>hm.disj k k' b b' g ((h k).symm.trans hk) ((h k').symm.trans hk')
abbrev Cap:=Nat×TypeId×List Value
def capV (c:Cap):SV:=.ptr c.1 0
def capB (c:Cap):Bx:=.cells c.2.1 (c.2.2.map .v)
def deads (caps:List Cap) (bx:List (Nat×Bx)):List (Nat×Bx):=caps.foldr (fun c r=>(c.1,.dead)::r) bx
theorem deads_lk:∀(caps:List Cap) (bx:List (Nat×Bx)) (k:Nat),(∀c∈caps,c.1≠k)→lk (deads caps bx) k=lk bx k
 | [],_,_,_=>rfl
 | c::r,bx,k,h=>by
  show lk ((c.1,.dead)::deads r bx) k=_;rw[lk_cons,if_neg (h c List.mem_cons_self),deads_lk r bx k fun d hd=>h d (List.mem_cons_of_mem _ hd)]
theorem freeze_caps {bx:List (Nat×Bx)} {nx:Nat}:∀(caps:List Cap) {H:Hp},Mem B ρ bx nx H w→(∀c∈caps,lk bx c.1=some (capB c))→(caps.map (·.1)).Nodup →
  ∃H1,Le H H1∧(∀c∈caps,H1 (ρ.b c.1)=some (.cells c.2.2.toArray c.2.1 (0,0)))∧Mem B ρ (deads caps bx) nx H1 w
 | [],H,hm,_,_=>⟨H,Le.refl H,(fun c hc=>by cases hc),hm⟩
 | c::r,H,hm,hc,hnd=>by
  rw[List.map_cons,List.nodup_cons]at hnd;obtain⟨H1,h1,h2,h3⟩:=freeze_caps r hm (fun d hd=>hc d (List.mem_cons_of_mem _ hd)) hnd.2
  have hk:lk (deads r bx) c.1=some (capB c):=by
   rw[deads_lk r bx c.1 fun d hd e=>hnd.1 (e▸List.mem_map_of_mem hd)];exact hc c List.mem_cons_self
  have hb:=(h3.ok _ _ hk).2.1
  have hb:w.heap[ρ.b c.1]?=some (.cells c.2.2.toArray c.2.1 (0,0)):=by
   have hb:w.heap[ρ.b c.1]?=some (.cells (gas ρ (c.2.2.map .v)).toArray c.2.1 (0,0)):=hb
   rw[gas_v]at hb;exact hb
  have hn:=(h3.own _ _ (ρ.b c.1) hk rfl).1;have h4:=h3.freeze hk (g:=ρ.b c.1) rfl hb (x:=ρ.val c.1) rfl;have h5:=h4.write (k:=c.1) (b:=.frz (ρ.val c.1)) (b':=.dead) (w':=w) (by rw[lk_cons,if_pos rfl]) rfl rfl ⟨rfl,Nat.le_refl _⟩ (Nat.le_refl _) (fun _ _ _=>rfl) rfl trivial (fun g hg=>hg.elim);refine⟨_,h1.trans (le_freeze hn),fun d hd=>?_,h5.lkc fun k=>?_⟩
  ·rcases List.mem_cons.1 hd with rfl | hd
   ·simp
   ·have e:=h2 d hd;rw[if_neg (fun e'=>by rw[e',hn]at e;cases e)];exact e
  ·show lk ((c.1,.dead)::deads r bx) k=_;simp only[lk_cons]
   split<;>rfl
theorem Mem.round {B1:Bs} {ρ':Rho} {bx bx':List (Nat×Bx)} {nx:Nat} {H H':Hp} {W W':World} {F:Nat→Prop} (hm:Mem B1 ρ bx nx H W) (hF:∀g,F g→B1.N≤g∨B1.E g)
  (hr:Mem { N:=W.heap.size,w0:=W,E:=F,base:=B1.base,ρ:=ρ,H:=H } ρ' bx' nx H' W'):Mem B1 ρ' bx' nx H' W' where
 os:=hr.os.trans hm.os
 tape:=hr.tape.trans hm.tape
 output:=hm.output.trans hr.output
 size:=Nat.le_trans hm.size hr.size
 frame:=fun b h1 h2=>by
  rw[hr.frame b (Nat.lt_of_lt_of_le h1 hm.size) (fun h=>(hF b h).elim (fun h=>absurd h (Nat.not_le.2 h1)) h2)];exact hm.frame b h1 h2
 base:=hm.base
 agree:=fun k hk=>⟨(hr.agree k hk).1.trans (hm.agree k hk).1,(hr.agree k hk).2.trans (hm.agree k hk).2⟩
 hp:=hr.hp
 hle:=hm.hle.trans hr.hle
 hnew:=fun b h1 h2 h3=>hr.hnew b (hm.hnew b h1 h2 h3) (Nat.lt_of_lt_of_le h2 hm.size) (fun h=>(hF b h).elim (fun h=>absurd h (Nat.not_le.2 h2)) h3)
 ok:=hr.ok
 own:=fun k b g hk ho=>⟨(hr.own k b g hk ho).1,(hr.own k b g hk ho).2.elim (fun h=>.inl (Nat.le_trans hm.size h)) (hF g)⟩
 disj:=hr.disj
theorem Mem.turn {N L b0:Nat} {w0 v0:World} {E:Nat→Prop} {ρ0:Rho} {H0:Hp} {bx:List (Nat×Bx)} {nx:Nat} {o:Obj} (hm:Mem { N:=N,w0:=w0,E:=E,base:=b0,ρ:=ρ0,H:=H0 } ρ bx nx H w) (hL:L<N) (hE:¬E L) (hH:H L=none)
  (h1:v0.os=w0.os) (h2:v0.tape=w0.tape) (h3:v0.output=w0.output) (h3d:v0.drawn=w0.drawn) (h4:∀b,b≠L→v0.heap[b]?=w0.heap[b]?) (h5:v0.heap[L]?=some o):
  Mem { N:=N,w0:=v0,E:=E,base:=b0,ρ:=ρ0,H:=H0 } ρ bx nx H (w.putObj L o) where
 os:=hm.os.trans h1.symm
 tape:=hm.tape.trans h2.symm
 output:=⟨hm.output.1.trans h3.symm,by rw[h3d];exact hm.output.2⟩
 size:=by simpa [World.putObj] using hm.size
 frame:=fun b hb hn=>by
  by_cases e:b=L
  ·subst e;rw[h5];exact World.putObj_heap_same (Nat.lt_of_lt_of_le hL hm.size)
  ·rw[World.putObj_heap_other e,h4 b e];exact hm.frame b hb hn
 base:=hm.base
 agree:=hm.agree
 hp:=fun b o' hb=>by
  rw[World.putObj_heap_other (fun e=>by rw[e,hH]at hb;cases hb)];exact hm.hp b o' hb
 hle:=hm.hle
 hnew:=hm.hnew
 ok:=fun k b hk=>⟨(hm.ok k b hk).1,(hm.ok k b hk).2.1.heap fun g hg=>World.putObj_heap_other (fun e=>(hm.own k b g hk hg).2.elim (fun h=>by have h:N≤g:=h;omega) (fun h=>hE (e▸h))),(hm.ok k b hk).2.2⟩
 own:=hm.own
 disj:=hm.disj
def Foot (ρ:Rho) (bx:List (Nat×Bx)) (H:Hp) (N:Nat) (g:Nat):Prop:=(∃k b,lk bx k=some b∧Owns ρ k b g)∨(∃o,H g=some o∧N≤g)
structure RJ {α β:Type} (B1:Bs) (T:β→List (Nat×Bx)) (nx:Nat) (I:List α→β→Hp→Prop) (H1:Hp) (N1 L D:Nat) (r0:Loop) (pre:List α) (W:World) (F:Nat→Prop) (y:β) (ρ':Rho) (H':Hp):Prop where
 hle:Le H1 H'
 mem:Mem B1 ρ' (T y) nx H' W
 inv:I pre y H'
 l:W.heap[L]?=some (.loop r0)
 d:W.heap[D]?=some (.deferred (some []))
 hl:H' L=none
 hd:H' D=none
 foot:∀g,Foot ρ' (T y) H' N1 g→F g
 nl:¬F L
 nd:¬F D
 lt:∀g,F g→g<W.heap.size
 new:∀g,F g→B1.N≤g∨B1.E g
 big:N1≤W.heap.size
theorem range_raw (ht:TOK C) (hmx:C.P.follows .mixedOrders=true) (hmk:C.rg=true) {α β:Type} {f:Operand} {p:Tmp} {assign body:Code} {Q:Ex→St→Hp→Prop} {gf:FuncId} (caps:List Cap) (Z:List α) (enc:α→Value)
  (hget:get s f=some (.fn gf (caps.map capV))) (eg:∀args w,(callFunc gf args).run C.P w = .ok (.enter gf args) w) (hcaps:∀c∈caps,lk s.bx c.1=some (capB c)) (hnd:(caps.map (·.1)).Nodup)
  (hit:∀(g:Nat→Nat) (H1:Hp),Le H H1→(∀c∈caps,H1 (g c.1)=some (.cells c.2.2.toArray c.2.1 (0,0)))→IterH C.P gf (caps.map fun c=>Value.pointer (some ⟨g c.1,0,none⟩)).toArray enc Z H1)
  (hndC:ndefC (.seq assign body)=true) (b0:Nat) (env0:List (Nat×SV)) (T:β→List (Nat×Bx)) (nx:Nat) (I:List α→β→Hp→Prop) (hok:(Nat.ble C.base b0&&Nat.ble b0 nx&&wfEnv b0 env0&&Nat.ble (p+1) C.n)=true)
  (hI:∀pre y H H',Le H H'→I pre y H→I pre y H')
  (h0:∃y m,Sub C m ⟨s.env,deads caps s.bx,s.nx⟩ ⟨env0,T y,nx⟩∧∀H',Le H H'→I [] y H')
  (hround:∀pre x y H',Le H H'→I pre y H'→pre++[x] <+: Z→wpI { C with base:=b0,rg:=false } (.seq assign body) (fun e s2 H2=>e = .normal∧∃y' m,Sub { C with base:=b0,rg:=false } m s2 ⟨[],T y',nx⟩∧I (pre++[x]) y' H2) ⟨(p,ofV (enc x))::env0,T y,nx⟩ H')
  (hdone:∀y H',Le H H'→I Z y H'→Q .normal ⟨env0,T y,nx⟩ H'):RawCode C (.rangeFunc f #[p] assign body) Q s H:=by
 intro B ρ a w hbase hr;simp only[Bool.and_eq_true]at hok;obtain⟨⟨⟨hb1,hb2⟩,hb3⟩,hb4⟩:=hok;have hb4:=ble_t hb4;have hb1:=ble_t hb1;have hb2:=ble_t hb2;obtain⟨H1,hle1,hcap,hm1⟩:=freeze_caps caps hr.mem hcaps hnd;obtain⟨y0,m0,hsub,hi0⟩:=h0
 have hr1:Rel C B ρ ⟨s.env,deads caps s.bx,s.nx⟩ H1 a w:=⟨hr.env,hr.sz,hr.defers.up hle1,hm1⟩
 obtain⟨ρ0,hr0⟩:=hr1.sub hbase hsub
 have hfv:a.eval f = .func (.func gf) #[] (caps.map fun c=>Value.pointer (some ⟨ρ.b c.1,0,none⟩)).toArray:=by
  have:=(eval_get hr hget).1;rw[this,ga,gas_eq,List.map_map]
  congr 2
 have hIt:=hit ρ.b H1 hle1 hcap;refine wpIn_wide.1 (wpIn_rangeFunc (n:=4) ?_);intro fn hfn
 obtain⟨L,hLe⟩:∃L,L=w.heap.size+1:=⟨_,rfl⟩
 obtain⟨D,hDe⟩:∃D,D=w.heap.size:=⟨_,rfl⟩
 let r0:Loop:={ state:=.ready,pending:=none,fn,tmps:=a.tmps,params:=#[p],assign,body,defers:=w.heap.size }
 let W1:World:=(w.alloc (.deferred (some []))).alloc (.loop r0)
 have hsz:W1.heap.size=w.heap.size+2:=by show ((w.heap.push _).push _).size=_;simp
 have hL1:W1.heap[L]?=some (.loop r0):=by
  have:=World.alloc_heap_new (w.alloc (.deferred (some []))) (.loop r0);rw[World.size_alloc]at this
  rw[hLe];exact this
 have hD1:W1.heap[D]?=some (.deferred (some [])):=by
  rw[hDe];exact (Below.heap_alloc _ _ _ (by simp)).trans (World.alloc_heap_new w _)
 have hold:∀g,g<w.heap.size→W1.heap[g]?=w.heap[g]?:=fun g hg=>(Below.heap_alloc _ _ _ (by simp;omega)).trans (Below.heap_alloc _ _ _ hg)
 refine⟨w.heap.size+1,[{ target:=.collected w.heap.size,args:=#[] }],W1,{ target:=.fn (.func gf) (caps.map fun c=>Value.pointer (some ⟨ρ.b c.1,0,none⟩)).toArray,args:=#[.func (.yield (w.heap.size+1)) #[] #[]] },W1,gf,
  #[.func (.yield (w.heap.size+1)) #[] #[]]++(caps.map fun c=>Value.pointer (some ⟨ρ.b c.1,0,none⟩)).toArray,W1,run_enterLoop_outer _ _ _ _ _,?_,fun _ _=>trivial,?_,(fun h=>by cases h),?_⟩
 ·simp only[resolve,hfv];simp [go_sem]
 ·simp [invoke,go_sem,eg]
 let B1:Bs:={ N:=B.N,w0:=B.w0,E:=B.E,base:=b0,ρ:=ρ0,H:=B.H }
 have hmem1:Mem B1 ρ0 (T y0) nx H1 w:={ hr0.mem with base:=hb2,agree:=fun _ _=>⟨rfl,rfl⟩ }
 have hmemW:Mem B1 ρ0 (T y0) nx H1 W1:=hmem1.step rfl rfl ⟨rfl,Nat.le_refl _⟩ (by rw[hsz];omega) hold;have hBN:B.N≤w.heap.size:=hr.mem.size
 have hfree:∀ {H':Hp},Mem B1 ρ0 (T y0) nx H' w→∀g,w.heap.size≤g→H' g=none:=fun {H'} hm g hg=>by
  cases h:H' g with
  | none=>rfl
  | some o=>have:=(Array.getElem?_eq_some_iff.1 (hm.hp g o h)).1;omega
 let J:List α→World→(Nat→Prop)→Prop:=fun pre W F=>∃y ρ' H',RJ B1 T nx I H1 (w.heap.size+2) L D r0 pre W F y ρ' H'
 let F0:Nat→Prop:=Foot ρ0 (T y0) H1 (w.heap.size+2)
 have hF0:∀g,F0 g→∃k b,lk (T y0) k=some b∧Owns ρ0 k b g:=fun g hg=>by
  rcases hg with hg | ⟨o,h1,h2⟩
  ·exact hg
  ·rw[hfree hmem1 g (by omega)]at h1;cases h1
 have hF0lt:∀g,F0 g→g<w.heap.size:=fun g hg=>let ⟨k,b,h1,h2⟩:=hF0 g hg;(hmem1.ok k b h1).2.1.lt h2
 have hJ0:J [] W1 F0:=⟨y0,ρ0,H1,Le.refl _,hmemW,hi0 H1 hle1,hL1,hD1,hfree hmem1 L (by omega),hfree hmem1 D (by omega),fun g hg=>hg,fun h=>absurd (hF0lt _ h) (by omega),fun h=>absurd (hF0lt _ h) (by omega),
  fun g hg=>by have:=hF0lt g hg;rw[hsz];omega,fun g hg=>let ⟨k,b,h1,h2⟩:=hF0 g hg;(hmem1.own k b g h1 h2).2,by rw[hsz];omega⟩
 have hcalm:∀pre W F W',J pre W F→RCalm W1.heap.size F W W'→J pre W' F:=by
  rintro pre W F W' ⟨y,ρ',H',h⟩ hc;rw[hsz]at hc;refine⟨y,ρ',H',h.hle,?_,h.inv,(hc.heap L (.inl (by omega))).trans h.l,(hc.heap D (.inl (by omega))).trans h.d,h.hl,h.hd,h.foot,h.nl,h.nd,fun g hg=>Nat.lt_of_lt_of_le (h.lt g hg) hc.size,h.new,Nat.le_trans h.big hc.size⟩;refine h.mem.off (fun b=>¬(b<w.heap.size+2∨F b)) hc.os hc.tape hc.od hc.size (fun b _ hb=>hc.heap b (Classical.not_not.1 hb)) (fun b hb=>?_) (fun b hb=>?_) (fun k b g hk ho hg=>hg (.inr (h.foot g (.inl ⟨k,b,hk,ho⟩)))) (Le.refl _) h.mem.hle
  ·have:B1.N=B.N:=rfl;rw[this]
   have:¬b<w.heap.size+2:=fun h=>hb (.inl h)
   omega
  ·cases hh:H' b with
   | none=>rfl
   | some o=>exact (hb (.inr (h.foot b (.inr ⟨o,hh,by have:¬b<w.heap.size+2:=fun h=>hb (.inl h);omega⟩)))).elim
 have hyield:∀pre x W F,J pre W F→pre++[x] <+: Z→YieldAt Fence.wide 2 C.P (w.heap.size+1) #[enc x] W fun e W'=>e = .returned (.bool true)∧∃F',J (pre++[x]) W' F'∧RKept F W W'∧∀b,F' b→(F b∨W.heap.size≤b)∧b<W'.heap.size:=by
  rintro pre x W F ⟨y,ρ',H',h⟩ hpre;have hLW:L<W.heap.size:=(Array.getElem?_eq_some_iff.1 h.l).1;have hDW:D<W.heap.size:=(Array.getElem?_eq_some_iff.1 h.d).1
  let Cb:Cx:={ C with base:=b0,rg:=false }
  have htb:TOK Cb:=⟨ht.tt,ht.eqs⟩
  let Br (v0:World):Bs:={ N:=W.heap.size,w0:=v0,E:=F,base:=b0,ρ:=ρ',H:=H' }
  have hmr:Mem (Br W) ρ' (T y) nx H' W :=
   {os:=rfl,tape:=rfl,output:=OD.refl _,size:=Nat.le_refl _,frame:=fun _ _ _=>rfl,base:=hb2,agree:=fun _ _=>⟨rfl,rfl⟩,hp:=h.mem.hp,hle:=Le.refl _,hnew:=fun _ h _ _=>h,ok:=h.mem.ok
    own:=fun k b g hk ho=>⟨(h.mem.own k b g hk ho).1,.inr (h.foot g (.inl ⟨k,b,hk,ho⟩))⟩,disj:=h.mem.disj }
  have hsame:Same b0 ρ0 ρ':=fun k hk=>h.mem.agree k hk
  have hrel:Rel Cb (Br W) ρ' ⟨(p,ofV (enc x))::env0,T y,nx⟩ H' { tmps:=(#[p].zip #[enc x]).foldl (fun t (p,v)=>t.setIfInBounds p v) a.tmps,defers:=[] } W :=
   {env:=fun t z hz=>by
     have e:(#[p].zip #[enc x]).foldl (fun t (p,v)=>t.setIfInBounds p v) a.tmps=a.tmps.setIfInBounds p (enc x):=by simp
     rw[e];rw[lk_cons]at hz;split at hz
     ·rename_i ee;subst ee;cases hz;refine⟨?_,(ofV_ga ρ' (enc x)).2 _⟩;rw[(ofV_ga ρ' (enc x)).1];have:=hr.sz;simp [Array.getElem?_setIfInBounds];omega
     ·rename_i ee;have e2:=hr0.env t z hz;refine⟨?_,e2.2⟩;rw[ga_same hsame z (wfEnv_lk hb3 t z hz),←e2.1];simp [ee]
    sz:=by
     have e:(#[p].zip #[enc x]).foldl (fun t (p,v)=>t.setIfInBounds p v) a.tmps=a.tmps.setIfInBounds p (enc x):=by simp
     rw[e,Array.size_setIfInBounds];exact hr.sz
    defers:=Dfs.nil _ _ _
    mem:=hmr }
  have hw:=hround pre x y H' (hle1.trans h.hle) h.inv hpre;rw[hLe]at h hLW;refine⟨fn,_,assign,body,run_yield h.l rfl,roundIn_of_wpIn hfn ?_⟩;have hndC':(ndefC assign&&ndefC body)=true:=hndC;rw[Bool.and_eq_true]at hndC';refine wpIn_mono (wpI_ok htb hmx assign hndC'.1 hw hrel) ?_;rintro e a1 W3 ⟨e0,s1,H2,ρ1,rfl,h2,hr3,hle3⟩
  cases e0 with
  | exit i=>exact absurd h2.1 (by intro h;cases h)
  | goto i=>exact absurd h2.1 (by intro h;cases h)
  | ret=>exact absurd h2.1 (by intro h;cases h)
  | normal =>
   have hl3:W3.heap[w.heap.size+1]?=some (.loop r0):=(hr3.mem.frame _ hLW h.nl).trans h.l;refine⟨_,run_beginRound hl3 rfl,?_⟩;have hH2L:H2 (w.heap.size+1)=none:=hr3.mem.hnew _ h.hl hLW h.nl;have hm4:=hr3.mem.turn (o:=.loop { r0 with state:=.busy }) (v0:=W.putObj (w.heap.size+1) (.loop { r0 with state:=.busy })) hLW h.nl hH2L rfl rfl rfl rfl (fun b hb=>World.putObj_heap_other hb) (World.putObj_heap_same hLW)
   refine wpIn_mono (wpI_ok (B:=Br (W.putObj (w.heap.size+1) (.loop { r0 with state:=.busy }))) htb hmx body hndC'.2 h2 ⟨hr3.env,hr3.sz,by
    have:=hr3.defers
    exact this,hm4⟩) ?_
   rintro e a3 W5 ⟨e0,s2,H3,ρ2,rfl,⟨he,y',m,hsub',hi'⟩,hr5,hle5⟩;subst he;obtain⟨ρ3,hr6⟩:=hr5.sub rfl hsub';have hl5:W5.heap[w.heap.size+1]?=some (.loop { r0 with state:=.busy }):=(hr5.mem.frame _ hLW h.nl).trans (World.putObj_heap_same hLW);have hH3L:H3 (w.heap.size+1)=none:=hr5.mem.hnew _ h.hl hLW h.nl;have hH3D:H3 D=none:=hr5.mem.hnew _ h.hd hDW h.nd;have hm6:=hr6.mem.turn (o:=.loop r0) (v0:=W) hLW h.nl hH3L rfl rfl rfl rfl (fun b hb=>(World.putObj_heap_other hb).symm) h.l
   have hown:∀g,Foot ρ3 (T y') H3 (w.heap.size+2) g→F g∨W.heap.size≤g:=fun g hg=>by
    rcases hg with ⟨k,b,hk,ho⟩ | ⟨o,ho,hn⟩
    ·exact (hm6.own k b g hk ho).2.symm
    ·by_cases hlt:g<W.heap.size
     ·by_cases hf:F g
      ·exact .inl hf
      ·cases hh:H' g with
       | none=>rw[hm6.hnew g hh hlt hf]at ho;cases ho
       | some o'=>exact .inl (h.foot g (.inr ⟨o',hh,hn⟩))
     ·exact .inr (Nat.not_lt.1 hlt)
   have hlt6:∀g,Foot ρ3 (T y') H3 (w.heap.size+2) g→g<(W5.putObj (w.heap.size+1) (.loop r0)).heap.size:=fun g hg=>by
    rcases hg with ⟨k,b,hk,ho⟩ | ⟨o,ho,hn⟩
    ·exact (hm6.ok k b hk).2.1.lt ho
    ·exact (Array.getElem?_eq_some_iff.1 (hm6.hp g o ho)).1
   refine⟨_,_,run_endRound none hl5,rfl,Foot ρ3 (T y') H3 (w.heap.size+2),⟨y',ρ3,H3,h.hle.trans (hle3.trans hle5),h.mem.round h.new hm6,hi',?_,?_,by rw[hLe];exact hH3L,hH3D,fun g hg=>hg,fun hg=>?_,fun hg=>?_,hlt6,fun g hg=>?_,?_⟩,?_,fun g hg=>⟨hown g hg,hlt6 g hg⟩⟩
   ·rw[hLe];exact World.putObj_heap_same (Array.getElem?_eq_some_iff.1 hl5).1
   ·exact (hm6.frame D hDW h.nd).trans h.d
   ·rw[hLe]at hg
    rcases hown _ hg with h1 | h1
    ·exact h.nl h1
    ·omega
   ·rcases hown _ hg with h1 | h1
    ·exact h.nd h1
    ·omega
   ·rcases hown _ hg with h1 | h1
    ·exact h.new g h1
    ·exact .inl (Nat.le_trans h.mem.size h1)
   ·exact Nat.le_trans h.big hm6.size
   ·exact⟨hm6.os,hm6.tape,hm6.output,hm6.size,fun b hb hn=>hm6.frame b hb hn⟩
 refine (hIt (w.heap.size+1) J W1 F0 (fun b o hb=>hmemW.hp b o hb) hJ0 (fun b hb=>⟨let ⟨k,x,h1,h2⟩:=hF0 b hb;(hmem1.own k x b h1 h2).1,by have:=hF0lt b hb;rw[hsz];omega⟩) hcalm hyield).mono ?_;rintro e W2 ⟨⟨v,rfl⟩,F,y,ρ',H',h⟩;rw[hLe]at h;refine⟨none,_,run_endLoop h.l (fun h=>by cases h),?_⟩;have hLW:w.heap.size+1<W2.heap.size:=(Array.getElem?_eq_some_iff.1 h.l).1;have hDW:D<W2.heap.size:=(Array.getElem?_eq_some_iff.1 h.d).1
 let w3:World:=W2.putObj (w.heap.size+1) (.loop { r0 with state:=.exhausted })
 have hm3:Mem B1 ρ' (T y) nx H' w3:=h.mem.off (fun b=>b=w.heap.size+1) rfl rfl ⟨rfl,Nat.le_refl _⟩ (by simp [w3,World.putObj]) (fun b _ hb=>World.putObj_heap_other hb) (fun b hb=>by have:B1.N=B.N:=rfl;omega) (fun b hb=>hb▸h.hl)
  (fun k b g hk ho hg=>h.nl (hg▸h.foot g (.inl ⟨k,b,hk,ho⟩))) (Le.refl _) h.mem.hle
 have hd3:w3.heap[D]?=some (.deferred (some [])):=(World.putObj_heap_other (by omega)).trans h.d
 let H3:Hp:=fun b=>if b=D then some (.deferred (some [])) else H' b
 have hle3:Le H' H3:=fun b o hb=>by
  show (if b=D then _ else _)=_
  rw[if_neg (fun e=>by rw[e,h.hd]at hb;cases hb)];exact hb
 have hsame:Same b0 ρ0 ρ':=fun k hk=>h.mem.agree k hk
 have hmF:Mem B ρ' (T y) nx H3 w3 :=
  {os:=hm3.os,tape:=hm3.tape,output:=hm3.output,size:=hm3.size,frame:=hm3.frame,base:=Nat.le_trans (by rw[hbase];exact hb1) hb2
   agree:=fun k hk=>by
    have e:=hsame k (Nat.lt_of_lt_of_le hk (by rw[hbase];exact hb1));have e':=hr0.mem.agree k hk;exact⟨e.1.trans e'.1,e.2.trans e'.2⟩
   hp:=fun b o hb=>by
    have hb:(if b=D then some (.deferred (some [])) else H' b)=some o:=hb;split at hb
    ·rename_i e;rw[e,←hb];exact hd3
    ·exact hm3.hp b o hb
   hle:=hm3.hle.trans hle3
   hnew:=fun b g1 g2 g3=>by
    show (if b=D then _ else _)=_;rw[if_neg (by omega)];exact hm3.hnew b g1 g2 g3
   ok:=hm3.ok
   own:=fun k b g hk ho=>by
    have e:=hm3.own k b g hk ho;refine⟨?_,e.2⟩;show (if g=D then some (Obj.deferred (some [])) else H' g)=none;rw[if_neg (fun e:g=D=>h.nd (e▸h.foot g (.inl ⟨k,b,hk,ho⟩)))];exact e.1
   disj:=hm3.disj }
 refine⟨.normal,_,H3,ρ',rfl,hdone y H3 (hle1.trans (h.hle.trans hle3)) (hI _ _ _ _ hle3 h.inv),⟨fun t z hz=>?_,hr.sz,?_,hmF⟩,hle1.trans (h.hle.trans hle3)⟩
 ·have e:=hr0.env t z hz;have hz':z.lt b0=true:=wfEnv_lk hb3 t z hz;exact⟨by rw[ga_same hsame z hz'];exact e.1,e.2⟩
 ·have hM:Marks B H a.defers:=by have:=hr.defers;rw[hmk]at this;exact this
  show Dfs C.rg B H3 ({ target:=.collected w.heap.size,args:=#[] }::a.defers);rw[hmk];refine⟨List.nodup_cons.2 ⟨fun hmem=>?_,hM.nodup⟩,fun d hd=>?_⟩
  ·obtain⟨D',h1,h2,h3,h4⟩:=hM.at_ _ hmem
   have e:w.heap.size=D':=by simpa using h1
   have:=(Array.getElem?_eq_some_iff.1 (hr.mem.hp _ _ h4)).1;omega
  ·rcases List.mem_cons.1 hd with rfl | hd
   ·refine⟨D,by rw[hDe],by omega,?_,if_pos rfl⟩
    cases hh:B.H D with
    | none=>rfl
    | some o=>have:=(Array.getElem?_eq_some_iff.1 (hr.mem.hp _ _ (hr.mem.hle _ _ hh))).1;omega
   ·obtain⟨D',h1,h2,h3,h4⟩:=hM.at_ d hd;exact⟨D',h1,h2,h3,hle3 _ _ (h.hle _ _ (hle1 _ _ h4))⟩
end
end Go.Sy
