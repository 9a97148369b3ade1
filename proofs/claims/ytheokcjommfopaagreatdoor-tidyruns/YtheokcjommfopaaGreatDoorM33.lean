/- Part 'M33' of the proof (It4, Lv6, Lv7, Lv8, Lv9, Lr1, Sw1, Sw2, Sl1, Sl2, Td0, Td1, Sw3, Sw4, Sw6, Td4, Td7, Lv10, Lv11, Lv12, Sw7): lemmas, each with its own conditions in its own statement. -/
import Derived.Test.YtheokcjommfopaaGreatDoorM22
import Derived.Test.YtheokcjommfopaaGreatDoorM27
import Derived.Test.YtheokcjommfopaaGreatDoorM29
import Derived.Test.YtheokcjommfopaaGreatDoorM30
import Derived.Test.YtheokcjommfopaaGreatDoorM31
import Derived.Test.YtheokcjommfopaaGreatDoorM32
section
namespace Go.Proofs
open Go.RowKit Go.Shelf Go.Sy
set_option maxRecDepth 20000
def TabH (H:Hp):Prop:=∃cells T fr,H 0=some (.cells cells T fr)∧∀j,j<64→cells[j]?=some (.int .u8 (Lib.deBruijn64tab.getD j 0))
theorem TabH.up {H H':Hp} (h:TabH H) (hle:Le H H'):TabH H':=by
 obtain⟨c,T,fr,h1,h2⟩:=h;exact⟨c,T,fr,hle _ _ h1,h2⟩
theorem allL_small:∀(l:List UInt64) (i:Nat),∀x∈allL l i,0≤x∧x<((64*(i+l.length):Nat):Int)
 | [],_,x,h=>by cases h
 | w::r,i,x,h=>by
  rw[allL]at h
  rcases List.mem_append.1 h with h | h
  ·obtain⟨k,hk,rfl⟩:=List.mem_map.1 h;have:=List.mem_range.1 (List.mem_filter.1 hk).1;rw[List.length_cons];omega
  ·have:=allL_small r (i+1) x h;rw[List.length_cons];omega
theorem list_spec {ws:List UInt64} (hw:ws.length≤100000) {a:Option Addr} {n c:Nat} {H:Hp} {K:Value→Hp→Prop} (ha:RL H a n c ws) (hT:TabH H) (hK:∀a1 n1 c1 H',Le H H'→RL H' a1 n1 c1 (allL ws 0)→K (.slice a1 n1 c1) H'):Does Tryz.prog 105 [.slice a n c] H K:=by
 refine⟨Tryz.call105,fun w hp=>?_⟩;obtain⟨tc,tT,tf,ht1,ht2⟩:=hT;have hb0:=hp _ _ ht1;have hs:0<w.heap.size:=(Array.getElem?_eq_some_iff.1 hb0).1
 have hTw:TabAt 0 Lib.deBruijn64tab w:=fun j hj=>by
  have hj:j<64:=hj;have:=ht2 j hj;simp only[World.cell?,hb0];exact this
 have hA:WordsAt w a n ws w.heap.size:=by
  refine⟨ha.n_eq,?_⟩;obtain⟨h1,h2,_,h4⟩:=ha
  rcases h4 with h4 | ⟨ad,e,hsp,cells,T,fr,hH,hcs,hx⟩
  ·exact .inl (by omega)
  ·obtain⟨b,off,sp⟩:=ad;dsimp only at hsp hH hx hcs;subst hsp;have hb:=hp _ _ hH;refine .inr ⟨b,off,e,(Array.getElem?_eq_some_iff.1 hb).1,fun j hj=>?_⟩
   have hjl:j<ws.length:=by omega
   obtain⟨cs,h5,h6⟩:=hx j ws[j] (List.getElem?_eq_getElem hjl);have h5:cs=[.int .u64 ws[j].toNat]:=h5;have h7:=h6 0 (by decide);rw[h5]at h7;simp only[World.cell?,hb];rw[List.getElem?_eq_getElem hjl]
   have e1:off+j*Enc.sz UInt64+0=off+j:=by show off+j*1+0=_;omega
   rw[e1]at h7;exact h7
 have hlen:=allL_len ws 0;refine (callsIn_wide.1 (list_in a n c ws hw w hs ha.2.1 hTw hA)).mono ?_;rintro e W' ⟨v,rfl,hown,hB⟩
 have hrowR:RC (α:=Int) H (iRows (allL ws 0)) (allL ws 0):=rc_iRows fun x hx=>by
  have:=allL_small ws 0 x hx;exact⟨by omega,by omega⟩
 rcases hown.2 with ⟨rfl,hz⟩ | ⟨g,cap,cur,rfl,hg,hgb,h5,h6,h7,h8⟩
 ·refine⟨_,H,rfl,hK none 0 0 H (Le.refl H) ?_,Le.refl H,fun b o hb=>?_,fun b hb _=>hb,hB⟩
  ·rw[List.eq_nil_of_length_eq_zero hz];exact rl_nil
  ·rw[hB.block b (Array.getElem?_eq_some_iff.1 (hp b o hb)).1];exact hp b o hb
 ·have hgn:H g=none:=by
   cases hh:H g with
   | none=>rfl
   | some o=>have:=(Array.getElem?_eq_some_iff.1 (hp g o hh)).1;omega
  obtain⟨H',hH'⟩:∃H':Hp,H'=fun b=>if b=g then some (.cells cur 3 (0,0)) else H b:=⟨_,rfl⟩
  have hle:Le H H':=fun b o hb=>by
   rw[hH'];dsimp only;rw[if_neg (fun e=>by rw[e,hgn]at hb;cases hb)];exact hb
  refine⟨_,H',rfl,?_,hle,fun b o hb=>?_,fun b hb hlt=>?_,hB⟩
  ·have hrow:RowAt H' (.slice (some ⟨g,0,none⟩) (allL ws 0).length cap) 1 (iRows (allL ws 0)):=by
    refine⟨some ⟨g,0,none⟩,cap,by rw[List.length_map],⟨by rw[List.length_map];exact h5,by simp only[maxLen]at h6;omega⟩,iRows_one _,.inr ⟨⟨g,0,none⟩,rfl,rfl,cur,3,(0,0),by rw[hH'];simp,by dsimp only;omega,fun i x hi j hj=>?_⟩⟩
    have hj0:j=0:=by omega
    subst hj0;rw[List.getElem?_map]at hi;obtain⟨y,hy,rfl⟩:=Option.map_eq_some_iff.1 hi;have hil:=(List.getElem?_eq_some_iff.1 hy).1
    have h9:(cur.toList.take ((allL ws 0).length*1))[i]?=some (.int .i64 y):=by rw[h8,List.getElem?_map,hy];rfl
    rw[List.getElem?_take,if_pos (by omega)]at h9
    have e:0+i*1+0=i:=by omega
    rw[e,←Array.getElem?_toList,h9];rfl
   refine of_row_k (α:=Int) hrow (hrowR.up hle) fun a1 n1 c1 ev hr=>?_
   rw[ev];exact hK _ _ _ _ hle hr
  ·rw[hH']at hb;dsimp only at hb;split at hb
   ·rename_i e
    rw[e,hgb];exact hb
   ·rw[hB.block b (Array.getElem?_eq_some_iff.1 (hp b o hb)).1];exact hp b o hb
  ·rw[hH'];dsimp only;rw[if_neg (by omega)];exact hb
end Go.Proofs
end
section
namespace Go.Proofs
open Go.Sy
set_option maxRecDepth 20000
set_option maxHeartbeats 4000000
def nmsAt (V:List Bs8) (l:List Int):List Bs8:=l.map fun n=>V[n.toNat]?.getD []
def numB (x:Wd):List Int:=allL x 0
def namesB (V:List Bs8) (x:Wd):List Bs8:=nmsAt V (numB x)
theorem allL_has:∀(l:Wd) (i:Nat) (m:Nat),((m:Int)∈allL l i)↔(64*i≤m∧bitAt l (m - 64*i)=true)
 | [],i,m=>by simp [allL,bitAt]
 | w::r,i,m=>by
  rw[allL,List.mem_append,allL_has r (i+1) m];constructor
  ·rintro (h | ⟨h1,h2⟩)
   ·obtain⟨k,hk,e⟩:=List.mem_map.1 h;obtain⟨h3,h4⟩:=List.mem_filter.1 hk;have h3:=List.mem_range.1 h3
    have e:m=i*64+k:=by omega
    refine⟨by omega,?_⟩;rw[bitAt,show (m - 64*i) / 64=0 by omega,show (m - 64*i) % 64=k by omega]
    simpa using h4
   ·refine⟨by omega,?_⟩;rw[bitAt]at h2 ⊢;rw[show (m - 64*i) / 64=(m - 64*(i+1)) / 64+1 by omega,show (m - 64*i) % 64=(m - 64*(i+1)) % 64 by omega,List.getElem?_cons_succ];exact h2
  ·rintro⟨h1,h2⟩
   by_cases h3:m - 64*i<64
   ·left
    refine List.mem_map.2 ⟨m - 64*i,List.mem_filter.2 ⟨List.mem_range.2 h3,?_⟩,by omega⟩;rw[bitAt,show (m - 64*i) / 64=0 by omega,show (m - 64*i) % 64=m - 64*i by omega]at h2
    simpa using h2
   ·right
    refine⟨by omega,?_⟩;rw[bitAt]at h2 ⊢;rw[show (m - 64*i) / 64=(m - 64*(i+1)) / 64+1 by omega,show (m - 64*i) % 64=(m - 64*(i+1)) % 64 by omega,List.getElem?_cons_succ]at h2;exact h2
theorem allL_nat:∀(l:Wd) (i:Nat),∀x∈allL l i,0≤x
 | [],_,x,h=>by cases h
 | w::r,i,x,h=>by
  rw[allL]at h
  rcases List.mem_append.1 h with h | h
  ·obtain⟨k,_,rfl⟩:=List.mem_map.1 h;omega
  ·exact allL_nat r (i+1) x h
theorem num_in {w:Nat} {x:Wd} (hx:okB w x):∀n∈numB x,0≤n∧n<(w:Int):=fun n hn=>by
 have h0:=allL_nat x 0 n hn;have h1:=(allL_has x 0 n.toNat).1 (by rw[Int.toNat_of_nonneg h0];exact hn);refine⟨h0,?_⟩
 by_cases h:n<(w:Int)
 ·exact h
 ·have:=hx.2 n.toNat (by omega)
  have h2:=h1.2;rw[show n.toNat - 64*0=n.toNat by omega,this]at h2;cases h2
theorem nms_in {V:List Bs8} {x:Wd} (hx:okB V.length x) {i:Nat} {n:Int} (hi:(numB x)[i]?=some n):V[n.toNat]?=some (V[n.toNat]?.getD []):=by
 have h:=num_in hx n (List.mem_of_getElem? hi)
 have h2:n.toNat<V.length:=by omega
 rw[List.getElem?_eq_getElem h2];rfl
theorem str_kI {P:Prop} {H:Hp} {a:Option Addr} {n c:Nat} {l:List Bs8} (h:RL H a n c (ens l)) {j:Int} (h0:0≤j) {s:Bs8} (hi:l[j.toNat]?=some s) (k:∀ad,a=some ad→ElemH H ad j 1 [.string (bs s)]→s.length≤9223372036854775807→P):P :=
 str_k h hi fun ad e1 e2 e3=>k ad e1 (by rw[Int.toNat_of_nonneg h0]at e2;exact e2) e3
theorem lnames_spec {V:List Bs8} (hV:V.length≤64) {L:List Wd} (hL:∀x∈L,okB V.length x) (hLl:L.length≤1000) {a a2:Option Addr} {n c n2 k2:Nat} {H:Hp} {K:Value→Hp→Prop} (ha:RL H a n c (ens V)) (hb:RL H a2 n2 k2 L) (hT:TabH H) (hK:∀a1 n1 c1 H',Le H H'→RL (α:=List Str) H' a1 n1 c1 (L.map fun x=>ens (namesB V x))→K (.slice a1 n1 c1) H'):
  Does Tryz.prog 67 [.slice a n c,.slice a2 n2 k2] H K:=by
 have hn1:=ha.n_eq;rw[List.length_map]at hn1;have hn2:=hb.n_eq;have hsm:=ens_small ha;refine spec_of cx_ok cx_mix rfl Tryz.func67 Tryz.call67 Tryz.ntmps67 Tryz.results67 rfl rfl ?_
 refine⟨Nat×List (List Value),fun q=>⟨[(0,.v (.slice a n c)),(5,.own 0),(11,.v (.slice a2 n2 k2)),(12,.v (.int .i64 n2)),(13,.v (.int .i64 q.1))],[(0,.row 71 1 q.2)],1⟩,
  fun q H'=>Le H H'∧q.1≤L.length∧RC (α:=List Str) H' q.2 ((L.take q.1).map fun x=>ens (namesB V x)),fun q=>L.length - q.1,⟨(0,[]),[],?_,Le.refl H,Nat.zero_le _,RC.nil⟩,?_⟩
 ·(repeat' (first|exact trivial|refine⟨?_,?_⟩|exact rfl|assumption))
 rintro⟨i,css⟩ H1 _ ⟨hle1,hi,hrc⟩;dsimp only at hi hrc
 have hcl:css.length=i:=by have h1:=hrc.1;rw[List.length_map,List.length_take]at h1;omega
 refine⟨fun h=>?_,fun h=>?_⟩
 ·have hlt:i<L.length:=by have:=dt h;dsimp only at this;omega
  refine name_k L[i] fun x hx=>?_
  have hxx:L[i]?=some x:=by rw[hx];exact List.getElem?_eq_getElem hlt
  have hok:=hL x (by rw[hx];exact List.getElem_mem hlt)
  have hst:(L.take (i+1)).map (fun x=>ens (namesB V x))=(L.take i).map (fun x=>ens (namesB V x))++[ens (namesB V x)]:=by
   rw[List.take_add_one,hxx,Option.toList_some,List.map_append];rfl
  refine list_k (hb.up hle1) hxx fun ad a5 n5 c5 q1 hh hr1=>?_
  refine⟨ad,⟨by dsimp only;omega,by dsimp only;omega,q1⟩,?_⟩;refine⟨_,hh,?_⟩
  refine list_spec (by rw[hok.1,sizeB];omega) hr1 (hT.up hle1) fun b1 b2 b3 H2 hle2 hr2=>?_
  have hn3:=hr2.n_eq
  have hnl:(numB x).length≤64:=by
   have h1:=allL_len x 0;have h2:=hok.1;unfold sizeB at h2
   have h3:x.length≤1:=by omega
   show (allL x 0).length≤64;omega
  refine⟨Nat,fun j=>⟨[(0,.v (.slice a n c)),(5,.own 0),(8,.own 1),(11,.v (.slice a2 n2 k2)),(12,.v (.int .i64 n2)),(13,.v (.int .i64 i)),(18,.v (.slice b1 b2 b3)),(19,.v (.int .i64 b2)),(20,.v (.int .i64 j))],[(0,.row 71 1 css),(1,.row 9 1 (sRows (nmsAt V ((numB x).take j))))],2⟩,
   fun j H'=>H'=H2∧j≤(numB x).length,fun j=>(numB x).length - j,⟨0,[(0,0)],?_,rfl,Nat.zero_le _⟩,?_⟩
  ·(repeat' (first|exact trivial|refine⟨?_,?_⟩|exact rfl|assumption))
  rintro j H3 _ ⟨rfl,hj⟩
  have hrl:(sRows (nmsAt V ((numB x).take j))).length≤64:=by rw[List.length_map,nmsAt,List.length_map,List.length_take];omega
  refine⟨fun h=>?_,fun h=>?_⟩
  ·have hjl:j<(numB x).length:=by have:=dt h;show j<(allL x 0).length;omega
   refine name_k (numB x)[j] fun k hk=>?_
   have hkk:(numB x)[j]?=some k:=by rw[hk];exact List.getElem?_eq_getElem hjl
   have hkin:=num_in hok k (List.mem_of_getElem? hkk)
   have hjl2:j<b2:=by rw[hn3];exact hjl
   have e:sRows (nmsAt V ((numB x).take j))++[[.string (bs (V[k.toNat]?.getD []))]]=sRows (nmsAt V ((numB x).take (j+1))):=by
    rw[nmsAt,nmsAt,List.take_add_one,hkk,Option.toList_some,List.map_append,List.map_cons,List.map_nil,sRows_snoc]
   refine int_k hr2 hkk fun ad e1 hh=>?_
   refine⟨ad,⟨by omega,by omega,e1⟩,?_⟩;refine⟨_,hh,?_⟩
   refine str_kI (ha.up (hle1.trans hle2)) hkin.1 (nms_in hok hkk) fun ad2 e2 hh2 hsz=>?_
   refine⟨ad2,⟨hkin.1,by omega,e2⟩,?_⟩;refine⟨_,hh2,?_⟩;refine⟨⟨by show (_+1)*16≤140737488355328;omega,by show _+1≤9223372036854775807;omega⟩,?_⟩;refine⟨⟨by omega,by omega⟩,j+1,[(0,0),(1,3)],?_,⟨rfl,hjl⟩,by dsimp only;omega⟩
   (repeat' (first|exact trivial|refine⟨?_,?_⟩|exact rfl|assumption))
  ·have hjl:j=(numB x).length:=by have:=df h;show j=(allL x 0).length;have hj2:j≤(allL x 0).length:=hj;omega
   rw[hjl,List.take_length];intro v H6 hle6 hv6
   have hsb:∀s∈nmsAt V (numB x),s.length≤9223372036854775807:=fun s hs=>by
    obtain⟨k,hk,rfl⟩:=List.mem_map.1 hs;obtain⟨i2,hi2⟩:=List.getElem?_of_mem hk;exact hsm _ (List.mem_of_getElem? (nms_in hok hi2))
   obtain⟨a7,n7,c7,rfl,hr7⟩:=RL.of_row (α:=Str) hv6 (rc_sRows hsb);refine⟨⟨by show (css.length+1)*24≤140737488355328;omega,by show css.length+1≤9223372036854775807;omega⟩,?_⟩
   have hrc2:RC (α:=List Str) H6 (css++[[.slice a7 n7 c7]]) ((L.take (i+1)).map fun x=>ens (namesB V x)):=by
    rw[hst];exact RC.snoc (RC.up hrc (hle2.trans hle6.le)) (show Enc.R (α:=List Str) H6 [.slice a7 n7 c7] (ens (namesB V x)) from ⟨a7,n7,c7,rfl,hr7⟩)
   refine⟨⟨by omega,by omega⟩,(i+1,css++[[.slice a7 n7 c7]]),[(0,3)],?_,⟨(hle1.trans hle2).trans hle6.le,hlt,hrc2⟩,by dsimp only;omega⟩
   (repeat' (first|exact trivial|refine⟨?_,?_⟩|exact rfl|assumption))
 ·have hil:i=L.length:=by have:=df h;dsimp only at this;omega
  rw[hil,List.take_length]at hrc;intro v H6 hle6 hv6;obtain⟨a7,n7,c7,rfl,hr7⟩:=RL.of_row (α:=List Str) hv6 (RC.up hrc hle6.le);exact hK _ _ _ _ (hle1.trans hle6.le) hr7
end Go.Proofs
end
section
namespace Go.Proofs
open Go.Sy
set_option maxRecDepth 20000
set_option maxHeartbeats 4000000
theorem idxP_lt {α:Type} (f:α→Bool):∀(l:List α) (i:Nat),∀n∈idxP f l i,(i:Int)≤n∧n<((i+l.length:Nat):Int)
 | [],_,n,h=>by simp [idxP]at h
 | x::r,i,n,h=>by
  have ih:=idxP_lt f r (i+1);rw[idxP]at h;rw[List.length_cons];split at h
  ·rcases List.mem_cons.1 h with rfl | h
   ·omega
   ·have:=ih n h;omega
  ·have:=ih n h;omega
theorem lsysOf_ok {p:Prog} (h:checkE p=0):Bt.OkS (lsysOf p):=by
 have hf:=check_facts h;refine⟨.inl rfl,?_,?_,?_,?_,?_,?_,?_,?_⟩
 ·show (varsOf p).length≤1024;omega
 ·show 1≤p.length∧p.length≤256;omega
 ·show (gSort (revL (gSort (edgesOf p)))).length≤1024;have h0:=gSort_len (revL (gSort (edgesOf p)));rw[List.length_map]at h0;have h1:=gSort_len (edgesOf p);have h2:=eAll_len p p 0;rw[edgesOf]at h1 h0 ⊢;omega
 ·intro e he;have he:e∈revL (gSort (edgesOf p)):=(gSort_mem _ _).1 he;obtain⟨e',he',rfl⟩:=List.mem_map.1 he;have he':e'∈edgesOf p:=(gSort_mem _ _).1 he';have h1:=eAll_lt p 0 e' he';show (0≤e'.2∧e'.2<(p.length:Nat))∧0≤e'.1∧e'.1<(p.length:Nat);omega
 ·intro v hv;have:=idxP_lt isExit p 0 v hv;show 0≤v∧v<(p.length:Nat);omega
 ·exact nilB_ok _
 ·exact List.length_map _
 ·intro t ht;have ht:t∈p.map (trF (varsOf p)):=ht;obtain⟨b,hb,rfl⟩:=List.mem_map.1 ht;exact trF_ok _ b
theorem louts_ok {p:Prog} (h:checkE p=0):∀x∈Bt.outsS (lsysOf p) (Bt.solveS (lsysOf p)),okB (varsOf p).length x:=fun x hx=>by
 have ho:=lsysOf_ok h;obtain⟨v,hv,rfl⟩:=List.mem_map.1 hx;exact Bt.bApp_ok (Bt.tAt_ok ho v).1 (Bt.tAt_ok ho v).2 (Bt.aAt_ok (Bt.solveS_ok ho) (List.mem_range.1 hv))
def liveI (p:Prog):List (List Bs8):=(Bt.outsS (lsysOf p) (Bt.solveS (lsysOf p))).map (namesB (varsOf p))
def liveO (p:Prog):List (List Bs8):=(Bt.solveS (lsysOf p)).map (namesB (varsOf p))
theorem lsets_spec {p:Prog} (hp:p.length≤12) (hl:∀b∈p,b.2.1.length≤100000) (hc:stmtsN p≤1000000) (hv:cnt p<400000) {a:Option Addr} {n c:Nat} {H:Hp} {K:Value→Hp→Prop} (ha:RL H a n c p) (hT:TabH H)
  (hbad:checkE p≠0→∀H',Le H H'→K (.tuple #[.slice none 0 0,.slice none 0 0,.int .i64 (checkE p)]) H')
  (hK:checkE p=0→∀a1 n1 c1 a2 n2 c2 H',Le H H'→RL (α:=List Str) H' a1 n1 c1 ((liveI p).map ens)→RL (α:=List Str) H' a2 n2 c2 ((liveO p).map ens)→K (.tuple #[.slice a1 n1 c1,.slice a2 n2 c2,.int .i64 0]) H'):
  Does Tryz.prog 33 [.agg #[.slice a n c]] H K:=by
 have hn:=ha.n_eq;refine spec_of cx_ok cx_mix rfl Tryz.func33 Tryz.call33 Tryz.ntmps33 Tryz.results33 rfl rfl ?_;refine lsys_spec hp hl hc hv ha (fun he H1 hle1=>?_) (fun he z H1 hle1 hs=>?_)
 ·refine⟨fun _=>?_,(fun h=>absurd (nf h) he)⟩;exact hbad he _ hle1
 ·have ho:=lsysOf_ok he;have hA:=Bt.solveS_ok ho;refine⟨fun h=>absurd rfl (nt h),fun _=>?_⟩
  refine Bt.lsolve_spec ho hs fun a1 n1 c1 k H2 hle2 hr2=>?_
  refine Bt.louts_spec ho hA (hs.up hle2) hr2 fun a2 n2 c2 H3 hle3 hr3=>?_
  have hle:=(hle1.trans hle2).trans hle3
  refine pvars_spec (ha.up hle) hv fun av nv cv H4 hle4 hrv=>?_
  have hv64:=vars64 he;have hle':=hle.trans hle4;have hm:(Bt.solveS (lsysOf p)).length=p.length:=hA.len
  refine lnames_spec (V:=varsOf p) hv64 (louts_ok he) (by rw[Bt.outsS,List.length_map,List.length_range];show p.length≤1000;omega) hrv (hr3.up hle4) (hT.up hle') fun a5 n5 c5 H5 hle5 hr5=>?_
  refine lnames_spec (V:=varsOf p) hv64 (fun x hx=>hA.ok x hx) (by omega) (hrv.up hle5) (hr2.up ((hle3.trans hle4).trans hle5)) (hT.up (hle'.trans hle5)) fun a6 n6 c6 H6 hle6 hr6=>?_
  refine hK he _ _ _ _ _ _ H6 ((hle'.trans hle5).trans hle6) ?_ ?_
  ·rw[liveI,List.map_map];exact hr5.up hle6
  ·rw[liveO,List.map_map];exact hr6
end Go.Proofs
end
section
namespace Go.Proofs
open Go.Sy
set_option maxRecDepth 20000
set_option maxHeartbeats 4000000
def firstS (v:Bs8) (t:Term):List Stmt→Int
 | []=>if t.1=2∧t.2.1.1.l=v then 1 else 0
 | s::r=>if v∈usesS s then 1 else if s.1≠3∧s.2.1.l=v then 2 else firstS v t r
def genL (V:List Bs8) (b:Block) (i:Nat):List Int:=((List.range i).filter fun k=>decide (firstS (V[k]?.getD []) b.2.2 b.2.1=1)).map fun k:Nat=>(k:Int)
def killK (V:List Bs8) (l:List Stmt) (k:Nat):List Int:=(l.filter fun x=>decide (x.1≠3∧x.2.1.l=V[k]?.getD [])).map fun _=>(k:Int)
def killL (V:List Bs8) (b:Block) (i:Nat):List Int:=(List.range i).flatMap (killK V b.2.1)
def rtrF (V:List Bs8) (b:Block):Wd×Wd:=(ofB V.length (genL V b V.length),ofB V.length (killL V b V.length))
theorem idxS_is {V:List Bs8} (hV:SortedS V) {m:Nat} {v:Bs8} (hm:V[m]?=some v) (t:Bs8):idxS t V 0=(m:Int)↔t=v:=by
 have hnd:∀(i j:Nat) (x:Bs8),V[i]?=some x→V[j]?=some x→i=j:=fun i j x hi hj=>by
  obtain⟨h1,rfl⟩:=List.getElem?_eq_some_iff.1 hi;obtain⟨h2,h3⟩:=List.getElem?_eq_some_iff.1 hj
  rcases Nat.lt_trichotomy i j with h | h | h
  ·have:=List.pairwise_iff_getElem.1 hV i j h1 h2 h;rw[h3]at this;exact absurd this (slt_irrefl _)
  ·exact h
  ·have:=List.pairwise_iff_getElem.1 hV j i h2 h1 h;rw[h3]at this;exact absurd this (slt_irrefl _)
 constructor
 ·intro h;have hin:t∈V:=idxS_some (Int.le_refl 0) (by omega);have h2:=(idxS_at t V 0 (Int.le_refl 0) hin).2.2;rw[h,show ((m:Int) - 0).toNat=m by omega,hm]at h2;exact (Option.some.inj h2).symm
 ·rintro rfl;have hin:t∈V:=List.mem_of_getElem? hm;have h1:=idxS_at t V 0 (Int.le_refl 0) hin;have:=hnd _ _ _ h1.2.2 hm;omega
theorem bit_one1 {V:List Bs8} (hV:SortedS V) {m:Nat} {v:Bs8} (hm:V[m]?=some v) (t:Bs8):bitAt (oneV V t) m=decide (t=v):=by
 have hlt:=(List.getElem?_eq_some_iff.1 hm).1;rw[oneV,bit_of]
 by_cases h:t=v
 ·rw[decide_eq_true h];refine decide_eq_true ⟨hlt,?_⟩;rw[List.mem_singleton];exact ((idxS_is hV hm t).2 h).symm
 ·rw[decide_eq_false h]
  refine decide_eq_false fun h2=>h ((idxS_is hV hm t).1 ?_)
  exact (List.mem_singleton.1 h2.2).symm
theorem bit_use {V:List Bs8} (hV:SortedS V) {m:Nat} {v:Bs8} (hm:V[m]?=some v) {k:Wd} (hk:okB V.length k):∀(l:List Bs8) {g:Wd},okB V.length g→bitAt (useF V k g l) m=(bitAt g m||(decide (v∈l)&&!bitAt k m))
 | [],g,_=>by simp [useF]
 | t::r,g,hg=>by
  have hd:=bDiff_ok (oneV_ok V t) hk;have ih:=bit_use hV hm hk r (g:=bOr g (bDiff (oneV V t) k)) (bOr_ok hg hd);rw[show useF V k g (t::r)=useF V k (bOr g (bDiff (oneV V t) k)) r from rfl,ih,bit_bOr (hg.1.trans hd.1.symm),bit_bDiff ((oneV_ok V t).1.trans hk.1.symm),bit_one1 hV hm]
  by_cases h1:t=v
  ·by_cases h2:v∈r<;>cases bitAt g m<;>cases bitAt k m<;>simp [h1,h2]
  ·have h3:¬v=t:=fun e=>h1 e.symm
   by_cases h2:v∈r<;>cases bitAt g m<;>cases bitAt k m<;>simp [h1,h2,h3]
theorem bit_trF {V:List Bs8} (hV:SortedS V) {m:Nat} {v:Bs8} (hm:V[m]?=some v) (hv:v≠[]) {t:Term} (ht:t.1≠2→t.2.1.1.l=[]):∀(l:List Stmt) {z:Wd×Wd},okB V.length z.1∧okB V.length z.2 →
  bitAt (useF V (l.foldl (stmF V) z).2 (l.foldl (stmF V) z).1 (nmsOf [t.2.1.1.l])) m=(bitAt z.1 m||(!bitAt z.2 m&&decide (firstS v t l=1)))∧bitAt (l.foldl (stmF V) z).2 m=(bitAt z.2 m||decide (∃s∈l,s.1≠3∧s.2.1.l=v))
 | [],z,hz=>by
  refine⟨?_,by simp⟩;rw[List.foldl_nil,bit_use hV hm hz.2 _ hz.1]
  have e:decide (v∈nmsOf [t.2.1.1.l])=decide (firstS v t []=1):=by
   rw[decide_eq_decide,nmsOf_mem,List.mem_singleton,firstS];constructor
   ·rintro⟨h1,h2⟩;rw[if_pos];refine⟨?_,h1.symm⟩
    by_cases h:t.1=2
    ·exact h
    ·rw[ht h]at h1;exact absurd h1 h2
   ·intro h;split at h
    ·rename_i h2;exact⟨h2.2.symm,hv⟩
    ·cases h
  rw[e]
  cases bitAt z.1 m<;>cases bitAt z.2 m<;>simp
 | s::r,z,hz=>by
  have hz1:=stmF_ok hz s;obtain⟨h1,h2⟩:=bit_trF hV hm hv ht r (z:=stmF V z s) hz1;rw[List.foldl_cons];have e1:bitAt (stmF V z s).1 m=(bitAt z.1 m||(decide (v∈usesS s)&&!bitAt z.2 m)):=bit_use hV hm hz.2 _ hz.1
  have e2:bitAt (stmF V z s).2 m=(bitAt z.2 m||decide (s.1≠3∧s.2.1.l=v)):=by
   show bitAt (if s.1=3 then z.2 else bOr z.2 (oneV V s.2.1.l)) m=_;split
   ·rename_i h;simp [h]
   ·rename_i h;rw[bit_bOr (hz.2.1.trans (oneV_ok V _).1.symm),bit_one1 hV hm];simp [h]
  refine⟨?_,?_⟩
  ·rw[h1,e1,e2,firstS]
   by_cases a1:v∈usesS s<;>by_cases a2:s.1≠3∧s.2.1.l=v<;>cases bitAt z.1 m<;>cases bitAt z.2 m<;>simp [a1,a2]
  ·rw[h2,e2,Bool.or_assoc]
   congr 1
   by_cases a2:s.1≠3∧s.2.1.l=v
   ·simp [a2]
   ·by_cases a3:∃x∈r,x.1≠3∧x.2.1.l=v<;>simp [a2,a3]
theorem trF_eq {V:List Bs8} (hV:SortedS V) (hne:¬[]∈V) {b:Block} (ht:b.2.2.1≠2→b.2.2.2.1.1.l=[]):trF V b=rtrF V b:=by
 have hok:=trF_ok V b
 have key:∀m v,V[m]?=some v→_:=fun m v hm=>bit_trF hV hm (fun e=>hne (e▸List.mem_of_getElem? hm)) ht b.2.1 (z:=(nilB V.length,nilB V.length)) ⟨nilB_ok _,nilB_ok _⟩
 have hg:∀k:Nat,(k:Int)∈genL V b V.length↔k<V.length∧firstS (V[k]?.getD []) b.2.2 b.2.1=1:=fun k=>by
  rw[genL,List.mem_map];constructor
  ·rintro⟨j,hj,e⟩
   have:j=k:=by omega
   subst this;obtain⟨h1,h2⟩:=List.mem_filter.1 hj;exact⟨List.mem_range.1 h1,dt h2⟩
  ·rintro⟨h1,h2⟩;exact⟨k,List.mem_filter.2 ⟨List.mem_range.2 h1,decide_eq_true h2⟩,rfl⟩
 have hk:∀k:Nat,(k:Int)∈killL V b V.length↔k<V.length∧∃s∈b.2.1,s.1≠3∧s.2.1.l=V[k]?.getD []:=fun k=>by
  rw[killL,List.mem_flatMap];constructor
  ·rintro⟨j,hj,h⟩;obtain⟨s,hs,e⟩:=List.mem_map.1 h
   have:j=k:=by omega
   subst this;obtain⟨h1,h2⟩:=List.mem_filter.1 hs;exact⟨List.mem_range.1 hj,s,h1,dt h2⟩
  ·rintro⟨h1,s,hs,h2⟩;exact⟨k,List.mem_range.2 h1,List.mem_map.2 ⟨s,List.mem_filter.2 ⟨hs,decide_eq_true h2⟩,rfl⟩⟩
 refine Prod.ext ?_ ?_
 ·refine bits_ext (by rw[hok.1.1];exact (ofB_len _ _).symm) fun m=>?_
  show bitAt (trF V b).1 m=bitAt (ofB V.length (genL V b V.length)) m;rw[bit_of]
  by_cases hm:m<V.length
  ·have h:=(key m V[m] (List.getElem?_eq_getElem hm)).1;show bitAt (useF V _ _ _) m=_;rw[h,nilB,bit_nil,Bool.false_or,Bool.not_false,Bool.true_and,decide_eq_decide,hg,List.getElem?_eq_getElem hm];simp [hm]
  ·rw[hok.1.2 m (by omega)];exact (decide_eq_false fun h=>hm h.1).symm
 ·refine bits_ext (by rw[hok.2.1];exact (ofB_len _ _).symm) fun m=>?_
  show bitAt (trF V b).2 m=bitAt (ofB V.length (killL V b V.length)) m;rw[bit_of]
  by_cases hm:m<V.length
  ·have h:=(key m V[m] (List.getElem?_eq_getElem hm)).2;show bitAt (b.2.1.foldl (stmF V) (nilB V.length,nilB V.length)).2 m=_;rw[h,nilB,bit_nil,Bool.false_or,decide_eq_decide,hk,List.getElem?_eq_getElem hm];simp [hm]
  ·rw[hok.2.2 m (by omega)];exact (decide_eq_false fun h=>hm h.1).symm
end Go.Proofs
end
section
namespace Go.Proofs
open Go.Sy
set_option maxRecDepth 20000
set_option maxHeartbeats 4000000
end Go.Proofs
end
section
namespace Go.Proofs
open Go.Sy
set_option maxRecDepth 20000
set_option maxHeartbeats 4000000
theorem vars_some2 (p:Prog):¬[]∈varsOf p:=by
 have hB:∀(l:List Stmt) {o:List Bs8},¬[]∈o→¬[]∈bVars o l:=fun l=>by
  induction l with
  | nil=>exact fun h=>h
  | cons s r ih=>exact fun h=>ih (putAll_some (sVars s) h)
 have:∀(q:Prog) {o:List Bs8},¬[]∈o→¬[]∈q.foldl blkVars o:=fun q=>by
  induction q with
  | nil=>exact fun h=>h
  | cons b r ih=>exact fun h=>ih (putAll_some _ (hB b.2.1 h))
 exact this p (by simp)
theorem term_nil {p:Prog} (he:checkE p=0) {b:Block} (hb:b∈p):b.2.2.1≠2→b.2.2.2.1.1.l=[]:=fun h2=>by
 have hB:=(check_facts he).2.2.2 b hb;rw[blockB,Bool.and_eq_true,Bool.and_eq_true]at hB;have ht:=hB.1.2;unfold termB at ht;split at ht
 ·simp only[Bool.and_eq_true,decide_eq_true_eq]at ht
  rw[ht.2.2];rfl
 ·split at ht
  ·simp only[Bool.and_eq_true,decide_eq_true_eq]at ht
   rw[ht.2];rfl
  ·cases ht
def agree (V:List Bs8) (P:Nat→Bs8→Prop) (e1 e2:List Nm):Prop :=
 e1.length=V.length∧e2.length=V.length∧∀(m:Nat) (v:Bs8),V[m]?=some v→P m v→e1[m]?=e2[m]?
def liveP (t:Term) (O:Nat→Prop) (l:List Stmt) (m:Nat) (v:Bs8):Prop:=firstS v t l=1∨(firstS v t l=0∧O m)
theorem liveP_step {t:Term} {O:Nat→Prop} {x:Stmt} {r:List Stmt} {m:Nat} {v:Bs8} (h:liveP t O r m v) (hk:x.1≠3→x.2.1.l≠v):liveP t O (x::r) m v:=by
 unfold liveP firstS
 by_cases h1:v∈usesS x
 ·rw[if_pos h1];exact .inl rfl
 ·rw[if_neg h1,if_neg (fun h2=>hk h2.1 h2.2)];exact h
theorem liveP_use {t:Term} {O:Nat→Prop} {x:Stmt} {r:List Stmt} {m:Nat} {v:Bs8} (h1:v∈usesS x):liveP t O (x::r) m v:=by
 unfold liveP firstS
 rw[if_pos h1];exact .inl rfl
theorem uses_atom {x:Stmt} (hx:stmtB x=true) (h1:x.1=1):(x.2.2.2.1.1.l≠[]→x.2.2.2.1.1.l∈usesS x)∧(x.2.2.2.2.1.l≠[]→x.2.2.2.2.1.l∈usesS x):=by
 unfold stmtB at hx;rw[if_pos h1,Bool.and_eq_true]at hx;have hx:=hx.2;unfold exprB at hx
 have hu:usesS x=nmsOf ((atomsOf x.2.2).map fun a=>a.1.l):=by rw[usesS,useL,if_pos h1]
 rw[hu,nmsOf_mem,nmsOf_mem]
 by_cases e:op1 x.2.2.1=true
 ·rw[if_pos e,Bool.and_eq_true]at hx;have e2:=dt hx.2;rw[atomsOf,if_pos e,e2];exact⟨fun h=>⟨by simp,h⟩,fun h=>absurd rfl h⟩
 ·rw[if_neg e]at hx
  by_cases e3:op2 x.2.2.1=true
  ·rw[atomsOf,if_neg e,if_pos e3];exact⟨fun h=>⟨by simp,h⟩,fun h=>⟨by simp,h⟩⟩
  ·rw[if_neg e3]at hx;cases hx
theorem uses_out {x:Stmt} (h1:x.1=3):x.2.2.2.1.1.l≠[]→x.2.2.2.1.1.l∈usesS x:=fun h=>by
 have hu:usesS x=nmsOf [x.2.2.2.1.1.l]:=by rw[usesS,useL,if_neg (by omega),if_pos h1]
 rw[hu,nmsOf_mem];exact⟨by simp,h⟩
theorem first_free {v:Bs8} {t:Term}:∀ {l:List Stmt},firstS v t l=0→∀s∈l,¬(s.1≠3∧s.2.1.l=v)
 | [],_,s,hs=>by cases hs
 | x::r,h,s,hs=>by
  unfold firstS at h;split at h
  ·cases h
  ·split at h
   ·cases h
   ·rename_i h2
    rcases List.mem_cons.1 hs with rfl | hs
    ·exact h2
    ·exact first_free h s hs
theorem live_bits {V:List Bs8} (hV:SortedS V) (hne:¬[]∈V) {b:Block} (ht:b.2.2.1≠2→b.2.2.2.1.1.l=[]) {x:Wd} (hx:okB V.length x) {m:Nat} {v:Bs8} (hm:V[m]?=some v)
  (h:liveP b.2.2 (fun m=>bitAt x m=true) b.2.1 m v):bitAt (Bt.bApp (trF V b) x) m=true:=by
 have hlt:=(List.getElem?_eq_some_iff.1 hm).1;rw[trF_eq hV hne ht,rtrF,Bt.bit_app (t:=(ofB V.length (genL V b V.length),ofB V.length (killL V b V.length))) (ofB_ok _ _) (ofB_ok _ _) hx];dsimp only;rw[bit_of,bit_of]
 rcases h with h | ⟨h,h2⟩
 ·have hg:(m:Int)∈genL V b V.length:=by
   rw[genL];refine List.mem_map.2 ⟨m,List.mem_filter.2 ⟨List.mem_range.2 hlt,?_⟩,rfl⟩;rw[hm];exact decide_eq_true h
  rw[decide_eq_true (show m<V.length∧(m:Int)∈genL V b V.length from ⟨hlt,hg⟩),Bool.or_true]
 ·have hk:¬(m<V.length∧(m:Int)∈killL V b V.length):=fun h3=>by
   obtain⟨k,_,h4⟩:=List.mem_flatMap.1 h3.2;obtain⟨s,hs,e⟩:=List.mem_map.1 h4;obtain⟨hs1,hs2⟩:=List.mem_filter.1 hs
   have e:k=m:=by omega
   have hs2:=dt hs2;rw[e,hm]at hs2;exact first_free h s hs1 hs2
  rw[decide_eq_false hk,h2]
  rfl
def lvA (p:Prog):List Wd:=Bt.solveS (lsysOf p)
theorem lsys_tAt {p:Prog} {i:Nat} {b:Block} (h:p[i]?=some b):Bt.tAt (lsysOf p) i=trF (varsOf p) b:=by
 have e:(lsysOf p).T[i]?=some (trF (varsOf p) b):=by
  show (p.map (trF (varsOf p)))[i]?=_
  rw[List.getElem?_map,h];rfl
 rw[Bt.tAt,e];rfl
theorem lsys_edge {p:Prog} {e:Edg} (h:e∈edgesOf p):(e.2,e.1)∈(lsysOf p).E:=by
 show (e.2,e.1)∈gSort (revL (gSort (edgesOf p)));refine (gSort_mem _ _).2 ?_;exact List.mem_map.2 ⟨e,(gSort_mem _ _).2 h,rfl⟩
theorem lsys_le {p:Prog} (he:checkE p=0) {e:Edg} (h:e∈edgesOf p) {m:Nat} (hb:bitAt (Bt.bApp (Bt.tAt (lsysOf p) e.2.toNat) (Bt.aAt (lvA p) e.2.toNat)) m=true):bitAt (Bt.aAt (lvA p) e.1.toNat) m=true:=by
 have h1:=Bt.sol_edge (lsysOf_ok he) (lsys_edge h);have h2:=h1.2 m;unfold Bt.lb at h2;rw[if_pos (show (lsysOf p).wh=1 from rfl)]at h2;exact h2 hb
end Go.Proofs
end
section
namespace Go.Proofs
open Go.Sy
set_option maxRecDepth 20000
set_option maxHeartbeats 4000000
def askS (v:Bs8) (t:Bs8):List Stmt→Bool×Bool
 | []=>(decide (t=v),decide (t=v))
 | s::r=>if v∈usesS s then (true,true) else if s.1≠3∧s.2.1.l=v then (false,true) else askS v t r
theorem sasked_spec {b:Block} {k:Nat} {v:Bs8} (hk:k≤b.2.1.length) (hb:b.2.1.length≤100000) {la:Option Addr} {ln lc:Nat} {H:Hp} {K:Value→Hp→Prop} (ha:RL H la ln lc b.2.1)
  (hK:∀H',Le H H'→K (.tuple #[.bool (askS v b.2.2.2.1.1.l (b.2.1.drop k)).1,.bool (askS v b.2.2.2.1.1.l (b.2.1.drop k)).2]) H'):
  Does Tryz.prog 34 [blkA (.slice la ln lc) b,.int .i64 (k:Nat),.string (bs v)] H K:=by
 have hn:=ha.n_eq;have hmx:=ha.le;have hcut:=ha.cut (l:=k) (k:=ln) (by omega) (Nat.le_refl _);rw[hn,List.take_length]at hcut;rw[←hn]at hcut;generalize hL:b.2.1.drop k=L at *
 have hLl:L.length=ln - k:=by rw[←hL,List.length_drop,hn]
 refine spec_of cx_ok cx_mix rfl Tryz.func34 Tryz.call34 Tryz.ntmps34 Tryz.results34 rfl rfl ?_;refine⟨⟨by omega,by omega,by have:=ha.2.1;omega⟩,?_⟩;have hcut:RL H (cutA la k lc 9) (ln - k) (lc - k) L:=hcut
 refine⟨Nat,fun i=>⟨[(2,.v (.string (bs v))),(3,.ptr 0 0),(13,.v (.slice (cutA la k lc 9) (ln - k) (lc - k))),(14,.v (.int .i64 ((ln - k:Nat)))),(15,.v (.int .i64 i))],[(0,.cells 66 (vL (blkL (.slice la ln lc) b)))],1⟩,
  fun i H'=>Le H H'∧i≤L.length∧askS v b.2.2.2.1.1.l L=askS v b.2.2.2.1.1.l (L.drop i),fun i=>L.length - i,⟨0,[(0,0)],?_,Le.refl H,Nat.zero_le _,rfl⟩,?_⟩
 ·(repeat' (first|exact trivial|refine⟨?_,?_⟩|exact rfl|assumption))
 rintro i H1 _ ⟨hle,hi,hx⟩;refine⟨fun h=>?_,fun h=>?_⟩
 ·have hlt:i<L.length:=by have:=dt h;omega
  refine name_k L[i] fun s hs=>?_
  have hss:L[i]?=some s:=by rw[hs];exact List.getElem?_eq_getElem hlt
  rw[List.drop_eq_getElem_cons hlt,←hs,askS]at hx
  refine stmt_k (hcut.up hle) hss fun ad e1 hh hsR=>?_
  refine⟨ad,⟨by omega,by omega,e1⟩,?_⟩;refine⟨_,hh,?_⟩
  refine luses_spec hsR fun u1 u2 u3 H3 hle3 hu3=>?_
  refine contains_spec hu3 ?_;refine⟨fun h=>?_,fun h=>?_⟩
  ·have hm:v∈usesS s:=dt h;rw[if_pos hm]at hx;rw[hx]at hK;exact hK _ (hle.trans hle3)
  ·have hm:¬v∈usesS s:=df h;rw[if_neg hm]at hx;refine⟨fun h=>?_,fun h=>?_⟩
   ·have hk3:¬s.1=3:=nt h;refine⟨fun h=>?_,fun h=>?_⟩
    ·have he:s.2.1.l=v:=by have:=dt h;rw[sl_bs,sl_bs]at this;exact this
     rw[if_pos ⟨hk3,he⟩]at hx;rw[hx]at hK;exact hK _ (hle.trans hle3)
    ·have he:¬s.2.1.l=v:=by have:=df h;rw[sl_bs,sl_bs]at this;exact this
     rw[if_neg (fun h=>he h.2)]at hx;refine⟨⟨by omega,by omega⟩,i+1,[(0,0)],?_,⟨hle.trans hle3,hlt,hx⟩,by dsimp only;omega⟩
     (repeat' (first|exact trivial|refine⟨?_,?_⟩|exact rfl|assumption))
   ·have hk3:s.1=3:=nf h;rw[if_neg (fun h=>h.1 hk3)]at hx;refine⟨⟨by omega,by omega⟩,i+1,[(0,0)],?_,⟨hle.trans hle3,hlt,hx⟩,by dsimp only;omega⟩
    (repeat' (first|exact trivial|refine⟨?_,?_⟩|exact rfl|assumption))
 ·have hil:i=L.length:=by have:=df h;omega
  rw[hil,List.drop_length,askS]at hx;rw[hx]at hK;refine⟨some ([],[0,1,2,3,4,5,6,7,8,9,10,11,12,13]),by kernel_rfl,?_⟩
  have h3:K (.tuple #[.bool (decide (sl (bs b.2.2.2.1.1.l)=sl (bs v))),.bool (decide (sl (bs b.2.2.2.1.1.l)=sl (bs v)))]) H1:=by
   rw[sl_bs,sl_bs];exact hK H1 hle
  exact h3
end Go.Proofs
end
section
namespace Go.Proofs
open Go.Sy
set_option maxRecDepth 20000
set_option maxHeartbeats 4000000
def idB (p:Prog) (i k:Nat) (b:Block) (s:Stmt):Bool :=
 decide (s.1=1)&&!(askS s.2.1.l b.2.2.2.1.1.l (b.2.1.drop (k+1))).1&&((askS s.2.1.l b.2.2.2.1.1.l (b.2.1.drop (k+1))).2||!decide (s.2.1.l∈((liveO p)[i]?.getD [])))
def idK (p:Prog) (i:Nat) (b:Block) (k:Nat):List Nm:=(List.range k).flatMap fun j=>if idB p i j b (b.2.1[j]?.getD (0,⟨[]⟩,(0,(⟨[]⟩,0,0),(⟨[]⟩,0,0))))=true then [((i:Int),(j:Int))] else []
def idP (p:Prog) (n:Nat):List Nm:=(List.range n).flatMap fun i=>idK p i (p[i]?.getD (⟨[]⟩,[],(0,(⟨[]⟩,0,0),⟨[]⟩,⟨[]⟩))) (p[i]?.getD (⟨[]⟩,[],(0,(⟨[]⟩,0,0),⟨[]⟩,⟨[]⟩))).2.1.length
def idleP (p:Prog):List Nm:=idP p p.length
theorem idK_succ {p:Prog} {i:Nat} {b:Block} {k:Nat} {s:Stmt} (h:b.2.1[k]?=some s):idK p i b (k+1)=idK p i b k++if idB p i k b s=true then [((i:Int),(k:Int))] else []:=by
 rw[idK,List.range_succ,List.flatMap_append,List.flatMap_cons,List.flatMap_nil,List.append_nil,h,Option.getD_some];rfl
theorem idP_succ {p:Prog} {i:Nat} {b:Block} (h:p[i]?=some b):idP p (i+1)=idP p i++idK p i b b.2.1.length:=by
 rw[idP,List.range_succ,List.flatMap_append,List.flatMap_cons,List.flatMap_nil,List.append_nil,h,Option.getD_some];rfl
structure FamD (p:Prog) (G:Nat→List Nm) (F:Nat→Nat→List Nm):Prop where
 g0:G 0=[]
 f0:∀i,G i=F i 0
 fy:∀i k b s,p[i]?=some b→b.2.1[k]?=some s→idB p i k b s=true→F i (k+1)=F i k++[((i:Int),(k:Int))]
 fn:∀i k b s,p[i]?=some b→b.2.1[k]?=some s→idB p i k b s=false→F i (k+1)=F i k
 gs:∀i b,p[i]?=some b→F i b.2.1.length=G (i+1)
 ge:G p.length=idleP p
theorem famD_k {P:Prop} (p:Prog) (k:∀G F,FamD p G F→P):P:=by
 refine k (fun i=>idP p i) (fun i k=>idP p i++idK p i (p[i]?.getD (⟨[]⟩,[],(0,(⟨[]⟩,0,0),⟨[]⟩,⟨[]⟩))) k) ⟨rfl,fun i=>?_,fun i k b s hb hs hy=>?_,fun i k b s hb hs hy=>?_,fun i b hb=>?_,rfl⟩
 ·show _=_++[]
  rw[List.append_nil]
 ·show _++idK p i _ (k+1)=_;rw[hb,Option.getD_some,idK_succ hs,if_pos hy,List.append_assoc]
 ·show _++idK p i _ (k+1)=_;rw[hb,Option.getD_some,idK_succ hs,if_neg (by rw[hy];decide),List.append_nil]
 ·show _++idK p i _ _=_;rw[hb,Option.getD_some,←idP_succ hb]
theorem idle_in {p:Prog} (hp:p.length≤12) (hl:∀b∈p,b.2.1.length≤100000):∀e∈idleP p,inI e.1∧inI e.2:=fun e he=>by
 obtain⟨i,hi,h1⟩:=List.mem_flatMap.1 he;obtain⟨k,hk,h2⟩:=List.mem_flatMap.1 h1;have hi:=List.mem_range.1 hi;have hk:=List.mem_range.1 hk;rw[List.getElem?_eq_getElem hi,Option.getD_some]at hk;have:=hl _ (List.getElem_mem hi);split at h2
 ·rw[List.mem_singleton]at h2;subst h2;exact⟨⟨by show _≤((i:Nat):Int);omega,by show ((i:Nat):Int)≤_;omega⟩,⟨by show _≤((k:Nat):Int);omega,by show ((k:Nat):Int)≤_;omega⟩⟩
 ·cases h2
theorem sidle_spec {p:Prog} (hp:p.length≤12) (hl:∀b∈p,b.2.1.length≤100000) (hc:stmtsN p≤1000000) (hv:cnt p<400000) {a:Option Addr} {n c:Nat} {H:Hp} {K:Value→Hp→Prop} (ha:RL H a n c p) (hT:TabH H)
  (hbad:checkE p≠0→∀H',Le H H'→K (.tuple #[.slice none 0 0,.int .i64 (checkE p)]) H')
  (hK:checkE p=0→∀a1 n1 c1 H',Le H H'→RL (α:=Int×Int) H' a1 n1 c1 (idleP p)→K (.tuple #[.slice a1 n1 c1,.int .i64 0]) H'):
  Does Tryz.prog 11 [.agg #[.slice a n c]] H K:=by
 have hn:=ha.n_eq
 refine famD_k p fun G F hF=>?_
 refine spec_of cx_ok cx_mix rfl Tryz.func11 Tryz.call11 Tryz.ntmps11 Tryz.results11 rfl rfl ?_;refine lsets_spec hp hl hc hv ha hT (fun he H1 hle1=>?_) (fun he a1 n1 c1 a2 n2 c2 H1 hle1 hr1 hr2=>?_)
 ·refine⟨fun _=>hbad he _ hle1,fun h=>absurd (nf h) he⟩
 refine⟨fun h=>absurd rfl (nt h),fun _=>?_⟩;have hn2:=hr2.n_eq;rw[List.length_map]at hn2
 have hol:(liveO p).length=p.length:=by rw[liveO,List.length_map];exact (Bt.solveS_ok (lsysOf_ok he)).len
 refine⟨Nat,fun i=>⟨[(1,.ptr 0 0),(5,.v (.slice a2 n2 c2)),(7,.own 1),(24,.v (.slice a n c)),(25,.v (.int .i64 n)),(26,.v (.int .i64 i))],[(0,.cells 24 [.v (.slice a n c)]),(1,.row 67 2 (eRows (G i)))],2⟩,
  fun i H'=>H'=H1∧i≤p.length∧(G i).length≤100000*i,fun i=>p.length - i,⟨0,[(0,0)],?_,rfl,Nat.zero_le _,by rw[hF.g0];exact Nat.zero_le _⟩,?_⟩
 ·have e1:eRows (G 0)=[]:=by rw[hF.g0];rfl
  (repeat' (first|exact trivial|refine⟨?_,?_⟩|exact rfl|assumption))
 rintro i H3 _ ⟨rfl,hi,hgl⟩;refine⟨fun h=>?_,fun h=>?_⟩
 ·have hlt:i<p.length:=by have:=dt h;omega
  refine name_k p[i] fun b hbe=>?_
  have hbb:p[i]?=some b:=by rw[hbe];exact List.getElem?_eq_getElem hlt
  have hbl:=hl b (List.mem_of_getElem? hbb)
  refine block_k (ha.up hle1) hbb fun ad a5 n5 c5 q1 hh hr5 hs5 ht5=>?_
  have hn5:n5=b.2.1.length:=hr5.n_eq
  refine name_k ((liveO p)[i]'(by omega)) fun g hge=>?_
  have hgg:(liveO p)[i]?=some g:=by rw[hge];exact List.getElem?_eq_getElem _
  have hge2:((liveO p).map ens)[i]?=some (ens g):=by rw[List.getElem?_map,hgg];rfl
  refine⟨ad,⟨by omega,by omega,q1⟩,?_⟩;refine⟨_,hh,?_⟩
  refine⟨Nat,fun k=>⟨[(1,.ptr 0 0),(5,.v (.slice a2 n2 c2)),(7,.own 1),(8,.v (.int .i64 i)),(9,.ptr 2 0),(24,.v (.slice a n c)),(25,.v (.int .i64 n)),(26,.v (.int .i64 i)),(32,.v (.slice a5 n5 c5)),(33,.v (.int .i64 n5)),(34,.v (.int .i64 k))],[(0,.cells 24 [.v (.slice a n c)]),(1,.row 67 2 (eRows (F i k))),(2,.cells 66 (vL (blkL (.slice a5 n5 c5) b)))],3⟩,
   fun k H'=>H'=H3∧k≤b.2.1.length∧(F i k).length≤100000*i+k,fun k=>b.2.1.length - k,⟨0,[(0,0),(1,1),(2,2)],?_,rfl,Nat.zero_le _,by rw[←hF.f0];omega⟩,?_⟩
  ·have e1:eRows (G i)=eRows (F i 0):=by rw[hF.f0]
   (repeat' (first|exact trivial|refine⟨?_,?_⟩|exact rfl|assumption))
  rintro k H4 _ ⟨rfl,hk,hfl⟩;have hxl:(eRows (F i k)).length=(F i k).length:=List.length_map _;refine⟨fun h=>?_,fun h=>?_⟩
  ·have hkl:k<b.2.1.length:=by have:=dt h;omega
   refine name_k b.2.1[k] fun s hse=>?_
   have hss:b.2.1[k]?=some s:=by rw[hse];exact List.getElem?_eq_getElem hkl
   refine stmt_k hr5 hss fun ad2 q2 hh2 hR=>?_
   refine⟨ad2,⟨by omega,by omega,q2⟩,?_⟩;refine⟨_,hh2,?_⟩;refine⟨⟨by omega,by omega⟩,?_⟩
   refine sasked_spec (k:=k+1) hkl hbl hr5 fun _ _=>?_
   have hdef:idB p i k b s=(decide (s.1=1)&&!(askS s.2.1.l b.2.2.2.1.1.l (b.2.1.drop (k+1))).1&&((askS s.2.1.l b.2.2.2.1.1.l (b.2.1.drop (k+1))).2||!decide (s.2.1.l∈g))):=by rw[idB,hgg,Option.getD_some]
   generalize askS s.2.1.l b.2.2.2.1.1.l (b.2.1.drop (k+1))=A at *;refine⟨some ([],[0,1,2,3,4,5,6,7,8,9,10,11,12,13,14,15,16,17,18,19]),by kernel_rfl,?_⟩;refine⟨fun h1=>?_,fun h1=>?_⟩
   ·have h1:s.1=1:=dt h1;rw[decide_eq_true h1,Bool.true_and]at hdef;refine⟨fun h2=>?_,fun h2=>?_⟩
    ·have h2:(!A.1)=true:=h2;rw[h2,Bool.true_and]at hdef;refine⟨fun h3=>?_,fun h3=>?_⟩
     ·have h3:A.2=false:=h3;rw[h3,Bool.false_or]at hdef
      refine list_k hr2 hge2 fun ad3 u1 u2 u3 q3 hh3 hr6=>?_
      refine⟨ad3,⟨by omega,by omega,q3⟩,?_⟩;refine⟨_,hh3,?_⟩;refine contains_spec hr6 ?_;refine⟨fun h4=>?_,fun h4=>?_⟩
      ·have hyes:idB p i k b s=true:=by rw[hdef];exact h4
       have e1:eRows (F i k)++[[.int .i64 (i:Nat),.int .i64 (k:Nat)]]=eRows (F i (k+1)):=by rw[hF.fy i k b s hbb hss hyes,eRows,eRows,List.map_append];rfl
       refine⟨⟨by show ((eRows (F i k)).length+1)*16≤140737488355328;omega,by show (eRows (F i k)).length+1≤9223372036854775807;omega⟩,?_⟩;refine⟨⟨by omega,by omega⟩,k+1,[(0,0),(1,5),(2,2)],?_,⟨rfl,hkl,by rw[hF.fy i k b s hbb hss hyes,List.length_append,List.length_singleton];omega⟩,by dsimp only;omega⟩
       (repeat' (first|exact trivial|refine⟨?_,?_⟩|exact rfl|assumption))
      ·have hno:idB p i k b s=false:=by rw[hdef];exact h4
       have e1:eRows (F i k)=eRows (F i (k+1)):=by rw[hF.fn i k b s hbb hss hno]
       refine⟨⟨by omega,by omega⟩,k+1,[(0,0),(1,1),(2,2)],?_,⟨rfl,hkl,by rw[hF.fn i k b s hbb hss hno];omega⟩,by dsimp only;omega⟩
       (repeat' (first|exact trivial|refine⟨?_,?_⟩|exact rfl|assumption))
     ·have h3:A.2=true:=h3
      have hyes:idB p i k b s=true:=by rw[hdef,h3];rfl
      have e1:eRows (F i k)++[[.int .i64 (i:Nat),.int .i64 (k:Nat)]]=eRows (F i (k+1)):=by rw[hF.fy i k b s hbb hss hyes,eRows,eRows,List.map_append];rfl
      refine⟨⟨by show ((eRows (F i k)).length+1)*16≤140737488355328;omega,by show (eRows (F i k)).length+1≤9223372036854775807;omega⟩,?_⟩;refine⟨⟨by omega,by omega⟩,k+1,[(0,0),(1,5),(2,2)],?_,⟨rfl,hkl,by rw[hF.fy i k b s hbb hss hyes,List.length_append,List.length_singleton];omega⟩,by dsimp only;omega⟩
      (repeat' (first|exact trivial|refine⟨?_,?_⟩|exact rfl|assumption))
    ·have h2:(!A.1)=false:=h2
     have hno:idB p i k b s=false:=by rw[hdef,h2];rfl
     have e1:eRows (F i k)=eRows (F i (k+1)):=by rw[hF.fn i k b s hbb hss hno]
     refine⟨⟨by omega,by omega⟩,k+1,[(0,0),(1,1),(2,2)],?_,⟨rfl,hkl,by rw[hF.fn i k b s hbb hss hno];omega⟩,by dsimp only;omega⟩
     (repeat' (first|exact trivial|refine⟨?_,?_⟩|exact rfl|assumption))
   ·have h1:¬s.1=1:=df h1
    have hno:idB p i k b s=false:=by rw[hdef,decide_eq_false h1];rfl
    have e1:eRows (F i k)=eRows (F i (k+1)):=by rw[hF.fn i k b s hbb hss hno]
    refine⟨⟨by omega,by omega⟩,k+1,[(0,0),(1,1),(2,2)],?_,⟨rfl,hkl,by rw[hF.fn i k b s hbb hss hno];omega⟩,by dsimp only;omega⟩
    (repeat' (first|exact trivial|refine⟨?_,?_⟩|exact rfl|assumption))
  ·have hkl:k=b.2.1.length:=by have:=df h;omega
   subst hkl
   have e1:eRows (F i b.2.1.length)=eRows (G (i+1)):=by rw[hF.gs i b hbb]
   refine⟨⟨by omega,by omega⟩,i+1,[(0,0),(1,1)],?_,⟨rfl,hlt,by rw[←hF.gs i b hbb];omega⟩,by dsimp only;omega⟩
   (repeat' (first|exact trivial|refine⟨?_,?_⟩|exact rfl|assumption))
 ·have hil:i=p.length:=by have:=df h;omega
  subst hil;rw[hF.ge];intro v H5 hle5 hv5
  refine of_row_k (α:=Int×Int) hv5 (rc_eRows (idle_in hp hl)) fun d1 d2 d3 ev hr=>?_
  subst ev;exact hK he _ _ _ _ (hle1.trans hle5.le) hr
end Go.Proofs
end
section
namespace Go.Proofs
open Go.Sy
set_option maxRecDepth 20000
set_option maxHeartbeats 4000000
def swL (p:Prog) (i:Nat) (b:Block):List Stmt→Nat→List Stmt
 | [],_=>[]
 | s::r,k=>if idB p i k b s=true then swL p i b r (k+1) else s::swL p i b r (k+1)
def sweepB (p:Prog) (i:Nat) (b:Block):Block:=(b.1,swL p i b b.2.1 0,b.2.2)
def sweepP (p:Prog):Prog:=p.mapIdx (sweepB p)
theorem sweepP_len (p:Prog):(sweepP p).length=p.length:=List.length_mapIdx
theorem sweepP_get {p:Prog} {i:Nat} {b:Block} (h:p[i]?=some b):(sweepP p)[i]?=some (sweepB p i b):=by rw[sweepP,List.getElem?_mapIdx,h];rfl
theorem sweepP_mem {p:Prog} {b':Block} (h:b'∈sweepP p):∃i b,p[i]?=some b∧b'=sweepB p i b:=by
 obtain⟨i,hi⟩:=List.getElem?_of_mem h;have hlt:=(List.getElem?_eq_some_iff.1 hi).1;rw[sweepP_len]at hlt;have hb:=List.getElem?_eq_getElem hlt;rw[sweepP_get hb]at hi;exact⟨i,p[i],hb,(Option.some.inj hi).symm⟩
theorem swL_sub (p:Prog) (i:Nat) (b:Block):∀(l:List Stmt) (k:Nat),∀s∈swL p i b l k,s∈l
 | [],_,s,h=>by cases h
 | x::r,k,s,h=>by
  rw[swL]at h;split at h
  ·exact List.mem_cons_of_mem _ (swL_sub p i b r (k+1) s h)
  ·rcases List.mem_cons.1 h with rfl | h
   ·exact List.mem_cons_self
   ·exact List.mem_cons_of_mem _ (swL_sub p i b r (k+1) s h)
theorem swL_len (p:Prog) (i:Nat) (b:Block):∀(l:List Stmt) (k:Nat),(swL p i b l k).length≤l.length
 | [],_=>Nat.le_refl _
 | x::r,k=>by
  have ih:=swL_len p i b r (k+1);rw[swL];split
  ·rw[List.length_cons];omega
  ·rw[List.length_cons,List.length_cons];omega
theorem swL_take (p:Prog) (i:Nat) (b:Block):∀(l:List Stmt) (k j:Nat) (s:Stmt),l[j]?=some s→swL p i b (l.take (j+1)) k=swL p i b (l.take j) k++if idB p i (k+j) b s=true then [] else [s]
 | [],_,_,_,h=>by simp at h
 | x::r,k,0,s,h=>by
  rw[List.getElem?_cons_zero]at h;cases h
  rw[List.take_succ_cons,List.take_zero,List.take_zero,swL,swL,Nat.add_zero];rfl
 | x::r,k,j+1,s,h=>by
  rw[List.getElem?_cons_succ]at h;have ih:=swL_take p i b r (k+1) j s h;rw[show k+1+j=k+(j+1) by omega]at ih;rw[List.take_succ_cons,swL,ih,List.take_succ_cons,swL];split
  ·rfl
  ·rfl
theorem swL_full (p:Prog) (i:Nat) (b:Block):∀(l:List Stmt) (k:Nat),(swL p i b l k).length=l.length→swL p i b l k=l∧∀(j:Nat) (s:Stmt),l[j]?=some s→idB p i (k+j) b s=false
 | [],_,_=>⟨rfl,fun j s h=>by simp at h⟩
 | x::r,k,h=>by
  have hl:=swL_len p i b r (k+1);rw[swL]at h ⊢;split at h
  ·rw[List.length_cons]at h;omega
  ·rename_i hn;rw[List.length_cons,List.length_cons]at h;have ih:=swL_full p i b r (k+1) (by omega);rw[if_neg hn,ih.1];refine⟨rfl,fun j s hs=>?_⟩
   cases j with
   | zero =>
    rw[List.getElem?_cons_zero]at hs;cases hs;rw[Nat.add_zero]
    simpa using hn
   | succ j =>
    rw[List.getElem?_cons_succ]at hs;have:=ih.2 j s hs;rwa[show k+1+j=k+(j+1) by omega]at this
theorem stmts_mapIdx:∀(l:Prog) (f:Nat→Block→Block),(∀i b,l[i]?=some b→(f i b).2.1.length≤b.2.1.length∧((f i b).2.1.length=b.2.1.length→f i b=b))→stmtsN (l.mapIdx f)≤stmtsN l∧(stmtsN (l.mapIdx f)=stmtsN l→l.mapIdx f=l)
 | [],f,_=>⟨Nat.le_refl _,fun _=>rfl⟩
 | b::r,f,h=>by
  have h0:=h 0 b rfl
  have ih:=stmts_mapIdx r (fun i=>f (i+1)) fun i b hb=>h (i+1) b hb
  have e1:∀(c:Block) (l:Prog),stmtsN (c::l)=c.2.1.length+stmtsN l:=fun c l=>by simp [stmtsN]
  rw[List.mapIdx_cons,e1,e1];refine⟨by omega,fun hh=>?_⟩;rw[h0.2 (by omega),ih.2 (by omega)]
theorem sweepB_len (p:Prog) (i:Nat) (b:Block):(sweepB p i b).2.1.length≤b.2.1.length:=swL_len p i b b.2.1 0
theorem sweepB_full {p:Prog} {i:Nat} {b:Block} (h:(sweepB p i b).2.1.length=b.2.1.length):sweepB p i b=b:=by
 have:=(swL_full p i b b.2.1 0 h).1;rw[sweepB,this]
theorem sweepP_stmts (p:Prog):stmtsN (sweepP p)≤stmtsN p∧(stmtsN (sweepP p)=stmtsN p→sweepP p=p) :=
 stmts_mapIdx p (sweepB p) fun i b _=>⟨sweepB_len p i b,sweepB_full⟩
theorem sweepP_names (p:Prog):nms (sweepP p)=nms p:=by
 apply List.ext_getElem?;intro i;rw[List.getElem?_map,List.getElem?_map]
 cases h:p[i]? with
 | none =>
  rw[List.getElem?_eq_none (by rw[sweepP_len];exact List.getElem?_eq_none_iff.1 h)]
 | some b=>rw[sweepP_get h,Option.map_some,Option.map_some];rfl
theorem vars_sweep {p:Prog}:∀t∈varsOf (sweepP p),t∈varsOf p:=by
 intro t ht
 have h0:t≠[]:=fun e=>by
  have:=vIdx_mem ht;rw[e]at this;have:=vIdx_nil (sweepP p);omega
 rcases vars_mem (sweepP p) ht with h | ⟨b',hb',h⟩
 ·cases h
 ·obtain⟨i,b,hb,rfl⟩:=sweepP_mem hb';have hm:=List.mem_of_getElem? hb;have hv:=(vars_has p nil_sorted).1 b hm
  rcases h with h | ⟨x',hx',h⟩
  ·rw[h]at h0 ⊢;exact hv.2 h0
  ·exact hv.1 x' (swL_sub p i b _ _ x' hx') t h h0
theorem sweep_check {p:Prog} (h:checkE p=0):checkE (sweepP p)=0:=by
 have hf:=check_facts h;have h5:=stmts_512' h
 have hb:∀b'∈sweepP p,blockB b'=true:=fun b' hb'=>by
  obtain⟨i,b,hb,rfl⟩:=sweepP_mem hb';have hm:=List.mem_of_getElem? hb;have h1:=hf.2.2.2 b hm;have h2:=block_stmts h1;rw[blockB,Bool.and_eq_true,Bool.and_eq_true]at h1;rw[blockB,Bool.and_eq_true,Bool.and_eq_true];exact⟨⟨h1.1.1,h1.1.2⟩,List.all_eq_true.2 fun x' hx'=>h2 x' (swL_sub p i b _ _ x' hx')⟩
 have hn:bnames (sweepP p)=bnames p:=sweepP_names p
 have hg:∀b'∈sweepP p,∀t∈goes b'.2.2,t∈bnames (sweepP p):=fun b' hb' t ht=>by
  obtain⟨i,b,hb,rfl⟩:=sweepP_mem hb';rw[hn];exact check_goes h (List.mem_of_getElem? hb) ht
 have hd:(bnames p).Nodup:=check_nodup h;have hv:(varsOf (sweepP p)).length≤(varsOf p).length:=List.Nodup.length_le_of_subset (vars_nodup _) (fun t ht=>vars_sweep t ht);have hs:=(sweepP_stmts p).1;unfold checkE;rw[if_neg (by rw[sweepP_len];omega),if_pos (List.all_eq_true.2 hb),if_neg (by omega),if_pos (by rw[hn];exact hd),if_pos (List.all_eq_true.2 fun b hb=>List.all_eq_true.2 fun t ht=>decide_eq_true (hg b hb t ht))]
theorem ask_first {v:Bs8} {T:Term} (hv:v≠[]) (hT:T.1≠2→T.2.1.1.l=[]):∀l,askS v T.2.1.1.l l=(decide (firstS v T l=1),decide (firstS v T l≠0))
 | []=>by
  rw[askS,firstS]
  by_cases h:T.2.1.1.l=v
  ·have h2:T.1=2:=by
    by_cases h2:T.1=2
    ·exact h2
    ·exact absurd (h.symm.trans (hT h2)) hv
   rw[if_pos ⟨h2,h⟩,decide_eq_true h];rfl
  ·rw[if_neg (fun hh=>h hh.2),decide_eq_false h];rfl
 | s::r=>by
  rw[askS,firstS]
  by_cases h1:v∈usesS s
  ·rw[if_pos h1,if_pos h1];rfl
  ·rw[if_neg h1,if_neg h1]
   by_cases h2:s.1≠3∧s.2.1.l=v
   ·rw[if_pos h2,if_pos h2];rfl
   ·rw[if_neg h2,if_neg h2];exact ask_first hv hT r
theorem idB_first {p:Prog} (he:checkE p=0) {i k:Nat} {b:Block} {s:Stmt} (hb:p[i]?=some b) (hs:b.2.1[k]?=some s):idB p i k b s=(decide (s.1=1)&&(decide (firstS s.2.1.l b.2.2 (b.2.1.drop (k+1))=2)||(decide (firstS s.2.1.l b.2.2 (b.2.1.drop (k+1))=0)&&!decide (s.2.1.l∈((liveO p)[i]?.getD []))))):=by
 have hm:=List.mem_of_getElem? hb;have hst:=block_stmts ((check_facts he).2.2.2 b hm) s (List.mem_of_getElem? hs)
 by_cases h1:s.1=1
 ·have hv:s.2.1.l≠[]:=by
   rcases stmtB_var hst with ⟨_,_,_,h⟩ | ⟨h,_⟩ | ⟨h,_⟩
   ·exact h
   ·omega
   ·omega
  rw[idB,ask_first hv (term_nil he hm)]
  have hr:∀(l:List Stmt),firstS s.2.1.l b.2.2 l=0∨firstS s.2.1.l b.2.2 l=1∨firstS s.2.1.l b.2.2 l=2:=fun l=>by
   induction l with
   | nil =>
    rw[firstS];split
    ·exact .inr (.inl rfl)
    ·exact .inl rfl
   | cons x r ih =>
    rw[firstS];split
    ·exact .inr (.inl rfl)
    ·split
     ·exact .inr (.inr rfl)
     ·exact ih
  rcases hr (b.2.1.drop (k+1)) with h | h | h<;>rw[h]<;>simp
 ·rw[idB,decide_eq_false h1];rfl
end Go.Proofs
end
section
namespace Go.Proofs
open Go.Sy
set_option maxRecDepth 20000
set_option maxHeartbeats 4000000
def valN (p:Prog) (e:List Nm) (v:Bs8):Nm:=if 0≤vIdx p v then e[(vIdx p v).toNat]?.getD (0,0) else (0,0)
theorem valA_var {p:Prog} {e:List Nm} {a:Atm} (h:a.1.l≠[]):valA p e a=valN p e a.1.l:=by rw[valA,if_neg h];rfl
theorem vIdx_not {p:Prog} {v:Bs8} (h:¬v∈varsOf p):¬0≤vIdx p v:=fun h2=>h (idxS_some (Int.le_refl 0) h2)
theorem valN_set {p:Prog} {e:List Nm} {t v:Bs8} (he:e.length=(varsOf p).length) (ht:t∈varsOf p) (n:Nm):valN p (setAt p e t n) v=if t=v then n else valN p e v:=by
 by_cases hv:v∈varsOf p
 ·have h1:=vIdx_mem ht;have h2:=vIdx_mem hv;rw[valN,valN,if_pos h2.1,if_pos h2.1,setAt,List.getElem?_set]
  by_cases h:t=v
  ·subst h
   rw[if_pos rfl,if_pos rfl,if_pos (by omega)];rfl
  ·rw[if_neg h,if_neg (fun e2=>h (vIdx_inj ht hv (by omega)))]
 ·rw[valN,valN,if_neg (vIdx_not hv),if_neg (vIdx_not hv),if_neg (fun e2:t=v=>hv (e2▸ht))]
def eqE (p q:Prog) (P:Bs8→Prop) (e1 e2:List Nm):Prop:=e1.length=(varsOf p).length∧e2.length=(varsOf q).length∧∀v,v∈varsOf p→P v→valN p e1 v=valN q e2 v
def lvV (p:Prog) (t:Term) (O:Nat→Prop) (l:List Stmt) (v:Bs8):Prop:=liveP t O l (vIdx p v).toNat v
theorem eqE_val {p q:Prog} {P:Bs8→Prop} {e1 e2:List Nm} (h:eqE p q P e1 e2) {a:Atm} (hm:a.1.l≠[]→a.1.l∈varsOf p∧P a.1.l):valA p e1 a=valA q e2 a:=by
 by_cases h0:a.1.l=[]
 ·rw[valA,valA,if_pos h0,if_pos h0]
 ·rw[valA_var h0,valA_var h0];exact h.2.2 _ (hm h0).1 (hm h0).2
theorem set_both {p q:Prog} {t:Term} {O:Nat→Prop} {x:Stmt} {r:List Stmt} {e1 e2:List Nm} (h:eqE p q (lvV p t O (x::r)) e1 e2) (hp:x.2.1.l∈varsOf p) (hq:x.2.1.l∈varsOf q) (n:Nm):
  eqE p q (lvV p t O r) (setAt p e1 x.2.1.l n) (setAt q e2 x.2.1.l n):=by
 refine⟨by rw[setAt,List.length_set];exact h.1,by rw[setAt,List.length_set];exact h.2.1,fun v hv hl=>?_⟩;rw[valN_set h.1 hp,valN_set h.2.1 hq]
 by_cases e:x.2.1.l=v
 ·rw[if_pos e,if_pos e]
 ·rw[if_neg e,if_neg e];exact h.2.2 v hv (liveP_step hl (fun _=>e))
theorem sw_do {p q:Prog} {inn:List Nm} {t:Term} {O:Nat→Prop} {x:Stmt} {r:List Stmt} (hx:stmtB x=true) (hp:∀u∈sVars x,u≠[]→u∈varsOf p) (hq:∀u∈sVars x,u≠[]→u∈varsOf q) {s1 s2:StE}
  (h:eqE p q (lvV p t O (x::r)) s1.2.1 s2.2.1) (h1:s1.1=s2.1) (h2:s1.2.2=s2.2.2):
  eqE p q (lvV p t O r) (doS p inn s1 x).2.1 (doS q inn s2 x).2.1∧(doS p inn s1 x).1=(doS q inn s2 x).1∧(doS p inn s1 x).2.2=(doS q inn s2 x).2.2:=by
 rcases stmtB_var hx with ⟨hk,_,_,hv⟩ | ⟨hk,hv⟩ | ⟨hk,_⟩
 ·have hu:=uses_atom hx hk
  have ea:valA p s1.2.1 x.2.2.2.1=valA q s2.2.1 x.2.2.2.1:=eqE_val h fun h0=>⟨hp _ (by simp) h0,liveP_use (hu.1 h0)⟩
  have eb:valA p s1.2.1 x.2.2.2.2=valA q s2.2.1 x.2.2.2.2:=eqE_val h fun h0=>⟨hp _ (by simp) h0,liveP_use (hu.2 h0)⟩
  rw[doS,doS,if_pos hk,if_pos hk,ea,eb];exact⟨set_both h (hp _ (by simp) hv) (hq _ (by simp) hv) _,h1,h2⟩
 ·rw[doS,doS,if_neg (by omega),if_pos hk,if_neg (by omega),if_pos hk,h2];exact⟨set_both h (hp _ (by simp) hv) (hq _ (by simp) hv) _,h1,rfl⟩
 ·have ea:valA p s1.2.1 x.2.2.2.1=valA q s2.2.1 x.2.2.2.1:=eqE_val h fun h0=>⟨hp _ (by simp) h0,liveP_use (uses_out hk h0)⟩
  rw[doS,doS,if_neg (by omega),if_neg (by omega),if_pos hk,if_neg (by omega),if_neg (by omega),if_pos hk,h2,ea];exact⟨⟨h.1,h.2.1,fun v hv hl=>h.2.2 v hv (liveP_step hl (fun h3=>absurd hk h3))⟩,h1,rfl⟩
theorem sw_skip {p q:Prog} {inn:List Nm} {t:Term} {O:Nat→Prop} {x:Stmt} {r:List Stmt} (hk:x.1=1) (hv:x.2.1.l∈varsOf p) (hl:¬lvV p t O r x.2.1.l) {s1 s2:StE}
  (h:eqE p q (lvV p t O (x::r)) s1.2.1 s2.2.1) (h1:s1.1=s2.1) (h2:s1.2.2=s2.2.2):
  eqE p q (lvV p t O r) (doS p inn s1 x).2.1 s2.2.1∧(doS p inn s1 x).1=s2.1∧(doS p inn s1 x).2.2=s2.2.2:=by
 rw[doS,if_pos hk];refine⟨⟨by dsimp only;rw[setAt,List.length_set];exact h.1,h.2.1,fun v hv2 hl2=>?_⟩,h1,h2⟩
 have e:¬x.2.1.l=v:=fun e=>hl (by rw[e];exact hl2)
 dsimp only;rw[valN_set h.1 hv,if_neg e];exact h.2.2 v hv2 (liveP_step hl2 (fun _=>e))
theorem sw_all {p q:Prog} {inn:List Nm} {i:Nat} {b:Block} {O:Nat→Prop} (hid:∀k s,b.2.1[k]?=some s→idB p i k b s=true→s.1=1∧s.2.1.l∈varsOf p∧¬lvV p b.2.2 O (b.2.1.drop (k+1)) s.2.1.l):
  ∀(l:List Stmt) (k:Nat) {s1 s2:StE},b.2.1.drop k=l→(∀x∈l,stmtB x=true∧∀u∈sVars x,u≠[]→u∈varsOf p)→(∀x∈swL p i b l k,∀u∈sVars x,u≠[]→u∈varsOf q) →
   eqE p q (lvV p b.2.2 O l) s1.2.1 s2.2.1→s1.1=s2.1→s1.2.2=s2.2.2 →
   eqE p q (lvV p b.2.2 O []) (doAll p inn s1 l).2.1 (doAll q inn s2 (swL p i b l k)).2.1∧(doAll p inn s1 l).1=(doAll q inn s2 (swL p i b l k)).1∧(doAll p inn s1 l).2.2=(doAll q inn s2 (swL p i b l k)).2.2
 | [],k,s1,s2,hd,hl,hq,h,h1,h2=>⟨h,h1,h2⟩
 | x::r,k,s1,s2,hd,hl,hq,h,h1,h2=>by
  have hx:b.2.1[k]?=some x:=by
   have h9:=congrArg (fun l=>l[0]?) hd
   simpa [List.getElem?_drop] using h9
  have hr:b.2.1.drop (k+1)=r:=by
   have h9:=congrArg List.tail hd;rw[List.tail_drop]at h9;exact h9
  have hxs:=hl x List.mem_cons_self;have e1:doAll p inn s1 (x::r)=doAll p inn (doS p inn s1 x) r:=rfl;rw[e1]
  by_cases hi:idB p i k b x=true
  ·obtain⟨h3,h5,h4⟩:=hid k x hx hi;rw[hr]at h4
   have hq':swL p i b (x::r) k=swL p i b r (k+1):=by rw[swL,if_pos hi]
   rw[hq']at hq ⊢;have hd2:=sw_skip (inn:=inn) h3 h5 h4 h h1 h2;exact sw_all hid r (k+1) hr (fun y hy=>hl y (List.mem_cons_of_mem _ hy)) hq hd2.1 hd2.2.1 hd2.2.2
  ·have hq':swL p i b (x::r) k=x::swL p i b r (k+1):=by rw[swL,if_neg hi]
   rw[hq']at hq ⊢;have e2:doAll q inn s2 (x::swL p i b r (k+1))=doAll q inn (doS q inn s2 x) (swL p i b r (k+1)):=rfl;rw[e2];have hd2:=sw_do (inn:=inn) hxs.1 hxs.2 (hq x List.mem_cons_self) h h1 h2;exact sw_all hid r (k+1) hr (fun y hy=>hl y (List.mem_cons_of_mem _ hy)) (fun y hy=>hq y (List.mem_cons_of_mem _ hy)) hd2.1 hd2.2.1 hd2.2.2
theorem idle_dead {p:Prog} (he:checkE p=0) {i k:Nat} {b:Block} {s:Stmt} (hb:p[i]?=some b) (hs:b.2.1[k]?=some s) (hid:idB p i k b s=true):
  s.1=1∧s.2.1.l∈varsOf p∧¬lvV p b.2.2 (fun m=>bitAt (Bt.aAt (lvA p) i) m=true) (b.2.1.drop (k+1)) s.2.1.l:=by
 have hm:=List.mem_of_getElem? hb;have hlt:=(List.getElem?_eq_some_iff.1 hb).1;have hsm:=List.mem_of_getElem? hs;have hst:=block_stmts ((check_facts he).2.2.2 b hm) s hsm;rw[idB_first he hb hs,Bool.and_eq_true]at hid;obtain⟨h1,h2⟩:=hid;have h1:=dt h1
 have hv:s.2.1.l≠[]:=by
  rcases stmtB_var hst with ⟨_,_,_,h⟩ | ⟨h,_⟩ | ⟨h,_⟩
  ·exact h
  ·omega
  ·omega
 have hin:s.2.1.l∈varsOf p:=((vars_has p nil_sorted).1 b hm).1 s hsm _ (by simp) hv;refine⟨h1,hin,fun hl=>?_⟩;rw[Bool.or_eq_true,Bool.and_eq_true]at h2
 rcases h2 with h2 | ⟨h2,h3⟩
 ·have h2:=dt h2
  rcases hl with hl | ⟨hl,_⟩<;>omega
 ·have h2:=dt h2
  rcases hl with hl | ⟨_,hl⟩
  ·omega
  ·have hA:(lvA p)[i]?=some (Bt.aAt (lvA p) i):=Bt.aAt_get (Bt.solveS_ok (lsysOf_ok he)) hlt
   have hO:(liveO p)[i]?=some (namesB (varsOf p) (Bt.aAt (lvA p) i)):=by
    show ((lvA p).map (namesB (varsOf p)))[i]?=_
    rw[List.getElem?_map,hA];rfl
   rw[hO,Option.getD_some]at h3
   have h4:s.2.1.l∈namesB (varsOf p) (Bt.aAt (lvA p) i):=by
    obtain⟨j,e1,e2,e3⟩:=vIdx_get hin;rw[e1,Int.toNat_natCast]at hl;show s.2.1.l∈nmsAt (varsOf p) (numB (Bt.aAt (lvA p) i));refine List.mem_map.2 ⟨(j:Int),(allL_has _ 0 j).2 ⟨by omega,by simpa using hl⟩,?_⟩
    rw[Int.toNat_natCast,e3];rfl
   rw[decide_eq_true h4]at h3;cases h3
structure SRel (p q:Prog) (s1 s2:StE):Prop where
 b:s1.1=s2.1
 r:0≤s1.1∧s1.1<(p.length:Nat)
 o:s1.2.2=s2.2.2
 e:eqE p q (fun v=>bitAt (Bt.bApp (Bt.tAt (lsysOf p) s1.1.toNat) (Bt.aAt (lvA p) s1.1.toNat)) (vIdx p v).toNat=true) s1.2.1 s2.2.1
theorem srel_step {p:Prog} (he:checkE p=0) {inn:List Nm} {s1 s2:StE} (h:SRel p (sweepP p) s1 s2):
  (folS p (runB p inn s1)).2=(folS (sweepP p) (runB (sweepP p) inn s2)).2∧(folS p (runB p inn s1)).1.2.2=(folS (sweepP p) (runB (sweepP p) inn s2)).1.2.2∧((folS p (runB p inn s1)).2=true→SRel p (sweepP p) (folS p (runB p inn s1)).1 (folS (sweepP p) (runB (sweepP p) inn s2)).1):=by
 have hlt:s1.1.toNat<p.length:=by have:=h.r;omega
 have hb:p[s1.1.toNat]?=some p[s1.1.toNat]:=List.getElem?_eq_getElem hlt;generalize p[s1.1.toNat]=b at hb;have hm:=List.mem_of_getElem? hb;have hq:=sweepP_get hb;have hqm:=List.mem_of_getElem? hq;have hst:=block_stmts ((check_facts he).2.2.2 b hm);have hx:okB (varsOf p).length (Bt.aAt (lvA p) s1.1.toNat):=Bt.aAt_ok (Bt.solveS_ok (lsysOf_ok he)) hlt;have hN:blkN p s1.1=b:=blkN_get hb
 have hN2:blkN (sweepP p) s2.1=sweepB p s1.1.toNat b:=by rw[←h.b];exact blkN_get hq
 have hA:eqE p (sweepP p) (lvV p b.2.2 (fun m=>bitAt (Bt.aAt (lvA p) s1.1.toNat) m=true) b.2.1) s1.2.1 s2.2.1:=⟨h.e.1,h.e.2.1,fun v hv hl=>h.e.2.2 v hv (by
  obtain⟨j,e1,e2,e3⟩:=vIdx_get hv;have hl:liveP b.2.2 (fun m=>bitAt (Bt.aAt (lvA p) s1.1.toNat) m=true) b.2.1 (vIdx p v).toNat v:=hl;rw[e1,Int.toNat_natCast]at hl;have:=live_bits (vars_sorted p nil_sortedS) (vars_some2 p) (term_nil he hm) hx e3 hl;rw[lsys_tAt hb,e1,Int.toNat_natCast]
  exact this)⟩
 obtain⟨hE,hB,hO⟩:=sw_all (inn:=inn) (fun k s hs hi=>idle_dead he hb hs hi) b.2.1 0 rfl (fun x hx2=>⟨hst x hx2,fun u hu h0=>((vars_has p nil_sorted).1 b hm).1 x hx2 u hu h0⟩)
  (fun x hx2 u hu h0=>((vars_has (sweepP p) nil_sorted).1 _ hqm).1 x hx2 u hu h0) hA h.b h.o
 have hr1:runB p inn s1=doAll p inn s1 b.2.1:=by rw[runB,hN]
 have hr2:runB (sweepP p) inn s2=doAll (sweepP p) inn s2 (swL p s1.1.toNat b b.2.1 0):=by rw[runB,hN2];rfl
 rw[hr1,hr2];have hb1:=(doAll_blk p inn b.2.1 s1).1;have hb2:=(doAll_blk (sweepP p) inn (swL p s1.1.toNat b b.2.1 0) s2).1;generalize doAll p inn s1 b.2.1=z1 at hE hB hO hb1;generalize doAll (sweepP p) inn s2 (swL p s1.1.toNat b b.2.1 0)=z2 at hE hB hO hb2
 have hM1:blkN p z1.1=b:=by rw[hb1];exact hN
 have hM2:blkN (sweepP p) z2.1=sweepB p s1.1.toNat b:=by rw[hb2];exact hN2
 have hT:(sweepB p s1.1.toNat b).2.2=b.2.2:=rfl;unfold folS;rw[hM1,hM2,hT]
 by_cases h3:b.2.2.1=3
 ·rw[if_pos h3,if_pos h3];exact⟨rfl,hO,fun h=>by cases h⟩
 ·rw[if_neg h3,if_neg h3]
  have hg:goTo p z1 b.2.2=goTo (sweepP p) z2 b.2.2:=by
   unfold goTo
   by_cases h2:b.2.2.1=2
   ·have ev:valA p z1.2.1 b.2.2.2.1=valA (sweepP p) z2.2.1 b.2.2.2.1:=eqE_val hE fun h0=>⟨((vars_has p nil_sorted).1 b hm).2 h0,.inl (by unfold firstS;rw[if_pos ⟨h2,rfl⟩])⟩
    rw[ev]
   ·rw[if_neg (fun h=>h2 h.1),if_neg (fun h=>h2 h.1)]
  refine⟨rfl,hO,fun _=>⟨by show bIdx p _=bIdx (sweepP p) _;rw[hg,bIdx,bIdx,sweepP_names],bIdx_range p _ (by omega),hO,?_⟩⟩;have hed:=fol_edge he h.r.1 hb (s:=z1) h3;refine⟨hE.1,hE.2.1,fun v hv hl=>hE.2.2 v hv ?_⟩;have hbit:=lsys_le he hed hl;show liveP _ _ _ _ _
  by_cases h5:firstS v b.2.2 []=1
  ·exact .inl h5
  ·refine .inr ⟨?_,hbit⟩;unfold firstS at h5 ⊢;split
   ·rename_i h6;exact absurd (if_pos h6) h5
   ·rfl
abbrev seen (s:StE):Int×Int×List Nm:=(s.1,s.2.2)
theorem srel_it {p:Prog} (he:checkE p=0) {inn:List Nm} {s1 s2:StE} (h:SRel p (sweepP p) s1 s2):∀k,(itS p inn s1 k).1.map seen=(itS (sweepP p) inn s2 k).1.map seen∧(itS p inn s1 k).2.2=(itS (sweepP p) inn s2 k).2.2∧(itS p inn s1 k).2.1.2.2=(itS (sweepP p) inn s2 k).2.1.2.2 ∧
  ((itS p inn s1 k).2.2=true→SRel p (sweepP p) (itS p inn s1 k).2.1 (itS (sweepP p) inn s2 k).2.1)
 | 0=>⟨rfl,rfl,h.o,fun _=>h⟩
 | k+1=>by
  have hi:=srel_it he (inn:=inn) h k
  by_cases h1:(itS p inn s1 k).2.2=true
  ·have h2:(itS (sweepP p) inn s2 k).2.2=true:=hi.2.1▸h1;have hrel:=hi.2.2.2 h1;have hs:=srel_step he (inn:=inn) hrel;rw[itS_step h1,itS_step h2];refine⟨?_,hs.1,hs.2.1,hs.2.2⟩;have e1:seen (itS p inn s1 k).2.1=seen (itS (sweepP p) inn s2 k).2.1:=Prod.ext hrel.b hrel.o;simp only[List.map_append,List.map_cons,List.map_nil];rw[hi.1,e1]
  ·have h1:(itS p inn s1 k).2.2=false:=by simpa using h1
   have h2:(itS (sweepP p) inn s2 k).2.2=false:=hi.2.1▸h1;rw[itS_stop h1,itS_stop h2];exact hi
theorem valN_zero (p:Prog) (n:Nat) (v:Bs8):valN p (List.replicate n (0,0)) v=(0,0):=by
 rw[valN];split
 ·rw[List.getElem?_replicate]
  split<;>rfl
 ·rfl
theorem srel_start {p:Prog} (he:checkE p=0):SRel p (sweepP p) (start0 p) (start0 (sweepP p)):=by
 have h1:=(check_facts he).1;refine⟨rfl,⟨Int.le_refl 0,by show (0:Int)<_;omega⟩,rfl,?_,?_,fun v _ _=>?_⟩
 ·show (List.replicate _ _).length=_;rw[List.length_replicate]
 ·show (List.replicate _ _).length=_;rw[List.length_replicate]
 ·show valN p (List.replicate _ _) v=valN _ (List.replicate _ _) v;rw[valN_zero,valN_zero]
def Alike2 (p q:Prog):Prop:=∀(inn:List Nm) (k:Nat),(itS p inn (start0 p) k).1.map seen=(itS q inn (start0 q) k).1.map seen∧(itS p inn (start0 p) k).2.2=(itS q inn (start0 q) k).2.2∧(itS p inn (start0 p) k).2.1.2.2=(itS q inn (start0 q) k).2.1.2.2
theorem sweep_alike {p:Prog} (he:checkE p=0):Alike2 p (sweepP p):=fun inn k=>by
 have h:=srel_it he (inn:=inn) (srel_start he) k;exact⟨h.1,h.2.1,h.2.2.1⟩
def wholeN:Nat→Prog→Prog×Nat
 | 0,p=>(p,0)
 | k+1,p=>if sweepP p=p then (p,0) else ((wholeN k (sweepP p)).1,(wholeN k (sweepP p)).2+1)
def wholeS (p:Prog):Prog×Nat:=wholeN (stmtsN p) p
theorem sweep_less {p:Prog} (h:sweepP p≠p):stmtsN (sweepP p)<stmtsN p:=by
 have:=sweepP_stmts p
 by_cases e:stmtsN (sweepP p)=stmtsN p
 ·exact absurd (this.2 e) h
 ·omega
theorem wholeN_more:∀(k:Nat) (p:Prog),stmtsN p≤k→wholeN k p=wholeS p:=by
 have h:∀(k j:Nat) (p:Prog),stmtsN p≤k→stmtsN p≤j→wholeN k p=wholeN j p:=by
  intro k
  induction k with
  | zero =>
   intro j p h1 h2
   have e:sweepP p=p:=by
    by_cases e:sweepP p=p
    ·exact e
    ·have:=sweep_less e;omega
   cases j with
   | zero=>rfl
   | succ j=>rw[wholeN,wholeN,if_pos e]
  | succ k ih =>
   intro j p h1 h2
   by_cases e:sweepP p=p
   ·cases j with
    | zero=>rw[wholeN,wholeN,if_pos e]
    | succ j=>rw[wholeN,wholeN,if_pos e,if_pos e]
   ·have hl:=sweep_less e
    cases j with
    | zero=>omega
    | succ j=>rw[wholeN,wholeN,if_neg e,if_neg e,ih j (sweepP p) (by omega) (by omega)]
 exact fun k p hk=>h k (stmtsN p) p hk (Nat.le_refl _)
theorem wholeS_stop {p:Prog} (h:sweepP p=p):wholeS p=(p,0):=by
 rw[←wholeN_more (stmtsN p+1) p (by omega),wholeN,if_pos h]
theorem wholeS_step {p:Prog} (h:sweepP p≠p):wholeS p=((wholeS (sweepP p)).1,(wholeS (sweepP p)).2+1):=by
 have hl:=sweep_less h;rw[←wholeN_more (stmtsN p+1) p (by omega),wholeN,if_neg h,wholeN_more (stmtsN p) (sweepP p) (by omega)]
theorem wholeS_ind (P:Prog→Prop) (hs:∀p,P p→P (sweepP p)):∀(n:Nat) (p:Prog),stmtsN p≤n→P p→P (wholeS p).1∧sweepP (wholeS p).1=(wholeS p).1:=by
 intro n
 induction n with
 | zero =>
  intro p hn hp
  have e:sweepP p=p:=by
   by_cases e:sweepP p=p
   ·exact e
   ·have:=sweep_less e;omega
  rw[wholeS_stop e];exact⟨hp,e⟩
 | succ n ih =>
  intro p hn hp
  by_cases e:sweepP p=p
  ·rw[wholeS_stop e];exact⟨hp,e⟩
  ·have hl:=sweep_less e;rw[wholeS_step e];exact ih (sweepP p) (by omega) (hs p hp)
theorem whole_facts {p:Prog} (he:checkE p=0):checkE (wholeS p).1=0∧Alike2 p (wholeS p).1∧(wholeS p).1.length=p.length∧stmtsN (wholeS p).1≤stmtsN p∧sweepP (wholeS p).1=(wholeS p).1:=by
 have h:=wholeS_ind (fun q=>checkE q=0∧Alike2 p q∧q.length=p.length∧stmtsN q≤stmtsN p) (fun q hq=>?_) (stmtsN p) p (Nat.le_refl _) ⟨he,fun _ _=>⟨rfl,rfl,rfl⟩,rfl,Nat.le_refl _⟩
 ·exact⟨h.1.1,h.1.2.1,h.1.2.2.1,h.1.2.2.2,h.2⟩
 ·refine⟨sweep_check hq.1,fun inn k=>?_,by rw[sweepP_len];exact hq.2.2.1,Nat.le_trans (sweepP_stmts q).1 hq.2.2.2⟩;have h1:=hq.2.1 inn k;have h2:=sweep_alike hq.1 inn k;exact⟨h1.1.trans h2.1,h1.2.1.trans h2.2.1,h1.2.2.trans h2.2.2⟩
end Go.Proofs
end
section
namespace Go.Proofs
open Go.Sy
set_option maxRecDepth 20000
set_option maxHeartbeats 4000000
def atW (a:Atm):Nat:=if a.1.l=[] then 0 else 1
def exW (x:Expr):Nat:=((atomsOf x).map atW).sum
def stW (s:Stmt):Nat:=if s.1=1 then exW s.2.2 else 0
def tmW (t:Term):Nat:=if t.1=2 then 1+atW t.2.1 else 0
def blW (b:Block):Nat:=(b.2.1.map stW).sum+tmW b.2.2
def wtP (p:Prog):Nat:=stmtsN p+2*p.length+(p.map blW).sum
theorem sub_sumS {l m:List Stmt} (h:l.Sublist m):(l.map stW).sum≤(m.map stW).sum:=by
 induction h with
 | slnil=>exact Nat.le_refl _
 | cons a _ ih=>rw[List.map_cons,List.sum_cons];omega
 | cons_cons a _ ih=>rw[List.map_cons,List.sum_cons,List.map_cons,List.sum_cons];omega
theorem swL_sublist (p:Prog) (i:Nat) (b:Block):∀(l:List Stmt) (k:Nat),(swL p i b l k).Sublist l
 | [],_=>List.Sublist.slnil
 | x::r,k=>by
  have ih:=swL_sublist p i b r (k+1);rw[swL];split
  ·exact List.Sublist.cons _ ih
  ·exact List.Sublist.cons_cons _ ih
theorem sum_mapIdx_le (g:Block→Nat):∀(l:Prog) (f:Nat→Block→Block),(∀i b,l[i]?=some b→g (f i b)≤g b)→((l.mapIdx f).map g).sum≤(l.map g).sum
 | [],_,_=>Nat.le_refl _
 | b::r,f,h=>by
  have h0:=h 0 b rfl
  have ih:=sum_mapIdx_le g r (fun i=>f (i+1)) fun i b hb=>h (i+1) b hb
  rw[List.mapIdx_cons,List.map_cons,List.sum_cons,List.map_cons,List.sum_cons];omega
theorem sweep_wt (p:Prog):wtP (sweepP p)≤wtP p:=by
 have h1:=(sweepP_stmts p).1;have h2:=sweepP_len p
 have h3:((sweepP p).map blW).sum≤(p.map blW).sum:=sum_mapIdx_le blW p (sweepB p) fun i b _=>by
  have:=sub_sumS (swL_sublist p i b b.2.1 0);have e1:blW (sweepB p i b)=((swL p i b b.2.1 0).map stW).sum+tmW b.2.2:=rfl;have e2:blW b=(b.2.1.map stW).sum+tmW b.2.2:=rfl;omega
 unfold wtP;omega
theorem whole_wt {p:Prog}:wtP (wholeS p).1≤wtP p:=by
 have h:=wholeS_ind (fun q=>wtP q≤wtP p) (fun q hq=>Nat.le_trans (sweep_wt q) hq) (stmtsN p) p (Nat.le_refl _) (Nat.le_refl _);exact h.1
theorem foldA_wt (p:Prog) (kn:Wd) (a:Atm):atW (foldA p kn a)≤atW a:=by
 by_cases h:a.1.l=[]
 ·rw[foldA_nil h];exact Nat.le_refl _
 ·have e:atW a=1:=if_neg h;rw[e];unfold atW
  split<;>omega
theorem nAtm_wt (n:Nm):atW (nAtm n)=0:=if_pos rfl
theorem exW_1 {x:Expr} (h:x.1=0∨x.1=4):exW x=atW x.2.1:=by
 have h1:op1 x.1=true:=by simpa [op1] using h
 rw[exW,atomsOf,if_pos h1];simp
theorem exW_2 {x:Expr} (h:x.1=1∨x.1=2∨x.1=3):exW x=atW x.2.1+atW x.2.2:=by
 have h1:¬op1 x.1=true:=by simp [op1];omega
 have h2:op2 x.1=true:=by simpa [op2,or_assoc] using h
 rw[exW,atomsOf,if_neg h1,if_pos h2];simp
theorem foldE_wt {p:Prog} {kn:Wd} {x:Expr} (hx:exprB x=true):exW (foldE p kn x)≤exW x:=by
 have ha:=foldA_wt p kn x.2.1;have hb:=foldA_wt p kn x.2.2
 rcases foldE_cases (p:=p) (kn:=kn) hx with ⟨ho,_,h⟩ | ⟨ho,h⟩
 ·rcases h with ⟨_,e⟩ | ⟨_,e⟩
  ·rw[e,exW_1 (.inl rfl)];dsimp only
   rw[nAtm_wt];exact Nat.zero_le _
  ·rw[e,exW_1 (x:=(x.1,foldA p kn x.2.1,za)) ho,exW_1 ho];exact ha
 ·rcases h with ⟨_,_,e⟩ | ⟨_,e⟩
  ·rw[e,exW_1 (.inl rfl)];dsimp only
   rw[nAtm_wt];exact Nat.zero_le _
  ·rw[e,exW_2 (x:=(x.1,foldA p kn x.2.1,foldA p kn x.2.2)) ho,exW_2 ho];dsimp only;omega
theorem foldS_wt {p:Prog} {kn:Wd} {x:Stmt} (hx:stmtB x=true):stW (foldS p kn x)≤stW x:=by
 by_cases h:x.1=1∨x.1=3
 ·have hf:foldS p kn x=(x.1,x.2.1,foldE p kn x.2.2):=by rw[foldS,if_pos h]
  have:=foldE_wt (p:=p) (kn:=kn) (stmtB_expr hx h);rw[hf];unfold stW;dsimp only;split
  ·exact this
  ·exact Nat.le_refl _
 ·rw[foldS,if_neg h];exact Nat.le_refl _
theorem sumS_mapIdx:∀(l:List Stmt) (f:Nat→Stmt→Stmt),(∀i s,l[i]?=some s→stW (f i s)≤stW s)→((l.mapIdx f).map stW).sum≤(l.map stW).sum
 | [],_,_=>Nat.le_refl _
 | s::r,f,h=>by
  have h0:=h 0 s rfl
  have ih:=sumS_mapIdx r (fun i=>f (i+1)) fun i b hb=>h (i+1) b hb
  rw[List.mapIdx_cons,List.map_cons,List.sum_cons,List.map_cons,List.sum_cons];omega
theorem fold_wt {p:Prog} (he:checkE p=0):wtP (foldP p)≤wtP p:=by
 have h1:=foldP_stmts p;have h2:=foldP_len p
 have h3:((foldP p).map blW).sum≤(p.map blW).sum:=sum_mapIdx_le blW p (foldB p) fun i b hb=>by
  have hst:=block_stmts ((check_facts he).2.2.2 b (List.mem_of_getElem? hb));unfold foldB;split
  ·exact Nat.le_refl _
  ·have h4:((foldL p i b).map stW).sum≤(b.2.1.map stW).sum:=sumS_mapIdx b.2.1 (fun k s=>foldS p (knownAt p i b k) s) fun k s hs=>foldS_wt (hst s (List.mem_of_getElem? hs))
   have h5:tmW (foldT p i b)≤tmW b.2.2:=by
    by_cases h6:b.2.2.1=2
    ·have e:foldT p i b=(b.2.2.1,foldA p (knownAt p i b b.2.1.length) b.2.2.2.1,b.2.2.2.2):=by rw[foldT,if_pos h6]
     have h7:=foldA_wt p (knownAt p i b b.2.1.length) b.2.2.2.1;rw[e];unfold tmW;dsimp only;rw[if_pos h6,if_pos h6];omega
    ·rw[foldT,if_neg h6];exact Nat.le_refl _
   show (List.map stW (foldL p i b)).sum+tmW (foldT p i b)≤blW b;unfold blW;omega
 unfold wtP;omega
theorem endT_wt (t:Term):tmW (endT t)≤tmW t:=by
 have h:∀(a:Atm) (x y:Str),tmW (1,a,x,y)=0:=fun a x y=>if_neg (show ¬(1:Int)=2 by decide)
 rw[endT];split
 ·split
  ·rw[h];exact Nat.zero_le _
  ·split
   ·rw[h];exact Nat.zero_le _
   ·exact Nat.le_refl _
 ·exact Nat.le_refl _
theorem ends_wt (p:Prog):wtP (endsP p)≤wtP p:=by
 have h1:=endsP_stmts p;have h2:=endsP_len p
 have h3:∀l:Prog,((l.map endB).map blW).sum≤(l.map blW).sum:=by
  intro l
  induction l with
  | nil=>exact Nat.le_refl _
  | cons b r ih =>
   have:=endT_wt b.2.2;rw[List.map_cons,List.map_cons,List.sum_cons,List.map_cons,List.sum_cons];have e:blW (endB b)=(b.2.1.map stW).sum+tmW (endT b.2.2):=rfl;have e2:blW b=(b.2.1.map stW).sum+tmW b.2.2:=rfl;omega
 have h4:=h3 p;have e:endsP p=p.map endB:=rfl;rw[←e]at h4;unfold wtP;omega
theorem sub_wt {l m:Prog} (h:l.Sublist m):wtP l≤wtP m:=by
 have h1:=sub_sum (fun b=>b.2.1.length) h;have h2:=sub_sum blW h;have h3:=h.length_le;unfold wtP stmtsN;omega
theorem kept_wt (p:Prog) (R:List Int):wtP (keepP (endsP p) R p.length)≤wtP p:=by
 have h:=keepP_sub (endsP p) R;rw[endsP_len]at h;exact Nat.le_trans (sub_wt h) (ends_wt p)
theorem join_wt {q:Prog} {a t:Nat} (hne:t≠a) (ht:t<q.length) (ha:a<q.length):wtP (joinP q a t)≤wtP q:=by
 have h1:=joinP_stmts hne ht ha;have h2:=joinP_len ht ha;have hx:=List.getElem?_eq_getElem ha;have hy:=List.getElem?_eq_getElem ht;generalize q[a]=x at hx;generalize q[t]=y at hy;have e:=joinP_eq hx hy;have h3:=sum_set blW (y:=catB x y) hx
 have hy2:(q.set a (catB x y))[t]?=some y:=by rw[List.getElem?_set_ne (fun h=>hne h.symm)];exact hy
 have h4:=sum_erase blW hy2
 have h5:blW (catB x y)≤blW x+blW y:=by
  show (List.map stW (x.2.1++y.2.1)).sum+tmW y.2.2≤_;rw[List.map_append,List.sum_append];unfold blW;omega
 unfold wtP;rw[e]at h1 h2 ⊢;omega
theorem mrg_wt {q m:Prog} (h:Mrg q m):wtP m≤wtP q:=by
 induction h with
 | stop _=>exact Nat.le_refl _
 | step hp _ ih =>
  obtain⟨h1,h2,h3⟩:=firstP_spec hp;exact Nat.le_trans ih (join_wt h1 h2 h3)
end Go.Proofs
end
section
namespace Go.Proofs
open Go.Sy
set_option maxRecDepth 20000
set_option maxHeartbeats 4000000
def PruR (p q:Prog):Prop:=∃R,StrictL R∧IsReach (p.length:Nat) (gSort (edgesOf (endsP p))) [0] R∧q=keepP (endsP p) R p.length
def MrgR (p m:Prog):Prop:=∃q,PruR p q∧Mrg q m
def OnceR (p m:Prog):Prop:=∃q,PruR (foldP p) q∧MrgR (wholeS q).1 m
structure Fit (p q:Prog):Prop where
 chk:checkE q=0
 len:q.length≤p.length
theorem Fit.trans {p q r:Prog} (h1:Fit p q) (h2:Fit q r):Fit p r:=⟨h2.chk,Nat.le_trans h2.len h1.len⟩
theorem fold_fit {p:Prog} (he:checkE p=0):Fit p (foldP p):=⟨fold_check he,Nat.le_of_eq (foldP_len p)⟩
theorem pru_fit {p q:Prog} (he:checkE p=0) (h:PruR p q):Fit p q∧Whole q:=by
 obtain⟨R,hS,hR,rfl⟩:=h;have hw:=kept_whole he hR;exact⟨⟨hw.chk,keepP_len _ _ _⟩,hw⟩
theorem whole_fit {p:Prog} (he:checkE p=0):Fit p (wholeS p).1:=by
 have h:=wholeS_ind (fun q=>checkE q=0∧q.length=p.length) (fun q hq=>⟨sweep_check hq.1,by rw[sweepP_len];exact hq.2⟩) (stmtsN p) p (Nat.le_refl _) ⟨he,rfl⟩;exact⟨h.1.1,Nat.le_of_eq h.1.2⟩
theorem mrg_whole {q m:Prog} (h:Mrg q m):Whole q→Whole m∧m.length≤q.length:=by
 induction h with
 | stop h=>exact fun hw=>⟨hw,Nat.le_refl _⟩
 | step h _ ih =>
  intro hw;obtain⟨x,y,P⟩:=pair_of h;obtain⟨h1,h3⟩:=ih (join_whole hw P);have hlen:=joinP_len (List.getElem?_eq_some_iff.1 P.hy).1 (List.getElem?_eq_some_iff.1 P.hx).1;exact⟨h1,by omega⟩
theorem mrg_fit {p m:Prog} (he:checkE p=0) (h:MrgR p m):Fit p m:=by
 obtain⟨q,hq,hm⟩:=h;obtain⟨h1,hw⟩:=pru_fit he hq;obtain⟨h2,h3⟩:=mrg_whole hm hw;exact h1.trans ⟨h2.chk,h3⟩
theorem once_fit {p m:Prog} (he:checkE p=0) (h:OnceR p m):Fit p m:=by
 obtain⟨q,hq,hm⟩:=h;have h1:=fold_fit he;have h2:=(pru_fit h1.chk hq).1;have h3:=whole_fit h2.chk;exact ((h1.trans h2).trans h3).trans (mrg_fit h3.chk hm)
structure Good2 (p q:Prog):Prop where
 chk:checkE q=0
 len:q.length≤p.length
 wt:wtP q≤wtP p
 ends:∀(inn:List Nm) (k:Nat) (o:List Nm),Ends p inn (start0 p) k o→∃k',k'≤k∧Ends q inn (start0 q) k' o
theorem Good2.refl {p:Prog} (he:checkE p=0):Good2 p p:=⟨he,Nat.le_refl _,Nat.le_refl _,fun _ k _ h=>⟨k,Nat.le_refl _,h⟩⟩
theorem Good2.trans {p q r:Prog} (h1:Good2 p q) (h2:Good2 q r):Good2 p r :=
 ⟨h2.chk,Nat.le_trans h2.len h1.len,Nat.le_trans h2.wt h1.wt,fun inn k o h=>by
  obtain⟨k1,hk1,e1⟩:=h1.ends inn k o h;obtain⟨k2,hk2,e2⟩:=h2.ends inn k1 o e1
  exact⟨k2,Nat.le_trans hk2 hk1,e2⟩⟩
theorem ends_like {p q:Prog} {inn:List Nm} (h:∀k,(itS p inn (start0 p) k).1.length=(itS q inn (start0 q) k).1.length∧(itS p inn (start0 p) k).2.2=(itS q inn (start0 q) k).2.2∧(itS p inn (start0 p) k).2.1.2.2.2=(itS q inn (start0 q) k).2.1.2.2.2)
  {k:Nat} {o:List Nm} (he:Ends p inn (start0 p) k o):∃k',k'≤k∧Ends q inn (start0 q) k' o:=by
 obtain⟨h1,h2,h3⟩:=ends_it he k (Nat.le_refl _);obtain⟨g1,g2,g3⟩:=h k;have:=it_ends (p:=q) (inn:=inn) k (start0 q) (by rw[←g2];exact h1);rw[←g1,←g3,h2,h3]at this;exact⟨k,Nat.le_refl _,this⟩
theorem fold_good {p:Prog} (he:checkE p=0):Good2 p (foldP p) :=
 ⟨fold_check he,Nat.le_of_eq (foldP_len p),fold_wt he,fun inn k o h=>ends_like (fun k=>by
  have:=fold_it he inn k;rw[this]
  exact⟨(List.length_map _).symm,rfl,rfl⟩) h⟩
theorem pru_good {p q:Prog} (he:checkE p=0) (h:PruR p q):Good2 p q∧Whole q:=by
 obtain⟨R,hS,hR,rfl⟩:=h;have hw:=kept_whole he hR;refine⟨⟨hw.chk,keepP_len _ _ _,kept_wt p R,fun inn k o h=>ends_like (fun k=>?_) h⟩,hw⟩;have:=kept_it (kept_prog he hR) inn k;exact⟨this.1,this.2.1,by rw[this.2.2]⟩
theorem whole_good {p:Prog} (he:checkE p=0):Good2 p (wholeS p).1:=by
 obtain⟨h1,h2,h3,_,_⟩:=whole_facts he;refine⟨h1,Nat.le_of_eq h3,whole_wt,fun inn k o h=>ends_like (fun k=>?_) h⟩;obtain⟨g1,g2,g3⟩:=h2 inn k;refine⟨?_,g2,by rw[g3]⟩;have:=congrArg List.length g1;rwa[List.length_map,List.length_map]at this
theorem mrg_good {p m:Prog} (he:checkE p=0) (h:MrgR p m):Good2 p m:=by
 obtain⟨q,hq,hm⟩:=h;obtain⟨h1,hw⟩:=pru_good he hq;obtain⟨h2,_,h3,h4⟩:=mrg_all hm hw;exact h1.trans ⟨h2.chk,h3,mrg_wt hm,fun inn k o h=>h4 inn k o h⟩
theorem once_good {p m:Prog} (he:checkE p=0) (h:OnceR p m):Good2 p m:=by
 obtain⟨q,hq,hm⟩:=h;have h1:=fold_good he;have h2:=(pru_good h1.chk hq).1;have h3:=whole_good h2.chk;exact ((h1.trans h2).trans h3).trans (mrg_good h3.chk hm)
inductive TidyN:Nat→Prog→Prog→Nat→Prop
 | out (p:Prog):TidyN 0 p p 0
 | same {k:Nat} {p:Prog}:OnceR p p→TidyN (k+1) p p 0
 | step {k n:Nat} {p q w:Prog}:OnceR p q→p≠q→TidyN k q w n→TidyN (k+1) p w (n+1)
theorem tidyN_good {k:Nat} {p w:Prog} {n:Nat} (h:TidyN k p w n):checkE p=0→Good2 p w∧n≤k:=by
 induction h with
 | out p=>exact fun he=>⟨Good2.refl he,Nat.le_refl _⟩
 | same _=>exact fun he=>⟨Good2.refl he,Nat.zero_le _⟩
 | step h1 _ _ ih =>
  intro he;have h2:=once_good he h1;have h3:=ih h2.chk;exact⟨h2.trans h3.1,by omega⟩
end Go.Proofs
end
section
namespace Go.Proofs
open Go.Sy
set_option maxRecDepth 20000
set_option maxHeartbeats 4000000
noncomputable def cxS:Cx:={ P:=Tryz.prog,tt:=tt,n:=0,wrap:=false,base:=0,gf:=60::cx.gf,eqs:=[67],xf:=[] }
theorem cxS_ok:TOK cxS:=⟨cx_ok.tt,eqs_of (P:=Tryz.prog) (tt:=tt) (l:=[67]) (by kernel_rfl)⟩
abbrev bSw (a:Option Addr) (n c:Nat):List (Nat×Bx):=[(0,.cells 32 [.v (.slice a n c)])]
theorem gone_spec {l:List Nm} {x:Nm} {a:Option Addr} {n c:Nat} {H:Hp} {K:SV→St→Hp→Prop} (ha:RL (α:=Int×Int) H a n c l) (hK:K (.v (.bool (decide (x∈l)))) ⟨[],bSw a n c,1⟩ H):
  DoesG Tryz.prog 60 [.agg [.v (.int .i64 x.1),.v (.int .i64 x.2)],.ptr 0 0] (bSw a n c) 1 H K:=by
 have hn:=ha.n_eq;have hmx:=ha.le;subst hn;refine spec_ofG cxS_ok cx_mix Tryz.func60 Tryz.call60 Tryz.ntmps60 Tryz.results60 rfl rfl ?_
 refine⟨Nat,fun i=>⟨[(1,.ptr 0 0),(2,.ptr 1 0),(6,.v (.slice a l.length c)),(7,.v (.int .i64 l.length)),(8,.v (.int .i64 i))],[(0,.cells 32 [.v (.slice a l.length c)]),(1,.cells 67 [.v (.int .i64 x.1),.v (.int .i64 x.2)])],2⟩,
  fun i H'=>H'=H∧i≤l.length∧¬x∈l.take i,fun i=>l.length - i,⟨0,[(0,0),(1,1)],?_,rfl,Nat.zero_le _,by simp⟩,?_⟩
 ·(repeat' (first|exact trivial|refine⟨?_,?_⟩|exact rfl|assumption))
 rintro i H1 _ ⟨rfl,hi,hno⟩;refine⟨fun h=>?_,fun h=>?_⟩
 ·have hlt:i<l.length:=by have:=dt h;omega
  refine name_k l[i] fun y hye=>?_
  have hyy:l[i]?=some y:=by rw[hye];exact List.getElem?_eq_getElem hlt
  refine edge_k ha hyy fun ad q1 hh=>?_
  refine⟨ad,⟨by omega,by omega,q1⟩,?_⟩;refine⟨_,hh,?_⟩;refine⟨fun h1=>?_,fun h1=>?_⟩
  ·have hxy:x=y:=by
    rw[Bool.and_eq_true,decide_eq_true_iff,decide_eq_true_iff]at h1;exact Prod.ext h1.1.symm h1.2.symm
   have hin:x∈l:=by rw[hxy];exact List.mem_of_getElem? hyy
   rw[decide_eq_true hin]at hK;exact⟨.v (.bool true),bSw a l.length c,1,[(0,0)],by (repeat' (first|exact trivial|refine⟨?_,?_⟩|exact rfl|assumption)),hK⟩
  ·have hxy:¬x=y:=fun e=>by
    subst e;simp at h1
   have hno2:¬x∈l.take (i+1):=fun hm=>by
    rw[List.take_add_one,hyy,Option.toList_some]at hm
    rcases List.mem_append.1 hm with hm | hm
    ·exact hno hm
    ·exact hxy (List.mem_singleton.1 hm)
   refine⟨⟨by omega,by omega⟩,i+1,[(0,0),(1,1)],?_,⟨rfl,hlt,hno2⟩,by dsimp only;omega⟩
   (repeat' (first|exact trivial|refine⟨?_,?_⟩|exact rfl|assumption))
 ·have hil:i=l.length:=by have:=df h;omega
  rw[hil,List.take_length]at hno;rw[decide_eq_false hno]at hK;exact⟨.v (.bool false),bSw a l.length c,1,[(0,0)],by (repeat' (first|exact trivial|refine⟨?_,?_⟩|exact rfl|assumption)),hK⟩
end Go.Proofs
end
section
namespace Go.Proofs
open Go.Sy
set_option maxRecDepth 20000
set_option maxHeartbeats 4000000
theorem mem_idle {p:Prog} {i k:Nat} {b:Block} {s:Stmt} (hb:p[i]?=some b) (hs:b.2.1[k]?=some s):((i:Int),(k:Int))∈idleP p↔idB p i k b s=true:=by
 have hi:=(List.getElem?_eq_some_iff.1 hb).1;have hk:=(List.getElem?_eq_some_iff.1 hs).1;rw[idleP,idP,List.mem_flatMap];constructor
 ·rintro⟨j,hj,h⟩;rw[idK,List.mem_flatMap]at h;obtain⟨m,hm,h⟩:=h;split at h
  ·rename_i hid;rw[List.mem_singleton]at h
   have e1:i=j:=by have:=congrArg Prod.fst h;dsimp only at this;omega
   have e2:k=m:=by have:=congrArg Prod.snd h;dsimp only at this;omega
   subst e1;subst e2;rw[hb,Option.getD_some,hs,Option.getD_some]at hid;exact hid
  ·cases h
 ·intro h;refine⟨i,List.mem_range.2 hi,?_⟩;rw[hb,Option.getD_some,idK,List.mem_flatMap];refine⟨k,List.mem_range.2 hk,?_⟩;rw[hs,Option.getD_some,if_pos h];exact List.mem_singleton.2 rfl
def swR (p:Prog) (i k:Nat):List (List Stmt):=p.mapIdx fun j b=>if j<i then swL p j b b.2.1 0 else if j=i then swL p j b (b.2.1.take k) 0 else []
theorem swR_len (p:Prog) (i k:Nat):(swR p i k).length=p.length:=List.length_mapIdx
theorem swR_at {p:Prog} (i k:Nat) {j:Nat} {b:Block} (h:p[j]?=some b):(swR p i k)[j]?=some (if j<i then swL p j b b.2.1 0 else if j=i then swL p j b (b.2.1.take k) 0 else []):=by rw[swR,List.getElem?_mapIdx,h];rfl
theorem swR_zero (p:Prog):∀r∈swR p 0 0,r=[]:=fun r hr=>by
 obtain⟨j,hj,rfl⟩:=List.mem_mapIdx.1 hr;rw[if_neg (Nat.not_lt_zero _)];split
 ·rw[List.take_zero,swL]
 ·rfl
theorem swR_get {p:Prog} {i:Nat} {b:Block} (h:p[i]?=some b) (k:Nat):(swR p i k)[i]?=some (swL p i b (b.2.1.take k) 0):=by
 rw[swR_at i k h,if_neg (Nat.lt_irrefl _),if_pos rfl]
theorem swR_ext {p:Prog} {i k i' k':Nat} (h:∀(j:Nat) (b:Block),p[j]?=some b→(swR p i k)[j]?=(swR p i' k')[j]?):swR p i k=swR p i' k':=by
 apply List.ext_getElem?;intro j
 by_cases hj:j<p.length
 ·exact h j _ (List.getElem?_eq_getElem hj)
 ·rw[List.getElem?_eq_none (by rw[swR_len];omega),List.getElem?_eq_none (by rw[swR_len];omega)]
theorem swR_end {p:Prog} {i:Nat} {b:Block} (h:p[i]?=some b):swR p i b.2.1.length=swR p (i+1) 0:=swR_ext fun j c hc=>by
 rw[swR_at _ _ hc,swR_at _ _ hc]
 by_cases h1:j<i
 ·rw[if_pos h1,if_pos (by omega)]
 ·rw[if_neg h1]
  by_cases h2:j=i
  ·subst h2;rw[h]at hc;cases hc;rw[if_pos rfl,if_pos (by omega),List.take_length]
  ·rw[if_neg h2,if_neg (by omega)];split
   ·rw[List.take_zero,swL]
   ·rfl
theorem swR_skip {p:Prog} {i k:Nat} {b:Block} {s:Stmt} (h:p[i]?=some b) (hs:b.2.1[k]?=some s) (hi:idB p i k b s=true):swR p i (k+1)=swR p i k:=swR_ext fun j c hc=>by
 rw[swR_at _ _ hc,swR_at _ _ hc]
 by_cases h2:j=i
 ·subst h2;rw[h]at hc;cases hc;rw[if_neg (Nat.lt_irrefl _),if_pos rfl,if_neg (Nat.lt_irrefl _),if_pos rfl,swL_take p j b b.2.1 0 k s hs,Nat.zero_add,if_pos hi,List.append_nil]
 ·rw[if_neg h2,if_neg h2]
theorem swR_step {p:Prog} {i k:Nat} {b:Block} {s:Stmt} (h:p[i]?=some b) (hs:b.2.1[k]?=some s) (hi:idB p i k b s=false):swR p i (k+1)=(swR p i k).set i (swL p i b (b.2.1.take k) 0++[s]):=by
 apply List.ext_getElem?;intro j
 by_cases hj:j<p.length
 ·rw[List.getElem?_set,swR_len,swR_at _ _ (List.getElem?_eq_getElem hj)]
  by_cases h2:i=j
  ·subst h2;rw[List.getElem?_eq_getElem hj]at h;cases h;rw[if_neg (Nat.lt_irrefl _),if_pos rfl,if_pos rfl,if_pos hj,swL_take p i _ _ 0 k s hs,Nat.zero_add,if_neg (by rw[hi];decide)]
  ·rw[if_neg h2,swR_at _ _ (List.getElem?_eq_getElem hj),if_neg (fun e:j=i=>h2 e.symm),if_neg (fun e:j=i=>h2 e.symm)]
 ·rw[List.getElem?_eq_none (by rw[swR_len];omega),List.getElem?_eq_none (by rw[List.length_set,swR_len];omega)]
theorem swR_all (p:Prog):swR p p.length 0=(sweepP p).map fun b=>b.2.1:=by
 apply List.ext_getElem?;intro j
 by_cases hj:j<p.length
 ·rw[swR_at _ _ (List.getElem?_eq_getElem hj),if_pos hj,List.getElem?_map,sweepP_get (List.getElem?_eq_getElem hj)];rfl
 ·rw[List.getElem?_eq_none (by rw[swR_len];omega),List.getElem?_eq_none (by rw[List.length_map,sweepP_len];omega)]
theorem swR_small {p:Prog} (hl:∀b∈p,b.2.1.length≤100000) {i:Nat} {b:Block} (h:p[i]?=some b) (k:Nat):(swL p i b (b.2.1.take k) 0).length≤100000:=by
 have h1:=swL_len p i b (b.2.1.take k) 0;have h2:=hl b (List.mem_of_getElem? h);have h3:=List.length_take_le k b.2.1;have h4:=List.length_take_le' k b.2.1;omega
def famS (hds:List Value) (R:List (List Stmt)):List (Value×List (List Value)):=List.zipWith (fun h r=>(h,r.map stV)) hds R
theorem famS_mem {hds:List Value} {R:List (List Stmt)} {q:Value×List (List Value)} (h:q∈famS hds R):∃(i:Nat) (hd:Value) (r:List Stmt),hds[i]?=some hd∧R[i]?=some r∧q=(hd,r.map stV):=by
 obtain⟨i,hi,rfl⟩:=List.mem_iff_getElem.1 h;rw[famS,List.length_zipWith]at hi;refine⟨i,hds[i]'(by omega),R[i]'(by omega),List.getElem?_eq_getElem _,List.getElem?_eq_getElem _,?_⟩;simp [famS]
theorem zwS_set {α β γ:Type} (f:α→β→γ):∀(a:List α) (b:List β) (k:Nat) (x:α) (y:β),List.zipWith f (a.set k x) (b.set k y)=(List.zipWith f a b).set k (f x y)
 | [],_,_,_,_=>by simp
 | _::_,[],k,_,_=>by cases k<;>simp
 | _::a,_::b,0,_,_=>by simp
 | _::a,_::b,k+1,x,y=>by simp [zwS_set f a b k x y]
theorem famS_set {hds:List Value} {R:List (List Stmt)} {k:Nat} (hk:k<hds.length) (hk':k<R.length) (h:Value) (r:List Stmt):
  famS (hds.set k h) (R.set k r)=(famS hds R).take k++(h,r.map stV)::(famS hds R).drop (k+1):=by
 have hl:k<(famS hds R).length:=by rw[famS,List.length_zipWith];omega
 rw[famS,zwS_set];exact List.set_eq_take_append_cons_drop.trans (if_pos hl)
theorem famS_split {hds:List Value} {R:List (List Stmt)} {k:Nat} {hd:Value} {r:List Stmt} (h1:hds[k]?=some hd) (h2:R[k]?=some r):famS hds R=(famS hds R).take k++(hd,r.map stV)::(famS hds R).drop (k+1):=by
 obtain⟨a1,a2⟩:=List.getElem?_eq_some_iff.1 h1;obtain⟨b1,b2⟩:=List.getElem?_eq_some_iff.1 h2
 have hl:k<(famS hds R).length:=by rw[famS,List.length_zipWith];omega
 have e:(famS hds R)[k]=(hd,r.map stV):=by simp [famS,a2,b2]
 rw[←e,←List.drop_eq_getElem_cons hl,List.take_append_drop]
def swH (hds vs:List Value) (i:Nat):List Value:=hds.take i++vs.drop i
theorem swH_len {hds vs:List Value} {i m:Nat} (h1:hds.length=m) (h2:vs.length=m) (hi:i≤m):(swH hds vs i).length=m:=by rw[swH,List.length_append,List.length_take,List.length_drop];omega
theorem swH_nil {hds vs:List Value} {i m:Nat} (h1:hds.length=m) (h2:vs.length=m) (hi:i<m) {v:Value} (hv:hds[i]?=some v):(swH hds vs i).set i v=swH hds vs (i+1):=by
 have e1:(hds.take i).length=i:=by rw[List.length_take];omega
 have e2:vs.drop i=vs[i]::vs.drop (i+1):=List.drop_eq_getElem_cons (by omega)
 rw[swH,List.set_append_right _ _ (by omega),e1,Nat.sub_self,e2,List.set_cons_zero,swH,List.take_add_one,hv,Option.toList_some,List.append_assoc];rfl
theorem swH_set {hds vs:List Value} {i m:Nat} (h1:hds.length=m) (hi:i<m) (v:Value):(swH hds vs (i+1)).set i v=swH (hds.set i v) vs (i+1):=by
 have e1:i<(hds.take (i+1)).length:=by rw[List.length_take];omega
 rw[swH,List.set_append_left _ _ e1,swH,List.take_set]
theorem swH_get {hds vs:List Value} {i m:Nat} (h1:hds.length=m) (hi:i<m):(swH hds vs (i+1))[i]?=hds[i]?:=by
 have e1:i<(hds.take (i+1)).length:=by rw[List.length_take];omega
 rw[swH,List.getElem?_append_left e1,List.getElem?_take,if_pos (by omega)]
theorem zwB_set {vs:List Value} {p:Prog} {i:Nat} {b:Block} (h:p[i]?=some b) (v:Value):(List.zipWith blkV vs p).set i (blkV v b)=List.zipWith blkV (vs.set i v) p:=by
 have e:p.set i b=p:=by
  have hlt:=(List.getElem?_eq_some_iff.1 h)
  obtain⟨h1,rfl⟩:=hlt;exact List.set_getElem_self h1
 have:=zwS_set blkV vs p i v b;rw[e]at this;exact this.symm
noncomputable def cxSP:Cx:={ P:=Tryz.prog,tt:=tt,n:=0,wrap:=false,base:=0,gf:=30::60::cx.gf,eqs:=[67],xf:=[] }
theorem cxSP_ok:TOK cxSP:=⟨cxS_ok.tt,cxS_ok.eqs⟩
theorem psweepG_spec {p:Prog} (hp:p.length≤12) (hl:∀b∈p,b.2.1.length≤100000) (hc:stmtsN p≤1000000) (hv:cnt p<400000) {a:Option Addr} {n c:Nat} {H:Hp} {K:SV→St→Hp→Prop} (ha:RL H a n c p) (hT:TabH H)
  (hbad:checkE p≠0→∀H',Le H H'→K (.tup [.agg [.v (.slice none 0 0)],.v (.int .i64 (checkE p))]) ⟨[],[],0⟩ H')
  (hK:checkE p=0→∀hds H',Le H H'→hds.length=p.length→K (.tup [.agg [.own 3],.v (.int .i64 0)]) ⟨[],[(3,.row 66 8 (List.zipWith blkV hds p)),(6,.fam 61 9 (famS hds ((sweepP p).map fun b=>b.2.1)))],7⟩ H'):
  DoesG Tryz.prog 31 [.agg [.v (.slice a n c)]] [] 0 H K:=by
 refine spec_ofG cxSP_ok cx_mix Tryz.func31 Tryz.call31 Tryz.ntmps31 Tryz.results31 rfl rfl ?_;refine sidle_spec hp hl hc hv ha hT (fun he H1 hle1=>?_) (fun he a4 n4 c4 H1 hle1 hr4=>?_)
 ·refine⟨fun _=>?_,fun h=>absurd (nf h) he⟩;exact⟨.tup [.agg [.v (.slice none 0 0)],.v (.int .i64 (checkE p))],[],0,[],by (repeat' (first|exact trivial|refine⟨?_,?_⟩|exact rfl|assumption)),hbad he _ hle1⟩
 have hK:=hK he;refine⟨(fun h=>absurd rfl (nt h)),fun _=>?_⟩
 have hl2:∀b∈p,b.2.1.length≤1000000:=fun b hb=>Nat.le_trans (hl b hb) (by decide)
 refine⟨[],rfl,cloneF_spec (by omega) hl2 (ha.up hle1) fun vs H2 hle2 hvl hsl=>?_⟩;have hn:=ha.n_eq
 have hzl:∀hs:List Value,hs.length=p.length→(List.zipWith blkV hs p).length=p.length:=fun hs hh=>by rw[List.length_zipWith,hh,Nat.min_self]
 refine⟨Nat×List Value,fun q=>⟨[(2,.ptr 1 0),(6,.ptr 5 0),(7,.fn 60 [.ptr 2 0]),(25,.v (.slice a n c)),(26,.v (.int .i64 n)),(27,.v (.int .i64 q.1))],
   [(1,.cells 24 [.v (.slice none 0 0)]),(2,.cells 32 [.v (.slice a4 n4 c4)]),(5,.cells 24 [.own 3]),(3,.row 66 8 (List.zipWith blkV (swH q.2 vs q.1) p)),(6,.fam 61 9 (famS q.2 (swR p q.1 0)))],7⟩,
  fun q H'=>Le H2 H'∧q.1≤p.length∧q.2.length=p.length∧∀j,q.1≤j→j<p.length→q.2[j]?=some (.slice none 0 0),fun q=>p.length - q.1,⟨(0,List.replicate p.length (.slice none 0 0)),[(1,1),(2,2),(3,3),(5,5)],?_,Le.refl _,Nat.zero_le _,by dsimp only;rw[List.length_replicate],fun j _ hj=>by dsimp only;rw[List.getElem?_replicate,if_pos hj]⟩,?_⟩
 ·have e1:swH (List.replicate p.length (Value.slice none 0 0)) vs 0=vs:=rfl
  have e2:∀q∈famS (List.replicate p.length (Value.slice none 0 0)) (swR p 0 0),q=(.slice none 0 0,[]):=fun q hq=>by
   obtain⟨j,hd,r,h1,h2,rfl⟩:=famS_mem hq;rw[List.getElem?_replicate]at h1;split at h1
   ·rw[←Option.some.inj h1,swR_zero p r (List.mem_of_getElem? h2)];rfl
   ·cases h1
  (repeat' (first|exact trivial|refine⟨?_,?_⟩|exact rfl|assumption))
 rintro⟨i,hds⟩ H3 _ ⟨hle3,hi,hdl,hnil⟩;dsimp only at hi hdl hnil;have hswl:=swH_len (vs:=vs) hdl hvl hi;have hrowl:=hzl _ hswl;refine⟨fun h=>?_,fun h=>?_⟩
 ·have hlt:i<p.length:=by have:=dt h;dsimp only at this;omega
  have hle4:=(hle1.trans hle2).trans hle3
  refine name_k p[i] fun b hbe=>?_
  have hbb:p[i]?=some b:=by rw[hbe];exact List.getElem?_eq_getElem hlt
  have hbl:=hl b (List.mem_of_getElem? hbb)
  refine block_k (ha.up hle4) hbb fun ad a5 n5 c5 q1 hh hr5 hs5 ht5=>?_
  have hn5:n5=b.2.1.length:=hr5.n_eq;have hmx5:=hr5.le;refine⟨ad,⟨by dsimp only;omega,by dsimp only;omega,q1⟩,?_⟩;refine⟨_,hh,?_⟩
  refine name_k ((swH hds vs i)[i]'(by omega)) fun hv0 hv0e=>?_
  have hg0:(swH hds vs i)[i]?=some hv0:=by rw[hv0e];exact List.getElem?_eq_getElem _
  have hg:(List.zipWith blkV (swH hds vs i) p)[(i:Int).toNat]?=some (blkV hv0 b):=zipBlk_get hg0 hbb;refine⟨⟨by omega,by dsimp only;omega⟩,?_⟩;refine⟨_,hg,?_⟩
  have hZ:(List.zipWith blkV (swH hds vs i) p).set i (blkV (.slice none 0 0) b)=List.zipWith blkV (swH hds vs (i+1)) p:=by
   rw[zwB_set hbb,swH_nil hdl hvl hlt (hnil i (Nat.le_refl _) hlt)]
  have hle34:=hle2.trans hle3
  refine⟨Nat×List Value,fun q=>⟨[(2,.ptr 1 0),(6,.ptr 5 0),(7,.fn 60 [.ptr 2 0]),(8,.v (.int .i64 i)),(25,.v (.slice a n c)),(26,.v (.int .i64 n)),(27,.v (.int .i64 i)),(38,.v (.slice a5 n5 c5)),(39,.v (.int .i64 n5)),(40,.v (.int .i64 q.1))],
    [(1,.cells 24 [.v (.slice none 0 0)]),(2,.cells 32 [.v (.slice a4 n4 c4)]),(5,.cells 24 [.own 3]),(3,.row 66 8 (List.zipWith blkV (swH q.2 vs (i+1)) p)),(6,.fam 61 9 (famS q.2 (swR p i q.1)))],7⟩,
   fun q H'=>H'=H3∧q.1≤b.2.1.length∧q.2.length=p.length∧∀j,i+1≤j→j<p.length→q.2[j]?=some (.slice none 0 0),fun q=>b.2.1.length - q.1,⟨(0,hds),[(1,1),(2,2),(3,3),(5,5),(6,6)],?_,rfl,Nat.zero_le _,hdl,fun j h1 h2=>hnil j (by omega) h2⟩,?_⟩
  ·have hZ2:=hZ.symm
   (repeat' (first|exact trivial|refine⟨?_,?_⟩|exact rfl|assumption))
  rintro⟨k,hs⟩ H4 _ ⟨rfl,hk,hsl2,hnil2⟩;dsimp only at hk hsl2 hnil2;have hswl2:=swH_len (i:=i+1) hsl2 hvl hlt;have hrowl2:=hzl _ hswl2;refine⟨fun h=>?_,fun h=>?_⟩
  ·have hkl:k<b.2.1.length:=by have:=dt h;dsimp only at this;omega
   refine name_k b.2.1[k] fun s hse=>?_
   have hss:b.2.1[k]?=some s:=by rw[hse];exact List.getElem?_eq_getElem hkl
   refine stmt_k hr5 hss fun ad2 q2 hh2 hR=>?_
   refine⟨ad2,⟨by dsimp only;omega,by dsimp only;omega,q2⟩,?_⟩;refine⟨_,hh2,?_⟩;refine⟨[2],rfl,gone_spec (x:=((i:Int),(k:Int))) (hr4.up hle34) ?_⟩;have hmem:=mem_idle hbb hss;refine⟨fun h=>?_,fun h=>?_⟩
   ·have hno:idB p i k b s=false:=by
     have:=nt h;rw[hmem]at this
     simpa using this
    have hgg:=swR_get hbb k;have hgl:=swR_small hl hbb k
    refine name_k (swL p i b (b.2.1.take k) 0) fun g hge=>?_
    rw[←hge]at hgg hgl
    have hlt2:i<hs.length:=by omega
    refine name_k hs[i] fun hd hde=>?_
    have hhd:hs[i]?=some hd:=by rw[hde];exact List.getElem?_eq_getElem hlt2
    have hgH:(swH hs vs (i+1))[i]?=some hd:=(swH_get hsl2 hlt).trans hhd;have hg2:(List.zipWith blkV (swH hs vs (i+1)) p)[(i:Int).toNat]?=some (blkV hd b):=zipBlk_get hgH hbb;have hsp:=famS_split hhd hgg;refine⟨some ([3,6],[0,1,2,3,4,5,6,7,8,9,10,11,12,13,14]),by kernel_rfl,?_⟩;refine⟨⟨by omega,by dsimp only;omega⟩,?_⟩;refine⟨_,hg2,?_⟩;have hgl2:(g.map stV).length=g.length:=List.length_map _;refine⟨6,_,_,_,_,rfl,hsp,⟨by show ((g.map stV).length+1)*96≤140737488355328;omega,by show (g.map stV).length+1≤9223372036854775807;omega⟩,fun a' c'=>?_⟩
    refine name_k (Value.slice a' ((g.map stV).length+1) c') fun hd' hde'=>?_
    refine⟨⟨by omega,by dsimp only;omega⟩,?_⟩;refine⟨_,hg2,?_⟩
    have e1:(List.zipWith blkV (swH hs vs (i+1)) p).set i (blkV (Value.slice a' ((g.map stV).length+1) c') b)=List.zipWith blkV (swH (hs.set i hd') vs (i+1)) p:=by
     rw[←hde',zwB_set hbb,swH_set hsl2 hlt]
    have hkg:i<(swR p i k).length:=by rw[swR_len];exact hlt
    have e2:(famS hs (swR p i k)).take i++(Value.slice a' ((g.map stV).length+1) c',g.map stV++[stV s])::(famS hs (swR p i k)).drop (i+1)=famS (hs.set i hd') (swR p i (k+1)):=by
     rw[swR_step hbb hss hno,←hge,famS_set hlt2 hkg,hde',List.map_append];rfl
    refine⟨⟨by dsimp only;omega,by dsimp only;omega⟩,(k+1,hs.set i hd'),[(1,1),(2,2),(3,3),(5,5),(6,6)],?_,⟨rfl,by dsimp only;omega,by dsimp only;rw[List.length_set];exact hsl2,fun j h1 h2=>by dsimp only;rw[List.getElem?_set_ne (by omega)];exact hnil2 j h1 h2⟩,by dsimp only;omega⟩
    (repeat' (first|exact trivial|refine⟨?_,?_⟩|exact rfl|assumption))
   ·have hyes:idB p i k b s=true:=by
     have:=nf h;rwa[hmem]at this
    have e1:famS hs (swR p i (k+1))=famS hs (swR p i k):=by rw[swR_skip hbb hss hyes]
    have e2:=e1.symm;refine⟨⟨by dsimp only;omega,by dsimp only;omega⟩,(k+1,hs),[(1,1),(2,2),(3,3),(5,5),(6,6)],?_,⟨rfl,by dsimp only;omega,hsl2,hnil2⟩,by dsimp only;omega⟩
    (repeat' (first|exact trivial|refine⟨?_,?_⟩|exact rfl|assumption))
  ·have hkl:k=b.2.1.length:=by have:=df h;dsimp only at this;omega
   subst hkl
   have e1:famS hs (swR p i b.2.1.length)=famS hs (swR p (i+1) 0):=by rw[swR_end hbb]
   have e2:=e1.symm;refine⟨⟨by omega,by omega⟩,(i+1,hs),[(1,1),(2,2),(3,3),(5,5),(6,6)],?_,⟨hle3,hlt,hsl2,hnil2⟩,by dsimp only;omega⟩
   (repeat' (first|exact trivial|refine⟨?_,?_⟩|exact rfl|assumption))
 ·have hil:i=p.length:=by have:=df h;dsimp only at this;omega
  subst hil
  have e1:List.zipWith blkV (swH hds vs p.length) p=List.zipWith blkV hds p:=by
   rw[swH,←hdl,List.take_length,hdl,←hvl,List.drop_length,List.append_nil]
  have e2:famS hds (swR p p.length 0)=famS hds ((sweepP p).map fun b=>b.2.1):=by rw[swR_all]
  have e3:=e1.symm;have e4:=e2.symm;exact⟨.tup [.agg [.own 3],.v (.int .i64 0)],[(3,.row 66 8 (List.zipWith blkV hds p)),(6,.fam 61 9 (famS hds ((sweepP p).map fun b=>b.2.1)))],7,[(3,3),(6,6)],by (repeat' (first|exact trivial|refine⟨?_,?_⟩|exact rfl|assumption)),hK _ _ (hle1.trans (hle2.trans hle3)) hdl⟩
theorem psweep_spec {p:Prog} (hp:p.length≤12) (hl:∀b∈p,b.2.1.length≤100000) (hc:stmtsN p≤1000000) (hv:cnt p<400000) {a:Option Addr} {n c:Nat} {H:Hp} {K:Value→Hp→Prop} (ha:RL H a n c p) (hT:TabH H)
  (hbad:checkE p≠0→∀H',Le H H'→K (.tuple #[.agg #[.slice none 0 0],.int .i64 (checkE p)]) H')
  (hK:checkE p=0→∀a1 n1 c1 H',Le H H'→RL H' a1 n1 c1 (sweepP p)→K (.tuple #[.agg #[.slice a1 n1 c1],.int .i64 0]) H'):Does Tryz.prog 31 [.agg #[.slice a n c]] H K:=by
 refine does_frzB (svs:=[.agg [.v (.slice a n c)]]) (fun _=>rfl) rfl (psweepG_spec hp hl hc hv ha hT (K:=fun x t H1=>(checkE p≠0∧Le H H1∧x = .tup [.agg [.v (.slice none 0 0)],.v (.int .i64 (checkE p))])∨(checkE p=0∧Le H H1∧∃hds:List Value,hds.length=p.length∧x = .tup [.agg [.own 3],.v (.int .i64 0)]∧t=⟨[],[(3,.row 66 8 (List.zipWith blkV hds p)),(6,.fam 61 9 (famS hds ((sweepP p).map fun b=>b.2.1)))],7⟩))
  (fun he H1 h1=>.inl ⟨he,h1,rfl⟩) (fun he hds H1 h1 h2=>.inr ⟨he,h1,hds,h2,rfl,rfl⟩)) ?_
 rintro x t H1 (⟨he,h1,rfl⟩ | ⟨he,h1,hds,h2,rfl,rfl⟩) hle
 ·exact .inl ⟨_,fun _=>rfl,hbad he _ h1⟩
 ·refine .inr ⟨3,6,66,8,_,61,9,_,fun v=>.tuple #[.agg #[v],.int .i64 0],fun _=>rfl,rfl,rfl,by decide,fun v H' hle2 hr hf=>?_⟩
  have hrc:RC (α:=Block) H' (List.zipWith blkV hds p) (sweepP p):=by
   refine⟨by rw[List.length_zipWith,h2,sweepP_len,Nat.min_self],fun i cs b h3 h4=>?_⟩;rw[List.getElem?_zipWith_eq_some]at h3;obtain⟨u,b0,h5,h6,rfl⟩:=h3;rw[sweepP_get h6]at h4;have h4:=(Option.some.inj h4).symm;have hR:=prog_R ha h6
   have hm:(u,b.2.1.map stV)∈famS hds ((sweepP p).map fun b=>b.2.1):=by
    refine List.mem_iff_getElem?.2 ⟨i,?_⟩
    rw[famS,List.getElem?_zipWith,h5,List.getElem?_map,sweepP_get h6,h4];rfl
   have e:blkV u b0=blkV u b:=by rw[h4];rfl
   rw[e];refine blkR_mk (hf _ hm) (fun s hs=>hR.2.2 s ?_) ?_ ?_
   ·rw[h4]at hs;exact swL_sub p i b0 _ _ s hs
   ·rw[h4];exact hR.1
   ·rw[h4];exact hR.2.1
  refine of_row_k (α:=Block) hr hrc fun a1 n1 c1 e hr1=>?_
  subst e;exact hK he _ _ _ _ (h1.trans hle2) hr1
end Go.Proofs
end
section
namespace Go.Proofs
open Go.Sy
set_option maxRecDepth 20000
set_option maxHeartbeats 4000000
theorem cnt_eq (p:Prog):cnt p=3*stmtsN p+p.length:=by
 induction p with
 | nil=>rfl
 | cons b r ih =>
  unfold cnt stmtsN at ih ⊢;rw[List.map_cons,List.sum_cons,List.map_cons,List.sum_cons,List.length_cons,ih];omega
theorem check_few {q:Prog} (he:checkE q=0) (hp:q.length≤12):stmtsN q≤1000000∧cnt q<400000∧∀b∈q,b.2.1.length≤100000:=by
 have h1:=stmts_512' he;have h2:=cnt_eq q;exact⟨by omega,by omega,fun b hb=>by have:=le_stmts hb;omega⟩
theorem swhole_spec {p:Prog} (hp:p.length≤12) (hl:∀b∈p,b.2.1.length≤100000) (hc:stmtsN p≤1000000) (hv:cnt p<400000) {a:Option Addr} {n c:Nat} {H:Hp} {K:Value→Hp→Prop} (ha:RL H a n c p) (hT:TabH H)
  (hbad:checkE p≠0→∀H',Le H H'→K (.tuple #[.agg #[.slice none 0 0],.int .i64 0,.int .i64 (checkE p)]) H')
  (hK:checkE p=0→∀a1 n1 c1 H',Le H H'→RL H' a1 n1 c1 (wholeS p).1→K (.tuple #[.agg #[.slice a1 n1 c1],.int .i64 ((wholeS p).2:Nat),.int .i64 0]) H'):Does Tryz.prog 10 [.agg #[.slice a n c]] H K:=by
 have hl2:∀b∈p,b.2.1.length≤1000000:=fun b hb=>Nat.le_trans (hl b hb) (by decide)
 refine spec_of cx_ok cx_mix rfl Tryz.func10 Tryz.call10 Tryz.ntmps10 Tryz.results10 rfl rfl ?_
 by_cases he:checkE p=0
 ·refine .inr ⟨Prog×(Option Addr×Nat×Nat)×Nat,fun _=>0,fun z=>⟨[(1,.ptr 0 0),(2,.ptr 1 0),(6,.v (.int .i64 z.2.2))],[(0,.cells 24 [.v (.slice z.2.1.1 z.2.1.2.1 z.2.1.2.2)]),(1,.cells 24 [.v (.slice none 0 0)])],2⟩,
   fun z H'=>Le H H'∧RL H' z.2.1.1 z.2.1.2.1 z.2.1.2.2 z.1∧checkE z.1=0∧z.1.length≤12∧z.2.2+stmtsN z.1≤stmtsN p∧wholeS p=((wholeS z.1).1,(wholeS z.1).2+z.2.2),fun z=>stmtsN z.1,?_,?_⟩
  ·refine pcheck_spec ha hc hv fun _ _=>?_
   refine⟨fun h=>absurd he (nt h),fun _=>?_⟩
   refine pclone_spec (by omega) hl2 ha fun v css H3 H1 hle3 hrc hle1 hv1=>?_
   obtain⟨a1,n1,c1,rfl,hr⟩:=RL.of_row (α:=Block) hv1 (hrc.up hle1.le);have hle:Le H H1:=hle3.trans hle1.le;have heq:=he;have hq:=hp;have hql:=hl;have hqc:=hc;have hqv:=hv;have hW:wholeS p=((wholeS p).1,(wholeS p).2+0):=rfl;have h5:=stmts_512' he
   have hkk:0+stmtsN p≤stmtsN p:=by omega
   refine psweep_spec hq hql hqc hqv hr (hT.up hle) (fun hb=>absurd heq hb) fun _ a2 n2 c2 H2 hle2 hr2=>?_
   refine psame4_spec (hr.up hle2) hr2 ?_;refine⟨fun h=>?_,fun h=>?_⟩
   ·have hne:¬sweepP p=p:=fun e=>nt h e.symm
    have hlt:=sweep_less hne;have hst:=wholeS_step hne;have hqe:=sweep_check heq
    have hq2:(sweepP p).length≤12:=by rw[sweepP_len];exact hq
    refine⟨⟨by  omega,by  omega⟩,?_⟩;refine⟨(sweepP p,(a2,n2,c2),0+1),[(0,0),(1,1)],rfl,?_,⟨hle.trans hle2,hr2,hqe,hq2,by dsimp only;omega,by rw[hW,hst];exact Prod.ext rfl (by dsimp only;try omega)⟩⟩
    (repeat' (first|exact trivial|refine⟨?_,?_⟩|exact rfl|assumption))
   ·have heqq:sweepP p=p:=(nf h).symm
    have e:wholeS p=(p,0):=by rw[hW,wholeS_stop heqq];first | done | exact Prod.ext rfl (Nat.zero_add _)
    rw[e]at hK;exact hK he _ _ _ _ (hle.trans hle2) (hr.up hle2)
  ·rintro⟨q,⟨a1,n1,c1⟩,k⟩ H1 _ ⟨hle,hr,heq,hq,hkk,hW⟩;dsimp only at hr heq hq hkk hW;obtain⟨hqc,hqv,hql⟩:=check_few heq hq;have h5:=stmts_512' he
   refine psweep_spec hq hql hqc hqv hr (hT.up hle) (fun hb=>absurd heq hb) fun _ a2 n2 c2 H2 hle2 hr2=>?_
   refine psame4_spec (hr.up hle2) hr2 ?_;refine⟨fun h=>?_,fun h=>?_⟩
   ·have hne:¬sweepP q=q:=fun e=>nt h e.symm
    have hlt:=sweep_less hne;have hst:=wholeS_step hne;have hqe:=sweep_check heq
    have hq2:(sweepP q).length≤12:=by rw[sweepP_len];exact hq
    refine⟨⟨by dsimp only;omega,by dsimp only;omega⟩,?_⟩;refine⟨(sweepP q,(a2,n2,c2),k+1),[(0,0),(1,1)],rfl,?_,⟨hle.trans hle2,hr2,hqe,hq2,by dsimp only;omega,by rw[hW,hst];exact Prod.ext rfl (by dsimp only;try omega)⟩,by dsimp only;omega⟩
    (repeat' (first|exact trivial|refine⟨?_,?_⟩|exact rfl|assumption))
   ·have heqq:sweepP q=q:=(nf h).symm
    have e:wholeS p=(q,k):=by rw[hW,wholeS_stop heqq];first | done | exact Prod.ext rfl (Nat.zero_add _)
    rw[e]at hK;exact hK he _ _ _ _ (hle.trans hle2) (hr.up hle2)
 ·refine .inl ⟨0,?_⟩
  refine pcheck_spec ha hc hv fun _ _=>?_
  refine⟨fun _=>?_,fun h=>absurd (nf h) he⟩;exact hbad he H (Le.refl H)
end Go.Proofs
end
section
namespace Go.Proofs
open Go.Sy
set_option maxRecDepth 20000
set_option maxHeartbeats 1000000
abbrev bWk (a:Option Addr) (n c:Nat):List (Nat×Bx):=[(0,.cells 84 [.v (.slice a n c)])]
def StageG (f:FuncId) (H:Hp) (a:Option Addr) (n c:Nat) (Q:Prog→Prop):Prop :=
 DoesG Tryz.prog f [.ptr 0 0] (bWk a n c) 1 H fun x t H'=>∃q a1 n1 c1,Q q∧RL H' a1 n1 c1 q∧x = .tup []∧t=⟨[],bWk a1 n1 c1,1⟩
theorem mfold_stage {p:Prog} (hp:p.length≤12) (he:checkE p=0) {a:Option Addr} {n c:Nat} {H:Hp} (ha:RL H a n c p):StageG 38 H a n c (fun q=>q=foldP p):=by
 obtain⟨hc,hv,hl⟩:=check_few he hp;unfold StageG;refine spec_ofG cx_ok cx_mix Tryz.func38 Tryz.call38 Tryz.ntmps38 Tryz.results38 rfl rfl ?_
 refine pfold_spec hp (fun b hb=>Nat.le_trans (hl b hb) (by decide)) hc hv ha (fun h=>absurd he h) fun _ a1 n1 c1 H1 hle1 hr1=>?_
 exact⟨.tup [],bWk a1 n1 c1,1,[(0,0)],by (repeat' (first|exact trivial|refine⟨?_,?_⟩|exact rfl|assumption)),foldP p,a1,n1,c1,rfl,hr1,rfl,rfl⟩
theorem mprune_stage {p:Prog} (hp:p.length≤12) (he:checkE p=0) {a:Option Addr} {n c:Nat} {H:Hp} (ha:RL H a n c p):StageG 39 H a n c (PruR p):=by
 obtain⟨hc,hv,hl⟩:=check_few he hp;unfold StageG;refine spec_ofG cx_ok cx_mix Tryz.func39 Tryz.call39 Tryz.ntmps39 Tryz.results39 rfl rfl ?_
 refine pprog_spec hp (fun b hb=>Nat.le_trans (hl b hb) (by decide)) hc hv ha (fun h=>absurd he h) fun _ a1 n1 c1 R H1 hle1 hS hR hr1=>?_
 exact⟨.tup [],bWk a1 n1 c1,1,[(0,0)],by (repeat' (first|exact trivial|refine⟨?_,?_⟩|exact rfl|assumption)),_,a1,n1,c1,⟨R,hS,hR,rfl⟩,hr1,rfl,rfl⟩
theorem msweep_stage {p:Prog} (hp:p.length≤12) (he:checkE p=0) {a:Option Addr} {n c:Nat} {H:Hp} (ha:RL H a n c p) (hT:TabH H):StageG 40 H a n c (fun q=>q=(wholeS p).1):=by
 obtain⟨hc,hv,hl⟩:=check_few he hp;unfold StageG;refine spec_ofG cx_ok cx_mix Tryz.func40 Tryz.call40 Tryz.ntmps40 Tryz.results40 rfl rfl ?_
 refine swhole_spec hp hl hc hv ha hT (fun h=>absurd he h) fun _ a1 n1 c1 H1 hle1 hr1=>?_
 exact⟨.tup [],bWk a1 n1 c1,1,[(0,0)],by (repeat' (first|exact trivial|refine⟨?_,?_⟩|exact rfl|assumption)),_,a1,n1,c1,rfl,hr1,rfl,rfl⟩
theorem mmerge_stage {p:Prog} (hp:p.length≤12) (he:checkE p=0) {a:Option Addr} {n c:Nat} {H:Hp} (ha:RL H a n c p):StageG 41 H a n c (MrgR p):=by
 obtain⟨hc,hv,hl⟩:=check_few he hp;unfold StageG;refine spec_ofG cx_ok cx_mix Tryz.func41 Tryz.call41 Tryz.ntmps41 Tryz.results41 rfl rfl ?_
 refine pmerge_spec hp (fun b hb=>Nat.le_trans (hl b hb) (by decide)) hc hv ha (fun h=>absurd he h) fun _ a1 n1 c1 R r H1 hle1 hS hR hM hr1=>?_
 exact⟨.tup [],bWk a1 n1 c1,1,[(0,0)],by (repeat' (first|exact trivial|refine⟨?_,?_⟩|exact rfl|assumption)),r,a1,n1,c1,⟨_,⟨R,hS,hR,rfl⟩,hM⟩,hr1,rfl,rfl⟩
theorem stage_calls {f:FuncId} {H:Hp} {w:World} {B:Nat} {a:Option Addr} {n c:Nat} {Q:Prog→Prop} (h:StageG f H a n c Q) (hp:∀b o,H b=some o→w.heap[b]?=some o) (hB:w.heap[B]?=some (.cells #[.slice a n c] 84)) (hH:H B=none):
  Calls Tryz.prog f #[.pointer (some ⟨B,0,none⟩)] w fun e w'=>e = .returned (.tuple #[])∧∃q a1 n1 c1 H',Q q∧RL H' a1 n1 c1 q∧Le H H'∧(∀b o,H' b=some o→w'.heap[b]?=some o)∧H' B=none∧w'.heap[B]?=some (.cells #[.slice a1 n1 c1] 84) ∧
   (∀b,H b=none→b<w.heap.size→H' b=none)∧(∀b,b<w.heap.size→b≠B→w'.heap[b]?=w.heap[b]?)∧w.heap.size≤w'.heap.size∧w'.os=w.os∧w'.tape=w.tape∧OD w w':=by
 let ρ:Rho:=⟨fun _=>B,fun _=>(none,0,0)⟩
 have hE:∀g,(Bs.lent w ρ (bWk a n c) 1 H).E g→g=B:=fun g ⟨k,b,h1,h2⟩=>by
  rw[lk_cons]at h1;split at h1
  ·simp only[Option.some.injEq]at h1;subst h1;exact h2
  ·cases h1
 have hE2:(Bs.lent w ρ (bWk a n c) 1 H).E B:=⟨0,_,rfl,rfl⟩
 have hlt:B<w.heap.size:=(Array.getElem?_eq_some_iff.1 hB).1
 have hk:∀ {k:Nat} {b:Bx},lk (bWk a n c) k=some b→k=0∧b = .cells 84 [.v (.slice a n c)]:=fun {k b} h1=>by
  rw[lk_cons]at h1;split at h1
  ·rename_i e;simp only[Option.some.injEq]at h1;exact⟨e.symm,h1.symm⟩
  ·cases h1
 have hm:Mem (Bs.lent w ρ (bWk a n c) 1 H) ρ (bWk a n c) 1 H w :=
  {os:=rfl,tape:=rfl,output:=⟨rfl,Nat.le_refl _⟩,size:=Nat.le_refl _,frame:=fun _ _ _=>rfl,base:=Nat.le_refl _,agree:=fun _ _=>⟨rfl,rfl⟩
   hp:=hp,hle:=Le.refl H,hnew:=fun _ h _ _=>h
   ok:=fun k b h1=>by
    obtain⟨rfl,rfl⟩:=hk h1;exact⟨Nat.zero_lt_one,hB,rfl⟩
   own:=fun k b g h1 h2=>by
    obtain⟨rfl,rfl⟩:=hk h1;have h2:g=B:=h2;subst h2;exact⟨hH,.inr hE2⟩
   disj:=fun k k' b b' g h1 h2 _ _=>by
    obtain⟨rfl,_⟩:=hk h1;obtain⟨rfl,_⟩:=hk h2
    rfl }
 have hc:=h.2 w ρ hm rfl
 refine hc.mono fun e w' ⟨x,t,H',ρ',e1,⟨q,a1,n1,c1,hQ,hr,hx,ht⟩,_,hm'⟩=>?_
 subst hx;subst ht;have hρ:ρ'.b 0=B:=(hm'.agree 0 Nat.zero_lt_one).1;have hb:=(hm'.ok 0 _ rfl).2.1;have hb:w'.heap[ρ'.b 0]?=some (.cells #[.slice a1 n1 c1] 84):=hb;rw[hρ]at hb;have ho:=(hm'.own 0 _ (ρ'.b 0) rfl rfl).1;rw[hρ]at ho;refine⟨e1,q,a1,n1,c1,H',hQ,hr,hm'.hle,hm'.hp,ho,hb,fun b h1 h2=>?_,fun b h1 h2=>hm'.frame b h1 (fun h=>h2 (hE b h)),hm'.size,hm'.os,hm'.tape,hm'.output⟩
 by_cases e2:b=B
 ·rw[e2];exact ho
 ·exact hm'.hnew b h1 h2 (fun h=>e2 (hE b h))
end Go.Proofs
end
section
namespace Go.Proofs
open Go.Sy
set_option maxRecDepth 20000
set_option maxHeartbeats 4000000
theorem sumT {α:Type} (f:α→Nat) {l:List α} {i:Nat} {x:α} (h:l[i]?=some x):((l.take (i+1)).map f).sum=((l.take i).map f).sum+f x:=by
 rw[List.take_add_one,h,Option.toList_some,List.map_append,List.sum_append];simp
theorem sumT_le {α:Type} (f:α→Nat) (l:List α) (i:Nat):((l.take i).map f).sum≤(l.map f).sum:=by
 conv=>rhs;rw[←List.take_append_drop i l,List.map_append,List.sum_append]
 omega
theorem atW_le (a:Atm):atW a≤1:=by
 unfold atW
 split<;>omega
theorem exW_le (x:Expr):exW x≤2:=by
 unfold exW atomsOf;have h1:=atW_le x.2.1;have h2:=atW_le x.2.2;split
 ·simp;omega
 ·split
  ·simp;omega
  ·simp
theorem stW_le (s:Stmt):stW s≤2:=by
 unfold stW;have:=exW_le s.2.2
 split<;>omega
theorem sumS_le:∀l:List Stmt,(l.map stW).sum≤2*l.length
 | []=>Nat.le_refl _
 | s::r=>by
  have h1:=sumS_le r;have h2:=stW_le s
  rw[List.map_cons,List.sum_cons,List.length_cons];omega
theorem blW_le (b:Block):blW b≤2*b.2.1.length+2:=by
 have h1:=sumS_le b.2.1;have h2:=atW_le b.2.2.2.1;unfold blW tmW
 split<;>omega
theorem sumB_le:∀p:Prog,(p.map blW).sum≤2*stmtsN p+2*p.length
 | []=>Nat.le_refl _
 | b::r=>by
  have h1:=sumB_le r;have h2:=blW_le b
  have e:stmtsN (b::r)=b.2.1.length+stmtsN r:=by simp [stmtsN]
  rw[List.map_cons,List.sum_cons,List.length_cons,e];omega
def wtI (p:Prog) (i:Nat):Nat:=stmtsN p+2*p.length+((p.take i).map blW).sum
theorem wtI_le (p:Prog) (i:Nat):wtI p i≤3*stmtsN p+4*p.length:=by
 have h1:=sumT_le blW p i;have h2:=sumB_le p
 unfold wtI;omega
theorem wtI_all (p:Prog):wtI p p.length=wtP p:=by rw[wtI,List.take_length];rfl
theorem wtI_succ {p:Prog} {i:Nat} {b:Block} (h:p[i]?=some b):wtI p (i+1)=wtI p i+((b.2.1.map stW).sum+tmW b.2.2):=by
 rw[wtI,sumT blW h,wtI]
 unfold blW;omega
abbrev bWt (m:Nat):List (Nat×Bx):=[(0,.cells 3 [.v (.int .i64 (m:Nat))])]
theorem countA_spec {l:List Atm} (hl:l.length≤1000) {m:Nat} (hm:m≤100000000) {a:Option Addr} {n c:Nat} {H:Hp} {K:SV→St→Hp→Prop} (ha:RL H a n c l) (hK:K (.tup []) ⟨[],bWt (m+(l.map atW).sum),1⟩ H):
  DoesG Tryz.prog 48 [.v (.slice a n c),.ptr 0 0] (bWt m) 1 H K:=by
 have hn:=ha.n_eq;have hmx:=ha.le;refine spec_ofG cx_ok cx_mix Tryz.func48 Tryz.call48 Tryz.ntmps48 Tryz.results48 rfl rfl ?_
 refine⟨Nat,fun i=>⟨[(1,.ptr 0 0),(5,.v (.slice a n c)),(6,.v (.int .i64 n)),(7,.v (.int .i64 i))],bWt (m+((l.take i).map atW).sum),1⟩,
  fun i H'=>H'=H∧i≤l.length,fun i=>l.length - i,⟨0,[(0,0)],?_,rfl,Nat.zero_le _⟩,?_⟩
 ·(repeat' (first|exact trivial|refine⟨?_,?_⟩|exact rfl|assumption))
 rintro i H1 _ ⟨rfl,hi⟩;refine⟨fun h=>?_,fun h=>?_⟩
 ·have hlt:i<l.length:=by have:=dt h;omega
  refine name_k l[i] fun x hxe=>?_
  have hxx:l[i]?=some x:=by rw[hxe];exact List.getElem?_eq_getElem hlt
  have hs:=sumT atW hxx;have hsl:=sumT_le atW l (i+1)
  refine atom_k ha hxx fun ad q1 hh _=>?_
  refine⟨ad,⟨by omega,by omega,q1⟩,?_⟩;refine⟨_,hh,?_⟩
  have hlb:(l.map atW).sum≤l.length:=by
   clear hK hh hxe hxx hs hsl hi hlt ha hn hmx
   induction l with
   | nil=>exact Nat.le_refl _
   | cons y r ih =>
    have h1:=atW_le y;have h2:=ih (by rw[List.length_cons]at hl;omega)
    rw[List.map_cons,List.sum_cons,List.length_cons];omega
  refine⟨fun h=>?_,fun h=>?_⟩
  ·have hx1:atW x=1:=by
    have h9:¬x.1.l=[]:=nt h;exact if_neg h9
   refine⟨⟨by omega,by omega⟩,?_⟩;refine⟨⟨by omega,by omega⟩,i+1,[(0,0)],?_,⟨rfl,hlt⟩,by dsimp only;omega⟩
   have e1:SV.v (.int .i64 (((m+((l.take i).map atW).sum:Nat):Int)+1))=SV.v (.int .i64 ((m+((l.take (i+1)).map atW).sum:Nat):Int)):=by rw[hs,hx1];congr 2
   have e2:=e1.symm
   (repeat' (first|exact trivial|refine⟨?_,?_⟩|exact rfl|assumption))
  ·have hx0:atW x=0:=by
    have h9:x.1.l=[]:=nf h;exact if_pos h9
   refine⟨⟨by omega,by omega⟩,i+1,[(0,0)],?_,⟨rfl,hlt⟩,by dsimp only;omega⟩
   have e1:SV.v (.int .i64 ((m+((l.take i).map atW).sum:Nat):Int))=SV.v (.int .i64 ((m+((l.take (i+1)).map atW).sum:Nat):Int)):=by rw[hs,hx0];rfl
   have e2:=e1.symm
   (repeat' (first|exact trivial|refine⟨?_,?_⟩|exact rfl|assumption))
 ·have hil:i=l.length:=by have:=df h;omega
  rw[hil,List.take_length];exact⟨.tup [],bWt (m+(l.map atW).sum),1,[(0,0)],by (repeat' (first|exact trivial|refine⟨?_,?_⟩|exact rfl|assumption)),hK⟩
theorem tweight_spec {p:Prog} (hp:p.length≤128) (hc:stmtsN p≤1000000) {a:Option Addr} {n c:Nat} {H:Hp} {K:Value→Hp→Prop} (ha:RL H a n c p) (hK:∀H',Le H H'→K (.int .i64 (wtP p:Nat)) H'):Does Tryz.prog 21 [.agg #[.slice a n c]] H K:=by
 have hn:=ha.n_eq;have hmx:=ha.le;refine spec_of cx_ok cx_mix rfl Tryz.func21 Tryz.call21 Tryz.ntmps21 Tryz.results21 rfl rfl ?_;refine⟨none,?_⟩
 refine region_plan (α:=Unit) ?_ ?_ (.two 1 7 (.one [1000000,1] [0,2,3,4,5,1,6,7,8]) (.one [1000000,1] [0,2,3,4,5,7,1,6,8]))
  (fun _=>⟨[(1,.ptr 0 0),(3,.ptr 1 0)],[(0,.cells 24 [.v (.slice a n c)]),(1,.cells 3 [.v (.int .i64 ((stmtsN p:Int)+2*(n:Int)))])],2⟩)
  (fun _ H'=>H'=H) (by kernel_rfl) ⟨?_,?_⟩ ?_
 ·exact⟨cx_ok.tt,cx_ok.eqs⟩
 ·exact cx_mix
 ·refine⟨⟨by omega,by omega⟩,?_⟩;refine stmts_spec ha hc ?_;refine⟨⟨by omega,by omega⟩,?_⟩;refine⟨(),[(0,0),(1,1)],?_,rfl⟩
  (repeat' (first|exact trivial|refine⟨?_,?_⟩|exact rfl|assumption))
 ·refine⟨⟨by omega,by omega⟩,?_⟩;refine stmts_spec ha hc ?_;refine⟨⟨by omega,by omega⟩,?_⟩;refine⟨(),[(0,0),(1,1)],?_,rfl⟩
  (repeat' (first|exact trivial|refine⟨?_,?_⟩|exact rfl|assumption))
 rintro _ H8 _ rfl;have hW:=wtI_le p
 have e0:SV.v (.int .i64 ((stmtsN p:Int)+2*(n:Int)))=SV.v (.int .i64 ((wtI p 0:Nat):Int)):=by
  have:wtI p 0=stmtsN p+2*n:=by rw[wtI,List.take_zero,hn];rfl
  rw[this];push_cast;rfl
 refine⟨Nat,fun i=>⟨[(3,.ptr 1 0),(4,.fn 48 [.ptr 1 0]),(18,.v (.slice a n c)),(19,.v (.int .i64 n)),(20,.v (.int .i64 i))],[(1,.cells 3 [.v (.int .i64 (wtI p i:Nat))])],2⟩,
  fun i H'=>Le H8 H'∧i≤p.length,fun i=>p.length - i,⟨0,[(1,1)],?_,Le.refl _,Nat.zero_le _⟩,?_⟩
 ·(repeat' (first|exact trivial|refine⟨?_,?_⟩|exact rfl|assumption))
 rintro i H1 _ ⟨hle1,hi⟩;have hWi:=hW i;refine⟨fun h=>?_,fun h=>?_⟩
 ·have hlt:i<p.length:=by have:=dt h;omega
  refine name_k p[i] fun b hbe=>?_
  have hbb:p[i]?=some b:=by rw[hbe];exact List.getElem?_eq_getElem hlt
  have hws:=wtI_succ hbb;have hWn:=hW (i+1)
  refine block_k (ha.up hle1) hbb fun ad a5 n5 c5 q1 hh hr5 hs5 ht5=>?_
  have hn5:n5=b.2.1.length:=hr5.n_eq;have hmx5:=hr5.le;refine⟨ad,⟨by omega,by omega,q1⟩,?_⟩;refine⟨_,hh,?_⟩
  refine⟨Nat,fun k=>⟨[(3,.ptr 1 0),(4,.fn 48 [.ptr 1 0]),(6,.ptr 2 0),(18,.v (.slice a n c)),(19,.v (.int .i64 n)),(20,.v (.int .i64 i)),(25,.v (.slice a5 n5 c5)),(26,.v (.int .i64 n5)),(27,.v (.int .i64 k))],[(1,.cells 3 [.v (.int .i64 (wtI p i+((b.2.1.take k).map stW).sum:Nat))]),(2,.cells 66 (bC b (.v (.slice a5 n5 c5))))],3⟩,
   fun k H'=>Le H1 H'∧k≤b.2.1.length,fun k=>b.2.1.length - k,⟨0,[(1,1),(2,2)],?_,Le.refl H1,Nat.zero_le _⟩,?_⟩
  ·have e1:SV.v (.int .i64 (wtI p i:Nat))=SV.v (.int .i64 (wtI p i+((b.2.1.take 0).map stW).sum:Nat)):=by rw[List.take_zero];rfl
   (repeat' (first|exact trivial|refine⟨?_,?_⟩|exact rfl|assumption))
  rintro k H2 _ ⟨hle2,hk⟩;have hkS:=sumT_le stW b.2.1 k;refine⟨fun h=>?_,fun h=>?_⟩
  ·have hkl:k<b.2.1.length:=by have:=dt h;omega
   refine name_k b.2.1[k] fun s hse=>?_
   have hss:b.2.1[k]?=some s:=by rw[hse];exact List.getElem?_eq_getElem hkl
   have hsT:=sumT stW hss;have hkS2:=sumT_le stW b.2.1 (k+1)
   refine stmt_k (hr5.up hle2) hss fun ad3 q3 hh3 hsr=>?_
   refine⟨ad3,⟨by omega,by omega,q3⟩,?_⟩;refine⟨_,hh3,?_⟩;refine⟨fun h1=>?_,fun h1=>?_⟩
   ·have h1:s.1=1:=dt h1
    refine patoms_spec hsr.2.2 fun a6 n6 c6 H3 hle3 hr6=>?_
    have hal:(atomsOf s.2.2).length≤2:=by
     unfold atomsOf;split
     ·simp
     ·split<;>simp
    refine⟨[1],rfl,countA_spec (by omega) (by omega) hr6 ?_⟩;have hs1:stW s=((atomsOf s.2.2).map atW).sum:=if_pos h1
    have e1:SV.v (.int .i64 (wtI p i+((b.2.1.take k).map stW).sum+((atomsOf s.2.2).map atW).sum:Nat))=SV.v (.int .i64 (wtI p i+((b.2.1.take (k+1)).map stW).sum:Nat)):=by rw[hsT,hs1,Nat.add_assoc]
    refine⟨⟨by omega,by omega⟩,k+1,[(1,1),(2,2)],?_,⟨hle2.trans hle3,hkl⟩,by dsimp only;omega⟩
    (repeat' (first|exact trivial|refine⟨?_,?_⟩|exact rfl|assumption))
   ·have h1:¬s.1=1:=df h1;have hs0:stW s=0:=if_neg h1
    have e1:SV.v (.int .i64 (wtI p i+((b.2.1.take k).map stW).sum:Nat))=SV.v (.int .i64 (wtI p i+((b.2.1.take (k+1)).map stW).sum:Nat)):=by rw[hsT,hs0];rfl
    refine⟨⟨by omega,by omega⟩,k+1,[(1,1),(2,2)],?_,⟨hle2,hkl⟩,by dsimp only;omega⟩
    (repeat' (first|exact trivial|refine⟨?_,?_⟩|exact rfl|assumption))
  ·have hkl:k=b.2.1.length:=by have:=df h;omega
   rw[hkl,List.take_length]at *;refine⟨fun h2=>?_,fun h2=>?_⟩
   ·have h2:b.2.2.1=2:=dt h2;have ht2:tmW b.2.2=1+atW b.2.2.2.1:=if_pos h2;refine⟨⟨by omega,by omega⟩,?_⟩;have e3:((wtI p i+(b.2.1.map stW).sum:Nat)+1:Int)=((wtI p i+(b.2.1.map stW).sum+1:Nat):Int):=rfl;rw[e3];refine⟨[1],rfl,?_⟩;intro v H3 hle3 hv3
    refine of_row_k (α:=Atm) hv3 (show RC (α:=Atm) H3 _ [b.2.2.2.1] from RC.nil.snoc (atm_mk ht5.2.1)) fun a6 n6 c6 ev hr6=>?_
    subst ev;refine countA_spec (by simp) (by omega) hr6 ?_;have hat:=atW_le b.2.2.2.1
    have e1:SV.v (.int .i64 (wtI p i+(b.2.1.map stW).sum+1+([b.2.2.2.1].map atW).sum:Nat))=SV.v (.int .i64 (wtI p (i+1):Nat)):=by
     have e9:([b.2.2.2.1].map atW).sum=atW b.2.2.2.1:=by simp
     rw[hws,ht2,e9,Nat.add_assoc,Nat.add_assoc]
    refine⟨⟨by omega,by omega⟩,i+1,[(1,1)],?_,⟨(hle1.trans hle2).trans hle3.le,hlt⟩,by dsimp only;omega⟩
    (repeat' (first|exact trivial|refine⟨?_,?_⟩|exact rfl|assumption))
   ·have h2:¬b.2.2.1=2:=df h2;have ht2:tmW b.2.2=0:=if_neg h2
    have e1:SV.v (.int .i64 (wtI p i+(b.2.1.map stW).sum:Nat))=SV.v (.int .i64 (wtI p (i+1):Nat)):=by rw[hws,ht2];rfl
    refine⟨⟨by omega,by omega⟩,i+1,[(1,1)],?_,⟨hle1.trans hle2,hlt⟩,by dsimp only;omega⟩
    (repeat' (first|exact trivial|refine⟨?_,?_⟩|exact rfl|assumption))
 ·have hil:i=p.length:=by have:=df h;omega
  rw[hil,wtI_all];exact hK _ hle1
end Go.Proofs
end
section
namespace Go.Proofs
open Go.Sy
set_option maxRecDepth 20000
set_option maxHeartbeats 4000000
end Go.Proofs
end
section
namespace Go.Proofs
open Go.Sy
set_option maxRecDepth 20000
set_option maxHeartbeats 4000000
end Go.Proofs
end
section
namespace Go.Proofs
open Go.Sy
set_option maxRecDepth 20000
set_option maxHeartbeats 4000000
namespace Bt
end Bt
theorem zero_RL:i64R 0:=⟨by decide,by decide⟩
theorem stmt_mk2 {H:Hp} {s:Stmt} (h:stmtR s):Enc.R H (.int .i64 s.1 :: .string (bs s.2.1.l) :: .int .i64 s.2.2.1::(atmV s.2.2.2.1++atmV s.2.2.2.2)) s :=
 ⟨[.int .i64 s.1],_,rfl,⟨rfl,h.1⟩,[.string (bs s.2.1.l)],_,rfl,⟨rfl,h.2.1⟩,[.int .i64 s.2.2.1],atmV s.2.2.2.1++atmV s.2.2.2.2,rfl,⟨rfl,h.2.2.1⟩,atmV s.2.2.2.1,atmV s.2.2.2.2,rfl,atm_mk h.2.2.2.1,atm_mk h.2.2.2.2⟩
end Go.Proofs
end
section
namespace Go.Proofs
open Go.Sy
set_option maxRecDepth 20000
set_option maxHeartbeats 4000000
end Go.Proofs
end
