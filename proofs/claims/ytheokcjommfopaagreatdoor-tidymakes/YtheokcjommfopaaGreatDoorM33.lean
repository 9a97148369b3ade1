/- Part 'M33' of the proof (It4, Lv6, Lv7, Lv8, Lv9, Lr1, Sw1, Sw2, Sl1, Sl2, Td0, Td1, Sw3, Sw4, Sw6, Td4, Td7, Lv10, Lv11, Lv12, Sw7, Lv13, Td2): lemmas, each with its own conditions in its own statement. -/
import Derived.Test.YtheokcjommfopaaGreatDoorM22
import Derived.Test.YtheokcjommfopaaGreatDoorM27
import Derived.Test.YtheokcjommfopaaGreatDoorM29
import Derived.Test.YtheokcjommfopaaGreatDoorM30
import Derived.Test.YtheokcjommfopaaGreatDoorM31
import Derived.Test.YtheokcjommfopaaGreatDoorM32
set_option maxRecDepth 20000
set_option maxHeartbeats 4000000
section
namespace Go.Proofs
open Go.RowKit Go.Shelf Go.Sy
def pC (H:Hp):Prop:=∃cells T fr,H 0=some (.cells cells T fr)∧∀j,j<64→cells[j]?=some (.int .u8 (Lib.deBruijn64tab.getD j 0))
theorem pC.up {H H':Hp} (h:pC H) (hle:Le H H'):pC H':=by
 obtain⟨c,T,fr,h1,h2⟩:=h;exact⟨c,T,fr,hle _ _ h1,h2⟩
theorem x9:∀(l:List UInt64) (i:Nat),∀x∈dN l i,0≤x∧x<((64*(i+l.length):Nat):Int)
 | [],_,x,h=>by cases h
 | w::r,i,x,h=>by
  rw[dN]at h
  rcases List.mem_append.1 h with h | h
  ·obtain⟨k,hk,rfl⟩:=List.mem_map.1 h;have:=List.mem_range.1 (List.mem_filter.1 hk).1;rw[List.length_cons];omega
  ·have:=x9 r (i+1) x h;rw[List.length_cons];omega
theorem KE {ws:List UInt64} (hw:ws.length≤100000) {a:Option Addr} {n c:Nat} {H:Hp} {K:Value→Hp→Prop} (ha:RL H a n c ws) (hT:pC H) (hK:∀a1 n1 c1 H',Le H H'→RL H' a1 n1 c1 (dN ws 0)→K (.slice a1 n1 c1) H'):aq Tryz.prog 105 [.slice a n c] H K:=by
 refine⟨Tryz.call105,fun w hp=>?_⟩;obtain⟨tc,tT,tf,B6,Wt⟩:=hT;have LC:=hp _ _ B6;have hs:0<w.heap.size:=(Array.getElem?_eq_some_iff.1 LC).1
 have ZJ:TabAt 0 Lib.deBruijn64tab w:=fun j hj=>by
  have hj:j<64:=hj;have:=Wt j hj;simp only[World.cell?,LC];exact this
 have hA:Im w a n ws w.heap.size:=by
  refine⟨ha.aB,?_⟩;obtain⟨h1,h2,_,h4⟩:=ha
  rcases h4 with h4 | ⟨ad,e,AG,cells,T,fr,hH,fB,hx⟩
  ·exact .inl (by omega)
  ·obtain⟨b,off,sp⟩:=ad;dsimp only at AG hH hx fB;subst AG;have hb:=hp _ _ hH;refine .inr ⟨b,off,e,(Array.getElem?_eq_some_iff.1 hb).1,fun j hj=>?_⟩
   have eD:j<ws.length:=by omega
   obtain⟨cs,h5,h6⟩:=hx j ws[j] (aL eD);have h5:cs=[.int .u64 ws[j].toNat]:=h5;have h7:=h6 0 (by decide);rw[h5]at h7;simp only[World.cell?,hb];rw[aL eD]
   have e1:off+j*cq.sz UInt64+0=off+j:=by show off+j*1+0=_;omega
   rw[e1]at h7;exact h7
 have hlen:=rF ws 0;refine (callsIn_wide.1 (Pe a n c ws hw w hs ha.2.1 ZJ hA)).mono ?_;rintro e W' ⟨v,rfl,gG,hB⟩
 have UH:RC (α:=Int) H (au (dN ws 0)) (dN ws 0):=cD fun x hx=>by
  have:=x9 ws 0 x hx;exact⟨by omega,by omega⟩
 rcases gG.2 with ⟨rfl,hz⟩ | ⟨g,cap,cur,rfl,hg,ZK,h5,h6,h7,h8⟩
 ·refine⟨_,H,rfl,hK none 0 0 H (Le.refl H) ?_,Le.refl H,fun b o hb=>?_,fun b hb _=>hb,hB⟩
  ·rw[List.eq_nil_of_length_eq_zero hz];exact bz
  ·rw[hB.block b (Array.getElem?_eq_some_iff.1 (hp b o hb)).1];exact hp b o hb
 ·have SC:H g=none:=by
   cases hh:H g with
   | none=>rfl
   | some o=>have:=(Array.getElem?_eq_some_iff.1 (hp g o hh)).1;omega
  obtain⟨H',Ot⟩:∃H':Hp,H'=fun b=>if b=g then some (.cells cur 3 (0,0)) else H b:=⟨_,rfl⟩
  have hle:Le H H':=fun b o hb=>by
   rw[Ot];dsimp only;rw[if_neg (fun e=>by rw[e,SC]at hb;cases hb)];exact hb
  refine⟨_,H',rfl,?_,hle,fun b o hb=>?_,fun b hb aj=>?_,hB⟩
  ·have gF:aW H' (.slice (some ⟨g,0,none⟩) (dN ws 0).length cap) 1 (au (dN ws 0)):=by
    refine⟨some ⟨g,0,none⟩,cap,by rw[List.length_map],⟨by rw[List.length_map];exact h5,by simp only[maxLen]at h6;omega⟩,zm _,.inr ⟨⟨g,0,none⟩,rfl,rfl,cur,3,(0,0),by rw[Ot];simp,by dsimp only;omega,fun i x hi j hj=>?_⟩⟩
    have NY:j=0:=by omega
    subst NY;rw[List.getElem?_map]at hi;obtain⟨y,hy,rfl⟩:=Option.map_eq_some_iff.1 hi;have aX:=(gh.1 hy).1
    have h9:(cur.toList.take ((dN ws 0).length*1))[i]?=some (.int .i64 y):=by rw[h8,List.getElem?_map,hy];rfl
    rw[List.getElem?_take,if_pos (by omega)]at h9
    have e:0+i*1+0=i:=by omega
    rw[e,←Array.getElem?_toList,h9];rfl
   refine bZ (α:=Int) gF (UH.up hle) fun a1 n1 c1 ev hr=>?_
   rw[ev];exact hK _ _ _ _ hle hr
  ·rw[Ot]at hb;dsimp only at hb;split at hb
   ·rename_i e
    rw[e,ZK];exact hb
   ·rw[hB.block b (Array.getElem?_eq_some_iff.1 (hp b o hb)).1];exact hp b o hb
  ·rw[Ot];dsimp only;rw[if_neg (by omega)];exact hb
end Go.Proofs
end
section
namespace Go.Proofs
open Go.Sy
open Tryz
def iT (V:List aQ) (l:List Int):List aQ:=l.map fun n=>V[n.toNat]?.getD []
def pD (x:Wd):List Int:=dN x 0
def j7 (V:List aQ) (x:Wd):List aQ:=iT V (pD x)
theorem pE:∀(l:Wd) (i:Nat) (m:Nat),((m:Int)∈dN l i)↔(64*i≤m∧aM l (m - 64*i)=true)
 | [],i,m=>by simp [dN,aM]
 | w::r,i,m=>by
  rw[dN,List.mem_append,pE r (i+1) m];constructor
  ·rintro (h | ⟨h1,h2⟩)
   ·obtain⟨k,hk,e⟩:=List.mem_map.1 h;obtain⟨h3,h4⟩:=List.mem_filter.1 hk;have h3:=List.mem_range.1 h3
    have e:m=i*64+k:=by omega
    refine⟨by omega,?_⟩;rw[aM,show (m - 64*i) / 64=0 by omega,show (m - 64*i) % 64=k by omega]
    simpa using h4
   ·refine⟨by omega,?_⟩;rw[aM]at h2 ⊢;rw[show (m - 64*i) / 64=(m - 64*(i+1)) / 64+1 by omega,show (m - 64*i) % 64=(m - 64*(i+1)) % 64 by omega,List.getElem?_cons_succ];exact h2
  ·rintro⟨h1,h2⟩
   by_cases h3:m - 64*i<64
   ·left
    refine List.mem_map.2 ⟨m - 64*i,List.mem_filter.2 ⟨List.mem_range.2 h3,?_⟩,by omega⟩;rw[aM,show (m - 64*i) / 64=0 by omega,show (m - 64*i) % 64=m - 64*i by omega]at h2
    simpa using h2
   ·right
    refine⟨by omega,?_⟩;rw[aM]at h2 ⊢;rw[show (m - 64*i) / 64=(m - 64*(i+1)) / 64+1 by omega,show (m - 64*i) % 64=(m - 64*(i+1)) % 64 by omega,List.getElem?_cons_succ]at h2;exact h2
theorem ya:∀(l:Wd) (i:Nat),∀x∈dN l i,0≤x
 | [],_,x,h=>by cases h
 | w::r,i,x,h=>by
  rw[dN]at h
  rcases List.mem_append.1 h with h | h
  ·obtain⟨k,_,rfl⟩:=List.mem_map.1 h;omega
  ·exact ya r (i+1) x h
theorem Hg {w:Nat} {x:Wd} (hx:okB w x):∀n∈pD x,0≤n∧n<(w:Int):=fun n hn=>by
 have h0:=ya x 0 n hn;have h1:=(pE x 0 n.toNat).1 (by rw[Int.toNat_of_nonneg h0];exact hn);refine⟨h0,?_⟩
 by_cases h:n<(w:Int)
 ·exact h
 ·have:=hx.2 n.toNat (by omega)
  have h2:=h1.2;rw[show n.toNat - 64*0=n.toNat by omega,this]at h2;cases h2
theorem Hh {V:List aQ} {x:Wd} (hx:okB V.length x) {i:Nat} {n:Int} (hi:(pD x)[i]?=some n):V[n.toNat]?=some (V[n.toNat]?.getD []):=by
 have h:=Hg hx n (dY hi)
 have h2:n.toNat<V.length:=by omega
 rw[aL h2];rfl
theorem SD {P:Prop} {H:Hp} {a:Option Addr} {n c:Nat} {l:List aQ} (h:RL H a n c (iA l)) {j:Int} (h0:0≤j) {s:aQ} (hi:l[j.toNat]?=some s) (k:∀ad,a=some ad→jz H ad j 1 [.string (bs s)]→s.length≤9223372036854775807→P):P :=
 uX h hi fun ad e1 e2 e3=>k ad e1 (by rw[Int.toNat_of_nonneg h0]at e2;exact e2) e3
theorem uY {V:List aQ} (hV:V.length≤64) {L:List Wd} (hL:∀x∈L,okB V.length x) (XU:L.length≤1000) {a a2:Option Addr} {n c n2 k2:Nat} {H:Hp} {K:Value→Hp→Prop} (ha:RL H a n c (iA V)) (hb:RL H a2 n2 k2 L) (hT:pC H) (hK:∀a1 n1 c1 H',Le H H'→RL (α:=List iz) H' a1 n1 c1 (L.map fun x=>iA (j7 V x))→K (.slice a1 n1 c1) H'):
  aq prog 67 [.slice a n c,.slice a2 n2 k2] H K:=by
 have dd:=ha.aB;rw[List.length_map]at dd;have lv:=hb.aB;have Ia:=tW ha;refine ab af aa rfl func67 call67 ntmps67 results67 rfl rfl ?_
 refine⟨Nat×List (List Value),fun q=>⟨[(0,.v (.slice a n c)),(5,.own 0),(11,.v (.slice a2 n2 k2)),(12,.v (.int .i64 n2)),(13,.v (.int .i64 q.1))],[(0,.row 71 1 q.2)],1⟩,
  fun q H'=>Le H H'∧q.1≤L.length∧RC (α:=List iz) H' q.2 ((L.take q.1).map fun x=>iA (j7 V x)),fun q=>L.length - q.1,⟨(0,[]),[],?_,Le.refl H,Nat.zero_le _,RC.nil⟩,?_⟩
 ·(repeat' first|exact trivial|refine⟨?_,?_⟩|exact rfl|assumption)
 rintro⟨i,css⟩ H1 _ ⟨ak,hi,bf⟩;dsimp only at hi bf
 have fC:css.length=i:=by have h1:=bf.1;rw[List.length_map,List.length_take]at h1;omega
 refine⟨fun h=>?_,fun h=>?_⟩
 ·have aj:i<L.length:=by have:=dt h;dsimp only at this;omega
  refine aD L[i] fun x hx=>?_
  have oi:L[i]?=some x:=by rw[hx];exact aL aj
  have ca:=hL x (by rw[hx];exact List.getElem_mem aj)
  have bc:(L.take (i+1)).map (fun x=>iA (j7 V x))=(L.take i).map (fun x=>iA (j7 V x))++[iA (j7 V x)]:=by
   rw[List.take_add_one,oi,Option.toList_some,List.map_append];rfl
  refine dj (hb.up ak) oi fun ad a5 n5 c5 q1 hh bh=>?_
  refine⟨ad,⟨by dsimp only;omega,by dsimp only;omega,q1⟩,?_⟩;refine⟨_,hh,?_⟩
  refine KE (by rw[ca.1,aU];omega) bh (hT.up ak) fun b1 b2 b3 H2 ah bj=>?_
  have XG:=bj.aB
  have AH:(pD x).length≤64:=by
   have h1:=rF x 0;have h2:=ca.1;unfold aU at h2
   have h3:x.length≤1:=by omega
   show (dN x 0).length≤64;omega
  refine⟨Nat,fun j=>⟨[(0,.v (.slice a n c)),(5,.own 0),(8,.own 1),(11,.v (.slice a2 n2 k2)),(12,.v (.int .i64 n2)),(13,.v (.int .i64 i)),(18,.v (.slice b1 b2 b3)),(19,.v (.int .i64 b2)),(20,.v (.int .i64 j))],[(0,.row 71 1 css),(1,.row 9 1 (ay (iT V ((pD x).take j))))],2⟩,
   fun j H'=>H'=H2∧j≤(pD x).length,fun j=>(pD x).length - j,⟨0,[(0,0)],?_,rfl,Nat.zero_le _⟩,?_⟩
  ·(repeat' first|exact trivial|refine⟨?_,?_⟩|exact rfl|assumption)
  rintro j H3 _ ⟨rfl,hj⟩
  have rO:(ay (iT V ((pD x).take j))).length≤64:=by rw[List.length_map,iT,List.length_map,List.length_take];omega
  refine⟨fun h=>?_,fun h=>?_⟩
  ·have eD:j<(pD x).length:=by have:=dt h;show j<(dN x 0).length;omega
   refine aD (pD x)[j] fun k hk=>?_
   have vz:(pD x)[j]?=some k:=by rw[hk];exact aL eD
   have UI:=Hg ca k (dY vz)
   have ZL:j<b2:=by rw[XG];exact eD
   have e:ay (iT V ((pD x).take j))++[[.string (bs (V[k.toNat]?.getD []))]]=ay (iT V ((pD x).take (j+1))):=by
    rw[iT,iT,List.take_add_one,vz,Option.toList_some,List.map_append,List.map_cons,List.map_nil,dC]
   refine xo bj vz fun ad e1 hh=>?_
   refine⟨ad,⟨by omega,by omega,e1⟩,?_⟩;refine⟨_,hh,?_⟩
   refine SD (ha.up (ak.trans ah)) UI.1 (Hh ca vz) fun iy e2 gj cN=>?_
   refine⟨iy,⟨UI.1,by omega,e2⟩,?_⟩;refine⟨_,gj,?_⟩;refine⟨⟨by show (_+1)*16≤140737488355328;omega,by show _+1≤9223372036854775807;omega⟩,?_⟩;refine⟨⟨by omega,by omega⟩,j+1,[(0,0),(1,3)],?_,⟨rfl,eD⟩,by dsimp only;omega⟩
   (repeat' first|exact trivial|refine⟨?_,?_⟩|exact rfl|assumption)
  ·have eD:j=(pD x).length:=by have:=df h;show j=(dN x 0).length;have O9:j≤(dN x 0).length:=hj;omega
   rw[eD,List.take_length];intro v H6 aI cZ
   have WW:∀s∈iT V (pD x),s.length≤9223372036854775807:=fun s hs=>by
    obtain⟨k,hk,rfl⟩:=List.mem_map.1 hs;obtain⟨i2,Ry⟩:=List.getElem?_of_mem hk;exact Ia _ (dY (Hh ca Ry))
   obtain⟨a7,n7,c7,rfl,dz⟩:=RL.aC (α:=iz) cZ (dU WW);refine⟨⟨by show (css.length+1)*24≤140737488355328;omega,by show css.length+1≤9223372036854775807;omega⟩,?_⟩
   have b8:RC (α:=List iz) H6 (css++[[.slice a7 n7 c7]]) ((L.take (i+1)).map fun x=>iA (j7 V x)):=by
    rw[bc];exact RC.snoc (RC.up bf (ah.trans aI.le)) (show cq.R (α:=List iz) H6 [.slice a7 n7 c7] (iA (j7 V x)) from ⟨a7,n7,c7,rfl,dz⟩)
   refine⟨⟨by omega,by omega⟩,(i+1,css++[[.slice a7 n7 c7]]),[(0,3)],?_,⟨(ak.trans ah).trans aI.le,aj,b8⟩,by dsimp only;omega⟩
   (repeat' first|exact trivial|refine⟨?_,?_⟩|exact rfl|assumption)
 ·have aX:i=L.length:=by have:=df h;dsimp only at this;omega
  rw[aX,List.take_length]at bf;intro v H6 aI cZ;obtain⟨a7,n7,c7,rfl,dz⟩:=RL.aC (α:=List iz) cZ (RC.up bf aI.le);exact hK _ _ _ _ (ak.trans aI.le) dz
end Go.Proofs
end
section
namespace Go.Proofs
open Go.Sy
open Tryz
theorem IK {α:Type} (f:α→Bool):∀(l:List α) (i:Nat),∀n∈dV f l i,(i:Int)≤n∧n<((i+l.length:Nat):Int)
 | [],_,n,h=>by simp [dV]at h
 | x::r,i,n,h=>by
  have ih:=IK f r (i+1);rw[dV]at h;rw[List.length_cons];split at h
  ·rcases List.mem_cons.1 h with rfl | h
   ·omega
   ·have:=ih n h;omega
  ·have:=ih n h;omega
theorem mX {p:Prog} (h:al p=0):Bt.gd (ck p):=by
 have hf:=cj h;refine⟨.inl rfl,?_,?_,?_,?_,?_,?_,?_,?_⟩
 ·show (varsOf p).length≤1024;omega
 ·show 1≤p.length∧p.length≤256;omega
 ·show (aR (iZ (aR (aG p)))).length≤1024;have h0:=dP (iZ (aR (aG p)));rw[List.length_map]at h0;have h1:=dP (aG p);have h2:=fa p p 0;rw[aG]at h1 h0 ⊢;omega
 ·intro e he;have he:e∈iZ (aR (aG p)):=(bJ _ _).1 he;obtain⟨e',JU,rfl⟩:=List.mem_map.1 he;have JU:e'∈aG p:=(bJ _ _).1 JU;have h1:=Bv p 0 e' JU;show (0≤e'.2∧e'.2<(p.length:Nat))∧0≤e'.1∧e'.1<(p.length:Nat);omega
 ·intro v hv;have:=IK b7 p 0 v hv;show 0≤v∧v<(p.length:Nat);omega
 ·exact ek _
 ·exact List.length_map _
 ·intro t ht;have ht:t∈p.map (yp (varsOf p)):=ht;obtain⟨b,hb,rfl⟩:=List.mem_map.1 ht;exact Nw _ b
theorem Ny {p:Prog} (h:al p=0):∀x∈Bt.sA (ck p) (Bt.cU (ck p)),okB (varsOf p).length x:=fun x hx=>by
 have ho:=mX h;obtain⟨v,hv,rfl⟩:=List.mem_map.1 hx;exact Bt.BK (Bt.j4 ho v).1 (Bt.j4 ho v).2 (Bt.fO (Bt.fg ho) (List.mem_range.1 hv))
def sQ (p:Prog):List (List aQ):=(Bt.sA (ck p) (Bt.cU (ck p))).map (j7 (varsOf p))
def gR (p:Prog):List (List aQ):=(Bt.cU (ck p)).map (j7 (varsOf p))
theorem Hi {p:Prog} (hp:p.length≤12) (hl:∀b∈p,b.2.1.length≤100000) (hc:aw p≤1000000) (hv:iE p<400000) {a:Option Addr} {n c:Nat} {H:Hp} {K:Value→Hp→Prop} (ha:RL H a n c p) (hT:pC H)
  (fK:al p≠0→∀H',Le H H'→K (.tuple #[.slice none 0 0,.slice none 0 0,.int .i64 (al p)]) H')
  (hK:al p=0→∀a1 n1 c1 a2 n2 c2 H',Le H H'→RL (α:=List iz) H' a1 n1 c1 ((sQ p).map iA)→RL (α:=List iz) H' a2 n2 c2 ((gR p).map iA)→K (.tuple #[.slice a1 n1 c1,.slice a2 n2 c2,.int .i64 0]) H'):
  aq prog 33 [.agg #[.slice a n c]] H K:=by
 have hn:=ha.aB;refine ab af aa rfl func33 call33 ntmps33 results33 rfl rfl ?_;refine KD hp hl hc hv ha (fun he H1 ak=>?_) (fun he z H1 ak hs=>?_)
 ·refine⟨fun _=>?_,(fun h=>absurd (nf h) he)⟩;exact fK he _ ak
 ·have ho:=mX he;have hA:=Bt.fg ho;refine⟨fun h=>absurd rfl (nt h),fun _=>?_⟩
  refine Bt.pf ho hs fun a1 n1 c1 k H2 ah bj=>?_
  refine Bt.q9 ho hA (hs.up ah) bj fun a2 n2 c2 H3 az db=>?_
  have hle:=(ak.trans ah).trans az
  refine kM (ha.up hle) hv fun av nv cv H4 aN yo=>?_
  have Nx:=BO he;have vk:=hle.trans aN;have hm:(Bt.cU (ck p)).length=p.length:=hA.len
  refine uY (V:=varsOf p) Nx (Ny he) (by rw[Bt.sA,List.length_map,List.length_range];show p.length≤1000;omega) yo (db.up aN) (hT.up vk) fun a5 n5 c5 H5 aK ct=>?_
  refine uY (V:=varsOf p) Nx (fun x hx=>hA.ok x hx) (by omega) (yo.up aK) (bj.up ((az.trans aN).trans aK)) (hT.up (vk.trans aK)) fun a6 n6 c6 H6 aI ji=>?_
  refine hK he _ _ _ _ _ _ H6 ((vk.trans aK).trans aI) ?_ ?_
  ·rw[sQ,List.map_map];exact ct.up aI
  ·rw[gR,List.map_map];exact ji
end Go.Proofs
end
section
namespace Go.Proofs
open Go.Sy
def bT (v:aQ) (t:Term):List Stmt→Int
 | []=>if t.1=2∧t.2.1.1.l=v then 1 else 0
 | s::r=>if v∈iR s then 1 else if s.1≠3∧s.2.1.l=v then 2 else bT v t r
def ma (V:List aQ) (b:Block) (i:Nat):List Int:=((List.range i).filter fun k=>decide (bT (V[k]?.getD []) b.2.2 b.2.1=1)).map fun k:Nat=>(k:Int)
def qC (V:List aQ) (l:List Stmt) (k:Nat):List Int:=(l.filter fun x=>decide (x.1≠3∧x.2.1.l=V[k]?.getD [])).map fun _=>(k:Int)
def gm (V:List aQ) (b:Block) (i:Nat):List Int:=(List.range i).flatMap (qC V b.2.1)
def UJ (V:List aQ) (b:Block):Wd×Wd:=(Hb V.length (ma V b V.length),Hb V.length (gm V b V.length))
theorem IL {V:List aQ} (hV:bq V) {m:Nat} {v:aQ} (hm:V[m]?=some v) (t:aQ):bw t V 0=(m:Int)↔t=v:=by
 have wE:∀(i j:Nat) (x:aQ),V[i]?=some x→V[j]?=some x→i=j:=fun i j x hi hj=>by
  obtain⟨h1,rfl⟩:=gh.1 hi;obtain⟨h2,h3⟩:=gh.1 hj
  rcases Nat.lt_trichotomy i j with h | h | h
  ·have:=List.pairwise_iff_getElem.1 hV i j h1 h2 h;rw[h3]at this;exact absurd this (eQ _)
  ·exact h
  ·have:=List.pairwise_iff_getElem.1 hV j i h2 h1 h;rw[h3]at this;exact absurd this (eQ _)
 constructor
 ·intro h;have kX:t∈V:=mS (Int.le_refl 0) (by omega);have h2:=(sD t V 0 (Int.le_refl 0) kX).2.2;rw[h,show ((m:Int) - 0).toNat=m by omega,hm]at h2;exact (Option.some.inj h2).symm
 ·rintro rfl;have kX:t∈V:=dY hm;have h1:=sD t V 0 (Int.le_refl 0) kX;have:=wE _ _ _ h1.2.2 hm;omega
theorem EJ {V:List aQ} (hV:bq V) {m:Nat} {v:aQ} (hm:V[m]?=some v) (t:aQ):aM (qm V t) m=decide (t=v):=by
 have aj:=(gh.1 hm).1;rw[qm,x6]
 by_cases h:t=v
 ·rw[decide_eq_true h];refine decide_eq_true ⟨aj,?_⟩;rw[List.mem_singleton];exact ((IL hV hm t).2 h).symm
 ·rw[decide_eq_false h]
  refine decide_eq_false fun h2=>h ((IL hV hm t).1 ?_)
  exact (List.mem_singleton.1 h2.2).symm
theorem BP {V:List aQ} (hV:bq V) {m:Nat} {v:aQ} (hm:V[m]?=some v) {k:Wd} (hk:okB V.length k):∀(l:List aQ) {g:Wd},okB V.length g→aM (qn V k g l) m=(aM g m||(decide (v∈l)&&!aM k m))
 | [],g,_=>by simp [qn]
 | t::r,g,hg=>by
  have hd:=gQ (fq V t) hk;have ih:=BP hV hm hk r (g:=vW g (iw (qm V t) k)) (ub hg hd);rw[show qn V k g (t::r)=qn V k (vW g (iw (qm V t) k)) r from rfl,ih,BF (hg.1.trans hd.1.symm),ua ((fq V t).1.trans hk.1.symm),EJ hV hm]
  by_cases h1:t=v
  ·by_cases h2:v∈r<;>cases aM g m<;>cases aM k m<;>simp [h1,h2]
  ·have h3:¬v=t:=fun e=>h1 e.symm
   by_cases h2:v∈r<;>cases aM g m<;>cases aM k m<;>simp [h1,h2,h3]
theorem IM {V:List aQ} (hV:bq V) {m:Nat} {v:aQ} (hm:V[m]?=some v) (hv:v≠[]) {t:Term} (ht:t.1≠2→t.2.1.1.l=[]):∀(l:List Stmt) {z:Wd×Wd},okB V.length z.1∧okB V.length z.2 →
  aM (qn V (l.foldl (lq V) z).2 (l.foldl (lq V) z).1 (qz [t.2.1.1.l])) m=(aM z.1 m||(!aM z.2 m&&decide (bT v t l=1)))∧aM (l.foldl (lq V) z).2 m=(aM z.2 m||decide (∃s∈l,s.1≠3∧s.2.1.l=v))
 | [],z,hz=>by
  refine⟨?_,by simp⟩;rw[List.foldl_nil,BP hV hm hz.2 _ hz.1]
  have e:decide (v∈qz [t.2.1.1.l])=decide (bT v t []=1):=by
   rw[decide_eq_decide,tX,List.mem_singleton,bT];constructor
   ·rintro⟨h1,h2⟩;rw[if_pos];refine⟨?_,h1.symm⟩
    by_cases h:t.1=2
    ·exact h
    ·rw[ht h]at h1;exact absurd h1 h2
   ·intro h;split at h
    ·rename_i h2;exact⟨h2.2.symm,hv⟩
    ·cases h
  rw[e]
  cases aM z.1 m<;>cases aM z.2 m<;>simp
 | s::r,z,hz=>by
  have Uq:=BN hz s;obtain⟨h1,h2⟩:=IM hV hm hv ht r (z:=lq V z s) Uq;rw[List.foldl_cons];have e1:aM (lq V z s).1 m=(aM z.1 m||(decide (v∈iR s)&&!aM z.2 m)):=BP hV hm hz.2 _ hz.1
  have e2:aM (lq V z s).2 m=(aM z.2 m||decide (s.1≠3∧s.2.1.l=v)):=by
   show aM (if s.1=3 then z.2 else vW z.2 (qm V s.2.1.l)) m=_;split
   ·rename_i h;simp [h]
   ·rename_i h;rw[BF (hz.2.1.trans (fq V _).1.symm),EJ hV hm];simp [h]
  refine⟨?_,?_⟩
  ·rw[h1,e1,e2,bT]
   by_cases a1:v∈iR s<;>by_cases a2:s.1≠3∧s.2.1.l=v<;>cases aM z.1 m<;>cases aM z.2 m<;>simp [a1,a2]
  ·rw[h2,e2,Bool.or_assoc]
   congr 1
   by_cases a2:s.1≠3∧s.2.1.l=v
   ·simp [a2]
   ·by_cases a3:∃x∈r,x.1≠3∧x.2.1.l=v<;>simp [a2,a3]
theorem SE {V:List aQ} (hV:bq V) (cu:¬[]∈V) {b:Block} (ht:b.2.2.1≠2→b.2.2.2.1.1.l=[]):yp V b=UJ V b:=by
 have ca:=Nw V b
 have key:∀m v,V[m]?=some v→_:=fun m v hm=>IM hV hm (fun e=>cu (e▸dY hm)) ht b.2.1 (z:=(dn V.length,dn V.length)) ⟨ek _,ek _⟩
 have hg:∀k:Nat,(k:Int)∈ma V b V.length↔k<V.length∧bT (V[k]?.getD []) b.2.2 b.2.1=1:=fun k=>by
  rw[ma,List.mem_map];constructor
  ·rintro⟨j,hj,e⟩
   have:j=k:=by omega
   subst this;obtain⟨h1,h2⟩:=List.mem_filter.1 hj;exact⟨List.mem_range.1 h1,dt h2⟩
  ·rintro⟨h1,h2⟩;exact⟨k,List.mem_filter.2 ⟨List.mem_range.2 h1,decide_eq_true h2⟩,rfl⟩
 have hk:∀k:Nat,(k:Int)∈gm V b V.length↔k<V.length∧∃s∈b.2.1,s.1≠3∧s.2.1.l=V[k]?.getD []:=fun k=>by
  rw[gm,List.mem_flatMap];constructor
  ·rintro⟨j,hj,h⟩;obtain⟨s,hs,e⟩:=List.mem_map.1 h
   have:j=k:=by omega
   subst this;obtain⟨h1,h2⟩:=List.mem_filter.1 hs;exact⟨List.mem_range.1 hj,s,h1,dt h2⟩
  ·rintro⟨h1,s,hs,h2⟩;exact⟨k,List.mem_range.2 h1,List.mem_map.2 ⟨s,List.mem_filter.2 ⟨hs,decide_eq_true h2⟩,rfl⟩⟩
 refine Prod.ext ?_ ?_
 ·refine sJ (by rw[ca.1.1];exact (BE _ _).symm) fun m=>?_
  show aM (yp V b).1 m=aM (Hb V.length (ma V b V.length)) m;rw[x6]
  by_cases hm:m<V.length
  ·have h:=(key m V[m] (aL hm)).1;show aM (qn V _ _ _) m=_;rw[h,dn,nW,Bool.false_or,Bool.not_false,Bool.true_and,decide_eq_decide,hg,aL hm];simp [hm]
  ·rw[ca.1.2 m (by omega)];exact (decide_eq_false fun h=>hm h.1).symm
 ·refine sJ (by rw[ca.2.1];exact (BE _ _).symm) fun m=>?_
  show aM (yp V b).2 m=aM (Hb V.length (gm V b V.length)) m;rw[x6]
  by_cases hm:m<V.length
  ·have h:=(key m V[m] (aL hm)).2;show aM (b.2.1.foldl (lq V) (dn V.length,dn V.length)).2 m=_;rw[h,dn,nW,Bool.false_or,decide_eq_decide,hk,aL hm];simp [hm]
  ·rw[ca.2.2 m (by omega)];exact (decide_eq_false fun h=>hm h.1).symm
end Go.Proofs
end
section
namespace Go.Proofs
open Go.Sy
open Tryz
variable {H:Hp} {K:Value→Hp→Prop}
theorem pF {l:List aQ} {s:aQ} {a:Option Addr} {n c:Nat} (ha:RL H a n c (iA l)) (hK:K (.bool (decide (s∈l))) H):aq prog 187 [.slice a n c,.string (bs s)] H K:=by
 have dd:=ha.aB;rw[List.length_map]at dd;have eI:=ha.le;refine ab af aa rfl func187 call187 ntmps187 results187 rfl rfl ?_
 refine⟨Nat,fun i=>⟨[(1,.v (.string (bs s))),(7,.v (.slice a n c)),(8,.v (.int .i64 n)),(9,.v (.int .i64 i))],[],0⟩,
  fun i H'=>H'=H∧i≤l.length∧¬s∈l.take i,fun i=>l.length - i,⟨0,[],?_,rfl,Nat.zero_le _,by simp⟩,?_⟩
 ·(repeat' first|exact trivial|refine⟨?_,?_⟩|exact rfl|assumption)
 rintro i H1 _ ⟨rfl,hi,hx⟩;refine⟨fun h=>?_,fun h=>?_⟩
 ·have aj:i<l.length:=by have:=dt h;omega
  refine uX ha (aL aj) fun ad e1 hh _=>?_
  refine⟨ad,⟨by omega,by omega,e1⟩,?_⟩;refine⟨_,hh,?_⟩;refine⟨fun h=>?_,fun h=>?_⟩
  ·have he:l[i]=s:=dt h;refine aA hK (decide_eq_true ?_)
   rw[←he];exact List.getElem_mem aj
  ·have he:¬l[i]=s:=df h;refine⟨⟨by omega,by omega⟩,i+1,[],?_,⟨rfl,aj,fun hm=>?_⟩,by dsimp only;omega⟩
   ·(repeat' first|exact trivial|refine⟨?_,?_⟩|exact rfl|assumption)
   ·rw[List.take_add_one,aL aj,Option.toList_some,List.mem_append,List.mem_singleton]at hm
    rcases hm with hm | hm
    ·exact hx hm
    ·exact he hm.symm
 ·have aX:i=l.length:=by have:=df h;omega
  rw[aX,List.take_length]at hx;exact aA hK (decide_eq_false hx)
theorem uZ {b:Block} (hb:b.2.1.length≤100000) {v:aQ} {la:Option Addr} {ln lc:Nat} (hl:RL H la ln lc b.2.1) (hK:∀H',Le H H'→K (.int .i64 (bT v b.2.2 b.2.1)) H'):
  aq prog 186 [PN (.slice la ln lc) b,.int .i64 0,.string (bs v)] H K:=by
 have QE:=hl.aB;have eI:=hl.le;have iK:=hl.cut (l:=0) (k:=ln) (Nat.zero_le _) (Nat.le_refl _);rw[List.drop_zero,QE,List.take_length]at iK;rw[←QE]at iK;refine ab af aa rfl func186 call186 ntmps186 results186 rfl rfl ?_;refine⟨⟨by omega,by omega,by have:=hl.2.1;omega⟩,?_⟩;have iK:RL H (dR la 0 lc 9) (ln - 0) (lc - 0) b.2.1:=iK;have VO:=iK.aB
 refine⟨Nat,fun i=>⟨[(2,.v (.string (bs v))),(3,.ptr 0 0),(12,.v (.slice (dR la 0 lc 9) (ln - 0) (lc - 0))),(13,.v (.int .i64 ((ln - 0:Nat)))),(14,.v (.int .i64 i))],[(0,.cells 66 (vL (rr (.slice la ln lc) b)))],1⟩,
  fun i H'=>Le H H'∧i≤b.2.1.length∧bT v b.2.2 b.2.1=bT v b.2.2 (b.2.1.drop i),fun i=>b.2.1.length - i,⟨0,[(0,0)],?_,Le.refl H,Nat.zero_le _,rfl⟩,?_⟩
 ·(repeat' first|exact trivial|refine⟨?_,?_⟩|exact rfl|assumption)
 rintro i H1 _ ⟨hle,hi,hx⟩;refine⟨fun h=>?_,fun h=>?_⟩
 ·have aj:i<b.2.1.length:=by have:=dt h;omega
  refine aD b.2.1[i] fun s hs=>?_
  have dy:b.2.1[i]?=some s:=by rw[hs];exact aL aj
  rw[List.drop_eq_getElem_cons aj,←hs,bT]at hx
  refine du (iK.up hle) dy fun ad e1 hh SB=>?_
  refine⟨ad,⟨by omega,by omega,e1⟩,?_⟩;refine⟨_,hh,?_⟩
  refine xX SB fun u1 u2 u3 H3 az N0=>?_
  refine pF N0 ?_;refine⟨fun h=>?_,fun h=>?_⟩
  ·have hm:v∈iR s:=dt h;rw[if_pos hm]at hx;rw[hx]at hK;exact hK _ (hle.trans az)
  ·have hm:¬v∈iR s:=df h;rw[if_neg hm]at hx;refine⟨fun h=>?_,fun h=>?_⟩
   ·have kJ:¬s.1=3:=nt h;refine⟨fun h=>?_,fun h=>?_⟩
    ·have he:s.2.1.l=v:=dt h;rw[if_pos ⟨kJ,he⟩]at hx;rw[hx]at hK;exact hK _ (hle.trans az)
    ·have he:¬s.2.1.l=v:=df h;rw[if_neg (fun h=>he h.2)]at hx;refine⟨⟨by omega,by omega⟩,i+1,[(0,0)],?_,⟨hle.trans az,aj,hx⟩,by dsimp only;omega⟩
     (repeat' first|exact trivial|refine⟨?_,?_⟩|exact rfl|assumption)
   ·have kJ:s.1=3:=nf h;rw[if_neg (fun h=>h.1 kJ)]at hx;refine⟨⟨by omega,by omega⟩,i+1,[(0,0)],?_,⟨hle.trans az,aj,hx⟩,by dsimp only;omega⟩
    (repeat' first|exact trivial|refine⟨?_,?_⟩|exact rfl|assumption)
 ·have aX:i=b.2.1.length:=by have:=df h;omega
  rw[aX,List.drop_length,bT]at hx;refine⟨fun h=>?_,fun h=>?_⟩
  ·have kY:b.2.2.1=2:=dt h;refine⟨fun h=>?_,fun h=>?_⟩
   ·have he:b.2.2.2.1.1.l=v:=dt h;rw[if_pos ⟨kY,he⟩]at hx;rw[hx]at hK;exact hK _ hle
   ·have he:¬b.2.2.2.1.1.l=v:=df h;rw[if_neg (fun h=>he h.2)]at hx;rw[hx]at hK;exact hK _ hle
  ·have kY:¬b.2.2.1=2:=df h;rw[if_neg (fun h=>kY h.1)]at hx;rw[hx]at hK;exact hK _ hle
end Go.Proofs
end
section
namespace Go.Proofs
open Go.Sy
theorem Nz {p:Prog} (he:al p=0) {b:Block} (hb:b∈p):b.2.2.1≠2→b.2.2.2.1.1.l=[]:=fun h2=>by
 have hB:=(cj he).2.2.2 b hb;rw[bM,Bool.and_eq_true,Bool.and_eq_true]at hB;have ht:=hB.1.2;unfold fJ at ht;split at ht
 ·simp only[Bool.and_eq_true,decide_eq_true_eq]at ht
  rw[ht.2.2];rfl
 ·split at ht
  ·simp only[Bool.and_eq_true,decide_eq_true_eq]at ht
   rw[ht.2];rfl
  ·cases ht
def agree (V:List aQ) (P:Nat→aQ→Prop) (e1 e2:List Nm):Prop :=
 e1.length=V.length∧e2.length=V.length∧∀(m:Nat) (v:aQ),V[m]?=some v→P m v→e1[m]?=e2[m]?
end Go.Proofs
end
section
namespace Go.Proofs
open Go.Sy
open Tryz
def ru (v:aQ) (t:aQ):List Stmt→Bool×Bool
 | []=>(decide (t=v),decide (t=v))
 | s::r=>if v∈iR s then (true,true) else if s.1≠3∧s.2.1.l=v then (false,true) else ru v t r
theorem EK {b:Block} {k:Nat} {v:aQ} (hk:k≤b.2.1.length) (hb:b.2.1.length≤100000) {la:Option Addr} {ln lc:Nat} {H:Hp} {K:Value→Hp→Prop} (ha:RL H la ln lc b.2.1)
  (hK:∀H',Le H H'→K (.tuple #[.bool (ru v b.2.2.2.1.1.l (b.2.1.drop k)).1,.bool (ru v b.2.2.2.1.1.l (b.2.1.drop k)).2]) H'):
  aq prog 34 [PN (.slice la ln lc) b,.int .i64 (k:Nat),.string (bs v)] H K:=by
 have hn:=ha.aB;have eI:=ha.le;have iK:=ha.cut (l:=k) (k:=ln) (by omega) (Nat.le_refl _);rw[hn,List.take_length]at iK;rw[←hn]at iK;generalize hL:b.2.1.drop k=L at *
 have XU:L.length=ln - k:=by rw[←hL,List.length_drop,hn]
 refine ab af aa rfl func34 call34 ntmps34 results34 rfl rfl ?_;refine⟨⟨by omega,by omega,by have:=ha.2.1;omega⟩,?_⟩;have iK:RL H (dR la k lc 9) (ln - k) (lc - k) L:=iK
 refine⟨Nat,fun i=>⟨[(2,.v (.string (bs v))),(3,.ptr 0 0),(13,.v (.slice (dR la k lc 9) (ln - k) (lc - k))),(14,.v (.int .i64 ((ln - k:Nat)))),(15,.v (.int .i64 i))],[(0,.cells 66 (vL (rr (.slice la ln lc) b)))],1⟩,
  fun i H'=>Le H H'∧i≤L.length∧ru v b.2.2.2.1.1.l L=ru v b.2.2.2.1.1.l (L.drop i),fun i=>L.length - i,⟨0,[(0,0)],?_,Le.refl H,Nat.zero_le _,rfl⟩,?_⟩
 ·(repeat' first|exact trivial|refine⟨?_,?_⟩|exact rfl|assumption)
 rintro i H1 _ ⟨hle,hi,hx⟩;refine⟨fun h=>?_,fun h=>?_⟩
 ·have aj:i<L.length:=by have:=dt h;omega
  refine aD L[i] fun s hs=>?_
  have dy:L[i]?=some s:=by rw[hs];exact aL aj
  rw[List.drop_eq_getElem_cons aj,←hs,ru]at hx
  refine du (iK.up hle) dy fun ad e1 hh SB=>?_
  refine⟨ad,⟨by omega,by omega,e1⟩,?_⟩;refine⟨_,hh,?_⟩
  refine xW SB fun u1 u2 u3 H3 az N0=>?_
  refine l6 N0 ?_;refine⟨fun h=>?_,fun h=>?_⟩
  ·have hm:v∈iR s:=dt h;rw[if_pos hm]at hx;rw[hx]at hK;exact hK _ (hle.trans az)
  ·have hm:¬v∈iR s:=df h;rw[if_neg hm]at hx;refine⟨fun h=>?_,fun h=>?_⟩
   ·have kJ:¬s.1=3:=nt h;refine⟨fun h=>?_,fun h=>?_⟩
    ·have he:s.2.1.l=v:=by have:=dt h;rw[dM,dM]at this;exact this
     rw[if_pos ⟨kJ,he⟩]at hx;rw[hx]at hK;exact hK _ (hle.trans az)
    ·have he:¬s.2.1.l=v:=by have:=df h;rw[dM,dM]at this;exact this
     rw[if_neg (fun h=>he h.2)]at hx;refine⟨⟨by omega,by omega⟩,i+1,[(0,0)],?_,⟨hle.trans az,aj,hx⟩,by dsimp only;omega⟩
     (repeat' first|exact trivial|refine⟨?_,?_⟩|exact rfl|assumption)
   ·have kJ:s.1=3:=nf h;rw[if_neg (fun h=>h.1 kJ)]at hx;refine⟨⟨by omega,by omega⟩,i+1,[(0,0)],?_,⟨hle.trans az,aj,hx⟩,by dsimp only;omega⟩
    (repeat' first|exact trivial|refine⟨?_,?_⟩|exact rfl|assumption)
 ·have aX:i=L.length:=by have:=df h;omega
  rw[aX,List.drop_length,ru]at hx;rw[hx]at hK;refine⟨some ([],[0,1,2,3,4,5,6,7,8,9,10,11,12,13]),by kernel_rfl,?_⟩
  have h3:K (.tuple #[.bool (decide (sl (bs b.2.2.2.1.1.l)=sl (bs v))),.bool (decide (sl (bs b.2.2.2.1.1.l)=sl (bs v)))]) H1:=by
   rw[dM,dM];exact hK H1 hle
  exact h3
end Go.Proofs
end
section
namespace Go.Proofs
open Go.Sy
open Tryz
def u0 (p:Prog) (i k:Nat) (b:Block) (s:Stmt):Bool :=
 decide (s.1=1)&&!(ru s.2.1.l b.2.2.2.1.1.l (b.2.1.drop (k+1))).1&&((ru s.2.1.l b.2.2.2.1.1.l (b.2.1.drop (k+1))).2||!decide (s.2.1.l∈((gR p)[i]?.getD [])))
def NA (p:Prog) (i:Nat) (b:Block) (k:Nat):List Nm:=(List.range k).flatMap fun j=>if u0 p i j b (b.2.1[j]?.getD (0,⟨[]⟩,(0,(⟨[]⟩,0,0),(⟨[]⟩,0,0))))=true then [((i:Int),(j:Int))] else []
def SF (p:Prog) (n:Nat):List Nm:=(List.range n).flatMap fun i=>NA p i (p[i]?.getD (⟨[]⟩,[],(0,(⟨[]⟩,0,0),⟨[]⟩,⟨[]⟩))) (p[i]?.getD (⟨[]⟩,[],(0,(⟨[]⟩,0,0),⟨[]⟩,⟨[]⟩))).2.1.length
def mY (p:Prog):List Nm:=SF p p.length
theorem EL {p:Prog} {i:Nat} {b:Block} {k:Nat} {s:Stmt} (h:b.2.1[k]?=some s):NA p i b (k+1)=NA p i b k++if u0 p i k b s=true then [((i:Int),(k:Int))] else []:=by
 rw[NA,List.range_succ,List.flatMap_append,List.flatMap_cons,List.flatMap_nil,List.append_nil,h,Option.getD_some];rfl
theorem NB {p:Prog} {i:Nat} {b:Block} (h:p[i]?=some b):SF p (i+1)=SF p i++NA p i b b.2.1.length:=by
 rw[SF,List.range_succ,List.flatMap_append,List.flatMap_cons,List.flatMap_nil,List.append_nil,h,Option.getD_some];rfl
structure WX (p:Prog) (G:Nat→List Nm) (F:Nat→Nat→List Nm):Prop where
 g0:G 0=[]
 f0:∀i,G i=F i 0
 fy:∀i k b s,p[i]?=some b→b.2.1[k]?=some s→u0 p i k b s=true→F i (k+1)=F i k++[((i:Int),(k:Int))]
 fn:∀i k b s,p[i]?=some b→b.2.1[k]?=some s→u0 p i k b s=false→F i (k+1)=F i k
 gs:∀i b,p[i]?=some b→F i b.2.1.length=G (i+1)
 ge:G p.length=mY p
theorem NC {P:Prop} (p:Prog) (k:∀G F,WX p G F→P):P:=by
 refine k (fun i=>SF p i) (fun i k=>SF p i++NA p i (p[i]?.getD (⟨[]⟩,[],(0,(⟨[]⟩,0,0),⟨[]⟩,⟨[]⟩))) k) ⟨rfl,fun i=>?_,fun i k b s hb hs hy=>?_,fun i k b s hb hs hy=>?_,fun i b hb=>?_,rfl⟩
 ·show _=_++[]
  rw[List.append_nil]
 ·show _++NA p i _ (k+1)=_;rw[hb,Option.getD_some,EL hs,if_pos hy,List.append_assoc]
 ·show _++NA p i _ (k+1)=_;rw[hb,Option.getD_some,EL hs,if_neg (by rw[hy];decide),List.append_nil]
 ·show _++NA p i _ _=_;rw[hb,Option.getD_some,←NB hb]
theorem IP {p:Prog} (hp:p.length≤12) (hl:∀b∈p,b.2.1.length≤100000):∀e∈mY p,oh e.1∧oh e.2:=fun e he=>by
 obtain⟨i,hi,h1⟩:=List.mem_flatMap.1 he;obtain⟨k,hk,h2⟩:=List.mem_flatMap.1 h1;have hi:=List.mem_range.1 hi;have hk:=List.mem_range.1 hk;rw[aL hi,Option.getD_some]at hk;have:=hl _ (List.getElem_mem hi);split at h2
 ·rw[List.mem_singleton]at h2;subst h2;exact⟨⟨by show _≤((i:Nat):Int);omega,by show ((i:Nat):Int)≤_;omega⟩,⟨by show _≤((k:Nat):Int);omega,by show ((k:Nat):Int)≤_;omega⟩⟩
 ·cases h2
theorem Hj {p:Prog} (hp:p.length≤12) (hl:∀b∈p,b.2.1.length≤100000) (hc:aw p≤1000000) (hv:iE p<400000) {a:Option Addr} {n c:Nat} {H:Hp} {K:Value→Hp→Prop} (ha:RL H a n c p) (hT:pC H)
  (fK:al p≠0→∀H',Le H H'→K (.tuple #[.slice none 0 0,.int .i64 (al p)]) H')
  (hK:al p=0→∀a1 n1 c1 H',Le H H'→RL (α:=Int×Int) H' a1 n1 c1 (mY p)→K (.tuple #[.slice a1 n1 c1,.int .i64 0]) H'):
  aq prog 11 [.agg #[.slice a n c]] H K:=by
 have hn:=ha.aB
 refine NC p fun G F hF=>?_
 refine ab af aa rfl func11 call11 ntmps11 results11 rfl rfl ?_;refine Hi hp hl hc hv ha hT (fun he H1 ak=>?_) (fun he a1 n1 c1 a2 n2 c2 H1 ak bh bj=>?_)
 ·refine⟨fun _=>fK he _ ak,fun h=>absurd (nf h) he⟩
 refine⟨fun h=>absurd rfl (nt h),fun _=>?_⟩;have lv:=bj.aB;rw[List.length_map]at lv
 have Tb:(gR p).length=p.length:=by rw[gR,List.length_map];exact (Bt.fg (mX he)).len
 refine⟨Nat,fun i=>⟨[(1,.ptr 0 0),(5,.v (.slice a2 n2 c2)),(7,.own 1),(24,.v (.slice a n c)),(25,.v (.int .i64 n)),(26,.v (.int .i64 i))],[(0,.cells 24 [.v (.slice a n c)]),(1,.row 67 2 (ao (G i)))],2⟩,
  fun i H'=>H'=H1∧i≤p.length∧(G i).length≤100000*i,fun i=>p.length - i,⟨0,[(0,0)],?_,rfl,Nat.zero_le _,by rw[hF.g0];exact Nat.zero_le _⟩,?_⟩
 ·have e1:ao (G 0)=[]:=by rw[hF.g0];rfl
  (repeat' first|exact trivial|refine⟨?_,?_⟩|exact rfl|assumption)
 rintro i H3 _ ⟨rfl,hi,S3⟩;refine⟨fun h=>?_,fun h=>?_⟩
 ·have aj:i<p.length:=by have:=dt h;omega
  refine aD p[i] fun b gV=>?_
  have bG:p[i]?=some b:=by rw[gV];exact aL aj
  have oJ:=hl b (dY bG)
  refine bF (ha.up ak) bG fun ad a5 n5 c5 q1 hh ct xw vR=>?_
  have xl:n5=b.2.1.length:=ct.aB
  refine aD ((gR p)[i]'(by omega)) fun g vu=>?_
  have E3:(gR p)[i]?=some g:=by rw[vu];exact aL _
  have SG:((gR p).map iA)[i]?=some (iA g):=by rw[List.getElem?_map,E3];rfl
  refine⟨ad,⟨by omega,by omega,q1⟩,?_⟩;refine⟨_,hh,?_⟩
  refine⟨Nat,fun k=>⟨[(1,.ptr 0 0),(5,.v (.slice a2 n2 c2)),(7,.own 1),(8,.v (.int .i64 i)),(9,.ptr 2 0),(24,.v (.slice a n c)),(25,.v (.int .i64 n)),(26,.v (.int .i64 i)),(32,.v (.slice a5 n5 c5)),(33,.v (.int .i64 n5)),(34,.v (.int .i64 k))],[(0,.cells 24 [.v (.slice a n c)]),(1,.row 67 2 (ao (F i k))),(2,.cells 66 (vL (rr (.slice a5 n5 c5) b)))],3⟩,
   fun k H'=>H'=H3∧k≤b.2.1.length∧(F i k).length≤100000*i+k,fun k=>b.2.1.length - k,⟨0,[(0,0),(1,1),(2,2)],?_,rfl,Nat.zero_le _,by rw[←hF.f0];omega⟩,?_⟩
  ·have e1:ao (G i)=ao (F i 0):=by rw[hF.f0]
   (repeat' first|exact trivial|refine⟨?_,?_⟩|exact rfl|assumption)
  rintro k H4 _ ⟨rfl,hk,yk⟩;have Qj:(ao (F i k)).length=(F i k).length:=List.length_map _;refine⟨fun h=>?_,fun h=>?_⟩
  ·have e8:k<b.2.1.length:=by have:=dt h;omega
   refine aD b.2.1[k] fun s Be=>?_
   have dy:b.2.1[k]?=some s:=by rw[Be];exact aL e8
   refine du ct dy fun iy q2 gj hR=>?_
   refine⟨iy,⟨by omega,by omega,q2⟩,?_⟩;refine⟨_,gj,?_⟩;refine⟨⟨by omega,by omega⟩,?_⟩
   refine EK (k:=k+1) e8 oJ ct fun _ _=>?_
   have mb:u0 p i k b s=(decide (s.1=1)&&!(ru s.2.1.l b.2.2.2.1.1.l (b.2.1.drop (k+1))).1&&((ru s.2.1.l b.2.2.2.1.1.l (b.2.1.drop (k+1))).2||!decide (s.2.1.l∈g))):=by rw[u0,E3,Option.getD_some]
   generalize ru s.2.1.l b.2.2.2.1.1.l (b.2.1.drop (k+1))=A at *;refine⟨some ([],[0,1,2,3,4,5,6,7,8,9,10,11,12,13,14,15,16,17,18,19]),by kernel_rfl,?_⟩;refine⟨fun h1=>?_,fun h1=>?_⟩
   ·have h1:s.1=1:=dt h1;rw[decide_eq_true h1,Bool.true_and]at mb;refine⟨fun h2=>?_,fun h2=>?_⟩
    ·have h2:(!A.1)=true:=h2;rw[h2,Bool.true_and]at mb;refine⟨fun h3=>?_,fun h3=>?_⟩
     ·have h3:A.2=false:=h3;rw[h3,Bool.false_or]at mb
      refine dj bj SG fun sy u1 u2 u3 q3 ql ji=>?_
      refine⟨sy,⟨by omega,by omega,q3⟩,?_⟩;refine⟨_,ql,?_⟩;refine l6 ji ?_;refine⟨fun h4=>?_,fun h4=>?_⟩
      ·have rv:u0 p i k b s=true:=by rw[mb];exact h4
       have e1:ao (F i k)++[[.int .i64 (i:Nat),.int .i64 (k:Nat)]]=ao (F i (k+1)):=by rw[hF.fy i k b s bG dy rv,ao,ao,List.map_append];rfl
       refine⟨⟨by show ((ao (F i k)).length+1)*16≤140737488355328;omega,by show (ao (F i k)).length+1≤9223372036854775807;omega⟩,?_⟩;refine⟨⟨by omega,by omega⟩,k+1,[(0,0),(1,5),(2,2)],?_,⟨rfl,e8,by rw[hF.fy i k b s bG dy rv,List.length_append,List.length_singleton];omega⟩,by dsimp only;omega⟩
       (repeat' first|exact trivial|refine⟨?_,?_⟩|exact rfl|assumption)
      ·have gZ:u0 p i k b s=false:=by rw[mb];exact h4
       have e1:ao (F i k)=ao (F i (k+1)):=by rw[hF.fn i k b s bG dy gZ]
       refine⟨⟨by omega,by omega⟩,k+1,[(0,0),(1,1),(2,2)],?_,⟨rfl,e8,by rw[hF.fn i k b s bG dy gZ];omega⟩,by dsimp only;omega⟩
       (repeat' first|exact trivial|refine⟨?_,?_⟩|exact rfl|assumption)
     ·have h3:A.2=true:=h3
      have rv:u0 p i k b s=true:=by rw[mb,h3];rfl
      have e1:ao (F i k)++[[.int .i64 (i:Nat),.int .i64 (k:Nat)]]=ao (F i (k+1)):=by rw[hF.fy i k b s bG dy rv,ao,ao,List.map_append];rfl
      refine⟨⟨by show ((ao (F i k)).length+1)*16≤140737488355328;omega,by show (ao (F i k)).length+1≤9223372036854775807;omega⟩,?_⟩;refine⟨⟨by omega,by omega⟩,k+1,[(0,0),(1,5),(2,2)],?_,⟨rfl,e8,by rw[hF.fy i k b s bG dy rv,List.length_append,List.length_singleton];omega⟩,by dsimp only;omega⟩
      (repeat' first|exact trivial|refine⟨?_,?_⟩|exact rfl|assumption)
    ·have h2:(!A.1)=false:=h2
     have gZ:u0 p i k b s=false:=by rw[mb,h2];rfl
     have e1:ao (F i k)=ao (F i (k+1)):=by rw[hF.fn i k b s bG dy gZ]
     refine⟨⟨by omega,by omega⟩,k+1,[(0,0),(1,1),(2,2)],?_,⟨rfl,e8,by rw[hF.fn i k b s bG dy gZ];omega⟩,by dsimp only;omega⟩
     (repeat' first|exact trivial|refine⟨?_,?_⟩|exact rfl|assumption)
   ·have h1:¬s.1=1:=df h1
    have gZ:u0 p i k b s=false:=by rw[mb,decide_eq_false h1];rfl
    have e1:ao (F i k)=ao (F i (k+1)):=by rw[hF.fn i k b s bG dy gZ]
    refine⟨⟨by omega,by omega⟩,k+1,[(0,0),(1,1),(2,2)],?_,⟨rfl,e8,by rw[hF.fn i k b s bG dy gZ];omega⟩,by dsimp only;omega⟩
    (repeat' first|exact trivial|refine⟨?_,?_⟩|exact rfl|assumption)
  ·have e8:k=b.2.1.length:=by have:=df h;omega
   subst e8
   have e1:ao (F i b.2.1.length)=ao (G (i+1)):=by rw[hF.gs i b bG]
   refine⟨⟨by omega,by omega⟩,i+1,[(0,0),(1,1)],?_,⟨rfl,aj,by rw[←hF.gs i b bG];omega⟩,by dsimp only;omega⟩
   (repeat' first|exact trivial|refine⟨?_,?_⟩|exact rfl|assumption)
 ·have aX:i=p.length:=by have:=df h;omega
  subst aX;rw[hF.ge];intro v H5 aK R4
  refine bZ (α:=Int×Int) R4 (wV (IP hp hl)) fun d1 d2 d3 ev hr=>?_
  subst ev;exact hK he _ _ _ _ (ak.trans aK.le) hr
end Go.Proofs
end
section
namespace Go.Proofs
open Go.Sy
def rE (p:Prog) (i:Nat) (b:Block):List Stmt→Nat→List Stmt
 | [],_=>[]
 | s::r,k=>if u0 p i k b s=true then rE p i b r (k+1) else s::rE p i b r (k+1)
def mc (p:Prog) (i:Nat) (b:Block):Block:=(b.1,rE p i b b.2.1 0,b.2.2)
def aS (p:Prog):Prog:=p.mapIdx (mc p)
theorem dJ (p:Prog):(aS p).length=p.length:=List.length_mapIdx
theorem ju {p:Prog} {i:Nat} {b:Block} (h:p[i]?=some b):(aS p)[i]?=some (mc p i b):=by rw[aS,List.getElem?_mapIdx,h];rfl
theorem ry {p:Prog} {b':Block} (h:b'∈aS p):∃i b,p[i]?=some b∧b'=mc p i b:=by
 obtain⟨i,hi⟩:=List.getElem?_of_mem h;have aj:=(gh.1 hi).1;rw[dJ]at aj;have hb:=aL aj;rw[ju hb]at hi;exact⟨i,p[i],hb,(Option.some.inj hi).symm⟩
theorem qg (p:Prog) (i:Nat) (b:Block):∀(l:List Stmt) (k:Nat),∀s∈rE p i b l k,s∈l
 | [],_,s,h=>by cases h
 | x::r,k,s,h=>by
  rw[rE]at h;split at h
  ·exact List.mem_cons_of_mem _ (qg p i b r (k+1) s h)
  ·rcases List.mem_cons.1 h with rfl | h
   ·exact List.mem_cons_self
   ·exact List.mem_cons_of_mem _ (qg p i b r (k+1) s h)
theorem vY (p:Prog) (i:Nat) (b:Block):∀(l:List Stmt) (k:Nat),(rE p i b l k).length≤l.length
 | [],_=>Nat.le_refl _
 | x::r,k=>by
  have ih:=vY p i b r (k+1);rw[rE];split
  ·rw[List.length_cons];omega
  ·rw[List.length_cons,List.length_cons];omega
theorem sS (p:Prog) (i:Nat) (b:Block):∀(l:List Stmt) (k j:Nat) (s:Stmt),l[j]?=some s→rE p i b (l.take (j+1)) k=rE p i b (l.take j) k++if u0 p i (k+j) b s=true then [] else [s]
 | [],_,_,_,h=>by simp at h
 | x::r,k,0,s,h=>by
  rw[List.getElem?_cons_zero]at h;cases h
  rw[List.take_succ_cons,List.take_zero,List.take_zero,rE,rE,Nat.add_zero];rfl
 | x::r,k,j+1,s,h=>by
  rw[List.getElem?_cons_succ]at h;have ih:=sS p i b r (k+1) j s h;rw[show k+1+j=k+(j+1) by omega]at ih;rw[List.take_succ_cons,rE,ih,List.take_succ_cons,rE];split
  ·rfl
  ·rfl
theorem EM (p:Prog) (i:Nat) (b:Block):∀(l:List Stmt) (k:Nat),(rE p i b l k).length=l.length→rE p i b l k=l∧∀(j:Nat) (s:Stmt),l[j]?=some s→u0 p i (k+j) b s=false
 | [],_,_=>⟨rfl,fun j s h=>by simp at h⟩
 | x::r,k,h=>by
  have hl:=vY p i b r (k+1);rw[rE]at h ⊢;split at h
  ·rw[List.length_cons]at h;omega
  ·rename_i hn;rw[List.length_cons,List.length_cons]at h;have ih:=EM p i b r (k+1) (by omega);rw[if_neg hn,ih.1];refine⟨rfl,fun j s hs=>?_⟩
   cases j with
   | zero =>
    rw[List.getElem?_cons_zero]at hs;cases hs;rw[Nat.add_zero]
    simpa using hn
   | succ j =>
    rw[List.getElem?_cons_succ]at hs;have:=ih.2 j s hs;rwa[show k+1+j=k+(j+1) by omega]at this
theorem sT:∀(l:Prog) (f:Nat→Block→Block),(∀i b,l[i]?=some b→(f i b).2.1.length≤b.2.1.length∧((f i b).2.1.length=b.2.1.length→f i b=b))→aw (l.mapIdx f)≤aw l∧(aw (l.mapIdx f)=aw l→l.mapIdx f=l)
 | [],f,_=>⟨Nat.le_refl _,fun _=>rfl⟩
 | b::r,f,h=>by
  have h0:=h 0 b rfl
  have ih:=sT r (fun i=>f (i+1)) fun i b hb=>h (i+1) b hb
  have e1:∀(c:Block) (l:Prog),aw (c::l)=c.2.1.length+aw l:=fun c l=>by simp [aw]
  rw[List.mapIdx_cons,e1,e1];refine⟨by omega,fun hh=>?_⟩;rw[h0.2 (by omega),ih.2 (by omega)]
theorem Hk (p:Prog) (i:Nat) (b:Block):(mc p i b).2.1.length≤b.2.1.length:=vY p i b b.2.1 0
theorem EN {p:Prog} {i:Nat} {b:Block} (h:(mc p i b).2.1.length=b.2.1.length):mc p i b=b:=by
 have:=(EM p i b b.2.1 0 h).1;rw[mc,this]
theorem nZ (p:Prog):aw (aS p)≤aw p∧(aw (aS p)=aw p→aS p=p) :=
 sT p (mc p) fun i b _=>⟨Hk p i b,EN⟩
theorem BQ (p:Prog):lE (aS p)=lE p:=by
 apply List.ext_getElem?;intro i;rw[List.getElem?_map,List.getElem?_map]
 cases h:p[i]? with
 | none =>
  rw[List.getElem?_eq_none (by rw[dJ];exact List.getElem?_eq_none_iff.1 h)]
 | some b=>rw[ju h,Option.map_some,Option.map_some];rfl
theorem Hl {p:Prog}:∀t∈varsOf (aS p),t∈varsOf p:=by
 intro t ht
 have h0:t≠[]:=fun e=>by
  have:=sE ht;rw[e]at this;have:=sF (aS p);omega
 rcases mA (aS p) ht with h | ⟨b',gr,h⟩
 ·cases h
 ·obtain⟨i,b,hb,rfl⟩:=ry gr;have hm:=dY hb;have hv:=(pw p fQ).1 b hm
  rcases h with h | ⟨x',mj,h⟩
  ·rw[h]at h0 ⊢;exact hv.2 h0
  ·exact hv.1 x' (qg p i b _ _ x' mj) t h h0
theorem lM {p:Prog} (h:al p=0):al (aS p)=0:=by
 have hf:=cj h;have h5:=fR h
 have hb:∀b'∈aS p,bM b'=true:=fun b' gr=>by
  obtain⟨i,b,hb,rfl⟩:=ry gr;have hm:=dY hb;have h1:=hf.2.2.2 b hm;have h2:=fP h1;rw[bM,Bool.and_eq_true,Bool.and_eq_true]at h1;rw[bM,Bool.and_eq_true,Bool.and_eq_true];exact⟨⟨h1.1.1,h1.1.2⟩,List.all_eq_true.2 fun x' mj=>h2 x' (qg p i b _ _ x' mj)⟩
 have hn:aF (aS p)=aF p:=BQ p
 have hg:∀b'∈aS p,∀t∈goes b'.2.2,t∈aF (aS p):=fun b' gr t ht=>by
  obtain⟨i,b,hb,rfl⟩:=ry gr;rw[hn];exact nU h (dY hb) ht
 have hd:(aF p).Nodup:=jN h;have hv:(varsOf (aS p)).length≤(varsOf p).length:=List.Nodup.length_le_of_subset (rj _) (fun t ht=>Hl t ht);have hs:=(nZ p).1;unfold al;rw[if_neg (by rw[dJ];omega),if_pos (List.all_eq_true.2 hb),if_neg (by omega),if_pos (by rw[hn];exact hd),if_pos (List.all_eq_true.2 fun b hb=>List.all_eq_true.2 fun t ht=>decide_eq_true (hg b hb t ht))]
theorem Ah {v:aQ} {T:Term} (hv:v≠[]) (hT:T.1≠2→T.2.1.1.l=[]):∀l,ru v T.2.1.1.l l=(decide (bT v T l=1),decide (bT v T l≠0))
 | []=>by
  rw[ru,bT]
  by_cases h:T.2.1.1.l=v
  ·have h2:T.1=2:=by
    by_cases h2:T.1=2
    ·exact h2
    ·exact absurd (h.symm.trans (hT h2)) hv
   rw[if_pos ⟨h2,h⟩,decide_eq_true h];rfl
  ·rw[if_neg (fun hh=>h hh.2),decide_eq_false h];rfl
 | s::r=>by
  rw[ru,bT]
  by_cases h1:v∈iR s
  ·rw[if_pos h1,if_pos h1];rfl
  ·rw[if_neg h1,if_neg h1]
   by_cases h2:s.1≠3∧s.2.1.l=v
   ·rw[if_pos h2,if_pos h2];rfl
   ·rw[if_neg h2,if_neg h2];exact Ah hv hT r
theorem KF {p:Prog} (he:al p=0) {i k:Nat} {b:Block} {s:Stmt} (hb:p[i]?=some b) (hs:b.2.1[k]?=some s):u0 p i k b s=(decide (s.1=1)&&(decide (bT s.2.1.l b.2.2 (b.2.1.drop (k+1))=2)||(decide (bT s.2.1.l b.2.2 (b.2.1.drop (k+1))=0)&&!decide (s.2.1.l∈((gR p)[i]?.getD []))))):=by
 have hm:=dY hb;have bc:=fP ((cj he).2.2.2 b hm) s (dY hs)
 by_cases h1:s.1=1
 ·have hv:s.2.1.l≠[]:=by
   rcases Ko bc with ⟨_,_,_,h⟩ | ⟨h,_⟩ | ⟨h,_⟩
   ·exact h
   ·omega
   ·omega
  rw[u0,Ah hv (Nz he hm)]
  have hr:∀(l:List Stmt),bT s.2.1.l b.2.2 l=0∨bT s.2.1.l b.2.2 l=1∨bT s.2.1.l b.2.2 l=2:=fun l=>by
   induction l with
   | nil =>
    rw[bT];split
    ·exact .inr (.inl rfl)
    ·exact .inl rfl
   | cons x r ih =>
    rw[bT];split
    ·exact .inr (.inl rfl)
    ·split
     ·exact .inr (.inr rfl)
     ·exact ih
  rcases hr (b.2.1.drop (k+1)) with h | h | h<;>rw[h]<;>simp
 ·rw[u0,decide_eq_false h1];rfl
end Go.Proofs
end
section
namespace Go.Proofs
open Go.Sy
def UK (p:Prog) (e:List Nm) (v:aQ):Nm:=if 0≤dH p v then e[(dH p v).toNat]?.getD (0,0) else (0,0)
def UZ (p q:Prog) (P:aQ→Prop) (e1 e2:List Nm):Prop:=e1.length=(varsOf p).length∧e2.length=(varsOf q).length∧∀v,v∈varsOf p→P v→UK p e1 v=UK q e2 v
abbrev seen (s:IF):Int×Int×List Nm:=(s.1,s.2.2)
def gy:Nat→Prog→Prog×Nat
 | 0,p=>(p,0)
 | k+1,p=>if aS p=p then (p,0) else ((gy k (aS p)).1,(gy k (aS p)).2+1)
def cJ (p:Prog):Prog×Nat:=gy (aw p) p
theorem fS {p:Prog} (h:aS p≠p):aw (aS p)<aw p:=by
 have:=nZ p
 by_cases e:aw (aS p)=aw p
 ·exact absurd (this.2 e) h
 ·omega
theorem pG:∀(k:Nat) (p:Prog),aw p≤k→gy k p=cJ p:=by
 have h:∀(k j:Nat) (p:Prog),aw p≤k→aw p≤j→gy k p=gy j p:=by
  intro k
  induction k with
  | zero =>
   intro j p h1 h2
   have e:aS p=p:=by
    by_cases e:aS p=p
    ·exact e
    ·have:=fS e;omega
   cases j with
   | zero=>rfl
   | succ j=>rw[gy,gy,if_pos e]
  | succ k ih =>
   intro j p h1 h2
   by_cases e:aS p=p
   ·cases j with
    | zero=>rw[gy,gy,if_pos e]
    | succ j=>rw[gy,gy,if_pos e,if_pos e]
   ·have hl:=fS e
    cases j with
    | zero=>omega
    | succ j=>rw[gy,gy,if_neg e,if_neg e,ih j (aS p) (by omega) (by omega)]
 exact fun k p hk=>h k (aw p) p hk (Nat.le_refl _)
theorem jS {p:Prog} (h:aS p=p):cJ p=(p,0):=by
 rw[←pG (aw p+1) p (by omega),gy,if_pos h]
theorem lN {p:Prog} (h:aS p≠p):cJ p=((cJ (aS p)).1,(cJ (aS p)).2+1):=by
 have hl:=fS h;rw[←pG (aw p+1) p (by omega),gy,if_neg h,pG (aw p) (aS p) (by omega)]
theorem Hm (P:Prog→Prop) (hs:∀p,P p→P (aS p)):∀(n:Nat) (p:Prog),aw p≤n→P p→P (cJ p).1∧aS (cJ p).1=(cJ p).1:=by
 intro n
 induction n with
 | zero =>
  intro p hn hp
  have e:aS p=p:=by
   by_cases e:aS p=p
   ·exact e
   ·have:=fS e;omega
  rw[jS e];exact⟨hp,e⟩
 | succ n ih =>
  intro p hn hp
  by_cases e:aS p=p
  ·rw[jS e];exact⟨hp,e⟩
  ·have hl:=fS e;rw[lN e];exact ih (aS p) (by omega) (hs p hp)
end Go.Proofs
end
section
namespace Go.Proofs
open Go.Sy
def XV (a:ks):Nat:=if a.1.l=[] then 0 else 1
def ZM (x:Expr):Nat:=((aH x).map XV).sum
def ZN (s:Stmt):Nat:=if s.1=1 then ZM s.2.2 else 0
def ZO (t:Term):Nat:=if t.1=2 then 1+XV t.2.1 else 0
def ZP (b:Block):Nat:=(b.2.1.map ZN).sum+ZO b.2.2
def XW (p:Prog):Nat:=aw p+2*p.length+(p.map ZP).sum
end Go.Proofs
end
section
namespace Go.Proofs
open Go.Sy
def yb (p q:Prog):Prop:=∃R,bD R∧cy (p.length:Nat) (aR (aG (aP p))) [0] R∧q=cm (aP p) R p.length
def KG (p m:Prog):Prop:=∃q,yb p q∧E7 q m
def mZ (p m:Prog):Prop:=∃q,yb (bQ p) q∧KG (cJ q).1 m
theorem IQ {p q r:Prog} (h1:yb p q) (h2:yb p r):q=r:=by
 obtain⟨R,hS,hR,rfl⟩:=h1;obtain⟨R2,Vk,ZQ,rfl⟩:=h2;have e:R=R2:=jd hS Vk (hR.mem ZQ);rw[e]
theorem ND {p q r:Prog} (h1:KG p q) (h2:KG p r):q=r:=by
 obtain⟨x,hx,hq⟩:=h1;obtain⟨y,hy,hr⟩:=h2;have e:=IQ hx hy;subst e;exact hq.one hr
theorem sU {p q r:Prog} (h1:mZ p q) (h2:mZ p r):q=r:=by
 obtain⟨x,hx,hq⟩:=h1;obtain⟨y,hy,hr⟩:=h2;have e:=IQ hx hy;subst e;exact ND hq hr
structure Fit (p q:Prog):Prop where
 vq:al q=0
 len:q.length≤p.length
theorem Fit.trans {p q r:Prog} (h1:Fit p q) (h2:Fit q r):Fit p r:=⟨h2.vq,Nat.le_trans h2.len h1.len⟩
theorem jT {p:Prog} (he:al p=0):Fit p (bQ p):=⟨GY he,Nat.le_of_eq (dQ p)⟩
theorem sV {p q:Prog} (he:al p=0) (h:yb p q):Fit p q∧Whole q:=by
 obtain⟨R,hS,hR,rfl⟩:=h;have hw:=G7 he hR;exact⟨⟨hw.vq,pZ _ _ _⟩,hw⟩
theorem ue {p:Prog} (he:al p=0):Fit p (cJ p).1:=by
 have h:=Hm (fun q=>al q=0∧q.length=p.length) (fun q hq=>⟨lM hq.1,by rw[dJ];exact hq.2⟩) (aw p) p (Nat.le_refl _) ⟨he,rfl⟩;exact⟨h.1.1,Nat.le_of_eq h.1.2⟩
theorem KH {q m:Prog} (h:E7 q m):Whole q→Whole m∧m.length≤q.length:=by
 induction h with
 | stop h=>exact fun hw=>⟨hw,Nat.le_refl _⟩
 | step h _ ih =>
  intro hw;obtain⟨x,y,P⟩:=PF h;obtain⟨h1,h3⟩:=ih (G5 hw P);have hlen:=jm (gh.1 P.hy).1 (gh.1 P.hx).1;exact⟨h1,by omega⟩
theorem PO {p m:Prog} (he:al p=0) (h:KG p m):Fit p m:=by
 obtain⟨q,hq,hm⟩:=h;obtain⟨h1,hw⟩:=sV he hq;obtain⟨h2,h3⟩:=KH hm hw;exact h1.trans ⟨h2.vq,h3⟩
theorem sW {p m:Prog} (he:al p=0) (h:mZ p m):Fit p m:=by
 obtain⟨q,hq,hm⟩:=h;have h1:=jT he;have h2:=(sV h1.vq hq).1;have h3:=ue h2.vq;exact ((h1.trans h2).trans h3).trans (PO h3.vq hm)
structure Ai (p q:Prog):Prop where
 vq:al q=0
 len:q.length≤p.length
 wt:XW q≤XW p
 ends:∀(yE:List Nm) (k:Nat) (o:List Nm),Ends p yE (Nd p) k o→∃k',k'≤k∧Ends q yE (Nd q) k' o
theorem Ai.refl {p:Prog} (he:al p=0):Ai p p:=⟨he,Nat.le_refl _,Nat.le_refl _,fun _ k _ h=>⟨k,Nat.le_refl _,h⟩⟩
theorem Ai.trans {p q r:Prog} (h1:Ai p q) (h2:Ai q r):Ai p r :=
 ⟨h2.vq,Nat.le_trans h2.len h1.len,Nat.le_trans h2.wt h1.wt,fun yE k o h=>by
  obtain⟨k1,og,e1⟩:=h1.ends yE k o h;obtain⟨k2,kY,e2⟩:=h2.ends yE k1 o e1
  exact⟨k2,Nat.le_trans kY og,e2⟩⟩
inductive kg:Nat→Prog→Prog→Nat→Prop
 | out (p:Prog):kg 0 p p 0
 | same {k:Nat} {p:Prog}:mZ p p→kg (k+1) p p 0
 | step {k n:Nat} {p q w:Prog}:mZ p q→p≠q→kg k q w n→kg (k+1) p w (n+1)
theorem KI {k:Nat} {p w:Prog} {n:Nat} (h:kg k p w n):∀ {w':Prog} {n':Nat},kg k p w' n'→w=w'∧n=n':=by
 induction h with
 | out p =>
  intro w' n' h';cases h';exact⟨rfl,rfl⟩
 | same h1 =>
  intro w' n' h'
  cases h' with
  | same _=>exact⟨rfl,rfl⟩
  | step h2 h3 _=>exact absurd (sU h1 h2) h3
 | step h1 h2 _ ih =>
  intro w' n' h'
  cases h' with
  | same h3=>exact absurd (sU h3 h1) h2
  | step h3 h4 h5 =>
   have e:=sU h1 h3;subst e;obtain⟨e1,e2⟩:=ih h5;exact⟨e1,by rw[e2]⟩
end Go.Proofs
end
section
namespace Go.Proofs
open Go.Sy
open Tryz
noncomputable def ZR:Cx:={ P:=prog,tt:=tt,n:=0,wrap:=false,base:=0,gf:=60::cx.gf,eqs:=[67],xf:=[] }
theorem BR:eH ZR:=⟨af.tt,Ly (P:=prog) (tt:=tt) (l:=[67]) (by kernel_rfl)⟩
abbrev Vm (a:Option Addr) (n c:Nat):List (Nat×Bx):=[(0,.cells 32 [.v (.slice a n c)])]
theorem KJ {l:List Nm} {x:Nm} {a:Option Addr} {n c:Nat} {H:Hp} {K:SV→St→Hp→Prop} (ha:RL (α:=Int×Int) H a n c l) (hK:K (.v (.bool (decide (x∈l)))) ⟨[],Vm a n c,1⟩ H):
  aY prog 60 [.agg [.v (.int .i64 x.1),.v (.int .i64 x.2)],.ptr 0 0] (Vm a n c) 1 H K:=by
 have hn:=ha.aB;have eI:=ha.le;subst hn;refine aJ BR aa func60 call60 ntmps60 results60 rfl rfl ?_
 refine⟨Nat,fun i=>⟨[(1,.ptr 0 0),(2,.ptr 1 0),(6,.v (.slice a l.length c)),(7,.v (.int .i64 l.length)),(8,.v (.int .i64 i))],[(0,.cells 32 [.v (.slice a l.length c)]),(1,.cells 67 [.v (.int .i64 x.1),.v (.int .i64 x.2)])],2⟩,
  fun i H'=>H'=H∧i≤l.length∧¬x∈l.take i,fun i=>l.length - i,⟨0,[(0,0),(1,1)],?_,rfl,Nat.zero_le _,by simp⟩,?_⟩
 ·(repeat' first|exact trivial|refine⟨?_,?_⟩|exact rfl|assumption)
 rintro i H1 _ ⟨rfl,hi,gZ⟩;refine⟨fun h=>?_,fun h=>?_⟩
 ·have aj:i<l.length:=by have:=dt h;omega
  refine aD l[i] fun y Pj=>?_
  have B5:l[i]?=some y:=by rw[Pj];exact aL aj
  refine qV ha B5 fun ad q1 hh=>?_
  refine⟨ad,⟨by omega,by omega,q1⟩,?_⟩;refine⟨_,hh,?_⟩;refine⟨fun h1=>?_,fun h1=>?_⟩
  ·have N8:x=y:=by
    rw[Bool.and_eq_true,decide_eq_true_iff,decide_eq_true_iff]at h1;exact Prod.ext h1.1.symm h1.2.symm
   have kX:x∈l:=by rw[N8];exact dY B5
   rw[decide_eq_true kX]at hK;exact⟨.v (.bool true),Vm a l.length c,1,[(0,0)],by (repeat' first|exact trivial|refine⟨?_,?_⟩|exact rfl|assumption),hK⟩
  ·have N8:¬x=y:=fun e=>by
    subst e;simp at h1
   have WY:¬x∈l.take (i+1):=fun hm=>by
    rw[List.take_add_one,B5,Option.toList_some]at hm
    rcases List.mem_append.1 hm with hm | hm
    ·exact gZ hm
    ·exact N8 (List.mem_singleton.1 hm)
   refine⟨⟨by omega,by omega⟩,i+1,[(0,0),(1,1)],?_,⟨rfl,aj,WY⟩,by dsimp only;omega⟩
   (repeat' first|exact trivial|refine⟨?_,?_⟩|exact rfl|assumption)
 ·have aX:i=l.length:=by have:=df h;omega
  rw[aX,List.take_length]at gZ;rw[decide_eq_false gZ]at hK;exact⟨.v (.bool false),Vm a l.length c,1,[(0,0)],by (repeat' first|exact trivial|refine⟨?_,?_⟩|exact rfl|assumption),hK⟩
end Go.Proofs
end
section
namespace Go.Proofs
open Go.Sy
open Tryz
theorem EO {p:Prog} {i k:Nat} {b:Block} {s:Stmt} (hb:p[i]?=some b) (hs:b.2.1[k]?=some s):((i:Int),(k:Int))∈mY p↔u0 p i k b s=true:=by
 have hi:=(gh.1 hb).1;have hk:=(gh.1 hs).1;rw[mY,SF,List.mem_flatMap];constructor
 ·rintro⟨j,hj,h⟩;rw[NA,List.mem_flatMap]at h;obtain⟨m,hm,h⟩:=h;split at h
  ·rename_i Vl;rw[List.mem_singleton]at h
   have e1:i=j:=by have:=congrArg Prod.fst h;dsimp only at this;omega
   have e2:k=m:=by have:=congrArg Prod.snd h;dsimp only at this;omega
   subst e1;subst e2;rw[hb,Option.getD_some,hs,Option.getD_some]at Vl;exact Vl
  ·cases h
 ·intro h;refine⟨i,List.mem_range.2 hi,?_⟩;rw[hb,Option.getD_some,NA,List.mem_flatMap];refine⟨k,List.mem_range.2 hk,?_⟩;rw[hs,Option.getD_some,if_pos h];exact List.mem_singleton.2 rfl
def s0 (p:Prog) (i k:Nat):List (List Stmt):=p.mapIdx fun j b=>if j<i then rE p j b b.2.1 0 else if j=i then rE p j b (b.2.1.take k) 0 else []
theorem oa (p:Prog) (i k:Nat):(s0 p i k).length=p.length:=List.length_mapIdx
theorem pH {p:Prog} (i k:Nat) {j:Nat} {b:Block} (h:p[j]?=some b):(s0 p i k)[j]?=some (if j<i then rE p j b b.2.1 0 else if j=i then rE p j b (b.2.1.take k) 0 else []):=by rw[s0,List.getElem?_mapIdx,h];rfl
theorem NF (p:Prog):∀r∈s0 p 0 0,r=[]:=fun r hr=>by
 obtain⟨j,hj,rfl⟩:=List.mem_mapIdx.1 hr;rw[if_neg (Nat.not_lt_zero _)];split
 ·rw[List.take_zero,rE]
 ·rfl
theorem PQ {p:Prog} {i:Nat} {b:Block} (h:p[i]?=some b) (k:Nat):(s0 p i k)[i]?=some (rE p i b (b.2.1.take k) 0):=by
 rw[pH i k h,if_neg (Nat.lt_irrefl _),if_pos rfl]
theorem IS {p:Prog} {i k i' k':Nat} (h:∀(j:Nat) (b:Block),p[j]?=some b→(s0 p i k)[j]?=(s0 p i' k')[j]?):s0 p i k=s0 p i' k':=by
 apply List.ext_getElem?;intro j
 by_cases hj:j<p.length
 ·exact h j _ (aL hj)
 ·rw[List.getElem?_eq_none (by rw[oa];omega),List.getElem?_eq_none (by rw[oa];omega)]
theorem PR {p:Prog} {i:Nat} {b:Block} (h:p[i]?=some b):s0 p i b.2.1.length=s0 p (i+1) 0:=IS fun j c hc=>by
 rw[pH _ _ hc,pH _ _ hc]
 by_cases h1:j<i
 ·rw[if_pos h1,if_pos (by omega)]
 ·rw[if_neg h1]
  by_cases h2:j=i
  ·subst h2;rw[h]at hc;cases hc;rw[if_pos rfl,if_pos (by omega),List.take_length]
  ·rw[if_neg h2,if_neg (by omega)];split
   ·rw[List.take_zero,rE]
   ·rfl
theorem NG {p:Prog} {i k:Nat} {b:Block} {s:Stmt} (h:p[i]?=some b) (hs:b.2.1[k]?=some s) (hi:u0 p i k b s=true):s0 p i (k+1)=s0 p i k:=IS fun j c hc=>by
 rw[pH _ _ hc,pH _ _ hc]
 by_cases h2:j=i
 ·subst h2;rw[h]at hc;cases hc;rw[if_neg (Nat.lt_irrefl _),if_pos rfl,if_neg (Nat.lt_irrefl _),if_pos rfl,sS p j b b.2.1 0 k s hs,Nat.zero_add,if_pos hi,List.append_nil]
 ·rw[if_neg h2,if_neg h2]
theorem NH {p:Prog} {i k:Nat} {b:Block} {s:Stmt} (h:p[i]?=some b) (hs:b.2.1[k]?=some s) (hi:u0 p i k b s=false):s0 p i (k+1)=(s0 p i k).set i (rE p i b (b.2.1.take k) 0++[s]):=by
 apply List.ext_getElem?;intro j
 by_cases hj:j<p.length
 ·rw[List.getElem?_set,oa,pH _ _ (aL hj)]
  by_cases h2:i=j
  ·subst h2;rw[aL hj]at h;cases h;rw[if_neg (Nat.lt_irrefl _),if_pos rfl,if_pos rfl,if_pos hj,sS p i _ _ 0 k s hs,Nat.zero_add,if_neg (by rw[hi];decide)]
  ·rw[if_neg h2,pH _ _ (aL hj),if_neg (fun e:j=i=>h2 e.symm),if_neg (fun e:j=i=>h2 e.symm)]
 ·rw[List.getElem?_eq_none (by rw[oa];omega),List.getElem?_eq_none (by rw[List.length_set,oa];omega)]
theorem PS (p:Prog):s0 p p.length 0=(aS p).map fun b=>b.2.1:=by
 apply List.ext_getElem?;intro j
 by_cases hj:j<p.length
 ·rw[pH _ _ (aL hj),if_pos hj,List.getElem?_map,ju (aL hj)];rfl
 ·rw[List.getElem?_eq_none (by rw[oa];omega),List.getElem?_eq_none (by rw[List.length_map,dJ];omega)]
theorem Aj {p:Prog} (hl:∀b∈p,b.2.1.length≤100000) {i:Nat} {b:Block} (h:p[i]?=some b) (k:Nat):(rE p i b (b.2.1.take k) 0).length≤100000:=by
 have h1:=vY p i b (b.2.1.take k) 0;have h2:=hl b (dY h);have h3:=List.length_take_le k b.2.1;have h4:=List.length_take_le' k b.2.1;omega
def gz (fv:List Value) (R:List (List Stmt)):List (Value×List (List Value)):=List.zipWith (fun h r=>(h,r.map oz)) fv R
theorem NI {fv:List Value} {R:List (List Stmt)} {q:Value×List (List Value)} (h:q∈gz fv R):∃(i:Nat) (hd:Value) (r:List Stmt),fv[i]?=some hd∧R[i]?=some r∧q=(hd,r.map oz):=by
 obtain⟨i,hi,rfl⟩:=List.mem_iff_getElem.1 h;rw[gz,List.length_zipWith]at hi;refine⟨i,fv[i]'(by omega),R[i]'(by omega),aL _,aL _,?_⟩;simp [gz]
theorem BS {α β γ:Type} (f:α→β→γ):∀(a:List α) (b:List β) (k:Nat) (x:α) (y:β),List.zipWith f (a.set k x) (b.set k y)=(List.zipWith f a b).set k (f x y)
 | [],_,_,_,_=>by simp
 | _::_,[],k,_,_=>by cases k<;>simp
 | _::a,_::b,0,_,_=>by simp
 | _::a,_::b,k+1,x,y=>by simp [BS f a b k x y]
theorem NJ {fv:List Value} {R:List (List Stmt)} {k:Nat} (hk:k<fv.length) (lQ:k<R.length) (h:Value) (r:List Stmt):
  gz (fv.set k h) (R.set k r)=(gz fv R).take k++(h,r.map oz)::(gz fv R).drop (k+1):=by
 have hl:k<(gz fv R).length:=by rw[gz,List.length_zipWith];omega
 rw[gz,BS];exact List.set_eq_take_append_cons_drop.trans (if_pos hl)
theorem Hn {fv:List Value} {R:List (List Stmt)} {k:Nat} {hd:Value} {r:List Stmt} (h1:fv[k]?=some hd) (h2:R[k]?=some r):gz fv R=(gz fv R).take k++(hd,r.map oz)::(gz fv R).drop (k+1):=by
 obtain⟨a1,a2⟩:=gh.1 h1;obtain⟨b1,b2⟩:=gh.1 h2
 have hl:k<(gz fv R).length:=by rw[gz,List.length_zipWith];omega
 have e:(gz fv R)[k]=(hd,r.map oz):=by simp [gz,a2,b2]
 rw[←e,←List.drop_eq_getElem_cons hl,List.take_append_drop]
def u7 (fv vs:List Value) (i:Nat):List Value:=fv.take i++vs.drop i
theorem IT {fv vs:List Value} {i m:Nat} (h1:fv.length=m) (h2:vs.length=m) (hi:i≤m):(u7 fv vs i).length=m:=by rw[u7,List.length_append,List.length_take,List.length_drop];omega
theorem PT {fv vs:List Value} {i m:Nat} (h1:fv.length=m) (h2:vs.length=m) (hi:i<m) {v:Value} (hv:fv[i]?=some v):(u7 fv vs i).set i v=u7 fv vs (i+1):=by
 have e1:(fv.take i).length=i:=by rw[List.length_take];omega
 have e2:vs.drop i=vs[i]::vs.drop (i+1):=List.drop_eq_getElem_cons (by omega)
 rw[u7,List.set_append_right _ _ (by omega),e1,Nat.sub_self,e2,List.set_cons_zero,u7,List.take_add_one,hv,Option.toList_some,List.append_assoc];rfl
theorem PU {fv vs:List Value} {i m:Nat} (h1:fv.length=m) (hi:i<m) (v:Value):(u7 fv vs (i+1)).set i v=u7 (fv.set i v) vs (i+1):=by
 have e1:i<(fv.take (i+1)).length:=by rw[List.length_take];omega
 rw[u7,List.set_append_left _ _ e1,u7,List.take_set]
theorem PV {fv vs:List Value} {i m:Nat} (h1:fv.length=m) (hi:i<m):(u7 fv vs (i+1))[i]?=fv[i]?:=by
 have e1:i<(fv.take (i+1)).length:=by rw[List.length_take];omega
 rw[u7,List.getElem?_append_left e1,List.getElem?_take,if_pos (by omega)]
theorem IU {vs:List Value} {p:Prog} {i:Nat} {b:Block} (h:p[i]?=some b) (v:Value):(List.zipWith cA vs p).set i (cA v b)=List.zipWith cA (vs.set i v) p:=by
 have e:p.set i b=p:=by
  have aj:=(gh.1 h)
  obtain⟨h1,rfl⟩:=aj;exact List.set_getElem_self h1
 have:=BS cA vs p i v b;rw[e]at this;exact this.symm
noncomputable def WZ:Cx:={ P:=prog,tt:=tt,n:=0,wrap:=false,base:=0,gf:=30::60::cx.gf,eqs:=[67],xf:=[] }
theorem PW:eH WZ:=⟨BR.tt,BR.eqs⟩
theorem BT {p:Prog} (hp:p.length≤12) (hl:∀b∈p,b.2.1.length≤100000) (hc:aw p≤1000000) (hv:iE p<400000) {a:Option Addr} {n c:Nat} {H:Hp} {K:SV→St→Hp→Prop} (ha:RL H a n c p) (hT:pC H)
  (fK:al p≠0→∀H',Le H H'→K (.eo [.agg [.v (.slice none 0 0)],.v (.int .i64 (al p))]) ⟨[],[],0⟩ H')
  (hK:al p=0→∀fv H',Le H H'→fv.length=p.length→K (.eo [.agg [.own 3],.v (.int .i64 0)]) ⟨[],[(3,.row 66 8 (List.zipWith cA fv p)),(6,.kW 61 9 (gz fv ((aS p).map fun b=>b.2.1)))],7⟩ H'):
  aY prog 31 [.agg [.v (.slice a n c)]] [] 0 H K:=by
 refine aJ PW aa func31 call31 ntmps31 results31 rfl rfl ?_;refine Hj hp hl hc hv ha hT (fun he H1 ak=>?_) (fun he a4 n4 c4 H1 ak fm=>?_)
 ·refine⟨fun _=>?_,fun h=>absurd (nf h) he⟩;exact⟨.eo [.agg [.v (.slice none 0 0)],.v (.int .i64 (al p))],[],0,[],by (repeat' first|exact trivial|refine⟨?_,?_⟩|exact rfl|assumption),fK he _ ak⟩
 have hK:=hK he;refine⟨(fun h=>absurd rfl (nt h)),fun _=>?_⟩
 have vi:∀b∈p,b.2.1.length≤1000000:=fun b hb=>Nat.le_trans (hl b hb) (by decide)
 refine⟨[],rfl,uT (by omega) vi (ha.up ak) fun vs H2 ah N6 j1=>?_⟩;have hn:=ha.aB
 have CF:∀hs:List Value,hs.length=p.length→(List.zipWith cA hs p).length=p.length:=fun hs hh=>by rw[List.length_zipWith,hh,Nat.min_self]
 refine⟨Nat×List Value,fun q=>⟨[(2,.ptr 1 0),(6,.ptr 5 0),(7,.fn 60 [.ptr 2 0]),(25,.v (.slice a n c)),(26,.v (.int .i64 n)),(27,.v (.int .i64 q.1))],
   [(1,.cells 24 [.v (.slice none 0 0)]),(2,.cells 32 [.v (.slice a4 n4 c4)]),(5,.cells 24 [.own 3]),(3,.row 66 8 (List.zipWith cA (u7 q.2 vs q.1) p)),(6,.kW 61 9 (gz q.2 (s0 p q.1 0)))],7⟩,
  fun q H'=>Le H2 H'∧q.1≤p.length∧q.2.length=p.length∧∀j,q.1≤j→j<p.length→q.2[j]?=some (.slice none 0 0),fun q=>p.length - q.1,⟨(0,List.replicate p.length (.slice none 0 0)),[(1,1),(2,2),(3,3),(5,5)],?_,Le.refl _,Nat.zero_le _,by dsimp only;rw[List.length_replicate],fun j _ hj=>by dsimp only;rw[List.getElem?_replicate,if_pos hj]⟩,?_⟩
 ·have e1:u7 (List.replicate p.length (Value.slice none 0 0)) vs 0=vs:=rfl
  have e2:∀q∈gz (List.replicate p.length (Value.slice none 0 0)) (s0 p 0 0),q=(.slice none 0 0,[]):=fun q hq=>by
   obtain⟨j,hd,r,h1,h2,rfl⟩:=NI hq;rw[List.getElem?_replicate]at h1;split at h1
   ·rw[←Option.some.inj h1,NF p r (dY h2)];rfl
   ·cases h1
  (repeat' first|exact trivial|refine⟨?_,?_⟩|exact rfl|assumption)
 rintro⟨i,fv⟩ H3 _ ⟨az,hi,zO,qM⟩;dsimp only at hi zO qM;have W0:=IT (vs:=vs) zO N6 hi;have XX:=CF _ W0;refine⟨fun h=>?_,fun h=>?_⟩
 ·have aj:i<p.length:=by have:=dt h;dsimp only at this;omega
  have aN:=(ak.trans ah).trans az
  refine aD p[i] fun b gV=>?_
  have bG:p[i]?=some b:=by rw[gV];exact aL aj
  have oJ:=hl b (dY bG)
  refine bF (ha.up aN) bG fun ad a5 n5 c5 q1 hh ct xw vR=>?_
  have xl:n5=b.2.1.length:=ct.aB;have RN:=ct.le;refine⟨ad,⟨by dsimp only;omega,by dsimp only;omega,q1⟩,?_⟩;refine⟨_,hh,?_⟩
  refine aD ((u7 fv vs i)[i]'(by omega)) fun N9 W4=>?_
  have TY:(u7 fv vs i)[i]?=some N9:=by rw[W4];exact aL _
  have hg:(List.zipWith cA (u7 fv vs i) p)[(i:Int).toNat]?=some (cA N9 b):=nS TY bG;refine⟨⟨by omega,by dsimp only;omega⟩,?_⟩;refine⟨_,hg,?_⟩
  have hZ:(List.zipWith cA (u7 fv vs i) p).set i (cA (.slice none 0 0) b)=List.zipWith cA (u7 fv vs (i+1)) p:=by
   rw[IU bG,PT zO N6 aj (qM i (Nat.le_refl _) aj)]
  have UL:=ah.trans az
  refine⟨Nat×List Value,fun q=>⟨[(2,.ptr 1 0),(6,.ptr 5 0),(7,.fn 60 [.ptr 2 0]),(8,.v (.int .i64 i)),(25,.v (.slice a n c)),(26,.v (.int .i64 n)),(27,.v (.int .i64 i)),(38,.v (.slice a5 n5 c5)),(39,.v (.int .i64 n5)),(40,.v (.int .i64 q.1))],
    [(1,.cells 24 [.v (.slice none 0 0)]),(2,.cells 32 [.v (.slice a4 n4 c4)]),(5,.cells 24 [.own 3]),(3,.row 66 8 (List.zipWith cA (u7 q.2 vs (i+1)) p)),(6,.kW 61 9 (gz q.2 (s0 p i q.1)))],7⟩,
   fun q H'=>H'=H3∧q.1≤b.2.1.length∧q.2.length=p.length∧∀j,i+1≤j→j<p.length→q.2[j]?=some (.slice none 0 0),fun q=>b.2.1.length - q.1,⟨(0,fv),[(1,1),(2,2),(3,3),(5,5),(6,6)],?_,rfl,Nat.zero_le _,zO,fun j h1 h2=>qM j (by omega) h2⟩,?_⟩
  ·have Zz:=hZ.symm
   (repeat' first|exact trivial|refine⟨?_,?_⟩|exact rfl|assumption)
  rintro⟨k,hs⟩ H4 _ ⟨rfl,hk,Ho,uB⟩;dsimp only at hk Ho uB;have UM:=IT (i:=i+1) Ho N6 aj;have W5:=CF _ UM;refine⟨fun h=>?_,fun h=>?_⟩
  ·have e8:k<b.2.1.length:=by have:=dt h;dsimp only at this;omega
   refine aD b.2.1[k] fun s Be=>?_
   have dy:b.2.1[k]?=some s:=by rw[Be];exact aL e8
   refine du ct dy fun iy q2 gj hR=>?_
   refine⟨iy,⟨by dsimp only;omega,by dsimp only;omega,q2⟩,?_⟩;refine⟨_,gj,?_⟩;refine⟨[2],rfl,KJ (x:=((i:Int),(k:Int))) (fm.up UL) ?_⟩;have iG:=EO bG dy;refine⟨fun h=>?_,fun h=>?_⟩
   ·have gZ:u0 p i k b s=false:=by
     have:=nt h;rw[iG]at this
     simpa using this
    have E3:=PQ bG k;have S3:=Aj hl bG k
    refine aD (rE p i b (b.2.1.take k) 0) fun g vu=>?_
    rw[←vu]at E3 S3
    have dK:i<hs.length:=by omega
    refine aD hs[i] fun hd VC=>?_
    have XY:hs[i]?=some hd:=by rw[VC];exact aL dK
    have U0:(u7 hs vs (i+1))[i]?=some hd:=(PV Ho aj).trans XY;have rB:(List.zipWith cA (u7 hs vs (i+1)) p)[(i:Int).toNat]?=some (cA hd b):=nS U0 bG;have AG:=Hn XY E3;refine⟨some ([3,6],[0,1,2,3,4,5,6,7,8,9,10,11,12,13,14]),by kernel_rfl,?_⟩;refine⟨⟨by omega,by dsimp only;omega⟩,?_⟩;refine⟨_,rB,?_⟩;have ZS:(g.map oz).length=g.length:=List.length_map _;refine⟨6,_,_,_,_,rfl,AG,⟨by show ((g.map oz).length+1)*96≤140737488355328;omega,by show (g.map oz).length+1≤9223372036854775807;omega⟩,fun a' c'=>?_⟩
    refine aD (Value.slice a' ((g.map oz).length+1) c') fun uv UN=>?_
    refine⟨⟨by omega,by dsimp only;omega⟩,?_⟩;refine⟨_,rB,?_⟩
    have e1:(List.zipWith cA (u7 hs vs (i+1)) p).set i (cA (Value.slice a' ((g.map oz).length+1) c') b)=List.zipWith cA (u7 (hs.set i uv) vs (i+1)) p:=by
     rw[←UN,IU bG,PU Ho aj]
    have ZT:i<(s0 p i k).length:=by rw[oa];exact aj
    have e2:(gz hs (s0 p i k)).take i++(Value.slice a' ((g.map oz).length+1) c',g.map oz++[oz s])::(gz hs (s0 p i k)).drop (i+1)=gz (hs.set i uv) (s0 p i (k+1)):=by
     rw[NH bG dy gZ,←vu,NJ dK ZT,UN,List.map_append];rfl
    refine⟨⟨by dsimp only;omega,by dsimp only;omega⟩,(k+1,hs.set i uv),[(1,1),(2,2),(3,3),(5,5),(6,6)],?_,⟨rfl,by dsimp only;omega,by dsimp only;rw[List.length_set];exact Ho,fun j h1 h2=>by dsimp only;rw[List.getElem?_set_ne (by omega)];exact uB j h1 h2⟩,by dsimp only;omega⟩
    (repeat' first|exact trivial|refine⟨?_,?_⟩|exact rfl|assumption)
   ·have rv:u0 p i k b s=true:=by
     have:=nf h;rwa[iG]at this
    have e1:gz hs (s0 p i (k+1))=gz hs (s0 p i k):=by rw[NG bG dy rv]
    have e2:=e1.symm;refine⟨⟨by dsimp only;omega,by dsimp only;omega⟩,(k+1,hs),[(1,1),(2,2),(3,3),(5,5),(6,6)],?_,⟨rfl,by dsimp only;omega,Ho,uB⟩,by dsimp only;omega⟩
    (repeat' first|exact trivial|refine⟨?_,?_⟩|exact rfl|assumption)
  ·have e8:k=b.2.1.length:=by have:=df h;dsimp only at this;omega
   subst e8
   have e1:gz hs (s0 p i b.2.1.length)=gz hs (s0 p (i+1) 0):=by rw[PR bG]
   have e2:=e1.symm;refine⟨⟨by omega,by omega⟩,(i+1,hs),[(1,1),(2,2),(3,3),(5,5),(6,6)],?_,⟨az,aj,Ho,uB⟩,by dsimp only;omega⟩
   (repeat' first|exact trivial|refine⟨?_,?_⟩|exact rfl|assumption)
 ·have aX:i=p.length:=by have:=df h;dsimp only at this;omega
  subst aX
  have e1:List.zipWith cA (u7 fv vs p.length) p=List.zipWith cA fv p:=by
   rw[u7,←zO,List.take_length,zO,←N6,List.drop_length,List.append_nil]
  have e2:gz fv (s0 p p.length 0)=gz fv ((aS p).map fun b=>b.2.1):=by rw[PS]
  have e3:=e1.symm;have e4:=e2.symm;exact⟨.eo [.agg [.own 3],.v (.int .i64 0)],[(3,.row 66 8 (List.zipWith cA fv p)),(6,.kW 61 9 (gz fv ((aS p).map fun b=>b.2.1)))],7,[(3,3),(6,6)],by (repeat' first|exact trivial|refine⟨?_,?_⟩|exact rfl|assumption),hK _ _ (ak.trans (ah.trans az)) zO⟩
theorem u9 {p:Prog} (hp:p.length≤12) (hl:∀b∈p,b.2.1.length≤100000) (hc:aw p≤1000000) (hv:iE p<400000) {a:Option Addr} {n c:Nat} {H:Hp} {K:Value→Hp→Prop} (ha:RL H a n c p) (hT:pC H)
  (fK:al p≠0→∀H',Le H H'→K (.tuple #[.agg #[.slice none 0 0],.int .i64 (al p)]) H')
  (hK:al p=0→∀a1 n1 c1 H',Le H H'→RL H' a1 n1 c1 (aS p)→K (.tuple #[.agg #[.slice a1 n1 c1],.int .i64 0]) H'):aq prog 31 [.agg #[.slice a n c]] H K:=by
 refine zk (svs:=[.agg [.v (.slice a n c)]]) (fun _=>rfl) rfl (BT hp hl hc hv ha hT (K:=fun x t H1=>(al p≠0∧Le H H1∧x = .eo [.agg [.v (.slice none 0 0)],.v (.int .i64 (al p))])∨(al p=0∧Le H H1∧∃fv:List Value,fv.length=p.length∧x = .eo [.agg [.own 3],.v (.int .i64 0)]∧t=⟨[],[(3,.row 66 8 (List.zipWith cA fv p)),(6,.kW 61 9 (gz fv ((aS p).map fun b=>b.2.1)))],7⟩))
  (fun he H1 h1=>.inl ⟨he,h1,rfl⟩) (fun he fv H1 h1 h2=>.inr ⟨he,h1,fv,h2,rfl,rfl⟩)) ?_
 rintro x t H1 (⟨he,h1,rfl⟩ | ⟨he,h1,fv,h2,rfl,rfl⟩) hle
 ·exact .inl ⟨_,fun _=>rfl,fK he _ h1⟩
 ·refine .inr ⟨3,6,66,8,_,61,9,_,fun v=>.tuple #[.agg #[v],.int .i64 0],fun _=>rfl,rfl,rfl,by decide,fun v H' ah hr hf=>?_⟩
  have bf:RC (α:=Block) H' (List.zipWith cA fv p) (aS p):=by
   refine⟨by rw[List.length_zipWith,h2,dJ,Nat.min_self],fun i cs b h3 h4=>?_⟩;rw[List.getElem?_zipWith_eq_some]at h3;obtain⟨u,b0,h5,h6,rfl⟩:=h3;rw[ju h6]at h4;have h4:=(Option.some.inj h4).symm;have hR:=GR ha h6
   have hm:(u,b.2.1.map oz)∈gz fv ((aS p).map fun b=>b.2.1):=by
    refine List.mem_iff_getElem?.2 ⟨i,?_⟩
    rw[gz,List.getElem?_zipWith,h5,List.getElem?_map,ju h6,h4];rfl
   have e:cA u b0=cA u b:=by rw[h4];rfl
   rw[e];refine IE (hf _ hm) (fun s hs=>hR.2.2 s ?_) ?_ ?_
   ·rw[h4]at hs;exact qg p i b0 _ _ s hs
   ·rw[h4];exact hR.1
   ·rw[h4];exact hR.2.1
  refine bZ (α:=Block) hr bf fun a1 n1 c1 e bh=>?_
  subst e;exact hK he _ _ _ _ (h1.trans ah) bh
end Go.Proofs
end
section
namespace Go.Proofs
open Go.Sy
open Tryz
theorem SH (p:Prog):iE p=3*aw p+p.length:=by
 induction p with
 | nil=>rfl
 | cons b r ih =>
  unfold iE aw at ih ⊢;rw[List.map_cons,List.sum_cons,List.map_cons,List.sum_cons,List.length_cons,ih];omega
theorem eG {q:Prog} (he:al q=0) (hp:q.length≤12):aw q≤1000000∧iE q<400000∧∀b∈q,b.2.1.length≤100000:=by
 have h1:=fR he;have h2:=SH q;exact⟨by omega,by omega,fun b hb=>by have:=Eu hb;omega⟩
theorem EP {p:Prog} (hp:p.length≤12) (hl:∀b∈p,b.2.1.length≤100000) (hc:aw p≤1000000) (hv:iE p<400000) {a:Option Addr} {n c:Nat} {H:Hp} {K:Value→Hp→Prop} (ha:RL H a n c p) (hT:pC H)
  (fK:al p≠0→∀H',Le H H'→K (.tuple #[.agg #[.slice none 0 0],.int .i64 0,.int .i64 (al p)]) H')
  (hK:al p=0→∀a1 n1 c1 H',Le H H'→RL H' a1 n1 c1 (cJ p).1→K (.tuple #[.agg #[.slice a1 n1 c1],.int .i64 ((cJ p).2:Nat),.int .i64 0]) H'):aq prog 10 [.agg #[.slice a n c]] H K:=by
 have vi:∀b∈p,b.2.1.length≤1000000:=fun b hb=>Nat.le_trans (hl b hb) (by decide)
 refine ab af aa rfl func10 call10 ntmps10 results10 rfl rfl ?_
 by_cases he:al p=0
 ·refine .inr ⟨Prog×(Option Addr×Nat×Nat)×Nat,fun _=>0,fun z=>⟨[(1,.ptr 0 0),(2,.ptr 1 0),(6,.v (.int .i64 z.2.2))],[(0,.cells 24 [.v (.slice z.2.1.1 z.2.1.2.1 z.2.1.2.2)]),(1,.cells 24 [.v (.slice none 0 0)])],2⟩,
   fun z H'=>Le H H'∧RL H' z.2.1.1 z.2.1.2.1 z.2.1.2.2 z.1∧al z.1=0∧z.1.length≤12∧z.2.2+aw z.1≤aw p∧cJ p=((cJ z.1).1,(cJ z.1).2+z.2.2),fun z=>aw z.1,?_,?_⟩
  ·refine eL ha hc hv fun _ _=>?_
   refine⟨fun h=>absurd he (nt h),fun _=>?_⟩
   refine oV (by omega) vi ha fun v css H3 H1 az bf ak B3=>?_
   obtain⟨a1,n1,c1,rfl,hr⟩:=RL.aC (α:=Block) B3 (bf.up ak.le);have hle:Le H H1:=az.trans ak.le;have heq:=he;have hq:=hp;have F9:=hl;have LN:=hc;have PX:=hv;have hW:cJ p=((cJ p).1,(cJ p).2+0):=rfl;have h5:=fR he
   have vz:0+aw p≤aw p:=by omega
   refine u9 hq F9 LN PX hr (hT.up hle) (fun hb=>absurd heq hb) fun _ a2 n2 c2 H2 ah bj=>?_
   refine lL (hr.up ah) bj ?_;refine⟨fun h=>?_,fun h=>?_⟩
   ·have cu:¬aS p=p:=fun e=>nt h e.symm
    have aj:=fS cu;have bc:=lN cu;have Tg:=lM heq
    have E0:(aS p).length≤12:=by rw[dJ];exact hq
    refine⟨⟨by  omega,by  omega⟩,?_⟩;refine⟨(aS p,(a2,n2,c2),0+1),[(0,0),(1,1)],rfl,?_,⟨hle.trans ah,bj,Tg,E0,by dsimp only;omega,by rw[hW,bc];exact Prod.ext rfl (by dsimp only;try omega)⟩⟩
    (repeat' first|exact trivial|refine⟨?_,?_⟩|exact rfl|assumption)
   ·have yc:aS p=p:=(nf h).symm
    have e:cJ p=(p,0):=by rw[hW,jS yc];first | done | exact Prod.ext rfl (Nat.zero_add _)
    rw[e]at hK;exact hK he _ _ _ _ (hle.trans ah) (hr.up ah)
  ·rintro⟨q,⟨a1,n1,c1⟩,k⟩ H1 _ ⟨hle,hr,heq,hq,vz,hW⟩;dsimp only at hr heq hq vz hW;obtain⟨LN,PX,F9⟩:=eG heq hq;have h5:=fR he
   refine u9 hq F9 LN PX hr (hT.up hle) (fun hb=>absurd heq hb) fun _ a2 n2 c2 H2 ah bj=>?_
   refine lL (hr.up ah) bj ?_;refine⟨fun h=>?_,fun h=>?_⟩
   ·have cu:¬aS q=q:=fun e=>nt h e.symm
    have aj:=fS cu;have bc:=lN cu;have Tg:=lM heq
    have E0:(aS q).length≤12:=by rw[dJ];exact hq
    refine⟨⟨by dsimp only;omega,by dsimp only;omega⟩,?_⟩;refine⟨(aS q,(a2,n2,c2),k+1),[(0,0),(1,1)],rfl,?_,⟨hle.trans ah,bj,Tg,E0,by dsimp only;omega,by rw[hW,bc];exact Prod.ext rfl (by dsimp only;try omega)⟩,by dsimp only;omega⟩
    (repeat' first|exact trivial|refine⟨?_,?_⟩|exact rfl|assumption)
   ·have yc:aS q=q:=(nf h).symm
    have e:cJ p=(q,k):=by rw[hW,jS yc];first | done | exact Prod.ext rfl (Nat.zero_add _)
    rw[e]at hK;exact hK he _ _ _ _ (hle.trans ah) (hr.up ah)
 ·refine .inl ⟨0,?_⟩
  refine eL ha hc hv fun _ _=>?_
  refine⟨fun _=>?_,fun h=>absurd (nf h) he⟩;exact fK he H (Le.refl H)
end Go.Proofs
end
section
namespace Go.Proofs
open Go.Sy
open Tryz
abbrev NK (a:Option Addr) (n c:Nat):List (Nat×Bx):=[(0,.cells 84 [.v (.slice a n c)])]
def me (f:FuncId) (H:Hp) (a:Option Addr) (n c:Nat) (Q:Prog→Prop):Prop :=
 aY prog f [.ptr 0 0] (NK a n c) 1 H fun x t H'=>∃q a1 n1 c1,Q q∧RL H' a1 n1 c1 q∧x = .eo []∧t=⟨[],NK a1 n1 c1,1⟩
theorem ER {p:Prog} (hp:p.length≤12) (he:al p=0) {a:Option Addr} {n c:Nat} {H:Hp} (ha:RL H a n c p):me 38 H a n c (fun q=>q=bQ p):=by
 obtain⟨hc,hv,hl⟩:=eG he hp;unfold me;refine aJ af aa func38 call38 ntmps38 results38 rfl rfl ?_
 refine GS hp (fun b hb=>Nat.le_trans (hl b hb) (by decide)) hc hv ha (fun h=>absurd he h) fun _ a1 n1 c1 H1 ak bh=>?_
 exact⟨.eo [],NK a1 n1 c1,1,[(0,0)],by (repeat' first|exact trivial|refine⟨?_,?_⟩|exact rfl|assumption),bQ p,a1,n1,c1,rfl,bh,rfl,rfl⟩
theorem BU {p:Prog} (hp:p.length≤12) (he:al p=0) {a:Option Addr} {n c:Nat} {H:Hp} (ha:RL H a n c p):me 39 H a n c (yb p):=by
 obtain⟨hc,hv,hl⟩:=eG he hp;unfold me;refine aJ af aa func39 call39 ntmps39 results39 rfl rfl ?_
 refine Gl hp (fun b hb=>Nat.le_trans (hl b hb) (by decide)) hc hv ha (fun h=>absurd he h) fun _ a1 n1 c1 R H1 ak hS hR bh=>?_
 exact⟨.eo [],NK a1 n1 c1,1,[(0,0)],by (repeat' first|exact trivial|refine⟨?_,?_⟩|exact rfl|assumption),_,a1,n1,c1,⟨R,hS,hR,rfl⟩,bh,rfl,rfl⟩
theorem BV {p:Prog} (hp:p.length≤12) (he:al p=0) {a:Option Addr} {n c:Nat} {H:Hp} (ha:RL H a n c p) (hT:pC H):me 40 H a n c (fun q=>q=(cJ p).1):=by
 obtain⟨hc,hv,hl⟩:=eG he hp;unfold me;refine aJ af aa func40 call40 ntmps40 results40 rfl rfl ?_
 refine EP hp hl hc hv ha hT (fun h=>absurd he h) fun _ a1 n1 c1 H1 ak bh=>?_
 exact⟨.eo [],NK a1 n1 c1,1,[(0,0)],by (repeat' first|exact trivial|refine⟨?_,?_⟩|exact rfl|assumption),_,a1,n1,c1,rfl,bh,rfl,rfl⟩
theorem BW {p:Prog} (hp:p.length≤12) (he:al p=0) {a:Option Addr} {n c:Nat} {H:Hp} (ha:RL H a n c p):me 41 H a n c (KG p):=by
 obtain⟨hc,hv,hl⟩:=eG he hp;unfold me;refine aJ af aa func41 call41 ntmps41 results41 rfl rfl ?_
 refine DP hp (fun b hb=>Nat.le_trans (hl b hb) (by decide)) hc hv ha (fun h=>absurd he h) fun _ a1 n1 c1 R r H1 ak hS hR hM bh=>?_
 exact⟨.eo [],NK a1 n1 c1,1,[(0,0)],by (repeat' first|exact trivial|refine⟨?_,?_⟩|exact rfl|assumption),r,a1,n1,c1,⟨_,⟨R,hS,hR,rfl⟩,hM⟩,bh,rfl,rfl⟩
theorem ES {f:FuncId} {H:Hp} {w:World} {B:Nat} {a:Option Addr} {n c:Nat} {Q:Prog→Prop} (h:me f H a n c Q) (hp:∀b o,H b=some o→w.heap[b]?=some o) (hB:w.heap[B]?=some (.cells #[.slice a n c] 84)) (hH:H B=none):
  Calls prog f #[.pointer (some ⟨B,0,none⟩)] w fun e w'=>e = .returned (.tuple #[])∧∃q a1 n1 c1 H',Q q∧RL H' a1 n1 c1 q∧Le H H'∧(∀b o,H' b=some o→w'.heap[b]?=some o)∧H' B=none∧w'.heap[B]?=some (.cells #[.slice a1 n1 c1] 84) ∧
   (∀b,H b=none→b<w.heap.size→H' b=none)∧(∀b,b<w.heap.size→b≠B→w'.heap[b]?=w.heap[b]?)∧w.heap.size≤w'.heap.size∧w'.os=w.os∧w'.tape=w.tape∧OD w w':=by
 let ρ:bk:=⟨fun _=>B,fun _=>(none,0,0)⟩
 have hE:∀g,(Bs.lP w ρ (NK a n c) 1 H).E g→g=B:=fun g ⟨k,b,h1,h2⟩=>by
  rw[aT]at h1;split at h1
  ·simp only[Option.some.injEq]at h1;subst h1;exact h2
  ·cases h1
 have ZU:(Bs.lP w ρ (NK a n c) 1 H).E B:=⟨0,_,rfl,rfl⟩
 have aj:B<w.heap.size:=(Array.getElem?_eq_some_iff.1 hB).1
 have hk:∀ {k:Nat} {b:Bx},lk (NK a n c) k=some b→k=0∧b = .cells 84 [.v (.slice a n c)]:=fun {k b} h1=>by
  rw[aT]at h1;split at h1
  ·rename_i e;simp only[Option.some.injEq]at h1;exact⟨e.symm,h1.symm⟩
  ·cases h1
 have hm:Mem (Bs.lP w ρ (NK a n c) 1 H) ρ (NK a n c) 1 H w :=
  {os:=rfl,tape:=rfl,output:=⟨rfl,Nat.le_refl _⟩,size:=Nat.le_refl _,frame:=fun _ _ _=>rfl,base:=Nat.le_refl _,agree:=fun _ _=>⟨rfl,rfl⟩
   hp:=hp,hle:=Le.refl H,cR:=fun _ h _ _=>h
   ok:=fun k b h1=>by
    obtain⟨rfl,rfl⟩:=hk h1;exact⟨Nat.zero_lt_one,hB,rfl⟩
   own:=fun k b g h1 h2=>by
    obtain⟨rfl,rfl⟩:=hk h1;have h2:g=B:=h2;subst h2;exact⟨hH,.inr ZU⟩
   eZ:=fun k k' b b' g h1 h2 _ _=>by
    obtain⟨rfl,_⟩:=hk h1;obtain⟨rfl,_⟩:=hk h2
    rfl }
 have hc:=h.2 w ρ hm rfl
 refine hc.mono fun e w' ⟨x,t,H',ρ',e1,⟨q,a1,n1,c1,hQ,hr,hx,ht⟩,_,vh⟩=>?_
 subst hx;subst ht;have hρ:ρ'.b 0=B:=(vh.agree 0 Nat.zero_lt_one).1;have hb:=(vh.ok 0 _ rfl).2.1;have hb:w'.heap[ρ'.b 0]?=some (.cells #[.slice a1 n1 c1] 84):=hb;rw[hρ]at hb;have ho:=(vh.own 0 _ (ρ'.b 0) rfl rfl).1;rw[hρ]at ho;refine⟨e1,q,a1,n1,c1,H',hQ,hr,vh.hle,vh.hp,ho,hb,fun b h1 h2=>?_,fun b h1 h2=>vh.frame b h1 (fun h=>h2 (hE b h)),vh.size,vh.os,vh.tape,vh.output⟩
 by_cases e2:b=B
 ·rw[e2];exact ho
 ·exact vh.cR b h1 h2 (fun h=>e2 (hE b h))
end Go.Proofs
end
section
namespace Go.Proofs
open Go.Sy
end Go.Proofs
end
section
namespace Go.Proofs
open Go.Sy
open Tryz
theorem yd (V:List aQ) (b:Block) (i:Nat):gm V b (i+1)=gm V b i++qC V b.2.1 i:=by
 rw[gm,List.range_succ,List.flatMap_append];simp [gm]
theorem Ak (V:List aQ) (l:List Stmt) (k:Nat):(qC V l k).length≤l.length:=by
 rw[qC,List.length_map];exact List.length_filter_le _ _
theorem Al (V:List aQ) (b:Block):∀i,(gm V b i).length≤i*b.2.1.length
 | 0=>by simp [gm]
 | i+1=>by
  have h1:=Al V b i;have h2:=Ak V b.2.1 i;rw[yd,List.length_append,Nat.succ_mul];omega
theorem NL (V:List aQ) (b:Block) (i:Nat):(ma V b i).length≤i:=by
 rw[ma,List.length_map];exact Nat.le_trans (List.length_filter_le _ _) (by rw[List.length_range];exact Nat.le_refl _)
theorem lO (V:List aQ) (b:Block) {i:Nat} (hi:i≤1000):∀x∈ma V b i,oh x:=fun x hx=>by
 obtain⟨k,hk,rfl⟩:=List.mem_map.1 hx;have:=List.mem_range.1 (List.mem_filter.1 hk).1;exact⟨by omega,by omega⟩
theorem jU (V:List aQ) (b:Block) {i:Nat} (hi:i≤1000):∀x∈gm V b i,oh x:=fun x hx=>by
 obtain⟨k,hk,h⟩:=List.mem_flatMap.1 hx;obtain⟨_,_,rfl⟩:=List.mem_map.1 h;have:=List.mem_range.1 hk;exact⟨by omega,by omega⟩
theorem Am (V:List aQ) (b:Block) (i:Nat):ma V b (i+1)=ma V b i++(if bT (V[i]?.getD []) b.2.2 b.2.1=1 then [(i:Int)] else []):=by
 rw[ma,List.range_succ,List.filter_append,List.map_append]
 by_cases h:bT (V[i]?.getD []) b.2.2 b.2.1=1
 ·simp [ma,h]
 ·simp [ma,h]
theorem ye {V:List aQ} {l:List Stmt} {j:Nat} {s:Stmt} (h:l[j]?=some s) (k:Nat):qC V (l.take (j+1)) k=qC V (l.take j) k++(if s.1≠3∧s.2.1.l=V[k]?.getD [] then [(k:Int)] else []):=by
 rw[qC,List.take_add_one,h,Option.toList_some,List.filter_append,List.map_append]
 by_cases h2:s.1≠3∧s.2.1.l=V[k]?.getD []
 ·simp only[List.filter_cons,decide_eq_true h2,if_pos h2];rfl
 ·simp only[List.filter_cons,decide_eq_false h2,if_neg h2];rfl
theorem KM (p:Prog):¬[]∈varsOf p:=by
 have hB:∀(l:List Stmt) {o:List aQ},¬[]∈o→¬[]∈fH o l:=fun l=>by
  induction l with
  | nil=>exact fun h=>h
  | cons s r ih=>exact fun h=>ih (lK (ie s) h)
 have:∀(q:Prog) {o:List aQ},¬[]∈o→¬[]∈q.foldl dW o:=fun q=>by
  induction q with
  | nil=>exact fun h=>h
  | cons b r ih=>exact fun h=>ih (lK _ (hB b.2.1 h))
 exact this p (by simp)
theorem SI {p:Prog} (he:al p=0) {b:Block} (hb:b∈p):b.2.2.1≠2→b.2.2.2.1.1.l=[]:=fun h2=>by
 have hB:=(cj he).2.2.2 b hb;rw[bM,Bool.and_eq_true,Bool.and_eq_true]at hB;have ht:=hB.1.2;unfold fJ at ht;split at ht
 ·simp only[Bool.and_eq_true,decide_eq_true_eq]at ht
  rw[ht.2.2];rfl
 ·split at ht
  ·simp only[Bool.and_eq_true,decide_eq_true_eq]at ht
   rw[ht.2];rfl
  ·cases ht
theorem NM {α β:Type} {P:Prop} (f:α→β) (k:∀g:α→β,(∀x,g x=f x)→P):P:=k f fun _=>rfl
theorem rz {p:Prog} (he:al p=0) (hp:p.length≤12) (hl:∀b∈p,b.2.1.length≤100000) (hv:iE p<400000) {a:Option Addr} {n c:Nat} {H:Hp} {K:Value→Hp→Prop} (ha:RL H a n c p)
  (hK:∀z H',Le H H'→Bt.dB H' (ck p) z→K (Bt.dG (ck p) z) H'):aq prog 235 [.agg #[.slice a n c]] H K:=by
 have hn:=ha.aB;have eI:=ha.le;have Nx:=BO he;refine ab af aa rfl func235 call235 ntmps235 results235 rfl rfl ?_
 refine eh ha hv fun av nv cv H1 ak yo=>?_
 have uQ:=yo.aB;rw[List.length_map]at uQ;subst uQ;refine⟨none,?_⟩
 refine bH (α:=(Option Addr×Nat×Nat)×(Option Addr×Nat×Nat)) ?_ ?_
  (.two 5 10 (.two 6 10 (.two 8 10 (.two 9 10 (.one [2] [0,1,2,3,4,7,5,6,8,9,10,11]) (.one [2] [0,1,2,3,4,7,5,6,8,10,9,11])) (.one [2] [0,1,2,3,4,7,5,6,10,8,9,11])) (.one [2] [0,1,2,3,4,7,5,10,6,8,9,11])) (.one [2] [0,1,2,3,4,7,10,5,6,8,9,11]))
  (fun z=>⟨[(1,.ptr 0 0),(2,.ptr 1 0),(3,.v (.slice av (varsOf p).length cv)),(4,.v (.int .i64 ((varsOf p).length:Nat))),(5,.ptr 2 0)],
   [(0,.cells 24 [.v (.slice a n c)]),(1,.cells 106 (vL mP)),(2,.cells 106 [.v (.int .i64 (1:Nat)),.v (.int .i64 ((varsOf p).length:Nat)),.v (.int .i64 n),.v (.slice z.1.1 z.1.2.1 z.1.2.2),.v (.slice none 0 0),.v (.slice z.2.1 z.2.2.1 z.2.2.2),.v (.slice none 0 0)])],3⟩)
  (fun z H'=>Le H1 H'∧RL H' z.1.1 z.1.2.1 z.1.2.2 (aR (iZ (aR (aG p))))∧RL H' z.2.1 z.2.2.1 z.2.2.2 (dn (varsOf p).length)) (by kernel_rfl) ?_ ?_
 ·exact⟨af.tt,af.eqs⟩
 ·exact aa
 ·refine⟨?_,?_⟩
  ·refine⟨?_,?_⟩
   ·refine⟨?_,?_⟩
    ·refine⟨?_,?_⟩
     ·refine cw hp (ha.up ak) fun e1 e2 e3 H2 ah bj=>?_
      refine gK (eF hp) bj fun f1 f2 f3 H3 az db=>?_
      refine bt (w:=(varsOf p).length) (l:=[]) (by omega) bz fun w1 w2 w3 H5 aK ct=>?_
      exact⟨((f1,f2,f3),(w1,w2,w3)),[(0,0),(1,1),(2,2)],by (repeat' first|exact trivial|refine⟨?_,?_⟩|exact rfl|assumption),(ah.trans az).trans aK,db.up aK,ct⟩
     ·refine cw hp (ha.up ak) fun e1 e2 e3 H2 ah bj=>?_
      refine gK (eF hp) bj fun f1 f2 f3 H3 az db=>?_
      refine bt (w:=(varsOf p).length) (l:=[]) (by omega) bz fun w1 w2 w3 H5 aK ct=>?_
      exact⟨((f1,f2,f3),(w1,w2,w3)),[(0,0),(1,1),(2,2)],by (repeat' first|exact trivial|refine⟨?_,?_⟩|exact rfl|assumption),(ah.trans az).trans aK,db.up aK,ct⟩
    ·refine cw hp (ha.up ak) fun e1 e2 e3 H2 ah bj=>?_
     refine gK (eF hp) bj fun f1 f2 f3 H3 az db=>?_
     refine bt (w:=(varsOf p).length) (l:=[]) (by omega) bz fun w1 w2 w3 H5 aK ct=>?_
     exact⟨((f1,f2,f3),(w1,w2,w3)),[(0,0),(1,1),(2,2)],by (repeat' first|exact trivial|refine⟨?_,?_⟩|exact rfl|assumption),(ah.trans az).trans aK,db.up aK,ct⟩
   ·refine cw hp (ha.up ak) fun e1 e2 e3 H2 ah bj=>?_
    refine gK (eF hp) bj fun f1 f2 f3 H3 az db=>?_
    refine bt (w:=(varsOf p).length) (l:=[]) (by omega) bz fun w1 w2 w3 H5 aK ct=>?_
    exact⟨((f1,f2,f3),(w1,w2,w3)),[(0,0),(1,1),(2,2)],by (repeat' first|exact trivial|refine⟨?_,?_⟩|exact rfl|assumption),(ah.trans az).trans aK,db.up aK,ct⟩
  ·refine cw hp (ha.up ak) fun e1 e2 e3 H2 ah bj=>?_
   refine gK (eF hp) bj fun f1 f2 f3 H3 az db=>?_
   refine bt (w:=(varsOf p).length) (l:=[]) (by omega) bz fun w1 w2 w3 H5 aK ct=>?_
   exact⟨((f1,f2,f3),(w1,w2,w3)),[(0,0),(1,1),(2,2)],by (repeat' first|exact trivial|refine⟨?_,?_⟩|exact rfl|assumption),(ah.trans az).trans aK,db.up aK,ct⟩
 rintro⟨⟨ea,en,ec⟩,⟨ia,ni,ic⟩⟩ H2 _ ⟨ah,UF,UG⟩;dsimp only at UF UG
 refine⟨Nat×List (List Value),fun q=>⟨[(1,.ptr 0 0),(2,.ptr 1 0),(3,.v (.slice av (varsOf p).length cv)),(4,.v (.int .i64 ((varsOf p).length:Nat))),(5,.ptr 2 0),(29,.v (.slice a n c)),(30,.v (.int .i64 n)),(31,.v (.int .i64 q.1))],
   [(0,.cells 24 [.v (.slice a n c)]),(1,.cells 106 (vL mP)),(2,.cells 106 [.v (.int .i64 (1:Nat)),.v (.int .i64 ((varsOf p).length:Nat)),.v (.int .i64 n),.v (.slice ea en ec),.own 3,.v (.slice ia ni ic),.own 4]),(3,.row 3 1 (au (dV b7 (p.take q.1) 0))),(4,.row 143 3 q.2)],5⟩,
  fun q H'=>Le H2 H'∧q.1≤p.length∧RC (α:=Bt.qB) H' q.2 (((ck p).T.map Bt.qB.mk).take q.1),fun q=>p.length - q.1,⟨(0,[]),[(0,0),(1,1),(2,2)],?_,Le.refl _,Nat.zero_le _,RC.nil⟩,?_⟩
 ·(repeat' first|exact trivial|refine⟨?_,?_⟩|exact rfl|assumption)
 rintro⟨j,css⟩ H4 _ ⟨aN,hj,bf⟩;dsimp only at hj bf;have hle:Le H H4:=(ak.trans ah).trans aN
 have Ur:((ck p).T.map Bt.qB.mk).length=p.length:=by simp [ck]
 have fC:css.length=j:=by have h1:=bf.1;rw[List.length_take]at h1;omega
 refine⟨fun h=>?_,fun h=>?_⟩
 ·have aj:j<p.length:=by have:=dt h;dsimp only at this;omega
  refine aD p[j] fun b gV=>?_
  have bG:p[j]?=some b:=by rw[gV];exact aL aj
  have oJ:=hl b (by rw[gV];exact List.getElem_mem aj);have QJ:yp (varsOf p) b=UJ (varsOf p) b:=SE (fI p pz) (KM p) (SI he (dY bG));have hex:=zu b7 aj;have W6:=w4 b7 (p.take j) 0;rw[List.length_take,Nat.min_eq_left (by omega)]at W6;have gq:(au (dV b7 (p.take j) 0)).length=(dV b7 (p.take j) 0).length:=List.length_map _
  refine NM (fun k=>au (ma (varsOf p) b k)) fun G hG=>?_
  refine NM (fun k=>au (gm (varsOf p) b k)) fun KL NN=>?_
  refine NM (fun k i=>au (gm (varsOf p) b k++qC (varsOf p) (b.2.1.take i) k)) fun KK Mk=>?_
  have Mk:∀k i,KK k i=au (gm (varsOf p) b k++qC (varsOf p) (b.2.1.take i) k):=fun k i=>congrFun (Mk k) i
  have g0:G 0=[]:=by rw[hG];rfl
  have l0:KL 0=[]:=by rw[NN];rfl
  have XZ:∀k,(G k).length≤k:=fun k=>by rw[hG,List.length_map];exact NL _ _ k
  have X0:∀k v,(varsOf p)[k]?.getD []=v→bT v b.2.2 b.2.1=1→G k++[[.int .i64 (k:Nat)]]=G (k+1):=fun k v vr JT=>by
   have UO:=Am (varsOf p) b k;rw[vr,if_pos JT]at UO
   rw[hG,hG,UO,au,au,List.map_append];rfl
  have X1:∀k v,(varsOf p)[k]?.getD []=v→¬bT v b.2.2 b.2.1=1→G k=G (k+1):=fun k v vr JT=>by
   have UO:=Am (varsOf p) b k;rw[vr,if_neg JT,List.append_nil]at UO;rw[hG,hG,UO]
  have PY:∀k,KL k=KK k 0:=fun k=>by rw[NN,Mk];simp [qC]
  have PZ:∀k i,k≤64→i≤b.2.1.length→(KK k i).length≤6500000:=fun k i hk hi=>by
   have h1:=Al (varsOf p) b k;have h2:=Ak (varsOf p) (b.2.1.take i) k;rw[List.length_take]at h2;rw[Mk,List.length_map,List.length_append];have h3:k*b.2.1.length≤64*100000:=Nat.mul_le_mul hk oJ;omega
  have P0:∀(k i:Nat) (s:Stmt) (v:aQ),b.2.1[i]?=some s→(varsOf p)[k]?.getD []=v→¬s.1=3→s.2.1.l=v→KK k i++[[.int .i64 (k:Nat)]]=KK k (i+1):=fun k i s v dy vr h3 h4=>by
   have MA:=ye (V:=varsOf p) dy k;rw[vr,if_pos ⟨h3,h4⟩]at MA
   rw[Mk,Mk,MA,←List.append_assoc,au,au,List.map_append (l₂:=[(k:Int)])];rfl
  have ET:∀(k i:Nat) (s:Stmt) (v:aQ),b.2.1[i]?=some s→(varsOf p)[k]?.getD []=v→¬(s.1≠3∧s.2.1.l=v)→KK k i=KK k (i+1):=fun k i s v dy vr h3=>by
   have MA:=ye (V:=varsOf p) dy k;rw[vr,if_neg h3,List.append_nil]at MA;rw[Mk,Mk,MA]
  have P1:∀k,KK k b.2.1.length=KL (k+1):=fun k=>by rw[Mk,NN,List.take_length,yd]
  refine bF (ha.up hle) bG fun ad a5 n5 c5 q1 hh ct xw vR=>?_
  have xl:n5=b.2.1.length:=ct.aB;refine⟨ad,⟨by dsimp only;omega,by dsimp only;omega,q1⟩,?_⟩;refine⟨_,hh,?_⟩;refine⟨fun h=>?_,fun h=>?_⟩
  ·have RD:b7 b=true:=h;rw[←gV,RD,if_pos rfl]at hex;refine⟨⟨by show ((au (dV b7 (p.take j) 0)).length+1)*8≤140737488355328;omega,by show (au (dV b7 (p.take j) 0)).length+1≤9223372036854775807;omega⟩,?_⟩
   have bL:au (dV b7 (p.take j) 0)++[[.int .i64 (j:Int)]]=au (dV b7 (p.take (j+1)) 0):=by rw[hex];simp
   refine⟨Nat,fun k=>⟨[(1,.ptr 0 0),(2,.ptr 1 0),(3,.v (.slice av (varsOf p).length cv)),(4,.v (.int .i64 ((varsOf p).length:Nat))),(5,.ptr 2 0),(6,.v (.int .i64 j)),(7,.ptr 5 0),(8,.own 6),(9,.own 7),(29,.v (.slice a n c)),(30,.v (.int .i64 n)),(31,.v (.int .i64 j)),(46,.v (.slice av (varsOf p).length cv)),(47,.v (.int .i64 ((varsOf p).length:Nat))),(48,.v (.int .i64 k))],
     [(0,.cells 24 [.v (.slice a n c)]),(1,.cells 106 (vL mP)),(2,.cells 106 [.v (.int .i64 (1:Nat)),.v (.int .i64 ((varsOf p).length:Nat)),.v (.int .i64 n),.v (.slice ea en ec),.own 3,.v (.slice ia ni ic),.own 4]),(3,.row 3 1 (au (dV b7 (p.take (j+1)) 0))),(4,.row 143 3 css),(5,.cells 66 (vL (rr (.slice a5 n5 c5) b))),(6,.row 3 1 (G k)),(7,.row 3 1 (KL k))],8⟩,
    fun k H'=>Le H4 H'∧k≤(varsOf p).length,fun k=>(varsOf p).length - k,⟨0,[(0,0),(1,1),(2,2),(3,7),(4,4),(5,5)],?_,Le.refl H4,Nat.zero_le _⟩,?_⟩
   ·(repeat' first|exact trivial|refine⟨?_,?_⟩|exact rfl|assumption)
   rintro k H5 _ ⟨aK,e8⟩;have S3:=XZ k;refine⟨fun h=>?_,fun h=>?_⟩
   ·have e8:k<(varsOf p).length:=by have:=dt h;omega
    refine aD (varsOf p)[k] fun v Sm=>?_
    have QK:(varsOf p)[k]?=some v:=by rw[Sm];exact aL e8
    have vr:(varsOf p)[k]?.getD []=v:=by rw[QK];rfl
    have uS:=(ah.trans aN).trans aK
    refine uX (yo.up uS) QK fun iy q2 gj _=>?_
    refine⟨iy,⟨by omega,by omega,q2⟩,?_⟩;refine⟨_,gj,?_⟩
    refine uZ (b:=b) oJ (ct.up aK) fun H6 aI=>?_
    refine⟨fun h=>?_,fun h=>?_⟩
    ·have JT:bT v b.2.2 b.2.1=1:=dt h;have eg:=X0 k v vr JT;refine⟨⟨by show (_+1)*8≤140737488355328;omega,by show _+1≤9223372036854775807;omega⟩,?_⟩
     refine⟨Nat,fun i=>⟨[(1,.ptr 0 0),(2,.ptr 1 0),(3,.v (.slice av (varsOf p).length cv)),(4,.v (.int .i64 ((varsOf p).length:Nat))),(5,.ptr 2 0),(6,.v (.int .i64 j)),(7,.ptr 5 0),(8,.own 6),(9,.own 7),(10,.v (.int .i64 k)),(11,.v (.string (bs v))),(29,.v (.slice a n c)),(30,.v (.int .i64 n)),(31,.v (.int .i64 j)),(46,.v (.slice av (varsOf p).length cv)),(47,.v (.int .i64 ((varsOf p).length:Nat))),(48,.v (.int .i64 k)),(62,.v (.slice a5 n5 c5)),(63,.v (.int .i64 n5)),(64,.v (.int .i64 i))],
       [(0,.cells 24 [.v (.slice a n c)]),(1,.cells 106 (vL mP)),(2,.cells 106 [.v (.int .i64 (1:Nat)),.v (.int .i64 ((varsOf p).length:Nat)),.v (.int .i64 n),.v (.slice ea en ec),.own 3,.v (.slice ia ni ic),.own 4]),(3,.row 3 1 (au (dV b7 (p.take (j+1)) 0))),(4,.row 143 3 css),(5,.cells 66 (vL (rr (.slice a5 n5 c5) b))),(6,.row 3 1 (G (k+1))),(7,.row 3 1 (KK k i))],8⟩,
      fun i H'=>H'=H5∧i≤b.2.1.length,fun i=>b.2.1.length - i,⟨0,[(0,0),(1,1),(2,2),(3,3),(4,4),(5,5),(6,9),(7,7)],?_,rfl,Nat.zero_le _⟩,?_⟩
     ·have e0:=PY k
      (repeat' first|exact trivial|refine⟨?_,?_⟩|exact rfl|assumption)
     rintro i H7 _ ⟨rfl,hi⟩;have SJ:=PZ k i (by omega) hi;refine⟨fun h=>?_,fun h=>?_⟩
     ·have aX:i<b.2.1.length:=by have:=dt h;omega
      refine aD b.2.1[i] fun s hs=>?_
      have dy:b.2.1[i]?=some s:=by rw[hs];exact aL aX
      refine du (ct.up aK) dy fun sy q3 ql _=>?_
      refine⟨sy,⟨by omega,by omega,q3⟩,?_⟩;refine⟨_,ql,?_⟩;refine⟨fun h=>?_,fun h=>?_⟩
      ·have kJ:¬s.1=3:=nt h;refine⟨fun h=>?_,fun h=>?_⟩
       ·have yI:s.2.1.l=v:=dt h;have e:=P0 k i s v dy vr kJ yI;refine⟨⟨by show (_+1)*8≤140737488355328;omega,by show _+1≤9223372036854775807;omega⟩,?_⟩;refine⟨⟨by omega,by omega⟩,i+1,[(0,0),(1,1),(2,2),(3,3),(4,4),(5,5),(6,6),(7,10)],?_,⟨rfl,aX⟩,by dsimp only;omega⟩
        (repeat' first|exact trivial|refine⟨?_,?_⟩|exact rfl|assumption)
       ·have yI:¬s.2.1.l=v:=df h;have e:=ET k i s v dy vr (fun h=>yI h.2);refine⟨⟨by omega,by omega⟩,i+1,[(0,0),(1,1),(2,2),(3,3),(4,4),(5,5),(6,6),(7,7)],?_,⟨rfl,aX⟩,by dsimp only;omega⟩
        (repeat' first|exact trivial|refine⟨?_,?_⟩|exact rfl|assumption)
      ·have kJ:s.1=3:=nf h;have e:=ET k i s v dy vr (fun h=>h.1 kJ);refine⟨⟨by omega,by omega⟩,i+1,[(0,0),(1,1),(2,2),(3,3),(4,4),(5,5),(6,6),(7,7)],?_,⟨rfl,aX⟩,by dsimp only;omega⟩
       (repeat' first|exact trivial|refine⟨?_,?_⟩|exact rfl|assumption)
     ·have aX:i=b.2.1.length:=by have:=df h;omega
      subst aX;have e2:=P1 k;refine⟨⟨by omega,by omega⟩,k+1,[(0,0),(1,1),(2,2),(3,3),(4,4),(5,5),(6,6),(7,7)],?_,⟨aK,e8⟩,by dsimp only;omega⟩
      (repeat' first|exact trivial|refine⟨?_,?_⟩|exact rfl|assumption)
    ·have JT:¬bT v b.2.2 b.2.1=1:=df h;have eg:=X1 k v vr JT
     refine⟨Nat,fun i=>⟨[(1,.ptr 0 0),(2,.ptr 1 0),(3,.v (.slice av (varsOf p).length cv)),(4,.v (.int .i64 ((varsOf p).length:Nat))),(5,.ptr 2 0),(6,.v (.int .i64 j)),(7,.ptr 5 0),(8,.own 6),(9,.own 7),(10,.v (.int .i64 k)),(11,.v (.string (bs v))),(29,.v (.slice a n c)),(30,.v (.int .i64 n)),(31,.v (.int .i64 j)),(46,.v (.slice av (varsOf p).length cv)),(47,.v (.int .i64 ((varsOf p).length:Nat))),(48,.v (.int .i64 k)),(62,.v (.slice a5 n5 c5)),(63,.v (.int .i64 n5)),(64,.v (.int .i64 i))],
       [(0,.cells 24 [.v (.slice a n c)]),(1,.cells 106 (vL mP)),(2,.cells 106 [.v (.int .i64 (1:Nat)),.v (.int .i64 ((varsOf p).length:Nat)),.v (.int .i64 n),.v (.slice ea en ec),.own 3,.v (.slice ia ni ic),.own 4]),(3,.row 3 1 (au (dV b7 (p.take (j+1)) 0))),(4,.row 143 3 css),(5,.cells 66 (vL (rr (.slice a5 n5 c5) b))),(6,.row 3 1 (G (k+1))),(7,.row 3 1 (KK k i))],8⟩,
      fun i H'=>H'=H5∧i≤b.2.1.length,fun i=>b.2.1.length - i,⟨0,[(0,0),(1,1),(2,2),(3,3),(4,4),(5,5),(6,6),(7,7)],?_,rfl,Nat.zero_le _⟩,?_⟩
     ·have e0:=PY k
      (repeat' first|exact trivial|refine⟨?_,?_⟩|exact rfl|assumption)
     rintro i H7 _ ⟨rfl,hi⟩;have SJ:=PZ k i (by omega) hi;refine⟨fun h=>?_,fun h=>?_⟩
     ·have aX:i<b.2.1.length:=by have:=dt h;omega
      refine aD b.2.1[i] fun s hs=>?_
      have dy:b.2.1[i]?=some s:=by rw[hs];exact aL aX
      refine du (ct.up aK) dy fun sy q3 ql _=>?_
      refine⟨sy,⟨by omega,by omega,q3⟩,?_⟩;refine⟨_,ql,?_⟩;refine⟨fun h=>?_,fun h=>?_⟩
      ·have kJ:¬s.1=3:=nt h;refine⟨fun h=>?_,fun h=>?_⟩
       ·have yI:s.2.1.l=v:=dt h;have e:=P0 k i s v dy vr kJ yI;refine⟨⟨by show (_+1)*8≤140737488355328;omega,by show _+1≤9223372036854775807;omega⟩,?_⟩;refine⟨⟨by omega,by omega⟩,i+1,[(0,0),(1,1),(2,2),(3,3),(4,4),(5,5),(6,6),(7,10)],?_,⟨rfl,aX⟩,by dsimp only;omega⟩
        (repeat' first|exact trivial|refine⟨?_,?_⟩|exact rfl|assumption)
       ·have yI:¬s.2.1.l=v:=df h;have e:=ET k i s v dy vr (fun h=>yI h.2);refine⟨⟨by omega,by omega⟩,i+1,[(0,0),(1,1),(2,2),(3,3),(4,4),(5,5),(6,6),(7,7)],?_,⟨rfl,aX⟩,by dsimp only;omega⟩
        (repeat' first|exact trivial|refine⟨?_,?_⟩|exact rfl|assumption)
      ·have kJ:s.1=3:=nf h;have e:=ET k i s v dy vr (fun h=>h.1 kJ);refine⟨⟨by omega,by omega⟩,i+1,[(0,0),(1,1),(2,2),(3,3),(4,4),(5,5),(6,6),(7,7)],?_,⟨rfl,aX⟩,by dsimp only;omega⟩
       (repeat' first|exact trivial|refine⟨?_,?_⟩|exact rfl|assumption)
     ·have aX:i=b.2.1.length:=by have:=df h;omega
      subst aX;have e2:=P1 k;refine⟨⟨by omega,by omega⟩,k+1,[(0,0),(1,1),(2,2),(3,3),(4,4),(5,5),(6,6),(7,7)],?_,⟨aK,e8⟩,by dsimp only;omega⟩
      (repeat' first|exact trivial|refine⟨?_,?_⟩|exact rfl|assumption)
   ·have No:k=(varsOf p).length:=by have:=df h;omega
    subst No;refine⟨none,?_⟩
    refine bH (α:=List (List Value)) ?_ ?_
     (.two 1 4 (.one [2,4,6,7,8,9] [0,2,3,5,6,1,4,7,8,9,10,11,12]) (.two 1 7 (.one [2,4,6,7,8,9] [0,2,3,5,6,4,1,7,8,9,10,11,12]) (.two 1 9 (.one [2,4,6,7,8,9] [0,2,3,5,6,4,7,8,1,9,10,11,12]) (.one [2,4,6,7,8,9] [0,2,3,5,6,4,7,8,9,1,10,11,12]))))
     (fun c'=>⟨[(1,.ptr 0 0),(2,.ptr 1 0),(3,.v (.slice av (varsOf p).length cv)),(4,.v (.int .i64 ((varsOf p).length:Nat))),(5,.ptr 2 0),(29,.v (.slice a n c)),(30,.v (.int .i64 n)),(31,.v (.int .i64 j))],
      [(0,.cells 24 [.v (.slice a n c)]),(1,.cells 106 (vL mP)),(2,.cells 106 [.v (.int .i64 (1:Nat)),.v (.int .i64 ((varsOf p).length:Nat)),.v (.int .i64 n),.v (.slice ea en ec),.own 3,.v (.slice ia ni ic),.own 4]),(3,.row 3 1 (au (dV b7 (p.take (j+1)) 0))),(4,.row 143 3 c')],5⟩)
     (fun c' H'=>Le H5 H'∧RC (α:=Bt.qB) H' c' (((ck p).T.map Bt.qB.mk).take (j+1))) (by kernel_rfl) ?_ ?_
    ·exact⟨af.tt,af.eqs⟩
    ·exact aa
    ·refine⟨?_,?_⟩
     ·intro v6 H6 aI cZ
      have cZ:aW H6 v6 1 (au (ma (varsOf p) b (varsOf p).length)):=by rw[←hG];exact cZ
      obtain⟨a7,n7,c7,rfl,dz⟩:=RL.aC (α:=Int) cZ (cD (lO (varsOf p) b (by omega)))
      refine bt (w:=(varsOf p).length) (by omega) dz fun g1 g2 g3 H7 cS Hq=>?_
      intro v8 H8 jR rA
      have rA:aW H8 v8 1 (au (gm (varsOf p) b (varsOf p).length)):=by rw[←NN];exact rA
      obtain⟨a8,n8,c8,rfl,lj⟩:=RL.aC (α:=Int) rA (cD (jU (varsOf p) b (by omega)))
      refine bt (w:=(varsOf p).length) (by omega) lj fun k1 k2 k3 H9 ez A3=>?_
      refine⟨⟨by show (css.length+1)*72≤140737488355328;omega,by show css.length+1≤9223372036854775807;omega⟩,?_⟩;have uM:=((aI.le.trans cS).trans jR.le).trans ez
      have Hr:Bt.B7 H9 (yp (varsOf p) b) ⟨g1,g2,g3,k1,k2,k3⟩:=by rw[QJ];exact⟨Hq.up (jR.le.trans ez),A3⟩
      exact⟨css++[Bt.Hf ⟨g1,g2,g3,k1,k2,k3⟩],[(0,0),(1,1),(2,2),(3,3),(4,9)],by (repeat' first|exact trivial|refine⟨?_,?_⟩|exact rfl|assumption),uM,by rw[eW bG];exact iS (RC.up bf (aK.trans uM)) Hr⟩
     ·refine⟨?_,?_⟩
      ·intro v6 H6 aI cZ
       have cZ:aW H6 v6 1 (au (ma (varsOf p) b (varsOf p).length)):=by rw[←hG];exact cZ
       obtain⟨a7,n7,c7,rfl,dz⟩:=RL.aC (α:=Int) cZ (cD (lO (varsOf p) b (by omega)))
       refine bt (w:=(varsOf p).length) (by omega) dz fun g1 g2 g3 H7 cS Hq=>?_
       intro v8 H8 jR rA
       have rA:aW H8 v8 1 (au (gm (varsOf p) b (varsOf p).length)):=by rw[←NN];exact rA
       obtain⟨a8,n8,c8,rfl,lj⟩:=RL.aC (α:=Int) rA (cD (jU (varsOf p) b (by omega)))
       refine bt (w:=(varsOf p).length) (by omega) lj fun k1 k2 k3 H9 ez A3=>?_
       refine⟨⟨by show (css.length+1)*72≤140737488355328;omega,by show css.length+1≤9223372036854775807;omega⟩,?_⟩;have uM:=((aI.le.trans cS).trans jR.le).trans ez
       have Hr:Bt.B7 H9 (yp (varsOf p) b) ⟨g1,g2,g3,k1,k2,k3⟩:=by rw[QJ];exact⟨Hq.up (jR.le.trans ez),A3⟩
       exact⟨css++[Bt.Hf ⟨g1,g2,g3,k1,k2,k3⟩],[(0,0),(1,1),(2,2),(3,3),(4,9)],by (repeat' first|exact trivial|refine⟨?_,?_⟩|exact rfl|assumption),uM,by rw[eW bG];exact iS (RC.up bf (aK.trans uM)) Hr⟩
      ·refine⟨?_,?_⟩
       ·intro v6 H6 aI cZ
        have cZ:aW H6 v6 1 (au (ma (varsOf p) b (varsOf p).length)):=by rw[←hG];exact cZ
        obtain⟨a7,n7,c7,rfl,dz⟩:=RL.aC (α:=Int) cZ (cD (lO (varsOf p) b (by omega)))
        refine bt (w:=(varsOf p).length) (by omega) dz fun g1 g2 g3 H7 cS Hq=>?_
        intro v8 H8 jR rA
        have rA:aW H8 v8 1 (au (gm (varsOf p) b (varsOf p).length)):=by rw[←NN];exact rA
        obtain⟨a8,n8,c8,rfl,lj⟩:=RL.aC (α:=Int) rA (cD (jU (varsOf p) b (by omega)))
        refine bt (w:=(varsOf p).length) (by omega) lj fun k1 k2 k3 H9 ez A3=>?_
        refine⟨⟨by show (css.length+1)*72≤140737488355328;omega,by show css.length+1≤9223372036854775807;omega⟩,?_⟩;have uM:=((aI.le.trans cS).trans jR.le).trans ez
        have Hr:Bt.B7 H9 (yp (varsOf p) b) ⟨g1,g2,g3,k1,k2,k3⟩:=by rw[QJ];exact⟨Hq.up (jR.le.trans ez),A3⟩
        exact⟨css++[Bt.Hf ⟨g1,g2,g3,k1,k2,k3⟩],[(0,0),(1,1),(2,2),(3,3),(4,9)],by (repeat' first|exact trivial|refine⟨?_,?_⟩|exact rfl|assumption),uM,by rw[eW bG];exact iS (RC.up bf (aK.trans uM)) Hr⟩
       ·intro v6 H6 aI cZ
        have cZ:aW H6 v6 1 (au (ma (varsOf p) b (varsOf p).length)):=by rw[←hG];exact cZ
        obtain⟨a7,n7,c7,rfl,dz⟩:=RL.aC (α:=Int) cZ (cD (lO (varsOf p) b (by omega)))
        refine bt (w:=(varsOf p).length) (by omega) dz fun g1 g2 g3 H7 cS Hq=>?_
        intro v8 H8 jR rA
        have rA:aW H8 v8 1 (au (gm (varsOf p) b (varsOf p).length)):=by rw[←NN];exact rA
        obtain⟨a8,n8,c8,rfl,lj⟩:=RL.aC (α:=Int) rA (cD (jU (varsOf p) b (by omega)))
        refine bt (w:=(varsOf p).length) (by omega) lj fun k1 k2 k3 H9 ez A3=>?_
        refine⟨⟨by show (css.length+1)*72≤140737488355328;omega,by show css.length+1≤9223372036854775807;omega⟩,?_⟩;have uM:=((aI.le.trans cS).trans jR.le).trans ez
        have Hr:Bt.B7 H9 (yp (varsOf p) b) ⟨g1,g2,g3,k1,k2,k3⟩:=by rw[QJ];exact⟨Hq.up (jR.le.trans ez),A3⟩
        exact⟨css++[Bt.Hf ⟨g1,g2,g3,k1,k2,k3⟩],[(0,0),(1,1),(2,2),(3,3),(4,9)],by (repeat' first|exact trivial|refine⟨?_,?_⟩|exact rfl|assumption),uM,by rw[eW bG];exact iS (RC.up bf (aK.trans uM)) Hr⟩
    rintro c' H9 _ ⟨ez,SK⟩;refine⟨⟨by omega,by omega⟩,(j+1,c'),[(0,0),(1,1),(2,2),(3,3),(4,4)],?_,⟨(aN.trans aK).trans ez,aj,SK⟩,by dsimp only;omega⟩
    (repeat' first|exact trivial|refine⟨?_,?_⟩|exact rfl|assumption)
  ·have RD:b7 b=false:=h;rw[←gV,RD]at hex
   have bL:au (dV b7 (p.take j) 0)=au (dV b7 (p.take (j+1)) 0):=by rw[hex];simp
   refine⟨Nat,fun k=>⟨[(1,.ptr 0 0),(2,.ptr 1 0),(3,.v (.slice av (varsOf p).length cv)),(4,.v (.int .i64 ((varsOf p).length:Nat))),(5,.ptr 2 0),(6,.v (.int .i64 j)),(7,.ptr 5 0),(8,.own 6),(9,.own 7),(29,.v (.slice a n c)),(30,.v (.int .i64 n)),(31,.v (.int .i64 j)),(46,.v (.slice av (varsOf p).length cv)),(47,.v (.int .i64 ((varsOf p).length:Nat))),(48,.v (.int .i64 k))],
     [(0,.cells 24 [.v (.slice a n c)]),(1,.cells 106 (vL mP)),(2,.cells 106 [.v (.int .i64 (1:Nat)),.v (.int .i64 ((varsOf p).length:Nat)),.v (.int .i64 n),.v (.slice ea en ec),.own 3,.v (.slice ia ni ic),.own 4]),(3,.row 3 1 (au (dV b7 (p.take (j+1)) 0))),(4,.row 143 3 css),(5,.cells 66 (vL (rr (.slice a5 n5 c5) b))),(6,.row 3 1 (G k)),(7,.row 3 1 (KL k))],8⟩,
    fun k H'=>Le H4 H'∧k≤(varsOf p).length,fun k=>(varsOf p).length - k,⟨0,[(0,0),(1,1),(2,2),(3,3),(4,4),(5,5)],?_,Le.refl H4,Nat.zero_le _⟩,?_⟩
   ·(repeat' first|exact trivial|refine⟨?_,?_⟩|exact rfl|assumption)
   rintro k H5 _ ⟨aK,e8⟩;have S3:=XZ k;refine⟨fun h=>?_,fun h=>?_⟩
   ·have e8:k<(varsOf p).length:=by have:=dt h;omega
    refine aD (varsOf p)[k] fun v Sm=>?_
    have QK:(varsOf p)[k]?=some v:=by rw[Sm];exact aL e8
    have vr:(varsOf p)[k]?.getD []=v:=by rw[QK];rfl
    have uS:=(ah.trans aN).trans aK
    refine uX (yo.up uS) QK fun iy q2 gj _=>?_
    refine⟨iy,⟨by omega,by omega,q2⟩,?_⟩;refine⟨_,gj,?_⟩
    refine uZ (b:=b) oJ (ct.up aK) fun H6 aI=>?_
    refine⟨fun h=>?_,fun h=>?_⟩
    ·have JT:bT v b.2.2 b.2.1=1:=dt h;have eg:=X0 k v vr JT;refine⟨⟨by show (_+1)*8≤140737488355328;omega,by show _+1≤9223372036854775807;omega⟩,?_⟩
     refine⟨Nat,fun i=>⟨[(1,.ptr 0 0),(2,.ptr 1 0),(3,.v (.slice av (varsOf p).length cv)),(4,.v (.int .i64 ((varsOf p).length:Nat))),(5,.ptr 2 0),(6,.v (.int .i64 j)),(7,.ptr 5 0),(8,.own 6),(9,.own 7),(10,.v (.int .i64 k)),(11,.v (.string (bs v))),(29,.v (.slice a n c)),(30,.v (.int .i64 n)),(31,.v (.int .i64 j)),(46,.v (.slice av (varsOf p).length cv)),(47,.v (.int .i64 ((varsOf p).length:Nat))),(48,.v (.int .i64 k)),(62,.v (.slice a5 n5 c5)),(63,.v (.int .i64 n5)),(64,.v (.int .i64 i))],
       [(0,.cells 24 [.v (.slice a n c)]),(1,.cells 106 (vL mP)),(2,.cells 106 [.v (.int .i64 (1:Nat)),.v (.int .i64 ((varsOf p).length:Nat)),.v (.int .i64 n),.v (.slice ea en ec),.own 3,.v (.slice ia ni ic),.own 4]),(3,.row 3 1 (au (dV b7 (p.take (j+1)) 0))),(4,.row 143 3 css),(5,.cells 66 (vL (rr (.slice a5 n5 c5) b))),(6,.row 3 1 (G (k+1))),(7,.row 3 1 (KK k i))],8⟩,
      fun i H'=>H'=H5∧i≤b.2.1.length,fun i=>b.2.1.length - i,⟨0,[(0,0),(1,1),(2,2),(3,3),(4,4),(5,5),(6,9),(7,7)],?_,rfl,Nat.zero_le _⟩,?_⟩
     ·have e0:=PY k
      (repeat' first|exact trivial|refine⟨?_,?_⟩|exact rfl|assumption)
     rintro i H7 _ ⟨rfl,hi⟩;have SJ:=PZ k i (by omega) hi;refine⟨fun h=>?_,fun h=>?_⟩
     ·have aX:i<b.2.1.length:=by have:=dt h;omega
      refine aD b.2.1[i] fun s hs=>?_
      have dy:b.2.1[i]?=some s:=by rw[hs];exact aL aX
      refine du (ct.up aK) dy fun sy q3 ql _=>?_
      refine⟨sy,⟨by omega,by omega,q3⟩,?_⟩;refine⟨_,ql,?_⟩;refine⟨fun h=>?_,fun h=>?_⟩
      ·have kJ:¬s.1=3:=nt h;refine⟨fun h=>?_,fun h=>?_⟩
       ·have yI:s.2.1.l=v:=dt h;have e:=P0 k i s v dy vr kJ yI;refine⟨⟨by show (_+1)*8≤140737488355328;omega,by show _+1≤9223372036854775807;omega⟩,?_⟩;refine⟨⟨by omega,by omega⟩,i+1,[(0,0),(1,1),(2,2),(3,3),(4,4),(5,5),(6,6),(7,10)],?_,⟨rfl,aX⟩,by dsimp only;omega⟩
        (repeat' first|exact trivial|refine⟨?_,?_⟩|exact rfl|assumption)
       ·have yI:¬s.2.1.l=v:=df h;have e:=ET k i s v dy vr (fun h=>yI h.2);refine⟨⟨by omega,by omega⟩,i+1,[(0,0),(1,1),(2,2),(3,3),(4,4),(5,5),(6,6),(7,7)],?_,⟨rfl,aX⟩,by dsimp only;omega⟩
        (repeat' first|exact trivial|refine⟨?_,?_⟩|exact rfl|assumption)
      ·have kJ:s.1=3:=nf h;have e:=ET k i s v dy vr (fun h=>h.1 kJ);refine⟨⟨by omega,by omega⟩,i+1,[(0,0),(1,1),(2,2),(3,3),(4,4),(5,5),(6,6),(7,7)],?_,⟨rfl,aX⟩,by dsimp only;omega⟩
       (repeat' first|exact trivial|refine⟨?_,?_⟩|exact rfl|assumption)
     ·have aX:i=b.2.1.length:=by have:=df h;omega
      subst aX;have e2:=P1 k;refine⟨⟨by omega,by omega⟩,k+1,[(0,0),(1,1),(2,2),(3,3),(4,4),(5,5),(6,6),(7,7)],?_,⟨aK,e8⟩,by dsimp only;omega⟩
      (repeat' first|exact trivial|refine⟨?_,?_⟩|exact rfl|assumption)
    ·have JT:¬bT v b.2.2 b.2.1=1:=df h;have eg:=X1 k v vr JT
     refine⟨Nat,fun i=>⟨[(1,.ptr 0 0),(2,.ptr 1 0),(3,.v (.slice av (varsOf p).length cv)),(4,.v (.int .i64 ((varsOf p).length:Nat))),(5,.ptr 2 0),(6,.v (.int .i64 j)),(7,.ptr 5 0),(8,.own 6),(9,.own 7),(10,.v (.int .i64 k)),(11,.v (.string (bs v))),(29,.v (.slice a n c)),(30,.v (.int .i64 n)),(31,.v (.int .i64 j)),(46,.v (.slice av (varsOf p).length cv)),(47,.v (.int .i64 ((varsOf p).length:Nat))),(48,.v (.int .i64 k)),(62,.v (.slice a5 n5 c5)),(63,.v (.int .i64 n5)),(64,.v (.int .i64 i))],
       [(0,.cells 24 [.v (.slice a n c)]),(1,.cells 106 (vL mP)),(2,.cells 106 [.v (.int .i64 (1:Nat)),.v (.int .i64 ((varsOf p).length:Nat)),.v (.int .i64 n),.v (.slice ea en ec),.own 3,.v (.slice ia ni ic),.own 4]),(3,.row 3 1 (au (dV b7 (p.take (j+1)) 0))),(4,.row 143 3 css),(5,.cells 66 (vL (rr (.slice a5 n5 c5) b))),(6,.row 3 1 (G (k+1))),(7,.row 3 1 (KK k i))],8⟩,
      fun i H'=>H'=H5∧i≤b.2.1.length,fun i=>b.2.1.length - i,⟨0,[(0,0),(1,1),(2,2),(3,3),(4,4),(5,5),(6,6),(7,7)],?_,rfl,Nat.zero_le _⟩,?_⟩
     ·have e0:=PY k
      (repeat' first|exact trivial|refine⟨?_,?_⟩|exact rfl|assumption)
     rintro i H7 _ ⟨rfl,hi⟩;have SJ:=PZ k i (by omega) hi;refine⟨fun h=>?_,fun h=>?_⟩
     ·have aX:i<b.2.1.length:=by have:=dt h;omega
      refine aD b.2.1[i] fun s hs=>?_
      have dy:b.2.1[i]?=some s:=by rw[hs];exact aL aX
      refine du (ct.up aK) dy fun sy q3 ql _=>?_
      refine⟨sy,⟨by omega,by omega,q3⟩,?_⟩;refine⟨_,ql,?_⟩;refine⟨fun h=>?_,fun h=>?_⟩
      ·have kJ:¬s.1=3:=nt h;refine⟨fun h=>?_,fun h=>?_⟩
       ·have yI:s.2.1.l=v:=dt h;have e:=P0 k i s v dy vr kJ yI;refine⟨⟨by show (_+1)*8≤140737488355328;omega,by show _+1≤9223372036854775807;omega⟩,?_⟩;refine⟨⟨by omega,by omega⟩,i+1,[(0,0),(1,1),(2,2),(3,3),(4,4),(5,5),(6,6),(7,10)],?_,⟨rfl,aX⟩,by dsimp only;omega⟩
        (repeat' first|exact trivial|refine⟨?_,?_⟩|exact rfl|assumption)
       ·have yI:¬s.2.1.l=v:=df h;have e:=ET k i s v dy vr (fun h=>yI h.2);refine⟨⟨by omega,by omega⟩,i+1,[(0,0),(1,1),(2,2),(3,3),(4,4),(5,5),(6,6),(7,7)],?_,⟨rfl,aX⟩,by dsimp only;omega⟩
        (repeat' first|exact trivial|refine⟨?_,?_⟩|exact rfl|assumption)
      ·have kJ:s.1=3:=nf h;have e:=ET k i s v dy vr (fun h=>h.1 kJ);refine⟨⟨by omega,by omega⟩,i+1,[(0,0),(1,1),(2,2),(3,3),(4,4),(5,5),(6,6),(7,7)],?_,⟨rfl,aX⟩,by dsimp only;omega⟩
       (repeat' first|exact trivial|refine⟨?_,?_⟩|exact rfl|assumption)
     ·have aX:i=b.2.1.length:=by have:=df h;omega
      subst aX;have e2:=P1 k;refine⟨⟨by omega,by omega⟩,k+1,[(0,0),(1,1),(2,2),(3,3),(4,4),(5,5),(6,6),(7,7)],?_,⟨aK,e8⟩,by dsimp only;omega⟩
      (repeat' first|exact trivial|refine⟨?_,?_⟩|exact rfl|assumption)
   ·have No:k=(varsOf p).length:=by have:=df h;omega
    subst No;refine⟨none,?_⟩
    refine bH (α:=List (List Value)) ?_ ?_
     (.two 1 4 (.one [2,4,6,7,8,9] [0,2,3,5,6,1,4,7,8,9,10,11,12]) (.two 1 7 (.one [2,4,6,7,8,9] [0,2,3,5,6,4,1,7,8,9,10,11,12]) (.two 1 9 (.one [2,4,6,7,8,9] [0,2,3,5,6,4,7,8,1,9,10,11,12]) (.one [2,4,6,7,8,9] [0,2,3,5,6,4,7,8,9,1,10,11,12]))))
     (fun c'=>⟨[(1,.ptr 0 0),(2,.ptr 1 0),(3,.v (.slice av (varsOf p).length cv)),(4,.v (.int .i64 ((varsOf p).length:Nat))),(5,.ptr 2 0),(29,.v (.slice a n c)),(30,.v (.int .i64 n)),(31,.v (.int .i64 j))],
      [(0,.cells 24 [.v (.slice a n c)]),(1,.cells 106 (vL mP)),(2,.cells 106 [.v (.int .i64 (1:Nat)),.v (.int .i64 ((varsOf p).length:Nat)),.v (.int .i64 n),.v (.slice ea en ec),.own 3,.v (.slice ia ni ic),.own 4]),(3,.row 3 1 (au (dV b7 (p.take (j+1)) 0))),(4,.row 143 3 c')],5⟩)
     (fun c' H'=>Le H5 H'∧RC (α:=Bt.qB) H' c' (((ck p).T.map Bt.qB.mk).take (j+1))) (by kernel_rfl) ?_ ?_
    ·exact⟨af.tt,af.eqs⟩
    ·exact aa
    ·refine⟨?_,?_⟩
     ·intro v6 H6 aI cZ
      have cZ:aW H6 v6 1 (au (ma (varsOf p) b (varsOf p).length)):=by rw[←hG];exact cZ
      obtain⟨a7,n7,c7,rfl,dz⟩:=RL.aC (α:=Int) cZ (cD (lO (varsOf p) b (by omega)))
      refine bt (w:=(varsOf p).length) (by omega) dz fun g1 g2 g3 H7 cS Hq=>?_
      intro v8 H8 jR rA
      have rA:aW H8 v8 1 (au (gm (varsOf p) b (varsOf p).length)):=by rw[←NN];exact rA
      obtain⟨a8,n8,c8,rfl,lj⟩:=RL.aC (α:=Int) rA (cD (jU (varsOf p) b (by omega)))
      refine bt (w:=(varsOf p).length) (by omega) lj fun k1 k2 k3 H9 ez A3=>?_
      refine⟨⟨by show (css.length+1)*72≤140737488355328;omega,by show css.length+1≤9223372036854775807;omega⟩,?_⟩;have uM:=((aI.le.trans cS).trans jR.le).trans ez
      have Hr:Bt.B7 H9 (yp (varsOf p) b) ⟨g1,g2,g3,k1,k2,k3⟩:=by rw[QJ];exact⟨Hq.up (jR.le.trans ez),A3⟩
      exact⟨css++[Bt.Hf ⟨g1,g2,g3,k1,k2,k3⟩],[(0,0),(1,1),(2,2),(3,3),(4,9)],by (repeat' first|exact trivial|refine⟨?_,?_⟩|exact rfl|assumption),uM,by rw[eW bG];exact iS (RC.up bf (aK.trans uM)) Hr⟩
     ·refine⟨?_,?_⟩
      ·intro v6 H6 aI cZ
       have cZ:aW H6 v6 1 (au (ma (varsOf p) b (varsOf p).length)):=by rw[←hG];exact cZ
       obtain⟨a7,n7,c7,rfl,dz⟩:=RL.aC (α:=Int) cZ (cD (lO (varsOf p) b (by omega)))
       refine bt (w:=(varsOf p).length) (by omega) dz fun g1 g2 g3 H7 cS Hq=>?_
       intro v8 H8 jR rA
       have rA:aW H8 v8 1 (au (gm (varsOf p) b (varsOf p).length)):=by rw[←NN];exact rA
       obtain⟨a8,n8,c8,rfl,lj⟩:=RL.aC (α:=Int) rA (cD (jU (varsOf p) b (by omega)))
       refine bt (w:=(varsOf p).length) (by omega) lj fun k1 k2 k3 H9 ez A3=>?_
       refine⟨⟨by show (css.length+1)*72≤140737488355328;omega,by show css.length+1≤9223372036854775807;omega⟩,?_⟩;have uM:=((aI.le.trans cS).trans jR.le).trans ez
       have Hr:Bt.B7 H9 (yp (varsOf p) b) ⟨g1,g2,g3,k1,k2,k3⟩:=by rw[QJ];exact⟨Hq.up (jR.le.trans ez),A3⟩
       exact⟨css++[Bt.Hf ⟨g1,g2,g3,k1,k2,k3⟩],[(0,0),(1,1),(2,2),(3,3),(4,9)],by (repeat' first|exact trivial|refine⟨?_,?_⟩|exact rfl|assumption),uM,by rw[eW bG];exact iS (RC.up bf (aK.trans uM)) Hr⟩
      ·refine⟨?_,?_⟩
       ·intro v6 H6 aI cZ
        have cZ:aW H6 v6 1 (au (ma (varsOf p) b (varsOf p).length)):=by rw[←hG];exact cZ
        obtain⟨a7,n7,c7,rfl,dz⟩:=RL.aC (α:=Int) cZ (cD (lO (varsOf p) b (by omega)))
        refine bt (w:=(varsOf p).length) (by omega) dz fun g1 g2 g3 H7 cS Hq=>?_
        intro v8 H8 jR rA
        have rA:aW H8 v8 1 (au (gm (varsOf p) b (varsOf p).length)):=by rw[←NN];exact rA
        obtain⟨a8,n8,c8,rfl,lj⟩:=RL.aC (α:=Int) rA (cD (jU (varsOf p) b (by omega)))
        refine bt (w:=(varsOf p).length) (by omega) lj fun k1 k2 k3 H9 ez A3=>?_
        refine⟨⟨by show (css.length+1)*72≤140737488355328;omega,by show css.length+1≤9223372036854775807;omega⟩,?_⟩;have uM:=((aI.le.trans cS).trans jR.le).trans ez
        have Hr:Bt.B7 H9 (yp (varsOf p) b) ⟨g1,g2,g3,k1,k2,k3⟩:=by rw[QJ];exact⟨Hq.up (jR.le.trans ez),A3⟩
        exact⟨css++[Bt.Hf ⟨g1,g2,g3,k1,k2,k3⟩],[(0,0),(1,1),(2,2),(3,3),(4,9)],by (repeat' first|exact trivial|refine⟨?_,?_⟩|exact rfl|assumption),uM,by rw[eW bG];exact iS (RC.up bf (aK.trans uM)) Hr⟩
       ·intro v6 H6 aI cZ
        have cZ:aW H6 v6 1 (au (ma (varsOf p) b (varsOf p).length)):=by rw[←hG];exact cZ
        obtain⟨a7,n7,c7,rfl,dz⟩:=RL.aC (α:=Int) cZ (cD (lO (varsOf p) b (by omega)))
        refine bt (w:=(varsOf p).length) (by omega) dz fun g1 g2 g3 H7 cS Hq=>?_
        intro v8 H8 jR rA
        have rA:aW H8 v8 1 (au (gm (varsOf p) b (varsOf p).length)):=by rw[←NN];exact rA
        obtain⟨a8,n8,c8,rfl,lj⟩:=RL.aC (α:=Int) rA (cD (jU (varsOf p) b (by omega)))
        refine bt (w:=(varsOf p).length) (by omega) lj fun k1 k2 k3 H9 ez A3=>?_
        refine⟨⟨by show (css.length+1)*72≤140737488355328;omega,by show css.length+1≤9223372036854775807;omega⟩,?_⟩;have uM:=((aI.le.trans cS).trans jR.le).trans ez
        have Hr:Bt.B7 H9 (yp (varsOf p) b) ⟨g1,g2,g3,k1,k2,k3⟩:=by rw[QJ];exact⟨Hq.up (jR.le.trans ez),A3⟩
        exact⟨css++[Bt.Hf ⟨g1,g2,g3,k1,k2,k3⟩],[(0,0),(1,1),(2,2),(3,3),(4,9)],by (repeat' first|exact trivial|refine⟨?_,?_⟩|exact rfl|assumption),uM,by rw[eW bG];exact iS (RC.up bf (aK.trans uM)) Hr⟩
    rintro c' H9 _ ⟨ez,SK⟩;refine⟨⟨by omega,by omega⟩,(j+1,c'),[(0,0),(1,1),(2,2),(3,3),(4,4)],?_,⟨(aN.trans aK).trans ez,aj,SK⟩,by dsimp only;omega⟩
    (repeat' first|exact trivial|refine⟨?_,?_⟩|exact rfl|assumption)
 ·have eD:j=p.length:=by have:=df h;dsimp only at this;omega
  rw[eD,List.take_of_length_le (by omega)]at bf;rw[eD,List.take_length];intro v1 H5 aK B3;obtain⟨na,nn,nc,rfl,bh⟩:=lY B3 (A6 _ _ _ (by omega));intro v3 H7 cS yl
  refine bZ (α:=Bt.qB) yl (RC.up bf (aK.le.trans cS.le)) fun ta tn tc Se db=>?_
  subst Se;have M7:=aK.le.trans cS.le
  have GJ:Bt.dB H7 (ck p) ⟨ea,en,ec,na,nn,nc,ia,ni,ic,ta,tn,tc⟩ :=
   ⟨UF.up (aN.trans M7),bh.up cS.le,UG.up (aN.trans M7),db⟩
  have hK:=hK ⟨ea,en,ec,na,nn,nc,ia,ni,ic,ta,tn,tc⟩ H7 (hle.trans M7) GJ;have e2:(ck p).m=n:=hn.symm;rw[Bt.dG,Bt.fc,e2]at hK;exact hK
end Go.Proofs
end
section
namespace Go.Proofs
open Go.Sy
open Tryz
variable {H:Hp} {K:Value→Hp→Prop}
theorem NO {i w:Nat}:∀n∈kB i w,(64*i:Nat)≤n∧n<((64*(i+1):Nat):Int):=fun n hn=>by
 obtain⟨k,hk,rfl⟩:=List.mem_map.1 hn;have:=List.mem_range.1 (List.mem_filter.1 hk).1;omega
theorem BX (i w:Nat):bD (kB i w):=by
 refine List.pairwise_map.2 (List.Pairwise.imp (fun {a b} (h:a<b)=>?_) (List.Pairwise.filter _ List.pairwise_lt_range));show ((i*64+a:Nat):Int)<((i*64+b:Nat):Int);omega
theorem P2 (l:Wd) (i:Nat):∀n∈dN l i,(64*i:Nat)≤n:=fun n hn=>by
 have h0:=ya l i n hn;have h1:=(pE l i n.toNat).1 (by rw[Int.toNat_of_nonneg h0];exact hn);omega
theorem va:∀(l:Wd) (i:Nat),bD (dN l i)
 | [],_=>List.Pairwise.nil
 | w::r,i=>by
  rw[dN];refine List.pairwise_append.2 ⟨BX _ _,va r (i+1),fun a ha b hb=>?_⟩;have h1:=NO a ha;have h2:=P2 r (i+1) b hb;show a<b;omega
def iU (x:Wd) (n:Nat):List Int:=((List.range n).filter (aM x)).map fun k:Nat=>(k:Int)
theorem EU (x:Wd) (n:Nat):iU x (n+1)=iU x n++(if aM x n=true then [(n:Int)] else []):=by
 rw[iU,List.range_succ,List.filter_append,List.map_append]
 by_cases h:aM x n=true
 ·simp [iU,h]
 ·simp [iU,h]
theorem Hs (x:Wd) (n:Nat):(iU x n).length≤n:=by
 rw[iU,List.length_map];exact Nat.le_trans (List.length_filter_le _ _) (by rw[List.length_range];exact Nat.le_refl _)
theorem P3 {w:Nat} {x:Wd} (hx:okB w x):pD x=iU x w:=by
 refine jd (va x 0) ?_ fun n=>?_
 ·refine List.pairwise_map.2 (List.Pairwise.imp (fun {a b} (h:a<b)=>?_) (List.Pairwise.filter _ List.pairwise_lt_range));show (a:Int)<(b:Int);omega
 ·constructor
  ·intro h;have h0:=Hg hx n h;have h1:=(pE x 0 n.toNat).1 (by rw[Int.toNat_of_nonneg h0.1];exact h);refine List.mem_map.2 ⟨n.toNat,List.mem_filter.2 ⟨List.mem_range.2 (by omega),by simpa using h1.2⟩,by omega⟩
  ·intro h;obtain⟨k,hk,rfl⟩:=List.mem_map.1 h;exact (pE x 0 k).2 ⟨by omega,by simpa using (List.mem_filter.1 hk).2⟩
theorem vb {V:List aQ} (hV:V.length≤1000) {x:Wd} (hx:okB V.length x) {a a2:Option Addr} {n c n2 k2:Nat} (ha:RL H a n c (iA V)) (hb:RL H a2 n2 k2 x) (hK:∀a1 n1 c1 H',Le H H'→RL H' a1 n1 c1 (iA (j7 V x))→K (.slice a1 n1 c1) H'):
  aq prog 236 [.slice a n c,.slice a2 n2 k2] H K:=by
 have dd:=ha.aB;rw[List.length_map]at dd;have Ia:=tW ha;refine ab af aa rfl func236 call236 ntmps236 results236 rfl rfl ?_
 refine⟨Nat,fun i=>⟨[(1,.v (.slice a2 n2 k2)),(5,.own 0),(8,.v (.slice a n c)),(9,.v (.int .i64 n)),(10,.v (.int .i64 i))],[(0,.row 9 1 (ay (iT V (iU x i))))],1⟩,
  fun i H'=>H'=H∧i≤V.length,fun i=>V.length - i,⟨0,[],?_,rfl,Nat.zero_le _⟩,?_⟩
 ·(repeat' first|exact trivial|refine⟨?_,?_⟩|exact rfl|assumption)
 rintro i H1 _ ⟨rfl,hi⟩;have oJ:=Hs x i
 have rO:(ay (iT V (iU x i))).length≤1000:=by rw[List.length_map,iT,List.length_map];omega
 refine⟨fun h=>?_,fun h=>?_⟩
 ·have aj:i<V.length:=by have:=dt h;omega
  refine aD V[i] fun v Sm=>?_
  have QK:V[i]?=some v:=by rw[Sm];exact aL aj
  have bc:=EU x i
  refine uX ha QK fun ad q1 hh _=>?_
  refine⟨ad,⟨by omega,by omega,q1⟩,?_⟩;refine⟨_,hh,?_⟩;refine pB (by omega) hb ?_;refine⟨fun h=>?_,fun h=>?_⟩
  ·have SL:aM x i=true:=h;rw[if_pos SL]at bc
   have e:ay (iT V (iU x i))++[[.string (bs v)]]=ay (iT V (iU x (i+1))):=by
    rw[bc,iT,iT,List.map_append,List.map_cons,List.map_nil,Int.toNat_natCast,QK,dC];rfl
   refine⟨⟨by show (_+1)*16≤140737488355328;omega,by show _+1≤9223372036854775807;omega⟩,?_⟩;refine⟨⟨by omega,by omega⟩,i+1,[(0,2)],?_,⟨rfl,aj⟩,by dsimp only;omega⟩
   (repeat' first|exact trivial|refine⟨?_,?_⟩|exact rfl|assumption)
  ·have SL:¬aM x i=true:=by rw[show aM x i=false from h];decide
   rw[if_neg SL,List.append_nil]at bc
   have e:ay (iT V (iU x i))=ay (iT V (iU x (i+1))):=by rw[bc]
   refine⟨⟨by omega,by omega⟩,i+1,[(0,0)],?_,⟨rfl,aj⟩,by dsimp only;omega⟩
   (repeat' first|exact trivial|refine⟨?_,?_⟩|exact rfl|assumption)
 ·have aX:i=V.length:=by have:=df h;omega
  rw[aX,←P3 hx];intro v H6 aI cZ
  have WW:∀s∈iT V (pD x),s.length≤9223372036854775807:=fun s hs=>by
   obtain⟨k,hk,rfl⟩:=List.mem_map.1 hs;obtain⟨i2,Ry⟩:=List.getElem?_of_mem hk;exact Ia _ (dY (Hh hx Ry))
  obtain⟨a7,n7,c7,rfl,dz⟩:=RL.aC (α:=iz) cZ (dU WW);exact hK _ _ _ _ aI.le dz
theorem EV {H:Hp} {css:List (List Value)} {X:List (List iz)} (h:RC (α:=List iz) H css X) {a:Option Addr} {n c:Nat} {x:List iz} (hx:RL H a n c x):RC (α:=List iz) H (css++[[.slice a n c]]) (X++[x]) :=
 RC.snoc h (show cq.R (α:=List iz) H [.slice a n c] x from ⟨a,n,c,rfl,hx⟩)
theorem Ht {p:Prog} (he:al p=0) (hp:p.length≤12) (hl:∀b∈p,b.2.1.length≤100000) (hv:iE p<400000) {a:Option Addr} {n c:Nat} (ha:RL H a n c p)
  (hK:∀a1 n1 c1 a2 n2 c2 H',Le H H'→RL (α:=List iz) H' a1 n1 c1 ((sQ p).map iA)→RL (α:=List iz) H' a2 n2 c2 ((gR p).map iA)→K (.tuple #[.slice a1 n1 c1,.slice a2 n2 c2]) H'):
  aq prog 185 [.agg #[.slice a n c]] H K:=by
 have hn:=ha.aB;have Nx:=BO he;have ho:=mX he;have hA:=Bt.fg ho;have hm:(Bt.cU (ck p)).length=p.length:=hA.len;refine ab af aa rfl func185 call185 ntmps185 results185 rfl rfl ?_;refine⟨none,?_⟩
 refine bH (α:=SA×Option Addr×Nat×Nat) ?_ ?_ (.two 1 4 (.two 3 4 (.one [1] [0,2,1,3,4,5,6]) (.one [1] [0,2,1,4,3,5,6])) (.one [1] [0,2,4,1,3,5,6]))
  (fun q=>⟨[(4,.ptr 1 0),(5,.v (.slice q.2.1 q.2.2.1 q.2.2.2))],[(0,.cells 24 [.v (.slice a n c)]),(1,.cells 106 (vL (Bt.fc (ck p) q.1)))],2⟩)
  (fun q H'=>Le H H'∧Bt.dB H' (ck p) q.1∧RL H' q.2.1 q.2.2.1 q.2.2.2 (iA (varsOf p))) (by kernel_rfl) ?_ ?_
 ·exact⟨af.tt,af.eqs⟩
 ·exact aa
 ·refine⟨?_,?_⟩
  ·refine⟨?_,?_⟩
   ·refine rz he hp hl hv ha fun z H1 ak hs=>?_
    refine eh (ha.up ak) hv fun av nv cv H2 ah yo=>?_
    exact⟨(z,av,nv,cv),[(0,0),(1,1)],by (repeat' first|exact trivial|refine⟨?_,?_⟩|exact rfl|assumption),ak.trans ah,hs.up ah,yo⟩
   ·refine rz he hp hl hv ha fun z H1 ak hs=>?_
    refine eh (ha.up ak) hv fun av nv cv H2 ah yo=>?_
    exact⟨(z,av,nv,cv),[(0,0),(1,1)],by (repeat' first|exact trivial|refine⟨?_,?_⟩|exact rfl|assumption),ak.trans ah,hs.up ah,yo⟩
  ·refine rz he hp hl hv ha fun z H1 ak hs=>?_
   refine eh (ha.up ak) hv fun av nv cv H2 ah yo=>?_
   exact⟨(z,av,nv,cv),[(0,0),(1,1)],by (repeat' first|exact trivial|refine⟨?_,?_⟩|exact rfl|assumption),ak.trans ah,hs.up ah,yo⟩
 rintro⟨z,av,nv,cv⟩ H2 _ ⟨ah,hs,yo⟩;dsimp only at hs yo
 refine Bt.pk ho hs fun a1 n1 c1 H3 az db=>?_
 have dd:=db.aB;rw[hm]at dd;have VH:=hs.up az;have UP:=yo.up az
 refine⟨Nat×List (List Value)×List (List Value),fun q=>⟨[(4,.ptr 1 0),(5,.v (.slice av nv cv)),(6,.own 2),(7,.own 3),(15,.v (.slice a1 n1 c1)),(16,.v (.int .i64 n1)),(17,.v (.int .i64 q.1))],
   [(0,.cells 24 [.v (.slice a n c)]),(1,.cells 106 (vL (Bt.fc (ck p) z))),(2,.row 71 1 q.2.1),(3,.row 71 1 q.2.2)],4⟩,
  fun q H'=>Le H3 H'∧q.1≤p.length∧RC (α:=List iz) H' q.2.1 (((sQ p).map iA).take q.1)∧RC (α:=List iz) H' q.2.2 (((gR p).map iA).take q.1),fun q=>p.length - q.1,⟨(0,[],[]),[(0,0),(1,1)],?_,Le.refl H3,Nat.zero_le _,RC.nil,RC.nil⟩,?_⟩
 ·(repeat' first|exact trivial|refine⟨?_,?_⟩|exact rfl|assumption)
 rintro⟨i,Ta,N4⟩ H4 _ ⟨aN,hi,NP,b8⟩;dsimp only at hi NP b8
 have hlI:((sQ p).map iA).length=p.length:=by rw[List.length_map,sQ,List.length_map,Bt.sA,List.length_map,List.length_range];rfl
 have hlO:((gR p).map iA).length=p.length:=by rw[List.length_map,gR,List.length_map,hm]
 have Lr:Ta.length=i:=by have h1:=NP.1;rw[List.length_take]at h1;omega
 have TL:N4.length=i:=by have h1:=b8.1;rw[List.length_take]at h1;omega
 refine⟨fun h=>?_,fun h=>?_⟩
 ·have aj:i<p.length:=by have:=dt h;dsimp only at this;omega
  refine aD (Bt.mM (Bt.cU (ck p)) i) fun x Ds=>?_
  have oi:(Bt.cU (ck p))[i]?=some x:=by rw[Ds];exact Bt.eS hA aj
  have ca:=hA.ok x (dY oi);have UQ:=Bt.j4 ho i;have W7:=Bt.BK UQ.1 UQ.2 ca
  have gI:((sQ p).map iA)[i]?=some (iA (j7 (varsOf p) (Bt.yH (Bt.yn (ck p) i) x))):=by
   rw[List.getElem?_map,sQ,List.getElem?_map,Bt.sA,List.getElem?_map,List.getElem?_range (show i<(ck p).m from aj),Ds];rfl
  have gO:((gR p).map iA)[i]?=some (iA (j7 (varsOf p) x)):=by
   rw[List.getElem?_map,gR,List.getElem?_map,oi];rfl
  refine dj (db.up aN) oi fun ad a5 n5 c5 q1 hh ct=>?_
  refine⟨ad,⟨by dsimp only;omega,by dsimp only;omega,q1⟩,?_⟩;refine⟨_,hh,?_⟩
  refine Bt.qb ho (v:=(i:Int)) ⟨by omega,by show (i:Int)<(p.length:Nat);omega⟩ ca (VH.up aN) ct fun b1 b2 b3 H5 aK ji=>?_
  rw[Int.toNat_natCast]at ji
  refine vb (V:=varsOf p) (by omega) W7 ((UP.up aN).up aK) ji fun d1 d2 d3 H6 aI dz=>?_
  refine⟨⟨by show (Ta.length+1)*24≤140737488355328;omega,by show Ta.length+1≤9223372036854775807;omega⟩,?_⟩
  refine vb (V:=varsOf p) (by omega) ca (((UP.up aN).up aK).up aI) ((ct.up aK).up aI) fun f1 f2 f3 H7 cS lj=>?_
  refine⟨⟨by show (N4.length+1)*24≤140737488355328;omega,by show N4.length+1≤9223372036854775807;omega⟩,?_⟩;have W8:=(aK.trans aI).trans cS
  have k1:RC (α:=List iz) H7 (Ta++[[.slice d1 d2 d3]]) (((sQ p).map iA).take (i+1)):=by
   rw[List.take_add_one,gI];exact EV (RC.up NP W8) (dz.up cS)
  have k2:RC (α:=List iz) H7 (N4++[[.slice f1 f2 f3]]) (((gR p).map iA).take (i+1)):=by
   rw[List.take_add_one,gO];exact EV (RC.up b8 W8) lj
  refine⟨⟨by dsimp only;omega,by dsimp only;omega⟩,(i+1,Ta++[[.slice d1 d2 d3]],N4++[[.slice f1 f2 f3]]),[(0,0),(1,1),(2,5),(3,7)],?_,⟨aN.trans W8,aj,k1,k2⟩,by dsimp only;omega⟩
  (repeat' first|exact trivial|refine⟨?_,?_⟩|exact rfl|assumption)
 ·have aX:i=p.length:=by have:=df h;dsimp only at this;omega
  rw[aX,List.take_of_length_le (by omega)]at NP;rw[aX,List.take_of_length_le (by omega)]at b8;intro v1 H5 aK B3
  refine bZ (α:=List iz) B3 (RC.up NP aK.le) fun d1 d2 d3 e1 bh=>?_
  subst e1;intro v3 H7 cS yl
  refine bZ (α:=List iz) yl (RC.up b8 (aK.le.trans cS.le)) fun f1 f2 f3 e3 bj=>?_
  subst e3;exact hK _ _ _ _ _ _ H7 (((ah.trans az).trans aN).trans (aK.le.trans cS.le)) (bh.up cS.le) bj
end Go.Proofs
end
section
namespace Go.Proofs
open Go.Sy
namespace Bt
end Bt
theorem iV:rV 0:=⟨by decide,by decide⟩
theorem yf {H:Hp} {s:Stmt} (h:fl s):cq.R H (.int .i64 s.1 :: .string (bs s.2.1.l) :: .int .i64 s.2.2.1::(dT s.2.2.2.1++dT s.2.2.2.2)) s :=
 ⟨[.int .i64 s.1],_,rfl,⟨rfl,h.1⟩,[.string (bs s.2.1.l)],_,rfl,⟨rfl,h.2.1⟩,[.int .i64 s.2.2.1],dT s.2.2.2.1++dT s.2.2.2.2,rfl,⟨rfl,h.2.2.1⟩,dT s.2.2.2.1,dT s.2.2.2.2,rfl,tz h.2.2.2.1,tz h.2.2.2.2⟩
end Go.Proofs
end
section
namespace Go.Proofs
open Go.Sy
end Go.Proofs
end
section
namespace Go.Proofs
open Go.Sy
end Go.Proofs
end
section
namespace Go.Proofs
open Go.Sy
open Tryz
variable {H:Hp} {K:Value→Hp→Prop}
theorem BY {b:Block} {k:Nat} (hk:k≤b.2.1.length) (hb:b.2.1.length≤100000) {v:aQ} {la:Option Addr} {ln lc:Nat} (hl:RL H la ln lc b.2.1) (hK:∀H',Le H H'→K (.int .i64 (bT v b.2.2 (b.2.1.drop k))) H'):
  aq prog 186 [PN (.slice la ln lc) b,.int .i64 (k:Nat),.string (bs v)] H K:=by
 have QE:=hl.aB;have eI:=hl.le;have iK:=hl.cut (l:=k) (k:=ln) (by omega) (Nat.le_refl _);rw[QE,List.take_length]at iK;rw[←QE]at iK;generalize hL:b.2.1.drop k=L at *
 have XU:L.length=ln - k:=by rw[←hL,List.length_drop,QE]
 refine ab af aa rfl func186 call186 ntmps186 results186 rfl rfl ?_;refine⟨⟨by omega,by omega,by have:=hl.2.1;omega⟩,?_⟩;have iK:RL H (dR la k lc 9) (ln - k) (lc - k) L:=iK;have VO:=iK.aB
 refine⟨Nat,fun i=>⟨[(2,.v (.string (bs v))),(3,.ptr 0 0),(12,.v (.slice (dR la k lc 9) (ln - k) (lc - k))),(13,.v (.int .i64 ((ln - k:Nat)))),(14,.v (.int .i64 i))],[(0,.cells 66 (vL (rr (.slice la ln lc) b)))],1⟩,
  fun i H'=>Le H H'∧i≤L.length∧bT v b.2.2 L=bT v b.2.2 (L.drop i),fun i=>L.length - i,⟨0,[(0,0)],?_,Le.refl H,Nat.zero_le _,rfl⟩,?_⟩
 ·(repeat' first|exact trivial|refine⟨?_,?_⟩|exact rfl|assumption)
 rintro i H1 _ ⟨hle,hi,hx⟩;refine⟨fun h=>?_,fun h=>?_⟩
 ·have aj:i<L.length:=by have:=dt h;omega
  refine aD L[i] fun s hs=>?_
  have dy:L[i]?=some s:=by rw[hs];exact aL aj
  rw[List.drop_eq_getElem_cons aj,←hs,bT]at hx
  refine du (iK.up hle) dy fun ad e1 hh SB=>?_
  refine⟨ad,⟨by omega,by omega,e1⟩,?_⟩;refine⟨_,hh,?_⟩
  refine xX SB fun u1 u2 u3 H3 az N0=>?_
  refine pF N0 ?_;refine⟨fun h=>?_,fun h=>?_⟩
  ·have hm:v∈iR s:=dt h;rw[if_pos hm]at hx;rw[hx]at hK;exact hK _ (hle.trans az)
  ·have hm:¬v∈iR s:=df h;rw[if_neg hm]at hx;refine⟨fun h=>?_,fun h=>?_⟩
   ·have kJ:¬s.1=3:=nt h;refine⟨fun h=>?_,fun h=>?_⟩
    ·have he:s.2.1.l=v:=dt h;rw[if_pos ⟨kJ,he⟩]at hx;rw[hx]at hK;exact hK _ (hle.trans az)
    ·have he:¬s.2.1.l=v:=df h;rw[if_neg (fun h=>he h.2)]at hx;refine⟨⟨by omega,by omega⟩,i+1,[(0,0)],?_,⟨hle.trans az,aj,hx⟩,by dsimp only;omega⟩
     (repeat' first|exact trivial|refine⟨?_,?_⟩|exact rfl|assumption)
   ·have kJ:s.1=3:=nf h;rw[if_neg (fun h=>h.1 kJ)]at hx;refine⟨⟨by omega,by omega⟩,i+1,[(0,0)],?_,⟨hle.trans az,aj,hx⟩,by dsimp only;omega⟩
    (repeat' first|exact trivial|refine⟨?_,?_⟩|exact rfl|assumption)
 ·have aX:i=L.length:=by have:=df h;omega
  rw[aX,List.drop_length,bT]at hx;refine⟨fun h=>?_,fun h=>?_⟩
  ·have kY:b.2.2.1=2:=dt h;refine⟨fun h=>?_,fun h=>?_⟩
   ·have he:b.2.2.2.1.1.l=v:=dt h;rw[if_pos ⟨kY,he⟩]at hx;rw[hx]at hK;exact hK _ hle
   ·have he:¬b.2.2.2.1.1.l=v:=df h;rw[if_neg (fun h=>he h.2)]at hx;rw[hx]at hK;exact hK _ hle
  ·have kY:¬b.2.2.1=2:=df h;rw[if_neg (fun h=>kY h.1)]at hx;rw[hx]at hK;exact hK _ hle
theorem Hu {p:Prog} (he:al p=0) (hp:p.length≤12) (hl:∀b∈p,b.2.1.length≤100000) (hv:iE p<400000) {a:Option Addr} {n c:Nat} (ha:RL H a n c p)
  (hK:∀a1 n1 c1 H',Le H H'→RL (α:=Int×Int) H' a1 n1 c1 (mY p)→K (.slice a1 n1 c1) H'):
  aq prog 124 [.agg #[.slice a n c]] H K:=by
 have hn:=ha.aB
 refine NC p fun G F hF=>?_
 refine ab af aa rfl func124 call124 ntmps124 results124 rfl rfl ?_
 refine Ht he hp hl hv ha fun a1 n1 c1 a2 n2 c2 H1 ak bh bj=>?_
 have lv:=bj.aB;rw[List.length_map]at lv
 have Tb:(gR p).length=p.length:=by rw[gR,List.length_map];exact (Bt.fg (mX he)).len
 refine⟨Nat,fun i=>⟨[(3,.own 1),(5,.v (.slice a2 n2 c2)),(17,.v (.slice a n c)),(18,.v (.int .i64 n)),(19,.v (.int .i64 i))],[(0,.cells 24 [.v (.slice a n c)]),(1,.row 67 2 (ao (G i)))],2⟩,
  fun i H'=>Le H1 H'∧i≤p.length∧(G i).length≤100000*i,fun i=>p.length - i,⟨0,[(0,0)],?_,Le.refl _,Nat.zero_le _,by rw[hF.g0];exact Nat.zero_le _⟩,?_⟩
 ·have e1:ao (G 0)=[]:=by rw[hF.g0];rfl
  (repeat' first|exact trivial|refine⟨?_,?_⟩|exact rfl|assumption)
 rintro i H3 _ ⟨az,hi,S3⟩;refine⟨fun h=>?_,fun h=>?_⟩
 ·have aj:i<p.length:=by have:=dt h;omega
  refine aD p[i] fun b gV=>?_
  have bG:p[i]?=some b:=by rw[gV];exact aL aj
  have oJ:=hl b (dY bG)
  refine bF (ha.up (ak.trans az)) bG fun ad a5 n5 c5 q1 hh ct xw vR=>?_
  have xl:n5=b.2.1.length:=ct.aB
  refine aD ((gR p)[i]'(by omega)) fun g vu=>?_
  have E3:(gR p)[i]?=some g:=by rw[vu];exact aL _
  have SG:((gR p).map iA)[i]?=some (iA g):=by rw[List.getElem?_map,E3];rfl
  refine⟨ad,⟨by omega,by omega,q1⟩,?_⟩;refine⟨_,hh,?_⟩
  refine⟨Nat,fun k=>⟨[(3,.own 1),(5,.v (.slice a2 n2 c2)),(6,.v (.int .i64 i)),(7,.ptr 2 0),(17,.v (.slice a n c)),(18,.v (.int .i64 n)),(19,.v (.int .i64 i)),(25,.v (.slice a5 n5 c5)),(26,.v (.int .i64 n5)),(27,.v (.int .i64 k))],[(0,.cells 24 [.v (.slice a n c)]),(1,.row 67 2 (ao (F i k))),(2,.cells 66 (vL (rr (.slice a5 n5 c5) b)))],3⟩,
   fun k H'=>Le H3 H'∧k≤b.2.1.length∧(F i k).length≤100000*i+k,fun k=>b.2.1.length - k,⟨0,[(0,0),(1,1),(2,2)],?_,Le.refl _,Nat.zero_le _,by rw[←hF.f0];omega⟩,?_⟩
  ·have e1:ao (G i)=ao (F i 0):=by rw[hF.f0]
   (repeat' first|exact trivial|refine⟨?_,?_⟩|exact rfl|assumption)
  rintro k H4 _ ⟨aN,hk,yk⟩;have Qj:(ao (F i k)).length=(F i k).length:=List.length_map _;refine⟨fun h=>?_,fun h=>?_⟩
  ·have e8:k<b.2.1.length:=by have:=dt h;omega
   refine aD b.2.1[k] fun s Be=>?_
   have dy:b.2.1[k]?=some s:=by rw[Be];exact aL e8
   refine du (ct.up aN) dy fun iy q2 gj hR=>?_
   refine⟨iy,⟨by omega,by omega,q2⟩,?_⟩;refine⟨_,gj,?_⟩;refine⟨⟨by omega,by omega⟩,?_⟩
   refine BY (k:=k+1) e8 oJ (ct.up aN) fun _ _=>?_
   have ez:=aN;have mb:=KF he bG dy;rw[E3,Option.getD_some]at mb;generalize bT s.2.1.l b.2.2 (b.2.1.drop (k+1))=A at *;refine⟨some ([],[0,1,2,3,4,5,6,7,8,9,10,11,12,13,14,15,16,17,18,19,20]),by kernel_rfl,?_⟩;refine⟨fun h1=>?_,fun h1=>?_⟩
   ·have h1:s.1=1:=dt h1;rw[decide_eq_true h1,Bool.true_and]at mb;refine⟨fun h2=>?_,fun h2=>?_⟩
    ·have h2:¬A=2:=df h2;rw[decide_eq_false h2,Bool.false_or]at mb;refine⟨fun h3=>?_,fun h3=>?_⟩
     ·have h3:A=0:=dt h3;rw[decide_eq_true h3,Bool.true_and]at mb
      refine dj (bj.up (az.trans ez)) SG fun sy u1 u2 u3 q3 ql ji=>?_
      refine⟨sy,⟨by omega,by omega,q3⟩,?_⟩;refine⟨_,ql,?_⟩;refine pF ji ?_;refine⟨fun h4=>?_,fun h4=>?_⟩
      ·have rv:u0 p i k b s=true:=by rw[mb];exact h4
       have e1:ao (F i k)++[[.int .i64 (i:Nat),.int .i64 (k:Nat)]]=ao (F i (k+1)):=by rw[hF.fy i k b s bG dy rv,ao,ao,List.map_append];rfl
       refine⟨⟨by show ((ao (F i k)).length+1)*16≤140737488355328;omega,by show (ao (F i k)).length+1≤9223372036854775807;omega⟩,?_⟩;refine⟨⟨by omega,by omega⟩,k+1,[(0,0),(1,5),(2,2)],?_,⟨ez,e8,by rw[hF.fy i k b s bG dy rv,List.length_append,List.length_singleton];omega⟩,by dsimp only;omega⟩
       (repeat' first|exact trivial|refine⟨?_,?_⟩|exact rfl|assumption)
      ·have gZ:u0 p i k b s=false:=by rw[mb];exact h4
       have e1:ao (F i k)=ao (F i (k+1)):=by rw[hF.fn i k b s bG dy gZ]
       refine⟨⟨by omega,by omega⟩,k+1,[(0,0),(1,1),(2,2)],?_,⟨ez,e8,by rw[hF.fn i k b s bG dy gZ];omega⟩,by dsimp only;omega⟩
       (repeat' first|exact trivial|refine⟨?_,?_⟩|exact rfl|assumption)
     ·have h3:¬A=0:=df h3;rw[decide_eq_false h3,Bool.false_and]at mb;have gZ:=mb
      have e1:ao (F i k)=ao (F i (k+1)):=by rw[hF.fn i k b s bG dy gZ]
      refine⟨⟨by omega,by omega⟩,k+1,[(0,0),(1,1),(2,2)],?_,⟨ez,e8,by rw[hF.fn i k b s bG dy gZ];omega⟩,by dsimp only;omega⟩
      (repeat' first|exact trivial|refine⟨?_,?_⟩|exact rfl|assumption)
    ·have h2:A=2:=by have:=h2;simpa using this
     rw[decide_eq_true h2,Bool.true_or]at mb;have rv:=mb
     have e1:ao (F i k)++[[.int .i64 (i:Nat),.int .i64 (k:Nat)]]=ao (F i (k+1)):=by rw[hF.fy i k b s bG dy rv,ao,ao,List.map_append];rfl
     refine⟨⟨by show ((ao (F i k)).length+1)*16≤140737488355328;omega,by show (ao (F i k)).length+1≤9223372036854775807;omega⟩,?_⟩;refine⟨⟨by omega,by omega⟩,k+1,[(0,0),(1,5),(2,2)],?_,⟨ez,e8,by rw[hF.fy i k b s bG dy rv,List.length_append,List.length_singleton];omega⟩,by dsimp only;omega⟩
     (repeat' first|exact trivial|refine⟨?_,?_⟩|exact rfl|assumption)
   ·have h1:¬s.1=1:=df h1;rw[decide_eq_false h1,Bool.false_and]at mb;have gZ:=mb
    have e1:ao (F i k)=ao (F i (k+1)):=by rw[hF.fn i k b s bG dy gZ]
    refine⟨⟨by omega,by omega⟩,k+1,[(0,0),(1,1),(2,2)],?_,⟨ez,e8,by rw[hF.fn i k b s bG dy gZ];omega⟩,by dsimp only;omega⟩
    (repeat' first|exact trivial|refine⟨?_,?_⟩|exact rfl|assumption)
  ·have e8:k=b.2.1.length:=by have:=df h;omega
   subst e8
   have e1:ao (F i b.2.1.length)=ao (G (i+1)):=by rw[hF.gs i b bG]
   refine⟨⟨by omega,by omega⟩,i+1,[(0,0),(1,1)],?_,⟨az.trans aN,aj,by rw[←hF.gs i b bG];omega⟩,by dsimp only;omega⟩
   (repeat' first|exact trivial|refine⟨?_,?_⟩|exact rfl|assumption)
 ·have aX:i=p.length:=by have:=df h;omega
  subst aX;rw[hF.ge];intro v H5 aK R4
  refine bZ (α:=Int×Int) R4 (wV (IP hp hl)) fun d1 d2 d3 ev hr=>?_
  subst ev;exact hK _ _ _ _ ((ak.trans az).trans aK.le) hr
theorem EW {p:Prog} (he:al p=0) (hp:p.length≤12) (hl:∀b∈p,b.2.1.length≤100000) (hv:iE p<400000) {a:Option Addr} {n c:Nat} (ha:RL H a n c p)
  (hK:∀a1 n1 c1 H',Le H H'→RL H' a1 n1 c1 (aS p)→K (.agg #[.slice a1 n1 c1]) H'):
  aq prog 77 [.agg #[.slice a n c]] H K:=by
 have hn:=ha.aB;refine ab BR aa rfl func77 call77 ntmps77 results77 rfl rfl ?_
 refine Hu he hp hl hv ha fun ax nx Vn H1 ak W9=>?_
 have yu:=W9.aB;have eI:=W9.le
 refine⟨Nat×List (List Value),fun q=>⟨[(2,.ptr 1 0),(3,.v (.slice ax nx Vn)),(4,.ptr 2 0),(16,.v (.slice a n c)),(17,.v (.int .i64 n)),(18,.v (.int .i64 q.1))],
   [(1,.cells 24 [.v (.slice none 0 0)]),(2,.cells 24 [.own 3]),(3,.row 66 8 q.2)],4⟩,
  fun q H'=>Le H1 H'∧q.1≤p.length∧RC (α:=Block) H' q.2 ((aS p).take q.1),fun q=>p.length - q.1,⟨(0,[]),[(1,1),(2,2)],?_,Le.refl _,Nat.zero_le _,RC.nil⟩,?_⟩
 ·(repeat' first|exact trivial|refine⟨?_,?_⟩|exact rfl|assumption)
 rintro⟨i,css⟩ H2 _ ⟨ah,hi,bf⟩;dsimp only at hi bf;have fC:css.length=((aS p).take i).length:=bf.1;rw[List.length_take,dJ]at fC;refine⟨fun h=>?_,fun h=>?_⟩
 ·have aj:i<p.length:=by have:=dt h;dsimp only at this;omega
  refine aD p[i] fun b gV=>?_
  have bG:p[i]?=some b:=by rw[gV];exact aL aj
  have oJ:=hl b (dY bG)
  refine bF (ha.up (ak.trans ah)) bG fun ad a5 n5 c5 q1 hh ct xw vR=>?_
  have xl:n5=b.2.1.length:=ct.aB;have RN:=ct.le;refine⟨ad,⟨by dsimp only;omega,by dsimp only;omega,q1⟩,?_⟩;refine⟨_,hh,?_⟩
  refine⟨Nat×List (List Value),fun q=>⟨[(2,.ptr 1 0),(3,.v (.slice ax nx Vn)),(4,.ptr 2 0),(5,.v (.int .i64 i)),(7,.ptr 5 0),(16,.v (.slice a n c)),(17,.v (.int .i64 n)),(18,.v (.int .i64 i)),(29,.v (.slice a5 n5 c5)),(30,.v (.int .i64 n5)),(31,.v (.int .i64 q.1))],
    [(1,.cells 24 [.v (.slice none 0 0)]),(2,.cells 24 [.own 3]),(3,.row 66 8 css),(5,.cells 66 (bC b (.own 6))),(6,.row 61 9 q.2)],7⟩,
   fun q H'=>H'=H2∧q.1≤n5∧q.2=(rE p i b (b.2.1.take q.1) 0).map oz,fun q=>n5 - q.1,⟨(0,[]),[(1,1),(2,2),(3,3),(5,5)],?_,rfl,Nat.zero_le _,by dsimp only;rw[List.take_zero,rE];rfl⟩,?_⟩
  ·(repeat' first|exact trivial|refine⟨?_,?_⟩|exact rfl|assumption)
  rintro⟨k,kZ⟩ H4 _ ⟨rfl,hk,fv⟩;dsimp only at hk fv
  have zO:kZ.length≤100000:=by
   have h1:=Aj hl bG k
   rw[fv,List.length_map];exact h1
  refine⟨fun h=>?_,fun h=>?_⟩
  ·have e8:k<b.2.1.length:=by have:=dt h;dsimp only at this;omega
   refine aD b.2.1[k] fun s Be=>?_
   have dy:b.2.1[k]?=some s:=by rw[Be];exact aL e8
   have iG:=EO bG dy;have yV:=sS p i b b.2.1 0 k s dy;rw[Nat.zero_add]at yV
   refine du ct dy fun sy q3 ql vM=>?_
   refine⟨sy,⟨by dsimp only;omega,by dsimp only;omega,q3⟩,?_⟩;refine⟨_,ql,?_⟩
   refine⟨Nat×Bool,fun q=>⟨[(2,.ptr 1 0),(3,.v (.slice ax nx Vn)),(4,.ptr 2 0),(5,.v (.int .i64 i)),(7,.ptr 5 0),(8,.v (.int .i64 k)),(9,.ptr 7 0),(10,.v (.bool q.2)),(16,.v (.slice a n c)),(17,.v (.int .i64 n)),(18,.v (.int .i64 i)),(29,.v (.slice a5 n5 c5)),(30,.v (.int .i64 n5)),(31,.v (.int .i64 k)),(36,.v (.slice ax nx Vn)),(37,.v (.int .i64 nx)),(38,.v (.int .i64 q.1))],
     [(1,.cells 24 [.v (.slice none 0 0)]),(2,.cells 24 [.own 3]),(3,.row 66 8 css),(5,.cells 66 (bC b (.own 6))),(6,.row 61 9 kZ),(7,.cells 61 (vL (oz s)))],8⟩,
    fun q H'=>H'=H4∧q.1≤nx∧q.2=decide (((i:Int),(k:Int))∈(mY p).take q.1),fun q=>nx - q.1,⟨(0,false),[(1,1),(2,2),(3,3),(5,5),(6,6),(7,7)],?_,rfl,Nat.zero_le _,by dsimp only;rw[List.take_zero];rfl⟩,?_⟩
   ·(repeat' first|exact trivial|refine⟨?_,?_⟩|exact rfl|assumption)
   rintro⟨j,gn⟩ H5 _ ⟨rfl,hj,SC⟩;dsimp only at hj SC;refine⟨fun h=>?_,fun h=>?_⟩
   ·have eD:j<(mY p).length:=by have:=dt h;dsimp only at this;omega
    refine aD (mY p)[j] fun y Pj=>?_
    have B5:(mY p)[j]?=some y:=by rw[Pj];exact aL eD
    have Vo:decide (((i:Int),(k:Int))∈(mY p).take (j+1))=(gn||decide (y=((i:Int),(k:Int)))):=by
     have e1:((i:Int),(k:Int))∈(mY p).take (j+1)↔((i:Int),(k:Int))∈(mY p).take j∨y=((i:Int),(k:Int)):=by
      rw[List.take_add_one,B5,Option.toList_some,List.mem_append,List.mem_singleton];exact or_congr Iff.rfl eq_comm
     rw[SC,decide_eq_decide.2 e1,Bool.decide_or]
    refine qV (W9.up ah) B5 fun Si q4 Sj=>?_
    refine⟨Si,⟨by dsimp only;omega,by dsimp only;omega,q4⟩,?_⟩;refine⟨_,Sj,?_⟩;refine⟨fun h=>?_,fun h=>?_⟩
    ·have h:gn=false:=h
     have hE:(decide (y.1=(i:Int))&&decide (y.2=(k:Int)))=decide (y=((i:Int),(k:Int))):=by
      rw[Bool.eq_iff_iff];simp [Prod.ext_iff]
     rw[h,Bool.false_or]at Vo;refine⟨⟨by dsimp only;omega,by dsimp only;omega⟩,(j+1,decide (y.1=(i:Int))&&decide (y.2=(k:Int))),[(1,1),(2,2),(3,3),(5,5),(6,6),(7,7)],?_,⟨rfl,by dsimp only;omega,by dsimp only;rw[hE,Vo]⟩,by dsimp only;omega⟩
     (repeat' first|exact trivial|refine⟨?_,?_⟩|exact rfl|assumption)
    ·have h:gn=true:=h;rw[h,Bool.true_or]at Vo;refine⟨⟨by dsimp only;omega,by dsimp only;omega⟩,(j+1,true),[(1,1),(2,2),(3,3),(5,5),(6,6),(7,7)],?_,⟨rfl,by dsimp only;omega,Vo.symm⟩,by dsimp only;omega⟩
     (repeat' first|exact trivial|refine⟨?_,?_⟩|exact rfl|assumption)
   have Un:j=nx:=by have:=df h;dsimp only at this;omega
   rw[Un,yu,List.take_length]at SC;refine⟨fun h=>?_,fun h=>?_⟩
   ·have gZ:u0 p i k b s=false:=by
     have h2:gn=false:=by simpa using h
     rw[SC,decide_eq_false_iff_not,iG]at h2
     simpa using h2
    rw[gZ,if_neg (by decide)]at yV
    have SM:kZ++[oz s]=(rE p i b (b.2.1.take (k+1)) 0).map oz:=by rw[yV,List.map_append,fv];rfl
    refine⟨⟨by show (kZ.length+1)*96≤140737488355328;omega,by show kZ.length+1≤9223372036854775807;omega⟩,?_⟩;refine⟨⟨by omega,by omega⟩,(k+1,kZ++[oz s]),[(1,1),(2,2),(3,3),(5,5),(6,9)],?_,⟨rfl,by dsimp only;omega,SM⟩,by dsimp only;omega⟩
    (repeat' first|exact trivial|refine⟨?_,?_⟩|exact rfl|assumption)
   ·have rv:u0 p i k b s=true:=by
     have h2:gn=true:=by simpa using h
     rw[SC,decide_eq_true_eq,iG]at h2;exact h2
    rw[if_pos rv,List.append_nil]at yV
    have SM:kZ=(rE p i b (b.2.1.take (k+1)) 0).map oz:=by rw[yV,fv]
    refine⟨⟨by omega,by omega⟩,(k+1,kZ),[(1,1),(2,2),(3,3),(5,5),(6,6)],?_,⟨rfl,by dsimp only;omega,SM⟩,by dsimp only;omega⟩
    (repeat' first|exact trivial|refine⟨?_,?_⟩|exact rfl|assumption)
  have Ou:k=n5:=by have:=df h;dsimp only at this;omega
  rw[Ou,xl,List.take_length]at fv;have hR:=GR (ha.up (ak.trans ah)) bG
  have Bm:RC (α:=Stmt) H4 kZ (mc p i b).2.1:=by
   rw[fv]
   exact z8 fun s hs=>hR.2.2 s (qg p i b _ _ s hs)
  intro v H6 aI cZ
  refine bZ (α:=Stmt) cZ (RC.up Bm aI.le) fun a9 n9 c9 ev Ir=>?_
  subst ev
  have b8:RC (α:=Block) H6 (css++[.string (bs b.1.l) :: .slice a9 n9 c9::dg b.2.2]) ((aS p).take (i+1)):=by
   rw[List.take_add_one,ju bG,Option.toList_some];exact RC.snoc (RC.up bf aI.le) (dD (b:=mc p i b) Ir xw vR)
  refine⟨⟨by show (css.length+1)*112≤140737488355328;omega,by show css.length+1≤9223372036854775807;omega⟩,?_⟩;refine⟨⟨by omega,by omega⟩,(i+1,css++[.string (bs b.1.l) :: .slice a9 n9 c9::dg b.2.2]),[(1,1),(2,2),(3,8)],?_,⟨ah.trans aI.le,by dsimp only;omega,b8⟩,by dsimp only;omega⟩
  (repeat' first|exact trivial|refine⟨?_,?_⟩|exact rfl|assumption)
 ·intro v H9 ez WK
  have aX:i=p.length:=by have:=df h;dsimp only at this;omega
  rw[List.take_of_length_le (by rw[dJ];omega)]at bf
  refine bZ (α:=Block) WK (RC.up bf ez.le) fun ar nr cr ev hr=>?_
  subst ev;exact hK _ _ _ _ ((ak.trans ah).trans ez.le) hr
end Go.Proofs
end
