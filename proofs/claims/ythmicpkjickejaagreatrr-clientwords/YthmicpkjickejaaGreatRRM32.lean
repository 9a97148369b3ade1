/- Part 'M32' of the proof (Lv0, Lv1, Lv2): lemmas, each with its own conditions in its own statement. -/
import Derived.Test.YthmicpkjickejaaGreatRRM22
import Derived.Test.YthmicpkjickejaaGreatRRM23
import Derived.Test.YthmicpkjickejaaGreatRRM29
section
namespace Go.Proofs
open Go.Sy
set_option maxRecDepth 20000
set_option maxHeartbeats 4000000
theorem some1_spec {s:Bs8} {H:Hp} {K:Value→Hp→Prop} (hK:K (.bool (!decide (s=[]))) H):Does Tryz.prog 154 [.string (bs s)] H K:=by
 refine spec_of cx_ok cx_mix rfl Tryz.func154 Tryz.call154 Tryz.ntmps154 Tryz.results154 rfl rfl ?_;exact hK
def someL (l:List Bs8):List Bs8:=l.filter fun s=>!decide (s=[])
theorem someL_take {l:List Bs8} {i:Nat} {s:Bs8} (h:l[i]?=some s):someL (l.take (i+1))=if s=[] then someL (l.take i) else someL (l.take i)++[s]:=by
 rw[someL,List.take_add_one,h,Option.toList_some,List.filter_append]
 by_cases hs:s=[]
 ·simp [someL,hs]
 ·simp [someL,hs]
theorem str_k {P:Prop} {H:Hp} {a:Option Addr} {n c:Nat} {l:List Bs8} (h:RL H a n c (ens l)) {i:Nat} {s:Bs8} (hi:l[i]?=some s) (k:∀ad,a=some ad→ElemH H ad (i:Int) 1 [.string (bs s)]→s.length≤9223372036854775807→P):P :=
 elem_k h (i:=i) (x:=(⟨s⟩:Str)) (by rw[List.getElem?_map,hi];rfl) fun ad cs h1 h2 h3=>by
  obtain⟨rfl,h4⟩:=h3;exact k ad h1 h2 h4
theorem ens_small {H:Hp} {a:Option Addr} {n c:Nat} {l:List Bs8} (h:RL H a n c (ens l)):∀s∈l,s.length≤9223372036854775807:=fun s hs=>by
 obtain⟨i,hi⟩:=List.getElem?_of_mem hs
 exact str_k h hi fun _ _ _ h=>h
theorem picked_spec {l:List Bs8} (hl:l.length≤100000) {a:Option Addr} {n c:Nat} {H:Hp} {K:SV→St→Hp→Prop} (ha:RL H a n c (ens l)) (hK:K (.own 0) ⟨[],[(0,.row 9 1 (sRows (someL l)))],1⟩ H):
  DoesG Tryz.prog 153 [.v (.slice a n c),.fn 154 []] [] 0 H K:=by
 have hn1:=ha.n_eq;rw[List.length_map]at hn1;refine spec_ofG cx_ok cx_mix Tryz.func153 Tryz.call153 Tryz.ntmps153 Tryz.results153 rfl rfl ?_
 refine⟨Nat,fun i=>⟨[(1,.fn 154 []),(5,.own 0),(8,.v (.slice a n c)),(9,.v (.int .i64 n)),(10,.v (.int .i64 i))],[(0,.row 9 1 (sRows (someL (l.take i))))],1⟩,
  fun i H'=>H'=H∧i≤l.length,fun i=>l.length - i,⟨0,[],?_,rfl,Nat.zero_le _⟩,?_⟩
 ·(repeat' (first|exact trivial|refine⟨?_,?_⟩|exact rfl|assumption))
 rintro i H1 _ ⟨rfl,hi⟩;refine⟨fun h=>?_,fun h=>?_⟩
 ·have hlt:i<l.length:=by have:=dt h;omega
  have hlv:=someL_take (List.getElem?_eq_getElem hlt)
  have hlen:(sRows (someL (l.take i))).length≤i:=by
   rw[List.length_map];exact Nat.le_trans (List.length_filter_le _ _) (by rw[List.length_take];omega)
  refine str_k ha (List.getElem?_eq_getElem hlt) fun ad e1 hh hsz=>?_
  refine⟨ad,⟨by omega,by omega,e1⟩,?_⟩;refine⟨_,hh,?_⟩;refine some1_spec ?_;refine⟨fun h=>?_,fun h=>?_⟩
  ·have hne:¬l[i]=[]:=nt h;rw[if_neg hne]at hlv
   have e:sRows (someL (l.take i))++[[.string (bs l[i])]]=sRows (someL (l.take (i+1))):=by rw[hlv,←sRows_snoc]
   refine⟨⟨by show (_+1)*16≤140737488355328;omega,by show _+1≤9223372036854775807;omega⟩,?_⟩;refine⟨⟨by omega,by omega⟩,i+1,[(0,2)],?_,⟨rfl,hlt⟩,by dsimp only;omega⟩
   (repeat' (first|exact trivial|refine⟨?_,?_⟩|exact rfl|assumption))
  ·have heq:l[i]=[]:=nf h;rw[if_pos heq]at hlv
   have e:sRows (someL (l.take i))=sRows (someL (l.take (i+1))):=by rw[hlv]
   refine⟨⟨by omega,by omega⟩,i+1,[(0,0)],?_,⟨rfl,hlt⟩,by dsimp only;omega⟩
   (repeat' (first|exact trivial|refine⟨?_,?_⟩|exact rfl|assumption))
 ·have hil:i=l.length:=by have:=df h;omega
  rw[hil,List.take_length];exact⟨.own 0,[(0,.row 9 1 (sRows (someL l)))],1,[(0,0)],by (repeat' (first|exact trivial|refine⟨?_,?_⟩|exact rfl|assumption)),hK⟩
def nmsOf (l:List Bs8):List Bs8:=putAll l []
theorem nil_sortedS:SortedS ([]:List Bs8):=List.Pairwise.nil
theorem putAll_some:∀(vs:List Bs8) {o:List Bs8},¬[]∈o→¬[]∈putAll vs o
 | [],_,h=>h
 | v::r,o,h=>by
  refine putAll_some r (o:=putS v o) fun hm=>?_
  by_cases hv:v=[]
  ·rw[hv,putS_nil]at hm;exact h hm
  ·rcases putS_mem hm with hm | hm
   ·exact h hm
   ·exact hv hm.symm
theorem nmsOf_mem {l:List Bs8} {t:Bs8}:t∈nmsOf l↔t∈l∧t≠[]:=by
 constructor
 ·intro h;refine⟨(putAll_mem l h).resolve_left (by simp),fun e=>?_⟩;subst e;exact putAll_some l (o:=[]) (by simp) h
 ·intro h;exact (putAll_has l nil_sortedS).1 t h.1 h.2
theorem nmsOf_gSort (l:List Bs8):gSort (someL l)=nmsOf l:=by
 refine (gSort_eq (l':=nmsOf l) ?_ fun t=>?_).symm
 ·exact putAll_sorted l nil_sortedS
 ·rw[nmsOf_mem,someL,List.mem_filter];simp
theorem lsorted_spec {l:List Bs8} (hl:l.length≤100000) {a:Option Addr} {n c:Nat} {H:Hp} {K:Value→Hp→Prop} (ha:RL H a n c (ens l)) (hK:∀a1 n1 c1 H',Le H H'→RL H' a1 n1 c1 (ens (nmsOf l))→K (.slice a1 n1 c1) H'):
  Does Tryz.prog 107 [.slice a n c] H K:=by
 have hsm:=ens_small ha;have hle:(someL l).length≤l.length:=List.length_filter_le _ _;refine spec_of cx_ok cx_mix rfl Tryz.func107 Tryz.call107 Tryz.ntmps107 Tryz.results107 rfl rfl ?_;refine⟨[],rfl,picked_spec hl ha ?_⟩;refine⟨[0],rfl,sortS_spec (l:=someL l) (by omega) fun l' hl' hp hg=>?_⟩;refine⟨[0],rfl,compS_spec (l:=l') (by omega) ?_⟩;rw[hg,nmsOf_gSort];intro v H6 hle6 hv6;obtain⟨a7,n7,c7,rfl,hr7⟩:=RL.of_row (α:=Str) hv6 (rc_sRows fun s hs=>hsm s (nmsOf_mem.1 hs).1);exact hK _ _ _ _ hle6.le hr7
end Go.Proofs
end
section
namespace Go.Proofs
open Go.Sy
set_option maxRecDepth 20000
set_option maxHeartbeats 4000000
def useL (x:Stmt):List Bs8:=if x.1=1 then (atomsOf x.2.2).map (fun a=>a.1.l) else if x.1=3 then [x.2.2.2.1.1.l] else []
def usesS (x:Stmt):List Bs8:=nmsOf (useL x)
theorem atomsOf_lenU (x:Expr):(atomsOf x).length≤2:=by
 unfold atomsOf;split
 ·simp
 ·split<;>simp
theorem useL_len (x:Stmt):(useL x).length≤2:=by
 unfold useL;split
 ·rw[List.length_map];exact atomsOf_lenU _
 ·split<;>simp
theorem luses_spec {x:Stmt} (hx:stmtR x) {H:Hp} {K:Value→Hp→Prop} (hK:∀a1 n1 c1 H',Le H H'→RL H' a1 n1 c1 (ens (usesS x))→K (.slice a1 n1 c1) H'):
  Does Tryz.prog 106 [stmtA x] H K:=by
 have hsm:∀s∈useL x,s.length≤9223372036854775807:=fun s hs=>by
  unfold useL at hs;split at hs
  ·obtain⟨y,hy,rfl⟩:=List.mem_map.1 hs;exact (atomsOf_R hx.2.2 y hy).1
  ·split at hs
   ·rw[List.mem_singleton.1 hs];exact hx.2.2.2.1.1
   ·cases hs
 have hlen:=useL_len x;refine spec_of cx_ok cx_mix rfl Tryz.func106 Tryz.call106 Tryz.ntmps106 Tryz.results106 rfl rfl ?_;refine⟨fun h=>?_,fun h=>?_⟩
 ·have hk:x.1=1:=dt h;have hu:useL x=(atomsOf x.2.2).map (fun a=>a.1.l):=if_pos hk
  refine patoms_spec hx.2.2 fun a n c H1 hle1 hr1=>?_
  have hn1:=hr1.n_eq;have hal:=atomsOf_lenU x.2.2
  refine⟨Nat,fun i=>⟨[(3,.own 0),(12,.v (.slice a n c)),(13,.v (.int .i64 n)),(14,.v (.int .i64 i))],[(0,.row 9 1 (sRows ((useL x).take i)))],1⟩,
   fun i H'=>H'=H1∧i≤(atomsOf x.2.2).length,fun i=>(atomsOf x.2.2).length - i,⟨0,[],?_,rfl,Nat.zero_le _⟩,?_⟩
  ·(repeat' (first|exact trivial|refine⟨?_,?_⟩|exact rfl|assumption))
  rintro i H2 _ ⟨rfl,hi⟩
  have hrl:(sRows ((useL x).take i)).length≤2:=by rw[List.length_map,List.length_take];omega
  refine⟨fun h=>?_,fun h=>?_⟩
  ·have hlt:i<(atomsOf x.2.2).length:=by have:=dt h;omega
   have hui:(useL x)[i]?=some (atomsOf x.2.2)[i].1.l:=by rw[hu,List.getElem?_map,List.getElem?_eq_getElem hlt];rfl
   have e:sRows ((useL x).take i)++[[.string (bs (atomsOf x.2.2)[i].1.l)]]=sRows ((useL x).take (i+1)):=by
    rw[List.take_add_one,hui,Option.toList_some,←sRows_snoc]
   refine atom_k hr1 (List.getElem?_eq_getElem hlt) fun ad e1 hh _=>?_
   refine⟨ad,⟨by omega,by omega,e1⟩,?_⟩;refine⟨_,hh,?_⟩;refine⟨⟨by show (_+1)*16≤140737488355328;omega,by show _+1≤9223372036854775807;omega⟩,?_⟩;refine⟨⟨by omega,by omega⟩,i+1,[(0,3)],?_,⟨rfl,hlt⟩,by dsimp only;omega⟩
   (repeat' (first|exact trivial|refine⟨?_,?_⟩|exact rfl|assumption))
  ·have hil:i=(atomsOf x.2.2).length:=by have:=df h;omega
   have e:(useL x).take i=useL x:=List.take_of_length_le (by rw[hu,List.length_map];omega);rw[e];intro v H6 hle6 hv6;obtain⟨a7,n7,c7,rfl,hr7⟩:=RL.of_row (α:=Str) hv6 (rc_sRows hsm)
   refine lsorted_spec (l:=useL x) (by omega) hr7 fun a1 n1 c1 H7 hle7 hr=>?_
   exact hK _ _ _ _ ((hle1.trans hle6.le).trans hle7) hr
 ·have hk:¬x.1=1:=df h;refine⟨fun h=>?_,fun h=>?_⟩
  ·have hk3:x.1=3:=dt h
   have hu:useL x=[x.2.2.2.1.1.l]:=by rw[useL,if_neg hk,if_pos hk3]
   refine⟨⟨by show 1*16≤140737488355328;decide,by show 1≤9223372036854775807;decide⟩,?_⟩;intro v H6 hle6 hv6
   have hv7:RowAt H6 v 1 (sRows (useL x)):=by rw[hu];exact hv6
   obtain⟨a7,n7,c7,rfl,hr7⟩:=RL.of_row (α:=Str) hv7 (rc_sRows hsm)
   refine lsorted_spec (l:=useL x) (by omega) hr7 fun a1 n1 c1 H7 hle7 hr=>?_
   exact hK _ _ _ _ (hle6.le.trans hle7) hr
  ·have hk3:¬x.1=3:=df h
   have hu:useL x=[]:=by rw[useL,if_neg hk,if_neg hk3]
   refine lsorted_spec (l:=[]) (by decide) rl_nil fun a1 n1 c1 H7 hle7 hr=>?_
   rw[usesS,hu]at hK;exact hK _ _ _ _ hle7 hr
end Go.Proofs
end
section
namespace Go.Proofs
open Go.Sy
set_option maxRecDepth 20000
set_option maxHeartbeats 4000000
def askB (a:Atm):Block:=(⟨[]⟩,[],(0,a,⟨[]⟩,⟨[]⟩))
def useA (x:Stmt):List Atm:=if x.1=1 then atomsOf x.2.2 else if x.1=3 then [x.2.2.2.1] else []
theorem useL_A (x:Stmt):useL x=(useA x).map (fun a=>a.1.l):=by
 unfold useL useA;split
 ·rfl
 ·split<;>rfl
def askP (x:Stmt):Prog:=(askB (⟨[]⟩,0,0))::(useA x).map askB
theorem askP_vars (x:Stmt):varsOf (askP x)=usesS x:=by
 rw[usesS,nmsOf,useL_A]
 have h:∀(l:List Atm) (o:List Bs8),(l.map askB).foldl blkVars o=putAll (l.map fun a=>a.1.l) o:=by
  intro l
  induction l with
  | nil=>exact fun _=>rfl
  | cons a r ih=>intro o;rw[List.map_cons,List.map_cons,List.foldl_cons,ih];rfl
 rw[askP,varsOf,List.foldl_cons,h]
 rfl
abbrev askV (a:Atm):List Value:=[.string (bs []),.slice none 0 0,.int .i64 0,.string (bs a.1.l),.int .i64 a.2.1,.int .i64 a.2.2,.string (bs []),.string (bs [])]
theorem askV_rc {H:Hp}:∀ {l:List Atm},(∀a∈l,atmR a)→RC (α:=Block) H (l.map askV) (l.map askB):=by
 intro l h;refine⟨by rw[List.length_map,List.length_map],fun i cs b h1 h2=>?_⟩;rw[List.getElem?_map]at h1 h2
 cases h3:l[i]? with
 | none=>rw[h3]at h1;cases h1
 | some a =>
  rw[h3]at h1 h2
  cases h1;cases h2
  have ha:=h a (List.mem_of_getElem? h3);exact block_mk (b:=askB a) rl_nil (Nat.zero_le _) ⟨⟨by show (_:Int)≤0;decide,by show (0:Int)≤_;decide⟩,ha,Nat.zero_le _,Nat.zero_le _⟩
abbrev aZ:Atm:=(⟨[]⟩,0,0)
theorem ruses_spec {x:Stmt} (hx:stmtR x) {H:Hp} {K:Value→Hp→Prop} (hK:∀a1 n1 c1 H',Le H H'→RL H' a1 n1 c1 (ens (usesS x))→K (.slice a1 n1 c1) H'):
  Does Tryz.prog 132 [stmtA x] H K:=by
 rw[←askP_vars]at hK;have hal:=atomsOf_lenU x.2.2
 have hZ:atmR aZ:=⟨Nat.zero_le _,⟨by show (_:Int)≤0;decide,by show (0:Int)≤_;decide⟩,⟨by show (_:Int)≤0;decide,by show (0:Int)≤_;decide⟩⟩
 have hmem:∀a∈aZ::useA x,atmR a:=fun a ha=>by
  rcases List.mem_cons.1 ha with rfl | ha
  ·exact hZ
  ·unfold useA at ha;split at ha
   ·exact atomsOf_R hx.2.2 a ha
   ·split at ha
    ·rw[List.mem_singleton.1 ha];exact hx.2.2.2.1
    ·cases ha
 have hul:(useA x).length≤2:=by
  unfold useA;split
  ·exact hal
  ·split<;>simp
 have hcnt:cnt (askP x)<400000:=by
  have h:∀(l:List Atm),((l.map askB).map fun b:Block=>3*b.2.1.length+1).sum=l.length:=fun l=>by
   induction l with
   | nil=>rfl
   | cons a r ih=>simp only[List.map_cons,List.sum_cons,ih,List.length_cons];show 3*0+1+_=_;omega
  have h2:=h (aZ::useA x);rw[List.length_cons]at h2;have h3:cnt (askP x)=((List.map askB (aZ::useA x)).map fun b:Block=>3*b.2.1.length+1).sum:=rfl;omega
 have fin:∀(H1:Hp),Le H H1→∀v H6,Le H1 H6→RowAt H6 v 8 ((aZ::useA x).map askV)→∃a n c,v = .slice a n c∧RL H6 a n c (askP x):=fun H1 hle1 v H6 hle6 hv6 =>
  RL.of_row (α:=Block) hv6 (askV_rc hmem)
 refine spec_of cx_ok cx_mix rfl Tryz.func132 Tryz.call132 Tryz.ntmps132 Tryz.results132 rfl rfl ?_;refine⟨fun h=>?_,fun h=>?_⟩
 ·have hk:x.1=1:=dt h;have hu:useA x=atomsOf x.2.2:=if_pos hk
  refine ratoms_spec hx.2.2 fun a n c H1 hle1 hr1=>?_
  have hn1:=hr1.n_eq
  refine⟨Nat,fun i=>⟨[(1,.ptr 0 0),(3,.ptr 2 0),(14,.v (.slice a n c)),(15,.v (.int .i64 n)),(16,.v (.int .i64 i))],[(0,.cells 57 (vL (stmtV x))),(1,.row 53 8 ((aZ::(useA x).take i).map askV)),(2,.cells 24 [.own 1])],3⟩,
   fun i H'=>H'=H1∧i≤(atomsOf x.2.2).length,fun i=>(atomsOf x.2.2).length - i,⟨0,[(0,0),(1,1),(2,2)],?_,rfl,Nat.zero_le _⟩,?_⟩
  ·(repeat' (first|exact trivial|refine⟨?_,?_⟩|exact rfl|assumption))
  rintro i H2 _ ⟨rfl,hi⟩
  have hrl:((aZ::(useA x).take i).map askV).length≤3:=by rw[List.length_map,List.length_cons,List.length_take];omega
  refine⟨fun h=>?_,fun h=>?_⟩
  ·have hlt:i<(atomsOf x.2.2).length:=by have:=dt h;omega
   have hui:(useA x)[i]?=some (atomsOf x.2.2)[i]:=by rw[hu,List.getElem?_eq_getElem hlt]
   have e:(aZ::(useA x).take i).map askV++[askV (atomsOf x.2.2)[i]]=(aZ::(useA x).take (i+1)).map askV:=by
    rw[List.take_add_one,hui,Option.toList_some,List.map_cons,List.map_cons,List.map_append];rfl
   refine atom_k hr1 (List.getElem?_eq_getElem hlt) fun ad e1 hh _=>?_
   refine⟨ad,⟨by omega,by omega,e1⟩,?_⟩;refine⟨_,hh,?_⟩;refine⟨⟨by show (_+1)*112≤140737488355328;omega,by show _+1≤9223372036854775807;omega⟩,?_⟩;refine⟨⟨by omega,by omega⟩,i+1,[(0,0),(1,5),(2,2)],?_,⟨rfl,hlt⟩,by dsimp only;omega⟩
   (repeat' (first|exact trivial|refine⟨?_,?_⟩|exact rfl|assumption))
  ·have hil:i=(atomsOf x.2.2).length:=by have:=df h;omega
   have e:(useA x).take i=useA x:=List.take_of_length_le (by rw[hu];omega);rw[e];refine⟨fun h=>absurd (dt h) (by omega),fun _=>?_⟩;intro v H6 hle6 hv6;obtain⟨a7,n7,c7,rfl,hr7⟩:=fin H2 hle1 v H6 hle6.le hv6
   refine rvars_spec hr7 hcnt fun a1 n1 c1 H7 hle7 hr=>?_
   exact hK _ _ _ _ ((hle1.trans hle6.le).trans hle7) hr
 ·have hk:¬x.1=1:=df h;refine⟨fun h=>?_,fun h=>?_⟩
  ·have hk3:x.1=3:=dt h
   have hu:useA x=[x.2.2.2.1]:=by rw[useA,if_neg hk,if_pos hk3]
   refine⟨⟨by show (1+1)*112≤140737488355328;decide,by show 1+1≤9223372036854775807;decide⟩,?_⟩;intro v H6 hle6 hv6;obtain⟨a7,n7,c7,rfl,hr7⟩:=fin H (Le.refl H) v H6 hle6.le (by rw[hu];exact hv6)
   refine rvars_spec hr7 hcnt fun a1 n1 c1 H7 hle7 hr=>?_
   exact hK _ _ _ _ (hle6.le.trans hle7) hr
  ·have hk3:¬x.1=3:=df h
   have hu:useA x=[]:=by rw[useA,if_neg hk,if_neg hk3]
   intro v H6 hle6 hv6;obtain⟨a7,n7,c7,rfl,hr7⟩:=fin H (Le.refl H) v H6 hle6.le (by rw[hu];exact hv6)
   refine rvars_spec hr7 hcnt fun a1 n1 c1 H7 hle7 hr=>?_
   exact hK _ _ _ _ (hle6.le.trans hle7) hr
end Go.Proofs
end
