/- Part 'M28' of the proof (Q1, Q2, Q3, Q4, Q5, Q6, R1, R2, R3): lemmas, each with its own conditions in its own statement. -/
import Derived.Test.YtheokcjommfopaaGreatDoorM19
import Derived.Test.YtheokcjommfopaaGreatDoorM23
import Derived.Test.YtheokcjommfopaaGreatDoorM26
set_option maxRecDepth 20000
set_option maxHeartbeats 4000000
section
namespace Go.Proofs
open Go.Sy
open Tryz
def b9 (m x:Int):Bool:=decide (0≤x∧x<m)
def om (m x:Int) (e:cV):Bool:=decide (e.1=x)&&b9 m x&&b9 m e.2
def lF (m x:Int) (l:List cV):List Int:=(l.filter (om m x)).map (·.2)
theorem MK {m x:Int} {l:List cV} {i:Nat} (h:i<l.length):lF m x (l.take (i+1))=lF m x (l.take i)++(if om m x l[i] then [l[i].2] else []):=by
 rw[lF,lF,List.take_add_one,aL h,Option.toList_some,List.filter_append,List.map_append]
 congr 1
 by_cases hg:om m x l[i]=true
 ·rw[List.filter_cons_of_pos hg,if_pos hg];rfl
 ·rw[List.filter_cons_of_neg hg,if_neg hg];rfl
theorem vP (m x:Int) (l:List cV):(lF m x l).length≤l.length:=by rw[lF,List.length_map];exact List.length_filter_le _ _
theorem lG {m x:Int} {l:List cV} {y:Int}:y∈lF m x l↔(x,y)∈l∧b9 m x=true∧b9 m y=true:=by
 simp only[lF,List.mem_map,List.mem_filter,om,Bool.and_eq_true,decide_eq_true_eq];constructor
 ·rintro⟨⟨a,b⟩,⟨h1,⟨rfl,h2⟩,h3⟩,rfl⟩;exact⟨h1,h2,h3⟩
 ·rintro⟨h1,h2,h3⟩;exact⟨(x,y),⟨h1,⟨rfl,h2⟩,h3⟩,rfl⟩
theorem RX {m x:Int} {l:List cV} (hl:∀e∈l,oh e.1∧oh e.2):∀y∈lF m x l,oh y:=fun _ hy=>(hl _ (lG.1 hy).1).2
theorem tG {m x:Int} {l:List cV} (hl:l.length≤1000000) {a:Option Addr} {n c:Nat} {H:Hp} {K:Value→Hp→Prop} (ha:RL H a n c l)
  (hK:∀a1 n1 c1 H',Le H H'→RL H' a1 n1 c1 (aR (lF m x l))→K (.slice a1 n1 c1) H'):aq prog 180 [.int .i64 m,.slice a n c,.int .i64 x] H K:=by
 have dd:=ha.aB;refine ab af aa rfl func180 call180 ntmps180 results180 rfl rfl ?_
 refine⟨Nat,fun i=>⟨[(0,.v (.int .i64 m)),(2,.v (.int .i64 x)),(7,.own 0),(10,.v (.slice a n c)),(11,.v (.int .i64 n)),(12,.v (.int .i64 i))],[(0,.row 3 1 (au (lF m x (l.take i))))],1⟩,
  fun i H'=>H'=H∧i≤l.length,fun i=>l.length - i,⟨0,[],?_,rfl,by omega⟩,?_⟩
 ·exact⟨⟨rfl,rfl,⟨rfl,rfl,rfl⟩,rfl,rfl,rfl,trivial⟩,⟨rfl,trivial⟩⟩
 rintro i H1 _ ⟨rfl,hi⟩;refine⟨fun h=>?_,fun h=>?_⟩
 ·have aj:i<l.length:=by have:=dt h;omega
  obtain⟨ad,cs,q1,hh,r1⟩:=ha.elem (aL aj);obtain⟨rfl,bh,bj⟩:=fX r1;have bc:=MK (m:=m) (x:=x) aj;have hlen:=vP m x (l.take i);rw[List.length_take,Nat.min_eq_left (by omega)]at hlen;have gq:(au (lF m x (l.take i))).length=(lF m x (l.take i)).length:=List.length_map _;refine⟨ad,⟨by omega,by omega,q1⟩,?_⟩;refine⟨_,hh,?_⟩;refine⟨fun h=>?_,fun h=>?_⟩
  ·have h1:l[i].1=x:=dt h;refine kt ?_;refine⟨fun h=>?_,fun h=>?_⟩
   ·have h2:b9 m x=true:=h;refine kt ?_;refine⟨fun h=>?_,fun h=>?_⟩
    ·have hg:om m x l[i]=true:=by rw[om,decide_eq_true h1,h2];exact h
     refine⟨⟨by show ((au (lF m x (l.take i))).length+1)*8≤_;omega,by show (au (lF m x (l.take i))).length+1≤_;omega⟩,?_⟩
     have bL:au (lF m x (l.take i))++[[.int .i64 l[i].2]]=au (lF m x (l.take (i+1))):=by rw[bc,hg];simp
     refine⟨⟨by omega,by omega⟩,i+1,[(0,3)],?_,⟨rfl,by omega⟩,by dsimp only;omega⟩;exact⟨⟨rfl,rfl,rfl,rfl,rfl,rfl,trivial⟩,⟨bL,trivial⟩⟩
    ·have hg:om m x l[i]=false:=by rw[om,h2];simp [show b9 m l[i].2=false from h]
     have bL:au (lF m x (l.take i))=au (lF m x (l.take (i+1))):=by rw[bc,hg];simp
     refine⟨⟨by omega,by omega⟩,i+1,[(0,0)],?_,⟨rfl,by omega⟩,by dsimp only;omega⟩;exact⟨⟨rfl,rfl,rfl,rfl,rfl,rfl,trivial⟩,⟨bL,trivial⟩⟩
   ·have hg:om m x l[i]=false:=by rw[om,show b9 m x=false from h];simp
    have bL:au (lF m x (l.take i))=au (lF m x (l.take (i+1))):=by rw[bc,hg];simp
    refine⟨⟨by omega,by omega⟩,i+1,[(0,0)],?_,⟨rfl,by omega⟩,by dsimp only;omega⟩;exact⟨⟨rfl,rfl,rfl,rfl,rfl,rfl,trivial⟩,⟨bL,trivial⟩⟩
  ·have h1:¬l[i].1=x:=df h
   have hg:om m x l[i]=false:=by rw[om,decide_eq_false h1];rfl
   have bL:au (lF m x (l.take i))=au (lF m x (l.take (i+1))):=by rw[bc,hg];simp
   refine⟨⟨by omega,by omega⟩,i+1,[(0,0)],?_,⟨rfl,by omega⟩,by dsimp only;omega⟩;exact⟨⟨rfl,rfl,rfl,rfl,rfl,rfl,trivial⟩,⟨bL,trivial⟩⟩
 ·have aX:i=l.length:=by have:=df h;omega
  have hlen:=vP m x l
  have ei:au (lF m x (l.take i))=au (lF m x l):=by rw[aX,List.take_length]
  rw[aX,List.take_length];refine⟨[0],rfl,xq (by omega) fun l' th hp hg=>?_⟩;refine⟨[0],rfl,Gd (l:=l') (by omega) ?_⟩;intro y H2 hle hy;rw[hg]at hy;obtain⟨a1,n1,c1,rfl,hr⟩:=lY hy (fun e he=>RX (nw ha) e ((bJ _ e).1 he));exact hK _ _ _ _ hle hr
end Go.Proofs
end
section
namespace Go.Proofs
open Go.Sy
open Tryz
variable {H:Hp} {K:Value→Hp→Prop}
abbrev swp (e:cV):cV:=(e.2,e.1)
abbrev iZ (l:List cV):List cV:=l.map swp
theorem zD (m:List cV) (x:cV):iZ (m++[x])=iZ m++[swp x]:=List.map_append
theorem eR {l:List cV} (hl:l.length≤1000000) {a:Option Addr} {n c:Nat} (ha:RL H a n c l)
  (hK:∀a1 n1 c1 H',Le H H'→RL H' a1 n1 c1 (aR (iZ l))→K (.slice a1 n1 c1) H'):aq prog 96 [.slice a n c] H K:=by
 have dd:=ha.aB;refine ab af aa rfl func96 call96 ntmps96 results96 rfl rfl ?_
 refine⟨Nat,fun i=>⟨[(3,.own 0),(6,.v (.slice a n c)),(7,.v (.int .i64 n)),(8,.v (.int .i64 i))],[(0,.row 172 2 (ao (iZ (l.take i))))],1⟩,
  fun i H'=>H'=H∧i≤l.length,fun i=>l.length - i,⟨0,[],?_,rfl,by omega⟩,?_⟩
 ·exact⟨⟨⟨rfl,rfl,rfl⟩,rfl,rfl,rfl,trivial⟩,⟨rfl,trivial⟩⟩
 rintro i H1 _ ⟨rfl,hi⟩;refine⟨fun h=>?_,fun h=>?_⟩
 ·have aj:i<l.length:=by have:=dt h;omega
  obtain⟨ad,cs,q1,hh,r1⟩:=ha.elem (aL aj);obtain⟨rfl,bh,bj⟩:=fX r1
  have gq:(ao (iZ (l.take i))).length=i:=by rw[List.length_map,List.length_map,List.length_take];omega
  refine⟨ad,⟨by omega,by omega,q1⟩,?_⟩;refine⟨_,hh,?_⟩;refine⟨⟨by show ((ao (iZ (l.take i))).length+1)*16≤_;omega,by show (ao (iZ (l.take i))).length+1≤_;omega⟩,?_⟩
  have bL:ao (iZ (l.take i))++[[.int .i64 l[i].2,.int .i64 l[i].1]]=ao (iZ (l.take (i+1))):=by rw[List.take_add_one,aL aj,Option.toList_some,zD];exact dv (iZ (l.take i)) (swp l[i])
  refine⟨⟨by omega,by omega⟩,i+1,[(0,3)],?_,⟨rfl,by omega⟩,by dsimp only;omega⟩;exact⟨⟨rfl,rfl,rfl,rfl,trivial⟩,⟨bL,trivial⟩⟩
 ·have aX:i=l.length:=by have:=df h;omega
  intro x H2 ah hx;rw[aX,List.take_length]at hx
  obtain⟨a1,n1,c1,rfl,hr⟩:=tE hx (fun e he=>by
   obtain⟨e',JU,rfl⟩:=List.mem_map.1 he
   exact⟨(nw ha e' JU).2,(nw ha e' JU).1⟩)
  refine uE (by rw[List.length_map];omega) hr ?_;intro a3 n3 c3 H3 az db;exact hK _ _ _ _ (ah.trans az) db
theorem gK {l:List cV} (hl:l.length≤1000000) {a:Option Addr} {n c:Nat} (ha:RL H a n c l)
  (hK:∀a1 n1 c1 H',Le H H'→RL H' a1 n1 c1 (aR (iZ l))→K (.slice a1 n1 c1) H'):aq prog 292 [.slice a n c] H K:=by
 have dd:=ha.aB;refine ab af aa rfl func292 call292 ntmps292 results292 rfl rfl ?_
 refine⟨Nat,fun i=>⟨[(3,.own 0),(6,.v (.slice a n c)),(7,.v (.int .i64 n)),(8,.v (.int .i64 i))],[(0,.row 172 2 (ao (iZ (l.take i))))],1⟩,
  fun i H'=>H'=H∧i≤l.length,fun i=>l.length - i,⟨0,[],?_,rfl,by omega⟩,?_⟩
 ·exact⟨⟨⟨rfl,rfl,rfl⟩,rfl,rfl,rfl,trivial⟩,⟨rfl,trivial⟩⟩
 rintro i H1 _ ⟨rfl,hi⟩;refine⟨fun h=>?_,fun h=>?_⟩
 ·have aj:i<l.length:=by have:=dt h;omega
  obtain⟨ad,cs,q1,hh,r1⟩:=ha.elem (aL aj);obtain⟨rfl,bh,bj⟩:=fX r1
  have gq:(ao (iZ (l.take i))).length=i:=by rw[List.length_map,List.length_map,List.length_take];omega
  refine⟨ad,⟨by omega,by omega,q1⟩,?_⟩;refine⟨_,hh,?_⟩;refine⟨⟨by show ((ao (iZ (l.take i))).length+1)*16≤_;omega,by show (ao (iZ (l.take i))).length+1≤_;omega⟩,?_⟩
  have bL:ao (iZ (l.take i))++[[.int .i64 l[i].2,.int .i64 l[i].1]]=ao (iZ (l.take (i+1))):=by rw[List.take_add_one,aL aj,Option.toList_some,zD];exact dv (iZ (l.take i)) (swp l[i])
  refine⟨⟨by omega,by omega⟩,i+1,[(0,3)],?_,⟨rfl,by omega⟩,by dsimp only;omega⟩;exact⟨⟨rfl,rfl,rfl,rfl,trivial⟩,⟨bL,trivial⟩⟩
 ·have aX:i=l.length:=by have:=df h;omega
  intro x H2 ah hx;rw[aX,List.take_length]at hx
  obtain⟨a1,n1,c1,rfl,hr⟩:=tE hx (fun e he=>by
   obtain⟨e',JU,rfl⟩:=List.mem_map.1 he
   exact⟨(nw ha e' JU).2,(nw ha e' JU).1⟩)
  refine oX (by rw[List.length_map];omega) hr ?_;intro a3 n3 c3 H3 az db;exact hK _ _ _ _ (ah.trans az) db
theorem JV {m x:Int} {l:List cV} (hl:l.length≤1000000) {a:Option Addr} {n c:Nat} (ha:RL H a n c l)
  (hK:∀a1 n1 c1 H',Le H H'→RL H' a1 n1 c1 (aR (lF m x (aR (iZ l))))→K (.slice a1 n1 c1) H'):aq prog 184 [.int .i64 m,.slice a n c,.int .i64 x] H K:=by
 refine ab af aa rfl func184 call184 ntmps184 results184 rfl rfl ?_
 refine eR hl ha fun a1 n1 c1 H1 ak bh=>?_
 have hlen:=dP (iZ l);rw[List.length_map]at hlen
 refine tG (by omega) bh fun a2 n2 c2 H2 ah bj=>?_
 exact hK _ _ _ _ (ak.trans ah) bj
theorem Io {l:List Int} {x:Int} {a:Option Addr} {n c:Nat} (ha:RL H a n c l)
  (hK:K (.bool (decide (x∈l))) H):aq prog 296 [.slice a n c,.int .i64 x] H K:=by
 have dd:=ha.aB;have eI:=ha.le;refine ab af aa rfl func296 call296 ntmps296 results296 rfl rfl ?_
 refine⟨Nat,fun i=>⟨[(1,.v (.int .i64 x)),(7,.v (.slice a n c)),(8,.v (.int .i64 n)),(9,.v (.int .i64 i))],[],0⟩,
  fun i H'=>H'=H∧i≤l.length∧∀y∈l.take i,y≠x,fun i=>l.length - i,⟨0,[],?_,rfl,by omega,by simp⟩,?_⟩
 ·exact⟨⟨rfl,rfl,rfl,rfl,trivial⟩,trivial⟩
 rintro i H1 _ ⟨rfl,hi,hx⟩;refine⟨fun h=>?_,fun h=>?_⟩
 ·have aj:i<l.length:=by have:=dt h;omega
  obtain⟨ad,cs,q1,hh,r1⟩:=ha.elem (aL aj);obtain⟨rfl,-⟩:=r1;refine⟨ad,⟨by omega,by omega,q1⟩,?_⟩;refine⟨_,hh,?_⟩;refine⟨fun h=>?_,fun h=>?_⟩
  ·have he:l[i]=x:=dt h;refine aA hK ?_;exact decide_eq_true (he▸List.getElem_mem aj)
  ·have he:¬l[i]=x:=df h;refine⟨⟨by omega,by omega⟩,i+1,[],?_,⟨rfl,by omega,lX (aL aj) hx he⟩,by dsimp only;omega⟩;exact⟨⟨rfl,rfl,rfl,rfl,trivial⟩,trivial⟩
 ·have aX:i=l.length:=by have:=df h;omega
  rw[aX,List.take_length]at hx;refine aA hK ?_
  exact decide_eq_false fun h=>hx x h rfl
end Go.Proofs
end
section
namespace Go.Proofs
open Go.Sy
open Tryz
theorem Pf {x:Int} (hx:oh x):keyOf prog 3 (.int .i64 x)=some (.int .i64 x):=by
 unfold keyOf;rw[(jE 3 _ _ rfl).2];show mapKey prog 3 (.int .i64 x)=_;unfold mapKey;rw[(jE 3 _ _ rfl).2];show (if IntKind.i64=IntKind.i64∧(Lit.int .i64 x).wf=true then some (Lit.int .i64 x) else none)=_
 have hw:(Lit.int .i64 x).wf=true:=by
  have h1:=hx.1;have h2:=hx.2
  have e1:IntKind.i64.min = -9223372036854775808:=by decide
  have e2:IntKind.i64.max=9223372036854775807:=by decide
  show (decide _&&decide _)=true
  rw[e1,e2,decide_eq_true h1,decide_eq_true h2];rfl
 rw[if_pos ⟨rfl,hw⟩]
theorem RY:K4 prog 3 3:=⟨Maps.int_keyed (jE 3 _ _ rfl).2,(jE 3 _ _ rfl).2,zeroValue3⟩
open Classical in
noncomputable def qw (s:List Int):Lit→Int:=fun kl=>if ∃x∈s,kl = .int .i64 x then 1 else 0
theorem si (s:List Int) (x:Int):qw s (.int .i64 x)=if x∈s then 1 else 0:=by
 unfold qw
 by_cases h:x∈s
 ·rw[if_pos ⟨x,h,rfl⟩,if_pos h]
 ·rw[if_neg (fun⟨y,hy,e⟩=>h (by cases e;exact hy)),if_neg h]
theorem JW:(fun _=>0)=qw []:=by
 funext kl;unfold qw;rw[if_neg (fun⟨_,h,_⟩=>by cases h)]
theorem xt (s:List Int) (x:Int):Fi (qw s) (.int .i64 x) 1=qw (s++[x]):=by
 funext kl;unfold Fi qw
 by_cases h:kl = .int .i64 x
 ·rw[if_pos h,if_pos ⟨x,by simp,h⟩]
 ·rw[if_neg h]
  by_cases h2:∃y∈s,kl = .int .i64 y
  ·obtain⟨y,hy,e⟩:=h2;rw[if_pos ⟨y,hy,e⟩,if_pos ⟨y,List.mem_append_left _ hy,e⟩]
  ·rw[if_neg h2,if_neg];rintro⟨y,hy,e⟩
   rcases List.mem_append.1 hy with hy | hy
   ·exact h2 ⟨y,hy,e⟩
   ·rw[List.mem_singleton]at hy;subst hy;exact h e
def oo (m:Int) (l:List Int) (q:List Int×List Int):List Int×List Int :=
 l.foldl (fun q x=>if b9 m x=true∧x ∉ q.1 then (q.1++[x],q.2++[x]) else q) q
theorem DC {m:Int} {l:List Int} {q:List Int×List Int} {i:Nat} (h:i<l.length):oo m (l.take (i+1)) q=if b9 m l[i]=true∧l[i] ∉ (oo m (l.take i) q).1 then ((oo m (l.take i) q).1++[l[i]],(oo m (l.take i) q).2++[l[i]]) else oo m (l.take i) q:=eC _ q (aL h)
theorem Bj (m:Int):∀(l:List Int) (q:List Int×List Int),(oo m l q).2.length≤q.2.length+l.length∧(oo m l q).1.length≤q.1.length+l.length
 | [],q=>⟨Nat.le_refl _,Nat.le_refl _⟩
 | x::r,q=>by
  rw[oo,List.foldl_cons];have:=Bj m r (if b9 m x=true∧x ∉ q.1 then (q.1++[x],q.2++[x]) else q);rw[oo]at this
  split at this<;>rename_i hc
  ·rw[if_pos hc];simp only[List.length_append,List.length_cons,List.length_nil]at this ⊢;omega
  ·rw[if_neg hc];simp only[List.length_cons];omega
noncomputable abbrev iN (s:List Int):Obj→Prop:=wb prog 3 3 s.length (qw s)
noncomputable abbrev oq (s:List Int):Bx:=.obj (iN s)
theorem Gh {m:Int} {l seen todo:List Int} {a:Option Addr} {n c:Nat} {H:Hp} {K:SV→St→Hp→Prop} (ha:RL H a n c l) (hb:todo.length+l.length≤1000000000∧seen.length+l.length≤1000000000) (ht:todo=[])
  (hK:K (.eo []) ⟨[],[(0,.cells 3 [.v (.int .i64 m)]),(1,.cells 212 [.mp 3]),(2,.cells 102 [.own 4]),(3,oq (oo m l (seen,todo)).1),(4,.row 3 1 (au (oo m l (seen,todo)).2))],5⟩ H):aY prog 178 [.v (.slice a n c),.ptr 0 0,.ptr 1 0,.ptr 2 0] ([(0,.cells 3 [.v (.int .i64 m)]),(1,.cells 212 [.mp 3]),(2,.cells 102 [.v (.slice none 0 0)]),(3,oq seen)]) 4 H K:=by
 have dd:=ha.aB;have eI:=ha.le;refine aJ af aa func178 call178 ntmps178 results178 rfl rfl ?_
 obtain⟨q,hq⟩:∃q:Nat→List Int×List Int,∀i,q i=oo m (l.take i) (seen,todo):=⟨_,fun _=>rfl⟩
 have KT:q 0=(seen,todo):=hq 0
 refine⟨Nat,fun i=>⟨[(1,.ptr 0 0),(2,.ptr 1 0),(3,.ptr 2 0),(7,.v (.slice a n c)),(8,.v (.int .i64 n)),(9,.v (.int .i64 i))],[(0,.cells 3 [.v (.int .i64 m)]),(1,.cells 212 [.mp 3]),(2,.cells 102 [.own 4]),(3,oq (q i).1),(4,.row 3 1 (au (q i).2))],5⟩,
  fun i H'=>H'=H∧i≤l.length,fun i=>l.length - i,⟨0,[(0,0),(1,1),(2,2),(3,3)],?_,rfl,by omega⟩,?_⟩
 ·have e3:iN seen=iN (q 0).1:=by rw[KT]
  have e4:au (q 0).2=[]:=by rw[KT,ht];rfl
  exact⟨⟨⟨rfl,rfl⟩,⟨rfl,rfl⟩,⟨rfl,rfl⟩,rfl,rfl,rfl,trivial⟩,⟨⟨rfl,trivial⟩,⟨rfl,trivial⟩,⟨⟨rfl,rfl,e4⟩,trivial⟩,e3,e4,trivial⟩⟩
 rintro i H1 _ ⟨rfl,hi⟩;refine⟨fun h=>?_,fun h=>?_⟩
 ·have aj:i<l.length:=by have:=dt h;omega
  obtain⟨ad,cs,q1,hh,r1⟩:=ha.elem (aL aj);obtain⟨rfl,r2⟩:=r1;have bc:=DC (m:=m) (q:=(seen,todo)) aj;rw[←hq,←hq]at bc;have hlen:=Bj m (l.take i) (seen,todo);rw[←hq,List.length_take,Nat.min_eq_left (by omega)]at hlen;simp only at hlen;refine⟨ad,⟨by omega,by omega,q1⟩,?_⟩;refine⟨_,hh,?_⟩;refine kt ?_;refine⟨fun h=>?_,fun h=>?_⟩
  ·have h1:b9 m l[i]=true:=h;refine⟨_,_,_,rfl,Pf r2,?_⟩;refine⟨fun h=>?_,fun h=>?_⟩
   ·have hs:=si (q i).1 l[i]
    have h2:l[i] ∉ (q i).1:=fun hm=>by rw[if_pos hm]at hs;have:=dt h;omega
    rw[if_pos ⟨h1,h2⟩]at bc;have gq:(au (q i).2).length=(q i).2.length:=List.length_map _;refine⟨_,_,_,rfl,Pf r2,⟨by omega,by decide,by decide⟩,?_⟩;refine⟨⟨by show ((au (q i).2).length+1)*8≤_;omega,by show (au (q i).2).length+1≤_;omega⟩,?_⟩
    have e3:wb prog 3 3 ((q i).1.length+1) (Fi (qw (q i).1) (.int .i64 l[i]) 1)=iN (q (i+1)).1:=by rw[bc,xt];simp only[iN,List.length_append,List.length_cons,List.length_nil,Nat.zero_add]
    have e4:au (q i).2++[[.int .i64 l[i]]]=au (q (i+1)).2:=by rw[bc];simp
    refine⟨⟨by omega,by omega⟩,i+1,[(0,0),(1,1),(2,2),(3,3),(4,6)],?_,⟨rfl,by omega⟩,by dsimp only;omega⟩;exact⟨⟨⟨rfl,rfl⟩,⟨rfl,rfl⟩,⟨rfl,rfl⟩,rfl,rfl,rfl,trivial⟩,⟨⟨rfl,trivial⟩,⟨rfl,trivial⟩,⟨rfl,trivial⟩,e3,e4,trivial⟩⟩
   ·have hs:=si (q i).1 l[i]
    have hc:¬(b9 m l[i]=true∧l[i] ∉ (q i).1):=fun h2=>by rw[if_neg h2.2]at hs;exact (df h) hs
    rw[if_neg hc]at bc
    have e3:iN (q i).1=iN (q (i+1)).1:=by rw[bc]
    have e4:au (q i).2=au (q (i+1)).2:=by rw[bc]
    refine⟨⟨by omega,by omega⟩,i+1,[(0,0),(1,1),(2,2),(3,3),(4,4)],?_,⟨rfl,by omega⟩,by dsimp only;omega⟩;exact⟨⟨⟨rfl,rfl⟩,⟨rfl,rfl⟩,⟨rfl,rfl⟩,rfl,rfl,rfl,trivial⟩,⟨⟨rfl,trivial⟩,⟨rfl,trivial⟩,⟨rfl,trivial⟩,e3,e4,trivial⟩⟩
  ·have hc:¬(b9 m l[i]=true∧l[i] ∉ (q i).1):=fun h2=>by have:=h2.1;rw[show b9 m l[i]=false from h]at this;cases this
   rw[if_neg hc]at bc
   have e3:iN (q i).1=iN (q (i+1)).1:=by rw[bc]
   have e4:au (q i).2=au (q (i+1)).2:=by rw[bc]
   refine⟨⟨by omega,by omega⟩,i+1,[(0,0),(1,1),(2,2),(3,3),(4,4)],?_,⟨rfl,by omega⟩,by dsimp only;omega⟩;exact⟨⟨⟨rfl,rfl⟩,⟨rfl,rfl⟩,⟨rfl,rfl⟩,rfl,rfl,rfl,trivial⟩,⟨⟨rfl,trivial⟩,⟨rfl,trivial⟩,⟨rfl,trivial⟩,e3,e4,trivial⟩⟩
 ·have aX:i=l.length:=by have:=df h;omega
  rw[←List.take_length (l:=l),←aX,←hq]at hK;exact⟨.eo [],[(0,.cells 3 [.v (.int .i64 m)]),(1,.cells 212 [.mp 3]),(2,.cells 102 [.own 4]),(3,oq (q i).1),(4,.row 3 1 (au (q i).2))],5,[(0,0),(1,1),(2,2),(3,3),(4,4)],⟨⟨⟨rfl,rfl⟩,trivial⟩,⟨⟨rfl,trivial⟩,⟨rfl,trivial⟩,⟨rfl,trivial⟩,rfl,rfl,trivial⟩⟩,hK⟩
theorem Gi {m:Int} {l seen todo:List Int} {a:Option Addr} {n c:Nat} {H:Hp} {K:SV→St→Hp→Prop} (ha:RL H a n c l) (hb:todo.length+l.length≤1000000000∧seen.length+l.length≤1000000000)
  (hK:K (.eo []) ⟨[],[(0,.cells 3 [.v (.int .i64 m)]),(1,.cells 212 [.mp 3]),(2,.cells 102 [.own 5]),(3,oq (oo m l (seen,todo)).1),(4,.dead),(5,.row 3 1 (au (oo m l (seen,todo)).2))],6⟩ H):aY prog 178 [.v (.slice a n c),.ptr 0 0,.ptr 1 0,.ptr 2 0] ([(0,.cells 3 [.v (.int .i64 m)]),(1,.cells 212 [.mp 3]),(2,.cells 102 [.own 4]),(3,oq seen)]++[(4,.row 3 1 (au todo))]) 5 H K:=by
 have dd:=ha.aB;have eI:=ha.le;refine aJ af aa func178 call178 ntmps178 results178 rfl rfl ?_
 obtain⟨q,hq⟩:∃q:Nat→List Int×List Int,∀i,q i=oo m (l.take i) (seen,todo):=⟨_,fun _=>rfl⟩
 have KT:q 0=(seen,todo):=hq 0
 refine⟨Nat,fun i=>⟨[(1,.ptr 0 0),(2,.ptr 1 0),(3,.ptr 2 0),(7,.v (.slice a n c)),(8,.v (.int .i64 n)),(9,.v (.int .i64 i))],[(0,.cells 3 [.v (.int .i64 m)]),(1,.cells 212 [.mp 3]),(2,.cells 102 [.own 5]),(3,oq (q i).1),(4,.dead),(5,.row 3 1 (au (q i).2))],6⟩,
  fun i H'=>H'=H∧i≤l.length,fun i=>l.length - i,⟨0,[(0,0),(1,1),(2,2),(3,3),(5,4)],?_,rfl,by omega⟩,?_⟩
 ·have e3:iN seen=iN (q 0).1:=by rw[KT]
  have e4:au todo=au (q 0).2:=by rw[KT]
  exact⟨⟨⟨rfl,rfl⟩,⟨rfl,rfl⟩,⟨rfl,rfl⟩,rfl,rfl,rfl,trivial⟩,⟨⟨rfl,trivial⟩,⟨rfl,trivial⟩,⟨rfl,trivial⟩,e3,trivial,e4,trivial⟩⟩
 rintro i H1 _ ⟨rfl,hi⟩;refine⟨fun h=>?_,fun h=>?_⟩
 ·have aj:i<l.length:=by have:=dt h;omega
  obtain⟨ad,cs,q1,hh,r1⟩:=ha.elem (aL aj);obtain⟨rfl,r2⟩:=r1;have bc:=DC (m:=m) (q:=(seen,todo)) aj;rw[←hq,←hq]at bc;have hlen:=Bj m (l.take i) (seen,todo);rw[←hq,List.length_take,Nat.min_eq_left (by omega)]at hlen;simp only at hlen;refine⟨ad,⟨by omega,by omega,q1⟩,?_⟩;refine⟨_,hh,?_⟩;refine kt ?_;refine⟨fun h=>?_,fun h=>?_⟩
  ·have h1:b9 m l[i]=true:=h;refine⟨_,_,_,rfl,Pf r2,?_⟩;refine⟨fun h=>?_,fun h=>?_⟩
   ·have hs:=si (q i).1 l[i]
    have h2:l[i] ∉ (q i).1:=fun hm=>by rw[if_pos hm]at hs;have:=dt h;omega
    rw[if_pos ⟨h1,h2⟩]at bc;have gq:(au (q i).2).length=(q i).2.length:=List.length_map _;refine⟨_,_,_,rfl,Pf r2,⟨by omega,by decide,by decide⟩,?_⟩;refine⟨⟨by show ((au (q i).2).length+1)*8≤_;omega,by show (au (q i).2).length+1≤_;omega⟩,?_⟩
    have e3:wb prog 3 3 ((q i).1.length+1) (Fi (qw (q i).1) (.int .i64 l[i]) 1)=iN (q (i+1)).1:=by rw[bc,xt];simp only[iN,List.length_append,List.length_cons,List.length_nil,Nat.zero_add]
    have e4:au (q i).2++[[.int .i64 l[i]]]=au (q (i+1)).2:=by rw[bc];simp
    refine⟨⟨by omega,by omega⟩,i+1,[(0,0),(1,1),(2,2),(3,3),(5,7)],?_,⟨rfl,by omega⟩,by dsimp only;omega⟩;exact⟨⟨⟨rfl,rfl⟩,⟨rfl,rfl⟩,⟨rfl,rfl⟩,rfl,rfl,rfl,trivial⟩,⟨⟨rfl,trivial⟩,⟨rfl,trivial⟩,⟨rfl,trivial⟩,e3,trivial,e4,trivial⟩⟩
   ·have hs:=si (q i).1 l[i]
    have hc:¬(b9 m l[i]=true∧l[i] ∉ (q i).1):=fun h2=>by rw[if_neg h2.2]at hs;exact (df h) hs
    rw[if_neg hc]at bc
    have e3:iN (q i).1=iN (q (i+1)).1:=by rw[bc]
    have e4:au (q i).2=au (q (i+1)).2:=by rw[bc]
    refine⟨⟨by omega,by omega⟩,i+1,[(0,0),(1,1),(2,2),(3,3),(5,5)],?_,⟨rfl,by omega⟩,by dsimp only;omega⟩;exact⟨⟨⟨rfl,rfl⟩,⟨rfl,rfl⟩,⟨rfl,rfl⟩,rfl,rfl,rfl,trivial⟩,⟨⟨rfl,trivial⟩,⟨rfl,trivial⟩,⟨rfl,trivial⟩,e3,trivial,e4,trivial⟩⟩
  ·have hc:¬(b9 m l[i]=true∧l[i] ∉ (q i).1):=fun h2=>by have:=h2.1;rw[show b9 m l[i]=false from h]at this;cases this
   rw[if_neg hc]at bc
   have e3:iN (q i).1=iN (q (i+1)).1:=by rw[bc]
   have e4:au (q i).2=au (q (i+1)).2:=by rw[bc]
   refine⟨⟨by omega,by omega⟩,i+1,[(0,0),(1,1),(2,2),(3,3),(5,5)],?_,⟨rfl,by omega⟩,by dsimp only;omega⟩;exact⟨⟨⟨rfl,rfl⟩,⟨rfl,rfl⟩,⟨rfl,rfl⟩,rfl,rfl,rfl,trivial⟩,⟨⟨rfl,trivial⟩,⟨rfl,trivial⟩,⟨rfl,trivial⟩,e3,trivial,e4,trivial⟩⟩
 ·have aX:i=l.length:=by have:=df h;omega
  rw[←List.take_length (l:=l),←aX,←hq]at hK;exact⟨.eo [],[(0,.cells 3 [.v (.int .i64 m)]),(1,.cells 212 [.mp 3]),(2,.cells 102 [.own 5]),(3,oq (q i).1),(4,.dead),(5,.row 3 1 (au (q i).2))],6,[(0,0),(1,1),(2,2),(3,3),(5,5)],⟨⟨⟨rfl,rfl⟩,trivial⟩,⟨⟨rfl,trivial⟩,⟨rfl,trivial⟩,⟨rfl,trivial⟩,rfl,trivial,rfl,trivial⟩⟩,hK⟩
end Go.Proofs
end
section
namespace Go.Proofs
open Go.Sy
structure cy (m:Int) (l:List cV) (f R:List Int):Prop where
 sj:∀x∈f,b9 m x=true→x∈R
 closed:∀x∈R,∀y∈lF m x l,y∈R
 least:∀S:Int→Prop,(∀x∈f,b9 m x=true→S x)→(∀x,S x→∀y∈lF m x l,S y)→∀x∈R,S x
theorem cy.mem {m:Int} {l:List cV} {f R R':List Int} (h:cy m l f R) (h':cy m l f R') (x:Int):x∈R↔x∈R' :=
 ⟨h.least (·∈R') h'.sj h'.closed x,h'.least (·∈R) h.sj h.closed x⟩
theorem cy.node {m:Int} {l:List cV} {f R:List Int} (h:cy m l f R):∀x∈R,b9 m x=true :=
 h.least (fun x=>b9 m x=true) (fun _ _ h=>h) (fun _ _ _ hy=>(lG.1 hy).2.2)
theorem cy.again {m:Int} {l:List cV} {f R R':List Int} (h:cy m l f R) (h':cy m l R R') (x:Int):x∈R'↔x∈R :=
 ⟨h'.least (·∈R) (fun _ hx _=>hx) h.closed x,fun hx=>h'.sj x hx (h.node x hx)⟩
theorem vQ {m:Int}:∀(l:List Int) {s t o:List Int},s.Nodup→(∀x∈s,b9 m x=true)→(o++t).Perm s →
  (oo m l (s,t)).1.Nodup∧(∀x∈(oo m l (s,t)).1,b9 m x=true)∧(o++(oo m l (s,t)).2).Perm (oo m l (s,t)).1∧∀x,x∈(oo m l (s,t)).1↔x∈s∨(x∈l∧b9 m x=true)
 | [],s,t,o,h1,h2,h3=>⟨h1,h2,h3,fun x=>by simp [oo]⟩
 | y::r,s,t,o,h1,h2,h3=>by
  rw[oo,List.foldl_cons]
  by_cases hc:b9 m y=true∧y ∉ s
  ·rw[if_pos hc]
   have ih:=vQ (m:=m) r (s:=s++[y]) (t:=t++[y]) (o:=o) (by
     rw[List.nodup_append];refine⟨h1,by simp,fun a ha b hb=>?_⟩;rw[List.mem_singleton]at hb;subst hb
     exact fun e=>hc.2 (e▸ha)) (fun x hx=>by
     rcases List.mem_append.1 hx with hx | hx
     ·exact h2 x hx
     ·rw[List.mem_singleton]at hx;subst hx;exact hc.1) (by rw[←List.append_assoc];exact h3.append (List.Perm.refl _))
   refine⟨ih.1,ih.2.1,ih.2.2.1,fun x=>?_⟩;have:=ih.2.2.2 x;rw[oo]at this;rw[this,List.mem_append,List.mem_singleton,List.mem_cons];constructor
   ·rintro ((h | h) | h)
    ·exact .inl h
    ·exact .inr ⟨.inl h,h▸hc.1⟩
    ·exact .inr ⟨.inr h.1,h.2⟩
   ·rintro (h | ⟨h | h,h'⟩)
    ·exact .inl (.inl h)
    ·exact .inl (.inr h)
    ·exact .inr ⟨h,h'⟩
  ·rw[if_neg hc];have ih:=vQ (m:=m) r h1 h2 h3;refine⟨ih.1,ih.2.1,ih.2.2.1,fun x=>?_⟩;have:=ih.2.2.2 x;rw[oo]at this;rw[this,List.mem_cons];constructor
   ·rintro (h | h)
    ·exact .inl h
    ·exact .inr ⟨.inr h.1,h.2⟩
   ·rintro (h | ⟨h | h,h'⟩)
    ·exact .inl h
    ·subst h
     by_cases hs:x∈s
     ·exact .inl hs
     ·exact absurd ⟨h',hs⟩ hc
    ·exact .inr ⟨h,h'⟩
structure JX (m:Int) (l:List cV) (f s t o:List Int):Prop where
 nd:s.Nodup
 node:∀x∈s,b9 m x=true
 perm:(o++t).Perm s
 sj:∀x∈f,b9 m x=true→x∈s
 done:∀x∈o,∀y∈lF m x l,y∈s
 least:∀S:Int→Prop,(∀x∈f,b9 m x=true→S x)→(∀x,S x→∀y∈lF m x l,S y)→∀x∈s,S x
theorem JY (m:Int) (l:List cV) (f:List Int):JX m l f (oo m f ([],[])).1 (oo m f ([],[])).2 []:=by
 have h:=vQ (m:=m) f (s:=[]) (t:=[]) (o:=[]) List.nodup_nil (by simp) (List.Perm.refl _);refine⟨h.1,h.2.1,h.2.2.1,fun x hx hn=>(h.2.2.2 x).2 (.inr ⟨hx,hn⟩),by simp,fun S h1 _ x hx=>?_⟩
 rcases (h.2.2.2 x).1 hx with h' | h'
 ·cases h'
 ·exact h1 x h'.1 h'.2
theorem zF {m:Int} {l:List cV} {f s t o:List Int} {x:Int} (h:JX m l f s (t++[x]) o) {g:List Int} (hg:∀y,y∈g↔y∈lF m x l):
  JX m l f (oo m g (s,t)).1 (oo m g (s,t)).2 (o++[x]):=by
 have hp:((o++[x])++t).Perm s:=by
  refine List.Perm.trans ?_ h.perm;rw[List.append_assoc];exact List.Perm.append_left o (List.perm_append_comm)
 have k:=vQ (m:=m) g h.nd h.node hp;have hx:x∈s:=h.perm.mem_iff.1 (by simp);refine⟨k.1,k.2.1,k.2.2.1,fun y hy hn=>(k.2.2.2 y).2 (.inl (h.sj y hy hn)),fun y hy z hz=>?_,fun S h1 h2 y hy=>?_⟩
 ·rcases List.mem_append.1 hy with hy | hy
  ·exact (k.2.2.2 z).2 (.inl (h.done y hy z hz))
  ·rw[List.mem_singleton]at hy;subst hy;exact (k.2.2.2 z).2 (.inr ⟨(hg z).2 hz,(lG.1 hz).2.2⟩)
 ·rcases (k.2.2.2 y).1 hy with h' | h'
  ·exact h.least S h1 h2 y h'
  ·exact h2 x (h.least S h1 h2 x hx) y ((hg y).1 h'.1)
theorem DD {m:Int} {l:List cV} {f s o:List Int} (h:JX m l f s [] o):cy m l f o∧o.Nodup:=by
 have hp:o.Perm s:=by have:=h.perm;rw[List.append_nil]at this;exact this
 exact⟨⟨fun x hx hn=>hp.mem_iff.2 (h.sj x hx hn),fun x hx y hy=>hp.mem_iff.2 (h.done x hx y hy),fun S h1 h2 x hx=>h.least S h1 h2 x (hp.mem_iff.1 hx)⟩,hp.nodup_iff.2 h.nd⟩
theorem Bk:∀(n:Nat) (s:List Nat),s.Nodup→(∀x∈s,x<n)→s.length≤n
 | 0,s,_,h=>by
  match s,h with
  | [],_=>exact Nat.le_refl _
  | x::r,h=>exact absurd (h x List.mem_cons_self) (Nat.not_lt_zero x)
 | n+1,s,hn,h=>by
  by_cases hm:n∈s
  ·have h2:=Bk n (s.erase n) (hn.erase n) (fun x hx=>by
    have h3:=(hn.mem_erase_iff).1 hx;have:=h x h3.2;have:=h3.1
    omega)
   rw[List.length_erase_of_mem hm]at h2;omega
  ·have:=Bk n s hn (fun x hx=>by
    have:=h x hx
    have:x≠n:=fun e=>hm (e▸hx)
    omega)
   omega
theorem tH {m:Int} {s:List Int} (h1:s.Nodup) (h2:∀x∈s,b9 m x=true):s.length≤m.toNat:=by
 have h3:(s.map Int.toNat).Nodup:=by
  rw[List.nodup_iff_pairwise_ne,List.pairwise_map]
  refine (List.Pairwise.and_mem.1 h1).imp fun {a b} ⟨ha,hb,Y6⟩ e=>Y6 ?_
  have:=dt (h2 a ha);have:=dt (h2 b hb);omega
 have:=Bk m.toNat _ h3 (fun x hx=>by
  obtain⟨y,hy,rfl⟩:=List.mem_map.1 hx;have:=dt (h2 y hy)
  omega)
 rwa[List.length_map]at this
theorem uG {α:Type} [LO α]:∀ {l:List α},l.Nodup→bm l=l
 | [],_=>rfl
 | [_],_=>rfl
 | x::y::s,h=>by
  have h1:=List.nodup_cons.1 h;rw[bm,if_neg (fun e=>h1.1 (by rw[e];exact List.mem_cons_self)),uG h1.2]
end Go.Proofs
end
section
namespace Go.Proofs
open Go.Sy
open Tryz
theorem JZ:iN []=wb prog 3 3 0 fun _=>0:=by rw[iN,JW];rfl
theorem DE {m:Int} {l:List Int} {a:Option Addr} {n c:Nat} {H:Hp} {K:SV→St→Hp→Prop} (ha:RL H a n c l) (hb:l.length≤1000000)
  (hK:K (.eo []) ⟨[],[(0,.cells 3 [.v (.int .i64 m)]),(1,.cells 212 [.mp 3]),(2,.cells 102 [.own 4]),(3,oq (oo m l ([],[])).1),(4,.row 3 1 (au (oo m l ([],[])).2))],5⟩ H):
  aY prog 178 [.v (.slice a n c),.ptr 0 0,.ptr 1 0,.ptr 2 0] [(0,.cells 3 [.v (.int .i64 m)]),(1,.cells 212 [.mp 3]),(2,.cells 102 [.v (.slice none 0 0)]),(3,.obj (wb prog 3 3 0 fun _=>0))] 4 H K:=by
 rw[←JZ];exact Gh ha (by simp only[List.length_nil];omega) rfl hK
theorem uH {m:Int} {l seen todo:List Int} {rt:List (List Value)} {a:Option Addr} {n c:Nat} {H:Hp} {K:SV→St→Hp→Prop} (ha:RL H a n c l) (Qu:rt=au todo) (hb:todo.length+l.length≤1000000000∧seen.length+l.length≤1000000000)
  (hK:K (.eo []) ⟨[],[(0,.cells 3 [.v (.int .i64 m)]),(1,.cells 212 [.mp 3]),(2,.cells 102 [.own 5]),(3,oq (oo m l (seen,todo)).1),(4,.dead),(5,.row 3 1 (au (oo m l (seen,todo)).2))],6⟩ H):
  aY prog 178 [.v (.slice a n c),.ptr 0 0,.ptr 1 0,.ptr 2 0] [(0,.cells 3 [.v (.int .i64 m)]),(1,.cells 212 [.mp 3]),(2,.cells 102 [.own 4]),(3,oq seen),(4,.row 3 1 rt)] 5 H K:=by
 rw[Qu];exact Gi ha hb hK
theorem Gj {H:Hp} {K:SV→St→Hp→Prop} (hK:K (.eo []) ⟨[],[],0⟩ H):aY prog 181 [.v (.slice none 0 0)] [] 0 H K :=
 ⟨call181,fun w ρ hm _=>(Any.slices_Sort_int_none AF none 0 w).mono fun _ _ ⟨e1,e2⟩=>⟨.eo [],⟨[],[],0⟩,H,ρ,e1,hK,rfl,by rw[e2];exact hm⟩⟩
theorem sk {m:Int} (hm:m≤1000) {l:List cV} (hl:l.length≤100000) {f:List Int} (hf:f.length≤100000) {a a3:Option Addr} {n c n3 c3:Nat} {H:Hp} {K:Value→Hp→Prop} (ha:RL H a n c l) (hb:RL H a3 n3 c3 f)
  (hK:∀a1 n1 c1 R H',Le H H'→RL H' a1 n1 c1 R→bD R→cy m l f R→K (.slice a1 n1 c1) H'):aq prog 118 [.int .i64 m,.slice a n c,.slice a3 n3 c3] H K:=by
 refine ab af aa rfl func118 call118 ntmps118 results118 rfl rfl ?_
 refine .inr ⟨List Int×List Int×List Int,fun _=>0,fun q=>⟨[(1,.v (.slice a n c)),(3,.ptr 0 0),(7,.own 5),(8,.ptr 1 0),(10,.fn 178 [.ptr 0 0,.ptr 3 0,.ptr 1 0])],
   [(0,.cells 3 [.v (.int .i64 m)]),(1,.cells 102 [.own 4]),(2,oq q.1),(3,.cells 212 [.mp 2]),(4,.row 3 1 (au q.2.1)),(5,.row 3 1 (au q.2.2))],6⟩,
  fun q H'=>Le H H'∧JX m l f q.1 q.2.1 q.2.2,fun q=>m.toNat - q.2.2.length,?_,?_⟩
 ·refine⟨RY,?_⟩;refine⟨[0,3,1,2],rfl,DE hb (by omega) ?_⟩
  obtain⟨s,hs⟩:∃s,s=(oo m f ([],[])).1:=⟨_,rfl⟩
  obtain⟨t,Y7⟩:∃t,t=(oo m f ([],[])).2:=⟨_,rfl⟩
  have hI:=JY m l f;rw[←hs,←Y7]at hI ⊢;have gq:(au t).length=t.length:=List.length_map _
  have hM:s.length≤1000:=by have:=tH hI.nd hI.node;omega
  have NX:=hI.perm.length_eq;rw[List.nil_append]at NX;refine⟨fun h=>?_,fun h=>?_⟩
  ·have ns:0<t.length:=by have:=dt h;omega
   obtain⟨t',x,Uh⟩:∃t' x,t=t'++[x]:=⟨t.dropLast,t.getLast (by intro e;rw[e]at ns;cases ns),(List.dropLast_concat_getLast _).symm⟩
   have Ui:(((au t).length:Int) - 1).toNat=t'.length:=by rw[gq,Uh,List.length_append,List.length_singleton];omega
   have Wp:(au t)[(((au t).length:Int) - 1).toNat]?=some [.int .i64 x]:=by rw[Ui,Uh];simp
   refine⟨⟨by omega,by omega⟩,?_⟩;refine⟨⟨by omega,by omega⟩,?_⟩;refine⟨_,Wp,?_⟩;refine⟨⟨by omega,by omega⟩,?_⟩;refine .inl ⟨⟨by omega,by omega⟩,?_⟩;refine⟨⟨by show 1*8≤_;omega,by show 1≤_;omega⟩,?_⟩
   refine tG (by omega) ha fun a5 n5 c5 H2 ah ct=>?_
   have Y8:=dP (lF m x l);have Y9:=vP m x l
   have Qu:(au t).take (((au t).length:Int) - 1).toNat=au t':=by rw[Ui,Uh];simp
   refine⟨[0,3,1,2,5],rfl,uH (m:=m) (seen:=s) (todo:=t') ct Qu ⟨by rw[Uh]at NX;rw[List.length_append]at NX;omega,by omega⟩ ?_⟩;rw[Uh]at hI;have dL:=zF hI (g:=aR (lF m x l)) (fun y=>bJ _ y);refine⟨((oo m (aR (lF m x l)) (s,t')).1,(oo m (aR (lF m x l)) (s,t')).2,[x]),[(0,0),(1,1),(2,2),(3,3),(4,8),(5,7)],rfl,?_,⟨ah,dL⟩⟩;exact⟨⟨rfl,⟨rfl,rfl⟩,rfl,⟨rfl,rfl⟩,⟨rfl,rfl⟩,trivial⟩,⟨⟨rfl,trivial⟩,⟨rfl,trivial⟩,rfl,⟨rfl,trivial⟩,rfl,rfl,trivial⟩⟩
  ·have ht:t=[]:=List.eq_nil_of_length_eq_zero (by have:=df h;omega);rw[ht]at hI;obtain⟨hR,wE⟩:=DD hI;refine⟨[],rfl,Gj ?_⟩;exact hK _ _ _ [] _ (Le.refl H) ⟨rfl,Nat.le_refl _,by omega,.inl rfl⟩ List.Pairwise.nil hR
 ·rintro⟨s,t,o⟩ H1 _ ⟨hle,hI⟩;have hI:JX m l f s t o:=hI;have hle:Le H H1:=hle;have gq:(au t).length=t.length:=List.length_map _
  have hM:s.length≤1000:=by have:=tH hI.nd hI.node;omega
  have NX:=hI.perm.length_eq;rw[List.length_append]at NX;refine⟨fun h=>?_,fun h=>?_⟩
  ·have ns:0<t.length:=by have:=dt h;simp only at this;omega
   obtain⟨t',x,rfl⟩:∃t' x,t=t'++[x]:=⟨t.dropLast,t.getLast (by intro e;rw[e]at ns;cases ns),(List.dropLast_concat_getLast _).symm⟩
   have Ui:(((au (t'++[x])).length:Int) - 1).toNat=t'.length:=by rw[gq,List.length_append,List.length_singleton];omega
   have Wp:(au (t'++[x]))[(((au (t'++[x])).length:Int) - 1).toNat]?=some [.int .i64 x]:=by rw[Ui];simp
   have Za:(au (t'++[x])).length=t'.length+1:=by rw[gq,List.length_append];rfl
   have Zb:o.length+(t'.length+1)=s.length:=by rw[List.length_append]at NX;exact NX
   refine⟨⟨by show _≤((au (t'++[x])).length:Int) - 1;omega,by show ((au (t'++[x])).length:Int) - 1≤_;omega⟩,?_⟩;refine⟨⟨by show 0≤((au (t'++[x])).length:Int) - 1;omega,by show ((au (t'++[x])).length:Int) - 1<((au (t'++[x])).length:Int);omega⟩,?_⟩;refine⟨_,Wp,?_⟩;refine⟨⟨by show _≤((au (t'++[x])).length:Int) - 1;omega,by show ((au (t'++[x])).length:Int) - 1≤_;omega⟩,?_⟩;refine .inl ⟨⟨by show 0≤((au (t'++[x])).length:Int) - 1;omega,by show ((au (t'++[x])).length:Int) - 1≤((au (t'++[x])).length:Int);omega⟩,?_⟩;have Wn:(au o).length=o.length:=List.length_map _;refine⟨⟨by show ((au o).length+1)*8≤_;omega,by show (au o).length+1≤_;omega⟩,?_⟩
   refine tG (by omega) (ha.up hle) fun a5 n5 c5 H2 ah ct=>?_
   have Y8:=dP (lF m x l);have Y9:=vP m x l
   have Qu:(au (t'++[x])).take (((au (t'++[x])).length:Int) - 1).toNat=au t':=by rw[Ui];simp
   refine⟨[0,3,1,2,6],rfl,uH (m:=m) (seen:=s) (todo:=t') ct Qu ⟨by omega,by omega⟩ ?_⟩
   have bL:au o++[[.int .i64 x]]=au (o++[x]):=by simp
   have dL:=zF hI (g:=aR (lF m x l)) (fun y=>bJ _ y);refine⟨((oo m (aR (lF m x l)) (s,t')).1,(oo m (aR (lF m x l)) (s,t')).2,o++[x]),[(0,0),(1,1),(2,2),(3,3),(4,9),(5,8)],rfl,?_,⟨hle.trans ah,dL⟩,?_⟩
   ·exact⟨⟨rfl,⟨rfl,rfl⟩,rfl,⟨rfl,rfl⟩,⟨rfl,rfl⟩,trivial⟩,⟨⟨rfl,trivial⟩,⟨rfl,trivial⟩,rfl,⟨rfl,trivial⟩,rfl,bL,trivial⟩⟩
   ·have:=tH hI.nd hI.node;show m.toNat - (o++[x]).length<m.toNat - o.length;rw[List.length_append,List.length_singleton];omega
  ·have ht:t=[]:=List.eq_nil_of_length_eq_zero (by have:=df h;simp only at this;omega);subst ht;obtain⟨hR,wE⟩:=DD hI
   have Tb:o.length≤1000:=by rw[List.length_nil]at NX;omega
   refine⟨[5],rfl,xq (l:=o) (by omega) fun l' th hp hg=>?_⟩;intro y H2 ah hy;rw[uG (hp.nodup_iff.2 wE)]at hg;subst hg
   have kX:∀z∈aR o,oh z:=fun z hz=>by
    have h1:=dt (hI.node z (hI.perm.mem_iff.1 (by simpa using (bJ o z).1 hz)));exact⟨by omega,by omega⟩
   obtain⟨a1,n1,c1,rfl,hr⟩:=lY hy kX;refine hK _ _ _ _ _ (hle.trans ah) hr (kh o) ⟨fun z hz hn=>(bJ o z).2 (hR.sj z hz hn),fun z hz w hw=>(bJ o w).2 (hR.closed z ((bJ o z).1 hz) w hw),fun S h1 h2 z hz=>hR.least S h1 h2 z ((bJ o z).1 hz)⟩
end Go.Proofs
end
section
namespace Go.Proofs
open Go.Sy
theorem nD {α:Type} [LO α] {l:List α} (h:bD l):l.Nodup:=h.imp fun {x y} h e=>by
 rw[e]at h;exact LO.irrefl y h
end Go.Proofs
end
section
namespace Go.Proofs
open Go.Sy
theorem room {n k:Nat} (h:n≤1000000000000:=by omega) (hk:k≤64:=by decide):(n+1)*k≤140737488355328∧n+1≤9223372036854775807:=by
 have:=Nat.mul_le_mul_left (n+1) hk;omega
end Go.Proofs
end
section
namespace Go.Proofs
open Go.Sy
def kP (M:List Bool) (x:Int):Bool:=M[x.toNat]?.getD false
def gk (m:Int) (M:List Bool) (e:cV):List Bool:=if b9 m e.1&&b9 m e.2&&kP M e.1 then M.set e.2.toNat true else M
def round (m:Int) (l:List cV) (M:List Bool):List Bool:=l.foldl (gk m) M
def ym (M M':List Bool):Prop:=M.length=M'.length∧∀i:Nat,M[i]?=some true→M'[i]?=some true
theorem ym.refl (M:List Bool):ym M M:=⟨rfl,fun _ h=>h⟩
theorem ym.trans {A B C:List Bool} (h:ym A B) (h':ym B C):ym A C:=⟨h.1.trans h'.1,fun i hi=>h'.2 i (h.2 i hi)⟩
theorem ig {M:List Bool} {x:Int}:kP M x=true↔M[x.toNat]?=some true:=by
 rw[kP]
 cases M[x.toNat]? with
 | none=>simp
 | some b=>cases b<;>simp
theorem ym.get {M M':List Bool} (h:ym M M') {x:Int} (hx:kP M x=true):kP M' x=true:=ig.2 (h.2 _ (ig.1 hx))
theorem ym.set (M:List Bool) (k:Nat):ym M (M.set k true):=by
 refine⟨(List.length_set).symm,fun i hi=>?_⟩;rw[List.getElem?_set];split
 ·rename_i e;subst e;rw[if_pos (gh.1 hi).1]
 ·exact hi
theorem DF (m:Int) (M:List Bool) (e:cV):ym M (gk m M e):=by
 rw[gk];split
 ·exact ym.set _ _
 ·exact ym.refl _
theorem mF (m:Int):∀(l:List cV) (M:List Bool),ym M (round m l M)
 | [],M=>ym.refl M
 | e::r,M=>(DF m M e).trans (mF m r (gk m M e))
theorem ym.count:∀ {M M':List Bool},ym M M'→M.count true≤M'.count true∧(M.count true=M'.count true→M=M')
 | [],[],_=>⟨Nat.le_refl _,fun _=>rfl⟩
 | [],_::_,h=>by cases h.1
 | _::_,[],h=>by cases h.1
 | a::M,b::M',h=>by
  have h2:=ym.count (M:=M) (M':=M') ⟨by simpa using h.1,fun i hi=>by simpa using h.2 (i+1) (by simpa using hi)⟩;have h0:=h.2 0;simp only[List.getElem?_cons_zero,Option.some.injEq]at h0
  cases a<;>cases b
  ·refine⟨by simpa using h2.1,fun e=>?_⟩;rw[h2.2 (by simpa using e)]
  ·simp only[List.count_cons,beq_self_eq_true,if_true];refine⟨by simp;omega,fun e=>?_⟩;simp at e;omega
  ·exact absurd (h0 rfl) (by decide)
  ·simp only[List.count_cons,beq_self_eq_true,if_true];refine⟨by omega,fun e=>?_⟩;rw[h2.2 (by omega)]
def rounds (m:Int) (l:List cV) (M:List Bool):Nat→List Bool
 | 0=>M
 | k+1=>round m l (rounds m l M k)
theorem qT (m:Int) (l:List cV) (M:List Bool):∀k,(rounds m l M k).length=M.length
 | 0=>rfl
 | k+1=>by rw[rounds,←(mF m l _).1,qT m l M k]
theorem zG (m:Int) (l:List cV) (M:List Bool):∀k,ym M (rounds m l M k)
 | 0=>ym.refl M
 | k+1=>(zG m l M k).trans (mF m l _)
theorem uI (m:Int) (l:List cV) (M:List Bool):∀k,round m l (rounds m l M k)=rounds m l M k∨k≤(rounds m l M k).count true
 | 0=>.inr (Nat.zero_le _)
 | k+1=>by
  rcases uI m l M k with h | h
  ·left
   rw[rounds,h,h]
  ·have h2:=(mF m l (rounds m l M k)).count
   by_cases e:(rounds m l M k).count true=(round m l (rounds m l M k)).count true
   ·left
    have:=h2.2 e;rw[rounds,←this,←this]
   ·right
    rw[rounds];omega
theorem xu:∀ {M:List Bool},M.length≤M.count true→∀i:Nat,i<M.length→M[i]?=some true
 | [],_,i,hi=>by cases hi
 | b::M,h,i,hi=>by
  have hc:M.count true≤M.length:=List.count_le_length;cases b
  ·simp at h;omega
  ·match i with
   | 0=>rfl
   | i+1 =>
    rw[List.getElem?_cons_succ];refine xu ?_ i (by simpa using hi)
    simpa using h
def Ip (m:Int) (l:List cV) (M:List Bool):Prop:=∀e∈l,b9 m e.1=true→b9 m e.2=true→kP M e.1=true→kP M e.2=true
theorem ML {A B:List Bool} (h:ym A B) (h':ym B A):A=B:=h.count.2 (Nat.le_antisymm h.count.1 h'.count.1)
theorem ot {m:Int}:∀(l:List cV) {M:List Bool},M.length=m.toNat→round m l M=M→Ip m l M
 | [],_,_,_=>fun e he=>by cases he
 | a::r,M,hl,h=>by
  have h1:gk m M a=M:=by
   refine ML ?_ (DF m M a);have h2:=mF m r (gk m M a);rw[show round m r (gk m M a)=M from h]at h2;exact h2
  have h3:round m r M=M:=by
   have:round m r (gk m M a)=M:=h;rwa[h1]at this
  intro e he g1 g2 g3
  rcases List.mem_cons.1 he with rfl | he
  ·rw[gk,if_pos (by rw[g1,g2,g3];rfl)]at h1;rw[ig,←h1,List.getElem?_set_self];have:=dt g2;omega
  ·exact ot r hl h3 e he g1 g2 g3
theorem yC {m:Int} (l:List cV) {M:List Bool} (hl:M.length=m.toNat):Ip m l (rounds m l M m.toNat):=by
 have QE:=qT m l M m.toNat
 rcases uI m l M m.toNat with h | h
 ·exact ot l (by omega) h
 ·intro e _ _ g2 _;rw[ig];have:=dt g2;exact xu (by omega) _ (by omega)
def tI (S:Int→Prop) (m:Int) (M:List Bool):Prop:=∀x,b9 m x=true→kP M x=true→S x
theorem DG {S:Int→Prop} {m:Int} {l:List cV} (hS:∀x,S x→∀y∈lF m x l,S y) {M:List Bool} (h:tI S m M) {e:cV} (he:e∈l):tI S m (gk m M e):=by
 rw[gk];split
 ·rename_i hc;simp only[Bool.and_eq_true]at hc;obtain⟨⟨g1,g2⟩,g3⟩:=hc;intro x hx hb;rw[ig,List.getElem?_set]at hb;split at hb
  ·rename_i hk;have h1:=dt hx;have h2:=dt g2
   obtain rfl:e.2=x:=by omega
   exact hS _ (h _ g1 g3) _ (lG.2 ⟨he,g1,g2⟩)
  ·exact h x hx (ig.2 hb)
 ·exact h
theorem uK {S:Int→Prop} {m:Int} {l:List cV} (hS:∀x,S x→∀y∈lF m x l,S y):∀(r:List cV) {M:List Bool},(∀e∈r,e∈l)→tI S m M→tI S m (round m r M)
 | [],_,_,h=>h
 | e::r,M,hr,h=>uK hS r (fun x hx=>hr x (List.mem_cons_of_mem _ hx)) (DG hS h (hr e List.mem_cons_self))
theorem sn {S:Int→Prop} {m:Int} {l:List cV} (hS:∀x,S x→∀y∈lF m x l,S y) {M:List Bool} (h:tI S m M):∀k,tI S m (rounds m l M k)
 | 0=>h
 | k+1=>uK hS l (fun _ h=>h) (sn hS h k)
def mark (m:Int) (M:List Bool) (x:Int):List Bool:=if b9 m x then M.set x.toNat true else M
def marks (m:Int) (f:List Int) (M:List Bool):List Bool:=f.foldl (mark m) M
theorem tJ (m:Int):∀(f:List Int) (M:List Bool),(marks m f M).length=M.length
 | [],_=>rfl
 | x::f,M=>by
  rw[marks,List.foldl_cons,←marks,tJ,mark];split
  ·exact List.length_set
  ·rfl
theorem zH {m:Int}:∀ {f:List Int} {M:List Bool} {x:Int},M.length=m.toNat→b9 m x=true→(kP (marks m f M) x=true↔x∈f∨kP M x=true)
 | [],M,x,_,_=>by simp [marks]
 | y::f,M,x,hl,hx=>by
  have vi:(mark m M y).length=m.toNat:=by rw[mark];split<;>simp [hl]
  rw[marks,List.foldl_cons,←marks,zH (f:=f) vi hx,List.mem_cons];have h1:=dt hx
  have:kP (mark m M y) x=true↔x=y∨kP M x=true:=by
   rw[mark]
   by_cases hy:b9 m y=true
   ·have h2:=dt hy;rw[if_pos hy,ig,ig,List.getElem?_set]
    by_cases e:y.toNat=x.toNat
    ·rw[if_pos e,if_pos (by omega)];exact⟨fun _=>.inl (by omega),fun _=>rfl⟩
    ·rw[if_neg e];exact⟨.inr,fun h=>h.resolve_left (fun h3=>e (by rw[h3]))⟩
   ·rw[if_neg hy];refine⟨.inr,fun h=>h.resolve_left (fun h3=>hy (h3▸hx))⟩
  rw[this];constructor
  ·rintro (h | h | h)
   ·exact .inl (.inr h)
   ·exact .inl (.inl h)
   ·exact .inr h
  ·rintro ((h | h) | h)
   ·exact .inr (.inl h)
   ·exact .inl h
   ·exact .inr (.inr h)
def told (M:List Bool) (k:Nat):List Int:=((List.range k).filter fun (j:Nat)=>kP M (j:Int)).map fun (j:Nat)=>(j:Int)
theorem J0 (M:List Bool) (k:Nat):told M (k+1)=told M k++(if kP M (k:Int) then [(k:Int)] else []):=by
 rw[told,told,List.range_succ,List.filter_append,List.map_append]
 congr 1
 by_cases h:kP M (k:Int)=true
 ·rw[if_pos h,List.filter_cons_of_pos (by exact h)];rfl
 ·rw[if_neg h,List.filter_cons_of_neg (by exact h)];rfl
theorem MM (M:List Bool) (k:Nat):(told M k).length≤k:=by
 rw[told,List.length_map];have:=List.length_filter_le (fun (j:Nat)=>kP M (j:Int)) (List.range k);rwa[List.length_range]at this
theorem DH (M:List Bool) (k:Nat):bD (told M k):=by
 rw[told,bD,List.pairwise_map]
 refine (List.Pairwise.filter _ List.pairwise_lt_range).imp fun {a b} h=>?_
 show (a:Int)<(b:Int);omega
theorem oY {M:List Bool} {m:Int} {x:Int}:x∈told M m.toNat↔b9 m x=true∧kP M x=true:=by
 simp only[told,List.mem_map,List.mem_filter,List.mem_range];constructor
 ·rintro⟨j,⟨h1,h2⟩,rfl⟩;exact⟨decide_eq_true (by omega),h2⟩
 ·rintro⟨h1,h2⟩;have:=dt h1;exact⟨x.toNat,⟨by omega,by rw[Int.toNat_of_nonneg (by omega)];exact h2⟩,by omega⟩
theorem MN (k:Nat) (x:Int):kP (List.replicate k false) x=false:=by
 rw[kP,List.getElem?_replicate]
 split<;>rfl
theorem Gk (m:Int) (l:List cV) (f:List Int):cy m l f (told (rounds m l (marks m f (List.replicate m.toNat false)) m.toNat) m.toNat):=by
 obtain⟨M,hM⟩:∃M,M=marks m f (List.replicate m.toNat false):=⟨_,rfl⟩
 have hl:M.length=m.toNat:=by rw[hM,tJ,List.length_replicate]
 rw[←hM]
 have hg:∀x,b9 m x=true→(kP M x=true↔x∈f):=fun x hx=>by
  rw[hM,zH (List.length_replicate) hx,MN];simp
 refine⟨fun x hx hn=>oY.2 ⟨hn,(zG m l M _).get ((hg x hn).2 hx)⟩,fun x hx y hy=>?_,fun S h1 h2 x hx=>?_⟩
 ·obtain⟨g1,g2,g3⟩:=lG.1 hy;exact oY.2 ⟨g3,yC l hl (x,y) g1 g2 g3 (oY.1 hx).2⟩
 ·obtain⟨g1,g2⟩:=oY.1 hx;exact sn h2 (fun y hy hb=>h1 y ((hg y hy).1 hb) hy) _ x g1 g2
end Go.Proofs
end
section
namespace Go.Proofs
open Go.Sy
open Tryz
abbrev gL (M:List Bool):List (List Value):=M.map fun b=>[.bool b]
theorem pX {M:List Bool} {x:Int} (h0:0≤x) (h:x<M.length):(gL M)[x.toNat]?=some [.bool (kP M x)]:=by
 have:x.toNat<M.length:=by omega
 rw[List.getElem?_map,kP,aL this];rfl
theorem zI (M:List Bool) (i:Nat) (b:Bool):(gL M).set i [.bool b]=gL (M.set i b):=(List.map_set).symm
theorem pY (M:List Bool):(gL M).length=M.length:=List.length_map _
theorem J1 (k:Nat):List.replicate k [Value.bool false]=gL (List.replicate k false):=by rw[gL,List.map_replicate]
theorem qx {m:Int} (h0:0≤m) (hm:m≤1000) {l:List cV} (hl:l.length≤100000) {f:List Int} (hf:f.length≤100000) {a a3:Option Addr} {n c n3 c3:Nat} {H:Hp} {K:Value→Hp→Prop} (ha:RL H a n c l) (hb:RL H a3 n3 c3 f)
  (hK:∀a1 n1 c1 R H',Le H H'→RL H' a1 n1 c1 R→bD R→cy m l f R→K (.slice a1 n1 c1) H'):aq prog 79 [.int .i64 m,.slice a n c,.slice a3 n3 c3] H K:=by
 have hn:=ha.aB;have XG:=hb.aB
 obtain⟨M0,Wq⟩:∃M0,M0=List.replicate m.toNat false:=⟨_,rfl⟩
 have S9:M0.length=m.toNat:=by rw[Wq,List.length_replicate]
 refine ab af aa rfl func79 call79 ntmps79 results79 rfl rfl ?_;refine⟨⟨rfl,by omega,by show m*1≤_;omega,by omega⟩,?_⟩
 refine⟨Nat×List Bool,fun q=>⟨[(0,.v (.int .i64 m)),(1,.v (.slice a n c)),(7,.own 0),(17,.v (.slice a3 n3 c3)),(18,.v (.int .i64 n3)),(19,.v (.int .i64 q.1))],[(0,.row 4 1 (gL q.2))],1⟩,
  fun q H'=>H'=H∧q.1≤f.length∧q.2=marks m (f.take q.1) M0,fun q=>f.length - q.1,⟨(0,M0),[(0,0)],?_,rfl,by dsimp only;omega,rfl⟩,?_⟩
 ·have bL:List.replicate m.toNat [Value.bool false]=gL M0:=by rw[J1,←Wq]
  (repeat' first|exact trivial|refine⟨?_,?_⟩|exact rfl|assumption)
 rintro⟨i,M⟩ H1 _ ⟨rfl,hi,hM⟩;dsimp only at hi hM
 have Zc:M.length=m.toNat:=by rw[hM,tJ,S9]
 refine⟨fun h=>?_,fun h=>?_⟩
 ·have aj:i<f.length:=by have:=dt h;dsimp only at this;omega
  obtain⟨ad,cs,q1,hh,r1⟩:=hb.elem (aL aj);obtain⟨rfl,bh,bj⟩:=r1
  have bc:marks m (f.take (i+1)) M0=mark m M f[i]:=by rw[hM,marks,eC _ _ (aL aj)];rfl
  refine⟨ad,⟨by omega,by omega,q1⟩,?_⟩;refine⟨_,hh,?_⟩;refine⟨fun h=>?_,fun h=>?_⟩
  ·have h1:0≤f[i]:=dt h;refine⟨fun h=>?_,fun h=>?_⟩
   ·have h2:f[i]<m:=dt h
    have bL:(gL M).set f[i].toNat [.bool true]=gL (mark m M f[i]):=by rw[zI,mark,if_pos (by exact decide_eq_true ⟨h1,h2⟩)]
    refine⟨⟨by omega,by rw[pY];dsimp only;omega⟩,?_⟩;refine⟨_,pX (M:=M) h1 (by omega),?_⟩;refine⟨⟨by omega,by omega⟩,(i+1,mark m M f[i]),[(0,0)],?_,⟨rfl,by dsimp only;omega,bc.symm⟩,by dsimp only;omega⟩
    (repeat' first|exact trivial|refine⟨?_,?_⟩|exact rfl|assumption)
   ·have h2:¬f[i]<m:=df h
    have bL:gL M=gL (mark m M f[i]):=by rw[mark,if_neg (fun h=>h2 (dt h).2)]
    refine⟨⟨by omega,by omega⟩,(i+1,mark m M f[i]),[(0,0)],?_,⟨rfl,by dsimp only;omega,bc.symm⟩,by dsimp only;omega⟩
    (repeat' first|exact trivial|refine⟨?_,?_⟩|exact rfl|assumption)
  ·have h1:¬0≤f[i]:=df h
   have bL:gL M=gL (mark m M f[i]):=by rw[mark,if_neg (fun h=>h1 (dt h).1)]
   refine⟨⟨by omega,by omega⟩,(i+1,mark m M f[i]),[(0,0)],?_,⟨rfl,by dsimp only;omega,bc.symm⟩,by dsimp only;omega⟩
   (repeat' first|exact trivial|refine⟨?_,?_⟩|exact rfl|assumption)
 ·have aX:i=f.length:=by have:=df h;dsimp only at this;omega
  obtain⟨M1,Wr⟩:∃M1,M1=marks m f M0:=⟨_,rfl⟩
  have Uj:M=M1:=by rw[hM,Wr,aX,List.take_length]
  have LS:M1.length=m.toNat:=by rw[←Uj];exact Zc
  refine⟨Nat×List Bool,fun q=>⟨[(0,.v (.int .i64 m)),(1,.v (.slice a n c)),(7,.own 0),(10,.v (.int .i64 q.1))],[(0,.row 4 1 (gL q.2))],1⟩,
   fun q H'=>H'=H1∧q.1≤m.toNat∧q.2=rounds m l M1 q.1,fun q=>m.toNat - q.1,⟨(0,M),[(0,0)],?_,rfl,by dsimp only;omega,Uj⟩,?_⟩
  ·(repeat' first|exact trivial|refine⟨?_,?_⟩|exact rfl|assumption)
  rintro⟨k,Q⟩ H2 _ ⟨rfl,hk,hQ⟩;dsimp only at hk hQ
  have Zd:Q.length=m.toNat:=by rw[hQ,qT,LS]
  refine⟨fun h=>?_,fun h=>?_⟩
  ·have Tx:k<m.toNat:=by have:=dt h;dsimp only at this;omega
   refine⟨Nat×List Bool,fun q=>⟨[(0,.v (.int .i64 m)),(1,.v (.slice a n c)),(7,.own 0),(10,.v (.int .i64 k)),(39,.v (.slice a n c)),(40,.v (.int .i64 n)),(41,.v (.int .i64 q.1))],[(0,.row 4 1 (gL q.2))],1⟩,
    fun q H'=>H'=H2∧q.1≤l.length∧q.2=round m (l.take q.1) Q,fun q=>l.length - q.1,⟨(0,Q),[(0,0)],?_,rfl,by dsimp only;omega,rfl⟩,?_⟩
   ·(repeat' first|exact trivial|refine⟨?_,?_⟩|exact rfl|assumption)
   rintro⟨j,R⟩ H3 _ ⟨rfl,hj,hR⟩;dsimp only at hj hR
   have hlR:R.length=m.toNat:=by rw[hR,←(mF m _ Q).1,Zd]
   refine⟨fun h=>?_,fun h=>?_⟩
   ·have aj:j<l.length:=by have:=dt h;dsimp only at this;omega
    obtain⟨ad,cs,q1,hh,r1⟩:=ha.elem (aL aj);obtain⟨rfl,-⟩:=fX r1
    have bc:round m (l.take (j+1)) Q=gk m R l[j]:=by rw[hR,round,eC _ _ (aL aj)];rfl
    obtain⟨e,he⟩:∃e,e=l[j]:=⟨_,rfl⟩
    rw[←he]at hh bc;refine⟨ad,⟨by omega,by omega,q1⟩,?_⟩;refine⟨_,hh,?_⟩
    have gZ:(b9 m e.1&&b9 m e.2&&kP R e.1)=false→gL R=gL (gk m R e):=fun h=>by rw[gk,h];rfl
    refine⟨fun h=>?_,fun h=>?_⟩
    ·have h1:0≤e.1:=dt h;refine⟨fun h=>?_,fun h=>?_⟩
     ·have h2:e.1<m:=dt h;refine⟨fun h=>?_,fun h=>?_⟩
      ·have h3:0≤e.2:=dt h;refine⟨fun h=>?_,fun h=>?_⟩
       ·have h4:e.2<m:=dt h;have g1:b9 m e.1=true:=decide_eq_true ⟨h1,h2⟩;have g2:b9 m e.2=true:=decide_eq_true ⟨h3,h4⟩;refine⟨⟨by omega,by rw[pY];dsimp only;omega⟩,?_⟩;refine⟨_,pX (M:=R) h1 (by omega),?_⟩;refine⟨fun h=>?_,fun h=>?_⟩
        ·have bL:(gL R).set e.2.toNat [.bool true]=gL (gk m R e):=by rw[zI,gk,g1,g2,h];rfl
         refine⟨⟨by omega,by rw[pY];dsimp only;omega⟩,?_⟩;refine⟨_,pX (M:=R) h3 (by omega),?_⟩;refine⟨⟨by omega,by omega⟩,(j+1,gk m R e),[(0,0)],?_,⟨rfl,by dsimp only;omega,bc.symm⟩,by dsimp only;omega⟩
         (repeat' first|exact trivial|refine⟨?_,?_⟩|exact rfl|assumption)
        ·have bL:=gZ (by rw[h];simp);refine⟨⟨by omega,by omega⟩,(j+1,gk m R e),[(0,0)],?_,⟨rfl,by dsimp only;omega,bc.symm⟩,by dsimp only;omega⟩
         (repeat' first|exact trivial|refine⟨?_,?_⟩|exact rfl|assumption)
       ·have h4:¬e.2<m:=df h;have bL:=gZ (by rw[show b9 m e.2=false from decide_eq_false (fun h=>h4 h.2)];simp);refine⟨⟨by omega,by omega⟩,(j+1,gk m R e),[(0,0)],?_,⟨rfl,by dsimp only;omega,bc.symm⟩,by dsimp only;omega⟩
        (repeat' first|exact trivial|refine⟨?_,?_⟩|exact rfl|assumption)
      ·have h3:¬0≤e.2:=df h;have bL:=gZ (by rw[show b9 m e.2=false from decide_eq_false (fun h=>h3 h.1)];simp);refine⟨⟨by omega,by omega⟩,(j+1,gk m R e),[(0,0)],?_,⟨rfl,by dsimp only;omega,bc.symm⟩,by dsimp only;omega⟩
       (repeat' first|exact trivial|refine⟨?_,?_⟩|exact rfl|assumption)
     ·have h2:¬e.1<m:=df h;have bL:=gZ (by rw[show b9 m e.1=false from decide_eq_false (fun h=>h2 h.2)];simp);refine⟨⟨by omega,by omega⟩,(j+1,gk m R e),[(0,0)],?_,⟨rfl,by dsimp only;omega,bc.symm⟩,by dsimp only;omega⟩
      (repeat' first|exact trivial|refine⟨?_,?_⟩|exact rfl|assumption)
    ·have h1:¬0≤e.1:=df h;have bL:=gZ (by rw[show b9 m e.1=false from decide_eq_false (fun h=>h1 h.1)];simp);refine⟨⟨by omega,by omega⟩,(j+1,gk m R e),[(0,0)],?_,⟨rfl,by dsimp only;omega,bc.symm⟩,by dsimp only;omega⟩
     (repeat' first|exact trivial|refine⟨?_,?_⟩|exact rfl|assumption)
   ·have eD:j=l.length:=by have:=df h;dsimp only at this;omega
    refine⟨⟨by omega,by omega⟩,(k+1,R),[(0,0)],?_,⟨rfl,by dsimp only;omega,by rw[hR,eD,List.take_length,hQ];rfl⟩,by dsimp only;omega⟩
    (repeat' first|exact trivial|refine⟨?_,?_⟩|exact rfl|assumption)
  ·have Tx:k=m.toNat:=by have:=df h;dsimp only at this;omega
   have FJ:=Gk m l f;rw[←Wq,←Wr,←Tx,←hQ,Tx]at FJ
   refine⟨Nat,fun i=>⟨[(0,.v (.int .i64 m)),(7,.own 0),(13,.own 1),(14,.v (.int .i64 i))],[(0,.row 4 1 (gL Q)),(1,.row 3 1 (au (told Q i)))],2⟩,
    fun i H'=>H'=H2∧i≤m.toNat,fun i=>m.toNat - i,⟨0,[(0,0)],?_,rfl,by omega⟩,?_⟩
   ·(repeat' first|exact trivial|refine⟨?_,?_⟩|exact rfl|assumption)
   rintro i H3 _ ⟨rfl,hi⟩;have XH:=MM Q i;have Ze:(au (told Q i)).length=(told Q i).length:=List.length_map _;have Qy:=J0 Q i;refine⟨fun h=>?_,fun h=>?_⟩
   ·have h1:(i:Int)<m:=dt h;refine⟨⟨by omega,by rw[pY];omega⟩,?_⟩;refine⟨_,pX (M:=Q) (by omega) (by omega),?_⟩;refine⟨fun h=>?_,fun h=>?_⟩
    ·have bL:au (told Q i)++[[.int .i64 (i:Int)]]=au (told Q (i+1)):=by rw[Qy,if_pos h];simp
     refine⟨room,?_⟩;refine⟨⟨by omega,by omega⟩,i+1,[(0,0),(1,3)],?_,⟨rfl,by omega⟩,by dsimp only;omega⟩
     (repeat' first|exact trivial|refine⟨?_,?_⟩|exact rfl|assumption)
    ·have bL:au (told Q i)=au (told Q (i+1)):=by rw[Qy,if_neg (by rw[h];decide),List.append_nil]
     refine⟨⟨by omega,by omega⟩,i+1,[(0,0),(1,1)],?_,⟨rfl,by omega⟩,by dsimp only;omega⟩
     (repeat' first|exact trivial|refine⟨?_,?_⟩|exact rfl|assumption)
   ·have U7:i=m.toNat:=by have:=df h;omega
    intro y H4 aN hy
    have kX:∀z∈told Q i,oh z:=fun z hz=>by
     rw[U7]at hz;have:=dt (oY.1 hz).1;exact⟨by omega,by omega⟩
    obtain⟨a1,n1,c1,rfl,hr⟩:=lY hy kX;rw[U7]at hr;exact hK _ _ _ _ _ aN hr (DH Q _) FJ
end Go.Proofs
end
