/- Part 'M0' of the proof (O0): lemmas, each with its own conditions in its own statement. -/
set_option maxRecDepth 20000
set_option maxHeartbeats 4000000
namespace Go.Proofs
class LO (α:Type) where
 lt:α→α→Prop
 dec:∀a b,Decidable (lt a b)
 Th:DecidableEq α
 irrefl:∀a,¬lt a a
 trans:∀ {a b c},lt a b→lt b c→lt a c
 NU:∀a b,lt a b∨a=b∨lt b a
section
variable {α:Type} [LO α]
instance (a b:α):Decidable (LO.lt a b):=LO.dec a b
instance:DecidableEq α:=LO.Th
theorem LO.asymm {a b:α} (h:LO.lt a b):¬LO.lt b a:=fun h'=>LO.irrefl a (LO.trans h h')
abbrev bD (l:List α):Prop:=l.Pairwise LO.lt
theorem jd:∀ {l l':List α},bD l→bD l'→(∀x,x∈l↔x∈l')→l=l'
 | [],[],_,_,_=>rfl
 | [],y::r,_,_,h=>absurd ((h y).2 List.mem_cons_self) (by simp)
 | x::r,[],_,_,h=>absurd ((h x).1 List.mem_cons_self) (by simp)
 | x::r,y::s,h1,h2,h=>by
  have a1:=List.pairwise_cons.1 h1;have a2:=List.pairwise_cons.1 h2
  have e:x=y:=by
   rcases List.mem_cons.1 ((h x).1 List.mem_cons_self) with e | hx
   ·exact e
   ·rcases List.mem_cons.1 ((h y).2 List.mem_cons_self) with e | hy
    ·exact e.symm
    ·exact absurd (a1.1 y hy) (LO.asymm (a2.1 x hx))
  subst e
  congr 1
  refine jd a1.2 a2.2 fun z=>?_
  constructor
  ·intro hz
   rcases List.mem_cons.1 ((h z).1 (List.mem_cons_of_mem _ hz)) with e | Qb
   ·subst e;exact absurd (a1.1 z hz) (LO.irrefl z)
   ·exact Qb
  ·intro hz
   rcases List.mem_cons.1 ((h z).2 (List.mem_cons_of_mem _ hz)) with e | Qb
   ·subst e;exact absurd (a2.1 z hz) (LO.irrefl z)
   ·exact Qb
def gC (s:α) (q:List α×Bool) (x:α):List α×Bool :=
 if q.2=false∧(LO.lt s x∨s=x) then ((if s=x then q.1 else q.1++[s])++[x],true) else (q.1++[x],q.2)
def Hz (s:α) (l:List α):List α×Bool:=l.foldl (gC s) ([],false)
def Ti (s:α) (l:List α):List α:=if (Hz s l).2 then (Hz s l).1 else (Hz s l).1++[s]
theorem qD {s:α}:∀(l o:List α),l.foldl (gC s) (o,true)=(o++l,true)
 | [],o=>by simp
 | x::r,o=>by
  rw[List.foldl_cons,gC,if_neg (fun h=>by cases h.1),qD r,List.append_assoc]
  rfl
def jy (s:α):List α→List α
 | []=>[s]
 | x::r=>if LO.lt s x then s::x::r else if s=x then x::r else x::jy s r
theorem yJ (s:α):∀(l o:List α),(if (l.foldl (gC s) (o,false)).2 then (l.foldl (gC s) (o,false)).1 else (l.foldl (gC s) (o,false)).1++[s])=o++jy s l
 | [],o=>by simp [jy]
 | x::r,o=>by
  rw[List.foldl_cons,jy]
  by_cases h:LO.lt s x
  ·have cu:s≠x:=fun e=>by subst e;exact LO.irrefl s h
   have e1:gC s (o,false) x=(o++[s]++[x],true):=by rw[gC,if_pos ⟨rfl,.inl h⟩,if_neg cu]
   rw[e1,qD,if_pos rfl,if_pos h];simp
  ·rw[if_neg h]
   by_cases e:s=x
   ·subst e
    have e1:gC s (o,false) s=(o++[s],true):=by rw[gC,if_pos ⟨rfl,.inr rfl⟩,if_pos rfl]
    rw[e1,qD,if_pos rfl,if_pos rfl];simp
   ·have e1:gC s (o,false) x=(o++[x],false):=by rw[gC,if_neg (fun hh=>hh.2.elim h e)]
    rw[e1,if_neg e,yJ s r,List.append_assoc]
    rfl
theorem KW (s:α) (l:List α):Ti s l=jy s l:=by
 have:=yJ s l [];rw[List.nil_append]at this;exact this
theorem vZ {s:α}:∀ {l:List α} {t:α},t∈jy s l↔t=s∨t∈l
 | [],t=>by simp [jy]
 | x::r,t=>by
  rw[jy];split
  ·simp
  ·split
   ·rename_i _ e;subst e;simp
   ·rw[List.mem_cons,vZ,List.mem_cons];constructor
    ·rintro (h | h | h)
     ·exact .inr (.inl h)
     ·exact .inl h
     ·exact .inr (.inr h)
    ·rintro (h | h | h)
     ·exact .inr (.inl h)
     ·exact .inl h
     ·exact .inr (.inr h)
theorem ug {s:α}:∀ {l:List α},bD l→bD (jy s l)
 | [],_=>by simp [jy,bD]
 | x::r,h=>by
  have a:=List.pairwise_cons.1 h;rw[jy];split
  ·rename_i aj
   exact List.pairwise_cons.2 ⟨fun y hy=>by
    rcases List.mem_cons.1 hy with rfl | hy
    ·exact aj
    ·exact LO.trans aj (a.1 y hy),h⟩
  ·rename_i hn;split
   ·exact h
   ·rename_i cu;refine List.pairwise_cons.2 ⟨fun y hy=>?_,ug a.2⟩
    rcases vZ.1 hy with rfl | hy
    ·rcases LO.NU y x with h' | h' | h'
     ·exact absurd h' hn
     ·exact absurd h' cu
     ·exact h'
    ·exact a.1 y hy
theorem B8 (s:α):∀l:List α,(jy s l).length≤l.length+1
 | []=>by simp [jy]
 | x::r=>by
  rw[jy];split
  ·simp
  ·split
   ·simp
   ·have:=B8 s r
    simp only[List.length_cons];omega
def aR (l:List α):List α:=l.foldl (fun o x=>jy x o) []
theorem qE:∀(l:List α) {o:List α},bD o→bD (l.foldl (fun o x=>jy x o) o)∧∀t,t∈l.foldl (fun o x=>jy x o) o↔t∈o∨t∈l
 | [],o,h=>⟨h,by simp⟩
 | x::r,o,h=>by
  obtain⟨h1,h2⟩:=qE r (ug (s:=x) h);refine⟨h1,fun t=>?_⟩;rw[List.foldl_cons,h2 t,vZ,List.mem_cons];constructor
  ·rintro ((h | h) | h)
   ·exact .inr (.inl h)
   ·exact .inl h
   ·exact .inr (.inr h)
  ·rintro (h | h | h)
   ·exact .inl (.inr h)
   ·exact .inl (.inl h)
   ·exact .inr h
theorem kh (l:List α):bD (aR l):=(qE l List.Pairwise.nil).1
theorem bJ (l:List α) (t:α):t∈aR l↔t∈l:=by
 have:=(qE l (o:=[]) List.Pairwise.nil).2 t
 simpa [aR] using this
theorem B9 {l l':List α} (h:bD l') (hm:∀t,t∈l'↔t∈l):l'=aR l :=
 jd h (kh l) fun t=>(hm t).trans (bJ l t).symm
theorem dP (l:List α):(aR l).length≤l.length:=by
 have:∀(l o:List α),(l.foldl (fun o x=>jy x o) o).length≤o.length+l.length:=by
  intro l
  induction l with
  | nil=>intro o;simp
  | cons x r ih =>
   intro o;have h1:=ih (jy x o);have h2:=B8 x o;rw[List.foldl_cons,List.length_cons];omega
 have:=this l []
 simpa [aR] using this
def bm:List α→List α
 | []=>[]
 | x::r=>match r with
  | []=>[x]
  | y::s=>if x=y then bm (y::s) else x::bm (y::s)
theorem pI:∀ {l:List α} {t:α},t∈bm l↔t∈l
 | [],t=>by simp [bm]
 | [x],t=>by simp [bm]
 | x::y::s,t=>by
  rw[bm];split
  ·rename_i e;subst e;rw[pI];simp
  ·rw[List.mem_cons,pI,List.mem_cons (a:=t) (b:=x)]
theorem nb:∀ {l:List α},l.Pairwise (fun x y=>¬LO.lt y x)→bD (bm l)
 | [],_=>by simp [bm,bD]
 | [x],_=>by simp [bm,bD]
 | x::y::s,h=>by
  have a:=List.pairwise_cons.1 h;rw[bm];split
  ·exact nb a.2
  ·rename_i cu;refine List.pairwise_cons.2 ⟨fun z hz=>?_,nb a.2⟩;have hz:=pI.1 hz
   have N8:LO.lt x y:=by
    rcases LO.NU x y with h' | h' | h'
    ·exact h'
    ·exact absurd h' cu
    ·exact absurd h' (a.1 y List.mem_cons_self)
   rcases List.mem_cons.1 hz with rfl | hz
   ·exact N8
   ·have b:=List.pairwise_cons.1 a.2
    rcases LO.NU y z with h' | h' | h'
    ·exact LO.trans N8 h'
    ·subst h';exact N8
    ·exact absurd h' (b.1 z hz)
theorem qF {l l':List α} (hp:∀t,t∈l'↔t∈l) (hs:l'.Pairwise (fun x y=>¬LO.lt y x)):bm l'=aR l :=
 B9 (nb hs) fun t=>pI.trans (hp t)
end
instance:LO Int where
 lt a b:=a<b
 dec _ _:=inferInstance
 Th:=inferInstance
 irrefl a:=Int.lt_irrefl a
 trans:=Int.lt_trans
 NU a b:=Int.lt_trichotomy a b
abbrev cV:=Int×Int
instance:LO cV where
 lt a b:=a.1<b.1∨a.1=b.1∧a.2<b.2
 dec _ _:=inferInstance
 Th:=inferInstance
 irrefl a:=by omega
 trans:=by intro a b c h h';omega
 NU a b:=by
  obtain⟨a1,a2⟩:=a;obtain⟨b1,b2⟩:=b;simp only[Prod.mk.injEq];omega
end Go.Proofs
