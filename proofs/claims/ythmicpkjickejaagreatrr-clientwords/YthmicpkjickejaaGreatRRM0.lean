/- Part 'M0' of the proof (O0): lemmas, each with its own conditions in its own statement. -/
namespace Go.Proofs
class LO (α:Type) where
 lt:α→α→Prop
 dec:∀a b,Decidable (lt a b)
 deq:DecidableEq α
 irrefl:∀a,¬lt a a
 trans:∀ {a b c},lt a b→lt b c→lt a c
 tri:∀a b,lt a b∨a=b∨lt b a
section
variable {α:Type} [LO α]
instance (a b:α):Decidable (LO.lt a b):=LO.dec a b
instance:DecidableEq α:=LO.deq
theorem LO.asymm {a b:α} (h:LO.lt a b):¬LO.lt b a:=fun h'=>LO.irrefl a (LO.trans h h')
abbrev StrictL (l:List α):Prop:=l.Pairwise LO.lt
theorem strict_ext:∀ {l l':List α},StrictL l→StrictL l'→(∀x,x∈l↔x∈l')→l=l'
 | [],[],_,_,_=>rfl
 | [],y::r,_,_,h=>absurd ((h y).2 List.mem_cons_self) (by simp)
 | x::r,[],_,_,h=>absurd ((h x).1 List.mem_cons_self) (by simp)
 | x::r,y::s,h1,h2,h=>by
  have a1:=List.pairwise_cons.1 h1;have a2:=List.pairwise_cons.1 h2
  have e:x=y:=by
   rcases List.mem_cons.1 ((h x).1 List.mem_cons_self) with e | hx
   ·exact e
   ·rcases List.mem_cons.1 ((h y).2 List.mem_cons_self) with e | hy
    ·exact e.symm
    ·exact absurd (a1.1 y hy) (LO.asymm (a2.1 x hx))
  subst e
  congr 1
  refine strict_ext a1.2 a2.2 fun z=>?_
  constructor
  ·intro hz
   rcases List.mem_cons.1 ((h z).1 (List.mem_cons_of_mem _ hz)) with e | hz'
   ·subst e;exact absurd (a1.1 z hz) (LO.irrefl z)
   ·exact hz'
  ·intro hz
   rcases List.mem_cons.1 ((h z).2 (List.mem_cons_of_mem _ hz)) with e | hz'
   ·subst e;exact absurd (a2.1 z hz) (LO.irrefl z)
   ·exact hz'
def gStep (s:α) (q:List α×Bool) (x:α):List α×Bool :=
 if q.2=false∧(LO.lt s x∨s=x) then ((if s=x then q.1 else q.1++[s])++[x],true) else (q.1++[x],q.2)
def gFold (s:α) (l:List α):List α×Bool:=l.foldl (gStep s) ([],false)
def gPut (s:α) (l:List α):List α:=if (gFold s l).2 then (gFold s l).1 else (gFold s l).1++[s]
theorem gFold_done {s:α}:∀(l o:List α),l.foldl (gStep s) (o,true)=(o++l,true)
 | [],o=>by simp
 | x::r,o=>by
  rw[List.foldl_cons,gStep,if_neg (fun h=>by cases h.1),gFold_done r,List.append_assoc]
  rfl
def gIns (s:α):List α→List α
 | []=>[s]
 | x::r=>if LO.lt s x then s::x::r else if s=x then x::r else x::gIns s r
theorem gFold_ins (s:α):∀(l o:List α),(if (l.foldl (gStep s) (o,false)).2 then (l.foldl (gStep s) (o,false)).1 else (l.foldl (gStep s) (o,false)).1++[s])=o++gIns s l
 | [],o=>by simp [gIns]
 | x::r,o=>by
  rw[List.foldl_cons,gIns]
  by_cases h:LO.lt s x
  ·have hne:s≠x:=fun e=>by subst e;exact LO.irrefl s h
   have e1:gStep s (o,false) x=(o++[s]++[x],true):=by rw[gStep,if_pos ⟨rfl,.inl h⟩,if_neg hne]
   rw[e1,gFold_done,if_pos rfl,if_pos h];simp
  ·rw[if_neg h]
   by_cases e:s=x
   ·subst e
    have e1:gStep s (o,false) s=(o++[s],true):=by rw[gStep,if_pos ⟨rfl,.inr rfl⟩,if_pos rfl]
    rw[e1,gFold_done,if_pos rfl,if_pos rfl];simp
   ·have e1:gStep s (o,false) x=(o++[x],false):=by rw[gStep,if_neg (fun hh=>hh.2.elim h e)]
    rw[e1,if_neg e,gFold_ins s r,List.append_assoc]
    rfl
theorem gPut_ins (s:α) (l:List α):gPut s l=gIns s l:=by
 have:=gFold_ins s l [];rw[List.nil_append]at this;exact this
theorem gIns_mem {s:α}:∀ {l:List α} {t:α},t∈gIns s l↔t=s∨t∈l
 | [],t=>by simp [gIns]
 | x::r,t=>by
  rw[gIns];split
  ·simp
  ·split
   ·rename_i _ e;subst e;simp
   ·rw[List.mem_cons,gIns_mem,List.mem_cons];constructor
    ·rintro (h | h | h)
     ·exact .inr (.inl h)
     ·exact .inl h
     ·exact .inr (.inr h)
    ·rintro (h | h | h)
     ·exact .inr (.inl h)
     ·exact .inl h
     ·exact .inr (.inr h)
theorem gIns_strict {s:α}:∀ {l:List α},StrictL l→StrictL (gIns s l)
 | [],_=>by simp [gIns,StrictL]
 | x::r,h=>by
  have a:=List.pairwise_cons.1 h;rw[gIns];split
  ·rename_i hlt
   exact List.pairwise_cons.2 ⟨fun y hy=>by
    rcases List.mem_cons.1 hy with rfl | hy
    ·exact hlt
    ·exact LO.trans hlt (a.1 y hy),h⟩
  ·rename_i hn;split
   ·exact h
   ·rename_i hne;refine List.pairwise_cons.2 ⟨fun y hy=>?_,gIns_strict a.2⟩
    rcases gIns_mem.1 hy with rfl | hy
    ·rcases LO.tri y x with h' | h' | h'
     ·exact absurd h' hn
     ·exact absurd h' hne
     ·exact h'
    ·exact a.1 y hy
theorem gIns_len (s:α):∀l:List α,(gIns s l).length≤l.length+1
 | []=>by simp [gIns]
 | x::r=>by
  rw[gIns];split
  ·simp
  ·split
   ·simp
   ·have:=gIns_len s r
    simp only[List.length_cons];omega
def gSort (l:List α):List α:=l.foldl (fun o x=>gIns x o) []
theorem gSort_fold:∀(l:List α) {o:List α},StrictL o→StrictL (l.foldl (fun o x=>gIns x o) o)∧∀t,t∈l.foldl (fun o x=>gIns x o) o↔t∈o∨t∈l
 | [],o,h=>⟨h,by simp⟩
 | x::r,o,h=>by
  obtain⟨h1,h2⟩:=gSort_fold r (gIns_strict (s:=x) h);refine⟨h1,fun t=>?_⟩;rw[List.foldl_cons,h2 t,gIns_mem,List.mem_cons];constructor
  ·rintro ((h | h) | h)
   ·exact .inr (.inl h)
   ·exact .inl h
   ·exact .inr (.inr h)
  ·rintro (h | h | h)
   ·exact .inl (.inr h)
   ·exact .inl (.inl h)
   ·exact .inr h
theorem gSort_strict (l:List α):StrictL (gSort l):=(gSort_fold l List.Pairwise.nil).1
theorem gSort_mem (l:List α) (t:α):t∈gSort l↔t∈l:=by
 have:=(gSort_fold l (o:=[]) List.Pairwise.nil).2 t
 simpa [gSort] using this
theorem gSort_eq {l l':List α} (h:StrictL l') (hm:∀t,t∈l'↔t∈l):l'=gSort l :=
 strict_ext h (gSort_strict l) fun t=>(hm t).trans (gSort_mem l t).symm
theorem gSort_len (l:List α):(gSort l).length≤l.length:=by
 have:∀(l o:List α),(l.foldl (fun o x=>gIns x o) o).length≤o.length+l.length:=by
  intro l
  induction l with
  | nil=>intro o;simp
  | cons x r ih =>
   intro o;have h1:=ih (gIns x o);have h2:=gIns_len x o;rw[List.foldl_cons,List.length_cons];omega
 have:=this l []
 simpa [gSort] using this
def gComp:List α→List α
 | []=>[]
 | x::r=>match r with
  | []=>[x]
  | y::s=>if x=y then gComp (y::s) else x::gComp (y::s)
theorem gComp_mem:∀ {l:List α} {t:α},t∈gComp l↔t∈l
 | [],t=>by simp [gComp]
 | [x],t=>by simp [gComp]
 | x::y::s,t=>by
  rw[gComp];split
  ·rename_i e;subst e;rw[gComp_mem];simp
  ·rw[List.mem_cons,gComp_mem,List.mem_cons (a:=t) (b:=x)]
theorem gComp_strict:∀ {l:List α},l.Pairwise (fun x y=>¬LO.lt y x)→StrictL (gComp l)
 | [],_=>by simp [gComp,StrictL]
 | [x],_=>by simp [gComp,StrictL]
 | x::y::s,h=>by
  have a:=List.pairwise_cons.1 h;rw[gComp];split
  ·exact gComp_strict a.2
  ·rename_i hne;refine List.pairwise_cons.2 ⟨fun z hz=>?_,gComp_strict a.2⟩;have hz:=gComp_mem.1 hz
   have hxy:LO.lt x y:=by
    rcases LO.tri x y with h' | h' | h'
    ·exact h'
    ·exact absurd h' hne
    ·exact absurd h' (a.1 y List.mem_cons_self)
   rcases List.mem_cons.1 hz with rfl | hz
   ·exact hxy
   ·have b:=List.pairwise_cons.1 a.2
    rcases LO.tri y z with h' | h' | h'
    ·exact LO.trans hxy h'
    ·subst h';exact hxy
    ·exact absurd h' (b.1 z hz)
theorem gComp_sort {l l':List α} (hp:∀t,t∈l'↔t∈l) (hs:l'.Pairwise (fun x y=>¬LO.lt y x)):gComp l'=gSort l :=
 gSort_eq (gComp_strict hs) fun t=>gComp_mem.trans (hp t)
end
instance:LO Int where
 lt a b:=a<b
 dec _ _:=inferInstance
 deq:=inferInstance
 irrefl a:=Int.lt_irrefl a
 trans:=Int.lt_trans
 tri a b:=Int.lt_trichotomy a b
abbrev Edg:=Int×Int
instance:LO Edg where
 lt a b:=a.1<b.1∨a.1=b.1∧a.2<b.2
 dec _ _:=inferInstance
 deq:=inferInstance
 irrefl a:=by omega
 trans:=by intro a b c h h';omega
 tri a b:=by
  obtain⟨a1,a2⟩:=a;obtain⟨b1,b2⟩:=b;simp only[Prod.mk.injEq];omega
end Go.Proofs
