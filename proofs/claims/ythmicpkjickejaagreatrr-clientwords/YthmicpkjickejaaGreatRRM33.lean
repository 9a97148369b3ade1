/- Part 'M33' of the proof (Lv3, Lv4, Lv5): lemmas, each with its own conditions in its own statement. -/
import Derived.Test.YthmicpkjickejaaGreatRRM27
import Derived.Test.YthmicpkjickejaaGreatRRM29
import Derived.Test.YthmicpkjickejaaGreatRRM31
import Derived.Test.YthmicpkjickejaaGreatRRM32
section
namespace Go.Proofs
open Go.Sy
set_option maxRecDepth 20000
set_option maxHeartbeats 4000000
def oneV (V:List Bs8) (v:Bs8):Wd:=ofB V.length [idxS v V 0]
def useF (V:List Bs8) (k:Wd) (g:Wd) (l:List Bs8):Wd:=l.foldl (fun g v=>bOr g (bDiff (oneV V v) k)) g
def stmF (V:List Bs8) (z:Wd×Wd) (s:Stmt):Wd×Wd:=(useF V z.2 z.1 (usesS s),if s.1=3 then z.2 else bOr z.2 (oneV V s.2.1.l))
def trF (V:List Bs8) (b:Block):Wd×Wd :=
 let z:=b.2.1.foldl (stmF V) (nilB V.length,nilB V.length)
 (useF V z.2 z.1 (nmsOf [b.2.2.2.1.1.l]),z.2)
theorem oneV_ok (V:List Bs8) (v:Bs8):okB V.length (oneV V v):=ofB_ok _ _
theorem useF_ok {V:List Bs8} {k:Wd} (hk:okB V.length k):∀(l:List Bs8) {g:Wd},okB V.length g→okB V.length (useF V k g l)
 | [],_,h=>h
 | v::r,g,h=>useF_ok hk r (g:=bOr g (bDiff (oneV V v) k)) (bOr_ok h (bDiff_ok (oneV_ok V v) hk))
theorem stmF_ok {V:List Bs8} {z:Wd×Wd} (h:okB V.length z.1∧okB V.length z.2) (s:Stmt):okB V.length (stmF V z s).1∧okB V.length (stmF V z s).2:=by
 refine⟨useF_ok h.2 _ h.1,?_⟩;show okB V.length (if s.1=3 then z.2 else bOr z.2 (oneV V s.2.1.l));split
 ·exact h.2
 ·exact bOr_ok h.2 (oneV_ok _ _)
theorem stmF_all {V:List Bs8}:∀(l:List Stmt) {z:Wd×Wd},okB V.length z.1∧okB V.length z.2→okB V.length (l.foldl (stmF V) z).1∧okB V.length (l.foldl (stmF V) z).2
 | [],_,h=>h
 | s::r,z,h=>stmF_all r (z:=stmF V z s) (stmF_ok h s)
theorem trF_ok (V:List Bs8) (b:Block):okB V.length (trF V b).1∧okB V.length (trF V b).2:=by
 have h:=stmF_all (V:=V) b.2.1 (z:=(nilB V.length,nilB V.length)) ⟨nilB_ok _,nilB_ok _⟩;exact⟨useF_ok h.2 _ h.1,h.2⟩
abbrev bV (a:Option Addr) (n c:Nat):List (Nat×Bx):=[(0,.cells 36 [.v (.slice a n c)])]
theorem one1_spec {V:List Bs8} (hV:V.length≤1024) {v:Bs8} {a:Option Addr} {n c:Nat} {H:Hp} {K:SV→St→Hp→Prop} (ha:RL H a n c (ens V)) (hK:∀a1 n1 c1 H',Le H H'→RL H' a1 n1 c1 (oneV V v)→K (.v (.slice a1 n1 c1)) ⟨[],bV a n c,1⟩ H'):
  DoesG Tryz.prog 101 [.v (.string (bs v)),.ptr 0 0] (bV a n c) 1 H K:=by
 have hn1:=ha.n_eq;rw[List.length_map]at hn1;refine spec_ofG cx_ok cx_mix Tryz.func101 Tryz.call101 Tryz.ntmps101 Tryz.results101 rfl rfl ?_;refine⟨some ([1],[0,1,2,3,4,5,6,7]),by kernel_rfl,?_⟩;refine index_spec ha ?_;intro y H1 hle1 hy
 have hid:inI (idxS v V 0):=by
  rcases idxS_range v V 0 (Int.le_refl 0) with h | h
  ·rw[h];exact⟨by decide,by decide⟩
  ·exact⟨by omega,by omega⟩
 obtain⟨a7,n7,c7,rfl,hr7⟩:=RL.of_row (α:=Int) (xs:=[idxS v V 0]) (css:=iRows [idxS v V 0]) hy (rc_iRows fun x hx=>by rw[List.mem_singleton.1 hx];exact hid);rw[show ((n:Nat):Int)=(V.length:Nat) by rw[hn1]]
 refine wof_spec hV hr7 fun a1 n1 c1 H2 hle2 hr=>?_
 exact⟨.v (.slice a1 n1 c1),bV a n c,1,[(0,0)],by (repeat' (first|exact trivial|refine⟨?_,?_⟩|exact rfl|assumption)),hK _ _ _ _ (hle1.le.trans hle2) hr⟩
abbrev bU (g k:Option Addr×Nat×Nat) (a:Option Addr) (n c:Nat):List (Nat×Bx) :=
 [(0,.cells 36 [.v (.slice a n c)]),(1,.cells 25 [.v (.slice g.1 g.2.1 g.2.2)]),(2,.cells 25 [.v (.slice k.1 k.2.1 k.2.2)]),(3,.cells 135 [.fn 101 [.ptr 0 0]])]
theorem use_spec {V:List Bs8} (hV:V.length≤1024) {l:List Bs8} {kill gen:Wd} (hk:okB V.length kill) (hg:okB V.length gen) {g k:Option Addr×Nat×Nat} {a a2:Option Addr} {n c n2 k2:Nat} {H:Hp} {K:SV→St→Hp→Prop} (ha:RL H a n c (ens V)) (hb:RL H a2 n2 k2 (ens l)) (hgr:RL H g.1 g.2.1 g.2.2 gen) (hkr:RL H k.1 k.2.1 k.2.2 kill)
  (hK:∀g' H',Le H H'→RL H' g'.1 g'.2.1 g'.2.2 (useF V kill gen l)→K (.tup []) ⟨[],bU g' k a n c,4⟩ H'):
  DoesG Tryz.prog 103 [.v (.slice a2 n2 k2),.ptr 1 0,.ptr 3 0,.ptr 2 0] (bU g k a n c) 4 H K:=by
 have hn2:=hb.n_eq;rw[List.length_map]at hn2;have hmx:=hb.le;refine spec_ofG cx_ok cx_mix Tryz.func103 Tryz.call103 Tryz.ntmps103 Tryz.results103 rfl rfl ?_
 refine⟨Nat×Wd×(Option Addr×Nat×Nat),fun q=>⟨[(1,.ptr 1 0),(2,.ptr 3 0),(3,.ptr 2 0),(7,.v (.slice a2 n2 k2)),(8,.v (.int .i64 n2)),(9,.v (.int .i64 q.1))],bU q.2.2 k a n c,4⟩,
  fun q H'=>Le H H'∧q.1≤l.length∧RL H' q.2.2.1 q.2.2.2.1 q.2.2.2.2 q.2.1∧okB V.length q.2.1∧q.2.1=useF V kill gen (l.take q.1),fun q=>l.length - q.1,⟨(0,gen,g),[(0,0),(1,1),(2,2),(3,3)],?_,Le.refl H,Nat.zero_le _,hgr,hg,rfl⟩,?_⟩
 ·(repeat' (first|exact trivial|refine⟨?_,?_⟩|exact rfl|assumption))
 rintro⟨i,u,g1,g2,g3⟩ H1 _ ⟨hle,hi,hr,hu,hx⟩;dsimp only at hi hr hu hx;refine⟨fun h=>?_,fun h=>?_⟩
 ·have hlt:i<l.length:=by have:=dt h;dsimp only at this;omega
  have hst:useF V kill gen (l.take (i+1))=bOr u (bDiff (oneV V l[i]) kill):=by
   rw[useF,List.take_add_one,List.getElem?_eq_getElem hlt,Option.toList_some,List.foldl_append,hx];rfl
  refine str_k (hb.up hle) (List.getElem?_eq_getElem hlt) fun ad e1 hh _=>?_
  refine⟨ad,⟨by dsimp only;omega,by dsimp only;omega,e1⟩,?_⟩;refine⟨_,hh,?_⟩;refine⟨none,?_⟩
  refine region_plan (α:=Option Addr×Nat×Nat) ?_ ?_ (.two 0 3 (.one [1000000,0,1] [0,1,2,4,3,5,6,7]) (.two 0 5 (.one [1000000,0,1] [1,2,4,3,0,5,6,7]) (.one [1000000,0,1] [1,2,4,3,5,0,6,7])))
   (fun g'=>⟨[(1,.ptr 1 0),(2,.ptr 3 0),(3,.ptr 2 0),(7,.v (.slice a2 n2 k2)),(8,.v (.int .i64 n2)),(9,.v (.int .i64 i))],bU g' k a n c,4⟩) (fun g' H'=>Le H H'∧RL H' g'.1 g'.2.1 g'.2.2 (bOr u (bDiff (oneV V l[i]) kill))) (by kernel_rfl) ⟨?_,?_,?_⟩ ?_
  ·exact⟨cx_ok.tt,cx_ok.eqs⟩
  ·exact cx_mix
  ·refine⟨[0],rfl,one1_spec hV (ha.up hle) fun a3 n3 c3 H3 hle3 hr3=>?_⟩
   refine wminus_spec hV (oneV_ok V _).1 hk.1 hr3 (hkr.up (hle.trans hle3)) fun a4 n4 c4 H4 hle4 hr4=>?_
   refine wunion_spec hV hu.1 (bDiff_ok (oneV_ok V _) hk).1 (hr.up (hle3.trans hle4)) hr4 fun a5 n5 c5 H5 hle5 hr5=>?_
   exact⟨(a5,n5,c5),[(0,0),(1,1),(2,2),(3,3)],by (repeat' (first|exact trivial|refine⟨?_,?_⟩|exact rfl|assumption)),((hle.trans hle3).trans hle4).trans hle5,hr5⟩
  ·refine⟨[0],rfl,one1_spec hV (ha.up hle) fun a3 n3 c3 H3 hle3 hr3=>?_⟩
   refine wminus_spec hV (oneV_ok V _).1 hk.1 hr3 (hkr.up (hle.trans hle3)) fun a4 n4 c4 H4 hle4 hr4=>?_
   refine wunion_spec hV hu.1 (bDiff_ok (oneV_ok V _) hk).1 (hr.up (hle3.trans hle4)) hr4 fun a5 n5 c5 H5 hle5 hr5=>?_
   exact⟨(a5,n5,c5),[(0,0),(1,1),(2,2),(3,3)],by (repeat' (first|exact trivial|refine⟨?_,?_⟩|exact rfl|assumption)),((hle.trans hle3).trans hle4).trans hle5,hr5⟩
  ·refine⟨[0],rfl,one1_spec hV (ha.up hle) fun a3 n3 c3 H3 hle3 hr3=>?_⟩
   refine wminus_spec hV (oneV_ok V _).1 hk.1 hr3 (hkr.up (hle.trans hle3)) fun a4 n4 c4 H4 hle4 hr4=>?_
   refine wunion_spec hV hu.1 (bDiff_ok (oneV_ok V _) hk).1 (hr.up (hle3.trans hle4)) hr4 fun a5 n5 c5 H5 hle5 hr5=>?_
   exact⟨(a5,n5,c5),[(0,0),(1,1),(2,2),(3,3)],by (repeat' (first|exact trivial|refine⟨?_,?_⟩|exact rfl|assumption)),((hle.trans hle3).trans hle4).trans hle5,hr5⟩
  rintro⟨g4,g5,g6⟩ H4 _ ⟨hle4,hr4⟩;refine⟨⟨by omega,by omega⟩,(i+1,bOr u (bDiff (oneV V l[i]) kill),(g4,g5,g6)),[(0,0),(1,1),(2,2),(3,3)],?_,⟨hle4,hlt,hr4,bOr_ok hu (bDiff_ok (oneV_ok _ _) hk),hst.symm⟩,by dsimp only;omega⟩
  (repeat' (first|exact trivial|refine⟨?_,?_⟩|exact rfl|assumption))
 ·have hil:i=l.length:=by have:=df h;dsimp only at this;omega
  rw[hil,List.take_length]at hx;rw[hx]at hr;exact⟨.tup [],bU (g1,g2,g3) k a n c,4,[(0,0),(1,1),(2,2),(3,3)],by (repeat' (first|exact trivial|refine⟨?_,?_⟩|exact rfl|assumption)),hK (g1,g2,g3) H1 hle hr⟩
end Go.Proofs
end
section
namespace Go.Proofs
open Go.Sy
set_option maxRecDepth 20000
set_option maxHeartbeats 4000000
abbrev blkL (v:Value) (b:Block):List Value:=[.string (bs b.1.l),v,.int .i64 b.2.2.1,.string (bs b.2.2.2.1.1.l),.int .i64 b.2.2.2.1.2.1,.int .i64 b.2.2.2.1.2.2,.string (bs b.2.2.2.2.1.l),.string (bs b.2.2.2.2.2.l)]
abbrev blkA (v:Value) (b:Block):Value:=.agg (blkL v b).toArray
theorem ltrans_spec {V:List Bs8} (hV:V.length≤1024) {b:Block} (hb:b.2.1.length≤100000) (hT:termR b.2.2) {a la:Option Addr} {n c ln lc:Nat} {H:Hp} {K:Value→Hp→Prop} (ha:RL H a n c (ens V)) (hl:RL H la ln lc b.2.1) (hK:∀z H',Le H H'→Bt.TrR H' (trF V b) z→K (Bt.trA z) H'):
  Does Tryz.prog 56 [.slice a n c,blkA (.slice la ln lc) b] H K:=by
 have hn:=ha.n_eq;rw[List.length_map]at hn;subst hn;have hln:=hl.n_eq;refine spec_of cx_ok cx_mix rfl Tryz.func56 Tryz.call56 Tryz.ntmps56 Tryz.results56 rfl rfl ?_;refine⟨none,?_⟩
 refine region_plan (α:=(Option Addr×Nat×Nat)×(Option Addr×Nat×Nat)) ?_ ?_ (.two 2 6 (.two 2 7 (.two 5 6 (.two 5 7 (.two 6 7 (.one [1000000,3,4] [0,1,3,4,2,5,6,7,8,9]) (.one [1000000,3,4] [0,1,3,4,2,5,7,6,8,9])) (.one [1000000,3,4] [0,1,3,4,2,7,5,6,8,9])) (.two 5 7 (.one [1000000,3,4] [0,1,3,4,2,6,5,7,8,9]) (.two 6 7 (.one [1000000,3,4] [0,1,3,4,2,6,7,5,8,9]) (.one [1000000,3,4] [0,1,3,4,2,7,6,5,8,9])))) (.two 5 6 (.one [1000000,3,4] [0,1,3,4,7,2,5,6,8,9]) (.one [1000000,3,4] [0,1,3,4,7,2,6,5,8,9]))) (.two 2 7 (.two 5 7 (.one [1000000,3,4] [0,1,3,4,6,2,5,7,8,9]) (.one [1000000,3,4] [0,1,3,4,6,2,7,5,8,9])) (.two 6 7 (.one [1000000,3,4] [0,1,3,4,6,7,2,5,8,9]) (.one [1000000,3,4] [0,1,3,4,7,6,2,5,8,9]))))
  (fun q=>⟨[(2,.ptr 0 0),(3,.ptr 1 0),(4,.ptr 2 0),(5,.ptr 3 0),(6,.ptr 4 0)],[(0,.cells 36 [.v (.slice a V.length c)]),(1,.cells 53 (vL (blkL (.slice la ln lc) b))),(2,.cells 78 [.v (.slice none 0 0),.v (.slice none 0 0),.v (.slice none 0 0)]),(3,.cells 25 [.v (.slice q.1.1 q.1.2.1 q.1.2.2)]),(4,.cells 25 [.v (.slice q.2.1 q.2.2.1 q.2.2.2)])],5⟩)
  (fun q H'=>Le H H'∧RL H' q.1.1 q.1.2.1 q.1.2.2 (nilB V.length)∧RL H' q.2.1 q.2.2.1 q.2.2.2 (nilB V.length)) (by kernel_rfl) ?_ ?_
 ·exact⟨cx_ok.tt,cx_ok.eqs⟩
 ·exact cx_mix
 ·refine⟨?_,?_⟩
  ·refine⟨?_,?_⟩
   ·refine⟨?_,?_⟩
    ·refine⟨?_,?_⟩
     ·refine⟨?_,?_⟩
      ·refine wof_spec hV (l:=[]) rl_nil fun g1 g2 g3 H1 hle1 hg1=>?_
       refine wof_spec hV (l:=[]) rl_nil fun k1 k2 k3 H2 hle2 hk1=>?_
       exact⟨((g1,g2,g3),(k1,k2,k3)),[(0,0),(1,1),(2,2),(3,3),(4,4)],by (repeat' (first|exact trivial|refine⟨?_,?_⟩|exact rfl|assumption)),hle1.trans hle2,hg1.up hle2,hk1⟩
      ·refine wof_spec hV (l:=[]) rl_nil fun g1 g2 g3 H1 hle1 hg1=>?_
       refine wof_spec hV (l:=[]) rl_nil fun k1 k2 k3 H2 hle2 hk1=>?_
       exact⟨((g1,g2,g3),(k1,k2,k3)),[(0,0),(1,1),(2,2),(3,4),(4,3)],by (repeat' (first|exact trivial|refine⟨?_,?_⟩|exact rfl|assumption)),hle1.trans hle2,hg1.up hle2,hk1⟩
     ·refine wof_spec hV (l:=[]) rl_nil fun g1 g2 g3 H1 hle1 hg1=>?_
      refine wof_spec hV (l:=[]) rl_nil fun k1 k2 k3 H2 hle2 hk1=>?_
      exact⟨((g1,g2,g3),(k1,k2,k3)),[(0,0),(1,1),(2,2),(3,4),(4,3)],by (repeat' (first|exact trivial|refine⟨?_,?_⟩|exact rfl|assumption)),hle1.trans hle2,hg1.up hle2,hk1⟩
    ·refine⟨?_,?_⟩
     ·refine wof_spec hV (l:=[]) rl_nil fun g1 g2 g3 H1 hle1 hg1=>?_
      refine wof_spec hV (l:=[]) rl_nil fun k1 k2 k3 H2 hle2 hk1=>?_
      exact⟨((g1,g2,g3),(k1,k2,k3)),[(0,0),(1,1),(2,2),(3,3),(4,4)],by (repeat' (first|exact trivial|refine⟨?_,?_⟩|exact rfl|assumption)),hle1.trans hle2,hg1.up hle2,hk1⟩
     ·refine⟨?_,?_⟩
      ·refine wof_spec hV (l:=[]) rl_nil fun g1 g2 g3 H1 hle1 hg1=>?_
       refine wof_spec hV (l:=[]) rl_nil fun k1 k2 k3 H2 hle2 hk1=>?_
       exact⟨((g1,g2,g3),(k1,k2,k3)),[(0,0),(1,1),(2,2),(3,3),(4,4)],by (repeat' (first|exact trivial|refine⟨?_,?_⟩|exact rfl|assumption)),hle1.trans hle2,hg1.up hle2,hk1⟩
      ·refine wof_spec hV (l:=[]) rl_nil fun g1 g2 g3 H1 hle1 hg1=>?_
       refine wof_spec hV (l:=[]) rl_nil fun k1 k2 k3 H2 hle2 hk1=>?_
       exact⟨((g1,g2,g3),(k1,k2,k3)),[(0,0),(1,1),(2,2),(3,4),(4,3)],by (repeat' (first|exact trivial|refine⟨?_,?_⟩|exact rfl|assumption)),hle1.trans hle2,hg1.up hle2,hk1⟩
   ·refine⟨?_,?_⟩
    ·refine wof_spec hV (l:=[]) rl_nil fun g1 g2 g3 H1 hle1 hg1=>?_
     refine wof_spec hV (l:=[]) rl_nil fun k1 k2 k3 H2 hle2 hk1=>?_
     exact⟨((g1,g2,g3),(k1,k2,k3)),[(0,0),(1,1),(2,2),(3,4),(4,3)],by (repeat' (first|exact trivial|refine⟨?_,?_⟩|exact rfl|assumption)),hle1.trans hle2,hg1.up hle2,hk1⟩
    ·refine wof_spec hV (l:=[]) rl_nil fun g1 g2 g3 H1 hle1 hg1=>?_
     refine wof_spec hV (l:=[]) rl_nil fun k1 k2 k3 H2 hle2 hk1=>?_
     exact⟨((g1,g2,g3),(k1,k2,k3)),[(0,0),(1,1),(2,2),(3,4),(4,3)],by (repeat' (first|exact trivial|refine⟨?_,?_⟩|exact rfl|assumption)),hle1.trans hle2,hg1.up hle2,hk1⟩
  ·refine⟨?_,?_⟩
   ·refine⟨?_,?_⟩
    ·refine wof_spec hV (l:=[]) rl_nil fun g1 g2 g3 H1 hle1 hg1=>?_
     refine wof_spec hV (l:=[]) rl_nil fun k1 k2 k3 H2 hle2 hk1=>?_
     exact⟨((g1,g2,g3),(k1,k2,k3)),[(0,0),(1,1),(2,2),(3,3),(4,4)],by (repeat' (first|exact trivial|refine⟨?_,?_⟩|exact rfl|assumption)),hle1.trans hle2,hg1.up hle2,hk1⟩
    ·refine wof_spec hV (l:=[]) rl_nil fun g1 g2 g3 H1 hle1 hg1=>?_
     refine wof_spec hV (l:=[]) rl_nil fun k1 k2 k3 H2 hle2 hk1=>?_
     exact⟨((g1,g2,g3),(k1,k2,k3)),[(0,0),(1,1),(2,2),(3,3),(4,4)],by (repeat' (first|exact trivial|refine⟨?_,?_⟩|exact rfl|assumption)),hle1.trans hle2,hg1.up hle2,hk1⟩
   ·refine⟨?_,?_⟩
    ·refine wof_spec hV (l:=[]) rl_nil fun g1 g2 g3 H1 hle1 hg1=>?_
     refine wof_spec hV (l:=[]) rl_nil fun k1 k2 k3 H2 hle2 hk1=>?_
     exact⟨((g1,g2,g3),(k1,k2,k3)),[(0,0),(1,1),(2,2),(3,3),(4,4)],by (repeat' (first|exact trivial|refine⟨?_,?_⟩|exact rfl|assumption)),hle1.trans hle2,hg1.up hle2,hk1⟩
    ·refine wof_spec hV (l:=[]) rl_nil fun g1 g2 g3 H1 hle1 hg1=>?_
     refine wof_spec hV (l:=[]) rl_nil fun k1 k2 k3 H2 hle2 hk1=>?_
     exact⟨((g1,g2,g3),(k1,k2,k3)),[(0,0),(1,1),(2,2),(3,4),(4,3)],by (repeat' (first|exact trivial|refine⟨?_,?_⟩|exact rfl|assumption)),hle1.trans hle2,hg1.up hle2,hk1⟩
 rintro⟨⟨g1,g2,g3⟩,⟨k1,k2,k3⟩⟩ H1 _ ⟨hle1,hg1,hk1⟩
 refine⟨Nat×(Wd×Wd)×(Option Addr×Nat×Nat)×(Option Addr×Nat×Nat),fun q=>⟨[(3,.ptr 1 0),(4,.ptr 2 0),(5,.ptr 3 0),(6,.ptr 4 0),(7,.ptr 5 0),(8,.fn 103 [.ptr 3 0,.ptr 5 0,.ptr 4 0]),(20,.v (.slice la ln lc)),(21,.v (.int .i64 ln)),(22,.v (.int .i64 q.1))],
  [(0,.cells 36 [.v (.slice a V.length c)]),(1,.cells 53 (vL (blkL (.slice la ln lc) b))),(2,.cells 78 [.v (.slice none 0 0),.v (.slice none 0 0),.v (.slice none 0 0)]),(3,.cells 25 [.v (.slice q.2.2.1.1 q.2.2.1.2.1 q.2.2.1.2.2)]),(4,.cells 25 [.v (.slice q.2.2.2.1 q.2.2.2.2.1 q.2.2.2.2.2)]),(5,.cells 135 [.fn 101 [.ptr 0 0]])],6⟩,
  fun q H'=>Le H H'∧q.1≤b.2.1.length∧RL H' q.2.2.1.1 q.2.2.1.2.1 q.2.2.1.2.2 q.2.1.1∧RL H' q.2.2.2.1 q.2.2.2.2.1 q.2.2.2.2.2 q.2.1.2∧(okB V.length q.2.1.1∧okB V.length q.2.1.2)∧q.2.1=(b.2.1.take q.1).foldl (stmF V) (nilB V.length,nilB V.length),
  fun q=>b.2.1.length - q.1,⟨(0,(nilB V.length,nilB V.length),(g1,g2,g3),(k1,k2,k3)),[(0,0),(1,1),(2,2),(3,3),(4,4),(5,5)],?_,hle1,Nat.zero_le _,hg1,hk1,⟨nilB_ok _,nilB_ok _⟩,rfl⟩,?_⟩
 ·(repeat' (first|exact trivial|refine⟨?_,?_⟩|exact rfl|assumption))
 rintro⟨i,z,⟨g1,g2,g3⟩,⟨k1,k2,k3⟩⟩ H2 _ ⟨hle2,hi,hg2,hk2,hz,hx⟩;dsimp only at hi hg2 hk2 hz hx;refine⟨fun h=>?_,fun h=>?_⟩
 ·have hlt:i<b.2.1.length:=by have:=dt h;dsimp only at this;omega
  refine name_k b.2.1[i] fun s hs=>?_
  have hss:b.2.1[i]?=some s:=by rw[hs];exact List.getElem?_eq_getElem hlt
  have hst:(b.2.1.take (i+1)).foldl (stmF V) (nilB V.length,nilB V.length)=stmF V z s:=by
   rw[hx,List.take_add_one,hss,Option.toList_some,List.foldl_append];rfl
  have hzs:=stmF_ok hz s
  refine stmt_k (hl.up hle2) hss fun ad e1 hh hsR=>?_
  refine⟨ad,⟨by dsimp only;omega,by dsimp only;omega,e1⟩,?_⟩;refine⟨_,hh,?_⟩
  refine luses_spec hsR fun u1 u2 u3 H3 hle3 hu3=>?_
  refine⟨[0,3,4,5],rfl,use_spec (g:=(g1,g2,g3)) (k:=(k1,k2,k3)) hV hz.2 hz.1 (ha.up (hle2.trans hle3)) hu3 (hg2.up hle3) (hk2.up hle3) fun g' H4 hle4 hg4=>?_⟩;have hle4':=(hle2.trans hle3).trans hle4;refine⟨fun h=>?_,fun h=>?_⟩
  ·have hk3:¬s.1=3:=nt h
   have hsv:stmF V z s=(useF V z.2 z.1 (usesS s),bOr z.2 (oneV V s.2.1.l)):=by rw[stmF,if_neg hk3]
   refine⟨none,?_⟩
   refine region_plan (α:=Option Addr×Nat×Nat) ?_ ?_ (.two 0 4 (.one [1000000,0,4] [0,1,2,3,4,5,6]) (.one [1000000,0,4] [1,2,3,4,0,5,6]))
    (fun k'=>⟨[(3,.ptr 1 0),(4,.ptr 2 0),(5,.ptr 3 0),(6,.ptr 4 0),(7,.ptr 5 0),(8,.fn 103 [.ptr 3 0,.ptr 5 0,.ptr 4 0]),(20,.v (.slice la ln lc)),(21,.v (.int .i64 ln)),(22,.v (.int .i64 i))],
  [(0,.cells 36 [.v (.slice a V.length c)]),(1,.cells 53 (vL (blkL (.slice la ln lc) b))),(2,.cells 78 [.v (.slice none 0 0),.v (.slice none 0 0),.v (.slice none 0 0)]),(3,.cells 25 [.v (.slice g'.1 g'.2.1 g'.2.2)]),(4,.cells 25 [.v (.slice k'.1 k'.2.1 k'.2.2)]),(5,.cells 135 [.fn 101 [.ptr 0 0]])],6⟩)
    (fun k' H'=>Le H4 H'∧RL H' k'.1 k'.2.1 k'.2.2 (bOr z.2 (oneV V s.2.1.l))) (by kernel_rfl) ⟨?_,?_⟩ ?_
   ·exact⟨cx_ok.tt,cx_ok.eqs⟩
   ·exact cx_mix
   ·refine⟨[0],rfl,one1_spec hV (ha.up hle4') fun a3 n3 c3 H5 hle5 hr5=>?_⟩
    refine wunion_spec hV hz.2.1 (oneV_ok V _).1 (hk2.up ((hle3.trans hle4).trans hle5)) hr5 fun a6 n6 c6 H6 hle6 hr6=>?_
    exact⟨(a6,n6,c6),[(0,0),(1,1),(2,2),(3,3),(4,4),(5,5)],by (repeat' (first|exact trivial|refine⟨?_,?_⟩|exact rfl|assumption)),hle5.trans hle6,hr6⟩
   ·refine⟨[0],rfl,one1_spec hV (ha.up hle4') fun a3 n3 c3 H5 hle5 hr5=>?_⟩
    refine wunion_spec hV hz.2.1 (oneV_ok V _).1 (hk2.up ((hle3.trans hle4).trans hle5)) hr5 fun a6 n6 c6 H6 hle6 hr6=>?_
    exact⟨(a6,n6,c6),[(0,0),(1,1),(2,2),(3,3),(4,4),(5,5)],by (repeat' (first|exact trivial|refine⟨?_,?_⟩|exact rfl|assumption)),hle5.trans hle6,hr6⟩
   rintro⟨k4,k5,k6⟩ H6 _ ⟨hle6,hk6⟩;refine⟨⟨by omega,by omega⟩,(i+1,stmF V z s,g',(k4,k5,k6)),[(0,0),(1,1),(2,2),(3,3),(4,4),(5,5)],?_,⟨hle4'.trans hle6,hlt,by rw[hsv];exact hg4.up hle6,by rw[hsv];exact hk6,hzs,hst.symm⟩,by dsimp only;omega⟩
   (repeat' (first|exact trivial|refine⟨?_,?_⟩|exact rfl|assumption))
  ·have hk3:s.1=3:=nf h
   have hsv:stmF V z s=(useF V z.2 z.1 (usesS s),z.2):=by rw[stmF,if_pos hk3]
   refine⟨⟨by dsimp only;omega,by dsimp only;omega⟩,(i+1,stmF V z s,g',(k1,k2,k3)),[(0,0),(1,1),(2,2),(3,3),(4,4),(5,5)],?_,⟨hle4',hlt,by rw[hsv];exact hg4,by rw[hsv];exact hk2.up (hle3.trans hle4),hzs,hst.symm⟩,by dsimp only;omega⟩
   (repeat' (first|exact trivial|refine⟨?_,?_⟩|exact rfl|assumption))
 ·have hil:i=b.2.1.length:=by have:=df h;dsimp only at this;omega
  rw[hil,List.take_length]at hx;intro v H6 hle6 hv6;obtain⟨a7,n7,c7,rfl,hr7⟩:=RL.of_row (α:=Str) (css:=sRows [b.2.2.2.1.1.l]) (xs:=ens [b.2.2.2.1.1.l]) hv6 (rc_sRows fun s hs=>by rw[List.mem_singleton.1 hs];exact hT.2.1.1)
  refine lsorted_spec (l:=[b.2.2.2.1.1.l]) (by show 1≤100000;omega) hr7 fun u1 u2 u3 H7 hle7 hu7=>?_
  have hle7':=hle6.le.trans hle7;refine⟨[0,3,4,5],rfl,use_spec (g:=(g1,g2,g3)) (k:=(k1,k2,k3)) hV hz.2 hz.1 (ha.up (hle2.trans hle7')) hu7 (hg2.up hle7') (hk2.up hle7') fun g' H8 hle8 hg8=>?_⟩
  have etr:trF V b=(useF V z.2 z.1 (nmsOf [b.2.2.2.1.1.l]),z.2):=by rw[trF,←hx]
  refine hK ⟨g'.1,g'.2.1,g'.2.2,k1,k2,k3⟩ H8 ((hle2.trans hle7').trans hle8) ?_;rw[etr];exact⟨hg8,hk2.up (hle7'.trans hle8)⟩
end Go.Proofs
end
section
namespace Go.Proofs
open Go.Sy
set_option maxRecDepth 20000
set_option maxHeartbeats 4000000
theorem exits_spec {p:Prog} (hp:p.length≤12) {a:Option Addr} {n c:Nat} {H:Hp} {K:Value→Hp→Prop} (ha:RL H a n c p)
 (hK:∀a1 n1 c1 H',Le H H'→RL H' a1 n1 c1 (exitsOf p)→K (.slice a1 n1 c1) H'):Does Tryz.prog 54 [.agg #[.slice a n c]] H K:=by
 have hn1:=ha.n_eq;have hmx:=ha.le;refine spec_of cx_ok cx_mix rfl Tryz.func54 Tryz.call54 Tryz.ntmps54 Tryz.results54 rfl rfl ?_
 refine⟨Nat,fun i=>⟨[(3,.own 0),(7,.v (.slice a n c)),(8,.v (.int .i64 n)),(9,.v (.int .i64 i))],[(0,.row 3 1 (iRows (idxP isExit (p.take i) 0)))],1⟩,
  fun i H'=>H'=H∧i≤p.length,fun i=>p.length - i,⟨0,[],?_,rfl,by omega⟩,?_⟩
 ·exact⟨⟨⟨rfl,rfl,rfl⟩,rfl,rfl,rfl,trivial⟩,⟨rfl,trivial⟩⟩
 rintro i H1 _ ⟨rfl,hi⟩;refine⟨fun h=>?_,fun h=>?_⟩
 ·have hlt:i<p.length:=by have:=dt h;omega
  obtain⟨ad,cs,q1,hh,r1⟩:=ha.elem (List.getElem?_eq_getElem hlt);obtain⟨a2,n2,c2,rfl,hr2,hnm,htm⟩:=block_open r1;have hst:=idxP_take isExit hlt;have hlen:=idxP_len isExit (p.take i) 0;rw[List.length_take,Nat.min_eq_left (by omega)]at hlen;have hel:(iRows (idxP isExit (p.take i) 0)).length=(idxP isExit (p.take i) 0).length:=List.length_map _;refine⟨ad,⟨by omega,by omega,q1⟩,?_⟩;refine⟨_,hh,?_⟩;refine⟨fun h=>?_,fun h=>?_⟩
  ·have he:isExit p[i]=true:=h;rw[he,if_pos rfl]at hst;refine⟨⟨by show ((iRows (idxP isExit (p.take i) 0)).length+1)*8≤_;omega,by show (iRows (idxP isExit (p.take i) 0)).length+1≤_;omega⟩,?_⟩
   have erow:iRows (idxP isExit (p.take i) 0)++[[.int .i64 (i:Int)]]=iRows (idxP isExit (p.take (i+1)) 0):=by rw[hst];simp
   refine⟨⟨by omega,by omega⟩,i+1,[(0,3)],?_,⟨rfl,by omega⟩,by dsimp only;omega⟩;exact⟨⟨rfl,rfl,rfl,rfl,trivial⟩,⟨erow,trivial⟩⟩
  ·have he:isExit p[i]=false:=h;rw[he]at hst
   have erow:iRows (idxP isExit (p.take i) 0)=iRows (idxP isExit (p.take (i+1)) 0):=by rw[hst];simp
   refine⟨⟨by omega,by omega⟩,i+1,[(0,0)],?_,⟨rfl,by omega⟩,by dsimp only;omega⟩;exact⟨⟨rfl,rfl,rfl,rfl,trivial⟩,⟨erow,trivial⟩⟩
 ·have hil:i=p.length:=by have:=df h;omega
  intro x H2 hle2 hx;rw[hil,List.take_length]at hx;obtain⟨a1,n1,c1,rfl,hr⟩:=rI_all hx (idxP_in _ _ _ (by omega));exact hK _ _ _ _ hle2 hr
theorem vars64 {p:Prog} (h:checkE p=0):(varsOf p).length≤64:=by
 unfold checkE at h;split at h
 ·cases h
 ·split at h
  ·split at h
   ·cases h
   ·omega
  ·cases h
def lsysOf (p:Prog):Bt.SyB:=⟨1,(varsOf p).length,p.length,gSort (revL (gSort (edgesOf p))),exitsOf p,nilB (varsOf p).length,p.map (trF (varsOf p))⟩
theorem trb_snoc {H:Hp} {css:List (List Value)} {T:List Bt.TrB} (h:RC (α:=Bt.TrB) H css T) {z:Bt.TA} {t:Wd×Wd} (hx:Bt.TrR H t z):RC (α:=Bt.TrB) H (css++[Bt.trV z]) (T++[Bt.TrB.mk t]) :=
 RC.snoc h (show Enc.R (α:=Bt.TrB) H (Bt.trV z) (Bt.TrB.mk t) from ⟨z,rfl,hx⟩)
theorem lsysT_take {p:Prog} {i:Nat} {b:Block} (h:p[i]?=some b):((lsysOf p).T.map Bt.TrB.mk).take (i+1)=((lsysOf p).T.map Bt.TrB.mk).take i++[Bt.TrB.mk (trF (varsOf p) b)]:=by
 have e:((lsysOf p).T.map Bt.TrB.mk)[i]?=some (Bt.TrB.mk (trF (varsOf p) b)):=by
  show ((p.map (trF (varsOf p))).map Bt.TrB.mk)[i]?=_
  rw[List.getElem?_map,List.getElem?_map,h];rfl
 rw[List.take_add_one,e,Option.toList_some]
theorem edges_few {p:Prog} (hp:p.length≤12):(gSort (edgesOf p)).length≤1000000:=by
 have h1:=gSort_len (edgesOf p);have h2:=eAll_len p p 0;rw[edgesOf]at h1 ⊢;omega
theorem lsys_spec {p:Prog} (hp:p.length≤12) (hl:∀b∈p,b.2.1.length≤100000) (hc:stmtsN p≤1000000) (hv:cnt p<400000) {a:Option Addr} {n c:Nat} {H:Hp} {K:Value→Hp→Prop} (ha:RL H a n c p)
  (hbad:checkE p≠0→∀H',Le H H'→K (.tuple #[.agg zSys.toArray,.int .i64 (checkE p)]) H')
  (hK:checkE p=0→∀z H',Le H H'→Bt.SysR H' (lsysOf p) z→K (.tuple #[Bt.sysA (lsysOf p) z,.int .i64 0]) H'):Does Tryz.prog 16 [.agg #[.slice a n c]] H K:=by
 have hn:=ha.n_eq;have hmx:=ha.le;refine spec_of cx_ok cx_mix rfl Tryz.func16 Tryz.call16 Tryz.ntmps16 Tryz.results16 rfl rfl ?_
 refine pcheck_spec ha hc hv fun H0 hle0=>?_
 refine⟨fun h=>?_,fun h=>?_⟩
 ·exact hbad (nt h) _ (Le.refl H)
 have he:checkE p=0:=nf h;have hK:=hK he;have hv64:=vars64 he
 refine pvars_spec ha hv fun av nv cv H1 hle1 hrv=>?_
 have hnv:=hrv.n_eq;rw[List.length_map]at hnv;subst hnv;refine⟨none,?_⟩
 refine region_plan (α:=SA) ?_ ?_
  (.two 6 14 (.two 7 14 (.two 9 14 (.two 12 14 (.two 13 14 (.one [2] [0,1,2,3,4,5,8,10,11,6,7,9,12,13,14,15]) (.one [2] [0,1,2,3,4,5,8,10,11,6,7,9,12,14,13,15])) (.one [2] [0,1,2,3,4,5,8,10,11,6,7,9,14,12,13,15])) (.one [2] [0,1,2,3,4,5,8,10,11,6,7,14,9,12,13,15])) (.one [2] [0,1,2,3,4,5,8,10,11,6,14,7,9,12,13,15])) (.one [2] [0,1,2,3,4,5,8,10,11,14,6,7,9,12,13,15]))
  (fun z=>⟨[(1,.ptr 0 0),(2,.ptr 1 0),(5,.v (.slice av (varsOf p).length cv)),(6,.ptr 2 0)],
   [(0,.cells 24 [.v (.slice a n c)]),(1,.cells 32 (vL zSys)),(2,.cells 32 (vL (Bt.sysV ⟨1,(varsOf p).length,n,[],[],[],[]⟩ z)))],3⟩)
  (fun z H'=>Le H1 H'∧z.ta=none∧z.tn=0∧z.tc=0∧RL H' z.ea z.en z.ec (gSort (revL (gSort (edgesOf p))))∧RL H' z.na z.nn z.nc (exitsOf p)∧RL H' z.ia z.ni z.ic (nilB (varsOf p).length)) (by kernel_rfl) ?_ ?_
 ·exact⟨cx_ok.tt,cx_ok.eqs⟩
 ·exact cx_mix
 ·refine⟨?_,?_⟩
  ·refine⟨?_,?_⟩
   ·refine⟨?_,?_⟩
    ·refine⟨?_,?_⟩
     ·refine⟨?_,?_⟩
      ·refine edges_spec hp (ha.up hle1) fun e1 e2 e3 H2 hle2 hr2=>?_
       refine reverse_spec (edges_few hp) hr2 fun f1 f2 f3 H3 hle3 hr3=>?_
       refine exits_spec hp (ha.up ((hle1.trans hle2).trans hle3)) fun x1 x2 x3 H4 hle4 hr4=>?_
       refine wof_spec (w:=(varsOf p).length) (l:=[]) (by omega) rl_nil fun w1 w2 w3 H5 hle5 hr5=>?_
       exact⟨⟨f1,f2,f3,x1,x2,x3,w1,w2,w3,none,0,0⟩,[(0,0),(1,1),(2,2)],by (repeat' (first|exact trivial|refine⟨?_,?_⟩|exact rfl|assumption)),((hle2.trans hle3).trans hle4).trans hle5,rfl,rfl,rfl,hr3.up (hle4.trans hle5),hr4.up hle5,hr5⟩
      ·refine edges_spec hp (ha.up hle1) fun e1 e2 e3 H2 hle2 hr2=>?_
       refine reverse_spec (edges_few hp) hr2 fun f1 f2 f3 H3 hle3 hr3=>?_
       refine exits_spec hp (ha.up ((hle1.trans hle2).trans hle3)) fun x1 x2 x3 H4 hle4 hr4=>?_
       refine wof_spec (w:=(varsOf p).length) (l:=[]) (by omega) rl_nil fun w1 w2 w3 H5 hle5 hr5=>?_
       exact⟨⟨f1,f2,f3,x1,x2,x3,w1,w2,w3,none,0,0⟩,[(0,0),(1,1),(2,2)],by (repeat' (first|exact trivial|refine⟨?_,?_⟩|exact rfl|assumption)),((hle2.trans hle3).trans hle4).trans hle5,rfl,rfl,rfl,hr3.up (hle4.trans hle5),hr4.up hle5,hr5⟩
     ·refine edges_spec hp (ha.up hle1) fun e1 e2 e3 H2 hle2 hr2=>?_
      refine reverse_spec (edges_few hp) hr2 fun f1 f2 f3 H3 hle3 hr3=>?_
      refine exits_spec hp (ha.up ((hle1.trans hle2).trans hle3)) fun x1 x2 x3 H4 hle4 hr4=>?_
      refine wof_spec (w:=(varsOf p).length) (l:=[]) (by omega) rl_nil fun w1 w2 w3 H5 hle5 hr5=>?_
      exact⟨⟨f1,f2,f3,x1,x2,x3,w1,w2,w3,none,0,0⟩,[(0,0),(1,1),(2,2)],by (repeat' (first|exact trivial|refine⟨?_,?_⟩|exact rfl|assumption)),((hle2.trans hle3).trans hle4).trans hle5,rfl,rfl,rfl,hr3.up (hle4.trans hle5),hr4.up hle5,hr5⟩
    ·refine edges_spec hp (ha.up hle1) fun e1 e2 e3 H2 hle2 hr2=>?_
     refine reverse_spec (edges_few hp) hr2 fun f1 f2 f3 H3 hle3 hr3=>?_
     refine exits_spec hp (ha.up ((hle1.trans hle2).trans hle3)) fun x1 x2 x3 H4 hle4 hr4=>?_
     refine wof_spec (w:=(varsOf p).length) (l:=[]) (by omega) rl_nil fun w1 w2 w3 H5 hle5 hr5=>?_
     exact⟨⟨f1,f2,f3,x1,x2,x3,w1,w2,w3,none,0,0⟩,[(0,0),(1,1),(2,2)],by (repeat' (first|exact trivial|refine⟨?_,?_⟩|exact rfl|assumption)),((hle2.trans hle3).trans hle4).trans hle5,rfl,rfl,rfl,hr3.up (hle4.trans hle5),hr4.up hle5,hr5⟩
   ·refine edges_spec hp (ha.up hle1) fun e1 e2 e3 H2 hle2 hr2=>?_
    refine reverse_spec (edges_few hp) hr2 fun f1 f2 f3 H3 hle3 hr3=>?_
    refine exits_spec hp (ha.up ((hle1.trans hle2).trans hle3)) fun x1 x2 x3 H4 hle4 hr4=>?_
    refine wof_spec (w:=(varsOf p).length) (l:=[]) (by omega) rl_nil fun w1 w2 w3 H5 hle5 hr5=>?_
    exact⟨⟨f1,f2,f3,x1,x2,x3,w1,w2,w3,none,0,0⟩,[(0,0),(1,1),(2,2)],by (repeat' (first|exact trivial|refine⟨?_,?_⟩|exact rfl|assumption)),((hle2.trans hle3).trans hle4).trans hle5,rfl,rfl,rfl,hr3.up (hle4.trans hle5),hr4.up hle5,hr5⟩
  ·refine edges_spec hp (ha.up hle1) fun e1 e2 e3 H2 hle2 hr2=>?_
   refine reverse_spec (edges_few hp) hr2 fun f1 f2 f3 H3 hle3 hr3=>?_
   refine exits_spec hp (ha.up ((hle1.trans hle2).trans hle3)) fun x1 x2 x3 H4 hle4 hr4=>?_
   refine wof_spec (w:=(varsOf p).length) (l:=[]) (by omega) rl_nil fun w1 w2 w3 H5 hle5 hr5=>?_
   exact⟨⟨f1,f2,f3,x1,x2,x3,w1,w2,w3,none,0,0⟩,[(0,0),(1,1),(2,2)],by (repeat' (first|exact trivial|refine⟨?_,?_⟩|exact rfl|assumption)),((hle2.trans hle3).trans hle4).trans hle5,rfl,rfl,rfl,hr3.up (hle4.trans hle5),hr4.up hle5,hr5⟩
 rintro⟨ea,en,ec,na,nn,nc,ia,ni,ic,ta,tn,tc⟩ H2 _ ⟨hle2,hz1,hz2,hz3,hze,hzn,hzi⟩;dsimp only at hz1 hz2 hz3 hze hzn hzi;subst hz1 hz2 hz3
 refine⟨Nat×List (List Value),fun q=>⟨[(1,.ptr 0 0),(2,.ptr 1 0),(5,.v (.slice av (varsOf p).length cv)),(6,.ptr 2 0),(32,.v (.slice a n c)),(33,.v (.int .i64 n)),(34,.v (.int .i64 q.1))],
   [(0,.cells 24 [.v (.slice a n c)]),(1,.cells 32 (vL zSys)),(2,.cells 32 [.v (.int .i64 (1:Nat)),.v (.int .i64 ((varsOf p).length:Nat)),.v (.int .i64 n),.v (.slice ea en ec),.v (.slice na nn nc),.v (.slice ia ni ic),.own 3]),(3,.row 78 3 q.2)],4⟩,
  fun q H'=>Le H2 H'∧q.1≤p.length∧RC (α:=Bt.TrB) H' q.2 (((lsysOf p).T.map Bt.TrB.mk).take q.1),fun q=>p.length - q.1,⟨(0,[]),[(0,0),(1,1),(2,2)],?_,Le.refl _,Nat.zero_le _,RC.nil⟩,?_⟩
 ·(repeat' (first|exact trivial|refine⟨?_,?_⟩|exact rfl|assumption))
 rintro⟨j,css⟩ H4 _ ⟨hle4,hj,hrc⟩;dsimp only at hj hrc;have hle:Le H H4:=(hle1.trans hle2).trans hle4
 have hTl:((lsysOf p).T.map Bt.TrB.mk).length=p.length:=by simp [lsysOf]
 have hcl:css.length=j:=by have h1:=hrc.1;rw[List.length_take]at h1;omega
 refine⟨fun h=>?_,fun h=>?_⟩
 ·have hlt:j<p.length:=by have:=dt h;dsimp only at this;omega
  refine name_k p[j] fun b hbe=>?_
  have hbb:p[j]?=some b:=by rw[hbe];exact List.getElem?_eq_getElem hlt
  refine block_k (ha.up hle) hbb fun ad a5 n5 c5 q1 hh hr5 hs5 ht5=>?_
  refine⟨ad,⟨by dsimp only;omega,by dsimp only;omega,q1⟩,?_⟩;refine⟨_,hh,?_⟩;refine⟨some ([1000000,2,3,5],[0,1,2,3,4,5,6,7,8]),by kernel_rfl,?_⟩
  refine ltrans_spec (V:=varsOf p) (by omega) (hl b (by rw[hbe];exact List.getElem_mem hlt)) ht5 (hrv.up (hle2.trans hle4)) hr5 fun zt H5 hle5 hr6=>?_
  refine⟨⟨by show (css.length+1)*72≤140737488355328;omega,by show css.length+1≤9223372036854775807;omega⟩,?_⟩
  have hrc2:RC (α:=Bt.TrB) H5 (css++[Bt.trV zt]) (((lsysOf p).T.map Bt.TrB.mk).take (j+1)):=by
   rw[lsysT_take hbb];exact trb_snoc (RC.up hrc hle5) hr6
  refine⟨⟨by omega,by omega⟩,(j+1,css++[Bt.trV zt]),[(0,0),(1,1),(2,2),(3,6)],?_,⟨hle4.trans hle5,hlt,hrc2⟩,by dsimp only;omega⟩
  (repeat' (first|exact trivial|refine⟨?_,?_⟩|exact rfl|assumption))
 ·have hjl:j=p.length:=by have:=df h;dsimp only at this;omega
  rw[hjl,List.take_of_length_le (by omega)]at hrc;intro v3 H7 hle7 hv3
  refine of_row_k (α:=Bt.TrB) hv3 (RC.up hrc hle7.le) fun ta tn tc ev3 hr3=>?_
  subst ev3
  have hsys:Bt.SysR H7 (lsysOf p) ⟨ea,en,ec,na,nn,nc,ia,ni,ic,ta,tn,tc⟩ :=
   ⟨hze.up (hle4.trans hle7.le),hzn.up (hle4.trans hle7.le),hzi.up (hle4.trans hle7.le),hr3⟩
  have hK:=hK ⟨ea,en,ec,na,nn,nc,ia,ni,ic,ta,tn,tc⟩ H7 (hle.trans hle7.le) hsys;have e2:(lsysOf p).m=n:=hn.symm;rw[Bt.sysA,Bt.sysV,e2]at hK;exact hK
end Go.Proofs
end
