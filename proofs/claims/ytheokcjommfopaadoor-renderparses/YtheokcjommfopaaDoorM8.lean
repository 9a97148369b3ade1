/- Part 'M8' of the proof (Tt, E1, E5, E6, E7, R1, R2, R3, E10, E11, E12, R4, R5, R6, E8): lemmas, each with its own conditions in its own statement. -/
import Derived.Test.YtheokcjommfopaaDoorProg
import Derived.Test.YtheokcjommfopaaDoorM7
section
/- Plain words: the table of the program's types. -/
namespace Go.Proofs
open Go.Sy
set_option maxRecDepth 20000
noncomputable def tt (t:Nat):Option (TypeInfo×TypeDesc):=bif Nat.ble t 125 then (bif Nat.ble t 62 then (bif Nat.ble t 31 then (bif Nat.ble t 15 then (bif Nat.ble t 7 then (bif Nat.ble t 3 then (bif Nat.ble t 1 then (bif Nat.ble t 0 then some (Tryd.t0,Tryd.t0.desc) else some (Tryd.t1,Tryd.t1.desc)) else (bif Nat.ble t 2 then some (Tryd.t2,Tryd.t2.desc) else some (Tryd.t3,Tryd.t3.desc))) else (bif Nat.ble t 5 then (bif Nat.ble t 4 then some (Tryd.t4,Tryd.t4.desc) else some (Tryd.t5,Tryd.t5.desc)) else (bif Nat.ble t 6 then some (Tryd.t6,Tryd.t5.desc) else some (Tryd.t7,Tryd.t7.desc)))) else (bif Nat.ble t 11 then (bif Nat.ble t 9 then (bif Nat.ble t 8 then some (Tryd.t8,Tryd.t7.desc) else some (Tryd.t9,Tryd.t9.desc)) else (bif Nat.ble t 10 then some (Tryd.t10,Tryd.t9.desc) else some (Tryd.t11,Tryd.t9.desc))) else (bif Nat.ble t 13 then (bif Nat.ble t 12 then some (Tryd.t12,Tryd.t12.desc) else some (Tryd.t13,Tryd.t13.desc)) else (bif Nat.ble t 14 then some (Tryd.t14,Tryd.t13.desc) else some (Tryd.t15,Tryd.t15.desc))))) else (bif Nat.ble t 23 then (bif Nat.ble t 19 then (bif Nat.ble t 17 then (bif Nat.ble t 16 then some (Tryd.t16,Tryd.t16.desc) else some (Tryd.t17,Tryd.t17.desc)) else (bif Nat.ble t 18 then some (Tryd.t18,Tryd.t18.desc) else some (Tryd.t19,Tryd.t18.desc))) else (bif Nat.ble t 21 then (bif Nat.ble t 20 then some (Tryd.t20,Tryd.t20.desc) else some (Tryd.t21,Tryd.t21.desc)) else (bif Nat.ble t 22 then some (Tryd.t22,Tryd.t22.desc) else some (Tryd.t23,Tryd.t23.desc)))) else (bif Nat.ble t 27 then (bif Nat.ble t 25 then (bif Nat.ble t 24 then some (Tryd.t24,Tryd.t24.desc) else some (Tryd.t25,Tryd.t24.desc)) else (bif Nat.ble t 26 then some (Tryd.t26,Tryd.t3.desc) else some (Tryd.t27,Tryd.t27.desc))) else (bif Nat.ble t 29 then (bif Nat.ble t 28 then some (Tryd.t28,Tryd.t28.desc) else some (Tryd.t29,Tryd.t29.desc)) else (bif Nat.ble t 30 then some (Tryd.t30,Tryd.t30.desc) else some (Tryd.t31,Tryd.t31.desc)))))) else (bif Nat.ble t 47 then (bif Nat.ble t 39 then (bif Nat.ble t 35 then (bif Nat.ble t 33 then (bif Nat.ble t 32 then some (Tryd.t32,Tryd.t32.desc) else some (Tryd.t33,Tryd.t33.desc)) else (bif Nat.ble t 34 then some (Tryd.t34,Tryd.t34.desc) else some (Tryd.t35,Tryd.t35.desc))) else (bif Nat.ble t 37 then (bif Nat.ble t 36 then some (Tryd.t36,Tryd.t36.desc) else some (Tryd.t37,Tryd.t37.desc)) else (bif Nat.ble t 38 then some (Tryd.t38,Tryd.t38.desc) else some (Tryd.t39,Tryd.t39.desc)))) else (bif Nat.ble t 43 then (bif Nat.ble t 41 then (bif Nat.ble t 40 then some (Tryd.t40,Tryd.t40.desc) else some (Tryd.t41,Tryd.t41.desc)) else (bif Nat.ble t 42 then some (Tryd.t42,Tryd.t42.desc) else some (Tryd.t43,Tryd.t43.desc))) else (bif Nat.ble t 45 then (bif Nat.ble t 44 then some (Tryd.t44,Tryd.t43.desc) else some (Tryd.t45,Tryd.t45.desc)) else (bif Nat.ble t 46 then some (Tryd.t46,Tryd.t46.desc) else some (Tryd.t47,Tryd.t47.desc))))) else (bif Nat.ble t 55 then (bif Nat.ble t 51 then (bif Nat.ble t 49 then (bif Nat.ble t 48 then some (Tryd.t48,Tryd.t48.desc) else some (Tryd.t49,Tryd.t49.desc)) else (bif Nat.ble t 50 then some (Tryd.t50,Tryd.t50.desc) else some (Tryd.t51,Tryd.t51.desc))) else (bif Nat.ble t 53 then (bif Nat.ble t 52 then some (Tryd.t52,Tryd.t52.desc) else some (Tryd.t53,Tryd.t53.desc)) else (bif Nat.ble t 54 then some (Tryd.t54,Tryd.t54.desc) else some (Tryd.t55,Tryd.t55.desc)))) else (bif Nat.ble t 59 then (bif Nat.ble t 57 then (bif Nat.ble t 56 then some (Tryd.t56,Tryd.t56.desc) else some (Tryd.t57,Tryd.t57.desc)) else (bif Nat.ble t 58 then some (Tryd.t58,Tryd.t58.desc) else some (Tryd.t59,Tryd.t58.desc))) else (bif Nat.ble t 61 then (bif Nat.ble t 60 then some (Tryd.t60,Tryd.t60.desc) else some (Tryd.t61,Tryd.t60.desc)) else some (Tryd.t62,Tryd.t62.desc)))))) else (bif Nat.ble t 94 then (bif Nat.ble t 78 then (bif Nat.ble t 70 then (bif Nat.ble t 66 then (bif Nat.ble t 64 then (bif Nat.ble t 63 then some (Tryd.t63,Tryd.t63.desc) else some (Tryd.t64,Tryd.t64.desc)) else (bif Nat.ble t 65 then some (Tryd.t65,Tryd.t65.desc) else some (Tryd.t66,Tryd.t66.desc))) else (bif Nat.ble t 68 then (bif Nat.ble t 67 then some (Tryd.t67,Tryd.t66.desc) else some (Tryd.t68,Tryd.t68.desc)) else (bif Nat.ble t 69 then some (Tryd.t69,Tryd.t69.desc) else some (Tryd.t70,Tryd.t70.desc)))) else (bif Nat.ble t 74 then (bif Nat.ble t 72 then (bif Nat.ble t 71 then some (Tryd.t71,Tryd.t71.desc) else some (Tryd.t72,Tryd.t72.desc)) else (bif Nat.ble t 73 then some (Tryd.t73,Tryd.t73.desc) else some (Tryd.t74,Tryd.t74.desc))) else (bif Nat.ble t 76 then (bif Nat.ble t 75 then some (Tryd.t75,Tryd.t75.desc) else some (Tryd.t76,Tryd.t76.desc)) else (bif Nat.ble t 77 then some (Tryd.t77,Tryd.t77.desc) else some (Tryd.t78,Tryd.t78.desc))))) else (bif Nat.ble t 86 then (bif Nat.ble t 82 then (bif Nat.ble t 80 then (bif Nat.ble t 79 then some (Tryd.t79,Tryd.t79.desc) else some (Tryd.t80,Tryd.t80.desc)) else (bif Nat.ble t 81 then some (Tryd.t81,Tryd.t81.desc) else some (Tryd.t82,Tryd.t82.desc))) else (bif Nat.ble t 84 then (bif Nat.ble t 83 then some (Tryd.t83,Tryd.t83.desc) else some (Tryd.t84,Tryd.t84.desc)) else (bif Nat.ble t 85 then some (Tryd.t85,Tryd.t85.desc) else some (Tryd.t86,Tryd.t86.desc)))) else (bif Nat.ble t 90 then (bif Nat.ble t 88 then (bif Nat.ble t 87 then some (Tryd.t87,Tryd.t87.desc) else some (Tryd.t88,Tryd.t88.desc)) else (bif Nat.ble t 89 then some (Tryd.t89,Tryd.t89.desc) else some (Tryd.t90,Tryd.t90.desc))) else (bif Nat.ble t 92 then (bif Nat.ble t 91 then some (Tryd.t91,Tryd.t91.desc) else some (Tryd.t92,Tryd.t92.desc)) else (bif Nat.ble t 93 then some (Tryd.t93,Tryd.t93.desc) else some (Tryd.t94,Tryd.t94.desc)))))) else (bif Nat.ble t 110 then (bif Nat.ble t 102 then (bif Nat.ble t 98 then (bif Nat.ble t 96 then (bif Nat.ble t 95 then some (Tryd.t95,Tryd.t95.desc) else some (Tryd.t96,Tryd.t96.desc)) else (bif Nat.ble t 97 then some (Tryd.t97,Tryd.t97.desc) else some (Tryd.t98,Tryd.t98.desc))) else (bif Nat.ble t 100 then (bif Nat.ble t 99 then some (Tryd.t99,Tryd.t99.desc) else some (Tryd.t100,Tryd.t100.desc)) else (bif Nat.ble t 101 then some (Tryd.t101,Tryd.t101.desc) else some (Tryd.t102,Tryd.t102.desc)))) else (bif Nat.ble t 106 then (bif Nat.ble t 104 then (bif Nat.ble t 103 then some (Tryd.t103,Tryd.t103.desc) else some (Tryd.t104,Tryd.t104.desc)) else (bif Nat.ble t 105 then some (Tryd.t105,Tryd.t105.desc) else some (Tryd.t106,Tryd.t106.desc))) else (bif Nat.ble t 108 then (bif Nat.ble t 107 then some (Tryd.t107,Tryd.t107.desc) else some (Tryd.t108,Tryd.t108.desc)) else (bif Nat.ble t 109 then some (Tryd.t109,Tryd.t109.desc) else some (Tryd.t110,Tryd.t110.desc))))) else (bif Nat.ble t 118 then (bif Nat.ble t 114 then (bif Nat.ble t 112 then (bif Nat.ble t 111 then some (Tryd.t111,Tryd.t110.desc) else some (Tryd.t112,Tryd.t112.desc)) else (bif Nat.ble t 113 then some (Tryd.t113,Tryd.t113.desc) else some (Tryd.t114,Tryd.t113.desc))) else (bif Nat.ble t 116 then (bif Nat.ble t 115 then some (Tryd.t115,Tryd.t115.desc) else some (Tryd.t116,Tryd.t116.desc)) else (bif Nat.ble t 117 then some (Tryd.t117,Tryd.t116.desc) else some (Tryd.t118,Tryd.t118.desc)))) else (bif Nat.ble t 122 then (bif Nat.ble t 120 then (bif Nat.ble t 119 then some (Tryd.t119,Tryd.t5.desc) else some (Tryd.t120,Tryd.t5.desc)) else (bif Nat.ble t 121 then some (Tryd.t121,Tryd.t121.desc) else some (Tryd.t122,Tryd.t21.desc))) else (bif Nat.ble t 124 then (bif Nat.ble t 123 then some (Tryd.t123,Tryd.t21.desc) else some (Tryd.t124,Tryd.t124.desc)) else some (Tryd.t125,Tryd.t124.desc))))))) else none
theorem tt_all:(List.range 126).map (fun t=>(Tryd.prog.info? t,Tryd.prog.underlying t))=(List.range 126).map (fun t=>((tt t).map (·.1),(tt t).map (·.2))):=by kernel_rfl
theorem tt_ok:∀(T:Nat) (i:TypeInfo) (d:TypeDesc),tt T=some (i,d)→Tryd.prog.info? T=some i∧Tryd.prog.underlying T=some d:=by
 intro T i d h
 have hT:T<126:=by
  rcases Nat.lt_or_ge T 126 with h1 | h1
  ·exact h1
  ·unfold tt at h
   cases hb:Nat.ble T 125 with
   | true=>have:=Nat.le_of_ble_eq_true hb;omega
   | false=>rw[hb]at h;cases h
 have h2:=congrArg (fun l=>l[T]?) tt_all;simp only[List.getElem?_map,List.getElem?_range hT,Option.map_some,Option.some.injEq,Prod.mk.injEq,h]at h2;exact h2
noncomputable def cx:Cx:={ P:=Tryd.prog,tt:=tt,n:=0,wrap:=false,base:=0,gf:=[28,29,31,45,46,49,53,65,71,73],eqs:=[67],xf:=[70,77,79,81,87] }
theorem cx_ok:TOK cx:=⟨tt_ok,eqs_of (P:=Tryd.prog) (tt:=tt) (l:=[67]) (by kernel_rfl)⟩
theorem cx_mix:cx.P.follows .mixedOrders=true:=by kernel_rfl
end Go.Proofs
end
section
namespace Go.Proofs
open Go.Sy
def nameOf (k:Int):List UInt8:=if k=1 then [108,105,118,101] else if k=2 then [114,101,97,99,104] else if k=3 then [97,118,97,105,108] else if k=4 then [99,111,110,115,116] else []
theorem name_spec {k:Int} {H:Hp} {K:Value→Hp→Prop} (hK:K (.string (bs (nameOf k))) H):Does Tryd.prog 30 [.int .i64 k] H K:=by
 refine spec_of cx_ok cx_mix rfl Tryd.func30 Tryd.call30 Tryd.ntmps30 Tryd.results30 rfl rfl ?_;refine⟨fun h=>?_,fun h=>⟨fun h2=>?_,fun h2=>⟨fun h3=>?_,fun h3=>⟨fun h4=>?_,fun h4=>?_⟩⟩⟩⟩
 all_goals simp only[decide_eq_true_eq,decide_eq_false_iff_not]at *
 ·subst h;exact hK
 ·subst h2;exact hK
 ·subst h3;exact hK
 ·subst h4;exact hK
 ·rw[show nameOf k=[] by simp [nameOf, *]]at hK;exact hK
theorem refname_spec {k:Int} {H:Hp} {K:Value→Hp→Prop} (hK:K (.string (bs (nameOf k))) H):Does Tryd.prog 23 [.int .i64 k] H K:=by
 refine spec_of cx_ok cx_mix rfl Tryd.func23 Tryd.call23 Tryd.ntmps23 Tryd.results23 rfl rfl ?_;refine⟨fun h=>⟨fun h2=>?_,fun h2=>?_⟩,fun h=>?_⟩
 ·rw[show nameOf k=[] by simp only[nameOf];repeat (rw[if_neg (by simp at h h2;omega)])]at hK;exact hK
 ·simp only[decide_eq_false_iff_not]at h h2
  have h5:k - 1<((4:Nat):Int):=by omega
  refine⟨⟨by omega,by omega⟩,⟨by omega,h5⟩,[.string (bs (nameOf k))],?_,hK⟩
  obtain rfl | rfl | rfl | rfl:k=1∨k=2∨k=3∨k=4:=by omega
  all_goals rfl
 ·rw[show nameOf k=[] by simp only[nameOf];repeat (rw[if_neg (by simp at h;omega)])]at hK;exact hK
def kindOf (l:List UInt8):Int:=if l=nameOf 1 then 1 else if l=nameOf 2 then 2 else if l=nameOf 3 then 3 else if l=nameOf 4 then 4 else 0
theorem kindOf_found {l:List UInt8} {k:Int} (h1:1≤k) (h4:k≤4) (h:nameOf k=l):kindOf l=k:=by
 subst h
 obtain rfl | rfl | rfl | rfl:k=1∨k=2∨k=3∨k=4:=by omega
 all_goals rfl
theorem kindOf_none {l:List UInt8} (h:∀k:Int,1≤k→k≤4→nameOf k≠l):kindOf l=0:=by
 unfold kindOf;rw[if_neg (fun e=>h 1 (by omega) (by omega) e.symm),if_neg (fun e=>h 2 (by omega) (by omega) e.symm),if_neg (fun e=>h 3 (by omega) (by omega) e.symm),if_neg (fun e=>h 4 (by omega) (by omega) e.symm)]
theorem kind_spec {l:List UInt8} {H:Hp} {K:Value→Hp→Prop} (hK:∀H',Le H H'→K (.int .i64 (kindOf l)) H'):Does Tryd.prog 19 [.string (bs l)] H K:=by
 refine spec_of cx_ok cx_mix rfl Tryd.func19 Tryd.call19 Tryd.ntmps19 Tryd.results19 rfl rfl ?_;refine⟨Nat,fun k=>⟨[(0,.v (.string (bs l))),(3,.v (.int .i64 (k+1)))],[],0⟩,fun k H'=>Le H H'∧k≤4∧∀i:Int,1≤i→i≤k→nameOf i≠l,fun k=>5 - k,⟨0,[],?_,Le.refl H,by omega,by intros;omega⟩,?_⟩
 ·exact⟨⟨rfl,rfl,trivial⟩,trivial⟩
 rintro k H' _ ⟨hle,hk,hne⟩;refine⟨fun h=>?_,fun h=>?_⟩
 ·have h:=of_decide_eq_true h;refine name_spec ?_;refine⟨fun h2=>?_,fun h2=>?_⟩
  ·have h2:nameOf (k+1)=l:=of_decide_eq_true h2;have:=hK H' hle;rw[kindOf_found (by omega) h h2]at this;exact this
  ·have h2:nameOf (k+1)≠l:=of_decide_eq_false h2;refine⟨⟨by omega,by omega⟩,k+1,[],?_,⟨hle,by omega,fun i h3 h4=>?_⟩,by dsimp only;omega⟩
   ·exact⟨⟨rfl,rfl,trivial⟩,trivial⟩
   by_cases e:i=k+1
   ·subst e;exact h2
   ·exact hne i h3 (by omega)
 ·have h:=of_decide_eq_false h;have:=hK H' hle;rw[kindOf_none (fun i h1 h2=>hne i h1 (by omega))]at this;exact this
end Go.Proofs
end
section
namespace Go.Proofs
open Go.Sy
theorem texts_spec {a b:List Str} {a1 a2:Option Addr} {n1 c1 n2 c2:Nat} {H:Hp} {K:Value→Hp→Prop} (ha:RL H a1 n1 c1 a) (hb:RL H a2 n2 c2 b)
 (hK:∀H',Le H H'→K (.bool (decide (a=b))) H'):Does Tryd.prog 26 [.slice a1 n1 c1,.slice a2 n2 c2] H K:=by
 refine spec_of cx_ok cx_mix rfl Tryd.func26 Tryd.call26 Tryd.ntmps26 Tryd.results26 rfl rfl ?_;have hn1:=ha.n_eq;have hn2:=hb.n_eq;have hmx:=ha.le;refine⟨fun h=>?_,fun h=>?_⟩
 ·have e:a≠b:=by intro e;subst e;simp at h;omega
  have:=hK H (Le.refl H);rw[decide_eq_false e]at this;exact this
 ·have hlen:a.length=b.length:=by simp at h;omega
  refine⟨Nat,fun k=>⟨[(0,.v (.slice a1 n1 c1)),(1,.v (.slice a2 n2 c2)),(12,.v (.int .i64 n1)),(13,.v (.int .i64 k))],[],0⟩,fun k H'=>Le H H'∧k≤a.length∧a.take k=b.take k,fun k=>a.length - k,⟨0,[],?_,Le.refl H,by omega,rfl⟩,?_⟩
  ·exact⟨⟨rfl,rfl,rfl,rfl,trivial⟩,trivial⟩
  rintro k H' _ ⟨hle,hk,htk⟩;refine⟨fun h=>?_,fun h=>?_⟩
  ·have hlt:k<a.length:=by have:=of_decide_eq_true h;omega
   have hx:=List.getElem?_eq_getElem hlt;have hy:=List.getElem?_eq_getElem (hlen▸hlt:k<b.length);obtain⟨ad,cs,e1,h1,rfl,hl1⟩:=(ha.up hle).elem hx;obtain⟨bd,ds,e2,h2,rfl,hl2⟩:=(hb.up hle).elem hy;refine⟨some ([],[0,1,2,3,4,5,6,7,8]),by kernel_rfl,?_⟩;refine⟨ad,⟨by omega,by omega,e1⟩,?_⟩;refine⟨_,h1,?_⟩;refine⟨bd,⟨by omega,by omega,e2⟩,?_⟩;refine⟨_,h2,?_⟩;refine⟨fun h=>?_,fun h=>?_⟩
   ·have hne:a[k].l≠b[k].l:=nt h;have:=hK H' hle;rw[decide_eq_false (fun e=>by subst e;exact hne rfl)]at this;exact this
   ·have heq:a[k].l=b[k].l:=nf h;refine⟨⟨by omega,by omega⟩,k+1,[],?_,⟨hle,by omega,?_⟩,by dsimp only;omega⟩
    ·exact⟨⟨rfl,rfl,rfl,rfl,trivial⟩,trivial⟩
    ·rw[List.take_add_one,List.take_add_one,htk,hx,hy]
     congr 2
     cases ha:a[k];cases hb:b[k];simp_all
  ·have:a=b:=by
    have h:=of_decide_eq_false h
    have e:k=a.length:=by omega
    subst e;rw[List.take_length,hlen,List.take_length]at htk;exact htk
   have h2:=hK H' hle;rw[decide_eq_true this]at h2;exact h2
end Go.Proofs
end
section
namespace Go.Proofs
open Go.Sy
abbrev Row:=Str×List Str×List Str
abbrev Report:=Int×List Row
theorem row_open {H:Hp} {cs:List Value} {r:Row} (h:Enc.R H cs r):∃a1 n1 c1 a2 n2 c2,cs=[.string (bs r.1.l),.slice a1 n1 c1,.slice a2 n2 c2]∧r.1.l.length≤9223372036854775807∧RL H a1 n1 c1 r.2.1∧RL H a2 n2 c2 r.2.2:=by
 obtain⟨x1,x2,rfl,⟨rfl,hl⟩,y1,y2,rfl,⟨a1,n1,c1,rfl,h1⟩,⟨a2,n2,c2,rfl,h2⟩⟩:=h;exact⟨a1,n1,c1,a2,n2,c2,rfl,hl,h1,h2⟩
theorem str_ext {a b:Str} (h:a.l=b.l):a=b:=by cases a;cases b;simp_all
end Go.Proofs
end
section
namespace Go.Proofs
open Go.Sy
set_option maxRecDepth 20000
theorem rep_open {H:Hp} {cs:List Value} {r:Report} (h:Enc.R H cs r):∃a1 n1 c1,cs=[.int .i64 r.1,.slice a1 n1 c1]∧(-9223372036854775808≤r.1∧r.1≤9223372036854775807)∧RL H a1 n1 c1 r.2:=by
 obtain⟨x1,x2,rfl,⟨rfl,hl⟩,⟨a1,n1,c1,rfl,h1⟩⟩:=h;exact⟨a1,n1,c1,rfl,hl,h1⟩
theorem rsame_spec {a b:Report} {H:Hp} {cs ds:List Value} {K:Value→Hp→Prop} (ha:Enc.R H cs a) (hb:Enc.R H ds b)
 (hK:∀H',Le H H'→K (.bool (decide (a=b))) H'):Does Tryd.prog 9 [.agg cs.toArray,.agg ds.toArray] H K:=by
 obtain⟨a1,n1,c1,rfl,hl,h1⟩:=rep_open ha;obtain⟨b1,m1,d1,rfl,gl,g1⟩:=rep_open hb;refine spec_of cx_ok cx_mix rfl Tryd.func9 Tryd.call9 Tryd.ntmps9 Tryd.results9 rfl rfl ?_;refine⟨fun h=>?_,fun h=>?_⟩
 ·have e1:a.1=b.1:=nf h;refine⟨fun h=>?_,fun h=>?_⟩
  ·have:=hK H (Le.refl H);rw[decide_eq_false (fun e=>nt h (by rw[e]at h1;have:=h1.n_eq;have:=g1.n_eq;omega))]at this;exact this
  ·have hn1:=h1.n_eq;have hn2:=g1.n_eq
   have hlen:a.2.length=b.2.length:=by have:=nf h;omega
   have hmx:=h1.le;refine⟨Nat,fun k=>⟨[(2,.ptr 0 0),(3,.ptr 1 0),(23,.v (.slice a1 n1 c1)),(24,.v (.int .i64 n1)),(25,.v (.int .i64 k))],[(0,.cells 25 [.v (.int .i64 a.1),.v (.slice a1 n1 c1)]),(1,.cells 25 [.v (.int .i64 b.1),.v (.slice b1 m1 d1)])],2⟩,fun k H'=>Le H H'∧k≤a.2.length∧a.2.take k=b.2.take k,fun k=>a.2.length - k,⟨0,[(0,0),(1,1)],?_,Le.refl H,by omega,rfl⟩,?_⟩
   ·exact⟨⟨⟨rfl,rfl⟩,⟨rfl,rfl⟩,rfl,rfl,rfl,trivial⟩,⟨⟨rfl,rfl,trivial⟩,⟨rfl,rfl,trivial⟩,trivial⟩⟩
   rintro k H' _ ⟨hle,hk,htk⟩;refine⟨fun h=>?_,fun h=>?_⟩
   ·have hlt:k<a.2.length:=by have:=of_decide_eq_true h;omega
    have hx:=List.getElem?_eq_getElem hlt;have hy:=List.getElem?_eq_getElem (hlen▸hlt:k<b.2.length);obtain⟨ad,cs,e1,h1,r1⟩:=(h1.up hle).elem hx;obtain⟨bd,ds,e2,h2,r2⟩:=(g1.up hle).elem hy;obtain⟨_,_,_,_,_,_,rfl,l1,p1,p2⟩:=row_open r1;obtain⟨_,_,_,_,_,_,rfl,l2,q1,q2⟩:=row_open r2;refine⟨ad,⟨by omega,by omega,e1⟩,?_⟩;refine⟨_,h1,?_⟩;refine⟨bd,⟨by omega,by omega,e2⟩,?_⟩;refine⟨_,h2,?_⟩
    have no:a.2[k]≠b.2[k]→K (.bool false) H':=fun hne=>by
     have:=hK H' hle;rw[decide_eq_false (fun e=>hne (by subst e;rfl))]at this;exact this
    refine⟨fun h=>?_,fun h=>?_⟩
    ·have x1:a.2[k].1=b.2[k].1:=str_ext (nf h)
     refine texts_spec p1 q1 fun _ _=>?_
     refine⟨fun h=>?_,fun h=>?_⟩
     ·have x2:=dt (by simpa using h)
      refine texts_spec p2 q2 fun _ _=>?_
      refine⟨fun h=>?_,fun h=>?_⟩
      ·exact no (fun e=>df (by simpa using h) (by rw[e]))
      ·have x3:=dt (by simpa using h);refine⟨⟨by omega,by omega⟩,k+1,[(0,0),(1,1)],?_,⟨hle,by omega,?_⟩,by dsimp only;omega⟩
       ·exact⟨⟨⟨rfl,rfl⟩,⟨rfl,rfl⟩,rfl,rfl,rfl,trivial⟩,⟨⟨rfl,rfl,trivial⟩,⟨rfl,rfl,trivial⟩,trivial⟩⟩
       ·rw[List.take_add_one,List.take_add_one,htk,hx,hy,show a.2[k]=b.2[k] from Prod.ext x1 (Prod.ext x2 x3)]
     ·exact no (fun e=>df (by simpa using h) (by rw[e]))
    ·exact no (fun e=>nt h (by rw[e]))
   ·have:a.2=b.2:=by
     have h:=of_decide_eq_false h
     have e:k=a.2.length:=by omega
     subst e;rw[List.take_length,hlen,List.take_length]at htk;exact htk
    have h2:=hK H' hle;rw[decide_eq_true (Prod.ext e1 this)]at h2;exact h2
 ·have:=hK H (Le.refl H);rw[decide_eq_false (fun e=>nt h (by rw[e]))]at this;exact this
end Go.Proofs
end
section
namespace Go.Proofs
open Go.Sy
set_option maxRecDepth 20000
def letB (c:UInt8):Bool:=(decide (97≤(c.toNat:Int))&&decide ((c.toNat:Int)≤122))||(decide (65≤(c.toNat:Int))&&decide ((c.toNat:Int)≤90))||decide ((c.toNat:Int)=95)
def digB (c:UInt8):Bool:=decide (48≤(c.toNat:Int))&&decide ((c.toNat:Int)≤57)
theorem kbool {K:Value→Hp→Prop} {H:Hp} {a b:Bool} (h:K (.bool a) H) (e:a=b):K (.bool b) H:=e▸h
theorem letter_spec {c:UInt8} {H:Hp} {K:Value→Hp→Prop} (hK:K (.bool (letB c)) H):Does Tryd.prog 66 [.int .u8 c.toNat] H K:=by
 refine spec_of cx_ok cx_mix rfl Tryd.func66 Tryd.call66 Tryd.ntmps66 Tryd.results66 rfl rfl ?_;refine⟨fun h1=>?_,fun h1=>?_⟩
 ·refine⟨fun h2=>?_,fun h2=>?_⟩
  ·refine⟨fun h3=>?_,fun h3=>?_⟩
   ·refine⟨fun h4=>?_,fun h4=>?_⟩
    ·exact kbool hK (by simp [letB,h1,h2,h3,h4])
    ·exact kbool hK (by simp [letB,h1,h2,h3,h4])
   ·exact kbool hK (by simp [letB,h1,h2,h3])
  ·exact kbool hK (by simp [letB,h1,h2])
 ·refine⟨fun h3=>?_,fun h3=>?_⟩
  ·refine⟨fun h4=>?_,fun h4=>?_⟩
   ·exact kbool hK (by simp [letB,h1,h3,h4])
   ·exact kbool hK (by simp [letB,h1,h3,h4])
  ·exact kbool hK (by simp [letB,h1,h3])
theorem digit_spec {c:UInt8} {H:Hp} {K:Value→Hp→Prop} (hK:K (.bool (digB c)) H):Does Tryd.prog 68 [.int .u8 c.toNat] H K:=by
 refine spec_of cx_ok cx_mix rfl Tryd.func68 Tryd.call68 Tryd.ntmps68 Tryd.results68 rfl rfl ?_;refine⟨fun h=>?_,fun h=>?_⟩
 ·exact kbool hK (by simp only[digB,h,Bool.true_and])
 ·exact kbool hK (by rw[digB,h];rfl)
theorem refletter_spec {c:UInt8} {H:Hp} {K:Value→Hp→Prop} (hK:K (.bool (letB c)) H):Does Tryd.prog 61 [.int .u8 c.toNat] H K:=by
 refine spec_of cx_ok cx_mix rfl Tryd.func61 Tryd.call61 Tryd.ntmps61 Tryd.results61 rfl rfl ?_;refine⟨fun h1=>?_,fun h1=>?_⟩
 ·refine⟨fun h2=>?_,fun h2=>?_⟩
  ·refine⟨fun h3=>?_,fun h3=>?_⟩
   ·refine⟨fun h4=>?_,fun h4=>?_⟩
    ·exact kbool hK (by simp [letB,h1,h2,h3,h4])
    ·exact kbool hK (by simp [letB,h1,h2,h3,h4])
   ·exact kbool hK (by simp [letB,h1,h2,h3])
  ·exact kbool hK (by simp [letB,h1,h2])
 ·refine⟨fun h3=>?_,fun h3=>?_⟩
  ·refine⟨fun h4=>?_,fun h4=>?_⟩
   ·exact kbool hK (by simp [letB,h1,h3,h4])
   ·exact kbool hK (by simp [letB,h1,h3,h4])
  ·exact kbool hK (by simp [letB,h1,h3])
theorem refdigit_spec {c:UInt8} {H:Hp} {K:Value→Hp→Prop} (hK:K (.bool (digB c)) H):Does Tryd.prog 63 [.int .u8 c.toNat] H K:=by
 refine spec_of cx_ok cx_mix rfl Tryd.func63 Tryd.call63 Tryd.ntmps63 Tryd.results63 rfl rfl ?_;refine⟨fun h=>?_,fun h=>?_⟩
 ·exact kbool hK (by simp only[digB,h,Bool.true_and])
 ·exact kbool hK (by rw[digB,h];rfl)
def prC (c:UInt8):Bool:=!(decide ((c.toNat:Int)<32)||decide (126<(c.toNat:Int)))
def prB (s:List UInt8):Bool:=s.all prC&&decide (s≠[])
theorem all_take_succ (s:List UInt8) (f:UInt8→Bool) {i:Nat} {c:UInt8} (h:s[i]?=some c):(s.take (i+1)).all f=((s.take i).all f&&f c):=by
 rw[List.take_add_one,h,Option.toList_some,List.all_append];simp
theorem all_false (s:List UInt8) (f:UInt8→Bool) {i:Nat} {c:UInt8} (h:s[i]?=some c) (hf:f c=false):s.all f=false:=by
 rw[List.all_eq_false];exact⟨c,List.mem_of_getElem? h,by simp [hf]⟩
end Go.Proofs
end
section
namespace Go.Proofs
open Go.Sy
set_option maxRecDepth 20000
theorem printable_spec {s:List UInt8} (hs:s.length≤9223372036854775807) {H:Hp} {K:Value→Hp→Prop} (hK:K (.bool (prB s)) H):Does Tryd.prog 44 [.string (bs s)] H K:=by
 have hsl:(sl (bs s)).length=s.length:=rfl;refine spec_of cx_ok cx_mix rfl Tryd.func44 Tryd.call44 Tryd.ntmps44 Tryd.results44 rfl rfl ?_;refine⟨Nat,fun i=>⟨[(0,.v (.string (bs s))),(5,.v (.int .i64 s.length)),(6,.v (.int .i64 i))],[],0⟩,fun i H'=>H'=H∧i≤s.length∧(s.take i).all prC=true,fun i=>s.length - i,⟨0,[],?_,rfl,by omega,rfl⟩,?_⟩
 ·exact⟨⟨rfl,rfl,rfl,trivial⟩,trivial⟩
 rintro i H1 _ ⟨rfl,hi,hall⟩;refine⟨fun h=>?_,fun h=>?_⟩
 ·have hlt:i<s.length:=by have:=dt h;omega
  have hx:=List.getElem?_eq_getElem hlt;refine⟨_,⟨by omega,hx⟩,?_⟩;refine⟨fun h1=>?_,fun h1=>?_⟩
  ·have h1':¬((s[i]).toNat:Int)<32:=of_decide_eq_false h1;refine⟨_,⟨by omega,hx⟩,?_⟩;refine⟨fun h2=>?_,fun h2=>?_⟩
   ·have hf:prC s[i]=false:=by unfold prC;rw[h2];simp
    exact kbool hK (by rw[prB,all_false s prC hx hf];rfl)
   ·have ht:prC s[i]=true:=by unfold prC;rw[h1,h2];rfl
    refine⟨⟨by omega,by omega⟩,i+1,[],?_,⟨rfl,by omega,by rw[all_take_succ s prC hx,hall,ht];rfl⟩,by dsimp only;omega⟩;exact⟨⟨rfl,rfl,rfl,trivial⟩,trivial⟩
  ·have hf:prC s[i]=false:=by unfold prC;rw[h1];rfl
   exact kbool hK (by rw[prB,all_false s prC hx hf];rfl)
 ·have hil:i=s.length:=by have:=df h;omega
  rw[hil,List.take_length]at hall
  have e:(!decide (s=[]))=prB s:=by rw[prB,hall];simp
  exact kbool (a:=prB s) hK e.symm
theorem refprintable_spec {s:List UInt8} (hs:s.length≤9223372036854775807) {H:Hp} {K:Value→Hp→Prop} (hK:K (.bool (prB s)) H):Does Tryd.prog 64 [.string (bs s)] H K:=by
 have hsl:(sl (bs s)).length=s.length:=rfl;refine spec_of cx_ok cx_mix rfl Tryd.func64 Tryd.call64 Tryd.ntmps64 Tryd.results64 rfl rfl ?_;refine⟨Nat,fun i=>⟨[(0,.v (.string (bs s))),(3,.v (.int .i64 i))],[],0⟩,fun i H'=>H'=H∧i≤s.length∧(s.take i).all prC=true,fun i=>s.length - i,⟨0,[],?_,rfl,by omega,rfl⟩,?_⟩
 ·exact⟨⟨rfl,rfl,trivial⟩,trivial⟩
 rintro i H1 _ ⟨rfl,hi,hall⟩;refine⟨fun h=>?_,fun h=>?_⟩
 ·have hlt:i<s.length:=by have:=dt h;omega
  have hx:=List.getElem?_eq_getElem hlt;refine⟨_,⟨by omega,hx⟩,?_⟩;refine⟨fun h1=>?_,fun h1=>?_⟩
  ·refine⟨_,⟨by omega,hx⟩,?_⟩;refine⟨fun h2=>?_,fun h2=>?_⟩
   ·have hf:prC s[i]=false:=by unfold prC;rw[h2];simp
    exact kbool hK (by rw[prB,all_false s prC hx hf];rfl)
   ·have ht:prC s[i]=true:=by unfold prC;rw[h1,h2];rfl
    refine⟨⟨by omega,by omega⟩,i+1,[],?_,⟨rfl,by omega,by rw[all_take_succ s prC hx,hall,ht];rfl⟩,by dsimp only;omega⟩;exact⟨⟨rfl,rfl,trivial⟩,trivial⟩
  ·have hf:prC s[i]=false:=by unfold prC;rw[h1];rfl
   exact kbool hK (by rw[prB,all_false s prC hx hf];rfl)
 ·have hil:i=s.length:=by have:=df h;omega
  rw[hil,List.take_length]at hall
  have e:decide (0<((s.length:Nat):Int))=prB s:=by
   rw[prB,hall,Bool.true_and,decide_eq_decide];rw[←List.length_pos_iff];omega
  exact kbool (a:=prB s) hK e.symm
def words:List (List UInt8):=[[98,108,111,99,107],[103,111,116,111],[105,102],[116,104,101,110],[101,108,115,101],[114,101,116],[105,110],[111,117,116],[99,111,110,106]]
def wordB (s:List UInt8):Bool:=words.any fun w=>decide (s=w)
theorem words_at {β:Type} (f:List UInt8→β) {k:Nat} (h:k<9):(words.map f)[k]?=some (f (words.getD k [])):=by
 have:k<words.length:=h
 rw[List.getElem?_map,List.getD_eq_getElem?_getD,List.getElem?_eq_getElem this];rfl
theorem word_step (s:List UInt8) {k:Nat} (h:k<9):((words.take (k+1)).any fun w=>decide (s=w))=(((words.take k).any fun w=>decide (s=w))||decide (s=words.getD k [])):=by
 have hl:k<words.length:=h;rw[List.take_add_one,List.getElem?_eq_getElem hl,List.getD_eq_getElem?_getD,List.getElem?_eq_getElem hl,Option.toList_some,List.any_append];simp
theorem word_true (s:List UInt8) {k:Nat} (h:k<9) (he:s=words.getD k []):wordB s=true:=by
 have hl:k<words.length:=h;unfold wordB;rw[List.any_eq_true];refine⟨words.getD k [],?_,by simpa using he⟩;rw[List.getD_eq_getElem?_getD,List.getElem?_eq_getElem hl];exact List.getElem_mem hl
theorem word_spec {s:List UInt8} {H:Hp} {K:Value→Hp→Prop} (hK:K (.bool (wordB s)) H):Does Tryd.prog 67 [.string (bs s)] H K:=by
 refine spec_of cx_ok cx_mix rfl Tryd.func67 Tryd.call67 Tryd.ntmps67 Tryd.results67 rfl rfl ?_;refine⟨Nat,fun k=>⟨[(0,.v (.string (bs s))),(5,.agg (words.map fun w=>.v (.string (bs w)))),(6,.v (.int .i64 k))],[],0⟩,fun k H'=>H'=H∧k≤9∧((words.take k).any fun w=>decide (s=w))=false,fun k=>9 - k,⟨0,[],?_,rfl,by omega,rfl⟩,?_⟩
 ·exact⟨⟨rfl,⟨rfl,rfl⟩,rfl,trivial⟩,trivial⟩
 rintro k H1 _ ⟨rfl,hk,hany⟩;refine⟨fun h=>?_,fun h=>?_⟩
 ·have hlt:k<9:=by have:=dt h;omega
  refine⟨_,⟨by omega,by omega,words_at _ hlt⟩,?_⟩;refine⟨fun h=>?_,fun h=>?_⟩
  ·exact kbool hK (word_true s hlt (of_decide_eq_true h))
  ·refine⟨⟨by omega,by omega⟩,k+1,[],?_,⟨rfl,by omega,by rw[word_step s hlt,hany,Bool.false_or];exact h⟩,by dsimp only;omega⟩;exact⟨⟨rfl,⟨rfl,rfl⟩,rfl,trivial⟩,trivial⟩
 ·have hk9:k=9:=by have:=df h;omega
  subst hk9;exact kbool hK hany
end Go.Proofs
end
section
namespace Go.Proofs
open Go.Sy
set_option maxRecDepth 20000
theorem refword_spec {s:List UInt8} {H:Hp} {K:Value→Hp→Prop} (hK:K (.bool (wordB s)) H):Does Tryd.prog 62 [.string (bs s)] H K:=by
 refine spec_of cx_ok cx_mix rfl Tryd.func62 Tryd.call62 Tryd.ntmps62 Tryd.results62 rfl rfl ?_;refine⟨Nat,fun k=>⟨[(0,.v (.string (bs s))),(5,.own 0),(6,.v (.int .i64 9)),(7,.v (.int .i64 k))],[(0,.row 9 1 (words.map fun w=>[.string (bs w)]))],1⟩,fun k H'=>H'=H∧k≤9∧((words.take k).any fun w=>decide (s=w))=false,fun k=>9 - k,⟨0,[(0,0)],?_,rfl,by omega,rfl⟩,?_⟩
 ·exact⟨⟨rfl,rfl,rfl,rfl,trivial⟩,⟨rfl,trivial⟩⟩
 rintro k H1 _ ⟨rfl,hk,hany⟩;refine⟨fun h=>?_,fun h=>?_⟩
 ·have hlt:k<9:=by have:=dt h;omega
  have hl:(words.map fun w=>[Value.string (bs w)]).length=9:=rfl;refine⟨⟨by omega,by omega⟩,?_⟩;refine⟨_,words_at _ hlt,?_⟩;refine⟨fun h=>?_,fun h=>?_⟩
  ·exact kbool hK (word_true s hlt (of_decide_eq_true h))
  ·refine⟨⟨by omega,by omega⟩,k+1,[(0,0)],?_,⟨rfl,by omega,by rw[word_step s hlt,hany,Bool.false_or];exact h⟩,by dsimp only;omega⟩;exact⟨⟨rfl,rfl,rfl,rfl,trivial⟩,⟨rfl,trivial⟩⟩
 ·have hk9:k=9:=by have:=df h;omega
  subst hk9;exact kbool hK hany
def nmC (c:UInt8):Bool:=letB c||digB c
def nmB (s:List UInt8):Bool:=decide (1≤s.length)&&decide (s.length≤12)&&letB (s.headD 0)&&!wordB s&&s.all nmC
theorem nm_head {s:List UInt8} {c:UInt8} (h:s[0]?=some c):s.headD 0=c:=by
 cases s with
 | nil=>cases h
 | cons x r=>simpa using h
theorem name2_spec {s:List UInt8} {H:Hp} {K:Value→Hp→Prop} (hK:K (.bool (nmB s)) H) (hs:s.length≤9223372036854775807):Does Tryd.prog 47 [.string (bs s)] H K:=by
 have hsl:(sl (bs s)).length=s.length:=rfl;refine spec_of cx_ok cx_mix rfl Tryd.func47 Tryd.call47 Tryd.ntmps47 Tryd.results47 rfl rfl ?_;refine⟨fun h1=>?_,fun h1=>?_⟩
 ·have h1':¬((s.length:Int)<1):=of_decide_eq_false h1;refine⟨fun h2=>?_,fun h2=>?_⟩
  ·have h2':¬(12<(s.length:Int)):=of_decide_eq_false h2
   have h0:0<s.length:=by omega
   have hx0:=List.getElem?_eq_getElem h0;refine⟨_,⟨by omega,hx0⟩,?_⟩;refine letter_spec ?_;refine⟨fun h3=>?_,fun h3=>?_⟩
   ·have h3':letB s[0]=true:=by simpa using h3
    refine word_spec ?_;refine⟨fun h4=>?_,fun h4=>?_⟩
    ·exact kbool hK (by simp [nmB,h4])
    ·have hpre:nmB s=s.all nmC:=by
      unfold nmB;rw[nm_head hx0,h3',h4,decide_eq_true (show 1≤s.length by omega),decide_eq_true (show s.length≤12 by omega)]
      rfl
     refine⟨Nat,fun i=>⟨[(0,.v (.string (bs s))),(23,.v (.int .i64 s.length)),(24,.v (.int .i64 i))],[],0⟩,fun i H'=>H'=H∧i≤s.length∧(s.take i).all nmC=true,fun i=>s.length - i,⟨0,[],?_,rfl,by omega,rfl⟩,?_⟩
     ·exact⟨⟨rfl,rfl,rfl,trivial⟩,trivial⟩
     rintro i H1 _ ⟨rfl,hi,hall⟩;refine⟨fun h=>?_,fun h=>?_⟩
     ·have hlt:i<s.length:=by have:=dt h;omega
      have hx:=List.getElem?_eq_getElem hlt;refine⟨_,⟨by omega,hx⟩,?_⟩;refine letter_spec ?_;refine⟨fun h5=>?_,fun h5=>?_⟩
      ·have h5':letB s[i]=false:=by simpa using h5
       refine⟨_,⟨by omega,hx⟩,?_⟩;refine digit_spec ?_;refine⟨fun h6=>?_,fun h6=>?_⟩
       ·have h6':digB s[i]=false:=by simpa using h6
        exact kbool hK (by rw[hpre,all_false s nmC hx (by rw[nmC,h5',h6'];rfl)])
       ·have h6':digB s[i]=true:=by simpa using h6
        refine⟨⟨by omega,by omega⟩,i+1,[],?_,⟨rfl,by omega,by rw[all_take_succ s nmC hx,hall,nmC,h5',h6'];rfl⟩,by dsimp only;omega⟩;exact⟨⟨rfl,rfl,rfl,trivial⟩,trivial⟩
      ·have h5':letB s[i]=true:=by simpa using h5
       refine⟨⟨by omega,by omega⟩,i+1,[],?_,⟨rfl,by omega,by rw[all_take_succ s nmC hx,hall,nmC,h5'];rfl⟩,by dsimp only;omega⟩;exact⟨⟨rfl,rfl,rfl,trivial⟩,trivial⟩
     ·have hil:i=s.length:=by have:=df h;omega
      rw[hil,List.take_length]at hall;exact kbool hK (by rw[hpre,hall])
   ·have h3':letB s[0]=false:=by simpa using h3
    exact kbool hK (by simp only[nmB,nm_head hx0,h3',Bool.and_false,Bool.false_and])
  ·have h2':12<(s.length:Int):=of_decide_eq_true h2;exact kbool hK (by simp only[nmB,decide_eq_false (show ¬s.length≤12 by omega),Bool.and_false,Bool.false_and])
 ·have h1':(s.length:Int)<1:=of_decide_eq_true h1;exact kbool hK (by simp only[nmB,decide_eq_false (show ¬1≤s.length by omega),Bool.false_and])
theorem refname2_spec {s:List UInt8} {H:Hp} {K:Value→Hp→Prop} (hK:K (.bool (nmB s)) H) (hs:s.length≤9223372036854775807):Does Tryd.prog 41 [.string (bs s)] H K:=by
 have hsl:(sl (bs s)).length=s.length:=rfl;refine spec_of cx_ok cx_mix rfl Tryd.func41 Tryd.call41 Tryd.ntmps41 Tryd.results41 rfl rfl ?_;refine⟨fun h1=>?_,fun h1=>?_⟩
 ·have h1':¬((s.length:Int)=0):=of_decide_eq_false h1;refine⟨fun h2=>?_,fun h2=>?_⟩
  ·have h2':¬(12<(s.length:Int)):=of_decide_eq_false h2
   have h0:0<s.length:=by omega
   have hx0:=List.getElem?_eq_getElem h0;refine⟨_,⟨by omega,hx0⟩,?_⟩;refine refletter_spec ?_;refine⟨fun h3=>?_,fun h3=>?_⟩
   ·have h3':letB s[0]=true:=by simpa using h3
    refine refword_spec ?_;refine⟨fun h4=>?_,fun h4=>?_⟩
    ·exact kbool hK (by simp [nmB,h4])
    ·have hpre:nmB s=s.all nmC:=by
      unfold nmB;rw[nm_head hx0,h3',h4,decide_eq_true (show 1≤s.length by omega),decide_eq_true (show s.length≤12 by omega)]
      rfl
     refine⟨Nat,fun i=>⟨[(0,.v (.string (bs s))),(3,.v (.int .i64 i))],[],0⟩,fun i H'=>H'=H∧i≤s.length∧(s.take i).all nmC=true,fun i=>s.length - i,⟨0,[],?_,rfl,by omega,rfl⟩,?_⟩
     ·exact⟨⟨rfl,rfl,trivial⟩,trivial⟩
     rintro i H1 _ ⟨rfl,hi,hall⟩;refine⟨fun h=>?_,fun h=>?_⟩
     ·have hlt:i<s.length:=by have:=dt h;omega
      have hx:=List.getElem?_eq_getElem hlt;refine⟨_,⟨by omega,hx⟩,?_⟩;refine refletter_spec ?_;refine⟨fun h5=>?_,fun h5=>?_⟩
      ·have h5':letB s[i]=false:=by simpa using h5
       refine⟨_,⟨by omega,hx⟩,?_⟩;refine refdigit_spec ?_;refine⟨fun h6=>?_,fun h6=>?_⟩
       ·have h6':digB s[i]=false:=by simpa using h6
        exact kbool hK (by rw[hpre,all_false s nmC hx (by rw[nmC,h5',h6'];rfl)])
       ·have h6':digB s[i]=true:=by simpa using h6
        refine⟨⟨by omega,by omega⟩,i+1,[],?_,⟨rfl,by omega,by rw[all_take_succ s nmC hx,hall,nmC,h5',h6'];rfl⟩,by dsimp only;omega⟩;exact⟨⟨rfl,rfl,trivial⟩,trivial⟩
      ·have h5':letB s[i]=true:=by simpa using h5
       refine⟨⟨by omega,by omega⟩,i+1,[],?_,⟨rfl,by omega,by rw[all_take_succ s nmC hx,hall,nmC,h5'];rfl⟩,by dsimp only;omega⟩;exact⟨⟨rfl,rfl,trivial⟩,trivial⟩
     ·have hil:i=s.length:=by have:=df h;omega
      rw[hil,List.take_length]at hall;exact kbool hK (by rw[hpre,hall])
   ·have h3':letB s[0]=false:=by simpa using h3
    exact kbool hK (by simp only[nmB,nm_head hx0,h3',Bool.and_false,Bool.false_and])
  ·have h2':12<(s.length:Int):=of_decide_eq_true h2;exact kbool hK (by simp only[nmB,decide_eq_false (show ¬s.length≤12 by omega),Bool.and_false,Bool.false_and])
 ·have h1':(s.length:Int)=0:=of_decide_eq_true h1;exact kbool hK (by simp only[nmB,decide_eq_false (show ¬1≤s.length by omega),Bool.false_and])
end Go.Proofs
end
section
namespace Go.Proofs
open Go.Sy
set_option maxRecDepth 20000
def cut (n:Int):Int:=min (max n 1) 64
end Go.Proofs
end
section
namespace Go.Proofs
open Go.Sy
set_option maxRecDepth 20000
end Go.Proofs
end
section
namespace Go.Proofs
open Go.Sy
set_option maxRecDepth 20000
theorem any_take_succ {α:Type} (l:List α) (f:α→Bool) (j:Nat) (x:α) (h:l[j]?=some x):(l.take (j+1)).any f=((l.take j).any f||f x):=by
 rw[List.take_add_one,h,Option.toList_some,List.any_append];simp
end Go.Proofs
end
section
namespace Go.Proofs
open Go.Sy
set_option maxRecDepth 20000
theorem str_open' {H:Hp} {cs:List Value} {r:Str} (h:Enc.R H cs r):cs=[.string (bs r.l)]:=h.1
def badS (s:Str):Bool:=!prB s.l
theorem bad_spec {s:List UInt8} (hs:s.length≤9223372036854775807) {H:Hp} {K:Value→Hp→Prop} (hK:K (.bool (!prB s)) H):Does Tryd.prog 43 [.string (bs s)] H K:=by
 refine spec_of cx_ok cx_mix rfl Tryd.func43 Tryd.call43 Tryd.ntmps43 Tryd.results43 rfl rfl ?_;refine printable_spec hs ?_;exact hK
theorem any_take_succ' {α:Type} (l:List α) (f:α→Bool) {j:Nat} {x:α} (h:l[j]?=some x):(l.take (j+1)).any f=((l.take j).any f||f x):=any_take_succ l f j x h
theorem any_true {α:Type} (l:List α) (f:α→Bool) {j:Nat} {x:α} (h:l[j]?=some x) (hf:f x=true):l.any f=true:=by
 rw[List.any_eq_true];exact⟨x,List.mem_of_getElem? h,hf⟩
theorem indexfunc_spec {l:List Str} {a1:Option Addr} {n1 c1:Nat} {H:Hp} {K:Value→Hp→Prop} (ha:RL H a1 n1 c1 l) (hK:∀r:Int,(0≤r↔l.any badS=true)→K (.int .i64 r) H):
  Does Tryd.prog 69 [.slice a1 n1 c1,.func (.func 43) #[] #[]] H K:=by
 have hn1:=ha.n_eq;have hmx:=ha.le;refine spec_of cx_ok cx_mix rfl Tryd.func69 Tryd.call69 Tryd.ntmps69 Tryd.results69 rfl rfl ?_;refine⟨Nat,fun i=>⟨[(0,.v (.slice a1 n1 c1)),(1,.fn 43 []),(7,.v (.int .i64 n1)),(8,.v (.int .i64 i))],[],0⟩,fun i H'=>H'=H∧i≤l.length∧(l.take i).any badS=false,fun i=>l.length - i,⟨0,[],?_,rfl,by omega,rfl⟩,?_⟩
 ·exact⟨⟨rfl,⟨rfl,rfl⟩,rfl,rfl,trivial⟩,trivial⟩
 rintro i H1 _ ⟨rfl,hi,hany⟩;refine⟨fun h=>?_,fun h=>?_⟩
 ·have hlt:i<l.length:=by have:=dt h;omega
  have hx:=List.getElem?_eq_getElem hlt;have hel:=ha.elem hx;obtain⟨ad,cs,e1,hh,r1⟩:=hel;have hsl:=r1.2;rw[str_open' r1]at hh;refine⟨ad,⟨by omega,by omega,e1⟩,?_⟩;refine⟨_,hh,?_⟩;refine bad_spec hsl ?_;refine⟨fun h=>?_,fun h=>?_⟩
  ·exact hK i ⟨fun _=>any_true l badS hx h,fun _=>by omega⟩
  ·refine⟨⟨by omega,by omega⟩,i+1,[],?_,⟨rfl,by omega,by rw[any_take_succ' l badS hx,hany,badS,h];rfl⟩,by dsimp only;omega⟩;exact⟨⟨rfl,⟨rfl,rfl⟩,rfl,rfl,trivial⟩,trivial⟩
 ·have hil:i=l.length:=by have:=df h;omega
  rw[hil,List.take_length]at hany;exact hK (-1) ⟨fun h=>by omega,fun h=>by rw[hany]at h;cases h⟩
theorem contains_spec {l:List Str} {a1:Option Addr} {n1 c1:Nat} {H:Hp} {K:Value→Hp→Prop} (ha:RL H a1 n1 c1 l) (hK:K (.bool (l.any badS)) H):
  Does Tryd.prog 48 [.slice a1 n1 c1,.func (.func 43) #[] #[]] H K:=by
 refine spec_of cx_ok cx_mix rfl Tryd.func48 Tryd.call48 Tryd.ntmps48 Tryd.results48 rfl rfl ?_
 refine indexfunc_spec ha fun r hr=>?_
 refine kbool hK ?_;rw[Bool.eq_iff_iff,←hr,decide_eq_true_iff]
theorem all_spec {l:List Str} {a1:Option Addr} {n1 c1:Nat} {H:Hp} {K:Value→Hp→Prop} (ha:RL H a1 n1 c1 l) (hK:K (.bool (!l.any badS)) H):Does Tryd.prog 42 [.slice a1 n1 c1] H K:=by
 have hn1:=ha.n_eq;have hmx:=ha.le;refine spec_of cx_ok cx_mix rfl Tryd.func42 Tryd.call42 Tryd.ntmps42 Tryd.results42 rfl rfl ?_;refine⟨Nat,fun i=>⟨[(5,.v (.slice a1 n1 c1)),(6,.v (.int .i64 n1)),(7,.v (.int .i64 i))],[],0⟩,fun i H'=>H'=H∧i≤l.length∧(l.take i).any badS=false,fun i=>l.length - i,⟨0,[],?_,rfl,by omega,rfl⟩,?_⟩
 ·exact⟨⟨rfl,rfl,rfl,trivial⟩,trivial⟩
 rintro i H1 _ ⟨rfl,hi,hany⟩;refine⟨fun h=>?_,fun h=>?_⟩
 ·have hlt:i<l.length:=by have:=dt h;omega
  have hx:=List.getElem?_eq_getElem hlt;have hel:=ha.elem hx;obtain⟨ad,cs,e1,hh,r1⟩:=hel;have hsl:=r1.2;rw[str_open' r1]at hh;refine⟨ad,⟨by omega,by omega,e1⟩,?_⟩;refine⟨_,hh,?_⟩;refine refprintable_spec hsl ?_;refine⟨fun h=>?_,fun h=>?_⟩
  ·exact kbool hK (by rw[any_true l badS hx h];rfl)
  ·refine⟨⟨by omega,by omega⟩,i+1,[],?_,⟨rfl,by omega,by rw[any_take_succ' l badS hx,hany,badS,h];rfl⟩,by dsimp only;omega⟩;exact⟨⟨rfl,rfl,rfl,trivial⟩,trivial⟩
 ·have hil:i=l.length:=by have:=df h;omega
  rw[hil,List.take_length]at hany;exact kbool hK (by rw[hany];rfl)
end Go.Proofs
end
section
namespace Go.Proofs
open Go.Sy
set_option maxRecDepth 20000
def rowBad (x:Row):Bool:=!nmB x.1.l||x.2.1.any badS||x.2.2.any badS
abbrev bcell:List (Nat×Bx):=[(0,.cells 32 [.fn 43 []])]
theorem rowbad_spec {x:Row} {a1 a2:Option Addr} {n1 c1 n2 c2:Nat} {H:Hp} {K:SV→St→Hp→Prop} (h1:RL H a1 n1 c1 x.2.1) (h2:RL H a2 n2 c2 x.2.2) (hs:x.1.l.length≤9223372036854775807)
  (hK:K (.v (.bool (rowBad x))) ⟨[],bcell,1⟩ H):DoesG Tryd.prog 46 [.agg [.v (.string (bs x.1.l)),.v (.slice a1 n1 c1),.v (.slice a2 n2 c2)],.ptr 0 0] bcell 1 H K:=by
 refine spec_ofG cx_ok cx_mix Tryd.func46 Tryd.call46 Tryd.ntmps46 Tryd.results46 rfl rfl ?_;refine name2_spec ?_ hs;refine⟨fun h=>?_,fun h=>?_⟩
 ·have hn:nmB x.1.l=true:=by simpa using h
  refine contains_spec h1 ?_;refine⟨fun h3=>?_,fun h3=>?_⟩
  ·refine contains_spec h2 ?_
   have e:SV.v (.bool (x.2.2.any badS))=SV.v (.bool (rowBad x)):=by rw[rowBad,hn,h3];rfl
   exact⟨.v (.bool (rowBad x)),bcell,1,[(0,0)],⟨⟨e,trivial⟩,⟨⟨⟨rfl,rfl⟩,trivial⟩,trivial⟩⟩,hK⟩
  ·have e:Value.bool (rowBad x) = .bool true:=by rw[rowBad,hn,h3];rfl
   exact⟨.v (.bool (rowBad x)),bcell,1,[(0,0)],⟨⟨e,trivial⟩,⟨⟨⟨rfl,rfl⟩,trivial⟩,trivial⟩⟩,hK⟩
 ·have hn:nmB x.1.l=false:=by simpa using h
  have e:Value.bool (rowBad x) = .bool true:=by rw[rowBad,hn];rfl
  exact⟨.v (.bool (rowBad x)),bcell,1,[(0,0)],⟨⟨e,trivial⟩,⟨⟨⟨rfl,rfl⟩,trivial⟩,trivial⟩⟩,hK⟩
theorem indexrow_spec {l:List Row} {a1:Option Addr} {n1 c1:Nat} {H:Hp} {K:SV→St→Hp→Prop} (ha:RL H a1 n1 c1 l) (hK:∀r:Int,(0≤r↔l.any rowBad=true)→K (.v (.int .i64 r)) ⟨[],bcell,1⟩ H):
  DoesG Tryd.prog 65 [.v (.slice a1 n1 c1),.fn 46 [.ptr 0 0]] bcell 1 H K:=by
 have hn1:=ha.n_eq;have hmx:=ha.le;refine spec_ofG cx_ok cx_mix Tryd.func65 Tryd.call65 Tryd.ntmps65 Tryd.results65 rfl rfl ?_;refine⟨Nat,fun i=>⟨[(0,.v (.slice a1 n1 c1)),(1,.fn 46 [.ptr 0 0]),(7,.v (.int .i64 n1)),(8,.v (.int .i64 i))],bcell,1⟩,fun i H'=>H'=H∧i≤l.length∧(l.take i).any rowBad=false,fun i=>l.length - i,⟨0,[(0,0)],?_,rfl,by omega,rfl⟩,?_⟩
 ·exact⟨⟨rfl,⟨rfl,rfl⟩,rfl,rfl,trivial⟩,⟨⟨⟨rfl,rfl⟩,trivial⟩,trivial⟩⟩
 rintro i H1 _ ⟨rfl,hi,hany⟩;refine⟨fun h=>?_,fun h=>?_⟩
 ·have hlt:i<l.length:=by have:=dt h;omega
  have hx:=List.getElem?_eq_getElem hlt;have hel:=ha.elem hx;obtain⟨ad,cs,e1,hh,r1⟩:=hel;obtain⟨b1,m1,d1,b2,m2,d2,ecs,hsl,p1,p2⟩:=row_open r1;rw[ecs]at hh;refine⟨ad,⟨by omega,by omega,e1⟩,?_⟩;refine⟨_,hh,?_⟩;refine⟨[0],rfl,?_⟩;refine rowbad_spec p1 p2 hsl ?_;refine⟨fun h=>?_,fun h=>?_⟩
  ·exact⟨.v (.int .i64 i),bcell,1,[(0,0)],⟨⟨rfl,trivial⟩,⟨⟨⟨rfl,rfl⟩,trivial⟩,trivial⟩⟩,hK i ⟨fun _=>any_true l rowBad hx h,fun _=>by omega⟩⟩
  ·refine⟨⟨by omega,by omega⟩,i+1,[(0,0)],?_,⟨rfl,by omega,by rw[any_take_succ' l rowBad hx,hany,h];rfl⟩,by dsimp only;omega⟩;exact⟨⟨rfl,⟨rfl,rfl⟩,rfl,rfl,trivial⟩,⟨⟨⟨rfl,rfl⟩,trivial⟩,trivial⟩⟩
 ·have hil:i=l.length:=by have:=df h;omega
  rw[hil,List.take_length]at hany;exact⟨.v (.int .i64 (-1)),bcell,1,[(0,0)],⟨⟨rfl,trivial⟩,⟨⟨⟨rfl,rfl⟩,trivial⟩,trivial⟩⟩,hK (-1) ⟨fun h=>by omega,fun h=>by rw[hany]at h;cases h⟩⟩
theorem containsrow_spec {l:List Row} {a1:Option Addr} {n1 c1:Nat} {H:Hp} {K:SV→St→Hp→Prop} (ha:RL H a1 n1 c1 l) (hK:K (.v (.bool (l.any rowBad))) ⟨[],bcell,1⟩ H):
  DoesG Tryd.prog 45 [.v (.slice a1 n1 c1),.fn 46 [.ptr 0 0]] bcell 1 H K:=by
 refine spec_ofG cx_ok cx_mix Tryd.func45 Tryd.call45 Tryd.ntmps45 Tryd.results45 rfl rfl ?_;refine⟨[0],rfl,?_⟩
 refine indexrow_spec ha fun r hr=>?_
 have e:SV.v (.bool (decide (0≤r)))=SV.v (.bool (l.any rowBad)):=by
  have:decide (0≤r)=l.any rowBad:=by rw[Bool.eq_iff_iff,←hr,decide_eq_true_iff]
  rw[this]
 exact⟨.v (.bool (l.any rowBad)),bcell,1,[(0,0)],⟨⟨e,trivial⟩,⟨⟨⟨rfl,rfl⟩,trivial⟩,trivial⟩⟩,hK⟩
def rightB (r:Report):Bool:=decide (nameOf r.1≠[])&&!r.2.any rowBad
theorem right_spec {r:Report} {H:Hp} {cs:List Value} {K:Value→Hp→Prop} (ha:Enc.R H cs r) (hK:K (.bool (rightB r)) H):Does Tryd.prog 27 [.agg cs.toArray] H K:=by
 obtain⟨a1,n1,c1,rfl,hl,h1⟩:=rep_open ha;refine spec_of cx_ok cx_mix rfl Tryd.func27 Tryd.call27 Tryd.ntmps27 Tryd.results27 rfl rfl ?_;refine name_spec ?_;refine⟨fun h=>?_,fun h=>?_⟩
 ·have h':(!decide (nameOf r.1=([]:List UInt8)))=true:=h
  have hne:decide (nameOf r.1≠[])=true:=by simpa using h'
  refine⟨[1],rfl,?_⟩;refine containsrow_spec h1 ?_;exact kbool hK (by rw[rightB,hne,Bool.true_and])
 ·have h':(!decide (nameOf r.1=([]:List UInt8)))=false:=h
  have hne:decide (nameOf r.1≠[])=false:=by simpa using h'
  exact kbool hK (by rw[rightB,hne,Bool.false_and])
theorem refright_spec {r:Report} {H:Hp} {cs:List Value} {K:Value→Hp→Prop} (ha:Enc.R H cs r) (hK:K (.bool (rightB r)) H):Does Tryd.prog 24 [.agg cs.toArray] H K:=by
 obtain⟨a1,n1,c1,rfl,hl,h1⟩:=rep_open ha;refine spec_of cx_ok cx_mix rfl Tryd.func24 Tryd.call24 Tryd.ntmps24 Tryd.results24 rfl rfl ?_;have hn1:=h1.n_eq;have hmx:=h1.le;refine⟨Nat,fun i=>⟨[(1,.ptr 0 0),(6,.v (.slice a1 n1 c1)),(7,.v (.int .i64 n1)),(8,.v (.int .i64 i))],[(0,.cells 25 [.v (.int .i64 r.1),.v (.slice a1 n1 c1)])],1⟩,fun i H'=>H'=H∧i≤r.2.length∧(r.2.take i).any rowBad=false,fun i=>r.2.length - i,⟨0,[(0,0)],?_,rfl,by omega,rfl⟩,?_⟩
 ·exact⟨⟨⟨rfl,rfl⟩,rfl,rfl,rfl,trivial⟩,⟨⟨rfl,rfl,trivial⟩,trivial⟩⟩
 rintro i H1 _ ⟨rfl,hi,hany⟩;refine⟨fun h=>?_,fun h=>?_⟩
 ·have hlt:i<r.2.length:=by have:=dt h;omega
  have hx:=List.getElem?_eq_getElem hlt;have hel:=h1.elem hx;obtain⟨ad,cs,e1,hh,r1⟩:=hel;obtain⟨b1,m1,d1,b2,m2,d2,ecs,hsl,p1,p2⟩:=row_open r1;rw[ecs]at hh;refine⟨ad,⟨by omega,by omega,e1⟩,?_⟩;refine⟨_,hh,?_⟩;refine refname2_spec ?_ hsl
  have bad:rowBad r.2[i]=true→rightB r=false:=fun hb=>by rw[rightB,any_true r.2 rowBad hx hb];simp
  refine⟨fun h3=>?_,fun h3=>?_⟩
  ·have hn:nmB r.2[i].1.l=true:=by simpa using h3
   refine all_spec p1 ?_;refine⟨fun h4=>?_,fun h4=>?_⟩
   ·have h4':r.2[i].2.1.any badS=false:=by simpa using h4
    refine all_spec p2 ?_;refine⟨fun h5=>?_,fun h5=>?_⟩
    ·have h5':r.2[i].2.2.any badS=true:=by simpa using h5
     exact kbool hK (bad (by rw[rowBad,h5',Bool.or_true]))
    ·have h5':r.2[i].2.2.any badS=false:=by simpa using h5
     have hg:rowBad r.2[i]=false:=by rw[rowBad,hn,h4',h5'];rfl
     refine⟨⟨by omega,by omega⟩,i+1,[(0,0)],?_,⟨rfl,by omega,by rw[any_take_succ' r.2 rowBad hx,hany,hg];rfl⟩,by dsimp only;omega⟩;exact⟨⟨⟨rfl,rfl⟩,rfl,rfl,rfl,trivial⟩,⟨⟨rfl,rfl,trivial⟩,trivial⟩⟩
   ·have h4':r.2[i].2.1.any badS=true:=by simpa using h4
    exact kbool hK (bad (by rw[rowBad,h4',Bool.or_true,Bool.true_or]))
  ·have hn:nmB r.2[i].1.l=false:=by simpa using h3
   exact kbool hK (bad (by rw[rowBad,hn];rfl))
 ·have hil:i=r.2.length:=by have:=df h;omega
  rw[hil,List.take_length]at hany;refine refname_spec ?_
  have e9:rightB r=!decide (nameOf r.1=([]:List UInt8)):=by rw[rightB,hany];simp
  exact kbool hK e9
end Go.Proofs
end
section
namespace Go.Proofs
open Go.Sy
set_option maxRecDepth 20000
end Go.Proofs
end
section
namespace Go.Proofs
open Go.Sy
set_option maxRecDepth 20000
theorem ei {k:IntKind} {a b:Int} (h:a=b):SV.v (.int k a)=SV.v (.int k b):=by rw[h]
def wk (l:List UInt8):Nat→Int
 | 0=>0
 | k+1=>if nameOf ((k:Int)+1)=l then (k:Int)+1 else wk l k
theorem wk_kind (l:List UInt8):wk l 4=kindOf l:=by
 by_cases h1:l=nameOf 1
 ·subst h1;decide
 by_cases h2:l=nameOf 2
 ·subst h2;decide
 by_cases h3:l=nameOf 3
 ·subst h3;decide
 by_cases h4:l=nameOf 4
 ·subst h4;decide
 have g:∀i:Int,l≠nameOf i→¬nameOf i=l:=fun i h e=>h e.symm
 have e1:wk l 4=0:=by
  show (if nameOf 4=l then (4:Int) else if nameOf 3=l then 3 else if nameOf 2=l then 2 else if nameOf 1=l then 1 else 0)=0;rw[if_neg (g 4 h4),if_neg (g 3 h3),if_neg (g 2 h2),if_neg (g 1 h1)]
 rw[e1];unfold kindOf;rw[if_neg h1,if_neg h2,if_neg h3,if_neg h4]
end Go.Proofs
end
