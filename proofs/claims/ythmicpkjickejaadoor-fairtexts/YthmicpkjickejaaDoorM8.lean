/- Part 'M8' of the proof (Tt, E1, E5, E6, E10, E11, E12): lemmas, each with its own conditions in its own statement. -/
import Derived.Test.YthmicpkjickejaaDoorProg
import Derived.Test.YthmicpkjickejaaDoorM7
section
/- Plain words: the table of the program's types. -/
namespace Go.Proofs
open Go.Sy
set_option maxRecDepth 20000
noncomputable def tt (t:Nat):Option (TypeInfo×TypeDesc):=bif Nat.ble t 93 then (bif Nat.ble t 46 then (bif Nat.ble t 23 then (bif Nat.ble t 11 then (bif Nat.ble t 5 then (bif Nat.ble t 2 then (bif Nat.ble t 1 then (bif Nat.ble t 0 then some (Tryd.t0,Tryd.t0.desc) else some (Tryd.t1,Tryd.t1.desc)) else some (Tryd.t2,Tryd.t2.desc)) else (bif Nat.ble t 4 then (bif Nat.ble t 3 then some (Tryd.t3,Tryd.t3.desc) else some (Tryd.t4,Tryd.t4.desc)) else some (Tryd.t5,Tryd.t5.desc))) else (bif Nat.ble t 8 then (bif Nat.ble t 7 then (bif Nat.ble t 6 then some (Tryd.t6,Tryd.t5.desc) else some (Tryd.t7,Tryd.t7.desc)) else some (Tryd.t8,Tryd.t7.desc)) else (bif Nat.ble t 10 then (bif Nat.ble t 9 then some (Tryd.t9,Tryd.t9.desc) else some (Tryd.t10,Tryd.t9.desc)) else some (Tryd.t11,Tryd.t9.desc)))) else (bif Nat.ble t 17 then (bif Nat.ble t 14 then (bif Nat.ble t 13 then (bif Nat.ble t 12 then some (Tryd.t12,Tryd.t12.desc) else some (Tryd.t13,Tryd.t13.desc)) else some (Tryd.t14,Tryd.t13.desc)) else (bif Nat.ble t 16 then (bif Nat.ble t 15 then some (Tryd.t15,Tryd.t15.desc) else some (Tryd.t16,Tryd.t16.desc)) else some (Tryd.t17,Tryd.t17.desc))) else (bif Nat.ble t 20 then (bif Nat.ble t 19 then (bif Nat.ble t 18 then some (Tryd.t18,Tryd.t18.desc) else some (Tryd.t19,Tryd.t18.desc)) else some (Tryd.t20,Tryd.t20.desc)) else (bif Nat.ble t 22 then (bif Nat.ble t 21 then some (Tryd.t21,Tryd.t21.desc) else some (Tryd.t22,Tryd.t22.desc)) else some (Tryd.t23,Tryd.t23.desc))))) else (bif Nat.ble t 35 then (bif Nat.ble t 29 then (bif Nat.ble t 26 then (bif Nat.ble t 25 then (bif Nat.ble t 24 then some (Tryd.t24,Tryd.t24.desc) else some (Tryd.t25,Tryd.t25.desc)) else some (Tryd.t26,Tryd.t26.desc)) else (bif Nat.ble t 28 then (bif Nat.ble t 27 then some (Tryd.t27,Tryd.t27.desc) else some (Tryd.t28,Tryd.t28.desc)) else some (Tryd.t29,Tryd.t29.desc))) else (bif Nat.ble t 32 then (bif Nat.ble t 31 then (bif Nat.ble t 30 then some (Tryd.t30,Tryd.t29.desc) else some (Tryd.t31,Tryd.t31.desc)) else some (Tryd.t32,Tryd.t32.desc)) else (bif Nat.ble t 34 then (bif Nat.ble t 33 then some (Tryd.t33,Tryd.t33.desc) else some (Tryd.t34,Tryd.t34.desc)) else some (Tryd.t35,Tryd.t35.desc)))) else (bif Nat.ble t 41 then (bif Nat.ble t 38 then (bif Nat.ble t 37 then (bif Nat.ble t 36 then some (Tryd.t36,Tryd.t36.desc) else some (Tryd.t37,Tryd.t37.desc)) else some (Tryd.t38,Tryd.t38.desc)) else (bif Nat.ble t 40 then (bif Nat.ble t 39 then some (Tryd.t39,Tryd.t39.desc) else some (Tryd.t40,Tryd.t40.desc)) else some (Tryd.t41,Tryd.t41.desc))) else (bif Nat.ble t 44 then (bif Nat.ble t 43 then (bif Nat.ble t 42 then some (Tryd.t42,Tryd.t42.desc) else some (Tryd.t43,Tryd.t43.desc)) else some (Tryd.t44,Tryd.t44.desc)) else (bif Nat.ble t 45 then some (Tryd.t45,Tryd.t45.desc) else some (Tryd.t46,Tryd.t46.desc)))))) else (bif Nat.ble t 70 then (bif Nat.ble t 58 then (bif Nat.ble t 52 then (bif Nat.ble t 49 then (bif Nat.ble t 48 then (bif Nat.ble t 47 then some (Tryd.t47,Tryd.t46.desc) else some (Tryd.t48,Tryd.t48.desc)) else some (Tryd.t49,Tryd.t49.desc)) else (bif Nat.ble t 51 then (bif Nat.ble t 50 then some (Tryd.t50,Tryd.t49.desc) else some (Tryd.t51,Tryd.t51.desc)) else some (Tryd.t52,Tryd.t52.desc))) else (bif Nat.ble t 55 then (bif Nat.ble t 54 then (bif Nat.ble t 53 then some (Tryd.t53,Tryd.t53.desc) else some (Tryd.t54,Tryd.t54.desc)) else some (Tryd.t55,Tryd.t55.desc)) else (bif Nat.ble t 57 then (bif Nat.ble t 56 then some (Tryd.t56,Tryd.t56.desc) else some (Tryd.t57,Tryd.t57.desc)) else some (Tryd.t58,Tryd.t58.desc)))) else (bif Nat.ble t 64 then (bif Nat.ble t 61 then (bif Nat.ble t 60 then (bif Nat.ble t 59 then some (Tryd.t59,Tryd.t59.desc) else some (Tryd.t60,Tryd.t60.desc)) else some (Tryd.t61,Tryd.t61.desc)) else (bif Nat.ble t 63 then (bif Nat.ble t 62 then some (Tryd.t62,Tryd.t62.desc) else some (Tryd.t63,Tryd.t63.desc)) else some (Tryd.t64,Tryd.t64.desc))) else (bif Nat.ble t 67 then (bif Nat.ble t 66 then (bif Nat.ble t 65 then some (Tryd.t65,Tryd.t65.desc) else some (Tryd.t66,Tryd.t66.desc)) else some (Tryd.t67,Tryd.t67.desc)) else (bif Nat.ble t 69 then (bif Nat.ble t 68 then some (Tryd.t68,Tryd.t68.desc) else some (Tryd.t69,Tryd.t69.desc)) else some (Tryd.t70,Tryd.t70.desc))))) else (bif Nat.ble t 82 then (bif Nat.ble t 76 then (bif Nat.ble t 73 then (bif Nat.ble t 72 then (bif Nat.ble t 71 then some (Tryd.t71,Tryd.t71.desc) else some (Tryd.t72,Tryd.t72.desc)) else some (Tryd.t73,Tryd.t73.desc)) else (bif Nat.ble t 75 then (bif Nat.ble t 74 then some (Tryd.t74,Tryd.t74.desc) else some (Tryd.t75,Tryd.t75.desc)) else some (Tryd.t76,Tryd.t76.desc))) else (bif Nat.ble t 79 then (bif Nat.ble t 78 then (bif Nat.ble t 77 then some (Tryd.t77,Tryd.t77.desc) else some (Tryd.t78,Tryd.t78.desc)) else some (Tryd.t79,Tryd.t78.desc)) else (bif Nat.ble t 81 then (bif Nat.ble t 80 then some (Tryd.t80,Tryd.t80.desc) else some (Tryd.t81,Tryd.t81.desc)) else some (Tryd.t82,Tryd.t81.desc)))) else (bif Nat.ble t 88 then (bif Nat.ble t 85 then (bif Nat.ble t 84 then (bif Nat.ble t 83 then some (Tryd.t83,Tryd.t83.desc) else some (Tryd.t84,Tryd.t84.desc)) else some (Tryd.t85,Tryd.t84.desc)) else (bif Nat.ble t 87 then (bif Nat.ble t 86 then some (Tryd.t86,Tryd.t86.desc) else some (Tryd.t87,Tryd.t5.desc)) else some (Tryd.t88,Tryd.t5.desc))) else (bif Nat.ble t 91 then (bif Nat.ble t 90 then (bif Nat.ble t 89 then some (Tryd.t89,Tryd.t89.desc) else some (Tryd.t90,Tryd.t21.desc)) else some (Tryd.t91,Tryd.t21.desc)) else (bif Nat.ble t 92 then some (Tryd.t92,Tryd.t92.desc) else some (Tryd.t93,Tryd.t92.desc))))))) else none
theorem tt_all:(List.range 94).map (fun t=>(Tryd.prog.info? t,Tryd.prog.underlying t))=(List.range 94).map (fun t=>((tt t).map (·.1),(tt t).map (·.2))):=by kernel_rfl
theorem tt_ok:∀(T:Nat) (i:TypeInfo) (d:TypeDesc),tt T=some (i,d)→Tryd.prog.info? T=some i∧Tryd.prog.underlying T=some d:=by
 intro T i d h
 have hT:T<94:=by
  rcases Nat.lt_or_ge T 94 with h1 | h1
  ·exact h1
  ·unfold tt at h
   cases hb:Nat.ble T 93 with
   | true=>have:=Nat.le_of_ble_eq_true hb;omega
   | false=>rw[hb]at h;cases h
 have h2:=congrArg (fun l=>l[T]?) tt_all;simp only[List.getElem?_map,List.getElem?_range hT,Option.map_some,Option.some.injEq,Prod.mk.injEq,h]at h2;exact h2
noncomputable def cx:Cx:={ P:=Tryd.prog,tt:=tt,n:=0,wrap:=false,base:=0,gf:=[20,21,22,27,29,30],eqs:=[30],xf:=[37,38,41,43,49] }
theorem cx_ok:TOK cx:=⟨tt_ok,eqs_of (P:=Tryd.prog) (tt:=tt) (l:=[30]) (by kernel_rfl)⟩
theorem cx_mix:cx.P.follows .mixedOrders=true:=by kernel_rfl
noncomputable def cxw:Cx:={ cx with wrap:=true }
theorem cxw_ok:TOK cxw:=⟨cx_ok.tt,cx_ok.eqs⟩
end Go.Proofs
end
section
namespace Go.Proofs
open Go.Sy
end Go.Proofs
end
section
namespace Go.Proofs
open Go.Sy
end Go.Proofs
end
section
namespace Go.Proofs
open Go.Sy
end Go.Proofs
end
section
namespace Go.Proofs
open Go.Sy
set_option maxRecDepth 20000
abbrev Pick:=Int×Int
def cut (n:Int):Int:=min (max n 1) 64
theorem cut_spec {n:Int} {H:Hp} {K:Value→Hp→Prop} (hK:K (.int .i64 (cut n)) H):Does Tryd.prog 18 [.int .i64 n] H K:=by
 refine spec_of cx_ok cx_mix rfl Tryd.func18 Tryd.call18 Tryd.ntmps18 Tryd.results18 rfl rfl ?_;exact hK
def who (p:Int) (n:Int):Int:=if n<1 then 0 else if p.tmod n<0 then p.tmod n+n else p.tmod n
theorem swho_spec {p d n:Int} {H:Hp} {K:Value→Hp→Prop} (hn:n≤9223372036854775807) (hK:K (.int .i64 (who p n)) H):Does Tryd.prog 28 [.agg #[.int .i64 p,.int .i64 d],.int .i64 n] H K:=by
 refine spec_of cx_ok cx_mix rfl Tryd.func28 Tryd.call28 Tryd.ntmps28 Tryd.results28 rfl rfl ?_;refine⟨fun h=>?_,fun h=>?_⟩
 ·rw[who,if_pos (dt h)]at hK;exact hK
 ·have h:=df h;rw[who,if_neg h]at hK
  have h1:0≤p.tmod n+n:=by have:=Int.lt_tmod_of_pos p (show 0<n by omega);omega
  have h2:p.tmod n<n:=Int.tmod_lt_of_pos p (by omega);refine⟨by omega,?_⟩;refine⟨fun h=>?_,fun h=>?_⟩
  ·rw[if_pos (dt h)]at hK;have:=dt h;refine⟨⟨by omega,by omega⟩,?_⟩;exact hK
  ·rw[if_neg (df h)]at hK;exact hK
end Go.Proofs
end
section
namespace Go.Proofs
open Go.Sy
set_option maxRecDepth 20000
theorem pick_open {H:Hp} {cs:List Value} {r:Pick} (h:Enc.R H cs r):cs=[.int .i64 r.1,.int .i64 r.2]:=by
 obtain⟨x1,x2,rfl,⟨rfl,_⟩,⟨rfl,_⟩⟩:=h
 rfl
theorem psame_spec {a b:List Pick} {a1 a2:Option Addr} {n1 c1 n2 c2:Nat} {H:Hp} {K:Value→Hp→Prop} (ha:RL H a1 n1 c1 a) (hb:RL H a2 n2 c2 b)
 (hK:∀H',Le H H'→K (.bool (decide (a=b))) H'):Does Tryd.prog 8 [.slice a1 n1 c1,.slice a2 n2 c2] H K:=by
 refine spec_of cx_ok cx_mix rfl Tryd.func8 Tryd.call8 Tryd.ntmps8 Tryd.results8 rfl rfl ?_;have hn1:=ha.n_eq;have hn2:=hb.n_eq;have hmx:=ha.le;refine⟨fun h=>?_,fun h=>?_⟩
 ·have e:a≠b:=by intro e;subst e;simp at h;omega
  have:=hK H (Le.refl H);rw[decide_eq_false e]at this;exact this
 ·have hlen:a.length=b.length:=by simp at h;omega
  refine⟨Nat,fun k=>⟨[(0,.v (.slice a1 n1 c1)),(1,.v (.slice a2 n2 c2)),(12,.v (.int .i64 n1)),(13,.v (.int .i64 k))],[],0⟩,fun k H'=>Le H H'∧k≤a.length∧a.take k=b.take k,fun k=>a.length - k,⟨0,[],?_,Le.refl H,by omega,rfl⟩,?_⟩
  ·exact⟨⟨rfl,rfl,rfl,rfl,trivial⟩,trivial⟩
  rintro k H' _ ⟨hle,hk,htk⟩;refine⟨fun h=>?_,fun h=>?_⟩
  ·have hlt:k<a.length:=by have:=of_decide_eq_true h;omega
   have hx:=List.getElem?_eq_getElem hlt;have hy:=List.getElem?_eq_getElem (hlen▸hlt:k<b.length);obtain⟨ad,cs,e1,h1,r1⟩:=(ha.up hle).elem hx;obtain⟨bd,ds,e2,h2,r2⟩:=(hb.up hle).elem hy;obtain rfl:=pick_open r1;obtain rfl:=pick_open r2;refine⟨some ([],[0,1,2,3,4,5,6,7,8]),by kernel_rfl,?_⟩;refine⟨ad,⟨by omega,by omega,e1⟩,?_⟩;refine⟨_,h1,?_⟩;refine⟨bd,⟨by omega,by omega,e2⟩,?_⟩;refine⟨_,h2,?_⟩;refine⟨fun h=>?_,fun h=>?_⟩
   ·have hne:¬(a[k].1=b[k].1∧a[k].2=b[k].2):=by have h3:=h;simp at h3;rcases h3 with h3 | h3<;>simp [h3]
    have:=hK H' hle;rw[decide_eq_false (fun e=>by subst e;exact hne ⟨rfl,rfl⟩)]at this;exact this
   ·have heq:a[k].1=b[k].1∧a[k].2=b[k].2:=by simpa [Decidable.not_and_iff_or_not] using h
    refine⟨⟨by omega,by omega⟩,k+1,[],?_,⟨hle,by omega,?_⟩,by dsimp only;omega⟩
    ·exact⟨⟨rfl,rfl,rfl,rfl,trivial⟩,trivial⟩
    ·rw[List.take_add_one,List.take_add_one,htk,hx,hy,show a[k]=b[k] from Prod.ext heq.1 heq.2]
  ·have:a=b:=by
    have h:=of_decide_eq_false h
    have e:k=a.length:=by omega
    subst e;rw[List.take_length,hlen,List.take_length]at htk;exact htk
   have h2:=hK H' hle;rw[decide_eq_true this]at h2;exact h2
end Go.Proofs
end
section
namespace Go.Proofs
open Go.Sy
set_option maxRecDepth 20000
def runs (n k:Int) (l:List Pick) (i w:Nat):Bool:=((l.take (i+k.toNat)).drop i).any fun p=>decide (who p.1 (cut n)=w)
def isR (n k:Int) (l:List Pick):Prop:=1≤k∧∀i:Nat,i<l.length→k≤l.length - i→∀w:Nat,w<(cut n).toNat→runs n k l i w=true
end Go.Proofs
end
