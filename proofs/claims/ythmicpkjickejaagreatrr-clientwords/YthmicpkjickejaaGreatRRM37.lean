/- Part 'M37' of the proof (Rc3, Rc4, Cw8): lemmas, each with its own conditions in its own statement. -/
import Derived.Test.YthmicpkjickejaaGreatRRM29
import Derived.Test.YthmicpkjickejaaGreatRRM36
section
namespace Go.Proofs
open Go.Sy
set_option maxRecDepth 20000
set_option maxHeartbeats 4000000
theorem cnt_snoc (i:Nat):iRows (cntL i)++[[.int .i64 (i:Nat)]]=iRows (cntL (i+1)):=by
 rw[cntL,cntL,List.range_succ,List.map_append,iRows,iRows,List.map_append];rfl
theorem cnt_in {n:Nat} (h:n≤1000000):∀x∈cntL n,inI x:=fun x hx=>by
 obtain⟨k,hk,rfl⟩:=List.mem_map.1 hx;have:=List.mem_range.1 hk;exact⟨by omega,by omega⟩
theorem rchs_spec {p:Prog} (he:checkE p=0) (hp:p.length≤12) (hl:∀b∈p,b.2.1.length≤100000) (hc:stmtsN p≤1000000) (hv:cnt p<400000) {a:Option Addr} {n c:Nat} {H:Hp} {K:Value→Hp→Prop} (ha:RL H a n c p)
  (hK:∀z H',Le H H'→Bt.SysR H' (csysOf p) z→K (Bt.sysA (csysOf p) z) H'):Does Tryz.prog 48 [.agg #[.slice a n c]] H K:=by
 have hn:=ha.n_eq;have hmx:=ha.le;have hv64:=vars64 he;have hz5:=sites_len he;refine spec_of cx_ok cx_mix rfl Tryz.func48 Tryz.call48 Tryz.ntmps48 Tryz.results48 rfl rfl ?_
 refine rsites_spec hp hl hc hv hv64 ha fun az nz cz H0 hle0 hrz=>?_
 have hnz:=hrz.n_eq;subst hnz
 refine rvars_spec (ha.up hle0) hv fun av nv cv H1 hle1 hrv=>?_
 have hnv:=hrv.n_eq;rw[List.length_map]at hnv;subst hnv;have hle01:=hle0.trans hle1
 refine⟨Nat,fun i=>⟨[(1,.ptr 0 0),(2,.ptr 1 0),(3,.v (.slice az (sitesOf p).length cz)),(4,.v (.int .i64 ((sitesOf p).length:Nat))),(5,.v (.slice av (varsOf p).length cv)),(6,.own 2),(25,.v (.int .i64 ((varsOf p).length:Nat))),(26,.v (.int .i64 i))],
   [(0,.cells 24 [.v (.slice a n c)]),(1,.cells 32 (vL zSys)),(2,.row 3 1 (iRows (cntL i)))],3⟩,
  fun i H'=>H'=H1∧i≤(varsOf p).length,fun i=>(varsOf p).length - i,⟨0,[(0,0),(1,1)],?_,rfl,Nat.zero_le _⟩,?_⟩
 ·(repeat' (first|exact trivial|refine⟨?_,?_⟩|exact rfl|assumption))
 rintro i H2 _ ⟨rfl,hi⟩
 have hcl:(iRows (cntL i)).length=i:=by rw[List.length_map,cntL,List.length_map,List.length_range]
 refine⟨fun h=>?_,fun h=>?_⟩
 ·have hlt:i<(varsOf p).length:=by have:=dt h;omega
  have e1:=cnt_snoc i;refine⟨⟨by show (_+1)*8≤140737488355328;omega,by show _+1≤9223372036854775807;omega⟩,?_⟩;refine⟨⟨by omega,by omega⟩,i+1,[(0,0),(1,1),(2,4)],?_,⟨rfl,hlt⟩,by dsimp only;omega⟩
  (repeat' (first|exact trivial|refine⟨?_,?_⟩|exact rfl|assumption))
 have hil:i=(varsOf p).length:=by have:=df h;omega
 rw[hil];refine⟨none,?_⟩
 refine region_plan (α:=SA) ?_ ?_
  (.two 5 6 (.two 5 11 (.two 6 9 (.two 6 11 (.two 9 11 (.one [2,3,4] [0,1,2,3,4,7,8,5,6,9,10,11,12]) (.one [2,3,4] [0,1,2,3,4,7,8,5,6,11,9,10,12])) (.one [2,3,4] [0,1,2,3,4,7,8,5,11,6,9,10,12])) (.two 6 11 (.one [2,3,4] [0,1,2,3,4,7,8,5,9,6,10,11,12]) (.two 9 11 (.one [2,3,4] [0,1,2,3,4,7,8,5,9,11,6,10,12]) (.one [2,3,4] [0,1,2,3,4,7,8,5,11,9,6,10,12])))) (.two 6 9 (.one [2,3,4] [0,1,2,3,4,7,8,11,5,6,9,10,12]) (.one [2,3,4] [0,1,2,3,4,7,8,11,5,9,6,10,12]))) (.two 5 11 (.two 9 11 (.one [2,3,4] [0,1,2,3,4,7,8,6,5,9,10,11,12]) (.one [2,3,4] [0,1,2,3,4,7,8,6,5,11,9,10,12])) (.two 6 11 (.one [2,3,4] [0,1,2,3,4,7,8,6,11,5,9,10,12]) (.one [2,3,4] [0,1,2,3,4,7,8,11,6,5,9,10,12]))))
  (fun z=>⟨[(1,.ptr 0 0),(2,.ptr 1 0),(3,.v (.slice az (sitesOf p).length cz)),(4,.v (.int .i64 ((sitesOf p).length:Nat))),(5,.v (.slice av (varsOf p).length cv)),(8,.ptr 2 0)],
   [(0,.cells 24 [.v (.slice a n c)]),(1,.cells 32 (vL zSys)),(2,.cells 32 [.v (.int .i64 (1:Nat)),.v (.int .i64 ((sitesOf p).length:Nat)),.v (.int .i64 n),.v (.slice z.ea z.en z.ec),.own 3,.v (.slice z.ia z.ni z.ic),.v (.slice none 0 0)]),(3,.row 3 1 iRow0)],4⟩)
  (fun z H'=>Le H2 H'∧RL H' z.ea z.en z.ec (gSort (edgesOf p))∧RL H' z.ia z.ni z.ic (csysOf p).ini) (by kernel_rfl) ⟨⟨⟨⟨⟨?_,?_⟩,?_⟩,⟨?_,⟨?_,?_⟩⟩⟩,⟨?_,?_⟩⟩,⟨⟨?_,?_⟩,⟨?_,?_⟩⟩⟩ ?_
 ·exact⟨cx_ok.tt,cx_ok.eqs⟩
 ·exact cx_mix
 ·refine redges_spec hp (ha.up hle01) fun e1 e2 e3 H3 hle3 hr3=>?_
  intro v1 H4 hle4 hv4
  refine of_row_k (α:=Int) hv4 (rc_iRows (cnt_in (by omega))) fun d1 d2 d3 ev1 hr4=>?_
  subst ev1
  refine r10of_spec (w:=(sitesOf p).length) (by omega) hr4 fun w1 w2 w3 H5 hle5 hr5=>?_
  exact⟨⟨e1,e2,e3,none,0,0,w1,w2,w3,none,0,0⟩,[(0,0),(1,1),(2,4),(3,3)],by (repeat' (first|exact trivial|refine⟨?_,?_⟩|exact rfl|assumption)),(hle3.trans hle4.le).trans hle5,hr3.up (hle4.le.trans hle5),hr5⟩
 ·refine redges_spec hp (ha.up hle01) fun e1 e2 e3 H3 hle3 hr3=>?_
  intro v1 H4 hle4 hv4
  refine of_row_k (α:=Int) hv4 (rc_iRows (cnt_in (by omega))) fun d1 d2 d3 ev1 hr4=>?_
  subst ev1
  refine r10of_spec (w:=(sitesOf p).length) (by omega) hr4 fun w1 w2 w3 H5 hle5 hr5=>?_
  exact⟨⟨e1,e2,e3,none,0,0,w1,w2,w3,none,0,0⟩,[(0,0),(1,1),(2,4),(3,3)],by (repeat' (first|exact trivial|refine⟨?_,?_⟩|exact rfl|assumption)),(hle3.trans hle4.le).trans hle5,hr3.up (hle4.le.trans hle5),hr5⟩
 ·refine redges_spec hp (ha.up hle01) fun e1 e2 e3 H3 hle3 hr3=>?_
  intro v1 H4 hle4 hv4
  refine of_row_k (α:=Int) hv4 (rc_iRows (cnt_in (by omega))) fun d1 d2 d3 ev1 hr4=>?_
  subst ev1
  refine r10of_spec (w:=(sitesOf p).length) (by omega) hr4 fun w1 w2 w3 H5 hle5 hr5=>?_
  exact⟨⟨e1,e2,e3,none,0,0,w1,w2,w3,none,0,0⟩,[(0,0),(1,1),(2,3),(3,4)],by (repeat' (first|exact trivial|refine⟨?_,?_⟩|exact rfl|assumption)),(hle3.trans hle4.le).trans hle5,hr3.up (hle4.le.trans hle5),hr5⟩
 ·refine redges_spec hp (ha.up hle01) fun e1 e2 e3 H3 hle3 hr3=>?_
  intro v1 H4 hle4 hv4
  refine of_row_k (α:=Int) hv4 (rc_iRows (cnt_in (by omega))) fun d1 d2 d3 ev1 hr4=>?_
  subst ev1
  refine r10of_spec (w:=(sitesOf p).length) (by omega) hr4 fun w1 w2 w3 H5 hle5 hr5=>?_
  exact⟨⟨e1,e2,e3,none,0,0,w1,w2,w3,none,0,0⟩,[(0,0),(1,1),(2,4),(3,3)],by (repeat' (first|exact trivial|refine⟨?_,?_⟩|exact rfl|assumption)),(hle3.trans hle4.le).trans hle5,hr3.up (hle4.le.trans hle5),hr5⟩
 ·refine redges_spec hp (ha.up hle01) fun e1 e2 e3 H3 hle3 hr3=>?_
  intro v1 H4 hle4 hv4
  refine of_row_k (α:=Int) hv4 (rc_iRows (cnt_in (by omega))) fun d1 d2 d3 ev1 hr4=>?_
  subst ev1
  refine r10of_spec (w:=(sitesOf p).length) (by omega) hr4 fun w1 w2 w3 H5 hle5 hr5=>?_
  exact⟨⟨e1,e2,e3,none,0,0,w1,w2,w3,none,0,0⟩,[(0,0),(1,1),(2,3),(3,4)],by (repeat' (first|exact trivial|refine⟨?_,?_⟩|exact rfl|assumption)),(hle3.trans hle4.le).trans hle5,hr3.up (hle4.le.trans hle5),hr5⟩
 ·refine redges_spec hp (ha.up hle01) fun e1 e2 e3 H3 hle3 hr3=>?_
  intro v1 H4 hle4 hv4
  refine of_row_k (α:=Int) hv4 (rc_iRows (cnt_in (by omega))) fun d1 d2 d3 ev1 hr4=>?_
  subst ev1
  refine r10of_spec (w:=(sitesOf p).length) (by omega) hr4 fun w1 w2 w3 H5 hle5 hr5=>?_
  exact⟨⟨e1,e2,e3,none,0,0,w1,w2,w3,none,0,0⟩,[(0,0),(1,1),(2,3),(3,4)],by (repeat' (first|exact trivial|refine⟨?_,?_⟩|exact rfl|assumption)),(hle3.trans hle4.le).trans hle5,hr3.up (hle4.le.trans hle5),hr5⟩
 ·refine redges_spec hp (ha.up hle01) fun e1 e2 e3 H3 hle3 hr3=>?_
  intro v1 H4 hle4 hv4
  refine of_row_k (α:=Int) hv4 (rc_iRows (cnt_in (by omega))) fun d1 d2 d3 ev1 hr4=>?_
  subst ev1
  refine r10of_spec (w:=(sitesOf p).length) (by omega) hr4 fun w1 w2 w3 H5 hle5 hr5=>?_
  exact⟨⟨e1,e2,e3,none,0,0,w1,w2,w3,none,0,0⟩,[(0,0),(1,1),(2,3),(3,4)],by (repeat' (first|exact trivial|refine⟨?_,?_⟩|exact rfl|assumption)),(hle3.trans hle4.le).trans hle5,hr3.up (hle4.le.trans hle5),hr5⟩
 ·refine redges_spec hp (ha.up hle01) fun e1 e2 e3 H3 hle3 hr3=>?_
  intro v1 H4 hle4 hv4
  refine of_row_k (α:=Int) hv4 (rc_iRows (cnt_in (by omega))) fun d1 d2 d3 ev1 hr4=>?_
  subst ev1
  refine r10of_spec (w:=(sitesOf p).length) (by omega) hr4 fun w1 w2 w3 H5 hle5 hr5=>?_
  exact⟨⟨e1,e2,e3,none,0,0,w1,w2,w3,none,0,0⟩,[(0,0),(1,1),(2,3),(3,4)],by (repeat' (first|exact trivial|refine⟨?_,?_⟩|exact rfl|assumption)),(hle3.trans hle4.le).trans hle5,hr3.up (hle4.le.trans hle5),hr5⟩
 ·refine redges_spec hp (ha.up hle01) fun e1 e2 e3 H3 hle3 hr3=>?_
  intro v1 H4 hle4 hv4
  refine of_row_k (α:=Int) hv4 (rc_iRows (cnt_in (by omega))) fun d1 d2 d3 ev1 hr4=>?_
  subst ev1
  refine r10of_spec (w:=(sitesOf p).length) (by omega) hr4 fun w1 w2 w3 H5 hle5 hr5=>?_
  exact⟨⟨e1,e2,e3,none,0,0,w1,w2,w3,none,0,0⟩,[(0,0),(1,1),(2,4),(3,3)],by (repeat' (first|exact trivial|refine⟨?_,?_⟩|exact rfl|assumption)),(hle3.trans hle4.le).trans hle5,hr3.up (hle4.le.trans hle5),hr5⟩
 ·refine redges_spec hp (ha.up hle01) fun e1 e2 e3 H3 hle3 hr3=>?_
  intro v1 H4 hle4 hv4
  refine of_row_k (α:=Int) hv4 (rc_iRows (cnt_in (by omega))) fun d1 d2 d3 ev1 hr4=>?_
  subst ev1
  refine r10of_spec (w:=(sitesOf p).length) (by omega) hr4 fun w1 w2 w3 H5 hle5 hr5=>?_
  exact⟨⟨e1,e2,e3,none,0,0,w1,w2,w3,none,0,0⟩,[(0,0),(1,1),(2,4),(3,3)],by (repeat' (first|exact trivial|refine⟨?_,?_⟩|exact rfl|assumption)),(hle3.trans hle4.le).trans hle5,hr3.up (hle4.le.trans hle5),hr5⟩
 ·refine redges_spec hp (ha.up hle01) fun e1 e2 e3 H3 hle3 hr3=>?_
  intro v1 H4 hle4 hv4
  refine of_row_k (α:=Int) hv4 (rc_iRows (cnt_in (by omega))) fun d1 d2 d3 ev1 hr4=>?_
  subst ev1
  refine r10of_spec (w:=(sitesOf p).length) (by omega) hr4 fun w1 w2 w3 H5 hle5 hr5=>?_
  exact⟨⟨e1,e2,e3,none,0,0,w1,w2,w3,none,0,0⟩,[(0,0),(1,1),(2,4),(3,3)],by (repeat' (first|exact trivial|refine⟨?_,?_⟩|exact rfl|assumption)),(hle3.trans hle4.le).trans hle5,hr3.up (hle4.le.trans hle5),hr5⟩
 ·refine redges_spec hp (ha.up hle01) fun e1 e2 e3 H3 hle3 hr3=>?_
  intro v1 H4 hle4 hv4
  refine of_row_k (α:=Int) hv4 (rc_iRows (cnt_in (by omega))) fun d1 d2 d3 ev1 hr4=>?_
  subst ev1
  refine r10of_spec (w:=(sitesOf p).length) (by omega) hr4 fun w1 w2 w3 H5 hle5 hr5=>?_
  exact⟨⟨e1,e2,e3,none,0,0,w1,w2,w3,none,0,0⟩,[(0,0),(1,1),(2,3),(3,4)],by (repeat' (first|exact trivial|refine⟨?_,?_⟩|exact rfl|assumption)),(hle3.trans hle4.le).trans hle5,hr3.up (hle4.le.trans hle5),hr5⟩
 rintro⟨ea,en,ec,na,nn,nc,ia,ni,ic,ta,tn,tc⟩ H3 _ ⟨hle3,hze,hzi⟩;dsimp only at hze hzi;have hle03:=hle01.trans hle3
 refine⟨Nat×List (List Value),fun q=>⟨[(1,.ptr 0 0),(2,.ptr 1 0),(3,.v (.slice az (sitesOf p).length cz)),(4,.v (.int .i64 ((sitesOf p).length:Nat))),(5,.v (.slice av (varsOf p).length cv)),(8,.ptr 2 0),(46,.v (.slice a n c)),(47,.v (.int .i64 n)),(48,.v (.int .i64 q.1))],
   [(0,.cells 24 [.v (.slice a n c)]),(1,.cells 32 (vL zSys)),(2,.cells 32 [.v (.int .i64 (1:Nat)),.v (.int .i64 ((sitesOf p).length:Nat)),.v (.int .i64 n),.v (.slice ea en ec),.own 3,.v (.slice ia ni ic),.own 4]),(3,.row 3 1 iRow0),(4,.row 78 3 q.2)],5⟩,
  fun q H'=>Le H3 H'∧q.1≤p.length∧RC (α:=Bt.TrB) H' q.2 (((csysOf p).T.map Bt.TrB.mk).take q.1),fun q=>p.length - q.1,⟨(0,[]),[(0,0),(1,1),(2,2),(3,3)],?_,Le.refl _,Nat.zero_le _,RC.nil⟩,?_⟩
 ·(repeat' (first|exact trivial|refine⟨?_,?_⟩|exact rfl|assumption))
 rintro⟨j,css⟩ H4 _ ⟨hle4,hj,hrc⟩;dsimp only at hj hrc;have hle:Le H H4:=hle03.trans hle4
 have hTl:((csysOf p).T.map Bt.TrB.mk).length=p.length:=by rw[List.length_map];exact rchT_len _ _ p 0
 have hcl:css.length=j:=by have h1:=hrc.1;rw[List.length_take]at h1;omega
 refine⟨fun h=>?_,fun h=>?_⟩
 ·have hlt:j<p.length:=by have:=dt h;dsimp only at this;omega
  refine name_k p[j] fun b hbe=>?_
  have hbb:p[j]?=some b:=by rw[hbe];exact List.getElem?_eq_getElem hlt
  have hbl:=hl b (by rw[hbe];exact List.getElem_mem hlt)
  refine famV_k (sitesOf p) j b.2.1.length (varsOf p) fun A B C hF=>?_
  refine block_k (ha.up hle) hbb fun ad a5 n5 c5 q1 hh hr5 hs5 ht5=>?_
  have hn5:n5=b.2.1.length:=hr5.n_eq;subst hn5;refine⟨ad,⟨by dsimp only;omega,by dsimp only;omega,q1⟩,?_⟩;refine⟨_,hh,?_⟩
  refine⟨Nat,fun i=>⟨[(1,.ptr 0 0),(2,.ptr 1 0),(3,.v (.slice az (sitesOf p).length cz)),(4,.v (.int .i64 ((sitesOf p).length:Nat))),(5,.v (.slice av (varsOf p).length cv)),(8,.ptr 2 0),(9,.v (.int .i64 j)),(10,.ptr 5 0),(11,.own 6),(12,.own 7),(46,.v (.slice a n c)),(47,.v (.int .i64 n)),(48,.v (.int .i64 j)),(53,.v (.slice av (varsOf p).length cv)),(54,.v (.int .i64 ((varsOf p).length:Nat))),(55,.v (.int .i64 i))],
   [(0,.cells 24 [.v (.slice a n c)]),(1,.cells 32 (vL zSys)),(2,.cells 32 [.v (.int .i64 (1:Nat)),.v (.int .i64 ((sitesOf p).length:Nat)),.v (.int .i64 n),.v (.slice ea en ec),.own 3,.v (.slice ia ni ic),.own 4]),(3,.row 3 1 iRow0),(4,.row 78 3 css),(5,.cells 53 (vL (blkL (.slice a5 b.2.1.length c5) b))),(6,.row 3 1 (iRows (A i))),(7,.row 3 1 (iRows (B i)))],8⟩,
   fun i H'=>H'=H4∧i≤(varsOf p).length,fun i=>(varsOf p).length - i,⟨0,[(0,0),(1,1),(2,2),(3,3),(4,4),(5,5)],?_,rfl,Nat.zero_le _⟩,?_⟩
  ·have e1:iRows (A 0)=[]:=by rw[hF.a0];rfl
   have e2:iRows (B 0)=[]:=by rw[hF.b0];rfl
   (repeat' (first|exact trivial|refine⟨?_,?_⟩|exact rfl|assumption))
  rintro i H5 _ ⟨rfl,hi2⟩;refine⟨fun h=>?_,fun h=>?_⟩
  ·have hil2:i<(varsOf p).length:=by have:=dt h;omega
   refine name_k (varsOf p)[i] fun v hve=>?_
   have hvv:(varsOf p)[i]?=some v:=by rw[hve];exact List.getElem?_eq_getElem hil2
   refine str_k (hrv.up (hle3.trans hle4)) hvv fun ad2 q2 hh2 _=>?_
   refine⟨ad2,⟨by omega,by omega,q2⟩,?_⟩;refine⟨_,hh2,?_⟩;refine rlast_spec (hrz.up ((hle1.trans hle3).trans hle4)) ?_;have hZ:=hz5;have hbi:=hF.cl i 0 (by omega) (Nat.zero_le _) hZ;have hai:=hF.al i;have hailn:(iRows (A i)).length=(A i).length:=List.length_map _;have hlin:=lastS_in (sitesOf p) j b.2.1.length v;refine⟨fun h1=>?_,fun h1=>?_⟩
   ·have h1:lastS (sitesOf p) j b.2.1.length v<0:=dt h1
    have e1:iRows (A i)=iRows (A (i+1)):=by rw[hF.asx i v hvv,if_pos h1,List.append_nil]
    have e2:iRows (B i)=iRows (B (i+1)):=by rw[hF.bs' i v hvv h1]
    refine⟨⟨by omega,by omega⟩,i+1,[(0,0),(1,1),(2,2),(3,3),(4,4),(5,5),(6,6),(7,7)],?_,⟨rfl,hil2⟩,by dsimp only;omega⟩
    (repeat' (first|exact trivial|refine⟨?_,?_⟩|exact rfl|assumption))
   ·have h1:¬lastS (sitesOf p) j b.2.1.length v<0:=df h1
    have e1:iRows (A i)++[[.int .i64 (lastS (sitesOf p) j b.2.1.length v)]]=iRows (A (i+1)):=by rw[hF.asx i v hvv,if_neg h1,iRows,iRows,List.map_append];rfl
    refine⟨⟨by show (_+1)*8≤140737488355328;omega,by show _+1≤9223372036854775807;omega⟩,?_⟩
    refine⟨Nat,fun q=>⟨[(1,.ptr 0 0),(2,.ptr 1 0),(3,.v (.slice az (sitesOf p).length cz)),(4,.v (.int .i64 ((sitesOf p).length:Nat))),(5,.v (.slice av (varsOf p).length cv)),(8,.ptr 2 0),(9,.v (.int .i64 j)),(10,.ptr 5 0),(11,.own 6),(12,.own 7),(14,.v (.string (bs v))),(15,.v (.int .i64 (lastS (sitesOf p) j b.2.1.length v))),(46,.v (.slice a n c)),(47,.v (.int .i64 n)),(48,.v (.int .i64 j)),(53,.v (.slice av (varsOf p).length cv)),(54,.v (.int .i64 ((varsOf p).length:Nat))),(55,.v (.int .i64 i)),(72,.v (.slice az (sitesOf p).length cz)),(73,.v (.int .i64 ((sitesOf p).length:Nat))),(74,.v (.int .i64 q))],
   [(0,.cells 24 [.v (.slice a n c)]),(1,.cells 32 (vL zSys)),(2,.cells 32 [.v (.int .i64 (1:Nat)),.v (.int .i64 ((sitesOf p).length:Nat)),.v (.int .i64 n),.v (.slice ea en ec),.own 3,.v (.slice ia ni ic),.own 4]),(3,.row 3 1 iRow0),(4,.row 78 3 css),(5,.cells 53 (vL (blkL (.slice a5 b.2.1.length c5) b))),(6,.row 3 1 (iRows (A (i+1)))),(7,.row 3 1 (iRows (C i q)))],8⟩,
     fun q H'=>H'=H5∧q≤(sitesOf p).length,fun q=>(sitesOf p).length - q,⟨0,[(0,0),(1,1),(2,2),(3,3),(4,4),(5,5),(6,9),(7,7)],?_,rfl,Nat.zero_le _⟩,?_⟩
    ·have e2:iRows (B i)=iRows (C i 0):=by rw[hF.c0]
     (repeat' (first|exact trivial|refine⟨?_,?_⟩|exact rfl|assumption))
    rintro q H6 _ ⟨rfl,hq⟩;have hcq:=hF.cl i q (by omega) hq hZ;have hcqn:(iRows (C i q)).length=(C i q).length:=List.length_map _;refine⟨fun h=>?_,fun h=>?_⟩
    ·have hlq:q<(sitesOf p).length:=by have:=dt h;omega
     refine name_k (sitesOf p)[q] fun x hxe=>?_
     have hxx:(sitesOf p)[q]?=some x:=by rw[hxe];exact List.getElem?_eq_getElem hlq
     have hcs:=hF.cs i v q x hvv hxx
     refine site_k (hrz.up ((hle1.trans hle3).trans hle4)) hxx fun ad3 q3 hh3 _=>?_
     refine⟨ad3,⟨by omega,by omega,q3⟩,?_⟩;refine⟨_,hh3,?_⟩;refine⟨fun h2=>?_,fun h2=>?_⟩
     ·have h2:x.2.2.l=v:=dt h2;refine⟨fun h3=>?_,fun h3=>?_⟩
      ·have h3:¬(q:Int)=lastS (sitesOf p) j b.2.1.length v:=nt h3
       have e2:iRows (C i q)++[[.int .i64 (q:Nat)]]=iRows (C i (q+1)):=by
        rw[hcs,decide_eq_true h2,decide_eq_false h3,if_pos (by decide),iRows,iRows,List.map_append];rfl
       refine⟨⟨by show (_+1)*8≤140737488355328;omega,by show _+1≤9223372036854775807;omega⟩,?_⟩;refine⟨⟨by omega,by omega⟩,q+1,[(0,0),(1,1),(2,2),(3,3),(4,4),(5,5),(6,6),(7,10)],?_,⟨rfl,hlq⟩,by dsimp only;omega⟩
       (repeat' (first|exact trivial|refine⟨?_,?_⟩|exact rfl|assumption))
      ·have h3:(q:Int)=lastS (sitesOf p) j b.2.1.length v:=nf h3
       have e2:iRows (C i q)=iRows (C i (q+1)):=by
        rw[hcs,decide_eq_true h2,decide_eq_true h3,if_neg (by decide),List.append_nil]
       refine⟨⟨by omega,by omega⟩,q+1,[(0,0),(1,1),(2,2),(3,3),(4,4),(5,5),(6,6),(7,7)],?_,⟨rfl,hlq⟩,by dsimp only;omega⟩
       (repeat' (first|exact trivial|refine⟨?_,?_⟩|exact rfl|assumption))
     ·have h2:¬x.2.2.l=v:=df h2
      have e2:iRows (C i q)=iRows (C i (q+1)):=by
       rw[hcs,decide_eq_false h2,Bool.false_and,if_neg (by decide),List.append_nil]
      refine⟨⟨by omega,by omega⟩,q+1,[(0,0),(1,1),(2,2),(3,3),(4,4),(5,5),(6,6),(7,7)],?_,⟨rfl,hlq⟩,by dsimp only;omega⟩
      (repeat' (first|exact trivial|refine⟨?_,?_⟩|exact rfl|assumption))
    ·have hlq:q=(sitesOf p).length:=by have:=df h;omega
     subst hlq
     have e2:iRows (C i (sitesOf p).length)=iRows (B (i+1)):=by rw[hF.ce i v hvv h1]
     refine⟨⟨by omega,by omega⟩,i+1,[(0,0),(1,1),(2,2),(3,3),(4,4),(5,5),(6,6),(7,7)],?_,⟨rfl,hil2⟩,by dsimp only;omega⟩
     (repeat' (first|exact trivial|refine⟨?_,?_⟩|exact rfl|assumption))
  ·have hil2:i=(varsOf p).length:=by have:=df h;omega
   subst hil2;have hAi:=genV_in hz5 j b.2.1.length (varsOf p);have hBi:=killV_in hz5 j b.2.1.length (varsOf p);rw[←hF.ae]at hAi;rw[←hF.be]at hBi;refine⟨none,?_⟩
   refine region_plan (α:=List (List Value)) ?_ ?_
    (.two 1 4 (.one [2,4,6,7,8,9] [0,2,3,5,6,1,4,7,8,9,10,11,12]) (.two 1 7 (.one [2,4,6,7,8,9] [0,2,3,5,6,4,1,7,8,9,10,11,12]) (.two 1 9 (.one [2,4,6,7,8,9] [0,2,3,5,6,4,7,8,1,9,10,11,12]) (.one [2,4,6,7,8,9] [0,2,3,5,6,4,7,8,9,1,10,11,12]))))
    (fun c'=>⟨[(1,.ptr 0 0),(2,.ptr 1 0),(3,.v (.slice az (sitesOf p).length cz)),(4,.v (.int .i64 ((sitesOf p).length:Nat))),(5,.v (.slice av (varsOf p).length cv)),(8,.ptr 2 0),(46,.v (.slice a n c)),(47,.v (.int .i64 n)),(48,.v (.int .i64 j))],
     [(0,.cells 24 [.v (.slice a n c)]),(1,.cells 32 (vL zSys)),(2,.cells 32 [.v (.int .i64 (1:Nat)),.v (.int .i64 ((sitesOf p).length:Nat)),.v (.int .i64 n),.v (.slice ea en ec),.own 3,.v (.slice ia ni ic),.own 4]),(3,.row 3 1 iRow0),(4,.row 78 3 c')],5⟩)
    (fun c' H'=>Le H5 H'∧RC (α:=Bt.TrB) H' c' (((csysOf p).T.map Bt.TrB.mk).take (j+1))) (by kernel_rfl) ⟨?_,⟨?_,⟨?_,?_⟩⟩⟩ ?_
   ·exact⟨cx_ok.tt,cx_ok.eqs⟩
   ·exact cx_mix
   ·intro y1 H8 hle8 hy1
    refine of_row_k (α:=Int) hy1 (rc_iRows hAi) fun d1 d2 d3 ev1 hr1=>?_
    subst ev1
    refine r10of_spec (w:=(sitesOf p).length) (by omega) hr1 fun g1 g2 g3 H9 hle9 hg=>?_
    intro y2 H10 hle10 hy2
    refine of_row_k (α:=Int) hy2 (rc_iRows hBi) fun f1 f2 f3 ev2 hr2=>?_
    subst ev2
    refine r10of_spec (w:=(sitesOf p).length) (by omega) hr2 fun k1 k2 k3 H11 hle11 hk11=>?_
    refine⟨⟨by show (css.length+1)*72≤140737488355328;omega,by show css.length+1≤9223372036854775807;omega⟩,?_⟩;have hle7':=((hle8.le.trans hle9).trans hle10.le).trans hle11
    have htr:Bt.TrR H11 (rchF (sitesOf p) (varsOf p) j b) ⟨g1,g2,g3,k1,k2,k3⟩:=by
     rw[rchF,←hF.ae,←hF.be];exact⟨hg.up (hle10.le.trans hle11),hk11⟩
    have hrc2:RC (α:=Bt.TrB) H11 (css++[Bt.trV ⟨g1,g2,g3,k1,k2,k3⟩]) (((csysOf p).T.map Bt.TrB.mk).take (j+1)):=by
     rw[csysT_take hbb];exact trb_snoc (RC.up hrc hle7') htr
    exact⟨css++[Bt.trV ⟨g1,g2,g3,k1,k2,k3⟩],[(0,0),(1,1),(2,2),(3,3),(4,9)],by (repeat' (first|exact trivial|refine⟨?_,?_⟩|exact rfl|assumption)),hle7',hrc2⟩
   ·intro y1 H8 hle8 hy1
    refine of_row_k (α:=Int) hy1 (rc_iRows hAi) fun d1 d2 d3 ev1 hr1=>?_
    subst ev1
    refine r10of_spec (w:=(sitesOf p).length) (by omega) hr1 fun g1 g2 g3 H9 hle9 hg=>?_
    intro y2 H10 hle10 hy2
    refine of_row_k (α:=Int) hy2 (rc_iRows hBi) fun f1 f2 f3 ev2 hr2=>?_
    subst ev2
    refine r10of_spec (w:=(sitesOf p).length) (by omega) hr2 fun k1 k2 k3 H11 hle11 hk11=>?_
    refine⟨⟨by show (css.length+1)*72≤140737488355328;omega,by show css.length+1≤9223372036854775807;omega⟩,?_⟩;have hle7':=((hle8.le.trans hle9).trans hle10.le).trans hle11
    have htr:Bt.TrR H11 (rchF (sitesOf p) (varsOf p) j b) ⟨g1,g2,g3,k1,k2,k3⟩:=by
     rw[rchF,←hF.ae,←hF.be];exact⟨hg.up (hle10.le.trans hle11),hk11⟩
    have hrc2:RC (α:=Bt.TrB) H11 (css++[Bt.trV ⟨g1,g2,g3,k1,k2,k3⟩]) (((csysOf p).T.map Bt.TrB.mk).take (j+1)):=by
     rw[csysT_take hbb];exact trb_snoc (RC.up hrc hle7') htr
    exact⟨css++[Bt.trV ⟨g1,g2,g3,k1,k2,k3⟩],[(0,0),(1,1),(2,2),(3,3),(4,9)],by (repeat' (first|exact trivial|refine⟨?_,?_⟩|exact rfl|assumption)),hle7',hrc2⟩
   ·intro y1 H8 hle8 hy1
    refine of_row_k (α:=Int) hy1 (rc_iRows hAi) fun d1 d2 d3 ev1 hr1=>?_
    subst ev1
    refine r10of_spec (w:=(sitesOf p).length) (by omega) hr1 fun g1 g2 g3 H9 hle9 hg=>?_
    intro y2 H10 hle10 hy2
    refine of_row_k (α:=Int) hy2 (rc_iRows hBi) fun f1 f2 f3 ev2 hr2=>?_
    subst ev2
    refine r10of_spec (w:=(sitesOf p).length) (by omega) hr2 fun k1 k2 k3 H11 hle11 hk11=>?_
    refine⟨⟨by show (css.length+1)*72≤140737488355328;omega,by show css.length+1≤9223372036854775807;omega⟩,?_⟩;have hle7':=((hle8.le.trans hle9).trans hle10.le).trans hle11
    have htr:Bt.TrR H11 (rchF (sitesOf p) (varsOf p) j b) ⟨g1,g2,g3,k1,k2,k3⟩:=by
     rw[rchF,←hF.ae,←hF.be];exact⟨hg.up (hle10.le.trans hle11),hk11⟩
    have hrc2:RC (α:=Bt.TrB) H11 (css++[Bt.trV ⟨g1,g2,g3,k1,k2,k3⟩]) (((csysOf p).T.map Bt.TrB.mk).take (j+1)):=by
     rw[csysT_take hbb];exact trb_snoc (RC.up hrc hle7') htr
    exact⟨css++[Bt.trV ⟨g1,g2,g3,k1,k2,k3⟩],[(0,0),(1,1),(2,2),(3,3),(4,9)],by (repeat' (first|exact trivial|refine⟨?_,?_⟩|exact rfl|assumption)),hle7',hrc2⟩
   ·intro y1 H8 hle8 hy1
    refine of_row_k (α:=Int) hy1 (rc_iRows hAi) fun d1 d2 d3 ev1 hr1=>?_
    subst ev1
    refine r10of_spec (w:=(sitesOf p).length) (by omega) hr1 fun g1 g2 g3 H9 hle9 hg=>?_
    intro y2 H10 hle10 hy2
    refine of_row_k (α:=Int) hy2 (rc_iRows hBi) fun f1 f2 f3 ev2 hr2=>?_
    subst ev2
    refine r10of_spec (w:=(sitesOf p).length) (by omega) hr2 fun k1 k2 k3 H11 hle11 hk11=>?_
    refine⟨⟨by show (css.length+1)*72≤140737488355328;omega,by show css.length+1≤9223372036854775807;omega⟩,?_⟩;have hle7':=((hle8.le.trans hle9).trans hle10.le).trans hle11
    have htr:Bt.TrR H11 (rchF (sitesOf p) (varsOf p) j b) ⟨g1,g2,g3,k1,k2,k3⟩:=by
     rw[rchF,←hF.ae,←hF.be];exact⟨hg.up (hle10.le.trans hle11),hk11⟩
    have hrc2:RC (α:=Bt.TrB) H11 (css++[Bt.trV ⟨g1,g2,g3,k1,k2,k3⟩]) (((csysOf p).T.map Bt.TrB.mk).take (j+1)):=by
     rw[csysT_take hbb];exact trb_snoc (RC.up hrc hle7') htr
    exact⟨css++[Bt.trV ⟨g1,g2,g3,k1,k2,k3⟩],[(0,0),(1,1),(2,2),(3,3),(4,9)],by (repeat' (first|exact trivial|refine⟨?_,?_⟩|exact rfl|assumption)),hle7',hrc2⟩
   rintro c' H9 _ ⟨hle9,hrc9⟩;refine⟨⟨by omega,by omega⟩,(j+1,c'),[(0,0),(1,1),(2,2),(3,3),(4,4)],?_,⟨hle4.trans hle9,hlt,hrc9⟩,by dsimp only;omega⟩
   (repeat' (first|exact trivial|refine⟨?_,?_⟩|exact rfl|assumption))
 ·have hjl:j=p.length:=by have:=df h;dsimp only at this;omega
  rw[hjl,List.take_of_length_le (by omega)]at hrc;intro v1 H5 hle5 hv1
  refine ints_k hv1 fun na nn nc ev1 hr1=>?_
  subst ev1;intro v3 H7 hle7 hv3
  refine of_row_k (α:=Bt.TrB) hv3 (RC.up hrc (hle5.le.trans hle7.le)) fun ta tn tc ev3 hr3=>?_
  subst ev3;have h57:=hle5.le.trans hle7.le
  have hsys:Bt.SysR H7 (csysOf p) ⟨ea,en,ec,na,nn,nc,ia,ni,ic,ta,tn,tc⟩ :=
   ⟨hze.up (hle4.trans h57),hr1.up hle7.le,hzi.up (hle4.trans h57),hr3⟩
  have hK:=hK ⟨ea,en,ec,na,nn,nc,ia,ni,ic,ta,tn,tc⟩ H7 (hle.trans h57) hsys;have e2:(csysOf p).m=n:=hn.symm;rw[Bt.sysA,Bt.sysV,e2]at hK;exact hK
end Go.Proofs
end
section
namespace Go.Proofs
open Go.Sy
set_option maxRecDepth 20000
set_option maxHeartbeats 4000000
end Go.Proofs
end
section
/- Plain words: the document's Words. -/
namespace Go.Proofs
open Go.Sy
open Bt
set_option maxRecDepth 20000
set_option maxHeartbeats 4000000
def r1W (kind:Int) (V:List Bs8) (x:Wd) (i:Nat):List Bs8:=if kind=4 then upTo (kvF V x) (min i x.length) else if kind=1 then pkL x V i else []
def r2W (kind:Int) (R:List Bs8) (S:List Bs8) (x:Wd) (k:Int) (i:Nat):List Bs8:=R++(if kind=k then pkL x S i else [])
theorem r1_zero (kind:Int) (V:List Bs8) (x:Wd):r1W kind V x 0=[]:=by
 rw[r1W,Nat.zero_min];split
 ·rfl
 ·split<;>rfl
theorem r1_len (kind:Int) (V:List Bs8) (x:Wd) (i:Nat):(r1W kind V x i).length≤i:=by
 rw[r1W];split
 ·rw[upTo_len];omega
 ·split
  ·exact pkL_len _ _ _
  ·exact Nat.zero_le _
theorem r2_zero (kind:Int) (R S:List Bs8) (x:Wd) (k:Int):r2W kind R S x k 0=R:=by
 rw[r2W]
 split<;>simp [pkL_zero]
theorem r2_len (kind:Int) (R S:List Bs8) (x:Wd) (k:Int) (i:Nat):(r2W kind R S x k i).length≤R.length+i:=by
 rw[r2W,List.length_append];split
 ·have:=pkL_len x S i;omega
 ·simp
theorem r2_yes {kind:Int} {R S:List Bs8} {x:Wd} {k:Int} {i:Nat} (hk:kind=k) (hi:i<S.length) (hb:bitAt x i=true):r2W kind R S x k i++[S[i]]=r2W kind R S x k (i+1):=by
 have:S.getD i []=S[i]:=by rw[List.getD_eq_getElem?_getD,List.getElem?_eq_getElem hi];rfl
 rw[r2W,r2W,if_pos hk,if_pos hk,pkL_yes hb,this,List.append_assoc]
theorem r2_no {kind:Int} {R S:List Bs8} {x:Wd} {k:Int} {i:Nat} (h:kind=k→¬bitAt x i=true):r2W kind R S x k i=r2W kind R S x k (i+1):=by
 rw[r2W,r2W]
 by_cases hk:kind=k
 ·rw[if_pos hk,if_pos hk,pkL_no (h hk)]
 ·rw[if_neg hk,if_neg hk]
theorem words_r {kind:Int} {p:Prog} {x:Wd}:r2W kind (r2W kind (r1W kind (varsOf p) x (varsOf p).length) ((sitesOf p).map (siteTx p)) x 2 (sitesOf p).length) ((exprsOf p).map xTx) x 3 (exprsOf p).length=wordsOf kind p x:=by
 rw[wordsOf,r2W,r2W,r1W]
 by_cases h4:kind=4
 ·subst h4;simp
 by_cases h1:kind=1
 ·subst h1;simp
 by_cases h2:kind=2
 ·subst h2;simp
 by_cases h3:kind=3
 ·subst h3;simp
 simp [h1,h2,h3,h4]
theorem rwords_spec {p:Prog} (hp:PSml p) {x:Wd} (hx:x.length≤1000000) {kind:Int} {a b:Option Addr} {n c m k:Nat} {H:Hp} {K:Value→Hp→Prop} (ha:RL H a n c p) (hb:RL H b m k x)
  (hz:(sitesOf p).length≤1000000) (hxz:(exprsOf p).length≤1000000) (hWL:∀s∈wordsOf kind p x,s.length≤9223372036854775807)
  (hK:∀a' n' c' H',Le H H'→RL H' a' n' c' (ens (wordsOf kind p x))→K (.slice a' n' c') H'):Does Tryz.prog 11 [.int .i64 kind,.agg #[.slice a n c],.slice b m k] H K:=by
 have hn:=ha.n_eq;have hm:=hb.n_eq;have hvz:=vars_sz hp.hv
 obtain⟨V,eV⟩:∃V,V=varsOf p:=⟨_,rfl⟩
 obtain⟨S,eS⟩:∃S,S=(sitesOf p).map (siteTx p):=⟨_,rfl⟩
 obtain⟨X,eX⟩:∃X,X=(exprsOf p).map xTx:=⟨_,rfl⟩
 have hSl:S.length=(sitesOf p).length:=by rw[eS,List.length_map]
 have hXl:X.length=(exprsOf p).length:=by rw[eX,List.length_map]
 obtain⟨R1,eR1⟩:∃R1,R1=r1W kind V x V.length:=⟨_,rfl⟩
 obtain⟨R2,eR2⟩:∃R2,R2=r2W kind R1 S x 2 S.length:=⟨_,rfl⟩
 have hR1:=r1_len kind V x V.length;have hR2:=r2_len kind R1 S x 2 S.length;rw[←eR1]at hR1;rw[←eR2]at hR2;refine spec_of cx_ok cx_mix rfl Tryz.func11 Tryz.call11 Tryz.ntmps11 Tryz.results11 rfl rfl ?_
 refine rvars_spec ha hp.hv fun av nv cv H1 hle1 hrv=>?_
 have hnv:=hrv.n_eq;rw[List.length_map,←eV]at hnv;rw[←eV]at hrv hvz
 refine⟨Nat,fun i=>⟨[(0,.v (.int .i64 kind)),(2,.v (.slice b m k)),(4,.ptr 0 0),(7,.own 1),(15,.v (.slice av nv cv)),(16,.v (.int .i64 nv)),(17,.v (.int .i64 i))],[(0,.cells 24 [.v (.slice a n c)]),(1,.row 9 1 (sRows (r1W kind V x i)))],2⟩,
  fun i H'=>Le H1 H'∧i≤V.length,fun i=>V.length - i,⟨0,[(0,0)],?_,Le.refl H1,Nat.zero_le _⟩,?_⟩
 ·have e1:sRows (r1W kind V x 0)=[]:=by rw[r1_zero];rfl
  (repeat' (first|exact trivial|refine⟨?_,?_⟩|exact rfl|assumption))
 rintro i H5 _ ⟨hle5,hi⟩;have hrl:=r1_len kind V x i
 have hsz:((sRows (r1W kind V x i)).length+1)*16≤140737488355328∧(sRows (r1W kind V x i)).length+1≤9223372036854775807:=by rw[List.length_map];omega
 refine⟨fun h=>?_,fun h=>?_⟩
 ·have hlt:i<V.length:=by have:=dt h;omega
  have hgV:V.getD i []=V[i]:=by rw[List.getD_eq_getElem?_getD,List.getElem?_eq_getElem hlt];rfl
  refine str_k (hrv.up hle5) (List.getElem?_eq_getElem hlt) fun ad q1 hh _=>?_
  refine⟨ad,⟨by omega,by omega,q1⟩,?_⟩;refine⟨_,hh,?_⟩;have hle15:=hle1.trans hle5;refine⟨fun h=>?_,fun h=>?_⟩
  ·have h1:kind=1:=dt h
   have hn4:¬kind=4:=by omega
   refine r10has_spec (by omega) (hb.up hle15) ?_;refine⟨fun h=>?_,fun h=>?_⟩
   ·have er:sRows (r1W kind V x i)++[[.string (bs V[i])]]=sRows (r1W kind V x (i+1)):=by
     rw[r1W,r1W,if_neg hn4,if_neg hn4,if_pos h1,if_pos h1,pkL_yes h,hgV,sRows_snoc]
    refine⟨hsz,?_⟩;refine⟨fun h=>absurd (dt h) hn4,fun _=>?_⟩;refine⟨⟨by omega,by omega⟩,i+1,[(0,0),(1,3)],?_,⟨hle5,hlt⟩,by dsimp only;omega⟩
    (repeat' (first|exact trivial|refine⟨?_,?_⟩|exact rfl|assumption))
   ·have er:sRows (r1W kind V x i)=sRows (r1W kind V x (i+1)):=by
     rw[r1W,r1W,if_neg hn4,if_neg hn4,if_pos h1,if_pos h1,pkL_no (by rw[h];decide)]
    refine⟨fun h=>absurd (dt h) hn4,fun _=>?_⟩;refine⟨⟨by omega,by omega⟩,i+1,[(0,0),(1,1)],?_,⟨hle5,hlt⟩,by dsimp only;omega⟩
    (repeat' (first|exact trivial|refine⟨?_,?_⟩|exact rfl|assumption))
  ·have h1:¬kind=1:=df h;refine⟨fun h=>?_,fun h=>?_⟩
   ·have h4:kind=4:=dt h;refine⟨fun h=>?_,fun h=>?_⟩
    ·have hix:i<x.length:=by have:=dt h;omega
     have e9:kvF V x i=V[i]++[61]++kTx x[i].toNat:=by
      rw[kvF,hgV,List.getD_eq_getElem?_getD,List.getElem?_eq_getElem hix];rfl
     have hv1:=hp.hvl V[i] (by rw[←eV];exact List.getElem_mem hlt)
     have hk1:=kTx_len x[i].toNat
     refine⟨by show V[i].length+1≤_;omega,?_⟩
     refine word_k (hb.up hle15) (List.getElem?_eq_getElem hix) fun ad2 q2 hh2 _=>?_
     refine⟨ad2,⟨by omega,by omega,q2⟩,?_⟩;refine⟨_,hh2,?_⟩;refine rktext_spec (UInt64.toNat_lt _) ?_;refine⟨by show (V[i]++[61]).length+(kTx x[i].toNat).length≤_;rw[List.length_append,List.length_singleton];omega,?_⟩;refine⟨hsz,?_⟩
     have er:sRows (r1W kind V x i)++[[.string (bs (V[i]++[61]++kTx x[i].toNat))]]=sRows (r1W kind V x (i+1)):=by
      rw[r1W,r1W,if_pos h4,if_pos h4,Nat.min_eq_left (by omega),Nat.min_eq_left (by omega),upTo_snoc,sRows_snoc,e9]
     refine⟨⟨by omega,by omega⟩,i+1,[(0,0),(1,3)],?_,⟨hle5,hlt⟩,by dsimp only;omega⟩
     (repeat' (first|exact trivial|refine⟨?_,?_⟩|exact rfl|assumption))
    ·have hix:¬i<x.length:=by have:=df h;omega
     have er:sRows (r1W kind V x i)=sRows (r1W kind V x (i+1)):=by
      rw[r1W,r1W,if_pos h4,if_pos h4,Nat.min_eq_right (by omega),Nat.min_eq_right (by omega)]
     refine⟨⟨by omega,by omega⟩,i+1,[(0,0),(1,1)],?_,⟨hle5,hlt⟩,by dsimp only;omega⟩
     (repeat' (first|exact trivial|refine⟨?_,?_⟩|exact rfl|assumption))
   ·have h4:¬kind=4:=df h
    have er:sRows (r1W kind V x i)=sRows (r1W kind V x (i+1)):=by
     rw[r1W,r1W,if_neg h4,if_neg h4,if_neg h1,if_neg h1]
    refine⟨⟨by omega,by omega⟩,i+1,[(0,0),(1,1)],?_,⟨hle5,hlt⟩,by dsimp only;omega⟩
    (repeat' (first|exact trivial|refine⟨?_,?_⟩|exact rfl|assumption))
 ·have hil:i=V.length:=by have:=df h;omega
  have hle15:=hle1.trans hle5
  refine rsitesL_spec hp.hp hp.hl hp.hc hp.hv (vars_sz hp.hv) (ha.up hle15) fun az nz cz H6 hle6 hrz=>?_
  have hnz:=hrz.n_eq;have hle16:=hle15.trans hle6
  have er0:sRows (r1W kind V x i)=sRows (r2W kind R1 S x 2 0):=by rw[r2_zero,hil,eR1]
  refine⟨Nat,fun j=>⟨[(0,.v (.int .i64 kind)),(2,.v (.slice b m k)),(4,.ptr 0 0),(7,.own 1),(54,.v (.slice az nz cz)),(55,.v (.int .i64 nz)),(56,.v (.int .i64 j))],[(0,.cells 24 [.v (.slice a n c)]),(1,.row 9 1 (sRows (r2W kind R1 S x 2 j)))],2⟩,
   fun j H'=>Le H6 H'∧j≤(sitesOf p).length,fun j=>(sitesOf p).length - j,⟨0,[(0,0),(1,1)],?_,Le.refl H6,Nat.zero_le _⟩,?_⟩
  ·(repeat' (first|exact trivial|refine⟨?_,?_⟩|exact rfl|assumption))
  rintro j H7 _ ⟨hle7,hj⟩;have hrl2:=r2_len kind R1 S x 2 j
  have hsz2:((sRows (r2W kind R1 S x 2 j)).length+1)*16≤140737488355328∧(sRows (r2W kind R1 S x 2 j)).length+1≤9223372036854775807:=by rw[List.length_map];omega
  have hle17:=hle16.trans hle7;refine⟨fun h=>?_,fun h=>?_⟩
  ·have hlt:j<(sitesOf p).length:=by have:=dt h;omega
   have hgS:S[j]'(by omega)=siteTx p (sitesOf p)[j]:=by simp only[eS,List.getElem_map]
   refine site_kZ (hrz.up hle7) (List.getElem?_eq_getElem hlt) fun ad q1 hh=>?_
   refine⟨ad,⟨by omega,by omega,q1⟩,?_⟩;refine⟨_,hh,?_⟩;have hmem:=List.getElem_mem hlt;refine⟨fun h=>?_,fun h=>?_⟩
   ·have h2:kind=2:=dt h;refine r10has_spec (by omega) (hb.up hle17) ?_;refine⟨fun h=>?_,fun h=>?_⟩
    ·refine rsitename_spec hp.hp hp.hl hp.hc hp.hv hmem (hp.hsl _ hmem) hp.hbl (ha.up hle17) fun H8 hle8=>?_
     have er:sRows (r2W kind R1 S x 2 j)++[[.string (bs (siteTx p (sitesOf p)[j]))]]=sRows (r2W kind R1 S x 2 (j+1)):=by
      rw[←r2_yes h2 (show j<S.length by omega) h,sRows_snoc,hgS]
     refine⟨hsz2,?_⟩;refine⟨⟨by omega,by omega⟩,j+1,[(0,0),(1,4)],?_,⟨by first | exact hle7.trans hle8 | exact hle7,hlt⟩,by dsimp only;omega⟩
     (repeat' (first|exact trivial|refine⟨?_,?_⟩|exact rfl|assumption))
    ·have er:sRows (r2W kind R1 S x 2 j)=sRows (r2W kind R1 S x 2 (j+1)):=by rw[r2_no fun _=>by rw[h];decide]
     refine⟨⟨by omega,by omega⟩,j+1,[(0,0),(1,1)],?_,⟨hle7,hlt⟩,by dsimp only;omega⟩
     (repeat' (first|exact trivial|refine⟨?_,?_⟩|exact rfl|assumption))
   ·have h2:¬kind=2:=df h
    have er:sRows (r2W kind R1 S x 2 j)=sRows (r2W kind R1 S x 2 (j+1)):=by rw[r2_no fun e=>absurd e h2]
    refine⟨⟨by omega,by omega⟩,j+1,[(0,0),(1,1)],?_,⟨hle7,hlt⟩,by dsimp only;omega⟩
    (repeat' (first|exact trivial|refine⟨?_,?_⟩|exact rfl|assumption))
  ·have hjl:j=(sitesOf p).length:=by have:=df h;omega
   refine rexprs_spec hp.hp hp.hl (ha.up hle17) fun ax nx cx' H8 hle8 hrx=>?_
   have hnx:=hrx.n_eq;have hle18:=hle17.trans hle8
   have er1:sRows (r2W kind R1 S x 2 j)=sRows (r2W kind R2 X x 3 0):=by rw[r2_zero,hjl,eR2,hSl]
   refine⟨Nat,fun q=>⟨[(0,.v (.int .i64 kind)),(2,.v (.slice b m k)),(7,.own 0),(76,.v (.slice ax nx cx')),(77,.v (.int .i64 nx)),(78,.v (.int .i64 q))],[(0,.row 9 1 (sRows (r2W kind R2 X x 3 q)))],1⟩,
    fun q H'=>Le H8 H'∧q≤(exprsOf p).length,fun q=>(exprsOf p).length - q,⟨0,[(0,1)],?_,Le.refl H8,Nat.zero_le _⟩,?_⟩
   ·(repeat' (first|exact trivial|refine⟨?_,?_⟩|exact rfl|assumption))
   rintro q H9 _ ⟨hle9,hq⟩;have hrl3:=r2_len kind R2 X x 3 q
   have hsz3:((sRows (r2W kind R2 X x 3 q)).length+1)*16≤140737488355328∧(sRows (r2W kind R2 X x 3 q)).length+1≤9223372036854775807:=by rw[List.length_map];omega
   have hle19:=hle18.trans hle9;refine⟨fun h=>?_,fun h=>?_⟩
   ·have hlt:q<(exprsOf p).length:=by have:=dt h;omega
    have hgX:X[q]'(by omega)=xTx (exprsOf p)[q]:=by simp only[eX,List.getElem_map]
    refine expr_k (hrx.up hle9) (List.getElem?_eq_getElem hlt) fun ad q1 hh hxR=>?_
    refine⟨ad,⟨by omega,by omega,q1⟩,?_⟩;refine⟨_,hh,?_⟩;have hxl:=hp.hxl _ (List.getElem_mem hlt);refine⟨fun h=>?_,fun h=>?_⟩
    ·have h3:kind=3:=dt h;refine r10has_spec (by omega) (hb.up hle19) ?_;refine⟨fun h=>?_,fun h=>?_⟩
     ·refine rexprname_spec (x:=(exprsOf p)[q]) hxR (fun H10 hle10=>?_) hxl.1 hxl.2
      have er:sRows (r2W kind R2 X x 3 q)++[[.string (bs (xTx (exprsOf p)[q]))]]=sRows (r2W kind R2 X x 3 (q+1)):=by
       rw[←r2_yes h3 (show q<X.length by omega) h,sRows_snoc,hgX]
      refine⟨hsz3,?_⟩;refine⟨⟨by omega,by omega⟩,q+1,[(0,3)],?_,⟨by first | exact hle9.trans hle10 | exact hle9,hlt⟩,by dsimp only;omega⟩
      (repeat' (first|exact trivial|refine⟨?_,?_⟩|exact rfl|assumption))
     ·have er:sRows (r2W kind R2 X x 3 q)=sRows (r2W kind R2 X x 3 (q+1)):=by rw[r2_no fun _=>by rw[h];decide]
      refine⟨⟨by omega,by omega⟩,q+1,[(0,0)],?_,⟨hle9,hlt⟩,by dsimp only;omega⟩
      (repeat' (first|exact trivial|refine⟨?_,?_⟩|exact rfl|assumption))
    ·have h3:¬kind=3:=df h
     have er:sRows (r2W kind R2 X x 3 q)=sRows (r2W kind R2 X x 3 (q+1)):=by rw[r2_no fun e=>absurd e h3]
     refine⟨⟨by omega,by omega⟩,q+1,[(0,0)],?_,⟨hle9,hlt⟩,by dsimp only;omega⟩
     (repeat' (first|exact trivial|refine⟨?_,?_⟩|exact rfl|assumption))
   ·have hql:q=(exprsOf p).length:=by have:=df h;omega
    intro v6 H10 hle10 hv6
    have e7:r2W kind R2 X x 3 q=wordsOf kind p x:=by
     rw[hql,eR2,eR1,eX,eS,eV,List.length_map];exact words_r
    refine of_row_k (α:=Str) hv6 (by rw[e7];exact rc_sRows hWL) fun d1 d2 d3 ev hr=>?_
    subst ev;exact hK _ _ _ _ (hle19.trans hle10.le) hr
end Go.Proofs
end
