/- Part 'M12' of the proof (Sp1, Sp2, Sp3, Sp4, Sp5, Sp6): lemmas, each with its own conditions in its own statement. -/
import Derived.Lib.Bytealg
import Derived.Test.YtheokcjommfopaaDoorM10
import Derived.Test.YtheokcjommfopaaDoorM8
section
namespace Go.Proofs
open Go.Sy
open Go.RowKit (Below)
set_option maxRecDepth 20000
theorem countstr_ext {s:List UInt8} {c:Nat} {bx:List (Nat×Bx)} {nx:Nat} {H:Hp} {K:SV→List (Nat×Bx)→Nat→Hp→Prop}
  (hK:K (.v (.int .i64 (s.count c.toUInt8:Nat))) bx nx H):ExtG Tryd.prog 77 [.v (.string (bs s)),.v (.int .u8 c)] bx nx H K:=by
 intro B ρ w hm hl
 have h:∀(w:World),(callFunc 77 #[.string (bs s),.int .u8 c]).run Tryd.prog w=((do pure (.value (←Extern.BytealgCount.count #[.string (bs s),.int .u8 c]))):Sem Next).run Tryd.prog w:=by
  intro w
  kernel_rfl
 refine⟨_,bx,nx,H,ρ,w,?_,hK,rfl,hm,fun k hk=>⟨rfl,rfl⟩,Nat.le_refl _,⟨[],rfl⟩,Le.refl H⟩
 have e:gas ρ [SV.v (.string (bs s)),SV.v (.int .u8 c)]=[.string (bs s),.int .u8 c]:=by simp [gas,ga]
 rw[e,h,Sem.run_bind,Lib.run_countString]
 rfl
theorem indexbyte_ext {s:List UInt8} {c:Nat} {bx:List (Nat×Bx)} {nx:Nat} {H:Hp} {K:SV→List (Nat×Bx)→Nat→Hp→Prop}
  (hK:K (.v (.int .i64 (Lib.indexByte s c.toUInt8))) bx nx H):ExtG Tryd.prog 87 [.v (.string (bs s)),.v (.int .u8 c)] bx nx H K:=by
 intro B ρ w hm hl
 have h:∀(w:World),(callFunc 87 #[.string (bs s),.int .u8 c]).run Tryd.prog w=((do pure (.value (←Extern.BytealgIndexByte.indexByte #[.string (bs s),.int .u8 c]))):Sem Next).run Tryd.prog w:=by
  intro w
  kernel_rfl
 refine⟨_,bx,nx,H,ρ,w,?_,hK,rfl,hm,fun k hk=>⟨rfl,rfl⟩,Nat.le_refl _,⟨[],rfl⟩,Le.refl H⟩
 have e:gas ρ [SV.v (.string (bs s)),SV.v (.int .u8 c)]=[.string (bs s),.int .u8 c]:=by simp [gas,ga]
 rw[e,h,Sem.run_bind,Lib.run_indexByteString]
 rfl
theorem indexbyte_spec {s:List UInt8} {c:Nat} {H:Hp} {K:Value→Hp→Prop} (hK:K (.int .i64 (Lib.indexByte s c.toUInt8)) H):Does Tryd.prog 80 [.string (bs s),.int .u8 c] H K:=by
 refine spec_of cx_ok cx_mix rfl Tryd.func80 Tryd.call80 Tryd.ntmps80 Tryd.results80 rfl rfl ?_;refine indexbyte_ext ?_;exact hK
theorem lf_index {s:List UInt8} {H:Hp} {K:Value→Hp→Prop} (hK:K (.int .i64 (Lib.indexByte s 10)) H):Does Tryd.prog 74 [.string (bs s),.string (bs [10])] H K:=by
 refine spec_of cx_ok cx_mix rfl Tryd.func74 Tryd.call74 Tryd.ntmps74 Tryd.results74 rfl rfl ?_;refine⟨fun h=>?_,fun h=>absurd h (by decide)⟩;refine⟨fun h2=>?_,fun h2=>?_⟩
 ·have h2:[10]=s:=of_decide_eq_true h2;subst h2;exact hK
 refine⟨fun h3=>?_,fun h3=>absurd h3 (by decide)⟩;refine⟨10,⟨by decide,rfl⟩,?_⟩;refine indexbyte_spec (c:=10) ?_;exact hK
theorem lf_sindex {s:List UInt8} {H:Hp} {K:Value→Hp→Prop} (hK:K (.int .i64 (Lib.indexByte s 10)) H):Does Tryd.prog 59 [.string (bs s),.string (bs [10])] H K:=by
 refine spec_of cx_ok cx_mix rfl Tryd.func59 Tryd.call59 Tryd.ntmps59 Tryd.results59 rfl rfl ?_;refine lf_index ?_;exact hK
theorem lf_count {s:List UInt8} {H:Hp} {K:Value→Hp→Prop} (hK:K (.int .i64 (s.count 10:Nat)) H):Does Tryd.prog 58 [.string (bs s),.string (bs [10])] H K:=by
 refine spec_of cx_ok cx_mix rfl Tryd.func58 Tryd.call58 Tryd.ntmps58 Tryd.results58 rfl rfl ?_;refine⟨fun h=>absurd h (by decide),fun h=>?_⟩;refine⟨fun h3=>?_,fun h3=>absurd h3 (by decide)⟩;refine⟨10,⟨by decide,rfl⟩,?_⟩;refine countstr_ext (c:=10) ?_;exact hK
end Go.Proofs
end
section
namespace Go.Proofs
open Go.Sy
open Go.RowKit (Below)
set_option maxRecDepth 20000
theorem idx_split:∀r:List UInt8,0<r.count 10→∃x y,r=x++10::y∧free x∧Lib.indexByte r 10=x.length
 | [],h=>by simp at h
 | c::r,h=>by
  by_cases e:c=10
  ·exact⟨[],r,by rw[e];rfl,fun c hc=>by simp at hc,by rw[Lib.indexByte,e];rfl⟩
  ·rw[List.count_cons_of_ne e]at h;obtain⟨x,y,h1,h2,h3⟩:=idx_split r h;refine⟨c::x,y,by rw[h1];rfl,fun d hd=>?_,?_⟩
   ·rcases List.mem_cons.1 hd with hd | hd
    ·rw[hd];exact e
    ·exact h2 d hd
   ·have e1:(c == 10)=false:=by simpa using e
    have e2:(((x.length:Nat):Int) == -1)=false:=by rw[beq_eq_false_iff_ne];omega
    rw[Lib.indexByte,e1,h3,e2];simp
theorem free_none {r:List UInt8} (h:r.count 10=0):free r:=fun c hc e=>by
 rw[e]at hc;exact absurd h (by have:=List.count_pos_iff.2 hc;omega)
theorem spl_le:∀(s:List UInt8) (p:Str),p∈spl s→p.l.length≤s.length
 | [],p,h=>by
  rw[spl,List.mem_singleton]at h;rw[h];exact Nat.le_refl _
 | c::r,p,h=>by
  rw[spl]at h;split at h
  ·rcases List.mem_cons.1 h with h | h
   ·rw[h];exact Nat.zero_le _
   ·exact Nat.le_succ_of_le (spl_le r p h)
  ·split at h
   ·rw[List.mem_singleton]at h;rw[h];simp
   ·next x t e =>
    rcases List.mem_cons.1 h with h | h
    ·rw[h];exact Nat.succ_le_succ (spl_le r x (by rw[e];exact List.mem_cons_self ..))
    ·exact Nat.le_succ_of_le (spl_le r p (by rw[e];exact List.mem_cons_of_mem _ h))
theorem gensplit_spec {s:List UInt8} {H:Hp} {K:Value→Hp→Prop} (hs:s.length≤1000000)
  (hK:∀a n c H',Le H H'→RL H' a n c (spl s)→K (.slice a n c) H'):Does Tryd.prog 39 [.string (bs s),.string (bs [10]),.int .i64 0,.int .i64 (-1)] H K:=by
 have hN:=spl_len s
 obtain⟨N,eN⟩:∃N:Nat,N=(spl s).length:=⟨_,rfl⟩
 have hc:s.count 10≤s.length:=List.count_le_length;refine spec_of cx_ok cx_mix rfl Tryd.func39 Tryd.call39 Tryd.ntmps39 Tryd.results39 rfl rfl ?_;refine⟨fun h=>absurd h (by decide),fun _=>?_⟩;refine⟨fun h=>absurd h (by decide),fun _=>?_⟩;refine⟨fun _=>?_,fun h=>absurd h (by decide)⟩;refine lf_count ?_
 have eNm:SV.v (.int .i64 (min (((s.count 10:Nat):Int)+1) ((s.length:Int)+1) - 1))=SV.v (.int .i64 ((N:Int) - 1)):=by
  have:min (((s.count 10:Nat):Int)+1) ((s.length:Int)+1) - 1=(N:Int) - 1:=by omega
  rw[this]
 have esl:(sl (bs s)).length=s.length:=rfl;refine⟨⟨by omega,by omega⟩,?_⟩;refine⟨⟨by omega,by omega⟩,?_⟩;refine⟨⟨rfl,by omega,by show _*(16:Int)≤_;omega,by omega⟩,?_⟩;refine⟨⟨by omega,by omega⟩,?_⟩
 obtain⟨css,hcss⟩:∃css:List Str→Nat→List (List Value),css=fun P k=>P.map strC++List.replicate k [.string (bs [])]:=⟨_,rfl⟩
 refine⟨List Str×List UInt8,fun q=>⟨[(0,.v (.string (bs q.2))),(1,.v (.string (bs [10]))),(2,.v (.int .i64 0)),(3,.v (.int .i64 ((N:Int) - 1))),(9,.own 0),(10,.v (.int .i64 (q.1.length:Nat)))],[(0,.row 9 1 (css q.1 (N - q.1.length)))],1⟩,
  fun q H'=>Le H H'∧spl s=q.1++spl q.2∧q.2.length≤s.length,fun q=>q.2.length,⟨([],s),[(0,0)],?_,Le.refl H,rfl,Nat.le_refl _⟩,?_⟩
 ·have e0:List.replicate (min (((s.count 10:Nat):Int)+1) ((s.length:Int)+1)).toNat [Value.string (bs [])]=css [] (N - 0):=by
   have:(min (((s.count 10:Nat):Int)+1) ((s.length:Int)+1)).toNat=N - 0:=by omega
   rw[this,hcss];rfl
  exact⟨⟨rfl,rfl,rfl,eNm,rfl,rfl,trivial⟩,⟨e0,trivial⟩⟩
 rintro⟨P,r⟩ H1 _ ⟨hle,hsp,hr⟩;dsimp only at hsp hr;have hlen:=congrArg List.length hsp;have hrl:=spl_len r;rw[List.length_append]at hlen;refine⟨fun h=>?_,fun h=>?_⟩
 ·have h:(P.length:Int)<(N:Int) - 1:=dt h
  have hpos:0<r.count 10:=by omega
  obtain⟨x,y,e1,e2,e3⟩:=idx_split r hpos;refine lf_sindex ?_;rw[e3];refine⟨fun h1=>absurd (dt h1) (by omega),fun _=>?_⟩
  have hlr:r.length=x.length+(y.length+1):=by rw[e1];simp
  have esr:(sl (bs r)).length=r.length:=rfl;have es1:(sl (bs [10])).length=1:=rfl
  have hcl:(css P (N - P.length)).length=N:=by rw[hcss];simp;omega
  refine⟨⟨by omega,by omega⟩,?_⟩;refine⟨⟨by omega,by omega,by dsimp only;omega⟩,?_⟩;refine⟨⟨by omega,by dsimp only;omega⟩,?_⟩
  have hx:(css P (N - P.length))[P.length]?=some [.string (bs [])]:=by
   rw[hcss];dsimp only;rw[List.getElem?_append_right (by simp)];rw[List.length_map,Nat.sub_self,List.getElem?_replicate,if_pos (by omega)]
  refine⟨_,hx,?_⟩;refine⟨⟨by omega,by omega⟩,?_⟩;refine⟨⟨by omega,by show ((x.length:Int)+((sl (bs [10])).length:Int))≤(r.length:Int);omega,Int.le_refl _⟩,?_⟩;refine⟨show -9223372036854775808≤(P.length:Int)+1∧(P.length:Int)+1≤9223372036854775807 by omega,?_⟩
  have e4:List.drop ((x.length:Int)+((sl (bs [10])).length:Int)).toNat (List.take ((r.length:Nat):Int).toNat r)=y:=by
   have h1:((x.length:Int)+((sl (bs [10])).length:Int)).toNat=x.length+1:=by omega
   rw[h1,Int.toNat_natCast,List.take_length,e1,List.drop_append];simp
  have e5:List.drop (Int.toNat 0) (List.take ((x.length:Int)+0).toNat r)=x:=by
   rw[Int.add_zero,Int.toNat_natCast,e1];simp
  have e6:(css P (N - P.length)).set P.length [.string (bs x)]=css (P++[⟨x⟩]) (N - (P++[(⟨x⟩:Str)]).length):=by
   have h1:N - P.length=(N - (P++[(⟨x⟩:Str)]).length)+1:=by rw[List.length_append,List.length_singleton];omega
   rw[h1,hcss];dsimp only;rw[List.set_append_right _ _ (by simp),List.length_map,Nat.sub_self,List.replicate_succ,List.set_cons_zero,List.map_append,List.append_assoc]
   rfl
  have e7:SV.v (.string (bs (List.drop ((x.length:Int)+((sl (bs [10])).length:Int)).toNat (List.take ((r.length:Nat):Int).toNat r))))=SV.v (.string (bs y)):=by rw[e4]
  have e8:SV.v (.int .i64 ((P.length:Int)+1))=SV.v (.int .i64 ((P++[(⟨x⟩:Str)]).length:Nat)):=by rw[List.length_append,List.length_singleton];simp
  refine⟨(P++[⟨x⟩],y),[(0,0)],?_,⟨hle,?_,?_⟩,?_⟩
  ·refine⟨⟨e7,rfl,rfl,rfl,rfl,e8,trivial⟩,⟨?_,trivial⟩⟩;exact (congrArg (fun z=>(css P (N - P.length)).set P.length [Value.string (bs z)]) e5).trans e6
  ·dsimp only;rw[hsp,e1,spl_line _ _ e2];simp
  ·dsimp only;omega
  ·dsimp only;omega
 ·have h:¬(P.length:Int)<(N:Int) - 1:=df h
  have hpos:r.count 10=0:=by omega
  have hfr:=free_none hpos
  have hNP:N=P.length+1:=by omega
  rw[spl_free r hfr]at hsp
  have hx:(css P (N - P.length))[P.length]?=some [.string (bs [])]:=by
   rw[hcss];dsimp only;rw[List.getElem?_append_right (by simp)];rw[List.length_map,Nat.sub_self,List.getElem?_replicate,if_pos (by omega)]
  have hcl:(css P (N - P.length)).length=N:=by rw[hcss];simp;omega
  have e6:(css P (N - P.length)).set P.length [.string (bs r)]=(spl s).map strC:=by
   have h1:N - P.length=0+1:=by omega
   rw[h1,hcss,hsp];dsimp only;rw[List.set_append_right _ _ (by simp),List.length_map,Nat.sub_self,List.replicate_succ,List.set_cons_zero,List.map_append]
   rfl
  refine⟨⟨by omega,by show (P.length:Int)<((css P (N - P.length)).length:Int);omega⟩,?_⟩;refine⟨_,hx,?_⟩;refine⟨show -9223372036854775808≤(P.length:Int)+1∧(P.length:Int)+1≤9223372036854775807 by omega,?_⟩
  have e9:((css P (N - P.length)).set P.length [.string (bs r)]).take ((P.length:Int)+1).toNat=(spl s).map strC:=by
   have h1:((P.length:Int)+1).toNat=((spl s).map strC).length:=by rw[List.length_map,←eN];omega
   rw[e6,h1,List.take_length]
  refine .inl ⟨⟨by omega,by show (P.length:Int)+1≤((((css P (N - P.length)).set P.length [.string (bs r)]).length:Nat):Int);rw[List.length_set];omega⟩,?_⟩;intro x H2 hle2 hx;have hrc:=rc_strs (l:=spl s) (H:=H2) (fun p hp=>by have:=spl_le s p hp;omega);have hx2:RowAt H2 x 1 (((css P (N - P.length)).set P.length [.string (bs r)]).take ((P.length:Int)+1).toNat):=hx;rw[e9]at hx2;obtain⟨a,n1,c1,e,hr⟩:=RL.of_row (α:=Str) hx2 hrc;have h9:=hK a n1 c1 H2 (hle.trans hle2) hr;rw[←e]at h9;exact h9
theorem split_spec {s:List UInt8} {H:Hp} {K:Value→Hp→Prop} (hs:s.length≤1000000)
  (hK:∀a n c H',Le H H'→RL H' a n c (spl s)→K (.slice a n c) H'):Does Tryd.prog 17 [.string (bs s),.string (bs [10])] H K:=by
 refine spec_of cx_ok cx_mix rfl Tryd.func17 Tryd.call17 Tryd.ntmps17 Tryd.results17 rfl rfl ?_
 refine gensplit_spec hs fun a n c H' hle hr=>?_
 exact hK a n c H' hle hr
end Go.Proofs
end
section
namespace Go.Proofs
open Go.Sy
open Go.RowKit (Below)
set_option maxRecDepth 20000
theorem cutP_eq:∀h s:List UInt8,cutP h s=if s.take h.length=h then some (s.drop h.length) else none
 | [],s=>by rw[cutP];simp
 | a::h,[]=>by rw[cutP];simp
 | a::h,b::s=>by
  rw[cutP,cutP_eq h s]
  by_cases e:a=b
  ·subst e;simp
  ·rw[if_neg e,if_neg (fun e1=>e (by simp only[List.length_cons,List.take_succ_cons,List.cons.injEq]at e1;exact e1.1.symm))]
theorem hasprefix_spec {s h:List UInt8} (h1:s.length≤1000000000) (h2:h.length≤1000000000) {H:Hp} {K:Value→Hp→Prop}
  (hK:K (.bool (cutP h s).isSome) H):Does Tryd.prog 60 [.string (bs s),.string (bs h)] H K:=by
 have e1:(sl (bs s)).length=s.length:=rfl;have e2:(sl (bs h)).length=h.length:=rfl;refine spec_of cx_ok cx_mix rfl Tryd.func60 Tryd.call60 Tryd.ntmps60 Tryd.results60 rfl rfl ?_;refine⟨fun h3=>?_,fun h3=>?_⟩
 ·have h3:=dt h3;refine⟨⟨by omega,by omega,by omega⟩,?_⟩;refine kbool hK ?_
  have e3:((((sl (bs h)).length:Nat):Int)).toNat=h.length:=by rw[Int.toNat_natCast];rfl
  show _=decide (List.drop (Int.toNat 0) (List.take ((((sl (bs h)).length:Nat):Int)).toNat s)=h);rw[e3,cutP_eq]
  by_cases e:s.take h.length=h
  ·rw[if_pos e];simp [e]
  ·rw[if_neg e];simp [e]
 ·have h3:=df h3;refine kbool (a:=(cutP h s).isSome) hK ?_;rw[cutP_eq,if_neg (fun e=>by have:=congrArg List.length e;simp at this;omega)]
  rfl
theorem slcut_spec {s h:List UInt8} (h1:s.length≤1000000000) (h2:h.length≤1000000000) {H:Hp} {K:Value→Hp→Prop}
  (hK:K (.tuple #[.string (bs ((cutP h s).getD s)),.bool (cutP h s).isSome]) H):Does Tryd.prog 40 [.string (bs s),.string (bs h)] H K:=by
 refine spec_of cx_ok cx_mix rfl Tryd.func40 Tryd.call40 Tryd.ntmps40 Tryd.results40 rfl rfl ?_;refine hasprefix_spec h1 h2 ?_;refine⟨fun h3=>?_,fun h3=>?_⟩
 ·have e:cutP h s=none:=by
   cases e:cutP h s with
   | none=>rfl
   | some y=>rw[e]at h3;simp at h3
  rw[e]at hK;exact hK
 ·obtain⟨y,e⟩:∃y,cutP h s=some y:=by
   cases e:cutP h s with
   | none=>rw[e]at h3;simp at h3
   | some y=>exact⟨y,rfl⟩
  have e1:=cutP_some e
  have hl:s.length=h.length+y.length:=by rw[e1];simp
  refine⟨⟨by omega,by show ((h.length:Nat):Int)≤((s.length:Nat):Int);omega,Int.le_refl _⟩,?_⟩;rw[e]at hK
  have e4:List.drop (((h.length:Nat):Int)).toNat (List.take (((s.length:Nat):Int)).toNat s)=y:=by
   rw[Int.toNat_natCast,Int.toNat_natCast,List.take_length,e1];simp
  have e5:Value.tuple #[.string (bs (List.drop (((h.length:Nat):Int)).toNat (List.take (((s.length:Nat):Int)).toNat s))),.bool true] = .tuple #[.string (bs ((some y).getD s)),.bool (some y).isSome]:=by rw[e4];rfl
  rw[←e5]at hK;exact hK
theorem cutprefix_spec {s h:List UInt8} (h1:s.length≤1000000000) (h2:h.length≤1000000000) {H:Hp} {K:Value→Hp→Prop}
  (hK:K (.tuple #[.string (bs ((cutP h s).getD s)),.bool (cutP h s).isSome]) H):Does Tryd.prog 18 [.string (bs s),.string (bs h)] H K:=by
 refine spec_of cx_ok cx_mix rfl Tryd.func18 Tryd.call18 Tryd.ntmps18 Tryd.results18 rfl rfl ?_;refine slcut_spec h1 h2 ?_;exact hK
end Go.Proofs
end
section
namespace Go.Proofs
open Go.Sy
open Go.RowKit (Below)
set_option maxRecDepth 20000
theorem rl_tl {x:Str} {l:List Str} {a:Option Addr} {n c:Nat} {H:Hp} (h:RL H a n c (x::l)):RL H (cutA a 1 c 1) (n - 1) (c - 1) l:=by
 have hn:=h.n_eq;rw[List.length_cons]at hn;have h1:=h.cut (l:=1) (k:=n) (by omega) (Nat.le_refl _)
 have e:((x::l).take n).drop 1=l:=by rw[hn,List.take_succ_cons,List.drop_succ_cons,List.drop_zero,List.take_length]
 rw[e]at h1;exact h1
theorem tkn_nil (h:List UInt8):tkn h []=([],[]):=rfl
theorem tkn_none {h:List UInt8} {x:Str} {l:List Str} (e:cutP h x.l=none):tkn h (x::l)=([],x::l):=by rw[tkn,e]
theorem tkn_some {h:List UInt8} {x:Str} {l:List Str} {y:List UInt8} (e:cutP h x.l=some y):tkn h (x::l)=(⟨y⟩::(tkn h l).1,(tkn h l).2):=by rw[tkn,e]
theorem fin1 {h:List UInt8} {q l:List Str} {a:Option Addr} {n c:Nat} {H:Hp} {K:Value→Hp→Prop} (hr:RL H a n c q) (htk:tkn h l=([],q))
  (hK:∀a1 n1 c1 a2 n2 c2 H',Le H H'→RL H' a1 n1 c1 (tkn h l).1→RL H' a2 n2 c2 (tkn h l).2→K (.tuple #[.slice a1 n1 c1,.slice a2 n2 c2]) H'):∀a1,K (.tuple #[.slice a1 0 0,.slice a n c]) H:=by
 intro a1;rw[htk]at hK;exact hK a1 0 0 a n c H (Le.refl H) ⟨rfl,Nat.le_refl _,Nat.zero_le _,.inl rfl⟩ hr
theorem fin2 {h:List UInt8} {D q l:List Str} {L:List (List Value)} {a a1:Option Addr} {n c n1 c1:Nat} {H H1 H2:Hp} {K:Value→Hp→Prop} (hr:RL H1 a n c q) (htk:tkn h l=(D,q)) (hD:∀z∈D,z.l.length≤1000000000)
  (hle:Le H H1) (hle2:Le H1 H2) (hw:RowAt H2 (.slice a1 n1 c1) 1 L) (hL:L=D.map strC)
  (hK:∀a1 n1 c1 a2 n2 c2 H',Le H H'→RL H' a1 n1 c1 (tkn h l).1→RL H' a2 n2 c2 (tkn h l).2→K (.tuple #[.slice a1 n1 c1,.slice a2 n2 c2]) H'):K (.tuple #[.slice a1 n1 c1,.slice a n c]) H2:=by
 rw[htk]at hK;rw[hL]at hw;obtain⟨a3,n3,c3,e,hr3⟩:=RL.of_row (α:=Str) hw (rc_strs (l:=D) (H:=H2) fun p hp=>by have:=hD p hp;omega);cases e;exact hK _ _ _ a n c H2 (hle.trans hle2) hr3 (hr.up hle2)
theorem taken_spec {h:List UInt8} {l:List Str} {a:Option Addr} {n c:Nat} {H:Hp} {K:Value→Hp→Prop} (hhl:h.length≤1000000000) (hll:l.length≤1000000) (hl:∀x∈l,x.l.length≤1000000000) (ha:RL H a n c l)
  (hK:∀a1 n1 c1 a2 n2 c2 H',Le H H'→RL H' a1 n1 c1 (tkn h l).1→RL H' a2 n2 c2 (tkn h l).2→K (.tuple #[.slice a1 n1 c1,.slice a2 n2 c2]) H'):Does Tryd.prog 20 [.slice a n c,.string (bs h)] H K:=by
 refine spec_of cx_ok cx_mix rfl Tryd.func20 Tryd.call20 Tryd.ntmps20 Tryd.results20 rfl rfl ?_
 refine .inr ⟨List Str×List Str×(Option Addr×Nat×Nat),fun _=>0,fun z=>⟨[(0,.v (.slice z.2.2.1 z.2.2.2.1 z.2.2.2.2)),(1,.v (.string (bs h))),(6,.own 0)],[(0,.row 9 1 (z.1.map strC))],1⟩,
  fun z H'=>Le H H'∧RL H' z.2.2.1 z.2.2.2.1 z.2.2.2.2 z.2.1∧(∀x∈z.2.1,x.l.length≤1000000000)∧(∀x∈z.1,x.l.length≤1000000000)∧z.1.length+z.2.1.length≤l.length∧tkn h l=(z.1++(tkn h z.2.1).1,(tkn h z.2.1).2),fun z=>z.2.1.length,?_,?_⟩
 ·obtain⟨n1,en1⟩:∃n1,n1=n:=⟨_,rfl⟩
  rw[←en1]at ha ⊢
  obtain⟨q,eq⟩:∃q,q=l:=⟨_,rfl⟩
  have htk:tkn h l=([]++(tkn h q).1,(tkn h q).2):=by rw[eq];rfl
  have hq:=hl;have hr:=ha
  have hD:∀z∈([]:List Str),z.l.length≤1000000000:=fun z hz=>by simp at hz
  have hql:([]:List Str).length+q.length≤l.length:=by rw[eq];simp
  rw[←eq]at hq hr;clear eq
  match q,hr,hq,hql,htk with
  | [],hr,hq,hql,htk =>
   have hn0:n1=0:=hr.n_eq;refine⟨fun h3=>absurd (show (0:Int)<(n1:Int) from dt h3) (by omega),fun _=>?_⟩;rw[tkn_nil,List.append_nil]at htk
   (refine⟨⟨by decide,by decide,by decide,by decide⟩,?_⟩;exact fin1 hr htk hK _)
  | x::q,hr,hq,hql,htk =>
   have hn1:=hr.n_eq;rw[List.length_cons]at hn1 hql;have hmx:=hr.le;refine⟨fun h3=>?_,fun h3=>absurd (show (0:Int)<(n1:Int) by omega) (df h3)⟩;have hx:(x::q)[0]?=some x:=rfl;obtain⟨ad,cs,e1,hh,r1⟩:=hr.elem hx;rw[str_open' r1]at hh;refine⟨ad,⟨by omega,by show (0:Int)<(n1:Int);omega,e1⟩,?_⟩;refine⟨_,hh,?_⟩;have hxl:=hq x (List.mem_cons_self ..);refine cutprefix_spec hxl hhl ?_
   cases e:cutP h x.l with
   | none =>
    refine⟨fun h4=>absurd h4 (by simp),fun _=>?_⟩;rw[tkn_none e,List.append_nil]at htk
    (refine⟨⟨by decide,by decide,by decide,by decide⟩,?_⟩;exact fin1 hr htk hK _)
   | some y =>
    have hyl:y.length≤1000000000:=by have:=congrArg List.length (cutP_some e);rw[List.length_append]at this;omega
    refine⟨fun _=>?_,fun h4=>absurd h4 (by simp)⟩;refine⟨some ([],[4,5,0,1,2,3,6,7]),by kernel_rfl,?_⟩;refine⟨⟨by omega,by show (1:Int)≤(n1:Int);omega,by show (n1:Int)≤(n1:Int);omega,by show n1≤c;exact hr.2.1⟩,?_⟩;refine⟨⟨by show 1*16≤_;decide,by show 1≤_;decide⟩,?_⟩;refine⟨(([]:List Str)++[⟨y⟩],q,(cutA a 1 c 1,n1 - 1,c - 1)),[(0,1)],rfl,?_,⟨Le.refl H,rl_tl hr,fun z hz=>hq z (List.mem_cons_of_mem _ hz),fun z hz=>?_,?_,?_⟩⟩
    ·exact⟨⟨rfl,rfl,rfl,trivial⟩,⟨rfl,trivial⟩⟩
    ·rcases List.mem_append.1 hz with hz | hz
     ·exact hD z hz
     ·rw[List.mem_singleton]at hz;rw[hz];exact hyl
    ·show (([]:List Str)++[(⟨y⟩:Str)]).length+q.length≤l.length
     rw[List.length_append,List.length_singleton];omega
    ·rw[htk,tkn_some e];simp
 ·rintro⟨D,q,⟨a,n1,c⟩⟩ H1 hle0 ⟨hle,hr,hq,hD,hql,htk⟩;dsimp only at hr hq hD hql htk
  match q,hr,hq,hql,htk with
  | [],hr,hq,hql,htk =>
   have hn0:n1=0:=hr.n_eq;refine⟨fun h3=>absurd (show (0:Int)<(n1:Int) from dt h3) (by omega),fun _=>?_⟩;rw[tkn_nil,List.append_nil]at htk
   (refine .inl ⟨⟨Int.le_refl _,Int.natCast_nonneg _,Int.le_refl _,Int.le_refl _⟩,fun a1 y1 H2 hle2 hv hw=>?_⟩;refine fin2 hr htk hD hle hle2 hw (by have e:(D.map strC).take D.length=D.map strC:=List.take_of_length_le (by simp);simpa using e) hK)
  | x::q,hr,hq,hql,htk =>
   have hn1:=hr.n_eq;rw[List.length_cons]at hn1 hql;have hmx:=hr.le;refine⟨fun h3=>?_,fun h3=>absurd (show (0:Int)<(n1:Int) by omega) (df h3)⟩;have hx:(x::q)[0]?=some x:=rfl;obtain⟨ad,cs,e1,hh,r1⟩:=hr.elem hx;rw[str_open' r1]at hh;refine⟨ad,⟨by omega,by show (0:Int)<(n1:Int);omega,e1⟩,?_⟩;refine⟨_,hh,?_⟩;have hxl:=hq x (List.mem_cons_self ..);refine cutprefix_spec hxl hhl ?_
   cases e:cutP h x.l with
   | none =>
    refine⟨fun h4=>absurd h4 (by simp),fun _=>?_⟩;rw[tkn_none e,List.append_nil]at htk
    (refine .inl ⟨⟨Int.le_refl _,Int.natCast_nonneg _,Int.le_refl _,Int.le_refl _⟩,fun a1 y1 H2 hle2 hv hw=>?_⟩;refine fin2 hr htk hD hle hle2 hw (by have e:(D.map strC).take D.length=D.map strC:=List.take_of_length_le (by simp);simpa using e) hK)
   | some y =>
    have hyl:y.length≤1000000000:=by have:=congrArg List.length (cutP_some e);rw[List.length_append]at this;omega
    refine⟨fun _=>?_,fun h4=>absurd h4 (by simp)⟩;refine⟨some ([0],[4,5,0,1,2,3,6,7]),by kernel_rfl,?_⟩;refine⟨⟨by omega,by show (1:Int)≤(n1:Int);omega,by show (n1:Int)≤(n1:Int);omega,by show n1≤c;exact hr.2.1⟩,?_⟩;refine⟨⟨by show ((D.map strC).length+1)*16≤_;rw[List.length_map];omega,by show (D.map strC).length+1≤_;rw[List.length_map];omega⟩,?_⟩;refine⟨(D++[⟨y⟩],q,(cutA a 1 c 1,n1 - 1,c - 1)),[(0,2)],rfl,?_,⟨hle,rl_tl hr,fun z hz=>hq z (List.mem_cons_of_mem _ hz),fun z hz=>?_,?_,?_⟩,by dsimp only;rw[List.length_cons];omega⟩
    ·exact⟨⟨rfl,rfl,rfl,trivial⟩,⟨by rw[List.map_append];rfl,trivial⟩⟩
    ·rcases List.mem_append.1 hz with hz | hz
     ·exact hD z hz
     ·rw[List.mem_singleton]at hz;rw[hz];exact hyl
    ·show (D++[(⟨y⟩:Str)]).length+q.length≤l.length
     rw[List.length_append,List.length_singleton];omega
    ·rw[htk,tkn_some e];simp
end Go.Proofs
end
section
namespace Go.Proofs
open Go.Sy
open Go.RowKit (Below)
set_option maxRecDepth 20000
theorem tkn_mem (h:List UInt8):∀(l:List Str) (z:Str),z∈(tkn h l).2→z∈l
 | [],z,hz=>hz
 | x::l,z,hz=>by
  rw[tkn]at hz;split at hz
  ·exact List.mem_cons_of_mem _ (tkn_mem h l z hz)
  ·exact hz
theorem text_spec2 {r:Report} {H:Hp} {cs:List Value} {K:Value→Hp→Prop} (ha:Enc.R H cs r) (hs:(rowsT r.2).length≤20000)
  (hbad:rightB r=false→∀H',Le H H'→K (.tuple #[.string (bs []),.int .i64 12]) H')
  (hgood:rightB r=true→∀H',Le H H'→K (.tuple #[.string (bs (textT r)),.int .i64 0]) H'):Does Tryd.prog 11 [.agg cs.toArray] H K:=by
 refine text_spec ha hs fun H' hle=>?_
 cases h:rightB r with
 | false=>exact hbad h H' hle
 | true=>exact hgood h H' hle
theorem parse_spec {s:List UInt8} {H:Hp} {K:Value→Hp→Prop} (hs:s.length≤100000) (hr:(rowsT (prs s).2).length≤20000)
  (hbad:¬(rightB (prs s)=true∧textT (prs s)=s)→∀H',Le H H'→K (.tuple #[.agg #[.int .i64 0,.slice none 0 0],.int .i64 12]) H')
  (hK:rightB (prs s)=true→textT (prs s)=s→∀a n c H',Le H H'→RL H' a n c (prs s).2→K (.tuple #[.agg #[.int .i64 (prs s).1,.slice a n c],.int .i64 0]) H'):Does Tryd.prog 7 [.string (bs s)] H K:=by
 obtain⟨x0,l0,e0⟩:∃x0 l0,spl s=x0::l0:=by
  cases h:spl s with
  | nil=>exact absurd h (spl_ne s)
  | cons x l=>exact⟨x,l,rfl⟩
 have hprs:prs s=(kindOf ((cutP repH x0.l).getD x0.l),(rws l0).1):=by rw[prs,e0]
 have hl:=spl_le s;rw[e0]at hl;have hc:s.count 10≤s.length:=List.count_le_length;have hsl:=spl_len s;rw[e0,List.length_cons]at hsl;have hx0:=hl x0 (List.mem_cons_self ..);refine spec_of cx_ok cx_mix rfl Tryd.func7 Tryd.call7 Tryd.ntmps7 Tryd.results7 rfl rfl ?_;refine .inl ⟨0,?_⟩
 refine split_spec (by omega) fun a n c H1 hle1 hr1=>?_
 rw[e0]at hr1;have hn:=hr1.n_eq;rw[List.length_cons]at hn;obtain⟨ad,cs,e1,hh,r1⟩:=hr1.elem (i:=0) (x:=x0) rfl;rw[str_open' r1]at hh;refine⟨ad,⟨by omega,by omega,e1⟩,?_⟩;refine⟨_,hh,?_⟩;refine cutprefix_spec (h:=repH) (by omega) (by decide) ?_
 refine kind_spec fun H2 hle2=>?_
 refine⟨⟨by decide,by omega,by omega,hr1.2.1⟩,?_⟩
 obtain⟨kd,ekd⟩:∃kd,kd=kindOf ((cutP repH x0.l).getD x0.l):=⟨_,rfl⟩
 rw[←ekd]
 have hkd : -9223372036854775808≤kd∧kd≤9223372036854775807:=by
  rw[ekd];unfold kindOf
  constructor<;>(repeat' split)<;>decide
 refine⟨List Row×List (List Value)×List Str×(Option Addr×Nat×Nat),fun z=>⟨[(0,.v (.string (bs s))),(2,.ptr 0 0),(4,.ptr 1 0),(5,.v (.slice z.2.2.2.1 z.2.2.2.2.1 z.2.2.2.2.2))],
   [(0,.cells 25 [.v (.int .i64 0),.v (.slice none 0 0)]),(1,.cells 25 [.v (.int .i64 kd),.own 2]),(2,.row 44 3 z.2.1)],3⟩,
  fun z H'=>Le H H'∧RL H' z.2.2.2.1 z.2.2.2.2.1 z.2.2.2.2.2 z.2.2.1∧RC H' z.2.1 z.1∧(∀x∈z.2.2.1,x.l.length≤s.length)∧z.1.length+z.2.2.1.length≤l0.length∧rws l0=(z.1++(rws z.2.2.1).1,(rws z.2.2.1).2),fun z=>z.2.2.1.length,
  ⟨([],[],l0,(cutA a 1 c 1,n - 1,c - 1)),[(0,0),(1,1)],?_,hle1,rl_tl hr1,RC.nil,fun x hx=>hl x (List.mem_cons_of_mem _ hx),by simp,rfl⟩,?_⟩
 ·exact⟨⟨rfl,⟨rfl,rfl⟩,⟨rfl,rfl⟩,rfl,trivial⟩,⟨⟨rfl,rfl,trivial⟩,⟨rfl,⟨rfl,rfl,rfl⟩,trivial⟩,rfl,trivial⟩⟩
 rintro⟨R,L,q,⟨a,n1,c⟩⟩ H3 _ ⟨hle,hrq,hrc,hq,hql,hrw⟩;dsimp only at hrq hrc hq hql hrw
 match q,hrq,hq,hql,hrw with
 | [],hrq,hq,hql,hrw =>
  have hn0:n1=0:=hrq.n_eq;refine⟨fun h3=>absurd (show (0:Int)<(n1:Int) from dt h3) (by omega),fun _=>?_⟩;rw[rws_nil,List.append_nil]at hrw;intro x5 H5 hle5 hx5;obtain⟨a5,n5,c5,e5,hr5⟩:=RL.of_row (α:=Row) hx5 (hrc.up (by first | exact hle5 | exact hle5.le));subst e5
  have hps:prs s=(kd,R):=by rw[hprs,hrw,ekd]
  have hrep:Enc.R H5 [.int .i64 kd,.slice a5 n5 c5] ((kd,R):Report):=⟨[_],[_],rfl,⟨rfl,hkd⟩,⟨a5,n5,c5,rfl,hr5⟩⟩
  rw[hps]at hr hbad hK;refine text_spec2 hrep hr (fun hrb H6 hle6=>?_) (fun hrb H6 hle6=>?_)
  ·refine⟨fun h=>absurd h (by decide),fun _=>?_⟩;exact hbad (fun h=>by rw[hrb]at h;exact absurd h.1 (by decide)) _ (by first | exact hle | exact hle.trans hle5.le)
  ·refine⟨fun _=>?_,fun h=>absurd h (by decide)⟩;refine⟨fun h=>?_,fun h=>?_⟩
   ·exact hbad (fun h2=>nt h h2.2) _ (by first | exact hle | exact hle.trans hle5.le)
   ·intro x6 H6 hle6 hx6
    have hle7:Le H3 H6:=by first | exact hle6 | exact hle6.le
    obtain⟨a6,n6,c6,e6,hr6⟩:=RL.of_row (α:=Row) hx6 (hrc.up hle7);subst e6;exact hK hrb (nf h) a6 n6 c6 _ (hle.trans hle7) hr6
 | x::q,hrq,hq,hql,hrw =>
  have hn1:=hrq.n_eq;rw[List.length_cons]at hn1 hql;have hmx:=hrq.le;refine⟨fun h3=>?_,fun h3=>absurd (show (0:Int)<(n1:Int) by omega) (df h3)⟩;obtain⟨ad,cs,e1,hh,r1⟩:=hrq.elem (i:=0) (x:=x) rfl;rw[str_open' r1]at hh;refine⟨ad,⟨by omega,by show (0:Int)<(n1:Int);omega,e1⟩,?_⟩;refine⟨_,hh,?_⟩;have hxl:=hq x (List.mem_cons_self ..);refine cutprefix_spec (h:=blkH) (by omega) (by decide) ?_
  cases e:cutP blkH x.l with
  | none =>
   refine⟨fun _=>?_,fun h4=>absurd h4 (by simp)⟩;rw[rws_none e,List.append_nil]at hrw;intro x5 H5 hle5 hx5;obtain⟨a5,n5,c5,e5,hr5⟩:=RL.of_row (α:=Row) hx5 (hrc.up (by first | exact hle5 | exact hle5.le));subst e5
   have hps:prs s=(kd,R):=by rw[hprs,hrw,ekd]
   have hrep:Enc.R H5 [.int .i64 kd,.slice a5 n5 c5] ((kd,R):Report):=⟨[_],[_],rfl,⟨rfl,hkd⟩,⟨a5,n5,c5,rfl,hr5⟩⟩
   rw[hps]at hr hbad hK;refine text_spec2 hrep hr (fun hrb H6 hle6=>?_) (fun hrb H6 hle6=>?_)
   ·refine⟨fun h=>absurd h (by decide),fun _=>?_⟩;exact hbad (fun h=>by rw[hrb]at h;exact absurd h.1 (by decide)) _ (by first | exact hle | exact hle.trans hle5.le)
   ·refine⟨fun _=>?_,fun h=>absurd h (by decide)⟩;refine⟨fun h=>?_,fun h=>?_⟩
    ·exact hbad (fun h2=>nt h h2.2) _ (by first | exact hle | exact hle.trans hle5.le)
    ·intro x6 H6 hle6 hx6
     have hle7:Le H3 H6:=by first | exact hle6 | exact hle6.le
     obtain⟨a6,n6,c6,e6,hr6⟩:=RL.of_row (α:=Row) hx6 (hrc.up hle7);subst e6;exact hK hrb (nf h) a6 n6 c6 _ (hle.trans hle7) hr6
  | some y =>
   have hyl:y.length≤x.l.length:=by have:=congrArg List.length (cutP_some e);rw[List.length_append]at this;omega
   refine⟨fun h4=>absurd h4 (by simp),fun _=>?_⟩;refine⟨⟨by omega,by show (1:Int)≤(n1:Int);omega,by show (n1:Int)≤(n1:Int);omega,by show n1≤c;exact hrq.2.1⟩,?_⟩
   refine taken_spec (h:=inH) (l:=q) (by decide) (by omega) (fun z hz=>by have:=hq z (List.mem_cons_of_mem _ hz);omega) (rl_tl hrq) fun a3 n3 c3 a4 n4 c4 H4 hle4 hr3 hr4=>?_
   have ht1:=tkn_len inH q
   refine taken_spec (h:=outH) (l:=(tkn inH q).2) (by decide) (by omega) (fun z hz=>?_) hr4 fun a5 n5 c5 a6 n6 c6 H5 hle5 hr5 hr6=>?_
   ·have:=hq z (List.mem_cons_of_mem _ (tkn_mem inH _ _ hz));omega
   have ht2:=tkn_len outH (tkn inH q).2
   have hrow:Enc.R H5 [.string (bs y),.slice a3 n3 c3,.slice a5 n5 c5] ((⟨y⟩,(tkn inH q).1,(tkn outH (tkn inH q).2).1):Row) :=
    ⟨[_],[_,_],rfl,⟨rfl,by show y.length≤_;omega⟩,[_],[_],rfl,⟨a3,n3,c3,rfl,hr3.up hle5⟩,⟨a5,n5,c5,rfl,hr5⟩⟩
   have hLR:L.length=R.length:=hrc.1;refine⟨⟨by show (L.length+1)*64≤_;omega,by show L.length+1≤_;omega⟩,?_⟩
   refine⟨(R++[(⟨y⟩,(tkn inH q).1,(tkn outH (tkn inH q).2).1)],L++[[.string (bs y),.slice a3 n3 c3,.slice a5 n5 c5]],(tkn outH (tkn inH q).2).2,(a6,n6,c6)),[(0,0),(1,1),(2,5)],?_,
    ⟨hle.trans (hle4.trans hle5),hr6,(hrc.up (hle4.trans hle5)).snoc hrow,fun z hz=>?_,?_,?_⟩,?_⟩
   ·exact⟨⟨rfl,⟨rfl,rfl⟩,⟨rfl,rfl⟩,rfl,trivial⟩,⟨⟨rfl,rfl,trivial⟩,⟨rfl,rfl,trivial⟩,rfl,trivial⟩⟩
   ·exact hq z (List.mem_cons_of_mem _ (tkn_mem inH _ _ (tkn_mem outH _ _ hz)))
   ·dsimp only;rw[List.length_append,List.length_singleton];omega
   ·dsimp only;rw[hrw,rws_some e];simp
   ·dsimp only;rw[List.length_cons];omega
end Go.Proofs
end
section
namespace Go.Proofs
open Go.Sy
open Go.RowKit (Below)
set_option maxRecDepth 20000
theorem nm_free {s:List UInt8} (h:nmB s=true):free s:=fun c hc e=>by
 unfold nmB at h;simp only[Bool.and_eq_true]at h;have:=List.all_eq_true.1 h.2 c hc;rw[e]at this;exact absurd this (by decide)
theorem pr_free {s:List UInt8} (h:prB s=true):free s:=fun c hc e=>by
 unfold prB at h;simp only[Bool.and_eq_true]at h;have:=List.all_eq_true.1 h.1 c hc;rw[e]at this;exact absurd this (by decide)
theorem right_free {r:Report} (h:rightB r=true):nameOf r.1≠[]∧∀x∈r.2,freeR x:=by
 unfold rightB at h;simp only[Bool.and_eq_true,decide_eq_true_eq]at h;refine⟨h.1,fun x hx=>?_⟩;have h2:=h.2;rw[Bool.not_eq_true',List.any_eq_false]at h2;have h3:=h2 x hx;unfold rowBad at h3;simp only[Bool.or_eq_true,not_or,Bool.not_eq_true',Bool.not_eq_false,Bool.not_eq_true,List.any_eq_false]at h3
 have hw:∀l:List Str,(∀w∈l,badS w=false)→∀w∈l,free w.l:=fun l hl w hw=>pr_free (by have:=hl w hw;unfold badS at this;simpa using this)
 exact⟨nm_free h3.1.1,hw _ h3.1.2,hw _ h3.2⟩
theorem prs_right {r:Report} (h:rightB r=true):prs (textT r)=r:=prs_text (right_free h).1 (right_free h).2
theorem text_inj {a b:Report} (ha:rightB a=true) (hb:rightB b=true):textT a=textT b↔a=b :=
 ⟨fun h=>by rw[←prs_right ha,←prs_right hb,h],fun h=>by rw[h]⟩
theorem textT_len {r:Report} (h:(rowsT r.2).length≤20000):(textT r).length≤20017:=by
 have:=headT_len r;unfold textT;rw[List.length_append,List.length_append];have e:endL.length=4:=rfl;omega
theorem RenderBack_spec {a b:Report} {H:Hp} {cs ds:List Value} {K:Value→Hp→Prop} (ha:Enc.R H cs a) (hb:Enc.R H ds b) (hK:∀H',Le H H'→K (.bool true) H'):Does Tryd.prog 4 [.agg cs.toArray,.agg ds.toArray] H K:=by
 have ha0:=ha;have hb0:=hb;have fin:=hK H (Le.refl H);obtain⟨a1,n1,c1,ecs,hl,h1⟩:=rep_open ha;obtain⟨b1,m1,d1,eds,gl,g1⟩:=rep_open hb;subst ecs eds;refine spec_of cx_ok cx_mix rfl Tryd.func4 Tryd.call4 Tryd.ntmps4 Tryd.results4 rfl rfl ?_
 refine awake43 fun H1 hle1=>?_
 refine⟨fun h=>absurd h (by decide),fun _=>?_⟩
 refine small2_spec ha0 fun x H2 hle2 hsa=>?_
 refine⟨fun h=>?_,fun h=>?_⟩
 rotate_left
 ·exact fin
 have hx:x=true:=by simpa using h
 refine small2_spec hb0 fun y H3 hle3 hsb=>?_
 refine⟨fun h=>?_,fun h=>?_⟩
 ·exact fin
 have hy:y=true:=by simpa using h
 have sa:=small_bound (hsa hx);have sb:=small_bound (hsb hy);refine text_spec2 ha0 sa (fun hra H4 hle4=>?_) (fun hra H4 hle4=>?_)
 ·refine text_spec2 hb0 sb (fun hrb H5 hle5=>?_) (fun hrb H5 hle5=>?_)
  all_goals
   refine⟨fun h=>absurd h (by decide),fun _=>?_⟩;refine⟨fun h=>absurd h (by decide),fun _=>?_⟩;exact fin
 ·refine text_spec2 hb0 sb (fun hrb H5 hle5=>?_) (fun hrb H5 hle5=>?_)
  ·refine⟨fun _=>?_,fun h=>absurd h (by decide)⟩;refine⟨fun _=>?_,fun h=>absurd h (by decide)⟩;refine⟨fun _=>?_,fun h=>absurd h (by decide)⟩;exact fin
  ·refine⟨fun _=>?_,fun h=>absurd h (by decide)⟩;refine⟨fun h=>absurd h (by decide),fun _=>?_⟩;have htl:=textT_len sa;have hpa:=prs_right hra
   refine parse_spec (s:=textT a) (by omega) (by rw[hpa];exact sa) (fun h=>absurd ⟨by rw[hpa];exact hra,by rw[hpa]⟩ h) fun _ _ a6 n6 c6 H6 hle6 hr6=>?_
   rw[hpa]at hr6
   have hrep:Enc.R H6 [.int .i64 (prs (textT a)).1,.slice a6 n6 c6] a:=⟨[_],[_],rfl,⟨by rw[hpa],hl⟩,⟨a6,n6,c6,rfl,hr6⟩⟩
   refine⟨fun _=>?_,fun h=>absurd h (by decide)⟩
   refine rsame_spec hrep (Enc.up hle6 ha0) fun H7 hle7=>?_
   refine⟨fun _=>?_,fun h=>absurd h (by simp)⟩
   refine rsame_spec (Enc.up hle6 ha0) (Enc.up hle6 hb0) fun H8 hle8=>?_
   refine kbool (a:=true) (hK H6 hle6) ?_;have e:decide (textT a=textT b)=decide (a=b):=decide_eq_decide.2 (text_inj hra hrb);exact (decide_eq_true e).symm
end Go.Proofs
end
