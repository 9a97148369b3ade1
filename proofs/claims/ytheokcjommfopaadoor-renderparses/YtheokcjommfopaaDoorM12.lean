/- Part 'M12' of the proof (Sp1, Sp2, Sp3, Sp4, Sp5, Sp6, Sp7, Spm, Sp8, Sp9): lemmas, each with its own conditions in its own statement. -/
import Derived.Lib.Bytealg
import Derived.Test.YtheokcjommfopaaDoorM10
import Derived.Test.YtheokcjommfopaaDoorM7
import Derived.Test.YtheokcjommfopaaDoorM8
section
namespace Go.Proofs
open Go.Sy
open Go.RowKit (Below)
set_option maxRecDepth 20000
theorem countstr_ext {s:List UInt8} {c:Nat} {bx:List (Nat×Bx)} {nx:Nat} {H:Hp} {K:SV→List (Nat×Bx)→Nat→Hp→Prop}
  (hK:K (.v (.int .i64 (s.count c.toUInt8:Nat))) bx nx H):ExtG Tryd.prog 77 [.v (.string (bs s)),.v (.int .u8 c)] bx nx H K:=by
 intro B ρ w hm hl
 have h:∀(w:World),(callFunc 77 #[.string (bs s),.int .u8 c]).run Tryd.prog w=((do pure (.value (←Extern.BytealgCount.count #[.string (bs s),.int .u8 c]))):Sem Next).run Tryd.prog w:=by
  intro w
  kernel_rfl
 refine⟨_,bx,nx,H,ρ,w,?_,hK,rfl,hm,fun k hk=>⟨rfl,rfl⟩,Nat.le_refl _,⟨[],rfl⟩,Le.refl H⟩
 have e:gas ρ [SV.v (.string (bs s)),SV.v (.int .u8 c)]=[.string (bs s),.int .u8 c]:=by simp [gas,ga]
 rw[e,h,Sem.run_bind,Lib.run_countString]
 rfl
theorem indexbyte_ext {s:List UInt8} {c:Nat} {bx:List (Nat×Bx)} {nx:Nat} {H:Hp} {K:SV→List (Nat×Bx)→Nat→Hp→Prop}
  (hK:K (.v (.int .i64 (Lib.indexByte s c.toUInt8))) bx nx H):ExtG Tryd.prog 87 [.v (.string (bs s)),.v (.int .u8 c)] bx nx H K:=by
 intro B ρ w hm hl
 have h:∀(w:World),(callFunc 87 #[.string (bs s),.int .u8 c]).run Tryd.prog w=((do pure (.value (←Extern.BytealgIndexByte.indexByte #[.string (bs s),.int .u8 c]))):Sem Next).run Tryd.prog w:=by
  intro w
  kernel_rfl
 refine⟨_,bx,nx,H,ρ,w,?_,hK,rfl,hm,fun k hk=>⟨rfl,rfl⟩,Nat.le_refl _,⟨[],rfl⟩,Le.refl H⟩
 have e:gas ρ [SV.v (.string (bs s)),SV.v (.int .u8 c)]=[.string (bs s),.int .u8 c]:=by simp [gas,ga]
 rw[e,h,Sem.run_bind,Lib.run_indexByteString]
 rfl
theorem indexbyte_spec {s:List UInt8} {c:Nat} {H:Hp} {K:Value→Hp→Prop} (hK:K (.int .i64 (Lib.indexByte s c.toUInt8)) H):Does Tryd.prog 80 [.string (bs s),.int .u8 c] H K:=by
 refine spec_of cx_ok cx_mix rfl Tryd.func80 Tryd.call80 Tryd.ntmps80 Tryd.results80 rfl rfl ?_;refine indexbyte_ext ?_;exact hK
theorem lf_index {s:List UInt8} {H:Hp} {K:Value→Hp→Prop} (hK:K (.int .i64 (Lib.indexByte s 10)) H):Does Tryd.prog 74 [.string (bs s),.string (bs [10])] H K:=by
 refine spec_of cx_ok cx_mix rfl Tryd.func74 Tryd.call74 Tryd.ntmps74 Tryd.results74 rfl rfl ?_;refine⟨fun h=>?_,fun h=>absurd h (by decide)⟩;refine⟨fun h2=>?_,fun h2=>?_⟩
 ·have h2:[10]=s:=of_decide_eq_true h2;subst h2;exact hK
 refine⟨fun h3=>?_,fun h3=>absurd h3 (by decide)⟩;refine⟨10,⟨by decide,rfl⟩,?_⟩;refine indexbyte_spec (c:=10) ?_;exact hK
theorem lf_sindex {s:List UInt8} {H:Hp} {K:Value→Hp→Prop} (hK:K (.int .i64 (Lib.indexByte s 10)) H):Does Tryd.prog 59 [.string (bs s),.string (bs [10])] H K:=by
 refine spec_of cx_ok cx_mix rfl Tryd.func59 Tryd.call59 Tryd.ntmps59 Tryd.results59 rfl rfl ?_;refine lf_index ?_;exact hK
theorem lf_count {s:List UInt8} {H:Hp} {K:Value→Hp→Prop} (hK:K (.int .i64 (s.count 10:Nat)) H):Does Tryd.prog 58 [.string (bs s),.string (bs [10])] H K:=by
 refine spec_of cx_ok cx_mix rfl Tryd.func58 Tryd.call58 Tryd.ntmps58 Tryd.results58 rfl rfl ?_;refine⟨fun h=>absurd h (by decide),fun h=>?_⟩;refine⟨fun h3=>?_,fun h3=>absurd h3 (by decide)⟩;refine⟨10,⟨by decide,rfl⟩,?_⟩;refine countstr_ext (c:=10) ?_;exact hK
end Go.Proofs
end
section
namespace Go.Proofs
open Go.Sy
open Go.RowKit (Below)
set_option maxRecDepth 20000
theorem idx_split:∀r:List UInt8,0<r.count 10→∃x y,r=x++10::y∧free x∧Lib.indexByte r 10=x.length
 | [],h=>by simp at h
 | c::r,h=>by
  by_cases e:c=10
  ·exact⟨[],r,by rw[e];rfl,fun c hc=>by simp at hc,by rw[Lib.indexByte,e];rfl⟩
  ·rw[List.count_cons_of_ne e]at h;obtain⟨x,y,h1,h2,h3⟩:=idx_split r h;refine⟨c::x,y,by rw[h1];rfl,fun d hd=>?_,?_⟩
   ·rcases List.mem_cons.1 hd with hd | hd
    ·rw[hd];exact e
    ·exact h2 d hd
   ·have e1:(c == 10)=false:=by simpa using e
    have e2:(((x.length:Nat):Int) == -1)=false:=by rw[beq_eq_false_iff_ne];omega
    rw[Lib.indexByte,e1,h3,e2];simp
theorem free_none {r:List UInt8} (h:r.count 10=0):free r:=fun c hc e=>by
 rw[e]at hc;exact absurd h (by have:=List.count_pos_iff.2 hc;omega)
theorem spl_le:∀(s:List UInt8) (p:Str),p∈spl s→p.l.length≤s.length
 | [],p,h=>by
  rw[spl,List.mem_singleton]at h;rw[h];exact Nat.le_refl _
 | c::r,p,h=>by
  rw[spl]at h;split at h
  ·rcases List.mem_cons.1 h with h | h
   ·rw[h];exact Nat.zero_le _
   ·exact Nat.le_succ_of_le (spl_le r p h)
  ·split at h
   ·rw[List.mem_singleton]at h;rw[h];simp
   ·next x t e =>
    rcases List.mem_cons.1 h with h | h
    ·rw[h];exact Nat.succ_le_succ (spl_le r x (by rw[e];exact List.mem_cons_self ..))
    ·exact Nat.le_succ_of_le (spl_le r p (by rw[e];exact List.mem_cons_of_mem _ h))
theorem gensplit_spec {s:List UInt8} {H:Hp} {K:Value→Hp→Prop} (hs:s.length≤1000000)
  (hK:∀a n c H',Le H H'→RL H' a n c (spl s)→K (.slice a n c) H'):Does Tryd.prog 39 [.string (bs s),.string (bs [10]),.int .i64 0,.int .i64 (-1)] H K:=by
 have hN:=spl_len s
 obtain⟨N,eN⟩:∃N:Nat,N=(spl s).length:=⟨_,rfl⟩
 have hc:s.count 10≤s.length:=List.count_le_length;refine spec_of cx_ok cx_mix rfl Tryd.func39 Tryd.call39 Tryd.ntmps39 Tryd.results39 rfl rfl ?_;refine⟨fun h=>absurd h (by decide),fun _=>?_⟩;refine⟨fun h=>absurd h (by decide),fun _=>?_⟩;refine⟨fun _=>?_,fun h=>absurd h (by decide)⟩;refine lf_count ?_
 have eNm:SV.v (.int .i64 (min (((s.count 10:Nat):Int)+1) ((s.length:Int)+1) - 1))=SV.v (.int .i64 ((N:Int) - 1)):=by
  have:min (((s.count 10:Nat):Int)+1) ((s.length:Int)+1) - 1=(N:Int) - 1:=by omega
  rw[this]
 have esl:(sl (bs s)).length=s.length:=rfl;refine⟨⟨by omega,by omega⟩,?_⟩;refine⟨⟨by omega,by omega⟩,?_⟩;refine⟨⟨rfl,by omega,by show _*(16:Int)≤_;omega,by omega⟩,?_⟩;refine⟨⟨by omega,by omega⟩,?_⟩
 obtain⟨css,hcss⟩:∃css:List Str→Nat→List (List Value),css=fun P k=>P.map strC++List.replicate k [.string (bs [])]:=⟨_,rfl⟩
 refine⟨List Str×List UInt8,fun q=>⟨[(0,.v (.string (bs q.2))),(1,.v (.string (bs [10]))),(2,.v (.int .i64 0)),(3,.v (.int .i64 ((N:Int) - 1))),(9,.own 0),(10,.v (.int .i64 (q.1.length:Nat)))],[(0,.row 9 1 (css q.1 (N - q.1.length)))],1⟩,
  fun q H'=>Le H H'∧spl s=q.1++spl q.2∧q.2.length≤s.length,fun q=>q.2.length,⟨([],s),[(0,0)],?_,Le.refl H,rfl,Nat.le_refl _⟩,?_⟩
 ·have e0:List.replicate (min (((s.count 10:Nat):Int)+1) ((s.length:Int)+1)).toNat [Value.string (bs [])]=css [] (N - 0):=by
   have:(min (((s.count 10:Nat):Int)+1) ((s.length:Int)+1)).toNat=N - 0:=by omega
   rw[this,hcss];rfl
  exact⟨⟨rfl,rfl,rfl,eNm,rfl,rfl,trivial⟩,⟨e0,trivial⟩⟩
 rintro⟨P,r⟩ H1 _ ⟨hle,hsp,hr⟩;dsimp only at hsp hr;have hlen:=congrArg List.length hsp;have hrl:=spl_len r;rw[List.length_append]at hlen;refine⟨fun h=>?_,fun h=>?_⟩
 ·have h:(P.length:Int)<(N:Int) - 1:=dt h
  have hpos:0<r.count 10:=by omega
  obtain⟨x,y,e1,e2,e3⟩:=idx_split r hpos;refine lf_sindex ?_;rw[e3];refine⟨fun h1=>absurd (dt h1) (by omega),fun _=>?_⟩
  have hlr:r.length=x.length+(y.length+1):=by rw[e1];simp
  have esr:(sl (bs r)).length=r.length:=rfl;have es1:(sl (bs [10])).length=1:=rfl
  have hcl:(css P (N - P.length)).length=N:=by rw[hcss];simp;omega
  refine⟨⟨by omega,by omega⟩,?_⟩;refine⟨⟨by omega,by omega,by dsimp only;omega⟩,?_⟩;refine⟨⟨by omega,by dsimp only;omega⟩,?_⟩
  have hx:(css P (N - P.length))[P.length]?=some [.string (bs [])]:=by
   rw[hcss];dsimp only;rw[List.getElem?_append_right (by simp)];rw[List.length_map,Nat.sub_self,List.getElem?_replicate,if_pos (by omega)]
  refine⟨_,hx,?_⟩;refine⟨⟨by omega,by omega⟩,?_⟩;refine⟨⟨by omega,by show ((x.length:Int)+((sl (bs [10])).length:Int))≤(r.length:Int);omega,Int.le_refl _⟩,?_⟩;refine⟨show -9223372036854775808≤(P.length:Int)+1∧(P.length:Int)+1≤9223372036854775807 by omega,?_⟩
  have e4:List.drop ((x.length:Int)+((sl (bs [10])).length:Int)).toNat (List.take ((r.length:Nat):Int).toNat r)=y:=by
   have h1:((x.length:Int)+((sl (bs [10])).length:Int)).toNat=x.length+1:=by omega
   rw[h1,Int.toNat_natCast,List.take_length,e1,List.drop_append];simp
  have e5:List.drop (Int.toNat 0) (List.take ((x.length:Int)+0).toNat r)=x:=by
   rw[Int.add_zero,Int.toNat_natCast,e1];simp
  have e6:(css P (N - P.length)).set P.length [.string (bs x)]=css (P++[⟨x⟩]) (N - (P++[(⟨x⟩:Str)]).length):=by
   have h1:N - P.length=(N - (P++[(⟨x⟩:Str)]).length)+1:=by rw[List.length_append,List.length_singleton];omega
   rw[h1,hcss];dsimp only;rw[List.set_append_right _ _ (by simp),List.length_map,Nat.sub_self,List.replicate_succ,List.set_cons_zero,List.map_append,List.append_assoc]
   rfl
  have e7:SV.v (.string (bs (List.drop ((x.length:Int)+((sl (bs [10])).length:Int)).toNat (List.take ((r.length:Nat):Int).toNat r))))=SV.v (.string (bs y)):=by rw[e4]
  have e8:SV.v (.int .i64 ((P.length:Int)+1))=SV.v (.int .i64 ((P++[(⟨x⟩:Str)]).length:Nat)):=by rw[List.length_append,List.length_singleton];simp
  refine⟨(P++[⟨x⟩],y),[(0,0)],?_,⟨hle,?_,?_⟩,?_⟩
  ·refine⟨⟨e7,rfl,rfl,rfl,rfl,e8,trivial⟩,⟨?_,trivial⟩⟩;exact (congrArg (fun z=>(css P (N - P.length)).set P.length [Value.string (bs z)]) e5).trans e6
  ·dsimp only;rw[hsp,e1,spl_line _ _ e2];simp
  ·dsimp only;omega
  ·dsimp only;omega
 ·have h:¬(P.length:Int)<(N:Int) - 1:=df h
  have hpos:r.count 10=0:=by omega
  have hfr:=free_none hpos
  have hNP:N=P.length+1:=by omega
  rw[spl_free r hfr]at hsp
  have hx:(css P (N - P.length))[P.length]?=some [.string (bs [])]:=by
   rw[hcss];dsimp only;rw[List.getElem?_append_right (by simp)];rw[List.length_map,Nat.sub_self,List.getElem?_replicate,if_pos (by omega)]
  have hcl:(css P (N - P.length)).length=N:=by rw[hcss];simp;omega
  have e6:(css P (N - P.length)).set P.length [.string (bs r)]=(spl s).map strC:=by
   have h1:N - P.length=0+1:=by omega
   rw[h1,hcss,hsp];dsimp only;rw[List.set_append_right _ _ (by simp),List.length_map,Nat.sub_self,List.replicate_succ,List.set_cons_zero,List.map_append]
   rfl
  refine⟨⟨by omega,by show (P.length:Int)<((css P (N - P.length)).length:Int);omega⟩,?_⟩;refine⟨_,hx,?_⟩;refine⟨show -9223372036854775808≤(P.length:Int)+1∧(P.length:Int)+1≤9223372036854775807 by omega,?_⟩
  have e9:((css P (N - P.length)).set P.length [.string (bs r)]).take ((P.length:Int)+1).toNat=(spl s).map strC:=by
   have h1:((P.length:Int)+1).toNat=((spl s).map strC).length:=by rw[List.length_map,←eN];omega
   rw[e6,h1,List.take_length]
  refine .inl ⟨⟨by omega,by show (P.length:Int)+1≤((((css P (N - P.length)).set P.length [.string (bs r)]).length:Nat):Int);rw[List.length_set];omega⟩,?_⟩;intro x H2 hle2 hx;have hrc:=rc_strs (l:=spl s) (H:=H2) (fun p hp=>by have:=spl_le s p hp;omega);have hx2:RowAt H2 x 1 (((css P (N - P.length)).set P.length [.string (bs r)]).take ((P.length:Int)+1).toNat):=hx;rw[e9]at hx2;obtain⟨a,n1,c1,e,hr⟩:=RL.of_row (α:=Str) hx2 hrc;have h9:=hK a n1 c1 H2 (hle.trans hle2) hr;rw[←e]at h9;exact h9
theorem split_spec {s:List UInt8} {H:Hp} {K:Value→Hp→Prop} (hs:s.length≤1000000)
  (hK:∀a n c H',Le H H'→RL H' a n c (spl s)→K (.slice a n c) H'):Does Tryd.prog 17 [.string (bs s),.string (bs [10])] H K:=by
 refine spec_of cx_ok cx_mix rfl Tryd.func17 Tryd.call17 Tryd.ntmps17 Tryd.results17 rfl rfl ?_
 refine gensplit_spec hs fun a n c H' hle hr=>?_
 exact hK a n c H' hle hr
end Go.Proofs
end
section
namespace Go.Proofs
open Go.Sy
open Go.RowKit (Below)
set_option maxRecDepth 20000
theorem cutP_eq:∀h s:List UInt8,cutP h s=if s.take h.length=h then some (s.drop h.length) else none
 | [],s=>by rw[cutP];simp
 | a::h,[]=>by rw[cutP];simp
 | a::h,b::s=>by
  rw[cutP,cutP_eq h s]
  by_cases e:a=b
  ·subst e;simp
  ·rw[if_neg e,if_neg (fun e1=>e (by simp only[List.length_cons,List.take_succ_cons,List.cons.injEq]at e1;exact e1.1.symm))]
theorem hasprefix_spec {s h:List UInt8} (h1:s.length≤1000000000) (h2:h.length≤1000000000) {H:Hp} {K:Value→Hp→Prop}
  (hK:K (.bool (cutP h s).isSome) H):Does Tryd.prog 60 [.string (bs s),.string (bs h)] H K:=by
 have e1:(sl (bs s)).length=s.length:=rfl;have e2:(sl (bs h)).length=h.length:=rfl;refine spec_of cx_ok cx_mix rfl Tryd.func60 Tryd.call60 Tryd.ntmps60 Tryd.results60 rfl rfl ?_;refine⟨fun h3=>?_,fun h3=>?_⟩
 ·have h3:=dt h3;refine⟨⟨by omega,by omega,by omega⟩,?_⟩;refine kbool hK ?_
  have e3:((((sl (bs h)).length:Nat):Int)).toNat=h.length:=by rw[Int.toNat_natCast];rfl
  show _=decide (List.drop (Int.toNat 0) (List.take ((((sl (bs h)).length:Nat):Int)).toNat s)=h);rw[e3,cutP_eq]
  by_cases e:s.take h.length=h
  ·rw[if_pos e];simp [e]
  ·rw[if_neg e];simp [e]
 ·have h3:=df h3;refine kbool (a:=(cutP h s).isSome) hK ?_;rw[cutP_eq,if_neg (fun e=>by have:=congrArg List.length e;simp at this;omega)]
  rfl
theorem slcut_spec {s h:List UInt8} (h1:s.length≤1000000000) (h2:h.length≤1000000000) {H:Hp} {K:Value→Hp→Prop}
  (hK:K (.tuple #[.string (bs ((cutP h s).getD s)),.bool (cutP h s).isSome]) H):Does Tryd.prog 40 [.string (bs s),.string (bs h)] H K:=by
 refine spec_of cx_ok cx_mix rfl Tryd.func40 Tryd.call40 Tryd.ntmps40 Tryd.results40 rfl rfl ?_;refine hasprefix_spec h1 h2 ?_;refine⟨fun h3=>?_,fun h3=>?_⟩
 ·have e:cutP h s=none:=by
   cases e:cutP h s with
   | none=>rfl
   | some y=>rw[e]at h3;simp at h3
  rw[e]at hK;exact hK
 ·obtain⟨y,e⟩:∃y,cutP h s=some y:=by
   cases e:cutP h s with
   | none=>rw[e]at h3;simp at h3
   | some y=>exact⟨y,rfl⟩
  have e1:=cutP_some e
  have hl:s.length=h.length+y.length:=by rw[e1];simp
  refine⟨⟨by omega,by show ((h.length:Nat):Int)≤((s.length:Nat):Int);omega,Int.le_refl _⟩,?_⟩;rw[e]at hK
  have e4:List.drop (((h.length:Nat):Int)).toNat (List.take (((s.length:Nat):Int)).toNat s)=y:=by
   rw[Int.toNat_natCast,Int.toNat_natCast,List.take_length,e1];simp
  have e5:Value.tuple #[.string (bs (List.drop (((h.length:Nat):Int)).toNat (List.take (((s.length:Nat):Int)).toNat s))),.bool true] = .tuple #[.string (bs ((some y).getD s)),.bool (some y).isSome]:=by rw[e4];rfl
  rw[←e5]at hK;exact hK
theorem cutprefix_spec {s h:List UInt8} (h1:s.length≤1000000000) (h2:h.length≤1000000000) {H:Hp} {K:Value→Hp→Prop}
  (hK:K (.tuple #[.string (bs ((cutP h s).getD s)),.bool (cutP h s).isSome]) H):Does Tryd.prog 18 [.string (bs s),.string (bs h)] H K:=by
 refine spec_of cx_ok cx_mix rfl Tryd.func18 Tryd.call18 Tryd.ntmps18 Tryd.results18 rfl rfl ?_;refine slcut_spec h1 h2 ?_;exact hK
end Go.Proofs
end
section
namespace Go.Proofs
open Go.Sy
open Go.RowKit (Below)
set_option maxRecDepth 20000
theorem rl_tl {x:Str} {l:List Str} {a:Option Addr} {n c:Nat} {H:Hp} (h:RL H a n c (x::l)):RL H (cutA a 1 c 1) (n - 1) (c - 1) l:=by
 have hn:=h.n_eq;rw[List.length_cons]at hn;have h1:=h.cut (l:=1) (k:=n) (by omega) (Nat.le_refl _)
 have e:((x::l).take n).drop 1=l:=by rw[hn,List.take_succ_cons,List.drop_succ_cons,List.drop_zero,List.take_length]
 rw[e]at h1;exact h1
theorem tkn_nil (h:List UInt8):tkn h []=([],[]):=rfl
theorem tkn_none {h:List UInt8} {x:Str} {l:List Str} (e:cutP h x.l=none):tkn h (x::l)=([],x::l):=by rw[tkn,e]
theorem tkn_some {h:List UInt8} {x:Str} {l:List Str} {y:List UInt8} (e:cutP h x.l=some y):tkn h (x::l)=(⟨y⟩::(tkn h l).1,(tkn h l).2):=by rw[tkn,e]
theorem fin1 {h:List UInt8} {q l:List Str} {a:Option Addr} {n c:Nat} {H:Hp} {K:Value→Hp→Prop} (hr:RL H a n c q) (htk:tkn h l=([],q))
  (hK:∀a1 n1 c1 a2 n2 c2 H',Le H H'→RL H' a1 n1 c1 (tkn h l).1→RL H' a2 n2 c2 (tkn h l).2→K (.tuple #[.slice a1 n1 c1,.slice a2 n2 c2]) H'):∀a1,K (.tuple #[.slice a1 0 0,.slice a n c]) H:=by
 intro a1;rw[htk]at hK;exact hK a1 0 0 a n c H (Le.refl H) ⟨rfl,Nat.le_refl _,Nat.zero_le _,.inl rfl⟩ hr
theorem fin2 {h:List UInt8} {D q l:List Str} {L:List (List Value)} {a a1:Option Addr} {n c n1 c1:Nat} {H H1 H2:Hp} {K:Value→Hp→Prop} (hr:RL H1 a n c q) (htk:tkn h l=(D,q)) (hD:∀z∈D,z.l.length≤1000000000)
  (hle:Le H H1) (hle2:Le H1 H2) (hw:RowAt H2 (.slice a1 n1 c1) 1 L) (hL:L=D.map strC)
  (hK:∀a1 n1 c1 a2 n2 c2 H',Le H H'→RL H' a1 n1 c1 (tkn h l).1→RL H' a2 n2 c2 (tkn h l).2→K (.tuple #[.slice a1 n1 c1,.slice a2 n2 c2]) H'):K (.tuple #[.slice a1 n1 c1,.slice a n c]) H2:=by
 rw[htk]at hK;rw[hL]at hw;obtain⟨a3,n3,c3,e,hr3⟩:=RL.of_row (α:=Str) hw (rc_strs (l:=D) (H:=H2) fun p hp=>by have:=hD p hp;omega);cases e;exact hK _ _ _ a n c H2 (hle.trans hle2) hr3 (hr.up hle2)
theorem taken_spec {h:List UInt8} {l:List Str} {a:Option Addr} {n c:Nat} {H:Hp} {K:Value→Hp→Prop} (hhl:h.length≤1000000000) (hll:l.length≤1000000) (hl:∀x∈l,x.l.length≤1000000000) (ha:RL H a n c l)
  (hK:∀a1 n1 c1 a2 n2 c2 H',Le H H'→RL H' a1 n1 c1 (tkn h l).1→RL H' a2 n2 c2 (tkn h l).2→K (.tuple #[.slice a1 n1 c1,.slice a2 n2 c2]) H'):Does Tryd.prog 20 [.slice a n c,.string (bs h)] H K:=by
 refine spec_of cx_ok cx_mix rfl Tryd.func20 Tryd.call20 Tryd.ntmps20 Tryd.results20 rfl rfl ?_
 refine .inr ⟨List Str×List Str×(Option Addr×Nat×Nat),fun _=>0,fun z=>⟨[(0,.v (.slice z.2.2.1 z.2.2.2.1 z.2.2.2.2)),(1,.v (.string (bs h))),(6,.own 0)],[(0,.row 9 1 (z.1.map strC))],1⟩,
  fun z H'=>Le H H'∧RL H' z.2.2.1 z.2.2.2.1 z.2.2.2.2 z.2.1∧(∀x∈z.2.1,x.l.length≤1000000000)∧(∀x∈z.1,x.l.length≤1000000000)∧z.1.length+z.2.1.length≤l.length∧tkn h l=(z.1++(tkn h z.2.1).1,(tkn h z.2.1).2),fun z=>z.2.1.length,?_,?_⟩
 ·obtain⟨n1,en1⟩:∃n1,n1=n:=⟨_,rfl⟩
  rw[←en1]at ha ⊢
  obtain⟨q,eq⟩:∃q,q=l:=⟨_,rfl⟩
  have htk:tkn h l=([]++(tkn h q).1,(tkn h q).2):=by rw[eq];rfl
  have hq:=hl;have hr:=ha
  have hD:∀z∈([]:List Str),z.l.length≤1000000000:=fun z hz=>by simp at hz
  have hql:([]:List Str).length+q.length≤l.length:=by rw[eq];simp
  rw[←eq]at hq hr;clear eq
  match q,hr,hq,hql,htk with
  | [],hr,hq,hql,htk =>
   have hn0:n1=0:=hr.n_eq;refine⟨fun h3=>absurd (show (0:Int)<(n1:Int) from dt h3) (by omega),fun _=>?_⟩;rw[tkn_nil,List.append_nil]at htk
   (refine⟨⟨by decide,by decide,by decide,by decide⟩,?_⟩;exact fin1 hr htk hK _)
  | x::q,hr,hq,hql,htk =>
   have hn1:=hr.n_eq;rw[List.length_cons]at hn1 hql;have hmx:=hr.le;refine⟨fun h3=>?_,fun h3=>absurd (show (0:Int)<(n1:Int) by omega) (df h3)⟩;have hx:(x::q)[0]?=some x:=rfl;obtain⟨ad,cs,e1,hh,r1⟩:=hr.elem hx;rw[str_open' r1]at hh;refine⟨ad,⟨by omega,by show (0:Int)<(n1:Int);omega,e1⟩,?_⟩;refine⟨_,hh,?_⟩;have hxl:=hq x (List.mem_cons_self ..);refine cutprefix_spec hxl hhl ?_
   cases e:cutP h x.l with
   | none =>
    refine⟨fun h4=>absurd h4 (by simp),fun _=>?_⟩;rw[tkn_none e,List.append_nil]at htk
    (refine⟨⟨by decide,by decide,by decide,by decide⟩,?_⟩;exact fin1 hr htk hK _)
   | some y =>
    have hyl:y.length≤1000000000:=by have:=congrArg List.length (cutP_some e);rw[List.length_append]at this;omega
    refine⟨fun _=>?_,fun h4=>absurd h4 (by simp)⟩;refine⟨some ([],[4,5,0,1,2,3,6,7]),by kernel_rfl,?_⟩;refine⟨⟨by omega,by show (1:Int)≤(n1:Int);omega,by show (n1:Int)≤(n1:Int);omega,by show n1≤c;exact hr.2.1⟩,?_⟩;refine⟨⟨by show 1*16≤_;decide,by show 1≤_;decide⟩,?_⟩;refine⟨(([]:List Str)++[⟨y⟩],q,(cutA a 1 c 1,n1 - 1,c - 1)),[(0,1)],rfl,?_,⟨Le.refl H,rl_tl hr,fun z hz=>hq z (List.mem_cons_of_mem _ hz),fun z hz=>?_,?_,?_⟩⟩
    ·exact⟨⟨rfl,rfl,rfl,trivial⟩,⟨rfl,trivial⟩⟩
    ·rcases List.mem_append.1 hz with hz | hz
     ·exact hD z hz
     ·rw[List.mem_singleton]at hz;rw[hz];exact hyl
    ·show (([]:List Str)++[(⟨y⟩:Str)]).length+q.length≤l.length
     rw[List.length_append,List.length_singleton];omega
    ·rw[htk,tkn_some e];simp
 ·rintro⟨D,q,⟨a,n1,c⟩⟩ H1 hle0 ⟨hle,hr,hq,hD,hql,htk⟩;dsimp only at hr hq hD hql htk
  match q,hr,hq,hql,htk with
  | [],hr,hq,hql,htk =>
   have hn0:n1=0:=hr.n_eq;refine⟨fun h3=>absurd (show (0:Int)<(n1:Int) from dt h3) (by omega),fun _=>?_⟩;rw[tkn_nil,List.append_nil]at htk
   (refine .inl ⟨⟨Int.le_refl _,Int.natCast_nonneg _,Int.le_refl _,Int.le_refl _⟩,fun a1 y1 H2 hle2 hv hw=>?_⟩;refine fin2 hr htk hD hle hle2 hw (by have e:(D.map strC).take D.length=D.map strC:=List.take_of_length_le (by simp);simpa using e) hK)
  | x::q,hr,hq,hql,htk =>
   have hn1:=hr.n_eq;rw[List.length_cons]at hn1 hql;have hmx:=hr.le;refine⟨fun h3=>?_,fun h3=>absurd (show (0:Int)<(n1:Int) by omega) (df h3)⟩;have hx:(x::q)[0]?=some x:=rfl;obtain⟨ad,cs,e1,hh,r1⟩:=hr.elem hx;rw[str_open' r1]at hh;refine⟨ad,⟨by omega,by show (0:Int)<(n1:Int);omega,e1⟩,?_⟩;refine⟨_,hh,?_⟩;have hxl:=hq x (List.mem_cons_self ..);refine cutprefix_spec hxl hhl ?_
   cases e:cutP h x.l with
   | none =>
    refine⟨fun h4=>absurd h4 (by simp),fun _=>?_⟩;rw[tkn_none e,List.append_nil]at htk
    (refine .inl ⟨⟨Int.le_refl _,Int.natCast_nonneg _,Int.le_refl _,Int.le_refl _⟩,fun a1 y1 H2 hle2 hv hw=>?_⟩;refine fin2 hr htk hD hle hle2 hw (by have e:(D.map strC).take D.length=D.map strC:=List.take_of_length_le (by simp);simpa using e) hK)
   | some y =>
    have hyl:y.length≤1000000000:=by have:=congrArg List.length (cutP_some e);rw[List.length_append]at this;omega
    refine⟨fun _=>?_,fun h4=>absurd h4 (by simp)⟩;refine⟨some ([0],[4,5,0,1,2,3,6,7]),by kernel_rfl,?_⟩;refine⟨⟨by omega,by show (1:Int)≤(n1:Int);omega,by show (n1:Int)≤(n1:Int);omega,by show n1≤c;exact hr.2.1⟩,?_⟩;refine⟨⟨by show ((D.map strC).length+1)*16≤_;rw[List.length_map];omega,by show (D.map strC).length+1≤_;rw[List.length_map];omega⟩,?_⟩;refine⟨(D++[⟨y⟩],q,(cutA a 1 c 1,n1 - 1,c - 1)),[(0,2)],rfl,?_,⟨hle,rl_tl hr,fun z hz=>hq z (List.mem_cons_of_mem _ hz),fun z hz=>?_,?_,?_⟩,by dsimp only;rw[List.length_cons];omega⟩
    ·exact⟨⟨rfl,rfl,rfl,trivial⟩,⟨by rw[List.map_append];rfl,trivial⟩⟩
    ·rcases List.mem_append.1 hz with hz | hz
     ·exact hD z hz
     ·rw[List.mem_singleton]at hz;rw[hz];exact hyl
    ·show (D++[(⟨y⟩:Str)]).length+q.length≤l.length
     rw[List.length_append,List.length_singleton];omega
    ·rw[htk,tkn_some e];simp
end Go.Proofs
end
section
namespace Go.Proofs
open Go.Sy
open Go.RowKit (Below)
set_option maxRecDepth 20000
theorem tkn_mem (h:List UInt8):∀(l:List Str) (z:Str),z∈(tkn h l).2→z∈l
 | [],z,hz=>hz
 | x::l,z,hz=>by
  rw[tkn]at hz;split at hz
  ·exact List.mem_cons_of_mem _ (tkn_mem h l z hz)
  ·exact hz
theorem text_spec2 {r:Report} {H:Hp} {cs:List Value} {K:Value→Hp→Prop} (ha:Enc.R H cs r) (hs:(rowsT r.2).length≤20000)
  (hbad:rightB r=false→∀H',Le H H'→K (.tuple #[.string (bs []),.int .i64 12]) H')
  (hgood:rightB r=true→∀H',Le H H'→K (.tuple #[.string (bs (textT r)),.int .i64 0]) H'):Does Tryd.prog 11 [.agg cs.toArray] H K:=by
 refine text_spec ha hs fun H' hle=>?_
 cases h:rightB r with
 | false=>exact hbad h H' hle
 | true=>exact hgood h H' hle
theorem parse_spec {s:List UInt8} {H:Hp} {K:Value→Hp→Prop} (hs:s.length≤100000) (hr:(rowsT (prs s).2).length≤20000)
  (hbad:¬(rightB (prs s)=true∧textT (prs s)=s)→∀H',Le H H'→K (.tuple #[.agg #[.int .i64 0,.slice none 0 0],.int .i64 12]) H')
  (hK:rightB (prs s)=true→textT (prs s)=s→∀a n c H',Le H H'→RL H' a n c (prs s).2→K (.tuple #[.agg #[.int .i64 (prs s).1,.slice a n c],.int .i64 0]) H'):Does Tryd.prog 7 [.string (bs s)] H K:=by
 obtain⟨x0,l0,e0⟩:∃x0 l0,spl s=x0::l0:=by
  cases h:spl s with
  | nil=>exact absurd h (spl_ne s)
  | cons x l=>exact⟨x,l,rfl⟩
 have hprs:prs s=(kindOf ((cutP repH x0.l).getD x0.l),(rws l0).1):=by rw[prs,e0]
 have hl:=spl_le s;rw[e0]at hl;have hc:s.count 10≤s.length:=List.count_le_length;have hsl:=spl_len s;rw[e0,List.length_cons]at hsl;have hx0:=hl x0 (List.mem_cons_self ..);refine spec_of cx_ok cx_mix rfl Tryd.func7 Tryd.call7 Tryd.ntmps7 Tryd.results7 rfl rfl ?_;refine .inl ⟨0,?_⟩
 refine split_spec (by omega) fun a n c H1 hle1 hr1=>?_
 rw[e0]at hr1;have hn:=hr1.n_eq;rw[List.length_cons]at hn;obtain⟨ad,cs,e1,hh,r1⟩:=hr1.elem (i:=0) (x:=x0) rfl;rw[str_open' r1]at hh;refine⟨ad,⟨by omega,by omega,e1⟩,?_⟩;refine⟨_,hh,?_⟩;refine cutprefix_spec (h:=repH) (by omega) (by decide) ?_
 refine kind_spec fun H2 hle2=>?_
 refine⟨⟨by decide,by omega,by omega,hr1.2.1⟩,?_⟩
 obtain⟨kd,ekd⟩:∃kd,kd=kindOf ((cutP repH x0.l).getD x0.l):=⟨_,rfl⟩
 rw[←ekd]
 have hkd : -9223372036854775808≤kd∧kd≤9223372036854775807:=by
  rw[ekd];unfold kindOf
  constructor<;>(repeat' split)<;>decide
 refine⟨List Row×List (List Value)×List Str×(Option Addr×Nat×Nat),fun z=>⟨[(0,.v (.string (bs s))),(2,.ptr 0 0),(4,.ptr 1 0),(5,.v (.slice z.2.2.2.1 z.2.2.2.2.1 z.2.2.2.2.2))],
   [(0,.cells 25 [.v (.int .i64 0),.v (.slice none 0 0)]),(1,.cells 25 [.v (.int .i64 kd),.own 2]),(2,.row 44 3 z.2.1)],3⟩,
  fun z H'=>Le H H'∧RL H' z.2.2.2.1 z.2.2.2.2.1 z.2.2.2.2.2 z.2.2.1∧RC H' z.2.1 z.1∧(∀x∈z.2.2.1,x.l.length≤s.length)∧z.1.length+z.2.2.1.length≤l0.length∧rws l0=(z.1++(rws z.2.2.1).1,(rws z.2.2.1).2),fun z=>z.2.2.1.length,
  ⟨([],[],l0,(cutA a 1 c 1,n - 1,c - 1)),[(0,0),(1,1)],?_,hle1,rl_tl hr1,RC.nil,fun x hx=>hl x (List.mem_cons_of_mem _ hx),by simp,rfl⟩,?_⟩
 ·exact⟨⟨rfl,⟨rfl,rfl⟩,⟨rfl,rfl⟩,rfl,trivial⟩,⟨⟨rfl,rfl,trivial⟩,⟨rfl,⟨rfl,rfl,rfl⟩,trivial⟩,rfl,trivial⟩⟩
 rintro⟨R,L,q,⟨a,n1,c⟩⟩ H3 _ ⟨hle,hrq,hrc,hq,hql,hrw⟩;dsimp only at hrq hrc hq hql hrw
 match q,hrq,hq,hql,hrw with
 | [],hrq,hq,hql,hrw =>
  have hn0:n1=0:=hrq.n_eq;refine⟨fun h3=>absurd (show (0:Int)<(n1:Int) from dt h3) (by omega),fun _=>?_⟩;rw[rws_nil,List.append_nil]at hrw;intro x5 H5 hle5 hx5;obtain⟨a5,n5,c5,e5,hr5⟩:=RL.of_row (α:=Row) hx5 (hrc.up (by first | exact hle5 | exact hle5.le));subst e5
  have hps:prs s=(kd,R):=by rw[hprs,hrw,ekd]
  have hrep:Enc.R H5 [.int .i64 kd,.slice a5 n5 c5] ((kd,R):Report):=⟨[_],[_],rfl,⟨rfl,hkd⟩,⟨a5,n5,c5,rfl,hr5⟩⟩
  rw[hps]at hr hbad hK;refine text_spec2 hrep hr (fun hrb H6 hle6=>?_) (fun hrb H6 hle6=>?_)
  ·refine⟨fun h=>absurd h (by decide),fun _=>?_⟩;exact hbad (fun h=>by rw[hrb]at h;exact absurd h.1 (by decide)) _ (by first | exact hle | exact hle.trans hle5.le)
  ·refine⟨fun _=>?_,fun h=>absurd h (by decide)⟩;refine⟨fun h=>?_,fun h=>?_⟩
   ·exact hbad (fun h2=>nt h h2.2) _ (by first | exact hle | exact hle.trans hle5.le)
   ·intro x6 H6 hle6 hx6
    have hle7:Le H3 H6:=by first | exact hle6 | exact hle6.le
    obtain⟨a6,n6,c6,e6,hr6⟩:=RL.of_row (α:=Row) hx6 (hrc.up hle7);subst e6;exact hK hrb (nf h) a6 n6 c6 _ (hle.trans hle7) hr6
 | x::q,hrq,hq,hql,hrw =>
  have hn1:=hrq.n_eq;rw[List.length_cons]at hn1 hql;have hmx:=hrq.le;refine⟨fun h3=>?_,fun h3=>absurd (show (0:Int)<(n1:Int) by omega) (df h3)⟩;obtain⟨ad,cs,e1,hh,r1⟩:=hrq.elem (i:=0) (x:=x) rfl;rw[str_open' r1]at hh;refine⟨ad,⟨by omega,by show (0:Int)<(n1:Int);omega,e1⟩,?_⟩;refine⟨_,hh,?_⟩;have hxl:=hq x (List.mem_cons_self ..);refine cutprefix_spec (h:=blkH) (by omega) (by decide) ?_
  cases e:cutP blkH x.l with
  | none =>
   refine⟨fun _=>?_,fun h4=>absurd h4 (by simp)⟩;rw[rws_none e,List.append_nil]at hrw;intro x5 H5 hle5 hx5;obtain⟨a5,n5,c5,e5,hr5⟩:=RL.of_row (α:=Row) hx5 (hrc.up (by first | exact hle5 | exact hle5.le));subst e5
   have hps:prs s=(kd,R):=by rw[hprs,hrw,ekd]
   have hrep:Enc.R H5 [.int .i64 kd,.slice a5 n5 c5] ((kd,R):Report):=⟨[_],[_],rfl,⟨rfl,hkd⟩,⟨a5,n5,c5,rfl,hr5⟩⟩
   rw[hps]at hr hbad hK;refine text_spec2 hrep hr (fun hrb H6 hle6=>?_) (fun hrb H6 hle6=>?_)
   ·refine⟨fun h=>absurd h (by decide),fun _=>?_⟩;exact hbad (fun h=>by rw[hrb]at h;exact absurd h.1 (by decide)) _ (by first | exact hle | exact hle.trans hle5.le)
   ·refine⟨fun _=>?_,fun h=>absurd h (by decide)⟩;refine⟨fun h=>?_,fun h=>?_⟩
    ·exact hbad (fun h2=>nt h h2.2) _ (by first | exact hle | exact hle.trans hle5.le)
    ·intro x6 H6 hle6 hx6
     have hle7:Le H3 H6:=by first | exact hle6 | exact hle6.le
     obtain⟨a6,n6,c6,e6,hr6⟩:=RL.of_row (α:=Row) hx6 (hrc.up hle7);subst e6;exact hK hrb (nf h) a6 n6 c6 _ (hle.trans hle7) hr6
  | some y =>
   have hyl:y.length≤x.l.length:=by have:=congrArg List.length (cutP_some e);rw[List.length_append]at this;omega
   refine⟨fun h4=>absurd h4 (by simp),fun _=>?_⟩;refine⟨⟨by omega,by show (1:Int)≤(n1:Int);omega,by show (n1:Int)≤(n1:Int);omega,by show n1≤c;exact hrq.2.1⟩,?_⟩
   refine taken_spec (h:=inH) (l:=q) (by decide) (by omega) (fun z hz=>by have:=hq z (List.mem_cons_of_mem _ hz);omega) (rl_tl hrq) fun a3 n3 c3 a4 n4 c4 H4 hle4 hr3 hr4=>?_
   have ht1:=tkn_len inH q
   refine taken_spec (h:=outH) (l:=(tkn inH q).2) (by decide) (by omega) (fun z hz=>?_) hr4 fun a5 n5 c5 a6 n6 c6 H5 hle5 hr5 hr6=>?_
   ·have:=hq z (List.mem_cons_of_mem _ (tkn_mem inH _ _ hz));omega
   have ht2:=tkn_len outH (tkn inH q).2
   have hrow:Enc.R H5 [.string (bs y),.slice a3 n3 c3,.slice a5 n5 c5] ((⟨y⟩,(tkn inH q).1,(tkn outH (tkn inH q).2).1):Row) :=
    ⟨[_],[_,_],rfl,⟨rfl,by show y.length≤_;omega⟩,[_],[_],rfl,⟨a3,n3,c3,rfl,hr3.up hle5⟩,⟨a5,n5,c5,rfl,hr5⟩⟩
   have hLR:L.length=R.length:=hrc.1;refine⟨⟨by show (L.length+1)*64≤_;omega,by show L.length+1≤_;omega⟩,?_⟩
   refine⟨(R++[(⟨y⟩,(tkn inH q).1,(tkn outH (tkn inH q).2).1)],L++[[.string (bs y),.slice a3 n3 c3,.slice a5 n5 c5]],(tkn outH (tkn inH q).2).2,(a6,n6,c6)),[(0,0),(1,1),(2,5)],?_,
    ⟨hle.trans (hle4.trans hle5),hr6,(hrc.up (hle4.trans hle5)).snoc hrow,fun z hz=>?_,?_,?_⟩,?_⟩
   ·exact⟨⟨rfl,⟨rfl,rfl⟩,⟨rfl,rfl⟩,rfl,trivial⟩,⟨⟨rfl,rfl,trivial⟩,⟨rfl,rfl,trivial⟩,rfl,trivial⟩⟩
   ·exact hq z (List.mem_cons_of_mem _ (tkn_mem inH _ _ (tkn_mem outH _ _ hz)))
   ·dsimp only;rw[List.length_append,List.length_singleton];omega
   ·dsimp only;rw[hrw,rws_some e];simp
   ·dsimp only;rw[List.length_cons];omega
end Go.Proofs
end
section
namespace Go.Proofs
open Go.Sy
open Go.RowKit (Below)
set_option maxRecDepth 20000
theorem nm_free {s:List UInt8} (h:nmB s=true):free s:=fun c hc e=>by
 unfold nmB at h;simp only[Bool.and_eq_true]at h;have:=List.all_eq_true.1 h.2 c hc;rw[e]at this;exact absurd this (by decide)
theorem pr_free {s:List UInt8} (h:prB s=true):free s:=fun c hc e=>by
 unfold prB at h;simp only[Bool.and_eq_true]at h;have:=List.all_eq_true.1 h.1 c hc;rw[e]at this;exact absurd this (by decide)
theorem right_free {r:Report} (h:rightB r=true):nameOf r.1≠[]∧∀x∈r.2,freeR x:=by
 unfold rightB at h;simp only[Bool.and_eq_true,decide_eq_true_eq]at h;refine⟨h.1,fun x hx=>?_⟩;have h2:=h.2;rw[Bool.not_eq_true',List.any_eq_false]at h2;have h3:=h2 x hx;unfold rowBad at h3;simp only[Bool.or_eq_true,not_or,Bool.not_eq_true',Bool.not_eq_false,Bool.not_eq_true,List.any_eq_false]at h3
 have hw:∀l:List Str,(∀w∈l,badS w=false)→∀w∈l,free w.l:=fun l hl w hw=>pr_free (by have:=hl w hw;unfold badS at this;simpa using this)
 exact⟨nm_free h3.1.1,hw _ h3.1.2,hw _ h3.2⟩
theorem prs_right {r:Report} (h:rightB r=true):prs (textT r)=r:=prs_text (right_free h).1 (right_free h).2
end Go.Proofs
end
section
namespace Go.Proofs
open Go.Sy
open Go.RowKit (Below)
set_option maxRecDepth 20000
theorem head_spec {s h:List UInt8} (h1:s.length≤1000000000) (h2:h.length≤1000000000) {H:Hp} {K:Value→Hp→Prop}
  (hK:K (.tuple #[.string (bs ((cutP h s).getD [])),.bool (cutP h s).isSome]) H):Does Tryd.prog 22 [.string (bs s),.string (bs h)] H K:=by
 have e1:(sl (bs s)).length=s.length:=rfl;have e2:(sl (bs h)).length=h.length:=rfl
 have hno:s.take h.length≠h→cutP h s=none:=fun e=>by rw[cutP_eq,if_neg e]
 refine spec_of cx_ok cx_mix rfl Tryd.func22 Tryd.call22 Tryd.ntmps22 Tryd.results22 rfl rfl ?_
 have e3:List.drop (Int.toNat 0) (List.take ((((sl (bs h)).length:Nat):Int)).toNat s)=s.take h.length:=by rw[Int.toNat_natCast];rfl
 refine⟨fun h3=>?_,fun h3=>?_⟩
 ·have h3:=df h3;refine⟨⟨by omega,by omega,by omega⟩,?_⟩;refine⟨fun h4=>?_,fun h4=>?_⟩
  ·have h4:¬List.drop (Int.toNat 0) (List.take ((((sl (bs h)).length:Nat):Int)).toNat s)=h:=nt h4;rw[e3]at h4;rw[hno h4]at hK;exact hK
  ·have h4:List.drop (Int.toNat 0) (List.take ((((sl (bs h)).length:Nat):Int)).toNat s)=h:=nf h4;rw[e3]at h4;refine⟨⟨by omega,by omega,Int.le_refl _⟩,?_⟩;rw[cutP_eq,if_pos h4]at hK
   have e4:List.drop ((((sl (bs h)).length:Nat):Int)).toNat (List.take ((((sl (bs s)).length:Nat):Int)).toNat s)=s.drop h.length:=by
    rw[Int.toNat_natCast,Int.toNat_natCast,e2,e1,List.take_length]
   have e5:Value.tuple #[.string (bs (List.drop ((((sl (bs h)).length:Nat):Int)).toNat (List.take ((((sl (bs s)).length:Nat):Int)).toNat s))),.bool true] = .tuple #[.string (bs ((some (s.drop h.length)).getD [])),.bool (some (s.drop h.length)).isSome]:=by rw[e4];rfl
   rw[←e5]at hK;exact hK
 ·have h3:=dt h3;rw[hno (fun e=>by have:=congrArg List.length e;simp at this;omega)]at hK;exact hK
theorem lines_spec {s:List UInt8} (hs:s.length≤1000000) {H:Hp} {K:Value→Hp→Prop}
  (hK:∀a n c H',Le H H'→RL H' a n c (spl s).dropLast→K (.tuple #[.slice a n c,.bool (decide ((spl s).getLast?=some ⟨[]⟩))]) H'):Does Tryd.prog 21 [.string (bs s)] H K:=by
 have e1:(sl (bs s)).length=s.length:=rfl;have hsl:=spl_len s;have hc:s.count 10≤s.length:=List.count_le_length;refine spec_of cx_ok cx_mix rfl Tryd.func21 Tryd.call21 Tryd.ntmps21 Tryd.results21 rfl rfl ?_
 refine⟨List Str×Nat×Nat,fun z=>⟨[(0,.v (.string (bs s))),(4,.own 0),(5,.v (.int .i64 (z.2.1:Nat))),(6,.v (.int .i64 (z.2.2:Nat)))],[(0,.row 9 1 (z.1.map strC))],1⟩,
  fun z H'=>H'=H∧spl s=z.1++spl (s.drop z.2.1)∧free ((s.take z.2.2).drop z.2.1)∧z.2.1≤z.2.2∧z.2.2≤s.length,fun z=>s.length - z.2.2,⟨([],0,0),[],?_,rfl,rfl,fun c hc=>by simp at hc,Nat.le_refl _,Nat.zero_le _⟩,?_⟩
 ·exact⟨⟨rfl,⟨rfl,rfl,rfl⟩,rfl,rfl,trivial⟩,⟨rfl,trivial⟩⟩
 rintro⟨D,f,i⟩ H1 _ ⟨rfl,hsp,hfr,hfi,hi⟩;dsimp only at hsp hfr hfi hi
 have hDl:D.length≤s.length:=by
  have:=congrArg List.length hsp;have h2:=spl_len (s.drop f);rw[List.length_append]at this;omega
 refine⟨fun h=>?_,fun h=>?_⟩
 ·have hlt:i<s.length:=by have h:(i:Int)<((sl (bs s)).length:Int):=dt h;omega
  have hx:=List.getElem?_eq_getElem hlt
  have ed:s.drop f=(s.take i).drop f++s[i]::s.drop (i+1):=by
   conv=>lhs;rw[←List.take_append_drop i s]
   rw[List.drop_append_of_le_length (by rw[List.length_take];omega),List.drop_eq_getElem_cons hlt]
  refine⟨_,⟨by omega,hx⟩,?_⟩;refine⟨fun h=>?_,fun h=>?_⟩
  ·have h10:s[i]=10:=by
    have h2:((s[i].toNat:Nat):Int)=10:=dt h;exact UInt8.toNat_inj.1 (by have:(10:UInt8).toNat=10:=rfl;omega)
   rw[h10]at ed
   have hsp2:spl s=(D++[⟨(s.take i).drop f⟩])++spl (s.drop (i+1)):=by rw[hsp,ed,spl_line _ _ hfr];simp
   refine⟨⟨by omega,by show (f:Int)≤(i:Int);omega,by show (i:Int)≤((sl (bs s)).length:Int);omega⟩,?_⟩;refine⟨⟨by show ((D.map strC).length+1)*16≤_;rw[List.length_map];omega,by show (D.map strC).length+1≤_;rw[List.length_map];omega⟩,?_⟩;refine⟨show -9223372036854775808≤(i:Int)+1∧(i:Int)+1≤9223372036854775807 by omega,?_⟩;refine⟨show -9223372036854775808≤(i:Int)+1∧(i:Int)+1≤9223372036854775807 by omega,?_⟩;refine⟨(D++[⟨(s.take i).drop f⟩],i+1,i+1),[(0,2)],?_,⟨rfl,hsp2,fun c hc=>?_,Nat.le_refl _,hlt⟩,by dsimp only;omega⟩
   ·exact⟨⟨rfl,rfl,rfl,rfl,trivial⟩,⟨by rw[List.map_append];rfl,trivial⟩⟩
   ·dsimp only at hc;rw[List.drop_of_length_le (by rw[List.length_take];omega)]at hc;simp at hc
  ·have hne:s[i]≠10:=fun e=>by
    have h2:¬((s[i].toNat:Nat):Int)=10:=df h;rw[e]at h2;exact h2 rfl
   refine⟨show -9223372036854775808≤(i:Int)+1∧(i:Int)+1≤9223372036854775807 by omega,?_⟩;refine⟨(D,f,i+1),[(0,0)],?_,⟨rfl,hsp,fun c hc=>?_,by dsimp only;omega,hlt⟩,by dsimp only;omega⟩
   ·exact⟨⟨rfl,rfl,rfl,rfl,trivial⟩,⟨rfl,trivial⟩⟩
   ·dsimp only at hc;rw[List.take_succ_eq_append_getElem hlt,List.drop_append_of_le_length (by rw[List.length_take];omega)]at hc
    rcases List.mem_append.1 hc with hc | hc
    ·exact hfr c hc
    ·rw[List.mem_singleton]at hc;rw[hc];exact hne
 ·have hil:i=s.length:=by have h:¬(i:Int)<((sl (bs s)).length:Int):=df h;omega
  rw[hil,List.take_length]at hfr;rw[spl_free _ hfr]at hsp;intro x H2 hle2 hx
  have hDm:∀p∈D,p.l.length≤9223372036854775807:=fun p hp=>by have:=spl_le s p (by rw[hsp];exact List.mem_append_left _ hp);omega
  obtain⟨a,n1,c1,e,hr⟩:=RL.of_row (α:=Str) hx (rc_strs (l:=D) (H:=H2) hDm);subst e;have h9:=hK a n1 c1 H2 hle2 (by rw[hsp,List.dropLast_concat];exact hr)
  have e9:decide ((spl s).getLast?=some ⟨[]⟩)=decide (((f:Nat):Int)=((sl (bs s)).length:Int)):=by
   rw[hsp,List.getLast?_concat];refine decide_eq_decide.2 ⟨fun h=>?_,fun h=>?_⟩
   ·have h3:s.drop f=[]:=by simpa using h
    have:=congrArg List.length h3;rw[List.length_drop]at this;simp at this;omega
   ·have h3:s.drop f=[]:=List.drop_of_length_le (by omega);rw[h3]
  rw[e9]at h9;exact h9
end Go.Proofs
end
section
namespace Go.Proofs
open Go.Sy
def addI (w:Str) (r:Row):Row:=(r.1,r.2.1++[w],r.2.2)
def addO (w:Str) (r:Row):Row:=(r.1,r.2.1,r.2.2++[w])
def addL (R:List Row) (x:Str):Option (List Row):=match cutP blkH x.l with
 | some y=>some (R++[(⟨y⟩,[],[])])
 | none=>if R=[] then none else match cutP inH x.l with
  | some y=>some (R.modify (R.length - 1) (addI ⟨y⟩))
  | none=>match cutP outH x.l with
   | some y=>some (R.modify (R.length - 1) (addO ⟨y⟩))
   | none=>none
def addLs:List Row→List Str→Option (List Row)
 | R,[]=>some R
 | R,x::l=>match addL R x with
  | some R'=>addLs R' l
  | none=>none
theorem modify_last (R:List Row) (r:Row) (f:Row→Row):(R++[r]).modify ((R++[r]).length - 1) f=R++[f r]:=by
 rw[List.length_append,List.length_singleton,Nat.add_sub_cancel]
 induction R with
 | nil=>rfl
 | cons x R ih=>rw[List.cons_append,List.length_cons,List.modify_succ_cons,ih];rfl
theorem addLs_ins:∀(ws:List Str) (R:List Row) (r:Row) (l:List Str),addLs (R++[r]) (ws.map (fun w=>⟨inH++w.l⟩)++l)=addLs (R++[(r.1,r.2.1++ws,r.2.2)]) l
 | [],R,r,l=>by simp
 | w::ws,R,r,l=>by
  have h1:cutP blkH (inH++w.l)=none:=rfl
  have h:addL (R++[r]) ⟨inH++w.l⟩=some (R++[addI w r]):=by
   unfold addL;dsimp only;rw[h1,cutP_app];dsimp only;rw[if_neg (by simp),modify_last]
  rw[List.map_cons,List.cons_append,addLs,h];dsimp only;rw[addLs_ins ws R (addI w r) l];simp [addI]
theorem addLs_outs:∀(ws:List Str) (R:List Row) (r:Row) (l:List Str),addLs (R++[r]) (ws.map (fun w=>⟨outH++w.l⟩)++l)=addLs (R++[(r.1,r.2.1,r.2.2++ws)]) l
 | [],R,r,l=>by simp
 | w::ws,R,r,l=>by
  have h1:cutP blkH (outH++w.l)=none:=rfl;have h2:cutP inH (outH++w.l)=none:=rfl
  have h:addL (R++[r]) ⟨outH++w.l⟩=some (R++[addO w r]):=by
   unfold addL;dsimp only;rw[h1,h2,cutP_app];dsimp only;rw[if_neg (by simp),modify_last]
  rw[List.map_cons,List.cons_append,addLs,h];dsimp only;rw[addLs_outs ws R (addO w r) l];simp [addO]
theorem addLs_row (R:List Row) (x:Row) (l:List Str):addLs R (rowL x++l)=addLs (R++[x]) l:=by
 have h:addL R ⟨blkH++x.1.l⟩=some (R++[(x.1,[],[])]):=by
  unfold addL;dsimp only;rw[cutP_app]
 rw[rowL,List.cons_append,addLs,h];dsimp only;rw[List.append_assoc,addLs_ins,addLs_outs];simp
theorem addLs_rows:∀(l:List Row) (R:List Row),addLs R (rowsL l)=some (R++l)
 | [],R=>by rw[rowsL,addLs,List.append_nil]
 | x::l,R=>by rw[rowsL,addLs_row,addLs_rows l];simp
theorem rowsT_modify (f:Row→Row) (k:Nat) (hf:∀r,(rowT (f r)).length=(rowT r).length+k) (R:List Row) (h:R≠[]):(rowsT (R.modify (R.length - 1) f)).length=(rowsT R).length+k:=by
 obtain⟨Q,r,e⟩:∃Q r,R=Q++[r]:=⟨R.dropLast,R.getLast h,(List.dropLast_concat_getLast h).symm⟩
 rw[e,modify_last,rowsT_append,rowsT_append];simp only[rowsT,List.length_append,List.append_nil,hf];omega
theorem addL_len {R R':List Row} {x:Str} (h:addL R x=some R'):(rowsT R').length=(rowsT R).length+x.l.length+1:=by
 unfold addL at h;split at h
 ·next y e =>
  cases h;rw[cutP_some e,rowsT_append];simp [rowsT,rowT,lns];omega
 ·split at h
  ·cases h
  ·next hR =>
   split at h
   ·next y e =>
    cases h;rw[rowsT_modify _ (x.l.length+1) (fun r=>?_) R hR]
    ·omega
    ·rw[cutP_some e];simp [rowT,addI,lns_append,lns];omega
   ·split at h
    ·next y e =>
     cases h;rw[rowsT_modify _ (x.l.length+1) (fun r=>?_) R hR]
     ·omega
     ·rw[cutP_some e];simp [rowT,addO,lns_append,lns];omega
    ·cases h
theorem addLs_len:∀(l:List Str) {R R':List Row},addLs R l=some R'→(rowsT R').length=(rowsT R).length+(lns [] l).length
 | [],R,R',h=>by cases h;rfl
 | x::l,R,R',h=>by
  rw[addLs]at h;split at h
  ·next R2 e =>
   rw[addLs_len l h,addL_len e,lns];simp;omega
  ·cases h
def rprs (s:List UInt8):Option Report :=
 if (spl s).getLast?=some ⟨[]⟩∧2≤(spl s).dropLast.length∧(spl s).dropLast.getLast?=some ⟨[101,110,100]⟩ then
  (addLs [] ((spl s).dropLast.dropLast.drop 1)).map fun R=>((match (spl s).head? with | some x=>(match cutP repH x.l with | some y=>kindOf y | none=>0) | none=>0),R)
 else none
theorem rprs_text {r:Report} (hn:nameOf r.1≠[]) (h:∀x∈r.2,freeR x):rprs (textT r)=some r:=by
 have e:=spl_text (nameOf_free r.1) h
 have e2:spl (textT r)=((⟨repH++nameOf r.1⟩::rowsL r.2)++[⟨[101,110,100]⟩])++[⟨[]⟩]:=by rw[e];simp
 have e3:(spl (textT r)).dropLast=(⟨repH++nameOf r.1⟩::rowsL r.2)++[⟨[101,110,100]⟩]:=by rw[e2,List.dropLast_concat]
 unfold rprs;rw[e3,List.dropLast_concat,if_pos ⟨by rw[e2,List.getLast?_concat],by simp,by rw[List.getLast?_concat]⟩];rw[List.drop_succ_cons,List.drop_zero,addLs_rows,e,List.nil_append];simp only[List.head?_cons,cutP_app,Option.map_some,kind_name hn]
theorem rprs_right {r:Report} (h:rightB r=true):rprs (textT r)=some r:=rprs_text (right_free h).1 (right_free h).2
theorem parse_law (s:List UInt8):(∃r,rprs s=some r∧rightB r=true∧textT r=s)↔(rightB (prs s)=true∧textT (prs s)=s):=by
 constructor
 ·rintro⟨r,h1,h2,h3⟩;have:=prs_right h2;rw[h3]at this;rw[this];exact⟨h2,h3⟩
 ·rintro⟨h1,h2⟩;have:=rprs_right h1;rw[h2]at this;exact⟨prs s,this,h1,h2⟩
theorem parse_same {s:List UInt8} {r:Report} (h:rightB r=true) (h2:textT r=s):prs s=r:=by
 rw[←h2];exact prs_right h
end Go.Proofs
end
section
namespace Go.Proofs
open Go.Sy
open Go.RowKit (Below)
set_option maxRecDepth 20000
set_option maxHeartbeats 4000000
noncomputable def cxR:Cx:={ cx with gf:=24::cx.gf }
theorem cxR_ok:TOK cxR:=⟨cx_ok.tt,cx_ok.eqs⟩
def rowV (z:Row×Value×Value):List Value:=[.string (bs z.1.1.l),z.2.1,z.2.2]
def memV (z:Row×Value×Value):List (Value×List (List Value)):=[(z.2.1,z.1.2.1.map strC),(z.2.2,z.1.2.2.map strC)]
def famV (Z:List (Row×Value×Value)) (m:Nat):List (Value×List (List Value)):=Z.flatMap memV++List.replicate m (.slice none 0 0,[])
theorem addLs_append:∀(l1 l2:List Str) (R:List Row),addLs R (l1++l2)=(addLs R l1).bind fun R'=>addLs R' l2
 | [],l2,R=>rfl
 | x::l1,l2,R=>by
  rw[List.cons_append,addLs,addLs]
  cases addL R x with
  | none=>rfl
  | some R'=>exact addLs_append l1 l2 R'
theorem addLs_step {q:List Str} {i:Nat} {x:Str} {R R':List Row} (h:addLs [] (q.take i)=some R) (hx:q[i]?=some x) (h2:addL R x=some R'):addLs [] (q.take (i+1))=some R':=by
 rw[List.take_add_one,hx,addLs_append,h];simp only[Option.bind_some,Option.toList_some,addLs,h2]
theorem addLs_stop {q:List Str} {i:Nat} {x:Str} {R:List Row} (h:addLs [] (q.take i)=some R) (hx:q[i]?=some x) (h2:addL R x=none):addLs [] q=none:=by
 have hlt:i<q.length:=(List.getElem?_eq_some_iff.1 hx).1
 have e:q=q.take i++x::q.drop (i+1):=by
  conv=>lhs;rw[←List.take_append_drop i q]
  rw[List.drop_eq_getElem_cons hlt];rw[List.getElem?_eq_getElem hlt]at hx;cases hx
  rfl
 rw[e,addLs_append,h];simp only[Option.bind_some,addLs,h2]
theorem famV_snoc (Z:List (Row×Value×Value)) (w:Str) (m:Nat):famV Z (m+2)=famV (Z++[((w,[],[]),.slice none 0 0,.slice none 0 0)]) m:=by
 unfold famV;rw[List.flatMap_append,List.append_assoc,List.replicate_succ,List.replicate_succ]
 rfl
theorem lns_drop_le (h:List UInt8) (l:List Str) (k:Nat):(lns h (l.drop k)).length≤(lns h l).length:=by
 have:=lns_append h (l.take k) (l.drop k);rw[List.take_append_drop]at this
 rw[this,List.length_append];omega
theorem lns_few (h:List UInt8):∀l:List Str,l.length≤(lns h l).length
 | []=>Nat.le_refl _
 | x::l=>by have:=lns_few h l;rw[lns];simp;omega
theorem row_few:∀ {R:List Row} {r:Row},r∈R→r.2.1.length≤(rowsT R).length∧r.2.2.length≤(rowsT R).length
 | x::R,r,h=>by
  rw[rowsT,List.length_append]
  rcases List.mem_cons.1 h with h | h
  ·subst h;have h1:=lns_few inH r.2.1;have h2:=lns_few outH r.2.2;rw[rowT];simp only[List.length_append];omega
  ·have:=row_few h;omega
theorem lns_mem (h:List UInt8):∀ {l:List Str} {w:Str},w∈l→w.l.length≤(lns h l).length
 | x::l,w,hw=>by
  rw[lns];simp only[List.length_append]
  rcases List.mem_cons.1 hw with hw | hw
  ·rw[hw];omega
  ·have:=lns_mem h hw;omega
theorem row_len:∀ {R:List Row} {r:Row},r∈R→r.1.l.length≤(rowsT R).length∧(∀w∈r.2.1,w.l.length≤(rowsT R).length)∧∀w∈r.2.2,w.l.length≤(rowsT R).length
 | x::R,r,h=>by
  rw[rowsT,List.length_append]
  rcases List.mem_cons.1 h with h | h
  ·subst h;rw[rowT];simp only[List.length_append];exact⟨by omega,fun w hw=>by have:=lns_mem inH hw;omega,fun w hw=>by have:=lns_mem outH hw;omega⟩
  ·obtain⟨h1,h2,h3⟩:=row_len h;exact⟨by omega,fun w hw=>by have:=h2 w hw;omega,fun w hw=>by have:=h3 w hw;omega⟩
theorem refright_G {kc:Int} {Z:List (Row×Value×Value)} {m:Nat} {H:Hp} {K:SV→St→Hp→Prop} (hk : -9223372036854775808≤kc∧kc≤9223372036854775807) (hZ:∀z∈Z,z.1.1.l.length≤9223372036854775807∧(∀w∈z.1.2.1,w.l.length≤9223372036854775807)∧∀w∈z.1.2.2,w.l.length≤9223372036854775807)
  (hK:∀a n c H1,Le H H1→RL H1 a n c (Z.map (·.1))→K (.v (.bool (rightB (kc,Z.map (·.1))))) ⟨[],[(0,.frz (.slice a n c)),(1,.dead)],2⟩ H1):
  DoesG Tryd.prog 24 [.agg [.v (.int .i64 kc),.own 0]] [(0,.row 44 3 (Z.map rowV)),(1,.fam 9 1 (famV Z m))] 2 H K:=by
 refine doesG_frzA (args:=fun v=>[.agg #[.int .i64 kc,v]]) (fun ρ=>by simp [gas,ga,Rho.val]) Tryd.call24 fun v H1 hle hrow hmem=>?_
 have hrc:RC H1 (Z.map rowV) (Z.map (·.1)):=by
  refine⟨by simp,fun i cs x h1 h2=>?_⟩;rw[List.getElem?_map]at h1 h2
  cases hz:Z[i]? with
  | none=>rw[hz]at h1;cases h1
  | some z =>
   rw[hz]at h1 h2;cases h1;cases h2;have hzm:=List.mem_of_getElem? hz;obtain⟨l1,l2,l3⟩:=hZ z hzm;have m1:(z.2.1,z.1.2.1.map strC)∈famV Z m:=List.mem_append_left _ (List.mem_flatMap.2 ⟨z,hzm,by simp [memV]⟩);have m2:(z.2.2,z.1.2.2.map strC)∈famV Z m:=List.mem_append_left _ (List.mem_flatMap.2 ⟨z,hzm,by simp [memV]⟩);obtain⟨a1,n1,c1,e1,hr1⟩:=RL.of_row (α:=Str) (hmem _ m1) (rc_strs l2);obtain⟨a2,n2,c2,e2,hr2⟩:=RL.of_row (α:=Str) (hmem _ m2) (rc_strs l3);exact⟨[_],[_,_],rfl,⟨rfl,l1⟩,[_],[_],rfl,⟨a1,n1,c1,congrArg (fun v=>[v]) e1,hr1⟩,⟨a2,n2,c2,congrArg (fun v=>[v]) e2,hr2⟩⟩
 obtain⟨a,n,c,e,hr⟩:=RL.of_row (α:=Row) hrow hrc;subst e;refine refright_spec (r:=(kc,Z.map (·.1))) (cs:=[.int .i64 kc,.slice a n c]) ⟨[_],[_],rfl,⟨rfl,hk⟩,⟨a,n,c,rfl,hr⟩⟩ ?_;exact⟨.v (.bool _),fun _=>rfl,rfl,hK a n c H1 hle hr⟩
theorem refparse_spec {s:List UInt8} {H:Hp} {K:Value→Hp→Prop} (hs:s.length≤19000)
  (hbad:(¬∃r,rprs s=some r∧rightB r=true∧textT r=s)→∀H',Le H H'→K (.tuple #[.agg #[.int .i64 0,.slice none 0 0],.bool false]) H')
  (hK:∀r,rprs s=some r→rightB r=true→textT r=s→∀a n c H',Le H H'→RL H' a n c r.2→K (.tuple #[.agg #[.int .i64 r.1,.slice a n c],.bool true]) H'):Does Tryd.prog 8 [.string (bs s)] H K:=by
 have hno:rprs s=none→∀H',Le H H'→K (.tuple #[.agg #[.int .i64 0,.slice none 0 0],.bool false]) H':=fun e=>hbad fun⟨r,h1,_,_⟩=>by rw[e]at h1;cases h1
 have hl:=spl_le s;have hc:s.count 10≤s.length:=List.count_le_length;have hsl:=spl_len s;refine spec_of cxR_ok cx_mix rfl Tryd.func8 Tryd.call8 Tryd.ntmps8 Tryd.results8 rfl rfl ?_
 refine lines_spec (by omega) fun a n c H1 hle1 hr1=>?_
 have hn:=hr1.n_eq;have hmx:=hr1.le
 obtain⟨l,el⟩:∃l,l=(spl s).dropLast:=⟨_,rfl⟩
 have hll:l.length≤s.length:=by rw[el,List.length_dropLast];omega
 rw[←el]at hr1 hn;refine⟨fun h=>?_,fun h=>?_⟩
 rotate_left
 ·have h1:¬(spl s).getLast?=some ⟨[]⟩:=by simpa using h
  exact hno (by unfold rprs;rw[if_neg (fun h2=>h1 h2.1)]) _ hle1
 have hg1:(spl s).getLast?=some ⟨[]⟩:=by simpa using h
 refine⟨fun h=>?_,fun h=>?_⟩
 rotate_left
 ·have h1:(n:Int)<2:=dt h;exact hno (by unfold rprs;rw[if_neg (fun h2=>by have:=h2.2.1;rw[←el]at this;omega)]) _ hle1
 have hg2:2≤l.length:=by have h1:¬(n:Int)<2:=df h;omega
 refine⟨⟨by omega,by omega⟩,?_⟩
 have hlt:l.length - 1<l.length:=by omega
 have e9:((n:Int) - 1).toNat=l.length - 1:=by omega
 obtain⟨xl,exl⟩:∃xl,l[((n:Int) - 1).toNat]?=some xl:=⟨l[l.length - 1],by rw[e9];exact List.getElem?_eq_getElem hlt⟩
 have hgl:l.getLast?=some xl:=by rw[List.getLast?_eq_getElem?,←e9];exact exl
 obtain⟨ad,cs,e1,hh,r1⟩:=hr1.elem exl;rw[str_open' r1]at hh;refine⟨ad,⟨by omega,by omega,e1⟩,?_⟩;refine⟨_,hh,?_⟩;refine⟨fun h=>?_,fun h=>?_⟩
 ·have h1:¬xl.l=[101,110,100]:=nt h;exact hno (by unfold rprs;rw[if_neg (fun h2=>by have h3:=h2.2.2;rw[←el,hgl]at h3;cases h3;exact h1 rfl)]) _ hle1
 have h1:xl.l=[101,110,100]:=nf h
 have hrp:rprs s=(addLs [] (l.dropLast.drop 1)).map fun R=>((match (spl s).head? with | some x=>(match cutP repH x.l with | some y=>kindOf y | none=>0) | none=>0),R):=by
  unfold rprs;rw[if_pos ⟨hg1,by rw[←el];exact hg2,by rw[←el,hgl];cases xl;cases h1;rfl⟩,el]
  all_goals rfl
 match l,hn,hr1,el,hll,hg2,hrp with
 | [],hn,hr1,el,hll,hg2,hrp=>simp at hg2
 | x0::l1,hn,hr1,el,hll,hg2,hrp =>
 obtain⟨ad0,cs0,e2,hh0,r2⟩:=hr1.elem (i:=0) (x:=x0) rfl;rw[str_open' r2]at hh0;refine⟨ad0,⟨by omega,by omega,e2⟩,?_⟩;refine⟨_,hh0,?_⟩;have hx0:x0.l.length≤s.length:=hl x0 (List.dropLast_subset _ (by rw[←el];exact List.mem_cons_self ..))
 have hhead:(spl s).head?=some x0:=by
  cases e:spl s with
  | nil=>exact absurd e (spl_ne s)
  | cons z t =>
   rw[e]at el
   cases t with
   | nil=>simp at el
   | cons y t=>rw[List.dropLast_cons_cons]at el;cases el;rfl
 rw[hhead]at hrp;dsimp only at hrp;refine head_spec (h:=repH) (by omega) (by decide) ?_
 obtain⟨kd,ekd⟩:∃kd:Nat→Int,kd=fun k=>(match cutP repH x0.l with | some y=>wk y k | none=>0):=⟨_,rfl⟩
 refine⟨Nat,fun k=>⟨[(0,.v (.string (bs s))),(2,.ptr 0 0),(4,.v (.slice a n c)),(6,.ptr 1 0),(7,.v (.string (bs ((cutP repH x0.l).getD [])))),(8,.v (.bool (cutP repH x0.l).isSome)),(9,.v (.int .i64 ((k:Int)+1)))],
   [(0,.cells 25 [.v (.int .i64 0),.v (.slice none 0 0)]),(1,.cells 25 [.v (.int .i64 (kd k)),.v (.slice none 0 0)])],2⟩,
  fun k H'=>H'=H1∧k≤4,fun k=>5 - k,⟨0,[(0,0),(1,1)],?_,rfl,by omega⟩,?_⟩
 ·have e0:SV.v (.int .i64 0)=SV.v (.int .i64 (kd 0)):=by rw[ekd];dsimp only;split<;>rfl
  exact⟨⟨rfl,⟨rfl,rfl⟩,rfl,⟨rfl,rfl⟩,rfl,rfl,rfl,trivial⟩,⟨⟨rfl,rfl,trivial⟩,⟨e0,rfl,trivial⟩,trivial⟩⟩
 rintro k H2 _ ⟨rfl,hk⟩;refine⟨fun h=>?_,fun h=>?_⟩
 ·have hk4:((k:Int)+1)≤4:=dt h;refine⟨fun h=>?_,fun h=>?_⟩
  ·obtain⟨y,ey⟩:∃y,cutP repH x0.l=some y:=Option.isSome_iff_exists.1 h;refine refname_spec ?_;refine⟨fun h2=>?_,fun h2=>?_⟩
   ·have h2:nameOf ((k:Int)+1)=(cutP repH x0.l).getD []:=dt h2;rw[ey,Option.getD_some]at h2
    have e:SV.v (.int .i64 ((k:Int)+1))=SV.v (.int .i64 (kd (k+1))):=by rw[ekd];dsimp only;rw[ey];dsimp only;rw[wk,if_pos h2]
    refine⟨⟨by omega,by omega⟩,k+1,[(0,0),(1,1)],?_,⟨rfl,by omega⟩,by dsimp only;omega⟩;exact⟨⟨rfl,⟨rfl,rfl⟩,rfl,⟨rfl,rfl⟩,rfl,rfl,rfl,trivial⟩,⟨⟨rfl,rfl,trivial⟩,⟨e,rfl,trivial⟩,trivial⟩⟩
   ·have h2:¬nameOf ((k:Int)+1)=(cutP repH x0.l).getD []:=df h2;rw[ey,Option.getD_some]at h2
    have e:SV.v (.int .i64 (kd k))=SV.v (.int .i64 (kd (k+1))):=by rw[ekd];dsimp only;rw[ey];dsimp only;rw[wk,if_neg h2]
    refine⟨⟨by omega,by omega⟩,k+1,[(0,0),(1,1)],?_,⟨rfl,by omega⟩,by dsimp only;omega⟩;exact⟨⟨rfl,⟨rfl,rfl⟩,rfl,⟨rfl,rfl⟩,rfl,rfl,rfl,trivial⟩,⟨⟨rfl,rfl,trivial⟩,⟨e,rfl,trivial⟩,trivial⟩⟩
  ·have ey:cutP repH x0.l=none:=by simpa using h
   have e:SV.v (.int .i64 (kd k))=SV.v (.int .i64 (kd (k+1))):=by rw[ekd];dsimp only;rw[ey]
   refine⟨⟨by omega,by omega⟩,k+1,[(0,0),(1,1)],?_,⟨rfl,by omega⟩,by dsimp only;omega⟩;exact⟨⟨rfl,⟨rfl,rfl⟩,rfl,⟨rfl,rfl⟩,rfl,rfl,rfl,trivial⟩,⟨⟨rfl,rfl,trivial⟩,⟨e,rfl,trivial⟩,trivial⟩⟩
 ·have hk4:k=4:=by have:¬((k:Int)+1)≤4:=df h;omega
  subst hk4
  obtain⟨kc,ekc⟩:∃kc,kc=kd 4:=⟨_,rfl⟩
  have hkc:(match cutP repH x0.l with | some y=>kindOf y | none=>0)=kc:=by rw[ekc,ekd];dsimp only;split<;>first | rw[wk_kind] | rfl
  have hkr : -9223372036854775808≤kc∧kc≤9223372036854775807:=by
   rw[←hkc];split
   ·unfold kindOf
    constructor<;>(repeat' split)<;>decide
   ·decide
  rw[hkc]at hrp;rw[←ekc];rw[List.length_cons]at hn hll hg2
  obtain⟨q,eq⟩:∃q,q=l1.dropLast:=⟨_,rfl⟩
  have hql:q.length=l1.length - 1:=by rw[eq,List.length_dropLast]
  have hdq:(x0::l1).dropLast.drop 1=q:=by
   cases l1 with
   | nil=>simp at hg2
   | cons y t=>rw[List.dropLast_cons_cons,eq];rfl
  rw[hdq]at hrp;refine⟨⟨by omega,by omega⟩,?_⟩;refine⟨⟨by omega,by omega,by omega,hr1.2.1⟩,?_⟩
  have hrq:RL H2 (cutA a 1 c 1) (n - 1 - 1) (c - 1) q:=by
   have h2:=hr1.cut (l:=1) (k:=n - 1) (by omega) (by omega)
   have e:((x0::l1).take (n - 1)).drop 1=q:=by rw[←hdq,List.dropLast_eq_take,List.length_cons,hn]
   rw[e]at h2;exact h2
  have hnq:=hrq.n_eq
  have hqs:q=((spl s).dropLast.dropLast).drop 1:=by rw[←hdq,el]
  have hlq:(lns [] q).length≤s.length+1:=by
   have h1:=lns_drop_le [] ((spl s).dropLast.dropLast) 1;have h2:=lns_le [] (spl s).dropLast ((spl s).dropLast.length - 1);have h3:=lns_le [] (spl s) ((spl s).length - 1);rw[←List.dropLast_eq_take]at h2 h3;rw[spl_flat,List.length_append,List.length_singleton]at h3
   rw[hqs];omega
  have e20:((n:Int) - 1).toNat - Int.toNat 1=n - 1 - 1:=by omega
  refine⟨List (Row×Value×Value)×Nat,fun z=>⟨[(0,.v (.string (bs s))),(2,.ptr 0 0),(6,.ptr 1 0),(65,.v (.slice (cutA a 1 c 1) (n - 1 - 1) (c - 1))),(66,.v (.int .i64 ((n - 1 - 1:Nat):Int))),(67,.v (.int .i64 (z.2:Nat)))],
    [(0,.cells 25 [.v (.int .i64 0),.v (.slice none 0 0)]),(1,.cells 25 [.v (.int .i64 kc),.own 2]),(2,.row 44 3 (z.1.map rowV)),(3,.fam 9 1 (famV z.1 (2*(q.length - z.1.length))))],4⟩,
   fun z H'=>H'=H2∧addLs [] (q.take z.2)=some (z.1.map (·.1))∧z.2≤q.length∧z.1.length≤z.2,fun z=>q.length - z.2,⟨([],0),[(0,0),(1,1)],?_,rfl,rfl,Nat.zero_le _,Nat.le_refl _⟩,?_⟩
  ·have e21:SV.v (.slice (cutA a 1 c 1) (((n:Int) - 1).toNat - Int.toNat 1) (c - 1))=SV.v (.slice (cutA a 1 c 1) (n - 1 - 1) (c - 1)):=by rw[e20]
   have e22:SV.v (.int .i64 ((((n:Int) - 1).toNat - Int.toNat 1:Nat):Int))=SV.v (.int .i64 ((n - 1 - 1:Nat):Int)):=by rw[e20]
   exact⟨⟨rfl,⟨rfl,rfl⟩,⟨rfl,rfl⟩,e21,e22,rfl,trivial⟩,⟨⟨rfl,rfl,trivial⟩,⟨rfl,⟨rfl,rfl,rfl⟩,trivial⟩,rfl,fun p hp=>List.eq_of_mem_replicate hp,trivial⟩⟩
  rintro⟨Z,i⟩ H3 _ ⟨rfl,hadd,hi,hZi⟩;dsimp only at hadd hi hZi;refine⟨fun h=>?_,fun h=>?_⟩
  ·have hlt:i<q.length:=by have h:(i:Int)<((n - 1 - 1:Nat):Int):=dt h;omega
   obtain⟨x,hx⟩:∃x,q[i]?=some x:=⟨_,List.getElem?_eq_getElem hlt⟩
   obtain⟨ad3,cs3,e3,hh3,r3⟩:=hrq.elem hx;rw[str_open' r3]at hh3;refine⟨ad3,⟨by omega,by show (i:Int)<((n - 1 - 1:Nat):Int);omega,e3⟩,?_⟩;refine⟨_,hh3,?_⟩;have hxl:x.l.length≤s.length:=hl x (List.dropLast_subset _ (List.dropLast_subset _ (List.mem_of_mem_drop (by rw[←hqs];exact List.mem_of_getElem? hx))))
   have hRl:(rowsT (Z.map (·.1))).length≤s.length+1:=by have h1:=addLs_len _ hadd;have h2:=lns_le [] q i;have h3:(rowsT []).length=0:=rfl;omega
   refine head_spec (h:=blkH) (by omega) (by decide) ?_
   have hstop:addL (Z.map (·.1)) x=none→K (.tuple #[.agg #[.int .i64 0,.slice none 0 0],.bool false]) H3:=fun h2=>hno (by rw[hrp,addLs_stop hadd hx h2];rfl) _ hle1
   refine⟨fun h=>?_,fun h=>?_⟩
   ·obtain⟨y,ey⟩:∃y,cutP blkH x.l=some y:=Option.isSome_iff_exists.1 h
    have e30:Z.map rowV++[[.string (bs ((cutP blkH x.l).getD [])),.slice none 0 0,.slice none 0 0]]=(Z++[(((⟨y⟩,[],[]):Row),Value.slice none 0 0,Value.slice none 0 0)]).map rowV:=by rw[ey,List.map_append];rfl
    have e31:famV Z (2*(q.length - Z.length))=famV (Z++[(((⟨y⟩,[],[]):Row),Value.slice none 0 0,Value.slice none 0 0)]) (2*(q.length - (Z++[(((⟨y⟩,[],[]):Row),Value.slice none 0 0,Value.slice none 0 0)]).length)):=by
     rw[←famV_snoc]
     congr 1
     rw[List.length_append,List.length_singleton];omega
    refine⟨⟨by show ((Z.map rowV).length+1)*64≤_;rw[List.length_map];omega,by show (Z.map rowV).length+1≤_;rw[List.length_map];omega⟩,?_⟩;refine⟨show -9223372036854775808≤(i:Int)+1∧(i:Int)+1≤9223372036854775807 by omega,?_⟩;refine⟨(Z++[(((⟨y⟩,[],[]):Row),Value.slice none 0 0,Value.slice none 0 0)],i+1),[(0,0),(1,1),(2,5),(3,3)],?_,⟨rfl,?_,hlt,?_⟩,by dsimp only;omega⟩
    ·exact⟨⟨rfl,⟨rfl,rfl⟩,⟨rfl,rfl⟩,rfl,rfl,rfl,trivial⟩,⟨⟨rfl,rfl,trivial⟩,⟨rfl,rfl,trivial⟩,e30,⟨rfl,rfl,e31⟩,trivial⟩⟩
    ·refine addLs_step hadd hx ?_;unfold addL;rw[ey];simp
    ·dsimp only;rw[List.length_append,List.length_singleton];omega
   ·have eb:cutP blkH x.l=none:=by simpa using h
    refine head_spec (h:=inH) (by omega) (by decide) ?_
    have hZl:(Z.map rowV).length=Z.length:=List.length_map ..
    refine⟨fun h=>?_,fun h=>?_⟩
    ·obtain⟨y,ey⟩:∃y,cutP inH x.l=some y:=Option.isSome_iff_exists.1 h;refine⟨fun h2=>?_,fun h2=>?_⟩
     ·have h2:(0:Int)<((Z.map rowV).length:Int):=dt h2
      obtain⟨Z',z,eZ⟩:∃Z' z,Z=Z'++[z]:=by
       have hne:Z≠[]:=fun e=>by rw[e]at h2;exact absurd h2 (by decide)
       exact⟨Z.dropLast,Z.getLast hne,(List.dropLast_concat_getLast hne).symm⟩
      have hZ'l:Z.length=Z'.length+1:=by rw[eZ];simp
      have hz:(Z.map rowV)[(((Z.map rowV).length:Int) - 1).toNat]?=some (rowV z):=by
       have:(((Z.map rowV).length:Int) - 1).toNat=Z'.length:=by omega
       rw[this,eZ,List.map_append,List.getElem?_append_right (by simp)];simp
      have hidx:(((Z.map rowV).length:Int) - 1).toNat=Z'.length:=by omega
      refine⟨some ([2,3],[0,1,2,3,4,5,6,7,8,9,10,11,12,13,14,15,16]),by kernel_rfl,?_⟩
      have hrg : -9223372036854775808≤((Z.map rowV).length:Int) - 1∧((Z.map rowV).length:Int) - 1≤9223372036854775807:=by omega
      have hix:(0:Int)≤((Z.map rowV).length:Int) - 1∧((Z.map rowV).length:Int) - 1<((Z.map rowV).length:Int):=by omega
      have hzf:=row_few (R:=Z.map (·.1)) (r:=z.1) (List.mem_map.2 ⟨z,by rw[eZ];simp,rfl⟩);refine⟨hrg,?_⟩;refine⟨hrg,?_⟩;refine⟨hix,?_⟩;refine⟨_,hz,?_⟩
      have hF:famV Z (2*(q.length - Z.length))=Z'.flatMap memV++(z.2.1,z.1.2.1.map strC)::((z.2.2,z.1.2.2.map strC)::List.replicate (2*(q.length - Z.length)) (.slice none 0 0,[])):=by
       unfold famV;rw[eZ,List.flatMap_append,List.append_assoc]
       rfl
      refine⟨3,_,_,_,_,rfl,hF,⟨?g1,?g2⟩,fun a5 c5=>?_⟩
      ·show ((z.1.2.1.map strC).length+1)*16≤_
       rw[List.length_map];omega
      ·show (z.1.2.1.map strC).length+1≤_
       rw[List.length_map];omega
      refine⟨hix,?_⟩;refine⟨_,hz,?_⟩;refine⟨show -9223372036854775808≤(i:Int)+1∧(i:Int)+1≤9223372036854775807 by omega,?_⟩;refine⟨(Z'++[((z.1.1,z.1.2.1++[⟨y⟩],z.1.2.2),.slice a5 ((z.1.2.1.map strC).length+1) c5,z.2.2)],i+1),[(0,0),(1,1),(2,2),(3,3)],?_,⟨rfl,?_,hlt,?_⟩,by dsimp only;omega⟩
      ·refine⟨⟨rfl,⟨rfl,rfl⟩,⟨rfl,rfl⟩,rfl,rfl,rfl,trivial⟩,⟨⟨rfl,rfl,trivial⟩,⟨rfl,rfl,trivial⟩,?_,⟨rfl,rfl,?_⟩,trivial⟩⟩
       ·refine Eq.trans (b:=(Z.map rowV).set (((Z.map rowV).length:Int) - 1).toNat [.string (bs z.1.1.l),.slice a5 ((z.1.2.1.map strC).length+1) c5,z.2.2]) rfl ?_;rw[hidx,eZ,List.map_append,List.set_append_right _ _ (by simp)];simp [rowV]
       ·refine Eq.trans (b:=Z'.flatMap memV++(Value.slice a5 ((z.1.2.1.map strC).length+1) c5,z.1.2.1.map strC++[[Value.string (bs ((cutP inH x.l).getD []))]])::((z.2.2,z.1.2.2.map strC)::List.replicate (2*(q.length - Z.length)) (.slice none 0 0,[]))) rfl ?_;dsimp only;unfold famV;rw[ey,List.flatMap_append,List.append_assoc,List.length_append,List.length_singleton,←hZ'l];simp [memV,strC]
      ·refine addLs_step hadd hx ?_;unfold addL;rw[eb];dsimp only;rw[if_neg (by rw[eZ];simp),ey];dsimp only;rw[eZ,List.map_append,List.map_singleton,modify_last];simp [addI]
      ·dsimp only;rw[List.length_append,List.length_singleton];omega
     ·have hZ0:Z=[]:=by have h2:¬(0:Int)<((Z.map rowV).length:Int):=df h2;exact List.eq_nil_of_length_eq_zero (by omega)
      refine head_spec (h:=outH) (by omega) (by decide) ?_
      have ho:cutP outH x.l=none:=by rw[cutP_some ey];rfl
      refine⟨fun h5=>?_,fun _=>?_⟩
      ·rw[ho]at h5;exact absurd h5 (by simp)
      ·exact hstop (by unfold addL;rw[eb];dsimp only;rw[if_pos (by rw[hZ0];rfl)])
    ·have ei:cutP inH x.l=none:=by simpa using h
     refine head_spec (h:=outH) (by omega) (by decide) ?_;refine⟨fun h=>?_,fun h=>?_⟩
     ·obtain⟨y,ey⟩:∃y,cutP outH x.l=some y:=Option.isSome_iff_exists.1 h;refine⟨fun h2=>?_,fun h2=>?_⟩
      ·have h2:(0:Int)<((Z.map rowV).length:Int):=dt h2
       obtain⟨Z',z,eZ⟩:∃Z' z,Z=Z'++[z]:=by
        have hne:Z≠[]:=fun e=>by rw[e]at h2;exact absurd h2 (by decide)
        exact⟨Z.dropLast,Z.getLast hne,(List.dropLast_concat_getLast hne).symm⟩
       have hZ'l:Z.length=Z'.length+1:=by rw[eZ];simp
       have hz:(Z.map rowV)[(((Z.map rowV).length:Int) - 1).toNat]?=some (rowV z):=by
        have:(((Z.map rowV).length:Int) - 1).toNat=Z'.length:=by omega
        rw[this,eZ,List.map_append,List.getElem?_append_right (by simp)];simp
       have hidx:(((Z.map rowV).length:Int) - 1).toNat=Z'.length:=by omega
       refine⟨some ([2,3],[0,1,2,3,4,5,6,7,8,9,10,11,12,13,14,15,16]),by kernel_rfl,?_⟩
       have hrg : -9223372036854775808≤((Z.map rowV).length:Int) - 1∧((Z.map rowV).length:Int) - 1≤9223372036854775807:=by omega
       have hix:(0:Int)≤((Z.map rowV).length:Int) - 1∧((Z.map rowV).length:Int) - 1<((Z.map rowV).length:Int):=by omega
       have hzf:=row_few (R:=Z.map (·.1)) (r:=z.1) (List.mem_map.2 ⟨z,by rw[eZ];simp,rfl⟩);refine⟨hrg,?_⟩;refine⟨hrg,?_⟩;refine⟨hix,?_⟩;refine⟨_,hz,?_⟩
       have hF:famV Z (2*(q.length - Z.length))=(Z'.flatMap memV++[(z.2.1,z.1.2.1.map strC)])++(z.2.2,z.1.2.2.map strC)::List.replicate (2*(q.length - Z.length)) (.slice none 0 0,[]):=by
        unfold famV;rw[eZ,List.flatMap_append,List.append_assoc,List.append_assoc]
        rfl
       refine⟨3,_,_,_,_,rfl,hF,⟨?g3,?g4⟩,fun a5 c5=>?_⟩
       ·show ((z.1.2.2.map strC).length+1)*16≤_
        rw[List.length_map];omega
       ·show (z.1.2.2.map strC).length+1≤_
        rw[List.length_map];omega
       refine⟨hix,?_⟩;refine⟨_,hz,?_⟩;refine⟨show -9223372036854775808≤(i:Int)+1∧(i:Int)+1≤9223372036854775807 by omega,?_⟩;refine⟨(Z'++[((z.1.1,z.1.2.1,z.1.2.2++[⟨y⟩]),z.2.1,.slice a5 ((z.1.2.2.map strC).length+1) c5)],i+1),[(0,0),(1,1),(2,2),(3,3)],?_,⟨rfl,?_,hlt,?_⟩,by dsimp only;omega⟩
       ·refine⟨⟨rfl,⟨rfl,rfl⟩,⟨rfl,rfl⟩,rfl,rfl,rfl,trivial⟩,⟨⟨rfl,rfl,trivial⟩,⟨rfl,rfl,trivial⟩,?_,⟨rfl,rfl,?_⟩,trivial⟩⟩
        ·refine Eq.trans (b:=(Z.map rowV).set (((Z.map rowV).length:Int) - 1).toNat [.string (bs z.1.1.l),z.2.1,.slice a5 ((z.1.2.2.map strC).length+1) c5]) rfl ?_;rw[hidx,eZ,List.map_append,List.set_append_right _ _ (by simp)];simp [rowV]
        ·refine Eq.trans (b:=(Z'.flatMap memV++[(z.2.1,z.1.2.1.map strC)])++(Value.slice a5 ((z.1.2.2.map strC).length+1) c5,z.1.2.2.map strC++[[Value.string (bs ((cutP outH x.l).getD []))]])::List.replicate (2*(q.length - Z.length)) (.slice none 0 0,[])) rfl ?_;dsimp only;unfold famV;rw[ey,List.flatMap_append,List.append_assoc,List.length_append,List.length_singleton,←hZ'l];simp [memV,strC]
       ·refine addLs_step hadd hx ?_;unfold addL;rw[eb];dsimp only;rw[if_neg (by rw[eZ];simp),ei,ey];dsimp only;rw[eZ,List.map_append,List.map_singleton,modify_last];simp [addO]
       ·dsimp only;rw[List.length_append,List.length_singleton];omega
      ·have hZ0:Z=[]:=by have h2:¬(0:Int)<((Z.map rowV).length:Int):=df h2;exact List.eq_nil_of_length_eq_zero (by omega)
       exact hstop (by unfold addL;rw[eb];dsimp only;rw[if_pos (by rw[hZ0];rfl)])
     ·have eo:cutP outH x.l=none:=by simpa using h
      exact hstop (by unfold addL;rw[eb];dsimp only;split;rfl;rw[ei];dsimp only;rw[eo])
  ·have hiq:i=q.length:=by have h:¬(i:Int)<((n - 1 - 1:Nat):Int):=df h;omega
   rw[hiq,List.take_length]at hadd;rw[hadd]at hrp;have hrp:rprs s=some (kc,Z.map (·.1)):=hrp
   have hRl:(rowsT (Z.map (·.1))).length≤20000:=by have h1:=addLs_len _ hadd;have h3:(rowsT []).length=0:=rfl;omega
   refine⟨[2,3],rfl,?_⟩
   refine refright_G hkr (fun z hz=>?_) fun a5 n5 c5 H5 hle5 hr5=>?_
   ·obtain⟨l1',l2',l3'⟩:=row_len (R:=Z.map (·.1)) (r:=z.1) (List.mem_map.2 ⟨z,hz,rfl⟩);exact⟨by omega,fun w hw=>by have:=l2' w hw;omega,fun w hw=>by have:=l3' w hw;omega⟩
   have hbd:¬(rightB (kc,Z.map (·.1))=true∧textT (kc,Z.map (·.1))=s)→∀H',Le H H'→K (.tuple #[.agg #[.int .i64 0,.slice none 0 0],.bool false]) H':=fun h=>hbad fun⟨r,h1,h2,h3⟩=>by
    rw[hrp]at h1;cases h1;exact h ⟨h2,h3⟩
   have hrep:Enc.R H5 [.int .i64 kc,.slice a5 n5 c5] ((kc,Z.map (·.1)):Report):=⟨[_],[_],rfl,⟨rfl,hkr⟩,⟨a5,n5,c5,rfl,hr5⟩⟩
   refine⟨fun h=>?_,fun h=>?_⟩
   ·have hrt:rightB (kc,Z.map (·.1))=true:=by simpa using h
    refine reftext_spec hrep hRl ?_;refine⟨fun h=>?_,fun h=>?_⟩
    ·exact hbd (fun h2=>nt h h2.2) _ (hle1.trans hle5)
    ·exact hK _ hrp hrt (nf h) a5 n5 c5 _ (hle1.trans hle5) hr5
   ·exact hbd (fun h2=>by rw[h2.1]at h;simp at h) _ (hle1.trans hle5)
end Go.Proofs
end
section
namespace Go.Proofs
open Go.Sy
open Go.RowKit (Below)
set_option maxRecDepth 20000
theorem kindOf_range (l:List UInt8) : -9223372036854775808≤kindOf l∧kindOf l≤9223372036854775807:=by
 unfold kindOf
 constructor<;>(repeat' split)<;>decide
theorem prs_range (s:List UInt8) : -9223372036854775808≤(prs s).1∧(prs s).1≤9223372036854775807:=by
 unfold prs;split
 ·exact⟨by show (_:Int)≤0;decide,by show (0:Int)≤_;decide⟩
 ·exact kindOf_range _
theorem RenderParses_spec {s:Str} {H:Hp} {K:Value→Hp→Prop} (hs:s.l.length≤9223372036854775807) (hK:∀H',Le H H'→K (.bool true) H'):Does Tryd.prog 3 [.string (bs s.l)] H K:=by
 have fin:=hK H (Le.refl H);have esl:(sl (bs s.l)).length=s.l.length:=rfl;refine spec_of cx_ok cx_mix rfl Tryd.func3 Tryd.call3 Tryd.ntmps3 Tryd.results3 rfl rfl ?_
 refine awake43 fun H1 hle1=>?_
 refine⟨fun h=>absurd h (by decide),fun _=>?_⟩;refine⟨fun h=>?_,fun h=>?_⟩
 ·exact fin
 have hsm:s.l.length≤1500:=by have:¬(1500:Int)<((sl (bs s.l)).length:Int):=df h;omega
 have hpl:=prs_len s.l
 refine parse_spec (by omega) (by omega) (fun hno H2 hle2=>?_) fun hri hte a n c H2 hle2 hr2=>?_
 ·refine refparse_spec (by omega) (fun _ H3 hle3=>?_) fun r h1 h2 h3=>absurd ((parse_law s.l).1 ⟨r,h1,h2,h3⟩) hno
  have hz:Enc.R H3 [.int .i64 0,.slice none 0 0] ((0,[]):Report):=⟨[_],[_],rfl,⟨rfl,by decide⟩,⟨none,0,0,rfl,⟨rfl,Nat.le_refl _,by omega,.inl rfl⟩⟩⟩
  refine⟨fun _=>?_,fun h=>absurd h (by decide)⟩;refine⟨fun _=>?_,fun h=>absurd h (by decide)⟩
  refine rsame_spec hz hz fun H4 hle4=>?_
  refine kbool (hK H3 (by first | exact hle2.trans hle3 | exact hle3)) ?_;exact (decide_eq_true rfl).symm
 ·refine refparse_spec (by omega) (fun h=>absurd ((parse_law s.l).2 ⟨hri,hte⟩) h) fun r h1 h2 h3 a3 n3 c3 H3 hle3 hr3=>?_
  have hpr:=parse_same h2 h3;subst hpr
  have z1:Enc.R H3 [.int .i64 (prs s.l).1,.slice a n c] (prs s.l):=⟨[_],[_],rfl,⟨rfl,prs_range _⟩,⟨a,n,c,rfl,hr2.up hle3⟩⟩
  have z2:Enc.R H3 [.int .i64 (prs s.l).1,.slice a3 n3 c3] (prs s.l):=⟨[_],[_],rfl,⟨rfl,prs_range _⟩,⟨a3,n3,c3,rfl,hr3⟩⟩
  refine⟨fun h=>absurd h (by decide),fun _=>?_⟩;refine⟨fun _=>?_,fun h=>absurd h (by decide)⟩
  refine rsame_spec z1 z2 fun H4 hle4=>?_
  refine kbool (hK H3 (by first | exact hle2.trans hle3 | exact hle3)) ?_;exact (decide_eq_true rfl).symm
end Go.Proofs
end
