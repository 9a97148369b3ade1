/- Part 'M12' of the proof (Fs1, Fs2, Ft3, Ft4, Ft5): lemmas, each with its own conditions in its own statement. -/
import Derived.Lib.Bytealg
import Derived.Test.YthmicpkjickejaaDoorM10
section
/- Plain words: the first place of a blank and of a colon in a text, and how many blanks it has. -/
namespace Go.Proofs
open Go.Sy
open Go.RowKit (Below)
set_option maxRecDepth 20000
theorem countstr_ext {s:List UInt8} {c:Nat} {bx:List (Nat×Bx)} {nx:Nat} {H:Hp} {K:SV→List (Nat×Bx)→Nat→Hp→Prop}
  (hK:K (.v (.int .i64 (s.count c.toUInt8:Nat))) bx nx H):ExtG Tryd.prog 41 [.v (.string (bs s)),.v (.int .u8 c)] bx nx H K:=by
 intro B ρ w hm hl
 have h:∀(w:World),(callFunc 41 #[.string (bs s),.int .u8 c]).run Tryd.prog w=((do pure (.value (←Extern.BytealgCount.count #[.string (bs s),.int .u8 c]))):Sem Next).run Tryd.prog w:=by
  intro w
  kernel_rfl
 refine⟨_,bx,nx,H,ρ,w,?_,hK,rfl,hm,fun k hk=>⟨rfl,rfl⟩,Nat.le_refl _,⟨[],rfl⟩,Le.refl H⟩
 have e:gas ρ [SV.v (.string (bs s)),SV.v (.int .u8 c)]=[.string (bs s),.int .u8 c]:=by simp [gas,ga]
 rw[e,h,Sem.run_bind,Lib.run_countString]
 rfl
theorem indexbyte_ext {s:List UInt8} {c:Nat} {bx:List (Nat×Bx)} {nx:Nat} {H:Hp} {K:SV→List (Nat×Bx)→Nat→Hp→Prop}
  (hK:K (.v (.int .i64 (Lib.indexByte s c.toUInt8))) bx nx H):ExtG Tryd.prog 49 [.v (.string (bs s)),.v (.int .u8 c)] bx nx H K:=by
 intro B ρ w hm hl
 have h:∀(w:World),(callFunc 49 #[.string (bs s),.int .u8 c]).run Tryd.prog w=((do pure (.value (←Extern.BytealgIndexByte.indexByte #[.string (bs s),.int .u8 c]))):Sem Next).run Tryd.prog w:=by
  intro w
  kernel_rfl
 refine⟨_,bx,nx,H,ρ,w,?_,hK,rfl,hm,fun k hk=>⟨rfl,rfl⟩,Nat.le_refl _,⟨[],rfl⟩,Le.refl H⟩
 have e:gas ρ [SV.v (.string (bs s)),SV.v (.int .u8 c)]=[.string (bs s),.int .u8 c]:=by simp [gas,ga]
 rw[e,h,Sem.run_bind,Lib.run_indexByteString]
 rfl
theorem indexbyte_spec {s:List UInt8} {c:Nat} {H:Hp} {K:Value→Hp→Prop} (hK:K (.int .i64 (Lib.indexByte s c.toUInt8)) H):Does Tryd.prog 42 [.string (bs s),.int .u8 c] H K:=by
 refine spec_of cx_ok cx_mix rfl Tryd.func42 Tryd.call42 Tryd.ntmps42 Tryd.results42 rfl rfl ?_;refine indexbyte_ext ?_;exact hK
theorem bl_index {s:List UInt8} {H:Hp} {K:Value→Hp→Prop} (hK:K (.int .i64 (Lib.indexByte s 32)) H):Does Tryd.prog 34 [.string (bs s),.string (bs [32])] H K:=by
 refine spec_of cx_ok cx_mix rfl Tryd.func34 Tryd.call34 Tryd.ntmps34 Tryd.results34 rfl rfl ?_;refine⟨fun h=>?_,fun h=>absurd h (by decide)⟩;refine⟨fun h2=>?_,fun h2=>?_⟩
 ·have h2:[32]=s:=of_decide_eq_true h2;subst h2;exact hK
 refine⟨fun h3=>?_,fun h3=>absurd h3 (by decide)⟩;refine⟨32,⟨by decide,rfl⟩,?_⟩;refine indexbyte_spec (c:=32) ?_;exact hK
theorem bl_sindex {s:List UInt8} {H:Hp} {K:Value→Hp→Prop} (hK:K (.int .i64 (Lib.indexByte s 32)) H):Does Tryd.prog 33 [.string (bs s),.string (bs [32])] H K:=by
 refine spec_of cx_ok cx_mix rfl Tryd.func33 Tryd.call33 Tryd.ntmps33 Tryd.results33 rfl rfl ?_;refine bl_index ?_;exact hK
theorem bl_count {s:List UInt8} {H:Hp} {K:Value→Hp→Prop} (hK:K (.int .i64 (s.count 32:Nat)) H):Does Tryd.prog 32 [.string (bs s),.string (bs [32])] H K:=by
 refine spec_of cx_ok cx_mix rfl Tryd.func32 Tryd.call32 Tryd.ntmps32 Tryd.results32 rfl rfl ?_;refine⟨fun h=>absurd h (by decide),fun h=>?_⟩;refine⟨fun h3=>?_,fun h3=>absurd h3 (by decide)⟩;refine⟨32,⟨by decide,rfl⟩,?_⟩;refine countstr_ext (c:=32) ?_;exact hK
theorem co_index {s:List UInt8} {H:Hp} {K:Value→Hp→Prop} (hK:K (.int .i64 (Lib.indexByte s 58)) H):Does Tryd.prog 34 [.string (bs s),.string (bs [58])] H K:=by
 refine spec_of cx_ok cx_mix rfl Tryd.func34 Tryd.call34 Tryd.ntmps34 Tryd.results34 rfl rfl ?_;refine⟨fun h=>?_,fun h=>absurd h (by decide)⟩;refine⟨fun h2=>?_,fun h2=>?_⟩
 ·have h2:[58]=s:=of_decide_eq_true h2;subst h2;exact hK
 refine⟨fun h3=>?_,fun h3=>absurd h3 (by decide)⟩;refine⟨58,⟨by decide,rfl⟩,?_⟩;refine indexbyte_spec (c:=58) ?_;exact hK
end Go.Proofs
end
section
/- Plain words: strings.Split at a blank. -/
namespace Go.Proofs
open Go.Sy
open Go.RowKit (Below)
set_option maxRecDepth 20000
theorem idxB:∀r:List UInt8,0<r.count 32→∃x y,r=x++32::y∧freeS 32 x∧Lib.indexByte r 32=x.length
 | [],h=>by simp at h
 | c::r,h=>by
  by_cases e:c=32
  ·exact⟨[],r,by rw[e];rfl,fun c hc=>by simp at hc,by rw[Lib.indexByte,e];rfl⟩
  ·rw[List.count_cons_of_ne e]at h;obtain⟨x,y,h1,h2,h3⟩:=idxB r h;refine⟨c::x,y,by rw[h1];rfl,fun d hd=>?_,?_⟩
   ·rcases List.mem_cons.1 hd with hd | hd
    ·rw[hd];exact e
    ·exact h2 d hd
   ·have e1:(c == 32)=false:=by simpa using e
    have e2:(((x.length:Nat):Int) == -1)=false:=by rw[beq_eq_false_iff_ne];omega
    rw[Lib.indexByte,e1,h3,e2];simp
theorem freeB {r:List UInt8} (h:r.count 32=0):freeS 32 r:=fun c hc e=>by
 rw[e]at hc;exact absurd h (by have:=List.count_pos_iff.2 hc;omega)
theorem spB_le:∀(s:List UInt8) (p:Str),p∈spB s→p.l.length≤s.length
 | [],p,h=>by
  rw[spB,List.mem_singleton]at h;rw[h];exact Nat.le_refl _
 | c::r,p,h=>by
  rw[spB]at h;split at h
  ·rcases List.mem_cons.1 h with h | h
   ·rw[h];exact Nat.zero_le _
   ·exact Nat.le_succ_of_le (spB_le r p h)
  ·split at h
   ·rw[List.mem_singleton]at h;rw[h];simp
   ·next x t e =>
    rcases List.mem_cons.1 h with h | h
    ·rw[h];exact Nat.succ_le_succ (spB_le r x (by rw[e];exact List.mem_cons_self ..))
    ·exact Nat.le_succ_of_le (spB_le r p (by rw[e];exact List.mem_cons_of_mem _ h))
theorem gensplB_spec {s:List UInt8} {H:Hp} {K:Value→Hp→Prop} (hs:s.length≤1000000)
  (hK:∀a n c H',Le H H'→RL H' a n c (spB s)→K (.slice a n c) H'):Does Tryd.prog 23 [.string (bs s),.string (bs [32]),.int .i64 0,.int .i64 (-1)] H K:=by
 have hN:=spB_len s
 obtain⟨N,eN⟩:∃N:Nat,N=(spB s).length:=⟨_,rfl⟩
 have hc:s.count 32≤s.length:=List.count_le_length;refine spec_of cx_ok cx_mix rfl Tryd.func23 Tryd.call23 Tryd.ntmps23 Tryd.results23 rfl rfl ?_;refine⟨fun h=>absurd h (by decide),fun _=>?_⟩;refine⟨fun h=>absurd h (by decide),fun _=>?_⟩;refine⟨fun _=>?_,fun h=>absurd h (by decide)⟩;refine bl_count ?_
 have eNm:SV.v (.int .i64 (min (((s.count 32:Nat):Int)+1) ((s.length:Int)+1) - 1))=SV.v (.int .i64 ((N:Int) - 1)):=by
  have:min (((s.count 32:Nat):Int)+1) ((s.length:Int)+1) - 1=(N:Int) - 1:=by omega
  rw[this]
 have esl:(sl (bs s)).length=s.length:=rfl;refine⟨⟨by omega,by omega⟩,?_⟩;refine⟨⟨by omega,by omega⟩,?_⟩;refine⟨⟨rfl,by omega,by show _*(16:Int)≤_;omega,by omega⟩,?_⟩;refine⟨⟨by omega,by omega⟩,?_⟩
 obtain⟨css,hcss⟩:∃css:List Str→Nat→List (List Value),css=fun P k=>P.map strC++List.replicate k [.string (bs [])]:=⟨_,rfl⟩
 refine⟨List Str×List UInt8,fun q=>⟨[(0,.v (.string (bs q.2))),(1,.v (.string (bs [32]))),(2,.v (.int .i64 0)),(3,.v (.int .i64 ((N:Int) - 1))),(9,.own 0),(10,.v (.int .i64 (q.1.length:Nat)))],[(0,.row 9 1 (css q.1 (N - q.1.length)))],1⟩,
  fun q H'=>Le H H'∧spB s=q.1++spB q.2∧q.2.length≤s.length,fun q=>q.2.length,⟨([],s),[(0,0)],?_,Le.refl H,rfl,Nat.le_refl _⟩,?_⟩
 ·have e0:List.replicate (min (((s.count 32:Nat):Int)+1) ((s.length:Int)+1)).toNat [Value.string (bs [])]=css [] (N - 0):=by
   have:(min (((s.count 32:Nat):Int)+1) ((s.length:Int)+1)).toNat=N - 0:=by omega
   rw[this,hcss];rfl
  exact⟨⟨rfl,rfl,rfl,eNm,rfl,rfl,trivial⟩,⟨e0,trivial⟩⟩
 rintro⟨P,r⟩ H1 _ ⟨hle,hsp,hr⟩;dsimp only at hsp hr;have hlen:=congrArg List.length hsp;have hrl:=spB_len r;rw[List.length_append]at hlen;refine⟨fun h=>?_,fun h=>?_⟩
 ·have h:(P.length:Int)<(N:Int) - 1:=dt h
  have hpos:0<r.count 32:=by omega
  obtain⟨x,y,e1,e2,e3⟩:=idxB r hpos;refine bl_sindex ?_;rw[e3];refine⟨fun h1=>absurd (dt h1) (by omega),fun _=>?_⟩
  have hlr:r.length=x.length+(y.length+1):=by rw[e1];simp
  have esr:(sl (bs r)).length=r.length:=rfl;have es1:(sl (bs [32])).length=1:=rfl
  have hcl:(css P (N - P.length)).length=N:=by rw[hcss];simp;omega
  refine⟨⟨by omega,by omega⟩,?_⟩;refine⟨⟨by omega,by omega,by dsimp only;omega⟩,?_⟩;refine⟨⟨by omega,by dsimp only;omega⟩,?_⟩
  have hx:(css P (N - P.length))[P.length]?=some [.string (bs [])]:=by
   rw[hcss];dsimp only;rw[List.getElem?_append_right (by simp)];rw[List.length_map,Nat.sub_self,List.getElem?_replicate,if_pos (by omega)]
  refine⟨_,hx,?_⟩;refine⟨⟨by omega,by omega⟩,?_⟩;refine⟨⟨by omega,by show ((x.length:Int)+((sl (bs [32])).length:Int))≤(r.length:Int);omega,Int.le_refl _⟩,?_⟩;refine⟨show -9223372036854775808≤(P.length:Int)+1∧(P.length:Int)+1≤9223372036854775807 by omega,?_⟩
  have e4:List.drop ((x.length:Int)+((sl (bs [32])).length:Int)).toNat (List.take ((r.length:Nat):Int).toNat r)=y:=by
   have h1:((x.length:Int)+((sl (bs [32])).length:Int)).toNat=x.length+1:=by omega
   rw[h1,Int.toNat_natCast,List.take_length,e1,List.drop_append];simp
  have e5:List.drop (Int.toNat 0) (List.take ((x.length:Int)+0).toNat r)=x:=by
   rw[Int.add_zero,Int.toNat_natCast,e1];simp
  have e6:(css P (N - P.length)).set P.length [.string (bs x)]=css (P++[⟨x⟩]) (N - (P++[(⟨x⟩:Str)]).length):=by
   have h1:N - P.length=(N - (P++[(⟨x⟩:Str)]).length)+1:=by rw[List.length_append,List.length_singleton];omega
   rw[h1,hcss];dsimp only;rw[List.set_append_right _ _ (by simp),List.length_map,Nat.sub_self,List.replicate_succ,List.set_cons_zero,List.map_append,List.append_assoc]
   rfl
  have e7:SV.v (.string (bs (List.drop ((x.length:Int)+((sl (bs [32])).length:Int)).toNat (List.take ((r.length:Nat):Int).toNat r))))=SV.v (.string (bs y)):=by rw[e4]
  have e8:SV.v (.int .i64 ((P.length:Int)+1))=SV.v (.int .i64 ((P++[(⟨x⟩:Str)]).length:Nat)):=by rw[List.length_append,List.length_singleton];simp
  refine⟨(P++[⟨x⟩],y),[(0,0)],?_,⟨hle,?_,?_⟩,?_⟩
  ·refine⟨⟨e7,rfl,rfl,rfl,rfl,e8,trivial⟩,⟨?_,trivial⟩⟩;exact (congrArg (fun z=>(css P (N - P.length)).set P.length [Value.string (bs z)]) e5).trans e6
  ·dsimp only;rw[hsp,e1,spB_line _ _ e2];simp
  ·dsimp only;omega
  ·dsimp only;omega
 ·have h:¬(P.length:Int)<(N:Int) - 1:=df h
  have hpos:r.count 32=0:=by omega
  have hfr:=freeB hpos
  have hNP:N=P.length+1:=by omega
  rw[spB_free r hfr]at hsp
  have hx:(css P (N - P.length))[P.length]?=some [.string (bs [])]:=by
   rw[hcss];dsimp only;rw[List.getElem?_append_right (by simp)];rw[List.length_map,Nat.sub_self,List.getElem?_replicate,if_pos (by omega)]
  have hcl:(css P (N - P.length)).length=N:=by rw[hcss];simp;omega
  have e6:(css P (N - P.length)).set P.length [.string (bs r)]=(spB s).map strC:=by
   have h1:N - P.length=0+1:=by omega
   rw[h1,hcss,hsp];dsimp only;rw[List.set_append_right _ _ (by simp),List.length_map,Nat.sub_self,List.replicate_succ,List.set_cons_zero,List.map_append]
   rfl
  refine⟨⟨by omega,by show (P.length:Int)<((css P (N - P.length)).length:Int);omega⟩,?_⟩;refine⟨_,hx,?_⟩;refine⟨show -9223372036854775808≤(P.length:Int)+1∧(P.length:Int)+1≤9223372036854775807 by omega,?_⟩
  have e9:((css P (N - P.length)).set P.length [.string (bs r)]).take ((P.length:Int)+1).toNat=(spB s).map strC:=by
   have h1:((P.length:Int)+1).toNat=((spB s).map strC).length:=by rw[List.length_map,←eN];omega
   rw[e6,h1,List.take_length]
  refine .inl ⟨⟨by omega,by show (P.length:Int)+1≤((((css P (N - P.length)).set P.length [.string (bs r)]).length:Nat):Int);rw[List.length_set];omega⟩,?_⟩;intro x H2 hle2 hx;have hrc:=rc_strs (l:=spB s) (H:=H2) (fun p hp=>by have:=spB_le s p hp;omega);have hx2:RowAt H2 x 1 (((css P (N - P.length)).set P.length [.string (bs r)]).take ((P.length:Int)+1).toNat):=hx;rw[e9]at hx2;obtain⟨a,n1,c1,e,hr⟩:=RL.of_row (α:=Str) hx2 hrc;have h9:=hK a n1 c1 H2 (hle.trans hle2) hr;rw[←e]at h9;exact h9
theorem splB_spec {s:List UInt8} {H:Hp} {K:Value→Hp→Prop} (hs:s.length≤1000000)
  (hK:∀a n c H',Le H H'→RL H' a n c (spB s)→K (.slice a n c) H'):Does Tryd.prog 13 [.string (bs s),.string (bs [32])] H K:=by
 refine spec_of cx_ok cx_mix rfl Tryd.func13 Tryd.call13 Tryd.ntmps13 Tryd.results13 rfl rfl ?_
 refine gensplB_spec hs fun a n c H' hle hr=>?_
 exact hK a n c H' hle hr
end Go.Proofs
end
section
/- Plain words: the number of a text, as fair reads it; a text cut at its first colon. -/
namespace Go.Proofs
open Go.Sy
set_option maxRecDepth 20000
def neg1:List UInt8→Bool
 | []=>false
 | c::_=>decide (c=45)
theorem kboolF {a b:Bool} {H:Hp} {K:Value→Hp→Prop} (h:K (.bool a) H) (e:a=b):K (.bool b) H:=by rw[←e];exact h
theorem hasminus_spec {s:List UInt8} (h1:s.length≤1000000000) {H:Hp} {K:Value→Hp→Prop} (hK:K (.bool (neg1 s)) H):Does Tryd.prog 35 [.string (bs s),.string (bs [45])] H K:=by
 have e1:(sl (bs s)).length=s.length:=rfl;have e2:(sl (bs [45])).length=1:=rfl;refine spec_of cx_ok cx_mix rfl Tryd.func35 Tryd.call35 Tryd.ntmps35 Tryd.results35 rfl rfl ?_;refine⟨fun h3=>?_,fun h3=>?_⟩
 ·have h3:=dt h3;refine⟨⟨by omega,by omega,by omega⟩,?_⟩
  cases s with
  | nil=>rw[e1,e2]at h3;simp at h3
  | cons c r =>
   refine kboolF hK ?_;show decide (c=45)=decide (List.drop 0 (List.take 1 (c::r))=[45]);simp
 ·have h3:=df h3
  cases s with
  | nil=>exact hK
  | cons c r=>exfalso;rw[e1,e2]at h3;simp at h3;omega
theorem hasminus2_spec {s:List UInt8} (h1:s.length≤1000000000) {H:Hp} {K:Value→Hp→Prop} (hK:K (.bool (neg1 s)) H):Does Tryd.prog 25 [.string (bs s),.string (bs [45])] H K:=by
 refine spec_of cx_ok cx_mix rfl Tryd.func25 Tryd.call25 Tryd.ntmps25 Tryd.results25 rfl rfl ?_;refine hasminus_spec h1 ?_;exact hK
theorem rd_step {s:List UInt8} {n k:Nat} (h:k<s.length) (h3:48≤s[k].toNat) (h4:s[k].toNat≤57):rd n (s.drop k)=rd ((10*n+(s[k].toNat - 48)) % 18446744073709551616) (s.drop (k+1)):=by
 have e:isD s[k]=true:=by rw[isD];simp [h3,h4]
 rw[List.drop_eq_getElem_cons h,rd,if_pos e]
theorem rd_stop {s:List UInt8} {n k:Nat} (h:k<s.length) (h3:¬(48≤s[k].toNat∧s[k].toNat≤57)):rd n (s.drop k)=n:=by
 have e:¬isD s[k]=true:=by
  intro e;rw[isD]at e;simp at e;exact h3 e
 rw[List.drop_eq_getElem_cons h,rd,if_neg e]
theorem rd_end {s:List UInt8} {n k:Nat} (h:¬k<s.length):rd n (s.drop k)=n:=by
 rw[List.drop_of_length_le (by omega)]
 rfl
theorem num_eq (s:List UInt8):num s=if neg1 s then sgn ((18446744073709551616 - rd 0 (s.drop 1)) % 18446744073709551616) else sgn (rd 0 s):=by
 cases s with
 | nil=>rfl
 | cons c r =>
  rw[num,neg1]
  by_cases e:c=45
  ·simp [e]
  ·simp [e]
theorem sgn_wrap {n:Nat} (h:n<18446744073709551616):IntKind.i64.wrap (n:Int)=sgn n:=by
 rw[IntKind.wrap_i64,sgn]
 split<;>omega
theorem number_spec {s:List UInt8} (h1:s.length≤1000000000) {H:Hp} {K:Value→Hp→Prop} (hK:∀H',Le H H'→K (.int .i64 (num s)) H'):Does Tryd.prog 15 [.string (bs s)] H K:=by
 refine spec_of cxw_ok cx_mix rfl Tryd.func15 Tryd.call15 Tryd.ntmps15 Tryd.results15 rfl rfl ?_
 refine .inr ⟨Nat×Nat,fun _=>0,fun z=>⟨[(0,.v (.string (bs s))),(3,.v (.int .u64 (z.1:Nat))),(4,.v (.int .i64 (z.2:Nat))),(5,.v (.bool (neg1 s)))],[],0⟩,
  fun z H'=>Le H H'∧z.1<18446744073709551616∧z.2≤s.length∧rd 0 (s.drop (if neg1 s then 1 else 0))=rd z.1 (s.drop z.2),fun z=>s.length - z.2,?_,?_⟩
 ·have hK:=hK H (Le.refl H)
  have hn:0<18446744073709551616:=by decide
  refine hasminus2_spec h1 ?_;refine⟨fun hb=>?_,fun hb=>?_⟩
  ·have hr:rd 0 (s.drop (if neg1 s then 1 else 0))=rd 0 (s.drop 1):=by rw[hb,if_pos rfl]
   refine⟨fun h2=>?_,fun h2=>?_⟩
   ·have h2:1<s.length:=by have:=dt h2;have e:(sl (bs s)).length=s.length:=rfl;omega
    have hg:=List.getElem?_eq_getElem h2;refine⟨_,⟨by omega,hg⟩,?_⟩;refine⟨fun h3=>?_,fun h3=>?_⟩
    ·have h3:=dt h3;refine⟨_,⟨by omega,hg⟩,?_⟩;refine⟨fun h4=>?_,fun h4=>?_⟩
     ·have h4:=dt h4;refine⟨_,⟨by omega,hg⟩,?_⟩
      have e3:IntKind.u64.wrap (IntKind.u64.wrap (10*((0:Nat):Int))+IntKind.u64.wrap (IntKind.u8.wrap (((s[1].toNat:Nat):Int) - 48)))=(((10*0+(s[1].toNat - 48)) % 18446744073709551616:Nat):Int):=by
       rw[IntKind.wrap_u64,IntKind.wrap_u64,IntKind.wrap_u64,IntKind.wrap_u8];omega
      have e4:IntKind.i64.wrap (((1:Nat):Int)+1)=(((1+1:Nat)):Int):=by rw[IntKind.wrap_i64];omega
      have e3':SV.v (.int .u64 (IntKind.u64.wrap (IntKind.u64.wrap (10*((0:Nat):Int))+IntKind.u64.wrap (IntKind.u8.wrap (((s[1].toNat:Nat):Int) - 48)))))=SV.v (.int .u64 (((10*0+(s[1].toNat - 48)) % 18446744073709551616:Nat):Int)):=by rw[e3]
      have e4':SV.v (.int .i64 (IntKind.i64.wrap (((1:Nat):Int)+1)))=SV.v (.int .i64 (((1+1:Nat)):Int)):=by rw[e4]
      refine⟨((10*0+(s[1].toNat - 48)) % 18446744073709551616,1+1),[],rfl,?_,⟨Le.refl H,Nat.mod_lt _ (by decide),h2,hr.trans (rd_step h2 (by omega) (by omega))⟩⟩;exact⟨⟨rfl,e3',e4',rfl,trivial⟩,trivial⟩
     ·have hst:rd 0 (s.drop 1)=0:=rd_stop h2 (by have:=df h4;omega);have hrn:rd 0 (s.drop (if neg1 s then 1 else 0))=0:=hr.trans hst;refine⟨fun hb=>?_,fun hb=>?_⟩
      ·rw[hb,if_pos rfl]at hrn
       have e1:IntKind.i64.wrap (IntKind.u64.wrap (0 - ((0:Nat):Int)))=num s:=by
        have e0:IntKind.u64.wrap (0 - ((0:Nat):Int))=(((18446744073709551616 - 0) % 18446744073709551616:Nat):Int):=by rw[IntKind.wrap_u64];omega
        rw[num_eq,hb,if_pos rfl,hrn,e0,sgn_wrap (by omega)]
       rw[←e1]at hK;exact hK
      ·rw[hb,if_neg (by decide)]at hrn
       have e1:IntKind.i64.wrap ((0:Nat):Int)=num s:=by
        rw[List.drop_zero]at hrn;rw[num_eq,hb,if_neg (by decide),hrn,sgn_wrap (by omega)]
       rw[←e1]at hK;exact hK
    ·have hst:rd 0 (s.drop 1)=0:=rd_stop h2 (by have:=df h3;omega);have hrn:rd 0 (s.drop (if neg1 s then 1 else 0))=0:=hr.trans hst;refine⟨fun hb=>?_,fun hb=>?_⟩
     ·rw[hb,if_pos rfl]at hrn
      have e1:IntKind.i64.wrap (IntKind.u64.wrap (0 - ((0:Nat):Int)))=num s:=by
       have e0:IntKind.u64.wrap (0 - ((0:Nat):Int))=(((18446744073709551616 - 0) % 18446744073709551616:Nat):Int):=by rw[IntKind.wrap_u64];omega
       rw[num_eq,hb,if_pos rfl,hrn,e0,sgn_wrap (by omega)]
      rw[←e1]at hK;exact hK
     ·rw[hb,if_neg (by decide)]at hrn
      have e1:IntKind.i64.wrap ((0:Nat):Int)=num s:=by
       rw[List.drop_zero]at hrn;rw[num_eq,hb,if_neg (by decide),hrn,sgn_wrap (by omega)]
      rw[←e1]at hK;exact hK
   ·have hst:rd 0 (s.drop 1)=0:=rd_end (by have:=df h2;have e:(sl (bs s)).length=s.length:=rfl;omega);have hrn:rd 0 (s.drop (if neg1 s then 1 else 0))=0:=hr.trans hst;refine⟨fun hb=>?_,fun hb=>?_⟩
    ·rw[hb,if_pos rfl]at hrn
     have e1:IntKind.i64.wrap (IntKind.u64.wrap (0 - ((0:Nat):Int)))=num s:=by
      have e0:IntKind.u64.wrap (0 - ((0:Nat):Int))=(((18446744073709551616 - 0) % 18446744073709551616:Nat):Int):=by rw[IntKind.wrap_u64];omega
      rw[num_eq,hb,if_pos rfl,hrn,e0,sgn_wrap (by omega)]
     rw[←e1]at hK;exact hK
    ·rw[hb,if_neg (by decide)]at hrn
     have e1:IntKind.i64.wrap ((0:Nat):Int)=num s:=by
      rw[List.drop_zero]at hrn;rw[num_eq,hb,if_neg (by decide),hrn,sgn_wrap (by omega)]
     rw[←e1]at hK;exact hK
  ·have hr:rd 0 (s.drop (if neg1 s then 1 else 0))=rd 0 (s.drop 0):=by rw[hb];rfl
   refine⟨fun h2=>?_,fun h2=>?_⟩
   ·have h2:0<s.length:=by have:=dt h2;have e:(sl (bs s)).length=s.length:=rfl;omega
    have hg:=List.getElem?_eq_getElem h2;refine⟨_,⟨by omega,hg⟩,?_⟩;refine⟨fun h3=>?_,fun h3=>?_⟩
    ·have h3:=dt h3;refine⟨_,⟨by omega,hg⟩,?_⟩;refine⟨fun h4=>?_,fun h4=>?_⟩
     ·have h4:=dt h4;refine⟨_,⟨by omega,hg⟩,?_⟩
      have e3:IntKind.u64.wrap (IntKind.u64.wrap (10*((0:Nat):Int))+IntKind.u64.wrap (IntKind.u8.wrap (((s[0].toNat:Nat):Int) - 48)))=(((10*0+(s[0].toNat - 48)) % 18446744073709551616:Nat):Int):=by
       rw[IntKind.wrap_u64,IntKind.wrap_u64,IntKind.wrap_u64,IntKind.wrap_u8];omega
      have e4:IntKind.i64.wrap (((0:Nat):Int)+1)=(((0+1:Nat)):Int):=by rw[IntKind.wrap_i64];omega
      have e3':SV.v (.int .u64 (IntKind.u64.wrap (IntKind.u64.wrap (10*((0:Nat):Int))+IntKind.u64.wrap (IntKind.u8.wrap (((s[0].toNat:Nat):Int) - 48)))))=SV.v (.int .u64 (((10*0+(s[0].toNat - 48)) % 18446744073709551616:Nat):Int)):=by rw[e3]
      have e4':SV.v (.int .i64 (IntKind.i64.wrap (((0:Nat):Int)+1)))=SV.v (.int .i64 (((0+1:Nat)):Int)):=by rw[e4]
      refine⟨((10*0+(s[0].toNat - 48)) % 18446744073709551616,0+1),[],rfl,?_,⟨Le.refl H,Nat.mod_lt _ (by decide),h2,hr.trans (rd_step h2 (by omega) (by omega))⟩⟩;exact⟨⟨rfl,e3',e4',rfl,trivial⟩,trivial⟩
     ·have hst:rd 0 (s.drop 0)=0:=rd_stop h2 (by have:=df h4;omega);have hrn:rd 0 (s.drop (if neg1 s then 1 else 0))=0:=hr.trans hst;refine⟨fun hb=>?_,fun hb=>?_⟩
      ·rw[hb,if_pos rfl]at hrn
       have e1:IntKind.i64.wrap (IntKind.u64.wrap (0 - ((0:Nat):Int)))=num s:=by
        have e0:IntKind.u64.wrap (0 - ((0:Nat):Int))=(((18446744073709551616 - 0) % 18446744073709551616:Nat):Int):=by rw[IntKind.wrap_u64];omega
        rw[num_eq,hb,if_pos rfl,hrn,e0,sgn_wrap (by omega)]
       rw[←e1]at hK;exact hK
      ·rw[hb,if_neg (by decide)]at hrn
       have e1:IntKind.i64.wrap ((0:Nat):Int)=num s:=by
        rw[List.drop_zero]at hrn;rw[num_eq,hb,if_neg (by decide),hrn,sgn_wrap (by omega)]
       rw[←e1]at hK;exact hK
    ·have hst:rd 0 (s.drop 0)=0:=rd_stop h2 (by have:=df h3;omega);have hrn:rd 0 (s.drop (if neg1 s then 1 else 0))=0:=hr.trans hst;refine⟨fun hb=>?_,fun hb=>?_⟩
     ·rw[hb,if_pos rfl]at hrn
      have e1:IntKind.i64.wrap (IntKind.u64.wrap (0 - ((0:Nat):Int)))=num s:=by
       have e0:IntKind.u64.wrap (0 - ((0:Nat):Int))=(((18446744073709551616 - 0) % 18446744073709551616:Nat):Int):=by rw[IntKind.wrap_u64];omega
       rw[num_eq,hb,if_pos rfl,hrn,e0,sgn_wrap (by omega)]
      rw[←e1]at hK;exact hK
     ·rw[hb,if_neg (by decide)]at hrn
      have e1:IntKind.i64.wrap ((0:Nat):Int)=num s:=by
       rw[List.drop_zero]at hrn;rw[num_eq,hb,if_neg (by decide),hrn,sgn_wrap (by omega)]
      rw[←e1]at hK;exact hK
   ·have hst:rd 0 (s.drop 0)=0:=rd_end (by have:=df h2;have e:(sl (bs s)).length=s.length:=rfl;omega);have hrn:rd 0 (s.drop (if neg1 s then 1 else 0))=0:=hr.trans hst;refine⟨fun hb=>?_,fun hb=>?_⟩
    ·rw[hb,if_pos rfl]at hrn
     have e1:IntKind.i64.wrap (IntKind.u64.wrap (0 - ((0:Nat):Int)))=num s:=by
      have e0:IntKind.u64.wrap (0 - ((0:Nat):Int))=(((18446744073709551616 - 0) % 18446744073709551616:Nat):Int):=by rw[IntKind.wrap_u64];omega
      rw[num_eq,hb,if_pos rfl,hrn,e0,sgn_wrap (by omega)]
     rw[←e1]at hK;exact hK
    ·rw[hb,if_neg (by decide)]at hrn
     have e1:IntKind.i64.wrap ((0:Nat):Int)=num s:=by
      rw[List.drop_zero]at hrn;rw[num_eq,hb,if_neg (by decide),hrn,sgn_wrap (by omega)]
     rw[←e1]at hK;exact hK
 ·rintro⟨n,k⟩ H1 _ ⟨hle,hn,hk,hr⟩;have hK:=hK H1 hle;dsimp only at hn hk hr;refine⟨fun h2=>?_,fun h2=>?_⟩
  ·have h2:k<s.length:=by have:=dt h2;have e:(sl (bs s)).length=s.length:=rfl;omega
   have hg:=List.getElem?_eq_getElem h2;refine⟨_,⟨by omega,hg⟩,?_⟩;refine⟨fun h3=>?_,fun h3=>?_⟩
   ·have h3:=dt h3;refine⟨_,⟨by omega,hg⟩,?_⟩;refine⟨fun h4=>?_,fun h4=>?_⟩
    ·have h4:=dt h4;refine⟨_,⟨by omega,hg⟩,?_⟩
     have e3:IntKind.u64.wrap (IntKind.u64.wrap (10*((n:Nat):Int))+IntKind.u64.wrap (IntKind.u8.wrap (((s[k].toNat:Nat):Int) - 48)))=(((10*n+(s[k].toNat - 48)) % 18446744073709551616:Nat):Int):=by
      rw[IntKind.wrap_u64,IntKind.wrap_u64,IntKind.wrap_u64,IntKind.wrap_u8];omega
     have e4:IntKind.i64.wrap (((k:Nat):Int)+1)=(((k+1:Nat)):Int):=by rw[IntKind.wrap_i64];omega
     have e3':SV.v (.int .u64 (IntKind.u64.wrap (IntKind.u64.wrap (10*((n:Nat):Int))+IntKind.u64.wrap (IntKind.u8.wrap (((s[k].toNat:Nat):Int) - 48)))))=SV.v (.int .u64 (((10*n+(s[k].toNat - 48)) % 18446744073709551616:Nat):Int)):=by rw[e3]
     have e4':SV.v (.int .i64 (IntKind.i64.wrap (((k:Nat):Int)+1)))=SV.v (.int .i64 (((k+1:Nat)):Int)):=by rw[e4]
     refine⟨((10*n+(s[k].toNat - 48)) % 18446744073709551616,k+1),[],rfl,?_,⟨hle,Nat.mod_lt _ (by decide),h2,hr.trans (rd_step h2 (by omega) (by omega))⟩,by dsimp only;omega⟩;exact⟨⟨rfl,e3',e4',rfl,trivial⟩,trivial⟩
    ·have hst:rd n (s.drop k)=n:=rd_stop h2 (by have:=df h4;omega);have hrn:rd 0 (s.drop (if neg1 s then 1 else 0))=n:=hr.trans hst;refine⟨fun hb=>?_,fun hb=>?_⟩
     ·rw[hb,if_pos rfl]at hrn
      have e1:IntKind.i64.wrap (IntKind.u64.wrap (0 - ((n:Nat):Int)))=num s:=by
       have e0:IntKind.u64.wrap (0 - ((n:Nat):Int))=(((18446744073709551616 - n) % 18446744073709551616:Nat):Int):=by rw[IntKind.wrap_u64];omega
       rw[num_eq,hb,if_pos rfl,hrn,e0,sgn_wrap (by omega)]
      rw[←e1]at hK;exact hK
     ·rw[hb,if_neg (by decide)]at hrn
      have e1:IntKind.i64.wrap ((n:Nat):Int)=num s:=by
       rw[List.drop_zero]at hrn;rw[num_eq,hb,if_neg (by decide),hrn,sgn_wrap (by omega)]
      rw[←e1]at hK;exact hK
   ·have hst:rd n (s.drop k)=n:=rd_stop h2 (by have:=df h3;omega);have hrn:rd 0 (s.drop (if neg1 s then 1 else 0))=n:=hr.trans hst;refine⟨fun hb=>?_,fun hb=>?_⟩
    ·rw[hb,if_pos rfl]at hrn
     have e1:IntKind.i64.wrap (IntKind.u64.wrap (0 - ((n:Nat):Int)))=num s:=by
      have e0:IntKind.u64.wrap (0 - ((n:Nat):Int))=(((18446744073709551616 - n) % 18446744073709551616:Nat):Int):=by rw[IntKind.wrap_u64];omega
      rw[num_eq,hb,if_pos rfl,hrn,e0,sgn_wrap (by omega)]
     rw[←e1]at hK;exact hK
    ·rw[hb,if_neg (by decide)]at hrn
     have e1:IntKind.i64.wrap ((n:Nat):Int)=num s:=by
      rw[List.drop_zero]at hrn;rw[num_eq,hb,if_neg (by decide),hrn,sgn_wrap (by omega)]
     rw[←e1]at hK;exact hK
  ·have hst:rd n (s.drop k)=n:=rd_end (by have:=df h2;have e:(sl (bs s)).length=s.length:=rfl;omega);have hrn:rd 0 (s.drop (if neg1 s then 1 else 0))=n:=hr.trans hst;refine⟨fun hb=>?_,fun hb=>?_⟩
   ·rw[hb,if_pos rfl]at hrn
    have e1:IntKind.i64.wrap (IntKind.u64.wrap (0 - ((n:Nat):Int)))=num s:=by
     have e0:IntKind.u64.wrap (0 - ((n:Nat):Int))=(((18446744073709551616 - n) % 18446744073709551616:Nat):Int):=by rw[IntKind.wrap_u64];omega
     rw[num_eq,hb,if_pos rfl,hrn,e0,sgn_wrap (by omega)]
    rw[←e1]at hK;exact hK
   ·rw[hb,if_neg (by decide)]at hrn
    have e1:IntKind.i64.wrap ((n:Nat):Int)=num s:=by
     rw[List.drop_zero]at hrn;rw[num_eq,hb,if_neg (by decide),hrn,sgn_wrap (by omega)]
    rw[←e1]at hK;exact hK
end Go.Proofs
end
section
/- Plain words: a text cut at its first colon, and the picks of a text. -/
namespace Go.Proofs
open Go.Sy
set_option maxRecDepth 20000
theorem idxC:∀r:List UInt8,¬freeS 58 r→Lib.indexByte r 58=(bef r).length∧r=bef r++58::aft r
 | [],h=>absurd (fun c hc=>by simp at hc) h
 | c::r,h=>by
  by_cases e:c=58
  ·rw[bef,if_pos e,aft,if_pos e,Lib.indexByte,e];exact⟨rfl,rfl⟩
  ·have h1:¬freeS 58 r:=fun h2=>h (fun d hd=>by
    rcases List.mem_cons.1 hd with hd | hd
    ·rw[hd];exact e
    ·exact h2 d hd)
   obtain⟨h2,h3⟩:=idxC r h1
   have e1:(c == 58)=false:=by simpa using e
   have e2:((((bef r).length:Nat):Int) == -1)=false:=by rw[beq_eq_false_iff_ne];omega
   rw[bef,if_neg e,aft,if_neg e,Lib.indexByte,e1,h2,e2];refine⟨by simp,?_⟩;rw[List.cons_append,←h3]
theorem idxN:∀r:List UInt8,freeS 58 r→Lib.indexByte r 58 = -1
 | [],_=>rfl
 | c::r,h=>by
  have e:c≠58:=h c (List.mem_cons_self ..)
  have e1:(c == 58)=false:=by simpa using e
  rw[Lib.indexByte,e1,idxN r fun d hd=>h d (List.mem_cons_of_mem _ hd)]
  rfl
theorem take_at {s:List UInt8} (x y:List UInt8) (h:s=x++58::y):List.drop (Int.toNat 0) (List.take x.length s)=x:=by
 subst h;simp
theorem drop_at {s:List UInt8} (x y:List UInt8) (h:s=x++58::y):List.drop (x.length+1) s=y:=by
 subst h;rw[List.drop_append];simp
theorem slcutC_spec {s:List UInt8} (h1:s.length≤1000000000) {H:Hp} {K:Value→Hp→Prop}
  (hK:∀b:Bool,K (.tuple #[.string (bs (bef s)),.string (bs (aft s)),.bool b]) H):Does Tryd.prog 24 [.string (bs s),.string (bs [58])] H K:=by
 refine spec_of cx_ok cx_mix rfl Tryd.func24 Tryd.call24 Tryd.ntmps24 Tryd.results24 rfl rfl ?_;refine co_index ?_;have e1:(sl (bs [58])).length=1:=rfl
 by_cases hf:freeS 58 s
 ·rw[idxN s hf];refine⟨fun h=>absurd h (by decide),fun _=>?_⟩;have hK:=hK false;rw[bef_free s hf,aft_free s hf]at hK;exact hK
 ·obtain⟨h2,h3⟩:=idxC s hf;rw[h2]
  have hl:s.length=(bef s).length+((aft s).length+1):=by
   have:=congrArg List.length h3
   simpa using this
  refine⟨fun _=>?_,fun h=>absurd (df h) (by omega)⟩;refine⟨some ([],[0,1,2,3,4,5,6,7,8,9,10,11]),by kernel_rfl,?_⟩;have es:(sl (bs s)).length=s.length:=rfl;refine⟨⟨by omega,by omega,by show ((bef s).length:Int)≤(s.length:Int);omega⟩,?_⟩;refine⟨⟨by omega,by omega⟩,?_⟩;refine⟨⟨by omega,by show ((bef s).length:Int)+1≤(s.length:Int);omega,Int.le_refl _⟩,?_⟩;have hK:=hK true
  have e4:List.drop (Int.toNat 0) (List.take (((bef s).length:Nat):Int).toNat s)=bef s:=by
   rw[Int.toNat_natCast];exact take_at _ _ h3
  have e5:List.drop ((((bef s).length:Nat):Int)+((sl (bs [58])).length:Int)).toNat (List.take (((s.length:Nat):Int)).toNat s)=aft s:=by
   have h4:((((bef s).length:Nat):Int)+((sl (bs [58])).length:Int)).toNat=(bef s).length+1:=by omega
   rw[h4,Int.toNat_natCast,List.take_length];exact drop_at _ _ h3
  have e6:Value.tuple #[.string (bs (List.drop (Int.toNat 0) (List.take (((bef s).length:Nat):Int).toNat s))),.string (bs (List.drop ((((bef s).length:Nat):Int)+((sl (bs [58])).length:Int)).toNat (List.take (((s.length:Nat):Int)).toNat s))),.bool true] = .tuple #[.string (bs (bef s)),.string (bs (aft s)),.bool true]:=by rw[e4,e5]
  rw[←e6]at hK;exact hK
theorem cutC_spec {s:List UInt8} (h1:s.length≤1000000000) {H:Hp} {K:Value→Hp→Prop}
  (hK:∀b:Bool,K (.tuple #[.string (bs (bef s)),.string (bs (aft s)),.bool b]) H):Does Tryd.prog 14 [.string (bs s),.string (bs [58])] H K:=by
 refine spec_of cx_ok cx_mix rfl Tryd.func14 Tryd.call14 Tryd.ntmps14 Tryd.results14 rfl rfl ?_
 refine slcutC_spec h1 fun b=>?_
 exact hK b
theorem bef_len:∀s:List UInt8,(bef s).length≤s.length
 | []=>Nat.le_refl _
 | c::r=>by
  rw[bef];split
  ·exact Nat.zero_le _
  ·exact Nat.succ_le_succ (bef_len r)
theorem aft_len:∀s:List UInt8,(aft s).length≤s.length
 | []=>Nat.le_refl _
 | c::r=>by
  rw[aft];split
  ·simp
  ·exact Nat.le_succ_of_le (aft_len r)
theorem parseF_spec {s:List UInt8} (hs:s.length≤10000) {H:Hp} {K:Value→Hp→Prop}
  (hsz:(rdl s).length≤2000)
  (hK:∀a n c H',Le H H'→RL H' a n c (prsF s).1→K (.tuple #[.slice a n c,.bool (prsF s).2]) H'):Does Tryd.prog 6 [.string (bs s)] H K:=by
 refine spec_of cx_ok cx_mix rfl Tryd.func6 Tryd.call6 Tryd.ntmps6 Tryd.results6 rfl rfl ?_;refine⟨fun h=>?_,fun h=>?_⟩
 ·have h:s=[]:=dt h;subst h;exact hK none 0 0 H (Le.refl H) ⟨rfl,Nat.le_refl _,Nat.zero_le _,.inl rfl⟩
 ·have h:s≠[]:=df h;rw[prsF,if_neg h]at hK
  refine splB_spec (by omega) fun a1 n1 c1 H0 hle0 hr0=>?_
  have hn1:=hr0.n_eq
  have hrl:(rdl s).length=(spB s).length:=by rw[rdl,List.length_map]
  refine⟨Nat,fun i=>⟨[(0,.v (.string (bs s))),(4,.own 0),(14,.v (.slice a1 n1 c1)),(15,.v (.int .i64 n1)),(16,.v (.int .i64 i))],[(0,.row 30 2 (((spB s).take i).map fun x=>pickC (pck x)))],1⟩,fun i H'=>Le H0 H'∧i≤(spB s).length,fun i=>(spB s).length - i,⟨0,[],?_,Le.refl H0,by omega⟩,?_⟩
  ·exact⟨⟨rfl,⟨rfl,rfl,rfl⟩,rfl,rfl,rfl,trivial⟩,⟨rfl,trivial⟩⟩
  rintro i H1 _ ⟨hle,hi⟩;refine⟨fun h=>?_,fun h=>?_⟩
  ·have hlt:i<(spB s).length:=by have:=dt h;omega
   have hx:=List.getElem?_eq_getElem hlt;obtain⟨ad,cs,e1,h1,r1⟩:=(hr0.up hle).elem hx;rw[str_open r1]at h1;have hxl:=spB_le s _ (List.getElem_mem hlt);refine⟨ad,⟨by omega,by omega,e1⟩,?_⟩;refine⟨_,h1,?_⟩
   refine cutC_spec (by omega) fun b=>?_
   have hbl:=bef_len ((spB s)[i]).l;have hal:=aft_len ((spB s)[i]).l
   refine number_spec (by omega) fun H2 hle2=>?_
   refine number_spec (by omega) fun H3 hle3=>?_
   have hlen:(((spB s).take i).map fun x=>pickC (pck x)).length=i:=by rw[List.length_map,List.length_take];omega
   refine⟨⟨by show ((((spB s).take i).map fun x=>pickC (pck x)).length+1)*16≤_;omega,by show (((spB s).take i).map fun x=>pickC (pck x)).length+1≤_;omega⟩,?_⟩
   have erow:(((spB s).take i).map fun x=>pickC (pck x))++[pickC (pck (spB s)[i])]=((spB s).take (i+1)).map fun x=>pickC (pck x):=map_take_succ (fun x=>pickC (pck x)) hx
   refine⟨⟨by omega,by omega⟩,i+1,[(0,2)],?_,⟨by first | exact hle | exact hle.trans hle3,by omega⟩,by dsimp only;omega⟩;exact⟨⟨rfl,rfl,rfl,rfl,rfl,trivial⟩,⟨erow,trivial⟩⟩
  ·have hil:i=(spB s).length:=by have:=df h;omega
   intro x H2 hle2 hx;have hrc:=rc_picks (l:=rdl s) (H:=H2) (fun p hp=>rdl_in p hp)
   have et:(((spB s).take i).map fun x=>pickC (pck x))=(rdl s).map pickC:=by rw[hil,List.take_length,rdl,List.map_map];rfl
   rw[et]at hx;obtain⟨a,n2,c2,e,hr⟩:=RL.of_row (α:=Pick) hx hrc;subst e
   refine text_spec hr (fun p hp=>rdl_in p hp) hsz fun H3 hle3=>?_
   refine⟨fun h4=>?_,fun h4=>?_⟩
   ·have h4:¬stx (rdl s)=s:=fun e=>by rw[e]at h4;simp at h4
    rw[if_neg h4]at hK;exact hK none 0 0 H1 (hle0.trans hle) ⟨rfl,Nat.le_refl _,Nat.zero_le _,.inl rfl⟩
   ·have h4:stx (rdl s)=s:=Classical.byContradiction fun e=>by simp [e]at h4
    rw[if_pos h4]at hK;intro x H4 hle4 hx;have hrc:=rc_picks (l:=rdl s) (H:=H4) (fun p hp=>rdl_in p hp);have hx2:RowAt H4 x 2 (((spB s).take i).map fun x=>pickC (pck x)):=hx;rw[et]at hx2;obtain⟨a,n3,c3,e,hr⟩:=RL.of_row (α:=Pick) hx2 hrc;have h9:=hK a n3 c3 H4 ((hle0.trans hle).trans hle4) hr;rw[←e]at h9;exact h9
end Go.Proofs
end
section
/- Plain words: the law of FairTexts returns true for every script and text. -/
namespace Go.Proofs
open Go.Sy
set_option maxRecDepth 20000
theorem picks_in {l:List Pick} {a:Option Addr} {n c:Nat} {H:Hp} (h:RL H a n c l):∀p∈l,inPk p:=by
 intro p hp;obtain⟨i,hi⟩:=List.getElem?_of_mem hp;obtain⟨ad,cs,_,_,r1⟩:=h.elem hi;obtain⟨c1,c2,_,⟨_,h1⟩,⟨_,h2⟩⟩:=r1;exact⟨h1,h2⟩
theorem FairTexts_spec {l:List Pick} {s:Str} {a:Option Addr} {n c:Nat} {H:Hp} {K:Value→Hp→Prop} (ha:RL H a n c l) (hK:∀H',Le H H'→K (.bool true) H'):Does Tryd.prog 3 [.slice a n c,.string (bs s.l)] H K:=by
 have hn:=ha.n_eq;have hin:=picks_in ha;have esl:(sl (bs s.l)).length=s.l.length:=rfl;refine spec_of cx_ok cx_mix rfl Tryd.func3 Tryd.call3 Tryd.ntmps3 Tryd.results3 rfl rfl ?_
 refine awake26 fun H1 hle1=>?_
 refine⟨fun h=>absurd h (by decide),fun _=>?_⟩;refine⟨fun h1=>?_,fun h1=>?_⟩
 ·have h1:l.length≤40:=by have:=df h1;omega
  refine⟨fun h2=>?_,fun h2=>?_⟩
  ·exact hK H (Le.refl H)
  have h2:s.l.length≤400:=by have:=df h2;omega
  have hsl:=stx_len hin
  have hrl:∀t,(rdl t).length≤t.length+1:=fun t=>by
   rw[rdl,List.length_map,spB_len];have:t.count 32≤t.length:=List.count_le_length;omega
  have hr1:=hrl (stx l);have hr2:=hrl s.l
  refine text_spec ha hin (by omega) fun H2 hle2=>?_
  refine parseF_spec (by omega) (by omega) fun a3 n3 c3 H3 hle3 hr3=>?_
  rw[prsF_stx hin]at hr3 ⊢
  refine parseF_spec (by omega) (by omega) fun a4 n4 c4 H4 hle4 hr4=>?_
  refine rtext_spec (ha.up (by first | exact hle3.trans hle4 | exact hle4)) hin (by omega) fun H5 hle5=>?_
  refine⟨fun _=>?_,fun h=>absurd h (by simp)⟩;refine⟨fun _=>?_,fun h=>absurd h (by simp)⟩
  refine psame_spec (hr3.up (by first | exact hle4 | exact hle4.trans hle5)) (ha.up (by first | exact hle3.trans hle4 | exact hle4 | exact (hle3.trans hle4).trans hle5)) fun H6 hle6=>?_
  refine⟨fun h=>absurd h (by simp),fun _=>?_⟩;have hrn:=hr4.n_eq;have hin4:=prsF_in (s:=s.l);have hln4:=prsF_len (s:=s.l)
  cases hb:(prsF s.l).2 with
  | true =>
   have hy:=prsF_yes hb;refine⟨fun _=>?_,fun h=>absurd h (by decide)⟩
   refine text_spec (hr4.up (by first | exact Le.refl _ | exact hle5 | exact hle5.trans hle6)) hin4 (by omega) fun H7 hle7=>?_
   rw[hy]
   have hle14:Le H H4:=by first | exact hle4 | exact hle3.trans hle4 | exact (hle2.trans hle3).trans hle4
   refine⟨fun h=>absurd h (by simp),fun h=>?_⟩;exact hK H4 hle14
  | false =>
   have hy:=prsF_no hb
   have hle14:Le H H4:=by first | exact hle4 | exact hle3.trans hle4 | exact (hle2.trans hle3).trans hle4
   rw[hy.1,List.length_nil]at hrn;subst hrn;refine⟨fun h=>absurd h (by decide),fun _=>?_⟩;refine⟨fun _=>?_,fun h=>absurd h (by decide)⟩;refine⟨fun _=>?_,fun h=>absurd h (by decide)⟩;have h9:=hK H4 hle14
   have eb:(!decide (s.l=[]))=true:=by simpa using hy.2
   rw[←eb]at h9;exact h9
 ·exact hK H (Le.refl H)
end Go.Proofs
end
