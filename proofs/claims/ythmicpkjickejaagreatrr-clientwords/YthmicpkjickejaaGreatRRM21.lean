/- Part 'M21' of the proof (Frame): lemmas, each with its own conditions in its own statement. -/
import Derived.Carry
import Derived.ChangeSame
import Derived.JoinedCond
import Derived.OpenShut
import Derived.ProofKit
import Derived.WalkKit
import Derived.Test.YthmicpkjickejaaGreatRRM12
namespace Go.Sy
open Go.RowKit (Below)
open Go.ChangeShapes Go.WideShapes Go.ChangeAt Go.RowKit
def hpOf (w:World):Hp:=fun b=>w.heap[b]?
def Opens (P:Program) (t:TypeId) (α:Type) [Enc α]:Prop :=
 P.cellsOf t=Enc.sz α∧∀ {H:Type} {enc:TypeId×Value→H} {w:World} {n:Nat} {cs:List Value} {x:DataW H×List MemPlace},
  DataW.trod enc P w 0 (fun _=>true) true n t cs=some x→∃a:α,Enc.R (hpOf w) cs a
section
variable {P:Program} {t e:TypeId}
theorem opens_int (hc:P.cellsOf t=1) (ht:P.underlying t=some (.int .i64)):Opens P t Int :=
 ⟨hc,fun h=>by
  obtain⟨n,rfl,_,hw⟩:=DataW.trod_int ht h
  exact⟨n,rfl,by simpa [Lit.wf,IntKind.min,IntKind.max,IntKind.signed,IntKind.bits] using hw⟩⟩
theorem opens_u64 (hc:P.cellsOf t=1) (ht:P.underlying t=some (.int .u64)):Opens P t UInt64 :=
 ⟨hc,fun h=>by
  obtain⟨n,rfl,_,hw⟩:=DataW.trod_int ht h
  have hw:0≤n∧n≤18446744073709551615:=by simpa [Lit.wf,IntKind.min,IntKind.max,IntKind.signed,IntKind.bits] using hw
  refine⟨UInt64.ofNat n.toNat,?_⟩
  show [Value.int .u64 n]=[Value.int .u64 ((UInt64.ofNat n.toNat).toNat:Nat)]
  rw[UInt64.toNat_ofNat_of_lt' (by show n.toNat<2 ^ 64;omega)]
  congr 2
  omega⟩
theorem opens_str (hc:P.cellsOf t=1) (ht:P.underlying t=some .string):Opens P t Str :=
 ⟨hc,fun h=>by
  obtain⟨s,rfl,_,hw⟩:=DataW.trod_string ht h
  exact⟨⟨sl s⟩,rfl,by have:(sl s).length=s.size:=rfl;show (sl s).length≤_;rw[this];simpa [maxLen] using hw⟩⟩
theorem mapM_get {α β:Type} {f:α→Option β}:∀ {l:List α} {r:List β},l.mapM f=some r→r.length=l.length∧∀(i:Nat) (x:α),l[i]?=some x→f x=r[i]?
 | [],r,h=>by simp at h;subst h;exact⟨rfl,fun i x hx=>by simp at hx⟩
 | a::l,r,h=>by
  rw[List.mapM_cons]at h;simp only[Option.bind_eq_bind,Option.bind_eq_some_iff,Option.pure_def,Option.some.injEq]at h;obtain⟨b,h1,r',h2,rfl⟩:=h;obtain⟨h3,h4⟩:=mapM_get h2;refine⟨by simp [h3],fun i x hx=>?_⟩
  cases i with
  | zero=>simp at hx;subst hx;simpa using h1
  | succ i=>simp at hx;simpa using h4 i x hx
theorem cells_get {w:World} {a:Addr} {n:Nat} {cs:List Value} (h:w.cells? 0 a n=some cs):cs.length=n∧∀j,j<n→w.cell? (a.add j)=cs[j]?:=by
 unfold World.cells? at h;rw[if_pos (Nat.zero_le _)]at h;obtain⟨h1,h2⟩:=mapM_get h;refine⟨by simpa using h1,fun j hj=>h2 j j (by simp [hj])⟩
theorem cell_in {w:World} {a:Addr} {v:Value} (h:w.cell? a=some v):a.spot=none∧∃c T fr,w.heap[a.block]?=some (.cells c T fr)∧c[a.off]?=some v:=by
 unfold World.cell? at h;split at h
 ·rename_i c T fr hc;split at h
  ·cases h
  ·rename_i hs;exact⟨by simpa using hs,c,T,fr,hc,h⟩
 ·cases h
theorem opens_list {α:Type} [Enc α] (hc:P.cellsOf t=1) (ht:P.underlying t=some (.slice e)) (he:Opens P e α) (hsz:0<Enc.sz α):Opens P t (List α) :=
 ⟨hc,fun {H enc w n cs x} h=>by
  rcases DataW.trod_slice ht h with ⟨rfl,_⟩ | ⟨a,len,cap,elems,rest,n',_,rfl,_,_,hl,hm,hlen,hel,hsp,_⟩
  ·exact⟨[],none,0,0,rfl,rfl,Nat.le_refl _,by omega,.inl rfl⟩
  ·obtain⟨hrl,hrest⟩:=hsp rfl;rw[he.1]at hel hrest
   have all:∀i,i<cap→∃cs,w.cells? 0 (a.add (i*Enc.sz α)) (Enc.sz α)=some cs∧∃z,DataW.trod enc P w 0 (fun _=>true) true n' e cs=some z:=fun i hi=>by
    by_cases hlt:i<len
    ·have:=hel i hlt;rw[List.getElem?_eq_getElem (by omega)]at this;obtain⟨cs,h1,h2⟩:=Option.bind_eq_some_iff.1 this;exact⟨cs,h1,_,h2⟩
    ·have:=hrest (i - len) (by omega);rw[List.getElem?_eq_getElem (by omega),show len+(i - len)=i by omega]at this;obtain⟨cs,h1,h2⟩:=Option.bind_eq_some_iff.1 this;exact⟨cs,h1,_,h2⟩
   let ex:∀i:Fin len,∃v:α,∀cs,w.cells? 0 (a.add (i.1*Enc.sz α)) (Enc.sz α)=some cs→Enc.R (hpOf w) cs v:=fun i=>by
    obtain⟨cs,h1,z,h2⟩:=all i.1 (by omega);obtain⟨v,hv⟩:=he.2 h2;exact⟨v,fun cs' h'=>by rw[h1]at h';simp only[Option.some.injEq]at h';subst h';exact hv⟩
   let f:Fin len→α:=fun i=>Classical.choose (ex i)
   have hf:∀i:Fin len,∀cs,w.cells? 0 (a.add (i.1*Enc.sz α)) (Enc.sz α)=some cs→Enc.R (hpOf w) cs (f i):=fun i=>Classical.choose_spec (ex i)
   refine⟨List.ofFn f,some a,len,cap,rfl,by simp,hl,by simpa [maxLen] using hm,?_⟩
   by_cases hcap:cap=0
   ·exact .inl hcap
   obtain⟨cs0,h1,_⟩:=all (cap - 1) (by omega);obtain⟨h2,h3⟩:=cells_get h1;have h4:=h3 (Enc.sz α - 1) (by omega);rw[List.getElem?_eq_getElem (by omega)]at h4;obtain⟨h5,c,T,fr,h6,h7⟩:=cell_in h4
   have hspot:a.spot=none:=by
    obtain⟨cs1,k1,_⟩:=all 0 (by omega);obtain⟨k2,k3⟩:=cells_get k1;have k4:=k3 0 hsz;rw[List.getElem?_eq_getElem (by omega)]at k4;have k5:=(cell_in k4).1
    simpa [Addr.add] using k5
   obtain⟨b,o,sp⟩:=a;simp only at hspot;subst hspot;simp only[Addr.at_]at h6 h7;have h8:=(Array.getElem?_eq_some_iff.1 h7).1;refine .inr ⟨_,rfl,rfl,c,T,fr,h6,?_,fun i x hx=>?_⟩
   ·have e1:(cap - 1)*Enc.sz α+Enc.sz α=cap*Enc.sz α:=by
     rw[←Nat.succ_mul];congr 1;omega
    simp only;omega
   ·have hi:i<len:=by have:=(List.getElem?_eq_some_iff.1 hx).1;simpa using this
    obtain⟨cs,g1,_⟩:=all i (by omega);obtain⟨g2,g3⟩:=cells_get g1;refine⟨cs,?_,fun j hj=>?_⟩
    ·have:=hf ⟨i,hi⟩ cs g1;rw[List.getElem?_ofFn,dif_pos hi]at hx;simp only[Option.some.injEq]at hx
     rw[←hx];exact this
    ·have g4:=g3 j hj;rw[List.getElem?_eq_getElem (by omega)]at g4 ⊢;obtain⟨_,c',T',fr',g6,g7⟩:=cell_in g4;simp only[Addr.at_]at g6 g7;rw[h6]at g6;simp only[Option.some.injEq,Obj.cells.injEq]at g6;obtain⟨rfl,_,_⟩:=g6
     exact g7⟩
def OpensF (P:Program) (fs:List Field) (base:Nat) (α:Type) [Enc α]:Prop :=
 ∀ {H:Type} {enc:TypeId×Value→H} {w:World} {n:Nat} {cs:List Value},
  (∀(i:Nat) (f:Field),fs[i]?=some f→∃z,DataW.trod enc P w 0 (fun _=>true) true n f.type ((cs.drop (f.offset - base)).take (P.cellsOf f.type))=some z)→cs.length=Enc.sz α→∃a:α,Enc.R (hpOf w) cs a
theorem opensF_one {α:Type} [Enc α] {f:Field} {base:Nat} (ho:f.offset=base) (hf:Opens P f.type α):OpensF P [f] base α:=fun h hl=>by
 obtain⟨z,hz⟩:=h 0 f rfl;rw[ho,Nat.sub_self,List.drop_zero,hf.1,←hl,List.take_length]at hz;exact hf.2 hz
theorem opensF_cons {α β:Type} [Enc α] [Enc β] {f:Field} {r:List Field} {base:Nat} (ho:f.offset=base) (hb:∀g∈r,base+Enc.sz α≤g.offset) (hf:Opens P f.type α) (hr:OpensF P r (base+Enc.sz α) β):OpensF P (f::r) base (α×β):=fun {H enc w n cs} h hl=>by
 have hl:cs.length=Enc.sz α+Enc.sz β:=hl;obtain⟨z,hz⟩:=h 0 f rfl;rw[ho,Nat.sub_self,List.drop_zero,hf.1]at hz;obtain⟨a,ha⟩:=hf.2 hz
 obtain⟨b,hb'⟩:=hr (cs:=cs.drop (Enc.sz α)) (w:=w) (enc:=enc) (n:=n) (fun i g hg=>by
  obtain⟨z,hz⟩:=h (i+1) g (by simpa using hg);refine⟨z,?_⟩;have:=hb g (List.mem_of_getElem? hg);rw[List.drop_drop,show Enc.sz α+(g.offset - (base+Enc.sz α))=g.offset - base by omega]
  exact hz) (by rw[List.length_drop];omega)
 exact⟨(a,b),_,_,(List.take_append_drop _ _).symm,ha,hb'⟩
theorem opens_struct {α:Type} [Enc α] {fs:Array Field} (hc:P.cellsOf t=Enc.sz α) (ht:P.underlying t=some (.struct fs)) (hf:OpensF P fs.toList 0 α):Opens P t α :=
 ⟨hc,fun {H enc w n cs x} h=>by
  obtain⟨xs,m,_,_,h1,h2,h3⟩:=DataW.trod_struct ht h;refine hf (n:=m) (enc:=enc) (fun i f hi=>?_) (by rw[h1,hc]);have hlt:=(List.getElem?_eq_some_iff.1 hi).1;have:=h3 i f (by simpa using hi);rw[Nat.sub_zero,this]
  exact⟨_,List.getElem?_eq_getElem (by rw[h2];simpa using hlt)⟩⟩
theorem opens_val {α:Type} [Enc α] (h:Opens P t α) {H:Type} {enc:TypeId×Value→H} {w:World} {v:Value} {d:DataW H} {ps:List MemPlace} (hd:DataW.Trod enc P w 0 (fun _=>true) true t v d ps):
  ∃a:α,Enc.R (hpOf w) v.cells.toList a:=by
 obtain⟨n,hn⟩:=hd;exact h.2 hn
theorem trodAll_stays {H:Type} {enc:TypeId×Value→H} {W W':World} {sp:Nat→Bool} (hl:laidOutB P=true):∀ {ts:List TypeId} {vs:List Value} {ds:List (DataW H)} {ps:List MemPlace},
  (ts.all fun t=>P.readableRec t&&decide (t<P.types.size))=true→DataW.TrodAll enc P W 0 (fun _=>true) true ts vs ds ps→(∀x∈ps,W.sameAt W' x)→(∀x∈ps,sp x.block=true)→DataW.TrodAll enc P W' 0 sp true ts vs ds ps
 | [],[],[],ps,_,h,_,_=>h
 | [],[],_::_,_,_,h,_,_=>h.elim
 | [],_::_,_,_,_,h,_,_=>h.elim
 | _::_,[],_,_,_,h,_,_=>h.elim
 | _::_,_::_,[],_,_,h,_,_=>h.elim
 | t::ts,v::vs,d::ds,ps,hr,⟨p,q,h1,h2,e⟩,hs,hsp=>by
  subst e;simp only[List.all_cons,Bool.and_eq_true,decide_eq_true_eq]at hr
  exact⟨p,q,WideElems.Trod_stays hl hr.1.1 hr.1.2 h1 (fun x hx=>hs x (List.mem_append_left _ hx)) (fun x hx=>hsp x (List.mem_append_left _ hx)),
   trodAll_stays hl hr.2 h2 (fun x hx=>hs x (List.mem_append_right _ hx)) (fun x hx=>hsp x (List.mem_append_right _ hx)),rfl⟩
theorem post_below {H:Type} {enc:TypeId×Value→H} {f:Func} {s:ChangeSpec} {W W':World} {args:Array Value} {v:Value} {ds gs:List (DataW H)} {before pa pv:List MemPlace}
  (hW:DataW.Whole enc P f.params.toList s.vars false W args.toList ds gs before)
  (hres:∀(b:Nat) (sp:Nat→Bool) (hd:Bool),DataW.TrodAll enc P W' b sp hd f.resultTypes.toList (v.resultList f.resultTypes.size) (s.fn H (ds++gs)).results [])
  (hargs:∀sp:Nat→Bool,(∀p∈before,sp p.block=true)→DataW.TrodAll enc P W' 0 sp true f.params.toList args.toList (s.fn H (ds++gs)).args pa)
  (hvars:∀sp:Nat→Bool,(∀p∈before,sp p.block=true)→DataW.TrodVars enc P W' sp s.vars (s.fn H (ds++gs)).vars pv)
  (hps:before=pa++pv) (hb:Below W.heap.size W W')
  (hok:∀(j:Nat) (t:TypeId) (r:Value),f.resultTypes[j]?=some t→(v.resultList f.resultTypes.size)[j]?=some r→Value.okWide P W' .any 0 t r):
  s.post enc P f false true false false W args v W':=by
 have hold:∀p∈before,(fun b=>decide (b<W.heap.size)) p.block=true:=fun p hp=>by simpa using hW.lt p hp
 have hz:=hW.choose_spec.choose_spec.2.2.2.1
 have hin:∀p∈before,p∈pa++pv:=fun p hp=>hps▸hp
 refine⟨ds,gs,before,[],pa,pv,hW,hres _ _ _,hargs _ hold,hvars _ hold,World.keptBut_mono (fun p hp=>⟨hp,.inr (by simpa [hps] using hp)⟩) (hb.frame (·∈before)),fun _=>⟨hok,_,_,([]++pa)++pv,⟨[]++pa,pv,trodAll_append (hargs _ (fun _ _=>rfl)) (hres _ _ _),hvars _ (fun _ _=>rfl),rfl,?_,fun ha=>by cases ha⟩,fun p hp _=>by simpa [hps] using hp⟩⟩;intro b off hp
 have hi:MemPlace.cell b off∈before:=by rw[hps];simpa using hp
 rw[hb.frozen (hW.lt _ hi)];exact hz b off hi
theorem law_post {H:Type} {enc:TypeId×Value→H} {f:Func} {s:ChangeSpec} {W:World} {args:Array Value} {ds gs:List (DataW H)} {before:List MemPlace} {fi:FuncId} {tb:TypeId}
  (hl:laidOutB P=true) (hts:(f.params.toList.all fun t=>P.readableRec t&&decide (t<P.types.size))=true) (hrt:f.resultTypes=#[tb]) (hb:P.underlying tb=some .bool)
  (hvars:s.vars=[]) (hres:(s.fn H (ds++gs)).results=[.lit (.bool true)]) (hargs:(s.fn H (ds++gs)).args=ds) (hv:(s.fn H (ds++gs)).vars=[])
  (hW:DataW.Whole enc P f.params.toList s.vars false W args.toList ds gs before)
  (hdo:Does P fi args.toList (hpOf W) fun v _=>v = .bool true):
  Calls P fi args W fun e W'=>∃v,e = .returned v∧s.post enc P f false true false false W args v W':=by
 have hd:=hdo.2 W (fun b o h=>h);rw[show args.toList.toArray=args by simp]at hd
 refine hd.mono fun e W' ⟨v,H',he,hv1,_,_,_,hbel⟩=>⟨v,he,?_⟩
 subst hv1;have hW':=hW;obtain⟨p,q,hA,hV,e1,hz,hn⟩:=hW;rw[hvars]at hV;obtain⟨rfl,rfl⟩:=trodVars_none hV;rw[List.append_nil]at e1;subst e1;refine post_below (pa:=before) (pv:=[]) hW' ?_ ?_ ?_ (by simp) hbel.1 ?_
 ·intro b sp hd;rw[hrt,hres];exact trodAll_cons_mk (shut_bool hb _) trodAll_mk0
 ·intro sp hsp;rw[hargs];exact trodAll_stays hl hts hA (fun x hx=>hbel.same (hW'.lt x hx)) hsp
 ·intro sp _;rw[hvars,hv]
  rfl
 ·exact ok_one hrt rfl (okWide_bool_mk hb _)
end
end Go.Sy
