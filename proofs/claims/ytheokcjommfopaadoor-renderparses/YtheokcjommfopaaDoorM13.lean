/- Part 'M13' of the proof (Frame): lemmas, each with its own conditions in its own statement. -/
import Derived.Carry
import Derived.ChangeSame
import Derived.JoinedCond
import Derived.OpenShut
import Derived.ProofKit
import Derived.WalkKit
import Derived.Test.YtheokcjommfopaaDoorM7
namespace Go.Sy
open Go.RowKit (Below)
open Go.ChangeShapes Go.WideShapes Go.ChangeAt Go.RowKit
def hpOf (w:World):Hp:=fun b=>w.heap[b]?
def Opens (P:Program) (t:TypeId) (α:Type) [Enc α]:Prop :=
 P.cellsOf t=Enc.sz α∧∀ {H:Type} {enc:TypeId×Value→H} {w:World} {n:Nat} {cs:List Value} {x:DataW H×List MemPlace},
  DataW.trod enc P w 0 (fun _=>true) true n t cs=some x→∃a:α,Enc.R (hpOf w) cs a
section
variable {P:Program} {t e:TypeId}
theorem opens_str (hc:P.cellsOf t=1) (ht:P.underlying t=some .string):Opens P t Str :=
 ⟨hc,fun h=>by
  obtain⟨s,rfl,_,hw⟩:=DataW.trod_string ht h
  exact⟨⟨sl s⟩,rfl,by have:(sl s).length=s.size:=rfl;show (sl s).length≤_;rw[this];simpa [maxLen] using hw⟩⟩
theorem opens_val {α:Type} [Enc α] (h:Opens P t α) {H:Type} {enc:TypeId×Value→H} {w:World} {v:Value} {d:DataW H} {ps:List MemPlace} (hd:DataW.Trod enc P w 0 (fun _=>true) true t v d ps):
  ∃a:α,Enc.R (hpOf w) v.cells.toList a:=by
 obtain⟨n,hn⟩:=hd;exact h.2 hn
theorem trodAll_stays {H:Type} {enc:TypeId×Value→H} {W W':World} {sp:Nat→Bool} (hl:laidOutB P=true):∀ {ts:List TypeId} {vs:List Value} {ds:List (DataW H)} {ps:List MemPlace},
  (ts.all fun t=>P.readableRec t&&decide (t<P.types.size))=true→DataW.TrodAll enc P W 0 (fun _=>true) true ts vs ds ps→(∀x∈ps,W.sameAt W' x)→(∀x∈ps,sp x.block=true)→DataW.TrodAll enc P W' 0 sp true ts vs ds ps
 | [],[],[],ps,_,h,_,_=>h
 | [],[],_::_,_,_,h,_,_=>h.elim
 | [],_::_,_,_,_,h,_,_=>h.elim
 | _::_,[],_,_,_,h,_,_=>h.elim
 | _::_,_::_,[],_,_,h,_,_=>h.elim
 | t::ts,v::vs,d::ds,ps,hr,⟨p,q,h1,h2,e⟩,hs,hsp=>by
  subst e;simp only[List.all_cons,Bool.and_eq_true,decide_eq_true_eq]at hr
  exact⟨p,q,WideElems.Trod_stays hl hr.1.1 hr.1.2 h1 (fun x hx=>hs x (List.mem_append_left _ hx)) (fun x hx=>hsp x (List.mem_append_left _ hx)),
   trodAll_stays hl hr.2 h2 (fun x hx=>hs x (List.mem_append_right _ hx)) (fun x hx=>hsp x (List.mem_append_right _ hx)),rfl⟩
theorem post_below {H:Type} {enc:TypeId×Value→H} {f:Func} {s:ChangeSpec} {W W':World} {args:Array Value} {v:Value} {ds gs:List (DataW H)} {before pa pv:List MemPlace}
  (hW:DataW.Whole enc P f.params.toList s.vars false W args.toList ds gs before)
  (hres:∀(b:Nat) (sp:Nat→Bool) (hd:Bool),DataW.TrodAll enc P W' b sp hd f.resultTypes.toList (v.resultList f.resultTypes.size) (s.fn H (ds++gs)).results [])
  (hargs:∀sp:Nat→Bool,(∀p∈before,sp p.block=true)→DataW.TrodAll enc P W' 0 sp true f.params.toList args.toList (s.fn H (ds++gs)).args pa)
  (hvars:∀sp:Nat→Bool,(∀p∈before,sp p.block=true)→DataW.TrodVars enc P W' sp s.vars (s.fn H (ds++gs)).vars pv)
  (hps:before=pa++pv) (hb:Below W.heap.size W W')
  (hok:∀(j:Nat) (t:TypeId) (r:Value),f.resultTypes[j]?=some t→(v.resultList f.resultTypes.size)[j]?=some r→Value.okWide P W' .any 0 t r):
  s.post enc P f false true false false W args v W':=by
 have hold:∀p∈before,(fun b=>decide (b<W.heap.size)) p.block=true:=fun p hp=>by simpa using hW.lt p hp
 have hz:=hW.choose_spec.choose_spec.2.2.2.1
 have hin:∀p∈before,p∈pa++pv:=fun p hp=>hps▸hp
 refine⟨ds,gs,before,[],pa,pv,hW,hres _ _ _,hargs _ hold,hvars _ hold,World.keptBut_mono (fun p hp=>⟨hp,.inr (by simpa [hps] using hp)⟩) (hb.frame (·∈before)),fun _=>⟨hok,_,_,([]++pa)++pv,⟨[]++pa,pv,trodAll_append (hargs _ (fun _ _=>rfl)) (hres _ _ _),hvars _ (fun _ _=>rfl),rfl,?_,fun ha=>by cases ha⟩,fun p hp _=>by simpa [hps] using hp⟩⟩;intro b off hp
 have hi:MemPlace.cell b off∈before:=by rw[hps];simpa using hp
 rw[hb.frozen (hW.lt _ hi)];exact hz b off hi
theorem law_post {H:Type} {enc:TypeId×Value→H} {f:Func} {s:ChangeSpec} {W:World} {args:Array Value} {ds gs:List (DataW H)} {before:List MemPlace} {fi:FuncId} {tb:TypeId}
  (hl:laidOutB P=true) (hts:(f.params.toList.all fun t=>P.readableRec t&&decide (t<P.types.size))=true) (hrt:f.resultTypes=#[tb]) (hb:P.underlying tb=some .bool)
  (hvars:s.vars=[]) (hres:(s.fn H (ds++gs)).results=[.lit (.bool true)]) (hargs:(s.fn H (ds++gs)).args=ds) (hv:(s.fn H (ds++gs)).vars=[])
  (hW:DataW.Whole enc P f.params.toList s.vars false W args.toList ds gs before)
  (hdo:Does P fi args.toList (hpOf W) fun v _=>v = .bool true):
  Calls P fi args W fun e W'=>∃v,e = .returned v∧s.post enc P f false true false false W args v W':=by
 have hd:=hdo.2 W (fun b o h=>h);rw[show args.toList.toArray=args by simp]at hd
 refine hd.mono fun e W' ⟨v,H',he,hv1,_,_,_,hbel⟩=>⟨v,he,?_⟩
 subst hv1;have hW':=hW;obtain⟨p,q,hA,hV,e1,hz,hn⟩:=hW;rw[hvars]at hV;obtain⟨rfl,rfl⟩:=trodVars_none hV;rw[List.append_nil]at e1;subst e1;refine post_below (pa:=before) (pv:=[]) hW' ?_ ?_ ?_ (by simp) hbel.1 ?_
 ·intro b sp hd;rw[hrt,hres];exact trodAll_cons_mk (shut_bool hb _) trodAll_mk0
 ·intro sp hsp;rw[hargs];exact trodAll_stays hl hts hA (fun x hx=>hbel.same (hW'.lt x hx)) hsp
 ·intro sp _;rw[hvars,hv]
  rfl
 ·exact ok_one hrt rfl (okWide_bool_mk hb _)
end
end Go.Sy
