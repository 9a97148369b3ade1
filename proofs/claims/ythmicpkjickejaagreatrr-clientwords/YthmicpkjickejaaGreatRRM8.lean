/- Part 'M8' of the proof (SyOk2, SyOk3, SyOk4): lemmas, each with its own conditions in its own statement. -/
import Derived.IntWalk
import Derived.Laws.Strings
import Derived.Test.YthmicpkjickejaaGreatRRM5
section
namespace Go.Sy
open Go.RowKit (Below)
theorem wrap_in:∀ {k:IntKind} {n:Int},inR k n→k.wrap n=n
 | .i8,n,h=>IntWalk.i8_in n h
 | .i16,n,h=>IntWalk.i16_in n h
 | .i32,n,h=>IntWalk.i32_in n h
 | .i64,n,h=>IntWalk.i64_in n h
 | .u8,n,h=>IntWalk.u8_in n h
 | .u16,n,h=>IntWalk.u16_in n h
 | .u32,n,h=>IntWalk.u32_in n h
 | .u64,n,h=>IntWalk.u64_in n h
section
variable {C:Cx} {B:Bs} {ρ:Rho} {s:St} {H:Hp} {a:Act} {w:World} {P:Program}
theorem arith_ok {k:IntKind} {n:Int} {K:SV→Prop} (h:arith C k n K):K (.v (.int k (k.wrap n))):=by
 unfold arith at h
 cases hw:C.wrap with
 | true=>rw[hw]at h;exact h
 | false=>rw[hw]at h;rw[wrap_in h.1];exact h.2
theorem binI_run {op:BinOp} {k k':IntKind} {x y:Int} {K:SV→Prop} (xT:TypeId) (h:binI C op k x y K) (hk:op = .shl∨op = .shr∨k=k') (w:World):
  ∃r,(Go.binOp op xT (.int k x) (.int k' y)).run P w = .ok r w∧K (.v r):=by
 cases op
 case shl =>
  simp only[binI]at h;refine⟨_,?_,arith_ok h.2⟩;simp [Go.binOp,Op.shift,Int.not_lt.2 h.1]
 case shr =>
  simp only[binI]at h;refine⟨_,?_,h.2⟩;simp [Go.binOp,Op.shift,Int.not_lt.2 h.1]
 all_goals
  obtain rfl:k=k':=by simpa using hk
  simp only[binI]at h
 case add=>exact⟨_,by simp [Go.binOp,Op.intArith],arith_ok h⟩
 case sub=>exact⟨_,by simp [Go.binOp,Op.intArith],arith_ok h⟩
 case mul=>exact⟨_,by simp [Go.binOp,Op.intArith],arith_ok h⟩
 case quo=>exact⟨_,by simp [Go.binOp,Op.intDiv,h.1],arith_ok h.2⟩
 case rem=>exact⟨_,by simp [Go.binOp,Op.intDiv,h.1],h.2⟩
 case and=>exact⟨_,by simp [Go.binOp,Op.intBits],h⟩
 case or=>exact⟨_,by simp [Go.binOp,Op.intBits],h⟩
 case xor=>exact⟨_,by simp [Go.binOp,Op.intBits],h⟩
 case andNot=>exact⟨_,by simp [Go.binOp,Op.intBits],h⟩
 case eql=>exact⟨_,by simp only[Go.binOp,Op.intCmp,ne_eq,not_true,if_false];rfl,by simpa [bool,BEq.beq] using h⟩
 case neq=>exact⟨_,by simp only[Go.binOp,Op.intCmp,ne_eq,not_true,if_false];rfl,by simpa [bool,bne,BEq.beq] using h⟩
 case lss=>exact⟨_,by simp only[Go.binOp,Op.intCmp,ne_eq,not_true,if_false];rfl,h⟩
 case leq=>exact⟨_,by simp only[Go.binOp,Op.intCmp,ne_eq,not_true,if_false];rfl,h⟩
 case gtr=>exact⟨_,by simp only[Go.binOp,Op.intCmp,ne_eq,not_true,if_false];rfl,h⟩
 case geq=>exact⟨_,by simp only[Go.binOp,Op.intCmp,ne_eq,not_true,if_false];rfl,h⟩
theorem toList_sl (s:ByteArray):s.toList=sl s:=ByteArray.toList_eq s
theorem beq_dec (a b:List UInt8):(a == b)=decide (a=b):=by rw[Bool.eq_iff_iff];simp
theorem bs_append (a b:ByteArray):bs (sl a++sl b)=a++b:=by
 apply ByteArray.ext;apply Array.ext';simp [bs,sl]
theorem binS_run {op:BinOp} {x y:ByteArray} {K:SV→Prop} (xT:TypeId) (h:binS op x y K) (w:World):
  ∃r,(Go.binOp op xT (.string x) (.string y)).run P w = .ok r w∧K (.v r):=by
 cases op<;>simp only[binS]at h
 case add =>
  refine⟨_,?_,h.2⟩
  have h1:¬((x.size+y.size:Nat):Int)>IntKind.i64.max:=by
   have h2:=h.1
   have e:IntKind.i64.max=9223372036854775807:=by decide
   have hx:x.size=(sl x).length:=rfl;have hy:y.size=(sl y).length:=rfl;rw[e,hx,hy];omega
  simp only[Go.binOp,Op.stringOp,if_neg h1,bs_append]
  rfl
 all_goals first | exact h.elim | (refine⟨_,by simp only[Go.binOp,Op.stringOp,toList_sl,beq_dec];rfl,?_⟩;exact h)
theorem raw_val {op:Op} {T:TypeId} {K:KK}
  (h:∀B ρ (o:Oper) a w,o.op=op→o.type=T→Rel C B ρ s H a w→∃x s' H' ρ' w',(execOp a.eval o).run C.P w = .ok (.value (ga ρ' x)) w'∧K x s' H'∧Rel C B ρ' s' H' a w'∧Le H H'∧x.lt s'.nx=true):RawOp C s op T H K:=by
 intro B ρ o a w ho hT hr next Q hn;obtain⟨x,s',H',ρ',w',hrun,hk,hr',hle,hlt⟩:=h B ρ o a w ho hT hr;unfold Oper.wp;rw[hrun];exact hn _ _ _ _ _ hk hr' hle hlt
def RawP (C:Cx) (s:St) (op:Op) (T:TypeId) (H:Hp) (K:KK):Prop :=
 ∀B ρ (o:Oper) a w,o.op=op→o.type=T→Rel C B ρ s H a w→∃x,(execOp a.eval o).run C.P w = .ok (.value (ga ρ x)) w∧K x s H∧x.lt s.nx=true
theorem raw_pure {op:Op} {T:TypeId} {K:KK}
  (h:∀B ρ (o:Oper) a w,o.op=op→o.type=T→Rel C B ρ s H a w→∃x,(execOp a.eval o).run C.P w = .ok (.value (ga ρ x)) w∧K x s H∧x.lt s.nx=true):RawOp C s op T H K :=
 raw_val fun B ρ o a w ho hT hr=>by
  obtain⟨x,h1,h2,h3⟩:=h B ρ o a w ho hT hr;exact⟨x,s,H,ρ,w,h1,h2,hr,Le.refl H,h3⟩
theorem ok_move {x:Operand} {T:TypeId} {K:KK} (h:match get s x with | some y=>K y s H | none=>False):RawP C s (.move x) T H K∧RawP C s (.assign x) T H K:=by
 split at h
 ·rename_i y hy
  constructor <;>
  ·refine fun B ρ o a w ho _ hr=>⟨y,?_,h,(eval_get hr hy).2⟩
   simp only[execOp,ho,(eval_get hr hy).1]
   rfl
 ·exact h.elim
theorem ok_pick {fb:Prop} {c x y:Operand} {T:TypeId} {K:KK} (h:match get s c with
  | some (.kb t)=>match (bif t then get s x else get s y) with
   | some y=>K y s H
   | none=>False
  | _=>False):RawP C s (.pick c x y) T H K∨fb:=by
 split at h
 ·rename_i t hc;split at h
  ·rename_i z hz
   have hz':get s (if t then x else y)=some z:=by cases t<;>exact hz
   refine .inl fun B ρ o a w ho _ hr=>⟨z,?_,h,(eval_get hr hz').2⟩
   have h1:=(eval_get hr hc).1;have h2:=(eval_get hr hz').1;rw[ga]at h1;simp only[execOp,ho,h1,asBool,Sem.run_bind,Sem.run_pure,Result.andThen_ok,←h2]
   cases t<;>rfl
  ·exact h.elim
 ·exact h.elim
theorem eqGuard_int (op:BinOp) (t:TypeId) (x y:Operand) (k k':IntKind) (n m:Int) (w:World):(eqGuard op t x y (.int k n) (.int k' m)).run P w = .ok () w:=by
 cases op<;>simp [eqGuard]
theorem eqGuard_str (op:BinOp) (t:TypeId) (x y:Operand) (n m:ByteArray) (w:World):(eqGuard op t x y (.string n) (.string m)).run P w = .ok () w:=by
 cases op<;>simp [eqGuard]
theorem ok_not {fb:Prop} {xT:TypeId} {x:Operand} {T:TypeId} {K:KK} (h:match get s x with
   | some (.kb b)=>K (.kb (!b)) s H
   | some (.v (.bool b))=>K (bool (!b)) s H
   | _=>False):RawP C s (.unOp .not xT x) T H K∨fb:=by
 refine .inl fun B ρ o a w ho _ hr=>?_
 split at h
 ·rename_i b hx;have h1:=(eval_get hr hx).1;rw[ga]at h1;exact⟨_,by simp only[execOp,ho,h1,Op.unary,ga];rfl,h,by rw[SV.lt]⟩
 ·rename_i b hx;have h1:=(eval_get hr hx).1;rw[ga]at h1;exact⟨_,by simp only[execOp,ho,h1,Op.unary,ga,bool];rfl,h,by rw[bool,SV.lt]⟩
 ·exact h.elim
theorem ok_neg {fb:Prop} {xT:TypeId} {x:Operand} {T:TypeId} {K:KK} (h:match get s x with
   | some (.v (.int k n))=>arith C k (0 - n) fun r=>K r s H
   | _=>fb):RawP C s (.unOp .neg xT x) T H K∨fb:=by
 split at h
 ·rename_i k n hx
  refine .inl fun B ρ o a w ho _ hr=>?_
  have h1:=(eval_get hr hx).1;rw[ga]at h1;exact⟨_,by simp only[execOp,ho,h1,Op.unary,Op.intArith,ga];rfl,arith_ok (K:=fun r=>K r s H) h,by rw[SV.lt]⟩
 ·exact .inr h
theorem gas_v (ρ:Rho) (l:List Value):gas ρ (l.map .v)=l:=by
 rw[gas_eq,List.map_map]
 have:(ga ρ∘SV.v)=id:=by funext y;simp [ga]
 rw[this];simp
theorem cells_ga (ρ:Rho) (x:SV):(ga ρ x).cells.toList=gas ρ (cellsOf x):=by
 cases x with
 | v y=>cases y<;>first | (rw[ga];rfl) | (rw[ga];simp only[Value.cells,cellsOf,gas_v])
 | agg cs=>rw[ga];simp [Value.cells,cellsOf]
 | el a i sz off=>cases a<;>(rw[ga];rfl)
 | kb b=>rw[ga];rfl
 | ptr k off=>rw[ga];rfl
 | own k=>rw[ga];rfl
 | fn f cap=>rw[ga];rfl
 | rel k n i off=>rw[ga];rfl
 | sub k sz lo n=>rw[ga];rfl
 | mp k=>rw[ga];rfl
 | tup vs=>rw[ga];rfl
theorem lts_v (n:Nat) (l:List Value):SV.lts n (l.map .v)=true:=by
 rw[lts_iff];intro y hy;simp only[List.mem_map]at hy;obtain⟨z,_,rfl⟩:=hy;rw[SV.lt]
theorem cellsOf_lt {n:Nat} {x:SV} (h:x.lt n=true):SV.lts n (cellsOf x)=true:=by
 unfold cellsOf;split
 ·rw[SV.lt]at h;exact h
 ·rw[lts_iff];intro y hy;simp only[List.mem_map]at hy;obtain⟨z,_,rfl⟩:=hy;rw[SV.lt]
 ·rw[SV.lts,h,SV.lts];rfl
theorem Addr.at_ (g off j:Nat):(⟨g,off,none⟩:Addr).add j=⟨g,off+j,none⟩:=by
 unfold Addr.add;split<;>simp_all
theorem Rel.boxed (hr:Rel C B ρ s H a w) (T:TypeId) {cs:List SV} (hcs:SV.lts s.nx cs=true):
  Rel C B (ρ.set s.nx w.heap.size (none,0,0)) (s.new (.cells T cs)) H a (w.alloc (.cells (gas ρ cs).toArray T)) where
 env:=hr.env_new _ _
 sz:=hr.sz
 defers:=hr.defers
 mem:=by
  refine hr.mem.alloc rfl rfl ⟨rfl,Nat.le_refl _⟩ (by simp) (fun g hg=>heap_alloc_old w _ g hg) ?_ ?_ ?_
  ·exact lts_mono (Nat.le_succ _) cs hcs
  ·simp only[BoxOK];rw[gas_same (Rho.set_same ρ s.nx _ _) cs hcs];simp only[Rho.set,if_true];exact heap_alloc_new w _
  ·intro g hg;simp only[Owns,Rho.set,if_true]at hg;omega
theorem ok_box {T' T:TypeId} {x:Operand} {K:KK} (h:match get s x with
  | some y=>K (.ptr s.nx 0) (s.new (.cells T' (cellsOf y))) H
  | none=>False):RawOp C s (.box T' x) T H K:=by
 refine raw_val fun B ρ o a w ho _ hr=>?_
 split at h
 ·rename_i y hy;obtain⟨h1,h2⟩:=eval_get hr hy;refine⟨_,_,H,_,_,?_,h,hr.boxed T' (cellsOf_lt h2),Le.refl H,?_⟩
  ·simp only[execOp,ho,h1,Instr.box,newVar,newRow,Sem.run_bind,run_newObj,Result.andThen_ok,Sem.run_pure,ga,Rho.set,if_true,World.alloc_eq,←cells_ga,Array.toArray_toList]
  ·rw[SV.lt];exact Nat.ble_eq_true_of_le (Nat.le_refl _)
 ·exact h.elim
theorem zeroCells_ok (ht:TOK C) {T:TypeId} {z:List SV} (h:zeroCells C T=some z):∃v,(zeroValue T).run C.P w = .ok v w∧(∀ρ,v.cells=(gas ρ z).toArray)∧∀n,SV.lts n z=true:=by
 unfold zeroCells at h;split at h
 ·rename_i i hi;split at h
  ·rename_i v hv;simp only[Option.some.injEq]at h;subst h;have:=(ht T i.1 i.2 hi).1;refine⟨v,by simp [zeroValue,typeInfo,this,hv],fun ρ=>?_,fun n=>cellsOf_lt (by rw[SV.lt])⟩;rw[←cells_ga,ga]
  ·cases h
 ·cases h
theorem ok_alloc (ht:TOK C) {T' T:TypeId} {K:KK} (h:match zeroCells C T' with
  | some z=>K (.ptr s.nx 0) (s.new (.cells T' z)) H
  | none=>False):RawOp C s (.alloc T') T H K:=by
 refine raw_val fun B ρ o a w ho _ hr=>?_
 split at h
 ·rename_i z hz;obtain⟨v,h1,h2,h3⟩:=zeroCells_ok (w:=w) ht hz;refine⟨_,_,H,_,_,?_,h,hr.boxed T' (h3 _),Le.refl H,?_⟩
  ·simp only[execOp,ho,Instr.alloc,newVar,newRow,Sem.run_bind,h1,run_newObj,Result.andThen_ok,Sem.run_pure,ga,Rho.set,if_true,World.alloc_eq,h2 ρ]
  ·rw[SV.lt];exact Nat.ble_eq_true_of_le (Nat.le_refl _)
 ·exact h.elim
theorem getPs_ok (hr:Rel C B ρ s H a w):∀ {l:List (Nat×Operand)} {vs:List (Nat×SV)},getPs s l=some vs→l.map (fun p=>(p.1,a.eval p.2))=vs.map (fun p=>(p.1,ga ρ p.2))∧∀p∈vs,p.2.lt s.nx=true
 | [],vs,h=>by
  simp only[getPs,Option.some.injEq]at h;subst h;simp
 | (i,x)::r,vs,h=>by
  simp only[getPs]at h;split at h
  ·rename_i y hy;split at h
   ·rename_i zs hz;simp only[Option.some.injEq]at h;subst h;obtain⟨h1,h2⟩:=eval_get hr hy;obtain⟨h3,h4⟩:=getPs_ok hr hz;refine⟨by simp only[List.map_cons,h1,h3],fun p hp=>?_⟩
    rcases List.mem_cons.1 hp with rfl | hp
    ·exact h2
    ·exact h4 p hp
   ·cases h
  ·cases h
theorem foldl_set (l:List Value):∀(cs:Array Value) (off k:Nat),(l.zipIdx k).foldl (fun cs (p:Value×Nat)=>cs.setIfInBounds (off+p.2) p.1) cs =
  if off+k+l.length≤cs.size then (cs.toList.take (off+k)++l++cs.toList.drop (off+k+l.length)).toArray else (l.zipIdx k).foldl (fun cs (p:Value×Nat)=>cs.setIfInBounds (off+p.2) p.1) cs:=by
 induction l with
 | nil=>intro cs off k;split<;>simp
 | cons v r ih =>
  intro cs off k;split
  ·rename_i h;simp only[List.zipIdx_cons,List.foldl_cons];rw[ih,if_pos (by simp;simp at h;omega)];simp only[List.length_cons]at h;apply Array.ext';simp only[Array.toList_setIfInBounds];apply List.ext_getElem?;intro j;simp only[List.getElem?_append,List.length_append,List.length_take,List.length_set,List.getElem?_take,List.getElem?_drop,List.getElem?_set,Array.length_toList,List.length_cons]
   by_cases h1:j<off+k
   ·simp [h1,show j<off+(k+1) by omega,show off+k≠j by omega,show off+k≤cs.size by omega,show off+(k+1)≤cs.size by omega];rw[if_pos (by omega),if_pos (by omega)]
   ·by_cases h2:j=off+k
    ·subst h2;simp [show off+k≤cs.size by omega,show off+(k+1)≤cs.size by omega,show off+k<off+(k+1) by omega,show off+k<cs.size by omega]
     intro hh;omega
    ·have e1:j - (off+k)=(j - (off+(k+1)))+1:=by omega
     simp only[show min (off+(k+1)) cs.size=off+(k+1) by omega,show min (off+k) cs.size=off+k by omega,show ¬j<off+k from h1,show ¬j<off+(k+1) by omega,if_false,e1,List.getElem?_cons_succ,show off+k≠off+(k+1)+r.length+(j - (off+(k+1)+r.length)) by omega]
     by_cases h3:j<off+(k+1)+r.length
     ·simp [show j<off+k+(r.length+1) by omega,h3]
     ·simp [show ¬j<off+k+(r.length+1) by omega,h3]
      congr 1
      omega
  ·rfl
theorem put1_ga (ρ:Rho) (cs:List SV) (off:Nat) (x:List SV):gas ρ (put1 cs off x)=(gas ρ cs).take off++gas ρ x++(gas ρ cs).drop (off+(gas ρ x).length):=by
 simp only[put1,gas_eq,List.map_append,List.map_take,List.map_drop,List.length_map]
theorem put1_lt {n:Nat} {cs x:List SV} (off:Nat) (h1:SV.lts n cs=true) (h2:SV.lts n x=true):SV.lts n (put1 cs off x)=true:=by
 rw[lts_iff]at *;intro y hy;simp only[put1,List.mem_append]at hy
 rcases hy with (hy | hy) | hy
 ·exact h1 y (List.mem_of_mem_take hy)
 ·exact h2 y hy
 ·exact h1 y (List.mem_of_mem_drop hy)
theorem fill_ok (ρ:Rho) (place:Nat→Option (Nat×Nat)):∀(vs:List (Nat×SV)) (cells cs:List SV),fillE place cells vs=some cs →
  Instr.fill place (gas ρ cells).toArray (vs.map fun p=>(p.1,ga ρ p.2))=some (gas ρ cs).toArray
 | [],cells,cs,h=>by
  simp only[fillE,Option.some.injEq]at h;subst h;simp [Instr.fill]
 | (i,x)::r,cells,cs,h=>by
  simp only[fillE]at h;split at h
  ·cases h
  ·rename_i off size hp
   cases h1:Nat.beq (cellsOf x).length size with
   | false=>rw[h1]at h;cases h
   | true =>
    rw[h1]at h;simp only[cond_true]at h
    cases h2:Nat.ble (off+size) cells.length with
    | false=>rw[h2]at h;cases h
    | true =>
     rw[h2]at h;simp only[cond_true]at h;have e1:=beq_t h1;have e2:=ble_t h2
     have hc:(ga ρ x).cells=(gas ρ (cellsOf x)).toArray:=by rw[←cells_ga]
     have ih:=fill_ok ρ place r _ cs h
     have hl:(gas ρ (cellsOf x)).length=size:=by rw[gas_eq,List.length_map,e1]
     have hl2:(gas ρ cells).length=cells.length:=by rw[gas_eq,List.length_map]
     simp only[List.map_cons,Instr.fill,hp,hc,List.size_toArray,hl,hl2,ne_eq,not_true,decide_false,Bool.false_or,gt_iff_lt,Nat.not_lt.2 e2];have hf:=foldl_set (gas ρ (cellsOf x)) (gas ρ cells).toArray off 0;rw[if_pos (by simp [hl,hl2];omega)]at hf;simp only[Nat.add_zero]at hf;rw[←Array.foldl_toList,Array.toList_zipIdx];simp only[Bool.false_eq_true,if_false];rw[hf];rw[put1_ga]at ih;exact ih
theorem fill_lt {n:Nat} {place:Nat→Option (Nat×Nat)}:∀(vs:List (Nat×SV)) (cells cs:List SV),fillE place cells vs=some cs→SV.lts n cells=true→(∀p∈vs,p.2.lt n=true)→SV.lts n cs=true
 | [],cells,cs,h,h1,_=>by
  simp only[fillE,Option.some.injEq]at h;subst h;exact h1
 | (i,x)::r,cells,cs,h,h1,h2=>by
  simp only[fillE]at h;split at h
  ·cases h
  ·rename_i off size hp
   cases h3:Nat.beq (cellsOf x).length size with
   | false=>rw[h3]at h;cases h
   | true =>
    rw[h3]at h;simp only[cond_true]at h
    cases h4:Nat.ble (off+size) cells.length with
    | false=>rw[h4]at h;cases h
    | true =>
     rw[h4]at h;simp only[cond_true]at h;exact fill_lt r _ cs h (put1_lt off h1 (cellsOf_lt (h2 _ List.mem_cons_self))) (fun p hp=>h2 p (List.mem_cons_of_mem _ hp))
end
end Go.Sy
end
section
namespace Go.Sy
open Go.RowKit (Below)
section
variable {C:Cx} {B:Bs} {ρ:Rho} {s:St} {H:Hp} {a:Act} {w:World} {P:Program}
theorem bif_f {b:Bool} {p:Prop} (h:bif b then p else False):b=true∧p:=by
 cases b
 ·exact h.elim
 ·exact⟨rfl,h⟩
theorem flat_get {sz:Nat}:∀ {xs:List (List Value)} {i:Nat} {cs:List Value},(∀x∈xs,x.length=sz)→xs[i]?=some cs→∀j,j<sz→xs.flatten[i*sz+j]?=cs[j]?
 | [],i,cs,_,h,j,_=>by simp at h
 | x::r,0,cs,hx,h,j,hj=>by
  simp only[List.getElem?_cons_zero,Option.some.injEq]at h;subst h;have:=hx x List.mem_cons_self;rw[List.flatten_cons,Nat.zero_mul,Nat.zero_add,List.getElem?_append_left (by omega)]
 | x::r,i+1,cs,hx,h,j,hj=>by
  have h1:=hx x List.mem_cons_self;rw[List.flatten_cons,List.getElem?_append_right (by rw[h1,Nat.add_mul];omega),h1];rw[show (i+1)*sz+j - sz=i*sz+j by rw[Nat.add_mul];omega];exact flat_get (fun y hy=>hx y (List.mem_cons_of_mem _ hy)) (by simpa using h) j hj
theorem row_block {e:TypeId} {sz:Nat} {xs:List (List Value)} {k:Nat} (h:BoxOK ρ w k (.row e sz xs)) (hne:xs≠[]):
  ∃cap cur,ρ.val k = .slice (some ⟨ρ.b k,0,none⟩) xs.length cap∧w.heap[ρ.b k]?=some (.cells cur e (0,0))∧xs.length≤cap∧cur.size=cap*sz∧cur.toList.take (xs.length*sz)=xs.flatten:=by
 obtain⟨⟨_,h1⟩,_,h3⟩:=h
 rcases h1 with ⟨_,h2⟩ | ⟨g,cap,cur,hv,_,hg,hc,_,hs,ht⟩
 ·exact absurd (List.eq_nil_of_length_eq_zero h2) hne
 ·have:=h3 g (by rw[hv];rfl);subst this;exact⟨cap,cur,hv,hg,hc,hs,ht⟩
theorem row_cell {e:TypeId} {sz:Nat} {xs:List (List Value)} {k i:Nat} {cs:List Value} (h:BoxOK ρ w k (.row e sz xs)) (hi:xs[i]?=some cs):
  ∀j,j<sz→w.cell? ⟨ρ.b k,i*sz+j,none⟩=cs[j]?:=by
 intro j hj;have hlt:=(List.getElem?_eq_some_iff.1 hi).1;obtain⟨cap,cur,_,hg,_,_,ht⟩:=row_block h (by intro e;subst e;simp at hi);have h1:=flat_get (sz:=sz) (fun x hx=>(h.2.1 x hx).1) hi j hj
 have h2:i*sz+j<xs.length*sz:=by
  have:(i+1)*sz≤xs.length*sz:=Nat.mul_le_mul_right sz hlt;rw[Nat.add_mul]at this;omega
 rw[←ht,List.getElem?_take,if_pos h2]at h1;rw[←h1];simp [World.cell?,hg]
theorem Addr.at2 {ad:Addr} (h:ad.spot=none) (n off:Nat):(ad.add n).add off=⟨ad.block,ad.off+n+off,none⟩:=by
 obtain⟨b,o,sp⟩:=ad;simp only at h;subst h;rw[Addr.at_,Addr.at_]
theorem Addr.add_add (ad:Addr) (m n:Nat):(ad.add m).add n=ad.add (m+n):=by
 unfold Addr.add
 by_cases hm:m=0<;>by_cases hn:n=0<;>simp [hm,hn]
 omega
theorem tsize_ok (ht:TOK C) {T:TypeId} {n:Nat} (h:tsize C T=some n) (w:World):(sizeOf T).run C.P w = .ok n w:=by
 unfold tsize at h;split at h
 ·rename_i i hi;simp only[Option.some.injEq]at h;subst h;have:=(ht T i.1 i.2 hi).1;simp [sizeOf,typeInfo,this]
 ·cases h
theorem telem_ok (ht:TOK C) {T e:TypeId} (h:telem C T=some e):C.P.underlying T=some (.slice e):=by
 unfold telem at h;split at h
 ·rename_i i e' hi;simp only[Option.some.injEq]at h;subst h;exact (ht _ _ _ hi).2
 ·cases h
theorem tfield_ok (ht:TOK C) {T:TypeId} {f:Nat} {fd:Field} (h:tfield C T f=some fd):∃fs,C.P.underlying T=some (.struct fs)∧fs[f]?=some fd:=by
 unfold tfield at h;split at h
 ·rename_i i fs hi;exact⟨fs,(ht _ _ _ hi).2,by simpa using h⟩
 ·cases h
theorem tagg_ok (ht:TOK C) {T:TypeId} {n:Nat} (h:tsize C T=some n) (w:World):(isAgg T).run C.P w = .ok (tagg C T) w:=by
 unfold tsize at h;split at h
 ·rename_i i hi;have:=(ht T i.1 i.2 hi).2;unfold isAgg tagg;rw[Sem.run_bind,run_underlying this w,hi];obtain⟨i1,d⟩:=i
  cases d<;>rfl
 ·cases h
theorem mkv_ga {ag:Bool} {l:List SV} {r:SV} (h:mkv ag l=some r):(ag=true∧r = .agg l)∨(ag=false∧l=[r]):=by
 unfold mkv at h
 cases ag with
 | true=>simp only[cond_true,Option.some.injEq]at h;exact .inl ⟨rfl,h.symm⟩
 | false =>
  simp only[cond_false]at h;split at h
  ·simp only[Option.some.injEq]at h;subst h;exact .inr ⟨rfl,rfl⟩
  ·cases h
theorem mkv_lt {ag:Bool} {l:List SV} {r:SV} {n:Nat} (h:mkv ag l=some r) (hl:SV.lts n l=true):r.lt n=true:=by
 rcases mkv_ga h with ⟨_,rfl⟩ | ⟨_,rfl⟩
 ·rw[SV.lt];exact hl
 ·rw[lts_iff]at hl;exact hl r (by simp)
theorem loadVar_ok (ht:TOK C) {T:TypeId} {n:Nat} (hn:tsize C T=some n) {g off:Nat} {l:List SV} {r:SV} (hl:l.length=n)
  (hc:∀j v,(gas ρ l)[j]?=some v→w.cell? ⟨g,off+j,none⟩=some v) (hr:mkv (tagg C T) l=some r):(loadVar T ⟨g,off,none⟩).run C.P w = .ok (ga ρ r) w:=by
 unfold loadVar;rw[Sem.run_bind,tagg_ok ht hn w];simp only[Result.andThen_ok]
 rcases mkv_ga hr with ⟨h1,rfl⟩ | ⟨h1,rfl⟩
 ·rw[h1,if_pos rfl,Sem.run_bind,tsize_ok ht hn w];simp only[Result.andThen_ok,Sem.run_bind];have:=run_loadCells_list (P:=C.P) w ⟨g,off,none⟩ (gas ρ l) (fun j v hv=>by rw[Addr.at_];exact hc j v hv);rw[show (gas ρ l).length=n by rw[gas_eq,List.length_map,hl]]at this;rw[this,ga]
  rfl
 ·rw[h1,if_neg (by simp),run_load];have:=hc 0 (ga ρ r) (by simp [gas]);simp only[Nat.add_zero]at this;rw[this]
theorem gas_take_drop (ρ:Rho) (cs:List SV) (off n:Nat):gas ρ ((cs.drop off).take n)=((gas ρ cs).drop off).take n:=by
 simp only[gas_eq,List.map_take,List.map_drop]
theorem lts_take_drop {n:Nat} {cs:List SV} (h:SV.lts n cs=true) (off m:Nat):SV.lts n ((cs.drop off).take m)=true:=by
 rw[lts_iff]at *
 exact fun x hx=>h x (List.mem_of_mem_drop (List.mem_of_mem_take hx))
theorem cell_of (g j:Nat) {c:Array Value} {T:TypeId} {fr:Nat×Nat} (h:w.heap[g]?=some (.cells c T fr)):w.cell? ⟨g,j,none⟩=c[j]?:=by
 simp [World.cell?,h]
theorem ok_load {fb:Prop} (ht:TOK C) {T' T:TypeId} {x:Operand} {K:KK} (h:match tsize C T' with
  | none=>False
  | some n=>match get s x with
   | some (.ptr k off)=>match lk s.bx k with
    | some (.cells _ cs)=>bif Nat.ble (off+n) cs.length then (match mkv (tagg C T') ((cs.drop off).take n) with
     | some r=>K r s H
     | none=>False) else False
    | _=>False
   | some (.el (some a) i sz off)=>∃cs,ElemH H a i sz cs∧bif Nat.ble (off+n) cs.length then (match mkv (tagg C T') (((cs.drop off).take n).map .v) with
     | some r=>K r s H
     | none=>False) else False
   | some (.rel k sz i off)=>match lk s.bx k with
    | some (.row _ sz' xs)=>bif Nat.beq sz' sz then (∃cs,xs[i.toNat]?=some cs∧bif Nat.ble (off+n) cs.length then (match mkv (tagg C T') (((cs.drop off).take n).map .v) with
     | some r=>K r s H
     | none=>False) else False) else False
    | _=>False
   | _=>fb):RawP C s (.load T' x) T H K∨fb:=by
 split at h
 ·exact h.elim
 ·rename_i n hn;split at h
  ·-- a block of the call's own
   rename_i k off hx;split at h
   ·rename_i T0 cs hk
    ·obtain⟨hle,h⟩:=bif_f h;have hle:=ble_t hle;split at h
     ·rename_i r hr0
      refine .inl fun B ρ o a w ho _ hr=>⟨r,?_,h,?_⟩
      ·have h1:=(eval_get hr hx).1;rw[ga]at h1;have hb:=(hr.mem.ok _ _ hk).2.1;simp only[BoxOK]at hb
       have h2:=loadVar_ok (ρ:=ρ) (w:=w) ht hn (g:=ρ.b k) (off:=off) (l:=(cs.drop off).take n) (by simp;omega) (fun j v hv=>by
        rw[cell_of _ _ hb];rw[gas_take_drop,List.getElem?_take]at hv;split at hv
        ·simpa [List.getElem?_drop] using hv
        ·cases hv) hr0
       simp only[execOp,ho,h1,Instr.loadAt,Instr.sureAddr,Sem.run_bind,Sem.run_pure,Result.andThen_ok,h2]
      ·have:=(hr.mem.ok _ _ hk).2.2;exact mkv_lt hr0 (lts_take_drop this off n)
     ·exact h.elim
   ·exact h.elim
  ·-- an element that is never written again
   rename_i ad i sz off hx;obtain⟨cs,hel,h⟩:=h
   ·obtain⟨hle,h⟩:=bif_f h;have hle:=ble_t hle;split at h
    ·rename_i r hr0
     refine .inl fun B ρ o a w ho _ hr=>⟨r,?_,h,mkv_lt hr0 (lts_v _ _)⟩
     have h1:=(eval_get hr hx).1;obtain⟨hsp,hlen,c,T0,fr,hH,hc⟩:=hel;rw[ga,Addr.at2 hsp]at h1;have hb:=hr.mem.hp _ _ hH
     have h2:=loadVar_ok (ρ:=ρ) (w:=w) ht hn (g:=ad.block) (off:=ad.off+i.toNat*sz+off) (l:=((cs.drop off).take n).map .v) (by simp;omega) (fun j v hv=>by
      rw[cell_of _ _ hb];rw[gas_v,List.getElem?_take]at hv;split at hv
      ·rw[List.getElem?_drop]at hv;rw[Nat.add_assoc,hc (off+j) (by rw[←hlen];exact (List.getElem?_eq_some_iff.1 hv).1)];exact hv
      ·cases hv) hr0
     simp only[execOp,ho,h1,Instr.loadAt,Instr.sureAddr,Sem.run_bind,Sem.run_pure,Result.andThen_ok,h2]
    ·exact h.elim
  ·-- an element of a row of the call's own
   rename_i k sz i off hx;split at h
   ·rename_i e sz' xs hk
    have hbif:=bif_f h;clear h;obtain⟨hszz,cs,hcs,h⟩:=hbif
    obtain rfl:=beq_t hszz;obtain⟨hle,h⟩:=bif_f h;have hle:=ble_t hle;split at h
    ·rename_i r hr0
     refine .inl fun B ρ o a w ho _ hr=>⟨r,?_,h,mkv_lt hr0 (lts_v _ _)⟩
     have h1:=(eval_get hr hx).1;rw[ga]at h1;have hb:=(hr.mem.ok _ _ hk).2.1;have hlen:=(hb.2.1 cs (List.mem_of_getElem? hcs)).1
     have h2:=loadVar_ok (ρ:=ρ) (w:=w) ht hn (g:=ρ.b k) (off:=i.toNat*sz'+off) (l:=((cs.drop off).take n).map .v) (by simp;omega) (fun j v hv=>by
      rw[gas_v,List.getElem?_take]at hv;split at hv
      ·rw[List.getElem?_drop]at hv;rw[Nat.add_assoc,row_cell hb hcs (off+j) (by rw[←hlen];exact (List.getElem?_eq_some_iff.1 hv).1)];exact hv
      ·cases hv) hr0
     simp only[execOp,ho,h1,Instr.loadAt,Instr.sureAddr,Sem.run_bind,Sem.run_pure,Result.andThen_ok,h2]
    ·exact h.elim
   ·exact h.elim
  ·exact .inr h
end
end Go.Sy
end
section
namespace Go.Sy
open Go.RowKit (Below)
theorem patch1 {α:Type} (A c1 c2 c3 D1 D2 l:List α) (hl:l.length=c2.length):
  ((A++(c1++(c2++(c3++(D1++D2))))).take (A.length+c1.length)++l++(A++(c1++(c2++(c3++(D1++D2))))).drop (A.length+c1.length+c2.length)).take (A.length+c1.length+c2.length+c3.length+D1.length)
   = A++(c1++(l++(c3++D1))):=by
 have h1:(A++(c1++(c2++(c3++(D1++D2))))).take (A.length+c1.length)=A++c1:=by
  rw[←List.append_assoc];exact List.take_left' (by simp)
 have h2:(A++(c1++(c2++(c3++(D1++D2))))).drop (A.length+c1.length+c2.length)=c3++(D1++D2):=by
  rw[←List.append_assoc,←List.append_assoc];exact List.drop_left' (by simp;omega)
 rw[h1,h2];rw[show A++c1++l++(c3++(D1++D2))=(A++(c1++(l++(c3++D1))))++D2 by simp];exact List.take_left' (by simp [hl];omega)
theorem patch2 {α:Type} (cur l:List α) (m p off n sz:Nat) (h1:p+sz≤m) (h2:m≤cur.length) (hl:l.length=n) (h3:off+n≤sz):
  (cur.take (p+off)++l++cur.drop (p+off+n)).take m=(cur.take m).take p++((((cur.drop p).take sz).take off)++l++((cur.drop p).take sz).drop (off+n))++(cur.take m).drop (p+sz):=by
 have e:cur=cur.take p++((cur.drop p).take off++((cur.drop (p+off)).take n++((cur.drop (p+off+n)).take (sz - off - n)++((cur.drop (p+sz)).take (m - p - sz)++cur.drop m)))):=by
  have e1:cur.drop (p+sz)=(cur.drop (p+sz)).take (m - p - sz)++cur.drop m:=by
   conv=>lhs;rw[←List.take_append_drop (m - p - sz) (cur.drop (p+sz)),List.drop_drop]
   rw[show p+sz+(m - p - sz)=m by omega]
  have e2:cur.drop (p+off+n)=(cur.drop (p+off+n)).take (sz - off - n)++cur.drop (p+sz):=by
   conv=>lhs;rw[←List.take_append_drop (sz - off - n) (cur.drop (p+off+n)),List.drop_drop]
   rw[show p+off+n+(sz - off - n)=p+sz by omega]
  have e3:cur.drop (p+off)=(cur.drop (p+off)).take n++cur.drop (p+off+n):=by
   conv=>lhs;rw[←List.take_append_drop n (cur.drop (p+off)),List.drop_drop]
  have e4:cur.drop p=(cur.drop p).take off++cur.drop (p+off):=by
   conv=>lhs;rw[←List.take_append_drop off (cur.drop p),List.drop_drop]
  rw[←e1,←e2,←e3,←e4,List.take_append_drop]
 have f1:(cur.take m).take p=cur.take p:=by rw[List.take_take,Nat.min_eq_left (by omega)]
 have f2:((cur.drop p).take sz).take off=(cur.drop p).take off:=by rw[List.take_take,Nat.min_eq_left (by omega)]
 have f3:((cur.drop p).take sz).drop (off+n)=(cur.drop (p+off+n)).take (sz - off - n):=by
  rw[List.drop_take,List.drop_drop,show p+(off+n)=p+off+n by omega,show sz - (off+n)=sz - off - n by omega]
 have f4:(cur.take m).drop (p+sz)=(cur.drop (p+sz)).take (m - p - sz):=by
  rw[List.drop_take,show m - (p+sz)=m - p - sz by omega]
 rw[f1,f2,f3,f4];have:=patch1 (cur.take p) ((cur.drop p).take off) ((cur.drop (p+off)).take n) ((cur.drop (p+off+n)).take (sz - off - n)) ((cur.drop (p+sz)).take (m - p - sz)) (cur.drop m) l (by simp [hl];omega);rw[←e]at this;simp only[List.length_take,List.length_drop]at this;rw[show min p cur.length+min off (cur.length - p)=p+off by omega,show p+off+min n (cur.length - (p+off))=p+off+n by omega,show p+off+n+min (sz - off - n) (cur.length - (p+off+n))+min (m - p - sz) (cur.length - (p+sz))=m by omega]at this;rw[this];simp [List.append_assoc]
section
variable {C:Cx} {B:Bs} {ρ:Rho} {s:St} {H:Hp} {a:Act} {w:World} {P:Program}
theorem raw_skip {op:Op} {T:TypeId} {K:KK}
  (h:∀B ρ (o:Oper) a w,o.op=op→o.type=T→Rel C B ρ s H a w→∃s' H' ρ' w',(execOp a.eval o).run C.P w = .ok .skip w'∧K unit s' H'∧Rel C B ρ' s' H' a w'∧Le H H'):RawOp C s op T H K:=by
 intro B ρ o a w ho hT hr next Q hn;obtain⟨s',H',ρ',w',hrun,hk,hr',hle⟩:=h B ρ o a w ho hT hr;unfold Oper.wp;rw[hrun];have:=hn _ _ _ _ _ hk hr' hle (by rw[unit,SV.lt])
 simpa [unit,ga,Oper.upon,undef] using this
theorem one_cell {x:SV} (h:one x=true):(ga ρ x).oneCell'=true:=by
 cases x with
 | v y=>cases y<;>first | (rw[ga];rfl) | (simp [one]at h)
 | kb b=>rw[ga];rfl
 | ptr k off=>rw[ga];rfl
 | own k=>rw[ga];rfl
 | mp k=>rw[ga];rfl
 | fn f cap=>rw[ga];rfl
 | el a i sz off=>simp [one]at h
 | rel k n i off=>simp [one]at h
 | sub k sz lo n=>simp [one]at h
 | agg cs=>simp [one]at h
 | tup vs=>simp [one]at h
theorem ones_cell:∀ {l:List SV},ones l=true→∀v∈gas ρ l,v.oneCell'=true
 | [],_,v,hv=>by simp [gas]at hv
 | x::r,h,v,hv=>by
  rw[ones]at h
  cases h1:one x with
  | false=>rw[h1]at h;cases h
  | true =>
   rw[h1]at h;rw[gas]at hv
   rcases List.mem_cons.1 hv with rfl | hv
   ·exact one_cell h1
   ·exact ones_cell h v hv
theorem vals_gas:∀ {l:List SV} {vs:List Value},vals l=some vs→gas ρ l=vs∧∀v∈vs,v.oneCell'=true
 | [],vs,h=>by
  simp only[vals,Option.some.injEq]at h;subst h;exact⟨by rw[gas],by simp⟩
 | x::r,vs,h=>by
  simp only[vals]at h;split at h
  ·rename_i y hy;split at h
   ·rename_i ys hys;simp only[Option.some.injEq]at h;subst h;obtain⟨h1,h2⟩:=vals_gas hys
    have:ga ρ x=y∧y.oneCell'=true:=by
     unfold val1 at hy;split at hy
     ·rename_i z
      cases hz:one (.v z) with
      | false=>rw[hz]at hy;cases hy
      | true =>
       rw[hz]at hy;simp only[cond_true,Option.some.injEq]at hy;subst hy;have:=one_cell (ρ:=ρ) hz;rw[ga]at this ⊢;exact⟨rfl,this⟩
     ·simp only[Option.some.injEq]at hy;subst hy;exact⟨by rw[ga],rfl⟩
     ·cases hy
    refine⟨by rw[gas,this.1,h1],fun v hv=>?_⟩
    rcases List.mem_cons.1 hv with rfl | hv
    ·exact this.2
    ·exact h2 v hv
   ·cases h
  ·cases h
theorem storeVar_ok (ht:TOK C) {T:TypeId} {n:Nat} (hn:tsize C T=some n) {v:Value} {l:List Value} (hv:v.cells.toList=l) (hl:l.length=n) {g off:Nat} {c:Array Value} {E:TypeId}
  (hg:w.heap[g]?=some (.cells c E (0,0))) (hfit:off+n≤c.size) (h1:∀u∈l,u.oneCell'=true):
  (storeVar T ⟨g,off,none⟩ v).run C.P w = .ok () (w.setRow g (c.toList.take off++l++c.toList.drop (off+n)).toArray):=by
 have hsz:v.cells.size=n:=by rw[←hl,←hv];simp
 have:=run_storeCells_at C.P g off E l 0 c w hg (by omega) h1;simp only[Nat.add_zero,hl]at this;simp only[storeVar,Sem.run_bind,tsize_ok ht hn w,Result.andThen_ok,hsz,ne_eq,not_true,if_false,hv,this]
theorem Rel.with (hr:Rel C B ρ s H a w) {bx:List (Nat×Bx)} {H':Hp} {w':World} (hm:Mem B ρ bx s.nx H' w') (hle:Le H H':=by exact Le.refl _):Rel C B ρ { s with bx:=bx } H' a w' :=
 ⟨hr.env,hr.sz,hr.defers.up hle,hm⟩
theorem setRow_write {bx:List (Nat×Bx)} {nx k:Nat} {b b':Bx} {c cs:Array Value} {E:TypeId} (hm:Mem B ρ bx nx H w) (hk:lk bx k=some b) (hg:w.heap[ρ.b k]?=some (.cells c E (0,0)))
  (ho:Owns ρ k b (ρ.b k)) (hlt:b'.lt nx=true) (hok:(w.setRow (ρ.b k) cs).heap[ρ.b k]?=some (.cells cs E (0,0))→BoxOK ρ (w.setRow (ρ.b k) cs) k b') (howns:∀g,Owns ρ k b' g→Owns ρ k b g):
  Mem B ρ ((k,b')::bx) nx H (w.setRow (ρ.b k) cs) :=
 hm.write hk rfl rfl ⟨rfl,Nat.le_refl _⟩ (by simp) (fun g _ hng=>setRow_other w _ g _ fun e=>hng (e▸ho)) hlt (hok (setRow_heap w _ c cs E _ hg)) howns
theorem set_flat {sz:Nat} {cs:List Value} (hcs:cs.length=sz):∀ {xs:List (List Value)} {i:Nat},(∀x∈xs,x.length=sz)→i<xs.length →
  (xs.set i cs).flatten=xs.flatten.take (i*sz)++cs++xs.flatten.drop (i*sz+sz)
 | [],i,_,h=>by simp at h
 | x::r,0,hx,_=>by
  have:=hx x List.mem_cons_self;simp [←this,List.drop_left']
 | x::r,i+1,hx,h=>by
  have h1:=hx x List.mem_cons_self;have ih:=set_flat hcs (xs:=r) (i:=i) (fun y hy=>hx y (List.mem_cons_of_mem _ hy)) (by simpa using h);rw[List.set_cons_succ,List.flatten_cons,ih,List.flatten_cons];rw[show (i+1)*sz=x.length+i*sz by rw[Nat.add_mul,h1];omega];rw[show x.length+i*sz+sz=x.length+(i*sz+sz) by omega];simp [List.take_append,List.drop_append,List.take_of_length_le]
theorem ok_famSt {C:Cx} {s:St} {H:Hp} (ht:TOK C) {T' T:TypeId} {x y:Operand} {K:KK} {n:Nat} {r:SV} {a:Addr} {i:Int} {sz off:Nat} (hn:tsize C T'=some n) (hy:get s y=some r) (hlen:(cellsOf r).length=n) (hones:ones (cellsOf r)=true)
  (hx:get s x=some (.el (some a) i sz off)) (h:famSt s a i sz off n r H K):RawOp C s (.store T' x y) T H K:=by
 unfold famSt at h;split at h
 ·rename_i l hl;obtain⟨k,e,F,A,D,n1,c1,xs,cs,hk,hF,hcs,hfit,h⟩:=h
  refine raw_skip fun B ρ o ac w ho _ hr=>?_
  have h1:=(eval_get hr hx).1;obtain⟨h2,h2lt⟩:=eval_get hr hy;rw[ga]at h1;have hkk:=hr.mem.ok _ _ hk;obtain⟨hall,hpw⟩:=hkk.2.1
  have hvm:((Value.slice (some a) n1 c1,xs):Value×List (List Value))∈F:=by rw[hF];exact List.mem_append_right _ List.mem_cons_self
  have hv:=hall _ hvm;have hi:=(List.getElem?_eq_some_iff.1 hcs).1
  obtain⟨g,cap,cur,hva,_,hg,hcap,hle2,hsz,htk⟩:∃g cap cur,Value.slice (some a) n1 c1 = .slice (some ⟨g,0,none⟩) xs.length cap∧True∧w.heap[g]?=some (.cells cur e (0,0))∧xs.length≤cap∧True∧cur.size=cap*sz∧cur.toList.take (xs.length*sz)=xs.flatten:=by
   rcases hv.1.2 with ⟨h3,_⟩ | ⟨g,cap,cur,h3,_,h4,h5,_,h6,h7⟩
   ·cases h3
   ·exact⟨g,cap,cur,h3,trivial,h4,h5,trivial,h6,h7⟩
  simp only[Value.slice.injEq,Option.some.injEq]at hva;obtain⟨rfl,hn1,hc1⟩:=hva;have hcl:=(hv.2 cs (List.mem_of_getElem? hcs)).1
  have hll:l.length=n:=by rw[←(vals_gas (ρ:=ρ) hl).1,gas_eq,List.length_map,hlen]
  have hin:i.toNat*sz+sz≤xs.length*sz:=by
   have:(i.toNat+1)*sz≤xs.length*sz:=Nat.mul_le_mul_right sz hi;rwa[Nat.add_mul,Nat.one_mul]at this
  have hcapm:xs.length*sz≤cap*sz:=Nat.mul_le_mul_right sz hcap;have hst:=storeVar_ok (w:=w) ht hn (cells_ga ρ r) (by rw[gas_eq,List.length_map,hlen]) hg (off:=i.toNat*sz+off) (by omega) (ones_cell hones);rw[(vals_gas (ρ:=ρ) hl).1]at hst
  have hOg:Owns ρ k (.fam e sz F) g:=⟨_,hvm,rfl⟩
  have hgl:g<w.heap.size:=(Array.getElem?_eq_some_iff.1 hg).1
  have hsame:∀g',g'≠g→(w.setRow g (cur.toList.take (i.toNat*sz+off)++l++cur.toList.drop (i.toNat*sz+off+n)).toArray).heap[g']?=w.heap[g']?:=fun g' hne=>setRow_other w _ g' _ hne
  have hnew:=setRow_heap w g cur (cur.toList.take (i.toNat*sz+off)++l++cur.toList.drop (i.toNat*sz+off+n)).toArray e _ hg
  have hkeep:∀ {p:Value×List (List Value)} {g':Nat},p∈A++D→p.1.ownBlock=some g'→g'≠g:=fun {p g'} hp hg' hgv=>by
   subst hgv;rw[hF,List.pairwise_append,List.pairwise_cons]at hpw;obtain⟨_,⟨h2,_⟩,h3⟩:=hpw
   rcases List.mem_append.1 hp with hp | hp
   ·exact h3 p hp _ List.mem_cons_self _ hg' rfl
   ·exact h2 p hp _ rfl hg'
  have hnl:(cs.take off++l++cs.drop (off+n)).length=sz:=by simp [hll];omega
  have hrow:∀x∈xs.set i.toNat (cs.take off++l++cs.drop (off+n)),x.length=sz∧∀u∈x,u.oneCell'=true:=by
   intro x hx'
   rcases List.mem_or_eq_of_mem_set hx' with hx' | rfl
   ·exact hv.2 x hx'
   ·refine⟨hnl,fun u hu=>?_⟩;have hcs1:=(hv.2 cs (List.mem_of_getElem? hcs)).2;simp only[List.mem_append]at hu
    rcases hu with (hu | hu) | hu
    ·exact hcs1 u (List.mem_of_mem_take hu)
    ·exact (vals_gas (ρ:=ρ) hl).2 u hu
    ·exact hcs1 u (List.mem_of_mem_drop hu)
  have hflat:=set_flat hnl (xs:=xs) (i:=i.toNat) (fun x hx=>(hv.2 x hx).1) hi
  have hmem:(w.setRow g (cur.toList.take (i.toNat*sz+off)++l++cur.toList.drop (i.toNat*sz+off+n)).toArray).ownsRow 0 e sz (.slice (some ⟨g,0,none⟩) n1 c1) (xs.set i.toNat (cs.take off++l++cs.drop (off+n))).length (xs.set i.toNat (cs.take off++l++cs.drop (off+n))).flatten:=by
   refine⟨?_,.inr ⟨g,cap,_,by rw[hn1,hc1,List.length_set],Nat.zero_le _,hnew,by simpa using hcap,?_,?_,?_⟩⟩
   ·rw[hflat];have:xs.flatten.length=xs.length*sz:=hv.1.1;rw[List.length_append,List.length_append,hnl,List.length_take,List.length_drop,this,List.length_set];omega
   ·rcases hv.1.2 with ⟨h5,_⟩ | ⟨g',cap',cur',h5,_,_,_,h6,_⟩
    ·cases h5
    ·simp only[Value.slice.injEq]at h5;omega
   ·simp [hll];omega
   ·rw[hflat]
    have hcsd:cs=(cur.toList.drop (i.toNat*sz)).take sz:=by
     apply List.ext_getElem?;intro j;rw[List.getElem?_take];split
     ·rename_i hj;have:=flat_get (sz:=sz) (fun x hx=>(hv.2 x hx).1) hcs j hj;rw[←htk,List.getElem?_take,if_pos (by omega)]at this;rw[List.getElem?_drop,this]
     ·exact List.getElem?_eq_none (by omega)
    simp only[List.length_set,←htk];have hp:=patch2 cur.toList l (xs.length*sz) (i.toNat*sz) off n sz hin (by simp;omega) hll hfit;rw[←hcsd]at hp;exact hp
  have hm':Mem B ρ ((k,.fam e sz (A++(.slice (some ⟨g,0,none⟩) n1 c1,xs.set i.toNat (cs.take off++l++cs.drop (off+n)))::D))::s.bx) s.nx H (w.setRow g (cur.toList.take (i.toNat*sz+off)++l++cur.toList.drop (i.toNat*sz+off+n)).toArray):=by
   refine hr.mem.write hk rfl rfl ⟨rfl,Nat.le_refl _⟩ (by simp) (fun g' _ hng=>hsame g' fun e=>hng (e▸hOg)) rfl ⟨fun p hp=>?_,?_⟩ fun g' hg'=>?_
   ·rcases List.mem_append.1 hp with hp | hp
    ·have hpF:p∈F:=by rw[hF];exact List.mem_append_left _ hp
     exact⟨ownsRow_heap (hall p hpF).1 fun g' hg'=>hsame g' (hkeep (List.mem_append_left _ hp) hg'),(hall p hpF).2⟩
    ·rcases List.mem_cons.1 hp with rfl | hp
     ·exact⟨hmem,hrow⟩
     ·have hpF:p∈F:=by rw[hF];exact List.mem_append_right _ (List.mem_cons_of_mem _ hp)
      exact⟨ownsRow_heap (hall p hpF).1 fun g' hg'=>hsame g' (hkeep (List.mem_append_right _ hp) hg'),(hall p hpF).2⟩
   ·have hpw':=hpw;rw[hF,List.pairwise_append,List.pairwise_cons]at hpw';obtain⟨p1,⟨p2,p3⟩,p4⟩:=hpw';rw[List.pairwise_append,List.pairwise_cons];refine⟨p1,⟨fun p hp g' hg'=>p2 p hp g' hg',p3⟩,fun p hp q hq g' hg'=>?_⟩
    rcases List.mem_cons.1 hq with rfl | hq
    ·exact p4 p hp _ List.mem_cons_self g' hg'
    ·exact p4 p hp q (List.mem_cons_of_mem _ hq) g' hg'
   ·obtain⟨p,hp,hg'⟩:=hg'
    rcases List.mem_append.1 hp with hp | hp
    ·exact⟨p,by rw[hF];exact List.mem_append_left _ hp,hg'⟩
    ·rcases List.mem_cons.1 hp with rfl | hp
     ·exact⟨_,hvm,hg'⟩
     ·exact⟨p,by rw[hF];exact List.mem_append_right _ (List.mem_cons_of_mem _ hp),hg'⟩
  refine⟨_,H,ρ,w.setRow g (cur.toList.take (i.toNat*sz+off)++l++cur.toList.drop (i.toNat*sz+off+n)).toArray,?_,h,hr.with hm',Le.refl H⟩
  have ea:(Addr.add (Addr.add ⟨g,0,none⟩ (i.toNat*sz)) off)=⟨g,i.toNat*sz+off,none⟩:=by rw[Addr.at_,Addr.at_,Nat.zero_add]
  rw[ea]at h1;simp only[execOp,ho,h1,h2,Instr.storeAt,Instr.sureAddr,Sem.run_bind,Sem.run_pure,Result.andThen_ok,hst]
 ·exact h.elim
theorem ok_store (ht:TOK C) {T' T:TypeId} {x y:Operand} {K:KK} (h:match tsize C T' with
  | none=>False
  | some n=>match get s y with
   | none=>False
   | some r=>bif Nat.beq (cellsOf r).length n then (bif ones (cellsOf r) then (match get s x with
    | some (.ptr k off)=>match lk s.bx k with
     | some (.cells T0 cs)=>bif Nat.ble (off+n) cs.length then K unit (s.box k (.cells T0 (put1 cs off (cellsOf r)))) H else False
     | _=>False
    | some (.rel k sz i off)=>match lk s.bx k with
     | some (.row e sz' xs)=>bif Nat.beq sz' sz&&Nat.ble (off+n) sz then (∃cs,xs[i.toNat]?=some cs∧match vals (cellsOf r) with
      | some l=>K unit (s.box k (.row e sz (xs.set i.toNat (cs.take off++l++cs.drop (off+n))))) H
      | none=>False) else False
     | _=>False
    | some (.el (some a) i sz off)=>bif famAlive s.bx then famSt s a i sz off n r H K else RawOp C s (.store T' x y) T H K
    | _=>RawOp C s (.store T' x y) T H K) else False) else False):RawOp C s (.store T' x y) T H K:=by
 split at h
 ·exact h.elim
 ·rename_i n hn;split at h
  ·exact h.elim
  ·rename_i r hy;obtain⟨hlen,h⟩:=bif_f h;obtain⟨hones,h⟩:=bif_f h;have hlen:=beq_t hlen;split at h
   ·rename_i k off hx;split at h
    ·rename_i T0 cs hk;obtain⟨hle,h⟩:=bif_f h;have hle:=ble_t hle
     refine raw_skip fun B ρ o a w ho _ hr=>?_
     have h1:=(eval_get hr hx).1;obtain⟨h2,h2lt⟩:=eval_get hr hy;rw[ga]at h1;have hkk:=hr.mem.ok _ _ hk;have hb:=hkk.2.1;simp only[BoxOK]at hb;have hst:=storeVar_ok (w:=w) ht hn (cells_ga ρ r) (by rw[gas_eq,List.length_map,hlen]) hb (off:=off) (by simp [gas_eq];omega) (ones_cell hones);refine⟨_,H,ρ,w.setRow (ρ.b k) ((gas ρ cs).toArray.toList.take off++gas ρ (cellsOf r)++(gas ρ cs).toArray.toList.drop (off+n)).toArray,?_,h,hr.with (bx:=(k,.cells T0 (put1 cs off (cellsOf r)))::s.bx) (setRow_write hr.mem hk hb rfl ?_ ?_ ?_),Le.refl H⟩
     ·simp only[execOp,ho,h1,h2,Instr.storeAt,Instr.sureAddr,Sem.run_bind,Sem.run_pure,Result.andThen_ok,hst]
     ·exact put1_lt off hkk.2.2 (cellsOf_lt h2lt)
     ·intro hh;simp only[BoxOK];rw[hh,put1_ga];simp [gas_eq,hlen]
     ·intro g hg;exact hg
    ·exact h.elim
   ·rename_i k sz i off hx;split at h
    ·rename_i e sz' xs hk
     have hbif:=bif_f h;clear h;obtain⟨hszz,cs,hcs,h⟩:=hbif
     simp only[Bool.and_eq_true]at hszz;obtain rfl:=beq_t hszz.1;have hfit:=ble_t hszz.2;split at h
     ·rename_i l hl
      refine raw_skip fun B ρ o a w ho _ hr=>?_
      have h1:=(eval_get hr hx).1;obtain⟨h2,h2lt⟩:=eval_get hr hy;rw[ga]at h1;have hkk:=hr.mem.ok _ _ hk;have hb:=hkk.2.1;have hi:=(List.getElem?_eq_some_iff.1 hcs).1;obtain⟨cap,cur,hv,hg,hcap,hsz,htk⟩:=row_block hb (by intro e;subst e;simp at hi);have hcl:=(hb.2.1 cs (List.mem_of_getElem? hcs)).1
      have hll:l.length=n:=by rw[←(vals_gas (ρ:=ρ) hl).1,gas_eq,List.length_map,hlen]
      have hin:i.toNat*sz'+sz'≤xs.length*sz':=by
       have:(i.toNat+1)*sz'≤xs.length*sz':=Nat.mul_le_mul_right sz' hi;rwa[Nat.add_mul,Nat.one_mul]at this
      have hcapm:xs.length*sz'≤cap*sz':=Nat.mul_le_mul_right sz' hcap;have hst:=storeVar_ok (w:=w) ht hn (cells_ga ρ r) (by rw[gas_eq,List.length_map,hlen]) hg (off:=i.toNat*sz'+off) (by omega) (ones_cell hones);rw[(vals_gas (ρ:=ρ) hl).1]at hst
      have hown:Owns ρ k (.row e sz' xs) (ρ.b k):=by simp [Owns,hv,Value.ownBlock]
      refine⟨_,H,ρ,w.setRow (ρ.b k) (cur.toList.take (i.toNat*sz'+off)++l++cur.toList.drop (i.toNat*sz'+off+n)).toArray,?_,h,hr.with (bx:=(k,.row e sz' (xs.set i.toNat (cs.take off++l++cs.drop (off+n))))::s.bx) (setRow_write hr.mem hk hg hown rfl ?_ ?_),Le.refl H⟩
      ·simp only[execOp,ho,h1,h2,Instr.storeAt,Instr.sureAddr,Sem.run_bind,Sem.run_pure,Result.andThen_ok,hst]
      ·intro hh
       have hnl:(cs.take off++l++cs.drop (off+n)).length=sz':=by simp [hll];omega
       have hall:∀x∈xs.set i.toNat (cs.take off++l++cs.drop (off+n)),x.length=sz'∧∀u∈x,u.oneCell'=true:=by
        intro x hx'
        rcases List.mem_or_eq_of_mem_set hx' with hx' | rfl
        ·exact hb.2.1 x hx'
        ·refine⟨hnl,fun u hu=>?_⟩;have hcs1:=(hb.2.1 cs (List.mem_of_getElem? hcs)).2;simp only[List.mem_append]at hu
         rcases hu with (hu | hu) | hu
         ·exact hcs1 u (List.mem_of_mem_take hu)
         ·exact (vals_gas (ρ:=ρ) hl).2 u hu
         ·exact hcs1 u (List.mem_of_mem_drop hu)
       have hflat:=set_flat hnl (xs:=xs) (i:=i.toNat) (fun x hx=>(hb.2.1 x hx).1) hi;refine⟨⟨?_,.inr ⟨ρ.b k,cap,_,by rw[hv];simp,Nat.zero_le _,hh,by simpa using hcap,?_,?_,?_⟩⟩,hall,hb.2.2⟩
       ·rw[hflat];have:xs.flatten.length=xs.length*sz':=hb.1.1;rw[List.length_append,List.length_append,hnl,List.length_take,List.length_drop,this,List.length_set];omega
       ·rcases hb.1.2 with ⟨h5,_⟩ | ⟨g',cap',cur',h5,_,_,_,h6,_⟩
        ·rw[hv]at h5;cases h5
        ·rw[hv]at h5;simp only[Value.slice.injEq]at h5;omega
       ·simp [hll];omega
       ·rw[hflat]
        have hcsd:cs=(cur.toList.drop (i.toNat*sz')).take sz':=by
         apply List.ext_getElem?;intro j;rw[List.getElem?_take];split
         ·rename_i hj;have:=flat_get (sz:=sz') (fun x hx=>(hb.2.1 x hx).1) hcs j hj;rw[←htk,List.getElem?_take,if_pos (by omega)]at this;rw[List.getElem?_drop,this]
         ·exact List.getElem?_eq_none (by omega)
        simp only[List.length_set,←htk];have hp:=patch2 cur.toList l (xs.length*sz') (i.toNat*sz') off n sz' hin (by simp;omega) hll hfit;rw[←hcsd]at hp;exact hp
      ·intro g hg';exact hg'
     ·exact h.elim
    ·exact h.elim
   ·rename_i a i sz off hx
    cases hf:famAlive s.bx with
    | true =>
     rw[hf,cond_true]at h;exact ok_famSt ht hn hy hlen hones hx h
    | false =>
     rw[hf,cond_false]at h;exact h
   ·exact h
theorem fieldPlace_run (ht:TOK C) {f:Field} {n:Nat} (h:tsize C f.type=some (n+1)) (a:Addr) (w:World):(fieldPlace a f).run C.P w = .ok (a.add f.offset) w:=by
 simp [fieldPlace,tsize_ok ht h w]
theorem ok_fieldAddr {fb:Prop} (ht:TOK C) {T' T:TypeId} {x:Operand} {f:Nat} {K:KK} (h:match tfield C T' f with
  | none=>False
  | some fd=>match tsize C fd.type with
   | some (_+1)=>match get s x with
    | some (.ptr k off)=>K (.ptr k (off+fd.offset)) s H
    | some (.el (some a) i sz off)=>K (.el (some a) i sz (off+fd.offset)) s H
    | some (.rel k n i off)=>K (.rel k n i (off+fd.offset)) s H
    | _=>fb
   | _=>fb):RawP C s (.fieldAddr T' x f) T H K∨fb:=by
 split at h
 ·exact h.elim
 ·rename_i fd hfd;obtain⟨fs,h1,h2⟩:=tfield_ok ht hfd;split at h
  ·rename_i n hn;split at h
   ·rename_i k off hx
    refine .inl fun B ρ o a w ho _ hr=>⟨_,?_,h,?_⟩
    ·have h3:=(eval_get hr hx).1;rw[ga]at h3;simp only[execOp,ho,h3,Instr.fieldAt,Instr.sureAddr,Sem.run_bind,run_underlying h1,Result.andThen_ok,h2,Sem.run_pure,fieldPlace_run ht hn,ga,Addr.at_]
    ·have:=(eval_get hr hx).2
     rw[SV.lt]at this ⊢;exact this
   ·rename_i ad i sz off hx
    refine .inl fun B ρ o a w ho _ hr=>⟨_,?_,h,by rw[SV.lt]⟩
    have h3:=(eval_get hr hx).1;rw[ga]at h3;simp only[execOp,ho,h3,Instr.fieldAt,Instr.sureAddr,Sem.run_bind,run_underlying h1,Result.andThen_ok,h2,Sem.run_pure,fieldPlace_run ht hn,ga,Addr.add_add,Nat.add_assoc]
   ·rename_i k m i off hx
    refine .inl fun B ρ o a w ho _ hr=>⟨_,?_,h,?_⟩
    ·have h3:=(eval_get hr hx).1;rw[ga]at h3;simp only[execOp,ho,h3,Instr.fieldAt,Instr.sureAddr,Sem.run_bind,run_underlying h1,Result.andThen_ok,h2,Sem.run_pure,fieldPlace_run ht hn,ga,Addr.at_,Nat.add_assoc]
    ·have:=(eval_get hr hx).2
     rw[SV.lt]at this ⊢;exact this
   ·exact .inr h
  ·exact .inr h
theorem part_ok (ht:TOK C) {T:TypeId} {n off:Nat} (hn:tsize C T=some n) {l:List SV} {r:SV} (hr:mkv (tagg C T) ((l.drop off).take n)=some r) (w:World):
  (part T (gas ρ l).toArray off).run C.P w = .ok (ga ρ r) w:=by
 unfold part;rw[Sem.run_bind,tagg_ok ht hn w];simp only[Result.andThen_ok]
 rcases mkv_ga hr with ⟨h1,rfl⟩ | ⟨h1,h2⟩
 ·rw[h1,if_pos rfl,Sem.run_bind,tsize_ok ht hn w,ga,gas_take_drop];simp
 ·rw[h1,if_neg (by simp)]
  have:(gas ρ l)[off]?=some (ga ρ r):=by
   have h3:(l.drop off)[0]?=some r:=by
    have:=congrArg (fun l=>l[0]?) h2;simp only[List.getElem?_take]at this;split at this
    ·simpa using this
    ·cases this
   rw[List.getElem?_drop,Nat.add_zero]at h3
   rw[gas_eq,List.getElem?_map,h3];rfl
  have h4:(gas ρ l).toArray[off]?=some (ga ρ r):=by simpa using this
  rw[h4]
  rfl
theorem aggOf_ga (ρ:Rho) {y:SV} {cs:List SV} (h:aggOf y=some cs):ga ρ y = .agg (gas ρ cs).toArray∧∀n,y.lt n=true→SV.lts n cs=true:=by
 unfold aggOf at h;split at h
 ·simp only[Option.some.injEq]at h;subst h;exact⟨by rw[ga],fun n hn=>by rw[SV.lt]at hn;exact hn⟩
 ·simp only[Option.some.injEq]at h;subst h;exact⟨by rw[ga,gas_v],fun n _=>lts_v n _⟩
 ·cases h
theorem ok_field {fb:Prop} (ht:TOK C) {T' T:TypeId} {x:Operand} {f:Nat} {K:KK} (h:match tfield C T' f with
  | none=>False
  | some fd=>match get s x with
   | some y=>match aggOf y with
    | some cs=>match tsize C fd.type with
     | some n=>match mkv (tagg C fd.type) ((cs.drop fd.offset).take n) with
      | some r=>K r s H
      | none=>False
     | none=>False
    | none=>False
   | none=>False):RawP C s (.field T' x f) T H K∨fb:=by
 split at h
 ·exact h.elim
 ·rename_i fd hfd;obtain⟨fs,h1,h2⟩:=tfield_ok ht hfd;split at h
  ·rename_i y hy;split at h
   ·rename_i cs hcs;split at h
    ·rename_i n hn;split at h
     ·rename_i r hr0
      refine .inl fun B ρ o a w ho _ hr=>⟨r,?_,h,?_⟩
      ·have h3:=(eval_get hr hy).1;rw[(aggOf_ga ρ hcs).1]at h3;simp only[execOp,ho,h3,Instr.field,Sem.run_bind,run_underlying h1,Result.andThen_ok,h2,asAgg,Sem.run_pure,part_ok ht hn hr0]
      ·exact mkv_lt hr0 (lts_take_drop ((aggOf_ga ρ hcs).2 _ (eval_get hr hy).2) _ _)
     ·exact h.elim
    ·exact h.elim
   ·exact h.elim
  ·exact h.elim
theorem ok_nilCheck {fb:Prop} {T:TypeId} {x:Operand} {K:KK} (h:match get s x with
  | some (.ptr k off)=>K (.ptr k off) s H
  | some (.el (some a) i sz off)=>K (.el (some a) i sz off) s H
  | some (.fn f cap)=>K (.fn f cap) s H
  | some (.rel k n i off)=>K (.rel k n i off) s H
  | _=>fb):RawP C s (.nilCheck x) T H K∨fb:=by
 split at h
 ·rename_i k off hx
  refine .inl fun B ρ o a w ho _ hr=>⟨_,?_,h,(eval_get hr hx).2⟩
  have h3:=(eval_get hr hx).1;rw[ga]at h3;simp only[execOp,ho,h3,ga]
  rfl
 ·rename_i ad i sz off hx
  refine .inl fun B ρ o a w ho _ hr=>⟨_,?_,h,(eval_get hr hx).2⟩
  have h3:=(eval_get hr hx).1;rw[ga]at h3;simp only[execOp,ho,h3,ga]
  rfl
 ·rename_i f cap hx
  refine .inl fun B ρ o a w ho _ hr=>⟨_,?_,h,(eval_get hr hx).2⟩
  have h3:=(eval_get hr hx).1;rw[ga]at h3;simp only[execOp,ho,h3,ga]
  rfl
 ·rename_i k n i off hx
  refine .inl fun B ρ o a w ho _ hr=>⟨_,?_,h,(eval_get hr hx).2⟩
  have h3:=(eval_get hr hx).1;rw[ga]at h3;simp only[execOp,ho,h3,ga]
  rfl
 ·exact .inr h
theorem ok_indexAddr {fb:Prop} (ht:TOK C) {T' T:TypeId} {x i:Operand} {K:KK} (h:match telem C T' with
  | none=>match C.tt T' with
   | some (_,.array m e)=>match tsize C e with
    | some sz=>match get s i with
     | some (.v (.int _ j))=>match get s x with
      | some (.ptr k off)=>(0≤j∧j<m)∧K (.ptr k (off+j.toNat*sz)) s H
      | _=>fb
     | _=>fb
    | _=>fb
   | _=>fb
  | some e=>match tsize C e with
   | none=>False
   | some sz=>match get s i with
    | some (.v (.int _ j))=>match get s x with
     | some (.v (.slice a n _))=>∃ad,(0≤j∧j<n∧a=some ad)∧K (.el (some ad) j sz 0) s H
     | some (.own k)=>match lk s.bx k with
      | some (.row _ sz' xs)=>bif Nat.beq sz' sz then ((0≤j∧j<xs.length)∧K (.rel k sz j 0) s H) else False
      | _=>False
     | some (.sub k sz0 lo n)=>match lk s.bx k with
      | some (.row _ sz' xs)=>bif Nat.beq sz' sz&&Nat.beq sz0 sz then ((0≤j∧j<n∧lo+n≤xs.length)∧K (.rel k sz (lo+j) 0) s H) else False
      | _=>False
     | _=>False
    | _=>False):RawP C s (.indexAddr T' x i) T H K∨fb:=by
 split at h
 ·split at h
  ·rename_i z m e hT;split at h
   ·rename_i sz hsz;split at h
    ·rename_i k j hi;split at h
     ·rename_i k' off hx;obtain⟨⟨h1,h2⟩,h⟩:=h
      refine .inl fun B ρ o a w ho _ hr=>⟨_,?_,h,?_⟩
      ·have h3:=(eval_get hr hx).1;have h4:=(eval_get hr hi).1;rw[ga]at h3;rw[ga]at h4;have hu:=(ht.tt _ _ _ hT).2;simp only[execOp,ho,h3,h4,Instr.indexAt,Instr.sureAddr,asIntOf,Sem.run_bind,Sem.run_pure,Result.andThen_ok,run_underlying hu,h1,h2,and_self,if_true,tsize_ok ht hsz,ga,Addr.at_]
      ·have:=(eval_get hr hx).2
       rw[SV.lt]at this ⊢;exact this
     ·exact .inr h
    ·exact .inr h
   ·exact .inr h
  ·exact .inr h
 ·rename_i e he;have hu:=telem_ok ht he;split at h
  ·exact h.elim
  ·rename_i sz hsz;split at h
   ·rename_i k j hi;split at h
    ·rename_i ad n cp hx;obtain⟨ad,⟨h1,h2,rfl⟩,h⟩:=h
     refine .inl fun B ρ o a w ho _ hr=>⟨_,?_,h,by rw[SV.lt]⟩
     have h3:=(eval_get hr hx).1;have h4:=(eval_get hr hi).1;rw[ga]at h3 h4;simp only[execOp,ho,h3,h4,Instr.indexAt,asIntOf,Sem.run_bind,Sem.run_pure,Result.andThen_ok,run_underlying hu,h1,h2,and_self,if_true,tsize_ok ht hsz,ga,Addr.add_add,Nat.add_zero]
    ·rename_i k' hx;split at h
     ·rename_i e' sz' xs hk
      have hbif:=bif_f h;clear h;obtain⟨hszz,⟨h1,h2⟩,h⟩:=hbif
      obtain rfl:=beq_t hszz
      refine .inl fun B ρ o a w ho _ hr=>⟨_,?_,h,?_⟩
      ·have h3:=(eval_get hr hx).1;have h4:=(eval_get hr hi).1;rw[ga]at h3;rw[ga]at h4;have hb:=(hr.mem.ok _ _ hk).2.1;obtain⟨cap,cur,hv,_⟩:=row_block hb (by intro e;subst e;simp at h2;omega);rw[hv]at h3;simp only[execOp,ho,h3,h4,Instr.indexAt,asIntOf,Sem.run_bind,Sem.run_pure,Result.andThen_ok,run_underlying hu,h1,h2,and_self,if_true,tsize_ok ht hsz,ga,Addr.at_,Nat.zero_add,Nat.add_zero]
      ·have:=(eval_get hr hx).2;rw[SV.lt]at this
       rw[SV.lt];exact this
     ·exact h.elim
    ·rename_i k' sz0 lo n hx;split at h
     ·rename_i e' sz' xs hk
      have hbif:=bif_f h;clear h;obtain⟨hszz,⟨h1,h2,h5⟩,h⟩:=hbif
      simp only[Bool.and_eq_true]at hszz;obtain rfl:=beq_t hszz.1;obtain rfl:=beq_t hszz.2
      refine .inl fun B ρ o a w ho _ hr=>⟨_,?_,h,?_⟩
      ·have h3:=(eval_get hr hx).1;have h4:=(eval_get hr hi).1;rw[ga,Rho.part]at h3;rw[ga]at h4;have hb:=(hr.mem.ok _ _ hk).2.1
       have hsl:∃cap,ρ.sl k'=(some ⟨ρ.b k',0,none⟩,xs.length,cap)∧xs.length≤cap:=by
        obtain⟨cap,cur,hv,h7⟩:=row_block hb (by intro e;subst e;simp at h5;omega);simp only[Rho.val,Value.slice.injEq]at hv
        rcases hb.1.2 with ⟨h1,h2⟩ | ⟨g,cap',cur',h8,_,_,h3,_⟩
        ·omega
        ·simp only[Rho.val,Value.slice.injEq]at h8;exact⟨cap,Prod.ext hv.1 (Prod.ext hv.2.1 hv.2.2),by have:=h8.2.2.symm.trans hv.2.2;omega⟩
       obtain⟨cap,hsl,hcap⟩:=hsl;rw[hsl,cutA,if_neg (by simp only;omega),Option.map_some,Addr.at_,Nat.zero_add]at h3
       have e9:((lo:Int)+j).toNat=lo+j.toNat:=by omega
       simp only[execOp,ho,h3,h4,Instr.indexAt,asIntOf,Sem.run_bind,Sem.run_pure,Result.andThen_ok,run_underlying hu,h1,h2,and_self,if_true,tsize_ok ht hsz,ga,Addr.at_,Nat.add_zero,e9,Nat.add_mul]
      ·have:=(eval_get hr hx).2;rw[SV.lt]at this
       rw[SV.lt];exact this
     ·exact h.elim
    ·exact h.elim
   ·exact h.elim
theorem sl_get (b:ByteArray) (i:Nat):b[i]?=(sl b)[i]?:=by
 unfold sl;rw[Array.getElem?_toList]
 by_cases h:i<b.size
 ·rw[getElem?_pos b i h,getElem?_pos b.data i h];rfl
 ·rw[getElem?_neg b i h,getElem?_neg b.data i h]
theorem extract_bs (b:ByteArray) (l h:Nat):b.extract l h=bs (((sl b).take h).drop l):=by
 apply ByteArray.ext;apply Array.ext';simp [bs,sl,List.drop_take]
theorem ok_index {fb:Prop} (ht:TOK C) {xT T:TypeId} {x i:Operand} {K:KK} (h:match C.tt xT with
  | some (_,.string)=>match get s x with
   | some (.v (.string b))=>match get s i with
    | some (.v (.int _ j))=>∃c:UInt8,(0≤j∧(sl b)[j.toNat]?=some c)∧K (.v (.int .u8 c.toNat)) s H
    | _=>False
   | _=>False
  | _=>fb):RawP C s (.index xT x i) T H K∨fb:=by
 split at h
 ·rename_i i0 hT;have hs:=(ht _ _ _ hT).2;split at h
  ·rename_i b hx;split at h
   ·rename_i k j hi;obtain⟨c,⟨h1,h2⟩,h⟩:=h
    refine .inl fun B ρ o a w ho _ hr=>⟨_,?_,h,by rw[SV.lt]⟩
    have h3:=(eval_get hr hx).1;have h4:=(eval_get hr hi).1;rw[ga]at h3 h4;rw[←sl_get]at h2;simp only[execOp,ho,h3,h4,Instr.index,asIntOf,Sem.run_bind,Sem.run_pure,Result.andThen_ok,run_underlying hs,h1,if_true,h2,ga]
   ·exact h.elim
  ·exact h.elim
 ·exact .inr h
theorem ok_extract {fb:Prop} {T:TypeId} {x:Operand} {i:Nat} {K:KK} (h:match get s x with
  | some (.tup vs)=>match vs[i]? with
   | some y=>K y s H
   | none=>False
  | _=>False):RawP C s (.extract x i) T H K∨fb:=by
 split at h
 ·rename_i vs hx;split at h
  ·rename_i y hy
   refine .inl fun B ρ o a w ho _ hr=>⟨y,?_,h,?_⟩
   ·have h3:=(eval_get hr hx).1;rw[ga]at h3
    have:(gas ρ vs).toArray[i]?=some (ga ρ y):=by simp [gas_eq,hy]
    simp only[execOp,ho,h3,Instr.extract,this]
    rfl
   ·have:=(eval_get hr hx).2;rw[SV.lt,lts_iff]at this;exact this y (List.mem_of_getElem? hy)
  ·exact h.elim
 ·exact h.elim
theorem ok_makeFunc {fb:Prop} {fn:Fn} {first cap:Array Operand} {T:TypeId} {K:KK} (h:match fn with
  | .func f=>match first.toList with
   | []=>match gets s cap.toList with
    | some vs=>K (.fn f vs) s H
    | none=>False
   | _=>fb
  | _=>fb):RawP C s (.makeFunc fn first cap) T H K∨fb:=by
 split at h
 ·rename_i f;split at h
  ·rename_i hfirst;split at h
   ·rename_i vs hvs
    refine .inl fun B ρ o a w ho _ hr=>⟨_,?_,h,?_⟩
    ·have h3:=(eval_gets hr hvs).1
     have h4:first=#[]:=by apply Array.ext';simpa using hfirst
     have h5:cap.map a.eval=(gas ρ vs).toArray:=by apply Array.ext';simpa using h3
     have h6:(#[]:Array Operand).map a.eval=#[]:=by simp
     simp only[execOp,ho,Instr.makeFunc,ga,h4,h5,h6,Sem.run_bind,Sem.run_pure,Result.andThen_ok]
    ·rw[SV.lt];exact (eval_gets hr hvs).2
   ·exact h.elim
  ·exact .inr h
 ·exact .inr h
end
end Go.Sy
end
