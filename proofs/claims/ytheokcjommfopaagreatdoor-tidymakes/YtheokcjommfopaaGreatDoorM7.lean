/- Part 'M7' of the proof (SyDef, SyOk, SyFast): lemmas, each with its own conditions in its own statement. -/
import Derived.Below
import Derived.Laws.ComplexArith
import Derived.Maps.OwnSet
import Derived.Orders
set_option maxRecDepth 20000
set_option maxHeartbeats 4000000
section
/- The symbolic reader of a function's body: definitions. Plain definitions, no program in sight. -/
namespace Go.Sy
theorem aL.{u} {α:Type u} {l:List α} {i:Nat} (h:i<l.length):l[i]?=some l[i]:=List.getElem?_eq_getElem h
theorem dY.{u} {α:Type u} {l:List α} {i:Nat} {a:α} (h:l[i]?=some a):a∈l:=List.mem_of_getElem? h
theorem gh.{u} {α:Type u} {l:List α} {i:Nat} {a:α}:l[i]?=some a↔∃h:i<l.length,l[i]=a:=List.getElem?_eq_some_iff
open Go.RowKit (Below)
abbrev Hp:=Nat→Option Obj
def Le (H H':Hp):Prop:=∀b o,H b=some o→H' b=some o
def K4 (P:Program) (k e:TypeId):Prop:=Maps.Keyed P k∧P.underlying e=some (.int .i64)∧∀w,(zeroValue e).run P w = .ok (.int .i64 0) w
def wb (P:Program) (k e:TypeId) (n:Nat) (g:Lit→Int) (ob:Obj):Prop:=K4 P k e∧∃es clock,ob = .map es clock∧WideElems.Fit (H:=Empty) P k (plainElem P e) es clock∧es.size≤n ∧
 ∀kl,Maps.KeysOf P k kl→(DataW.map ((es.toList.map (WideElems.rg P k (plainElem (H:=Empty) P e))).foldr DataW.insert [])).atKey kl (.lit (.int .i64 0)) = .lit (.int .i64 (g kl))
open Classical in
noncomputable def Fi (g:Lit→Int) (kl:Lit) (a:Int):Lit→Int:=fun l=>if l=kl then a else g l
inductive SV where
 | v (x:Value)
 | kb (b:Bool)
 | ptr (k off:Nat)
 | el (a:Option Addr) (i:Int) (sz off:Nat)
 | rel (k n:Nat) (i:Int) (off:Nat)
 | own (k:Nat)
 | sub (k sz lo n:Nat)
 | mp (k:Nat)
 | agg (cs:List SV)
 | fn (f:FuncId) (cap:List SV)
 | eo (vs:List SV)
inductive Bx where
 | cells (T:TypeId) (cs:List SV)
 | row (e:TypeId) (sz:Nat) (xs:List (List Value))
 | qh (x:Value)
 | obj (Φ:Obj→Prop)
 | kW (e:TypeId) (sz:Nat) (l:List (Value×List (List Value)))
 | dead
structure St where
 env:List (Nat×SV)
 bx:List (Nat×Bx)
 nx:Nat
def lk {α:Type}:List (Nat×α)→Nat→Option α
 | [],_=>none
 | (k,x)::r,n=>bif Nat.beq k n then some x else lk r n
def bs (l:List UInt8):ByteArray:=⟨⟨l⟩⟩
def sl (s:ByteArray):List UInt8:=s.data.toList
structure Cx where
 P:Program
 tt:TypeId→Option (TypeInfo×TypeDesc)
 n:Nat
 wrap:Bool
 base:Nat
 gf:List Nat
 eqs:List Nat
 xf:List Nat
 rg:Bool:=false
structure bk where
 b:Nat→Nat
 sl:Nat→Option Addr×Nat×Nat
def bk.val (ρ:bk) (k:Nat):Value:=.slice (ρ.sl k).1 (ρ.sl k).2.1 (ρ.sl k).2.2
def dR (a:Option Addr) (l c sz:Nat):Option Addr:=if c=l then a else a.map (·.add (l*sz))
def bk.part (ρ:bk) (k sz lo n:Nat):Value:=.slice (dR (ρ.sl k).1 lo (ρ.sl k).2.2 sz) n ((ρ.sl k).2.2 - lo)
mutual
def ga (ρ:bk):SV→Value
 | .v x=>x
 | .kb b=>.bool b
 | .ptr k off=>.pointer (some ⟨ρ.b k,off,none⟩)
 | .el a i sz off=>match a with
  | some ad=>.pointer (some ((ad.add (i.toNat*sz)).add off))
  | none=>.pointer none
 | .rel k n i off=>.pointer (some ⟨ρ.b k,i.toNat*n+off,none⟩)
 | .own k=>ρ.val k
 | .sub k sz lo n=>ρ.part k sz lo n
 | .mp k=>.map (some (ρ.b k))
 | .agg cs=>.agg (cE ρ cs).toArray
 | .fn f cap=>.func (.func f) #[] (cE ρ cap).toArray
 | .eo vs=>.tuple (cE ρ vs).toArray
def cE (ρ:bk):List SV→List Value
 | []=>[]
 | x::r=>ga ρ x::cE ρ r
end
mutual
def SV.lt (n:Nat):SV→Bool
 | .v _=>true
 | .kb _=>true
 | .ptr k _=>Nat.ble (k+1) n
 | .el _ _ _ _=>true
 | .rel k _ _ _=>Nat.ble (k+1) n
 | .own k=>Nat.ble (k+1) n
 | .sub k _ _ _=>Nat.ble (k+1) n
 | .mp k=>Nat.ble (k+1) n
 | .agg cs=>SV.jW n cs
 | .fn _ cap=>SV.jW n cap
 | .eo vs=>SV.jW n vs
def SV.jW (n:Nat):List SV→Bool
 | []=>true
 | x::r=>bif SV.lt n x then SV.jW n r else false
end
def Bx.lt (n:Nat):Bx→Bool
 | .cells _ cs=>SV.jW n cs
 | _=>true
def norm (bx:List (Nat×Bx)):SV→SV
 | .own k=>match lk bx k with
  | some (.qh x)=>.v x
  | _=>.own k
 | .sub k sz lo n=>match lk bx k with
  | some (.qh (.slice a _ c))=>.v (.slice (dR a lo c sz) n (c - lo))
  | _=>.sub k sz lo n
 | x=>x
def get (s:St):Operand→Option SV
 | .tmp t=>match lk s.env t with
  | some x=>some (norm s.bx x)
  | none=>none
 | .const x=>match x with
  | .bool b=>some (.kb b)
  | x=>some (.v x)
 | .global g=>some (.v (.pointer (some ⟨g,0,none⟩)))
 | .func f=>some (.fn f [])
def St.put (n:Nat) (s:St) (d:Option Tmp) (x:SV):St :=
 match d with
 | some t=>bif Nat.ble (t+1) n then { s with env:=(t,x)::s.env } else s
 | none=>s
def fw (n:Nat) (K:Nat→Prop):Prop:=match n with
 | 0=>K 0
 | 1=>K 1
 | 2=>K 2
 | 3=>K 3
 | 4=>K 4
 | 5=>K 5
 | 6=>K 6
 | 7=>K 7
 | 8=>K 8
 | 9=>K 9
 | 10=>K 10
 | 11=>K 11
 | 12=>K 12
 | 13=>K 13
 | 14=>K 14
 | 15=>K 15
 | n=>K n
def vv (x:SV) (K:SV→Prop):Prop:=match x with
 | .v x=>K (.v x)
 | .kb b=>K (.kb b)
 | .ptr k off=>fw k fun k=>fw off fun off=>K (.ptr k off)
 | .el a i sz off=>K (.el a i sz off)
 | .rel k n i off=>fw k fun k=>K (.rel k n i off)
 | .own k=>fw k fun k=>K (.own k)
 | .sub k sz lo n=>fw k fun k=>K (.sub k sz lo n)
 | .mp k=>fw k fun k=>K (.mp k)
 | .agg cs=>K (.agg cs)
 | .fn f cap=>K (.fn f cap)
 | .eo vs=>K (.eo vs)
noncomputable def ng (l:List SV):(List SV→Prop)→Prop :=
 List.rec (motive:=fun _=>(List SV→Prop)→Prop) (fun K=>K []) (fun x _ ih K=>vv x fun y=>ih fun l=>K (y::l)) l
theorem Cf {x:SV} {r:List SV} {K:List SV→Prop}:ng (x::r) K=vv x fun y=>ng r fun l=>K (y::l):=rfl
def Fj (x:SV) (K:SV→Prop):Prop:=match x with
 | .v x=>K (.v x)
 | .kb b=>K (.kb b)
 | .ptr k off=>fw k fun k=>fw off fun off=>K (.ptr k off)
 | .el a i sz off=>K (.el a i sz off)
 | .rel k n i off=>fw k fun k=>K (.rel k n i off)
 | .own k=>fw k fun k=>K (.own k)
 | .sub k sz lo n=>fw k fun k=>K (.sub k sz lo n)
 | .mp k=>fw k fun k=>K (.mp k)
 | .agg cs=>ng cs fun l=>K (.agg l)
 | .fn f cap=>ng cap fun l=>K (.fn f l)
 | .eo vs=>ng vs fun l=>K (.eo l)
def Fk (bx:List (Nat×Bx)) (K:List (Nat×Bx)→Prop):Prop:=match bx with
 | []=>K []
 | (k,b)::r=>match b with
  | .cells T cs=>fw k fun k=>ng cs fun l=>K ((k,.cells T l)::r)
  | b=>fw k fun k=>K ((k,b)::r)
def Fl (env:List (Nat×SV)) (K:List (Nat×SV)→Prop):Prop:=match env with
 | []=>K []
 | p::r=>K (p::r)
def St.eX (n:Nat) (s:St) (d:Option Tmp) (x:SV) (K:St→Prop):Prop :=
 match s with
 | ⟨env,bx,nx⟩=>Fl env fun env=>fw nx fun nx=>Fk bx fun bx=>match d with
  | some t=>bif Nat.ble (t+1) n then Fj x fun x=>K ⟨(t,x)::env,bx,nx⟩ else K ⟨env,bx,nx⟩
  | none=>K ⟨env,bx,nx⟩
theorem je {n:Nat} {K:Nat→Prop}:fw n K=K n:=by unfold fw;split<;>rfl
theorem pK {n:List (Nat×SV)} {K:List (Nat×SV)→Prop}:Fl n K=K n:=by unfold Fl;split<;>rfl
theorem Fm {x:SV} {K:SV→Prop}:vv x K=K x:=by cases x<;>simp only[vv,je]
theorem mf:∀ {l:List SV} {K:List SV→Prop},ng l K=K l
 | [],_=>rfl
 | x::r,K=>by rw[Cf,Fm,mf]
theorem yM {x:SV} {K:SV→Prop}:Fj x K=K x:=by cases x<;>simp only[Fj,je,mf]
theorem pL {x:List (Nat×Bx)} {K:List (Nat×Bx)→Prop}:Fk x K=K x:=by
 cases x with
 | nil=>rfl
 | cons p r=>obtain⟨k,b⟩:=p;cases b<;>simp only[Fk,je,mf]
def St.box (s:St) (k:Nat) (b:Bx):St:={ s with bx:=(k,b)::s.bx }
def St.new (s:St) (b:Bx):St:={ s with bx:=(s.nx,b)::s.bx,nx:=s.nx+1 }
def UX:IntKind→Int→Prop
 | .i8,n=>-128≤n∧n≤127
 | .i16,n=>-32768≤n∧n≤32767
 | .i32,n=>-2147483648≤n∧n≤2147483647
 | .i64,n=>-9223372036854775808≤n∧n≤9223372036854775807
 | .u8,n=>0≤n∧n≤255
 | .u16,n=>0≤n∧n≤65535
 | .u32,n=>0≤n∧n≤4294967295
 | .u64,n=>0≤n∧n≤18446744073709551615
abbrev KK:=SV→St→Hp→Prop
def bool (b:Bool):SV:=.v (.bool b)
def unit:SV:=.v (.tuple #[])
def arith (C:Cx) (k:IntKind) (n:Int) (K:SV→Prop):Prop :=
 bif C.wrap then K (.v (.int k (k.wrap n))) else UX k n∧K (.v (.int k n))
def bits (k:IntKind) (f:BitVec k.bits→BitVec k.bits→BitVec k.bits) (a b:Int):SV :=
 .v (.int k (k.wrap (f (BitVec.ofInt k.bits a) (BitVec.ofInt k.bits b)).toNat))
def Ao (C:Cx) (op:BinOp) (k:IntKind) (a b:Int) (K:SV→Prop):Prop :=
 match op with
 | .add=>arith C k (a+b) K
 | .sub=>arith C k (a - b) K
 | .mul=>arith C k (a*b) K
 | .quo=>b≠0∧arith C k (a.tdiv b) K
 | .rem=>b≠0∧K (.v (.int k (a.tmod b)))
 | .eql=>K (bool (decide (a=b)))
 | .neq=>K (bool (!decide (a=b)))
 | .lss=>K (bool (decide (a<b)))
 | .leq=>K (bool (decide (a≤b)))
 | .gtr=>K (bool (decide (b<a)))
 | .geq=>K (bool (decide (b≤a)))
 | .and=>K (bits k (·&&& ·) a b)
 | .or=>K (bits k (·||| ·) a b)
 | .xor=>K (bits k (·^^^ ·) a b)
 | .andNot=>K (bits k (fun a b=>a &&& ~~~b) a b)
 | .shl=>0≤b∧arith C k (a*2 ^ (min b.toNat k.bits)) K
 | .shr=>0≤b∧K (.v (.int k (a.fdiv (2 ^ (min b.toNat k.bits)))))
def IZ (op:BinOp) (a b:ByteArray) (K:SV→Prop):Prop :=
 match op with
 | .eql=>K (bool (decide (sl a=sl b)))
 | .neq=>K (bool (!decide (sl a=sl b)))
 | .add=>(sl a).length+(sl b).length≤9223372036854775807∧K (.v (.string (bs (sl a++sl b))))
 | .lss=>K (bool (Op.bytesLess (sl a) (sl b)))
 | .leq=>K (bool (Op.bytesLess (sl a) (sl b)||decide (sl a=sl b)))
 | .gtr=>K (bool (!(Op.bytesLess (sl a) (sl b)||decide (sl a=sl b))))
 | .geq=>K (bool (!Op.bytesLess (sl a) (sl b)))
 | _=>False
def UY:SV→Option Bool
 | .kb b=>some b
 | .v (.bool b)=>some b
 | _=>none
def cL (C:Cx) (T:TypeId):Option Nat:=match C.tt T with | some i=>some i.1.size | none=>none
def kC (C:Cx) (T:TypeId):Bool:=match C.tt T with
 | some (_,.struct _)=>true
 | some (_,.array _ _)=>true
 | _=>false
def eY (C:Cx) (T:TypeId):Option TypeId:=match C.tt T with
 | some (_,.slice e)=>some e
 | _=>none
def s4 (C:Cx) (T:TypeId) (f:Nat):Option Field:=match C.tt T with
 | some (_,.struct fs)=>fs.toList[f]?
 | _=>none
def cellsOf:SV→List SV
 | .agg cs=>cs
 | .v (.agg cs)=>cs.toList.map .v
 | x=>[x]
def uh:SV→Option (List SV)
 | .agg cs=>some cs
 | .v (.agg cs)=>some (cs.toList.map .v)
 | _=>none
def E1 (ag:Bool) (cs:List SV):Option SV:=bif ag then some (.agg cs) else match cs with
 | [x]=>some x
 | _=>none
def gp (n:Nat):List Nat→Bool
 | []=>false
 | k::r=>bif Nat.beq k n then true else gp n r
def K5 (C:Cx) (eq:TypeId→SV→SV→Option Bool):List Field→List SV→List SV→Option Bool
 | [],_,_=>some true
 | f::r,xs,ys=>match cL C f.type with
  | some n=>match E1 (kC C f.type) ((xs.drop f.offset).take n) with
   | some a=>match E1 (kC C f.type) ((ys.drop f.offset).take n) with
    | some b=>match eq f.type a b with
     | some p=>match K5 C eq r xs ys with
      | some q=>some (p&&q)
      | none=>none
     | none=>none
    | none=>none
   | none=>none
  | none=>none
def oB (C:Cx) (eq:TypeId→SV→SV→Option Bool) (T:TypeId) (x y:SV):Option Bool:=match C.tt T with
 | some (_,.bool)=>match UY x with
  | some a=>match UY y with
   | some b=>some (a == b)
   | none=>none
  | none=>none
 | some (_,.int _)=>match x with
  | .v (.int k a)=>match y with
   | .v (.int k' b)=>bif decide (k=k') then some (decide (a=b)) else none
   | _=>none
  | _=>none
 | some (_,.string)=>match x with
  | .v (.string a)=>match y with
   | .v (.string b)=>some (decide (sl a=sl b))
   | _=>none
  | _=>none
 | some (_,.slice _)=>match x with
  | .v (.slice a _ _)=>match y with
   | .v (.slice none _ _)=>some a.isNone
   | _=>none
  | _=>none
 | some (_,.pointer e)=>match x with
  | .ptr k off=>match y with
   | .ptr k' Cg=>match cL C e with
    | some _=>bif Nat.beq k k'&&Nat.beq off Cg then some true else none
    | none=>none
   | .v (.pointer none)=>some false
   | _=>none
  | .v (.pointer none)=>match y with
   | .v (.pointer none)=>some true
   | .ptr _ _=>some false
   | _=>none
  | _=>none
 | some (_,.struct fs)=>bif gp T C.eqs then (match uh x with
  | some xs=>match uh y with
   | some ys=>K5 C eq fs.toList xs ys
   | none=>none
  | none=>none) else none
 | some (_,.array m e)=>bif gp T C.eqs&&Nat.beq m 2&&!kC C e then (match C.tt e with
  | some (_,.int _)=>match cL C e with
   | some n=>bif Nat.beq n 1 then (match uh x with
    | some [.v (.int k1 a1),.v (.int k2 a2)]=>match uh y with
     | some [.v (.int k3 b1),.v (.int k4 b2)]=>match eq e (.v (.int k1 a1)) (.v (.int k3 b1)) with
      | some p=>match eq e (.v (.int k2 a2)) (.v (.int k4 b2)) with
       | some q=>some (p&&q)
       | none=>none
      | none=>none
     | _=>none
    | _=>none) else none
   | none=>none
  | _=>none) else none
 | _=>none
def HB (C:Cx):Nat→TypeId→SV→SV→Option Bool
 | 0=>fun _ _ _=>none
 | d+1=>fun T x y=>oB C (HB C d) T x y
def eqv (C:Cx) (T:TypeId) (x y:SV):Option Bool:=match C.tt T with
 | some (_,.bool)=>HB C 1 T x y
 | some (_,.slice _)=>HB C 1 T x y
 | some (_,.pointer _)=>HB C 1 T x y
 | some (_,.struct _)=>HB C 8 T x y
 | some (_,.array _ _)=>HB C 8 T x y
 | _=>none
def UZ (C:Cx) (op:BinOp) (T:TypeId) (x y:Option SV) (K:SV→Prop):Prop:=match x with
 | some x=>match y with
  | some y=>match eqv C T x y with
   | some b=>match op with
    | .eql=>K (bool b)
    | .neq=>K (bool (!b))
    | _=>False
   | none=>False
  | none=>False
 | none=>False
def HC (op:BinOp) (k:FloatKind) (a b c d:Nat) (K:SV→Prop):Prop:=match op with
 | .add=>∃re im,cSumBits .add k a b c d=some (re,im)∧K (.v (.complex k re im))
 | .sub=>∃re im,cSumBits .sub k a b c d=some (re,im)∧K (.v (.complex k re im))
 | .mul=>k = .f64∧∃re im,cMulBits a b c d=some (re,im)∧K (.v (.complex .f64 re im))
 | _=>False
def bin (C:Cx) (op:BinOp) (T:TypeId) (x y:Option SV) (K:SV→Prop):Prop :=
 match x with
 | some (.v (.int k a))=>match y with
  | some (.v (.int k' b))=>match op with
   | .shl | .shr=>Ao C op k a b K
   | _=>bif decide (k=k') then Ao C op k a b K else False
  | _=>False
 | some (.v (.string a))=>match y with
  | some (.v (.string b))=>IZ op a b K
  | _=>False
 | some (.v (.complex k a b))=>match y with
  | some (.v (.complex k' c d))=>k'=k∧HC op k a b c d K
  | _=>False
 | x=>UZ C op T x y K
def one:SV→Bool
 | .v (.agg _)=>false
 | .v (.tuple _)=>false
 | .v (.int _ _)=>true
 | .v (.bool _)=>true
 | .v (.string _)=>true
 | .v (.slice _ _ _)=>true
 | .v (.pointer _)=>true
 | .v (.map _)=>true
 | .v (.func _ _ _)=>true
 | .v (.iface _ _)=>true
 | .v .nilFunc=>true
 | .v .nilIface=>true
 | .v (.complex _ _ _)=>true
 | .v (.float _ _)=>true
 | .kb _=>true
 | .ptr _ _=>true
 | .own _=>true
 | .mp _=>true
 | .fn _ _=>true
 | _=>false
def Ap:List SV→Bool
 | []=>true
 | x::r=>bif one x then Ap r else false
def K6:SV→Option Value
 | .v x=>bif one (.v x) then some x else none
 | .kb b=>some (.bool b)
 | _=>none
def yq:List SV→Option (List Value)
 | []=>some []
 | x::r=>match K6 x with
  | some y=>match yq r with
   | some ys=>some (y::ys)
   | none=>none
  | none=>none
def jz (H:Hp) (ad:Addr) (i:Int) (sz:Nat) (cs:List Value):Prop :=
 ad.spot=none∧cs.length=sz∧∃c T fr,H ad.block=some (.cells c T fr)∧∀j,j<sz→c[ad.off+i.toNat*sz+j]?=cs[j]?
def aW (H:Hp) (v:Value) (sz:Nat) (xs:List (List Value)):Prop :=
 ∃a cap,v = .slice a xs.length cap∧(xs.length≤cap∧cap≤9223372036854775807)∧(∀x∈xs,x.length=sz∧∀u∈x,u.oneCell'=true) ∧
  ((xs=[]∧cap=0)∨∃ad,a=some ad∧ad.spot=none∧∃c T fr,H ad.block=some (.cells c T fr)∧ad.off+cap*sz≤c.size∧∀i x,xs[i]?=some x→∀j,j<sz→c[ad.off+i*sz+j]?=x[j]?)
def j9 (e:TypeId) (sz:Nat) (xs:List (List Value)) (H:Hp) (x:Value) (H':Hp):Prop :=
 (x = .slice none 0 0∧xs=[])∨∃g cap c,x = .slice (some ⟨g,0,none⟩) xs.length cap∧H g=none∧H' g=some (.cells c e (0,0))∧xs.length≤cap∧cap≤maxLen∧c.size=cap*sz∧c.toList.take (xs.length*sz)=xs.flatten
structure qp (e:TypeId) (sz:Nat) (xs:List (List Value)) (H:Hp) (x:Value) (H':Hp):Prop where
 le:Le H H'
 new:j9 e sz xs H x H'
instance {e:TypeId} {sz:Nat} {xs:List (List Value)} {H H':Hp} {x:Value}:CoeOut (qp e sz xs H x H') (Le H H'):=⟨qp.le⟩
theorem qp.trans {e:TypeId} {sz:Nat} {xs:List (List Value)} {H H' wc:Hp} {x:Value} (h:qp e sz xs H x H') (g:Le H' wc):Le H wc:=fun b o hb=>g b o (h.le b o hb)
structure fx (N:Nat) (w w':World):Prop extends Below N w w' where
 drawn:w.drawn≤w'.drawn
theorem fx.refl (N:Nat) (w:World):fx N w w:=⟨Below.refl N w,Nat.le_refl _⟩
def aq (P:Program) (f:FuncId) (args:List Value) (H:Hp) (K:Value→Hp→Prop):Prop :=
 (∀as w,(callFunc f as).run P w = .ok (.enter f as) w)∧∀w:World,(∀b o,H b=some o→w.heap[b]?=some o) →
  Calls P f args.toArray w fun e w'=>∃v H',e = .returned v∧K v H'∧Le H H'∧(∀b o,H' b=some o→w'.heap[b]?=some o) ∧
   (∀b,H b=none→b<w.heap.size→H' b=none)∧fx w.heap.size w w'
def K7 (x:Value):SV:=match x with
 | .agg cs=>.agg (cs.toList.map .v)
 | x=>.v x
def NV (x:Value):SV:=match x with
 | .agg cs=>.agg (cs.toList.map .v)
 | .tuple vs=>.eo (vs.toList.map K7)
 | .func fn first cap=>match fn with
  | .func f=>match first.toList with
   | []=>.fn f (cap.toList.map .v)
   | _=>.v (.func (.func f) first cap)
  | fn=>.v (.func fn first cap)
 | x=>.v x
mutual
def fz:SV→St→Hp→(Value→St→Hp→Prop)→Prop
 | .v x,s,H,K=>K x s H
 | .kb b,s,H,K=>K (.bool b) s H
 | .own k,s,H,K=>match lk s.bx k with
  | some (.row e sz xs)=>∀x H',qp e sz xs H x H'→aW H' x sz xs→K x (s.box k (.qh x)) H'
  | some (.qh x)=>K x s H
  | _=>False
 | .sub k sz lo n,s,H,K=>match lk s.bx k with
  | some (.row _ cn xs)=>bif Nat.beq cn sz then (lo+n≤xs.length∧∀x v H',Le H H'→aW H' x sz xs→aW H' v sz ((xs.drop lo).take n)→K v (s.box k (.qh x)) H') else False
  | some (.qh (.slice a _ c))=>K (.slice (dR a lo c sz) n (c - lo)) s H
  | _=>False
 | .agg cs,s,H,K=>Aq cs s H fun vs s H=>K (.agg vs.toArray) s H
 | .fn f cap,s,H,K=>Aq cap s H fun vs s H=>K (.func (.func f) #[] vs.toArray) s H
 | .eo vs,s,H,K=>Aq vs s H fun vs s H=>K (.tuple vs.toArray) s H
 | .ptr _ _,_,_,_=>False
 | .el _ _ _ _,_,_,_=>False
 | .rel _ _ _ _,_,_,_=>False
 | .mp _,_,_,_=>False
def Aq:List SV→St→Hp→(List Value→St→Hp→Prop)→Prop
 | [],s,H,K=>K [] s H
 | x::r,s,H,K=>fz x s H fun v s H=>Aq r s H fun vs s H=>K (v::vs) s H
end
abbrev QQ:=SV→St→Hp→(Value→St→Hp→Prop)→Prop
noncomputable def HD (f:QQ) (l:List SV):St→Hp→(List Value→St→Hp→Prop)→Prop :=
 List.rec (motive:=fun _=>St→Hp→(List Value→St→Hp→Prop)→Prop) (fun s H K=>K [] s H) (fun x _ ih s H K=>f x s H fun v s H=>ih s H fun vs s H=>K (v::vs) s H) l
theorem Of {f:QQ} {s:St} {H:Hp} {K:List Value→St→Hp→Prop}:HD f [] s H K=K [] s H:=rfl
theorem K8 {f:QQ} {x:SV} {r:List SV} {s:St} {H:Hp} {K:List Value→St→Hp→Prop}:HD f (x::r) s H K=f x s H fun v s H=>HD f r s H fun vs s H=>K (v::vs) s H:=rfl
def QR:QQ:=fun x s H K=>match x with
 | .v x=>K x s H
 | .kb b=>K (.bool b) s H
 | .own k=>match lk s.bx k with
  | some (.row e sz xs)=>∀x H',qp e sz xs H x H'→aW H' x sz xs→K x (s.box k (.qh x)) H'
  | some (.qh x)=>K x s H
  | _=>False
 | .sub k sz lo n=>match lk s.bx k with
  | some (.row _ cn xs)=>bif Nat.beq cn sz then (lo+n≤xs.length∧∀x v H',Le H H'→aW H' x sz xs→aW H' v sz ((xs.drop lo).take n)→K v (s.box k (.qh x)) H') else False
  | some (.qh (.slice a _ c))=>K (.slice (dR a lo c sz) n (c - lo)) s H
  | _=>False
 | x=>fz x s H K
def Tk:QQ:=fun x s H K=>match x with
 | .agg cs=>HD QR cs s H fun vs s H=>K (.agg vs.toArray) s H
 | .fn f cap=>HD QR cap s H fun vs s H=>K (.func (.func f) #[] vs.toArray) s H
 | .eo vs=>HD QR vs s H fun vs s H=>K (.tuple vs.toArray) s H
 | x=>QR x s H K
def Og:QQ:=fun x s H K=>match x with
 | .agg cs=>HD Tk cs s H fun vs s H=>K (.agg vs.toArray) s H
 | .fn f cap=>HD Tk cap s H fun vs s H=>K (.func (.func f) #[] vs.toArray) s H
 | .eo vs=>HD Tk vs s H fun vs s H=>K (.tuple vs.toArray) s H
 | x=>QR x s H K
theorem Ar {f:QQ} (hf:∀x s H K,f x s H K=fz x s H K):∀(l:List SV) (s:St) (H:Hp) (K:List Value→St→Hp→Prop),HD f l s H K=Aq l s H K
 | [],s,H,K=>by rw[Of,Aq]
 | x::r,s,H,K=>by rw[K8,Aq,hf];simp only[Ar hf r]
theorem Fo (x:SV) (s:St) (H:Hp) (K:Value→St→Hp→Prop):QR x s H K=fz x s H K:=by
 cases x<;>first | rfl | simp only[QR,fz]
theorem QS (x:SV) (s:St) (H:Hp) (K:Value→St→Hp→Prop):Tk x s H K=fz x s H K:=by
 cases x<;>first | rfl | simp only[Tk,Ar Fo,fz] | exact Fo _ _ _ _
theorem we (x:SV) (s:St) (H:Hp) (K:Value→St→Hp→Prop):Og x s H K=fz x s H K:=by
 cases x<;>first | rfl | simp only[Og,Ar QS,fz] | exact Fo _ _ _ _
theorem vw (l:List SV) (s:St) (H:Hp) (K:List Value→St→Hp→Prop):HD Og l s H K=Aq l s H K:=Ar we l s H K
def Ch (C:Cx):Nat→TypeId→Bool
 | 0,_=>false
 | d+1,T=>match C.tt T with
  | some (_,.bool)=>true
  | some (_,.int _)=>true
  | some (_,.string)=>true
  | some (_,.complex _)=>true
  | some (_,.struct fs)=>fs.toList.all fun f=>Ch C d f.type
  | some (_,.tuple ts)=>ts.toList.all fun t=>Ch C d t
  | _=>false
def Ci (s:St):List Operand→Option (List SV)
 | []=>some []
 | x::r=>match get s x with
  | some y=>match Ci s r with
   | some ys=>some (y::ys)
   | none=>none
  | none=>none
def Cj (C:Cx) (f:FuncId) (args:List SV) (T:TypeId) (s:St) (H:Hp) (K:KK):Prop :=
 HD Og args s H fun vs s1 H1 =>
  bif Ch C 6 T then aq C.P f vs H1 fun v _=>K (NV v) s H
  else aq C.P f vs H1 fun v H2=>K (NV v) s1 H2
def qG (s:St) (x:Operand):Option Int:=match get s x with
 | some (.v (.int _ n))=>some n
 | _=>none
def jA (s:St) (x:Option Operand) (d:Int):Option Int:=match x with
 | some y=>qG s y
 | none=>some d
def rowOf (s:St) (H:Hp) (x:SV) (sz:Nat) (K:List (List Value)→Prop):Prop :=
 match x with
 | .own k=>match lk s.bx k with
  | some (.row _ cn xs)=>bif Nat.beq cn sz then K xs else False
  | _=>False
 | .sub k Ck lo n=>match lk s.bx k with
  | some (.row _ cn xs)=>bif Nat.beq cn sz&&Nat.beq Ck sz then (lo+n≤xs.length∧K ((xs.drop lo).take n)) else False
  | _=>False
 | .v y=>∃xs,aW H y sz xs∧K xs
 | _=>False
def kD:List (Nat×Bx)→Bool
 | []=>false
 | (_,b)::r=>match b with
  | .kW _ _ _=>true
  | _=>kD r
def I0 (s:St):Option SV→Option Value
 | some (.v v)=>bif kD s.bx then some v else none
 | _=>none
def K9 (fb:Prop) (C:Cx) (e:TypeId) (v:Value) (y:Option SV) (s:St) (H:Hp) (K:KK):Prop :=
 match C.tt e with
 | none=>fb
 | some i=>match i.1.zero with
  | none=>fb
  | some z=>match y with
   | none=>fb
   | some y=>bif Nat.beq z.cells.size i.1.size&&Nat.ble 1 i.1.size then rowOf s H y i.1.size fun ys =>
    ∃(k:Nat) (F A B:List (Value×List (List Value))) (xs:List (List Value)),lk s.bx k=some (.kW e i.1.size F)∧F=A++(v,xs)::B ∧
     ((xs.length+ys.length)*i.1.bytes≤140737488355328∧xs.length+ys.length≤9223372036854775807) ∧
     ∀a c,K (.v (.slice a (xs.length+ys.length) c)) (s.box k (.kW e i.1.size (A++(.slice a (xs.length+ys.length) c,xs++ys)::B))) H
   else fb
def Cl (s:St) (a:Addr) (i:Int) (sz off n:Nat) (r:SV) (H:Hp) (K:KK):Prop :=
 match yq (cellsOf r) with
 | some l=>∃(k:Nat) (e:TypeId) (F A D:List (Value×List (List Value))) (n1 c1:Nat) (xs:List (List Value)) (cs:List Value),
   lk s.bx k=some (.kW e sz F)∧F=A++(.slice (some a) n1 c1,xs)::D∧xs[i.toNat]?=some cs∧off+n≤sz ∧
   K unit (s.box k (.kW e sz (A++(.slice (some a) n1 c1,xs.set i.toNat (cs.take off++l++cs.drop (off+n)))::D))) H
 | none=>False
def vx (C:Cx) (T:TypeId) (x y:SV) (s:St) (H:Hp) (K:KK):Prop :=
 match eY C T with
 | none=>False
 | some e=>match C.tt e with
  | none=>False
  | some i=>match i.1.zero with
  | none=>False
  | some z=>bif Nat.beq z.cells.size i.1.size&&Nat.ble 1 i.1.size then rowOf s H y i.1.size fun ys =>
   match x with
   | .own k=>match lk s.bx k with
    | some (.row e' sz xs)=>bif Nat.beq e' e&&Nat.beq sz i.1.size then (((xs.length+ys.length)*i.1.bytes≤140737488355328∧xs.length+ys.length≤9223372036854775807) ∧
      K (.own s.nx) ((s.box k .dead).new (.row e i.1.size (xs++ys))) H) else False
    | _=>False
   | .v (.slice none 0 0)=>(ys.length*i.1.bytes≤140737488355328∧ys.length≤9223372036854775807)∧K (.own s.nx) (s.new (.row e i.1.size ys)) H
   | .v (.slice (some a) n c)=>∃xs,(aW H (.slice (some a) n c) i.1.size xs∧n=c∧0<ys.length∧(xs.length+ys.length)*i.1.bytes≤140737488355328∧xs.length+ys.length≤9223372036854775807)∧K (.own s.nx) (s.new (.row e i.1.size (xs++ys))) H
   | _=>False
   else False
def As (cells:List SV) (off:Nat) (x:List SV):List SV:=cells.take off++x++cells.drop (off+x.length)
def kd (place:Nat→Option (Nat×Nat)) (cells:List SV):List (Nat×SV)→Option (List SV)
 | []=>some cells
 | (i,x)::rest=>match place i with
  | none=>none
  | some (off,size) =>
   bif Nat.beq (cellsOf x).length size then (bif Nat.ble (off+size) cells.length then kd place (As cells off (cellsOf x)) rest else none) else none
def ui (s:St):List (Nat×Operand)→Option (List (Nat×SV))
 | []=>some []
 | (i,x)::r=>match get s x with
  | some y=>match ui s r with
   | some ys=>some ((i,y)::ys)
   | none=>none
  | none=>none
def s5 (sz:Nat):Nat→List Value→List (List Value)
 | 0,_=>[]
 | n+1,l=>l.take sz::s5 sz n (l.drop sz)
def zeroCells (C:Cx) (T:TypeId):Option (List SV):=match C.tt T with
 | some i=>match i.1.zero with
  | some z=>some (cellsOf (.v z))
  | none=>none
 | none=>none
def places (C:Cx):List Field→Option (List (Nat×Nat))
 | []=>some []
 | f::r=>match cL C f.type with
  | some n=>match places C r with
   | some l=>some ((f.offset,n)::l)
   | none=>none
  | none=>none
def s6 (C:Cx) (T:TypeId) (ps:List (Nat×Operand)) (s:St) (K:SV→Prop):Prop :=
 match zeroCells C T with
 | none=>False
 | some z=>match ui s ps with
  | none=>False
  | some vs=>match C.tt T with
   | some (_,.struct fs)=>match places C fs.toList with
    | some pl=>match kd (fun i=>pl[i]?) z vs with
     | some cs=>K (.agg cs)
     | none=>False
    | none=>False
   | some (_,.array _ e)=>match cL C e with
    | some n=>match kd (fun i=>some (i*n,n)) z vs with
     | some cs=>K (.agg cs)
     | none=>False
    | none=>False
   | _=>False
def rep (n:Nat) (l:List SV):List SV:=match n with
 | 0=>[]
 | n+1=>l++rep n l
def lr (fb:Prop) (C:Cx) (T:TypeId) (len:Nat) (ps:List (Nat×Operand)) (s:St) (H:Hp) (K:KK):Prop :=
 match eY C T with
 | none=>False
 | some e=>match cL C e with
  | none=>False
  | some sz=>match zeroCells C e with
   | none=>False
   | some z=>match ui s ps with
    | none=>False
    | some vs=>bif Nat.ble (len*sz) 16777216&&Nat.ble 1 sz&&Nat.beq z.length sz then (match kd (fun i=>some (i*sz,sz)) (rep len z) vs with
     | some cs=>match yq cs with
      | some l=>K (.own s.nx) (s.new (.row e sz (s5 sz len l))) H
      | none=>fb
     | none=>False) else False
def rG (s:St) (x:SV) (K:Nat→TypeId→Nat→List (List Value)→Nat→Nat→Prop):Prop:=match x with
 | .own k=>match lk s.bx k with
  | some (.row e sz xs)=>K k e sz xs 0 xs.length
  | _=>False
 | .sub k sz lo n=>match lk s.bx k with
  | some (.row e cn xs)=>bif Nat.beq cn sz then K k e sz xs lo n else False
  | _=>False
 | _=>False
def cC (b:List UInt8):List (List Value):=b.map fun c=>[.int .u8 c.toNat]
def oC (fb:Prop) (C:Cx) (s:St) (T':TypeId) (x:Operand) (lo hi mx:Option Operand) (K:SV→Prop):Prop:=match C.tt T' with
 | some (_,.string)=>match mx with
  | some _=>fb
  | none=>match get s x with
   | some (.v (.string b))=>match jA s lo 0 with
    | none=>False
    | some l=>match jA s hi ((sl b).length:Int) with
     | none=>False
     | some h=>(0≤l∧l≤h∧h≤(sl b).length)∧K (.v (.string (bs (((sl b).take h.toNat).drop l.toNat))))
   | _=>False
 | some (_,.slice e)=>match cL C e with
  | none=>False
  | some sz=>match mx with
   | none=>match get s x with
    | some (.v (.slice a n c))=>match jA s lo 0 with
     | none=>False
     | some l=>match jA s hi (n:Int) with
      | none=>False
      | some h=>(0≤l∧l≤h∧h≤n∧n≤c)∧K (.v (.slice (dR a l.toNat c sz) (h.toNat - l.toNat) (c - l.toNat)))
    | some (.own k)=>match lk s.bx k with
     | some (.row _ cn xs)=>match jA s lo 0 with
      | none=>False
      | some l=>match jA s hi (xs.length:Int) with
       | none=>False
       | some h=>bif Nat.beq cn sz then ((0≤l∧l≤h∧h≤xs.length)∧K (.sub k sz l.toNat (h.toNat - l.toNat))) else False
     | _=>False
    | some (.sub k Ck Qc n)=>match lk s.bx k with
     | some (.row _ cn xs)=>match jA s lo 0 with
      | none=>False
      | some l=>match jA s hi (n:Int) with
       | none=>False
       | some h=>bif Nat.beq cn sz&&Nat.beq Ck sz then ((0≤l∧l≤h∧(Qc:Int)+h≤xs.length)∧(l<h→K (.sub k sz (Qc+l.toNat) (h.toNat - l.toNat)))∧(l=h→∀a c,K (.v (.slice a 0 c)))) else False
     | _=>False
    | _=>False
   | some m=>match hi with
    | none=>fb
    | some hi=>match get s x with
     | some (.v (.slice a _ c))=>match jA s lo 0 with
      | none=>False
      | some l=>match qG s hi with
       | none=>False
       | some h=>match qG s m with
        | none=>False
        | some m=>(0≤l∧l≤h∧h≤m∧m≤c)∧K (.v (.slice (dR a l.toNat m.toNat sz) (h.toNat - l.toNat) (m.toNat - l.toNat)))
     | some (.own k)=>match lk s.bx k with
      | some (.row _ cn xs)=>match jA s lo 0 with
       | none=>False
       | some l=>match qG s hi with
        | none=>False
        | some h=>match qG s m with
         | none=>False
         | some m=>bif Nat.beq cn sz then ((0≤l∧l≤h∧h≤m∧m≤xs.length)∧∀v,K (.v v)) else False
      | _=>False
     | _=>fb
 | _=>fb
def pM (C:Cx) (e:TypeId):Option (Nat×List Value):=match C.tt e with
 | none=>none
 | some i=>match zeroCells C e with
  | none=>none
  | some z=>match yq z with
   | none=>none
   | some zl=>bif Nat.ble 1 i.1.size&&Nat.beq zl.length i.1.size then some (i.1.bytes,zl) else none
def Fp (P:Program) (src dst T0:TypeId) (n off:Nat):Bool:=match P.underlying src with
 | some (.pointer t)=>match P.underlying dst with
  | some .unsafePointer=>match P.info? t with
   | some j=>Nat.blt 0 j.size&&Nat.blt off n
   | none=>false
  | _=>false
 | some .unsafePointer=>match P.underlying dst with
  | some (.pointer u)=>match P.info? u with
   | some _=>liesAt P P.depth T0 (n / P.cellsOf T0) off u 1
   | none=>false
  | _=>false
 | _=>false
def valOf (x:SV):Option Value:=match x with
 | .agg cs=>match yq cs with
  | some l=>some (.agg l.toArray)
  | none=>none
 | x=>K6 x
def Au (fb:Prop) (C:Cx) (s:St) (T':TypeId) (r:Option Operand) (H:Hp) (K:KK):Prop:=match r with
  | some _=>fb
  | none=>match C.tt T' with
   | some (_,.map k e)=>K4 C.P k e∧K (.mp s.nx) (s.new (.obj (wb C.P k e 0 fun _=>0))) H
   | _=>fb
def HE (fb:Prop) (C:Cx) (s:St) (T':TypeId) (m x:Operand) (ok:Bool) (H:Hp) (K:KK):Prop:=match ok with
  | true=>fb
  | false=>match get s m with
   | some (.mp j)=>match lk s.bx j with
    | some (.obj Φ)=>match get s x with
     | some y=>match valOf y with
      | some kv=>match C.tt T' with
       | some (_,.map k e)=>∃n g kl,Φ=wb C.P k e n g∧keyOf C.P k kv=some kl∧K (.v (.int .i64 (g kl))) s H
       | _=>fb
      | none=>fb
     | none=>fb
    | _=>fb
   | _=>fb
def Oh (fb:Prop) (C:Cx) (s:St) (T':TypeId) (m x v:Operand) (H:Hp) (K:KK):Prop:=match get s m with
  | some (.mp j)=>match lk s.bx j with
   | some (.obj Φ)=>match get s x with
    | some y=>match valOf y with
     | some kv=>match get s v with
      | some (.v (.int .i64 a))=>match C.tt T' with
       | some (_,.map k e)=>∃n g kl,Φ=wb C.P k e n g∧keyOf C.P k kv=some kl∧(n<9223372036854775807∧UX .i64 a)∧K unit (s.box j (.obj (wb C.P k e (n+1) (Fi g kl a)))) H
       | _=>fb
      | _=>fb
     | none=>fb
    | none=>fb
   | _=>fb
  | _=>fb
def Av (fb:Prop) (C:Cx) (s:St) (op:BinOp) (xT:TypeId) (x y:Operand) (H:Hp) (K:KK):Prop:=match C.tt xT with
 | some (_,.slice _)=>match get s x with
  | some (.sub k sz lo n)=>match get s y with
   | some (.v (.slice none _ _))=>match lk s.bx k with
    | some (.row _ cn xs)=>bif Nat.beq cn sz then (lo+n≤xs.length∧∀b:Bool,(b=true→n=0)→match op with
     | .eql=>K (bool b) s H
     | .neq=>K (bool (!b)) s H
     | _=>False) else False
    | _=>False
   | _=>fb
  | _=>fb
 | _=>fb
def I1 (fb:Prop) (C:Cx) (s:St) (o:Op) (T:TypeId) (H:Hp) (K:SV→St→Hp→Prop):Prop:=match o with
 | .buildSlice T' len ps=>match eY C T' with
  | none=>fb
  | some e=>match cL C e with
   | none=>fb
   | some sz=>match zeroCells C e with
    | none=>fb
    | some z=>match ui s ps.toList with
     | none=>fb
     | some vs=>bif Nat.ble (len*sz) 16777216&&Nat.ble 1 sz&&Nat.beq z.length sz then (match kd (fun i=>some (i*sz,sz)) (rep len z) vs with
      | some cs=>ng cs fun cs=>bif Ap cs then (HD Og cs s H fun l s1 H1=>K (.own s1.nx) (s1.new (.row e sz (s5 sz len l))) H1) else fb
      | none=>fb) else fb
 | .index T' x i=>match C.tt T' with
  | some (_,.array m e)=>match cL C e with
   | some 1=>match get s x with
    | some (.agg cs)=>match get s i with
     | some (.v (.int _ j))=>bif kC C e then fb else (∃y,(0≤j∧j<m∧cs[j.toNat]?=some y)∧K y s H)
     | _=>fb
    | _=>fb
   | _=>fb
  | _=>fb
 | .binOp op xT x y _=>Av fb C s op xT x y H K
 | .makeMap T' r=>Au fb C s T' r H K
 | .lookup T' m x ok=>HE fb C s T' m x ok H K
 | .mapUpdate T' m x v=>Oh fb C s T' m x v H K
 | .makeSlice T' l c=>match eY C T' with
  | none=>fb
  | some e=>match pM C e with
   | none=>fb
   | some (zb,zl)=>match qG s l with
    | none=>fb
    | some n=>match qG s c with
     | none=>fb
     | some m=>(m=n∧0≤n∧n*zb≤140737488355328∧n≤9223372036854775807)∧K (.own s.nx) (s.new (.row e zl.length (List.replicate n.toNat zl))) H
 | .convert src dst x=>match get s x with
  | some (.ptr k off)=>match lk s.bx k with
   | some (.cells T0 cs)=>Fp C.P src dst T0 cs.length off=true∧K (.ptr k off) s H
   | _=>fb
  | some (.v (.int _ n))=>match C.tt src with
   | some _=>match C.tt dst with
    | some (_,.float k)=>K (.v (.float k (floatOfInt k n))) s H
    | _=>fb
   | none=>fb
  | some (.v (.float fk b))=>match C.tt src with
   | some _=>match C.tt dst with
    | some (_,.int k)=>∃n,floatToIntVal fk b k=some n∧K (.v (.int k n)) s H
    | _=>fb
   | none=>fb
  | _=>fb
 | .unOp op _ x=>match op with
  | .neg=>match get s x with
   | some (.v (.float k b))=>K (.v (.float k (Op.negFloat k b))) s H
   | _=>fb
  | _=>fb
 | .call c=>match c.callee with
  | .builtin b=>match b with
   | .copy=>match c.args.toList with
    | [x,y]=>match c.argTypes.toList with
     | [t,_]=>match eY C t with
      | none=>fb
      | some e=>match cL C e with
       | none=>fb
       | some sz=>match get s x with
        | none=>fb
        | some x'=>match get s y with
         | none=>fb
         | some y'=>bif Nat.ble 1 sz then (rowOf s H y' sz fun ys=>rG s x' fun k e' cn xs lo n=>bif Nat.beq cn sz then
           (lo+n≤xs.length∧K (.v (.int .i64 ((ys.take n).length:Nat))) (s.box k (.row e' cn (xs.take lo++ys.take n++xs.drop (lo+(ys.take n).length)))) H) else False) else fb
     | _=>fb
    | _=>fb
   | .append=>match c.args.toList with
    | [x,y]=>match c.argTypes.toList with
     | [t,t']=>match eY C t with
      | none=>fb
      | some e=>match cL C e with
       | none=>fb
       | some sz=>match I0 s (get s x) with
        | some v=>bif Nat.beq t t' then K9 fb C e v (get s y) s H K else fb
        | none=>match get s x with
        | some (.sub k Ck lo n)=>bif Nat.beq t t'&&Nat.ble 1 sz then (match get s y with
         | none=>fb
         | some y'=>rowOf s H y' sz fun ys=>match lk s.bx k with
          | some (.row e' cn xs)=>bif Nat.beq cn sz&&Nat.beq Ck sz then (lo+n+ys.length≤xs.length∧K (.sub k sz lo (n+ys.length)) (s.box k (.row e' cn (xs.take (lo+n)++ys++xs.drop (lo+n+ys.length)))) H) else False
          | _=>False) else fb
        | some (.own k)=>match C.tt t' with
         | some (_,.string)=>match get s y with
          | some (.v (.string b))=>match C.tt e with
           | some (i,.int .u8)=>match lk s.bx k with
            | some (.row e' cn xs)=>bif Nat.beq e' e&&Nat.beq cn 1&&Nat.beq i.size 1&&Nat.beq i.bytes 1 then (i.zero=some (.int .u8 0)∧xs.length+(sl b).length≤140737488355328 ∧
              K (.own s.nx) ((s.box k .dead).new (.row e 1 (xs++cC (sl b)))) H) else False
            | _=>False
           | _=>fb
          | _=>fb
         | _=>fb
        | some (.v (.slice none 0 0))=>match C.tt t' with
         | some (_,.string)=>match get s y with
          | some (.v (.string b))=>match C.tt e with
           | some (i,.int .u8)=>bif Nat.beq i.size 1&&Nat.beq i.bytes 1 then (i.zero=some (.int .u8 0)∧(sl b).length≤140737488355328∧K (.own s.nx) (s.new (.row e 1 (cC (sl b)))) H) else False
           | _=>fb
          | _=>fb
         | _=>fb
        | _=>fb
     | _=>fb
    | _=>fb
   | .clear=>match c.args.toList with
    | [x]=>match c.argTypes.toList with
     | [t]=>match eY C t with
      | none=>fb
      | some e=>match pM C e with
       | none=>fb
       | some (_,zl)=>match get s x with
        | none=>fb
        | some x'=>rG s x' fun k e' cn xs lo n=>bif Nat.beq cn zl.length then
          (lo+n≤xs.length∧K (.v (.tuple #[])) (s.box k (.row e' cn (xs.take lo++List.replicate n zl++xs.drop (lo+n)))) H) else False
     | _=>fb
    | _=>fb
   | .real=>match c.args.toList with
    | [x]=>match get s x with
     | some (.v (.complex k a _))=>K (.v (.float k a)) s H
     | _=>fb
    | _=>fb
   | .imag=>match c.args.toList with
    | [x]=>match get s x with
     | some (.v (.complex k _ b))=>K (.v (.float k b)) s H
     | _=>fb
    | _=>fb
   | .complex=>match c.args.toList with
    | [x,y]=>match get s x with
     | some (.v (.float k a))=>match get s y with
      | some (.v (.float k' b))=>k'=k∧K (.v (.complex k a b)) s H
      | _=>fb
     | _=>fb
    | _=>fb
   | .cap=>match c.args.toList with
    | [x]=>match c.argTypes.toList with
     | [t]=>match eY C t with
      | none=>fb
      | some _=>match get s x with
       | some (.own k)=>match lk s.bx k with
        | some (.row _ _ xs)=>∀m:Nat,xs.length≤m→m≤9223372036854775807→K (.v (.int .i64 m)) s H
        | _=>False
       | some (.v (.slice _ _ m))=>K (.v (.int .i64 m)) s H
       | _=>fb
     | _=>fb
    | _=>fb
   | .unsafeSliceData=>match c.args.toList with
    | [x]=>match C.P.underlying T with
     | some (.pointer _)=>match get s x with
      | some (.own k)=>match lk s.bx k with
       | some (.row _ sz xs)=>(xs≠[]→K (.rel k sz 0 0) s H)∧(xs=[]→∀p,K (.v (.pointer p)) s H)
       | _=>False
      | some (.v (.slice none 0 0))=>K (.v (.pointer none)) s H
      | _=>fb
     | _=>fb
    | _=>fb
   | .unsafeString=>match c.args.toList with
    | [p,n]=>match c.argTypes.toList with
     | [pt,_]=>match get s n with
      | some (.v (.int .i64 m))=>match get s p with
       | some (.v (.pointer _))=>m=0∧K (.v (.string (bs []))) s H
       | some (.rel k 1 0 0)=>match lk s.bx k with
        | some (.row e sz xs)=>bif Nat.beq sz 1 then (C.P.underlying pt=some (.pointer e)∧C.P.cellsOf e=1∧∃b,xs=cC b∧b≠[]∧m=b.length∧K (.v (.string (bs b))) (s.box k .dead) H) else False
        | _=>False
       | _=>fb
      | _=>fb
     | _=>fb
    | _=>fb
   | _=>fb
  | _=>fb
 | _=>fb
structure Bs where
 N:Nat
 w0:World
 E:Nat→Prop
 base:Nat
 ρ:bk
 H:Hp
def br (ρ:bk) (k:Nat):Bx→Nat→Prop
 | .cells _ _,g=>g=ρ.b k
 | .row _ _ _,g=>(ρ.val k).ownBlock=some g
 | .obj _,g=>g=ρ.b k
 | .kW _ _ l,g=>∃p∈l,p.1.ownBlock=some g
 | _,_=>False
def bu (ρ:bk) (w:World) (k:Nat):Bx→Prop
 | .cells T cs=>w.heap[ρ.b k]?=some (.cells (cE ρ cs).toArray T (0,0))
 | .row e sz xs=>w.ownsRow 0 e sz (ρ.val k) xs.length xs.flatten∧(∀x∈xs,x.length=sz∧∀u∈x,u.oneCell'=true)∧(∀g,(ρ.val k).ownBlock=some g→ρ.b k=g)
 | .qh x=>ρ.val k=x
 | .obj Φ=>∃o,w.heap[ρ.b k]?=some o∧Φ o
 | .kW e sz l=>(∀p∈l,w.ownsRow 0 e sz p.1 p.2.length p.2.flatten∧∀x∈p.2,x.length=sz∧∀u∈x,u.oneCell'=true)∧l.Pairwise fun p q=>∀g,p.1.ownBlock=some g→q.1.ownBlock≠some g
 | .dead=>True
def OD (w w':World):Prop:=w'.output=w.output∧w.drawn≤w'.drawn
structure Mem (B:Bs) (ρ:bk) (bx:List (Nat×Bx)) (nx:Nat) (H:Hp) (w:World):Prop where
 os:w.os=B.w0.os
 tape:w.tape=B.w0.tape
 output:OD B.w0 w
 size:B.N≤w.heap.size
 frame:∀b,b<B.N→¬B.E b→w.heap[b]?=B.w0.heap[b]?
 base:B.base≤nx
 agree:∀k,k<B.base→ρ.b k=B.ρ.b k∧ρ.sl k=B.ρ.sl k
 hp:∀b o,H b=some o→w.heap[b]?=some o
 hle:Le B.H H
 cR:∀b,B.H b=none→b<B.N→¬B.E b→H b=none
 ok:∀k b,lk bx k=some b→k<nx∧bu ρ w k b∧b.lt nx=true
 own:∀k b g,lk bx k=some b→br ρ k b g→H g=none∧(B.N≤g∨B.E g)
 eZ:∀k k' b b' g,lk bx k=some b→lk bx k'=some b'→br ρ k b g→br ρ k' b' g→k=k'
structure Marks (B:Bs) (H:Hp) (l:List Deferred):Prop where
 nodup:l.Nodup
 at_:∀d∈l,∃D,d={ target:=.collected D,args:=#[] }∧B.N≤D∧B.H D=none∧H D=some (.deferred (some []))
def Aw (mk:Bool) (B:Bs) (H:Hp) (l:List Deferred):Prop:=bif mk then Marks B H l else l=[]
theorem Marks.up {B:Bs} {H H':Hp} {l:List Deferred} (h:Marks B H l) (hle:Le H H'):Marks B H' l :=
 ⟨h.nodup,fun d hd=>let ⟨D,h1,h2,h3,h4⟩:=h.at_ d hd;⟨D,h1,h2,h3,hle _ _ h4⟩⟩
theorem Aw.up {mk:Bool} {B:Bs} {H H':Hp} {l:List Deferred} (h:Aw mk B H l) (hle:Le H H'):Aw mk B H' l:=by
 cases mk with
 | true=>exact Marks.up h hle
 | false=>exact h
theorem Aw.re {mk:Bool} {B B':Bs} {H:Hp} {l:List Deferred} (h:Aw mk B H l) (h1:B'.N=B.N) (h2:B'.H=B.H):Aw mk B' H l:=by
 cases mk with
 | true=>exact⟨Marks.nodup h,fun d hd=>let ⟨D,g1,g2,g3,g4⟩:=Marks.at_ h d hd;⟨D,g1,by rw[h1];exact g2,by rw[h2];exact g3,g4⟩⟩
 | false=>exact h
theorem Aw.nil (mk:Bool) (B:Bs) (H:Hp):Aw mk B H []:=by
 cases mk with
 | true=>exact⟨List.nodup_nil,fun d hd=>by cases hd⟩
 | false=>rfl
structure Rel (C:Cx) (B:Bs) (ρ:bk) (s:St) (H:Hp) (a:Act) (w:World):Prop where
 env:∀t x,lk s.env t=some x→a.tmps[t]?=some (ga ρ x)∧x.lt s.nx=true
 sz:a.tmps.size=C.n
 defers:Aw C.rg B H a.defers
 mem:Mem B ρ s.bx s.nx H w
def fk:List Nat→Nat→Nat→Option Nat
 | [],_,_=>none
 | j::r,i,k=>bif Nat.beq j k then some i else fk r (i+1) k
def rk:List Nat→Nat→Nat→Nat
 | [],nx,i=>nx+i
 | j::_,_,0=>j
 | _::r,nx,i+1=>rk r nx i
def wg:List Nat→Bool
 | []=>true
 | k::r=>bif gp k r then false else wg r
def ve (f:Nat→Option Nat) (x:SV):Option SV:=match x with
 | .v x=>some (.v x)
 | .kb b=>some (.kb b)
 | .el a i sz off=>some (.el a i sz off)
 | .ptr k off=>match f k with
  | some j=>some (.ptr j off)
  | none=>none
 | .rel k n i off=>match f k with
  | some j=>some (.rel j n i off)
  | none=>none
 | .own k=>match f k with
  | some j=>some (.own j)
  | none=>none
 | .sub k sz lo n=>match f k with
  | some j=>some (.sub j sz lo n)
  | none=>none
 | .mp k=>match f k with
  | some j=>some (.mp j)
  | none=>none
 | _=>none
def wi (g:SV→Option SV):List SV→Option (List SV)
 | []=>some []
 | x::r=>match g x with
  | some y=>match wi g r with
   | some l=>some (y::l)
   | none=>none
  | none=>none
def Fq (f:Nat→Option Nat) (x:SV):Option SV:=match x with
 | .agg cs=>match wi (ve f) cs with
  | some l=>some (.agg l)
  | none=>none
 | .fn g cap=>match wi (ve f) cap with
  | some l=>some (.fn g l)
  | none=>none
 | .eo vs=>match wi (ve f) vs with
  | some l=>some (.eo l)
  | none=>none
 | x=>ve f x
def Oi (f:Nat→Option Nat) (x:SV):Option SV:=match x with
 | .agg cs=>match wi (Fq f) cs with
  | some l=>some (.agg l)
  | none=>none
 | .fn g cap=>match wi (Fq f) cap with
  | some l=>some (.fn g l)
  | none=>none
 | .eo vs=>match wi (Fq f) vs with
  | some l=>some (.eo l)
  | none=>none
 | x=>ve f x
def Ax (f:Nat→Option Nat) (b:Bx):Option Bx:=match b with
 | .cells T cs=>match wi (Fq f) cs with
  | some l=>some (.cells T l)
  | none=>none
 | .row e sz xs=>some (.row e sz xs)
 | .qh x=>some (.qh x)
 | .obj Φ=>some (.obj Φ)
 | .kW e sz l=>some (.kW e sz l)
 | .dead=>some .dead
def yN (f:Nat→Option Nat):List (Nat×Bx)→Option (List (Nat×Bx))
 | []=>some []
 | (k,b)::r=>match f k with
  | some j=>match Ax f b with
   | some b'=>match yN f r with
    | some l=>some ((j,b')::l)
    | none=>none
   | none=>none
  | none=>none
def rH (m:List Nat) (bx:List (Nat×Bx)):Nat→List Nat→Option (List (Nat×Bx))
 | _,[]=>some []
 | i,k::r=>match lk bx k with
  | some b=>match Ax (fk m 0) b with
   | some b'=>match rH m bx (i+1) r with
    | some l=>some ((i,b')::l)
    | none=>none
   | none=>none
  | none=>none
def uj:List Nat→List (Nat×Bx)→List (Nat×Bx)
 | [],bx=>bx
 | k::r,bx=>(k,.dead)::uj r bx
def uk (m:List Nat):List SV→St→Hp→(List SV→St→Hp→Prop)→Prop
 | [],s,H,K=>K [] s H
 | x::r,s,H,K=>match Oi (fk m 0) x with
  | some y=>uk m r s H fun ys s H=>K (y::ys) s H
  | none=>Og x s H fun v s H=>uk m r s H fun ys s H=>K (NV v::ys) s H
def Bs.lP (w:World) (ρ:bk) (bx:List (Nat×Bx)) (nx:Nat) (H:Hp):Bs where
 N:=w.heap.size
 w0:=w
 E g:=∃k b,lk bx k=some b∧br ρ k b g
 base:=nx
 ρ:=ρ
 H:=H
def aY (P:Program) (f:FuncId) (args:List SV) (bx:List (Nat×Bx)) (nx:Nat) (H:Hp) (K:SV→St→Hp→Prop):Prop :=
 (∀as w,(callFunc f as).run P w = .ok (.enter f as) w)∧∀(w:World) (ρ:bk),Mem (Bs.lP w ρ bx nx H) ρ bx nx H w→SV.jW nx args=true →
  Calls P f (cE ρ args).toArray w fun e w'=>∃x t H' ρ',e = .returned (ga ρ' x)∧K x t H'∧x.lt t.nx=true∧Mem (Bs.lP w ρ bx nx H) ρ' t.bx t.nx H' w'
def Cm (C:Cx) (f:FuncId) (args:List SV) (s:St) (H:Hp) (K:KK):Prop :=
 ∃m:List Nat,wg m=true∧uk m args s H fun ys s1 H1=>match s1 with
  | ⟨QT,Tm,Tn⟩=>match rH m Tm 0 m with
   | none=>False
   | some bl=>aY C.P f ys bl m.length H1 fun x t H2=>match Oi (fun i=>some (rk m Tn i)) x with
    | none=>False
    | some y=>match yN (fun i=>some (rk m Tn i)) t.bx with
     | none=>False
     | some b2=>K y ⟨QT,b2++uj m Tm,Tn+(t.nx - m.length)⟩ H2
def oD (n:Nat) (ρ ρ':bk):Prop:=∀k,k<n→ρ'.b k=ρ.b k∧ρ'.sl k=ρ.sl k
def Vt (P:Program) (f:FuncId) (args:List SV) (bx:List (Nat×Bx)) (nx:Nat) (H:Hp) (K:SV→List (Nat×Bx)→Nat→Hp→Prop):Prop :=
 ∀(B:Bs) (ρ:bk) (w:World),Mem B ρ bx nx H w→SV.jW nx args=true→∃x Fs E2 H' ρ' w',(callFunc f (cE ρ args).toArray).run P w = .ok (.value (ga ρ' x)) w'∧K x Fs E2 H' ∧
  x.lt E2=true∧Mem B ρ' Fs E2 H' w'∧oD nx ρ ρ'∧nx≤E2∧(∃pre,Fs=pre++bx)∧Le H H'
def Qd (C:Cx) (f:FuncId) (args:List SV) (s:St) (H:Hp) (K:KK):Prop:=match s with
 | ⟨env,bx,nx⟩=>Vt C.P f args bx nx H fun x Fs E2 H'=>K x ⟨env,Fs,E2⟩ H'
def bp (C:Cx) (s:St) (op:Op) (T:TypeId) (H:Hp) (K:KK):Prop :=
 ∀(B:Bs) (ρ:bk) (o:Oper) (a:Act) (w:World),o.op=op→o.type=T→Rel C B ρ s H a w →
  ∀(next:Act→World→Prop) (Q:Exit→Act→World→Prop),
   (∀x s' H' ρ' w',K x s' H'→Rel C B ρ' s' H' a w'→Le H H'→x.lt s'.nx=true→next (a.put o.dst (ga ρ' x)) w') →
   o.wp C.P a w next Q
def La (k lo n:Nat) (s:St) (H:Hp) (K:KK):Prop:=match lk s.bx k with
 | some (.row e sz xs)=>(lo=0∧n≤xs.length)∧K (.own s.nx) ((s.box k .dead).new (.row e sz (xs.take n))) H
 | _=>False
def Oj (C:Cx) (s:St) (T':TypeId) (k:Nat) (lo hi:Option Operand) (mx:Operand) (H:Hp) (K:KK):Prop:=match hi with
 | none=>False
 | some hi=>match eY C T' with
  | none=>False
  | some e=>match cL C e with
   | none=>False
   | some sz=>match jA s lo 0 with
    | none=>False
    | some l=>match qG s hi with
     | none=>False
     | some h=>match qG s mx with
      | none=>False
      | some m=>match lk s.bx k with
       | some (.row _ cn xs)=>bif Nat.beq cn sz then ((0≤l∧l≤h∧h≤m∧m≤xs.length)∧∀a y H',Le H H'→aW H' y sz xs→aW H' (.slice a (h.toNat - l.toNat) (m.toNat - l.toNat)) sz ((xs.drop l.toNat).take (h.toNat - l.toNat)) →
         K (.v (.slice a (h.toNat - l.toNat) (m.toNat - l.toNat))) (s.box k (.qh y)) H') else False
       | _=>False
def ou (fb:Prop) (C:Cx) (s:St) (o:Op) (T:TypeId) (H:Hp) (K:KK):Prop :=
 match o with
 | .move x | .assign x=>match get s x with
  | some (.sub k sz lo n)=>K (.sub k sz lo n) s H∨La k lo n s H K
  | some y=>K y s H
  | none=>False
 | .pick c a b=>match get s c with
  | some (.kb t)=>match (bif t then get s a else get s b) with
   | some y=>K y s H
   | none=>False
  | _=>False
 | .binOp op xT x y _=>match get s x with
  | some (.sub _ _ _ _)=>fb
  | _=>bin C op xT (get s x) (get s y) fun r=>K r s H
 | .unOp op _ x=>match op with
  | .not=>match get s x with
   | some (.kb b)=>K (.kb (!b)) s H
   | some (.v (.bool b))=>K (bool (!b)) s H
   | _=>False
  | .neg=>match get s x with
   | some (.v (.int k n))=>arith C k (0 - n) fun r=>K r s H
   | _=>fb
  | _=>fb
 | .box T' x=>match get s x with
  | some y=>K (.ptr s.nx 0) (s.new (.cells T' (cellsOf y))) H
  | none=>False
 | .alloc T'=>match zeroCells C T' with
  | some z=>K (.ptr s.nx 0) (s.new (.cells T' z)) H
  | none=>False
 | .build T' ps=>s6 C T' ps.toList s fun r=>K r s H
 | .buildSlice T' len ps=>lr fb C T' len ps.toList s H K
 | .fieldAddr T' x f=>match s4 C T' f with
  | none=>False
  | some fd=>match cL C fd.type with
   | some (_+1)=>match get s x with
    | some (.ptr k off)=>K (.ptr k (off+fd.offset)) s H
    | some (.el (some a) i sz off)=>K (.el (some a) i sz (off+fd.offset)) s H
    | some (.rel k n i off)=>K (.rel k n i (off+fd.offset)) s H
    | _=>fb
   | _=>fb
 | .field T' x f=>match s4 C T' f with
  | none=>False
  | some fd=>match get s x with
   | some y=>match uh y with
    | some cs=>match cL C fd.type with
     | some n=>match E1 (kC C fd.type) ((cs.drop fd.offset).take n) with
      | some r=>K r s H
      | none=>False
     | none=>False
    | none=>False
   | none=>False
 | .load T' x=>match cL C T' with
  | none=>False
  | some n=>match get s x with
   | some (.ptr k off)=>match lk s.bx k with
    | some (.cells _ cs)=>bif Nat.ble (off+n) cs.length then (match E1 (kC C T') ((cs.drop off).take n) with
     | some r=>K r s H
     | none=>False) else False
    | _=>False
   | some (.el (some a) i sz off)=>∃cs,jz H a i sz cs∧bif Nat.ble (off+n) cs.length then (match E1 (kC C T') (((cs.drop off).take n).map .v) with
     | some r=>K r s H
     | none=>False) else False
   | some (.rel k sz i off)=>match lk s.bx k with
    | some (.row _ cn xs)=>bif Nat.beq cn sz then (∃cs,xs[i.toNat]?=some cs∧bif Nat.ble (off+n) cs.length then (match E1 (kC C T') (((cs.drop off).take n).map .v) with
     | some r=>K r s H
     | none=>False) else False) else False
    | _=>False
   | _=>fb
 | .store T' x y=>match cL C T' with
  | none=>False
  | some n=>match get s y with
   | none=>False
   | some r=>bif Nat.beq (cellsOf r).length n then (bif Ap (cellsOf r) then (match get s x with
    | some (.ptr k off)=>match lk s.bx k with
     | some (.cells T0 cs)=>bif Nat.ble (off+n) cs.length then K unit (s.box k (.cells T0 (As cs off (cellsOf r)))) H else False
     | _=>False
    | some (.rel k sz i off)=>match lk s.bx k with
     | some (.row e cn xs)=>bif Nat.beq cn sz&&Nat.ble (off+n) sz then (∃cs,xs[i.toNat]?=some cs∧match yq (cellsOf r) with
      | some l=>K unit (s.box k (.row e sz (xs.set i.toNat (cs.take off++l++cs.drop (off+n))))) H
      | none=>False) else False
     | _=>False
    | some (.el (some a) i sz off)=>bif kD s.bx then Cl s a i sz off n r H K else fb
    | _=>fb) else False) else False
 | .convert src dst x=>match C.tt src with
  | some _=>match C.tt dst with
   | some (_,.int k)=>match get s x with
    | some (.v (.int _ n))=>arith C k n fun r=>K r s H
    | _=>fb
   | some (_,.string)=>match get s x with
    | some (.v (.string t))=>K (.v (.string t)) s H
    | some y=>match eY C src with
     | none=>fb
     | some e=>match C.tt e with
      | some (_,.int .u8)=>rowOf s H y 1 fun xs=>∃b,xs=cC b∧K (.v (.string (bs b))) s H
      | _=>fb
    | none=>fb
   | _=>fb
  | none=>fb
 | .nilCheck x=>match get s x with
  | some (.ptr k off)=>K (.ptr k off) s H
  | some (.el (some a) i sz off)=>K (.el (some a) i sz off) s H
  | some (.fn f cap)=>K (.fn f cap) s H
  | some (.rel k n i off)=>K (.rel k n i off) s H
  | _=>fb
 | .indexAddr T' x i=>match eY C T' with
  | none=>fb
  | some e=>match cL C e with
   | none=>False
   | some sz=>match get s i with
    | some (.v (.int _ j))=>match get s x with
     | some (.v (.slice a n _))=>∃ad,(0≤j∧j<n∧a=some ad)∧K (.el (some ad) j sz 0) s H
     | some (.own k)=>match lk s.bx k with
      | some (.row _ cn xs)=>bif Nat.beq cn sz then ((0≤j∧j<xs.length)∧K (.rel k sz j 0) s H) else False
      | _=>False
     | some (.sub k Ck lo n)=>match lk s.bx k with
      | some (.row _ cn xs)=>bif Nat.beq cn sz&&Nat.beq Ck sz then ((0≤j∧j<n∧lo+n≤xs.length)∧K (.rel k sz (lo+j) 0) s H) else False
      | _=>False
     | _=>False
    | _=>False
 | .index T' x i=>match C.tt T' with
  | some (_,.string)=>match get s x with
   | some (.v (.string b))=>match get s i with
    | some (.v (.int _ j))=>∃c:UInt8,(0≤j∧(sl b)[j.toNat]?=some c)∧K (.v (.int .u8 c.toNat)) s H
    | _=>False
   | _=>False
  | _=>fb
 | .extract t i=>match get s t with
  | some (.eo vs)=>match vs[i]? with
   | some y=>K y s H
   | none=>False
  | _=>False
 | .makeFunc fn first cap=>match fn with
  | .func f=>match first.toList with
   | []=>match Ci s cap.toList with
    | some vs=>K (.fn f vs) s H
    | none=>False
   | _=>fb
  | _=>fb
 | .slice T' x lo hi mx=>match get s x with
  | some (.own k)=>(match mx with
   | some m=>Oj C s T' k lo hi m H K
   | none=>match C.tt T' with
    | some (_,.slice e)=>match cL C e with
     | none=>False
     | some _=>match jA s lo 0 with
      | some 0=>match lk s.bx k with
       | some (.row e' cn xs)=>match jA s hi (xs.length:Int) with
        | none=>False
        | some h=>(0≤h∧h≤xs.length)∧K (.own s.nx) ((s.box k .dead).new (.row e' cn (xs.take h.toNat))) H
       | _=>False
      | _=>False
    | _=>False)∨oC fb C s T' x lo hi mx fun r=>K r s H
  | _=>oC fb C s T' x lo hi mx fun r=>K r s H
 | .call c=>match c.callee with
  | .builtin b=>match b with
   | .len=>match c.args.toList with
    | [x]=>match c.argTypes.toList with
     | [T']=>match C.tt T' with
      | some (_,.slice _)=>match get s x with
       | some (.v (.slice _ n _))=>K (.v (.int .i64 n)) s H
       | some (.own k)=>match lk s.bx k with
        | some (.row _ _ xs)=>K (.v (.int .i64 xs.length)) s H
        | _=>False
       | some (.sub _ _ _ n)=>K (.v (.int .i64 n)) s H
       | _=>False
      | some (_,.string)=>match get s x with
       | some (.v (.string t))=>K (.v (.int .i64 (sl t).length)) s H
       | _=>False
      | _=>fb
     | _=>False
    | _=>False
   | .append=>match c.args.toList with
    | [x,y]=>match c.argTypes.toList with
     | [t,t']=>bif Nat.beq t t' then (match I0 s (get s x) with
      | some _=>fb
      | none=>match get s x with
      | some (.sub _ _ _ _)=>fb
      | some x'=>match get s y with
       | some y'=>vx C t x' y' s H K
       | none=>False
      | none=>False) else fb
     | _=>False
    | _=>False
   | .min=>match c.args.toList with
    | [x,y]=>match get s x with
     | some (.v (.int k a))=>match get s y with
      | some (.v (.int _ b))=>K (.v (.int k (min a b))) s H
      | _=>False
     | _=>fb
    | _=>fb
   | .max=>match c.args.toList with
    | [x,y]=>match get s x with
     | some (.v (.int k a))=>match get s y with
      | some (.v (.int _ b))=>K (.v (.int k (max a b))) s H
      | _=>False
     | _=>fb
    | _=>fb
   | _=>fb
  | .value g=>match get s g with
   | some (.fn f cap)=>match Ci s c.args.toList with
    | some vs=>bif gp f C.xf then Qd C f (vs++cap) s H K else bif gp f C.gf then Cm C f (vs++cap) s H K else Cj C f (vs++cap) T s H K
    | none=>False
   | _=>fb
  | _=>fb
 | _=>fb
def Qe (C:Cx) (s:St) (o:Op) (T:TypeId) (H:Hp) (K:KK):Prop:=ou (I1 (bp C s o T H K) C s o T H K) C s o T H K
def vf (C:Cx) (s:St) (o:Op) (T:TypeId) (H:Hp) (K:KK):Prop:=match o with
 | .move x | .assign x=>match get s x with
  | some y=>K y s H
  | none=>False
 | .slice T' x lo hi mx=>match mx with
  | some _=>False
  | none=>match get s x with
   | some (.sub _ _ _ _)=>False
   | _=>oC False C s T' x lo hi none fun r=>K r s H
 | o=>ou False C s o T H K
def NW:Op→Bool
 | .move _=>true
 | .assign _=>true
 | .pick _ _ _=>true
 | .binOp _ _ _ _ _=>true
 | .unOp _ _ _=>true
 | .fieldAddr _ _ _=>true
 | .field _ _ _=>true
 | .load _ _=>true
 | .nilCheck _=>true
 | .convert _ _ _=>true
 | .indexAddr _ _ _=>true
 | .index _ _ _=>true
 | .slice _ _ _ _ _=>true
 | .extract _ _=>true
 | .build _ _=>true
 | .call c=>match c.callee with
  | .builtin .len=>true
  | .builtin .min=>true
  | .builtin .max=>true
  | _=>false
 | _=>false
def yO (ops:List Oper) (j:Nat):Option Tmp:=match ops[j]? with
 | some o=>o.dst
 | none=>none
def jX (C:Cx) (all:List Oper) (Q:St→Hp→Prop):List Oper→St→Hp→Prop
 | [],s,H=>Q s H
 | o::r,s,H =>
  match o.guard with
  | none=>Qe C s o.op o.type H fun x s' H'=>s'.eX C.n o.dst x fun nh=>jX C all Q r nh H'
  | some (j,want)=>match yO all j with
   | none=>False
   | some d=>match lk s.env d with
    | some (.kb b)=>bif (b == want) then Qe C s o.op o.type H fun x s' H'=>s'.eX C.n o.dst x fun nh=>jX C all Q r nh H'
      else s.eX C.n o.dst unit fun nh=>jX C all Q r nh H
    | some (.v (.bool b))=>(b=want→s.eX C.n (some d) (.kb want) fun s1=>Qe C s1 o.op o.type H fun x s' H'=>s'.eX C.n o.dst x fun nh=>jX C all Q r nh H')
      ∧ (b=!want→s.eX C.n (some d) (.kb !want) fun s1=>s1.eX C.n o.dst unit fun nh=>jX C all Q r nh H)
    | some (.v (.tuple _))=>s.eX C.n o.dst unit fun nh=>jX C all Q r nh H
    | _=>False
def HF (hs:List Nat):List (Nat×Bx)→List (Nat×Bx)
 | []=>[]
 | (k,b)::r=>(bif gp k hs then (k,.dead) else (k,b))::HF hs r
def St.I2 (hs:List Nat) (s:St):St:={ s with bx:=match hs with
 | []=>s.bx
 | _=>HF hs s.bx }
def wj (hs:List Nat) (nx:Nat):Nat→List (Nat×Bx)→Bool
 | 0,_=>true
 | _+1,[]=>true
 | n+1,(k,_)::r=>bif (bif Nat.ble nx k then true else gp k hs) then wj hs nx n r else false
def yP (hs:List Nat) (s s':St):Bool:=wj hs s.nx (s'.bx.length - s.bx.length) s'.bx
def Vu:Op→Bool
 | .box _ _=>true
 | .store _ _ _=>true
 | .alloc _=>true
 | .buildSlice _ _ _=>true
 | .makeSlice _ _ _=>true
 | .call c=>match c.callee with
  | .builtin .append=>true
  | .builtin .copy=>true
  | .builtin .clear=>true
  | .builtin .cap=>true
  | .builtin .unsafeSliceData=>true
  | .builtin .unsafeString=>true
  | .value _=>true
  | _=>false
 | _=>false
def qH (ops:Array Oper):Nat→Nat→Nat→Bool
 | 0,_,_=>false
 | n+1,i,j=>match ops[i]? with
  | some o=>o.after.toList.any fun e=>Region.binds .any e&&(e.on == j||qH ops n e.on j)
  | none=>false
def Vv:Op→Bool
 | .box _ _=>true
 | .alloc _=>true
 | .buildSlice _ _ _=>true
 | .makeSlice _ _ _=>true
 | .call c=>match c.callee with
  | .builtin .cap=>true
  | .builtin .unsafeSliceData=>true
  | _=>false
 | _=>false
def Cn (hs:List Nat) (o:Op):Bool:=bif Vv o then true else bif gp 1000000 hs then (match o with
 | .call c=>match c.callee with
  | .value (.func _)=>true
  | _=>false
 | _=>false) else false
def QU (hs:List Nat) (o:Op):List Nat:=bif Cn hs o then [] else hs
def Co (hs:List Nat) (all:List Oper) (i:Nat):List Nat→Bool
 | []=>true
 | e::r=>match all[e]? with
  | some o=>bif (bif NW o.op then true else bif Cn hs o.op then true else qH all.toArray all.length e i) then Co hs all i r else false
  | none=>false
def jY (hs:List Nat) (all:List Oper) (i:Nat) (r:List Nat):List Nat:=match hs with
 | []=>[]
 | _=>bif Co hs all i r then [] else hs
def um (C:Cx) (hs hp:List Nat) (s:St) (o:Oper) (H:Hp) (K:St→Hp→Prop):Prop :=
 bif NW o.op then vf C (s.I2 hp) o.op o.type H fun x _ _=>s.eX C.n o.dst x fun s'=>K s' H
 else bif Vu o.op then ou (I1 False C s o.op o.type H fun x s' H'=>bif yP (QU hs o.op) s s' then s'.eX C.n o.dst x fun nh=>K nh H' else False) C s o.op o.type H fun x s' H'=>bif yP (QU hs o.op) s s' then s'.eX C.n o.dst x fun nh=>K nh H' else False
 else False
def nj (C:Cx) (hs:List Nat) (all:List Oper) (Q:St→Hp→Prop):List Nat→St→Hp→Prop
 | [],s,H=>Q s H
 | i::r,s,H=>match all[i]? with
  | none=>False
  | some o=>match o.guard with
   | none=>um C hs (jY hs all i r) s o H fun s' H'=>nj C hs all Q r s' H'
   | some (j,want)=>match yO all j with
    | none=>False
    | some d=>match lk s.env d with
     | some (.kb b)=>bif (b == want) then um C hs (jY hs all i r) s o H fun s' H'=>nj C hs all Q r s' H'
       else s.eX C.n o.dst unit fun s'=>nj C hs all Q r s' H
     | some (.v (.bool b))=>(b=want→s.eX C.n (some d) (.kb want) fun s1=>um C hs (jY hs all i r) s1 o H fun s' H'=>nj C hs all Q r s' H')
       ∧ (b=!want→s.eX C.n (some d) (.kb !want) fun s1=>s1.eX C.n o.dst unit fun s'=>nj C hs all Q r s' H)
     | some (.v (.tuple _))=>s.eX C.n o.dst unit fun s'=>nj C hs all Q r s' H
     | _=>False
def jf (ops:Array Oper) (p q:Nat):Bool:=match ops[p]? with
 | some x=>match ops[q]? with
  | some y=>p != q&&!qH ops ops.size p q&&(qH ops ops.size q p||(NW x.op&&Oper.apart ops x y))&&(match x.dst with
   | some d=>y.dst != some d
   | none=>true)
  | none=>false
 | none=>false
def Ay (ops:Array Oper):List Nat→Bool
 | []=>true
 | p::r=>r.all (jf ops p)&&Ay ops r
def Az (ops:Array Oper) (p:Nat):Bool:=match ops[p]? with
 | some x=>(match x.dst with
  | some d=>!(x.looksAt ops).contains d
  | none=>true)&&!(match x.op with | .select _ _=>true | _=>false)&&x.after.toList.all (fun e=>!Region.binds .any e||(Nat.blt e.on ops.size&&e.on != p))
 | none=>false
def s7 (ops:Array Oper) (ord:List Nat):Bool :=
 (List.range ops.size).all (fun i=>ord.contains i)&&ord.all (fun i=>Nat.blt i ops.size)&&Ay ops ord&&ord.all (Az ops)
inductive Ex where
 | normal
 | exit (id:Nat)
 | goto (l:Nat)
 | ret
def Ex.of:Ex→Exit
 | .normal=>.normal
 | .exit id=>.exit id
 | .goto l=>.goto l
 | .ret=>.ret
def pN (C:Cx) (c:Code) (Q:Ex→St→Hp→Prop) (s:St) (H:Hp):Prop :=
 ∀(B:Bs) (ρ:bk) (a:Act) (w:World),B.base=C.base→Rel C B ρ s H a w →
  c.wp C.P (fun e a' w'=>∃e0 s' H' ρ',e=Ex.of e0∧Q e0 s' H'∧Rel C B ρ' s' H' a' w'∧Le H H') a w
def Lb (bx:List (Nat×Bx)) (k:Nat):Prop:=match lk bx k with
 | some (.row _ _ xs)=>xs=[]
 | _=>False
def Ft (m:List (Nat×Nat)) (k:Nat):Bool:=match lk m k with
 | some j=>Nat.beq j k
 | none=>false
mutual
def SV.fix (m:List (Nat×Nat)):SV→Bool
 | .v _=>true
 | .kb _=>true
 | .ptr k _=>Ft m k
 | .el _ _ _ _=>true
 | .rel k _ _ _=>Ft m k
 | .own k=>Ft m k
 | .sub k _ _ _=>Ft m k
 | .mp k=>Ft m k
 | .agg cs=>SV.I3 m cs
 | .fn _ cap=>SV.I3 m cap
 | .eo vs=>SV.I3 m vs
def SV.I3 (m:List (Nat×Nat)):List SV→Bool
 | []=>true
 | x::r=>bif SV.fix m x then SV.I3 m r else false
end
def Cp (m:List (Nat×Nat)) (bx:List (Nat×Bx)) (x y:SV):Prop :=
 match y with
 | .own k=>match x with
  | .own k'=>lk m k=some k'
  | .v z=>z = .slice none 0 0∧lk m k=none∧Lb bx k
  | _=>False
 | .ptr k off=>match x with
  | .ptr k' Cg=>lk m k=some k'∧Cg=off
  | _=>False
 | .sub k sz lo n=>match x with
  | .sub k' cn lo' n'=>lk m k=some k'∧cn=sz∧lo'=lo∧n'=n
  | _=>False
 | .mp k=>match x with
  | .mp k'=>lk m k=some k'
  | _=>False
 | .rel k sz i off=>match x with
  | .rel k' cn i' Cg=>lk m k=some k'∧cn=sz∧i'=i∧Cg=off
  | _=>False
 | .v z=>match x with
  | .kb b=>z = .bool b
  | x=>x = .v z
 | .kb b=>match x with
  | .v (.bool c)=>c=b
  | x=>x = .kb b
 | y=>x=y∧SV.fix m y=true
def AA (m:List (Nat×Nat)) (bx:List (Nat×Bx)) (env:List (Nat×SV)):List (Nat×SV)→Prop
 | []=>True
 | (t,y)::r=>(match lk env t with
  | some x=>Cp m bx x y
  | none=>False)∧AA m bx env r
def yQ (m:List (Nat×Nat)) (bx:List (Nat×Bx)):List SV→List SV→Prop
 | [],[]=>True
 | x::r,y::r'=>Cp m bx x y∧yQ m bx r r'
 | _,_=>False
def Lc (m:List (Nat×Nat)) (bx:List (Nat×Bx)) (QV:List (Nat×Bx)) (k:Nat) (y:Bx):Prop:=match lk m k with
 | some k'=>match lk QV k' with
  | some x=>(match y with
   | .cells T cs=>match x with
    | .cells T' To=>bif Nat.beq T' T then yQ m bx To cs else False
    | _=>False
   | .row e sz xs=>match x with
    | .row e' cn Vw=>bif Nat.beq e' e&&Nat.beq cn sz then Vw=xs else False
    | _=>False
   | .qh z=>match x with
    | .qh z'=>z'=z
    | _=>False
   | .obj Φ=>match x with
    | .obj Φ'=>Φ'=Φ
    | _=>False
   | .kW e sz l=>match x with
    | .kW e' cn l'=>e'=e∧cn=sz∧l'=l
    | _=>False
   | .dead=>True)
  | none=>False
 | none=>match y with
  | .row _ _ xs=>xs=[]
  | .kW _ _ l=>∀p∈l,p=(.slice none 0 0,[])
  | .dead=>True
  | _=>False
def HG (m:List (Nat×Nat)) (bx:List (Nat×Bx)) (QV:List (Nat×Bx)):List (Nat×Bx)→Prop
 | []=>True
 | (k,y)::r=>Lc m bx QV k y∧HG m bx QV r
def Ld (k:Nat):List (Nat×Nat)→Bool
 | []=>false
 | (_,j)::r=>bif Nat.beq j k then true else Ld k r
def HH (base:Nat):List (Nat×Nat)→Bool
 | []=>true
 | (i,j)::r=>(bif Nat.ble base i then true else Nat.beq i j)&&!Ld j r&&HH base r
def HI (n:Nat):List (Nat×SV)→Bool
 | []=>true
 | (_,x)::r=>bif SV.lt n x then HI n r else false
def Bx.Lf:Bx→Bool
 | .dead=>true
 | _=>false
def Ol (base n:Nat) (m:List (Nat×Nat)):List (Nat×Bx)→Bool
 | []=>true
 | (k,x)::r=>bif Nat.ble (k+1) n then (bif Bx.lt n x then (bif (bif Nat.ble base k then true else bif x.Lf then true else (lk m k).isSome) then Ol base n m r else false) else false) else false
def Sub (C:Cx) (m:List (Nat×Nat)) (s t:St):Prop :=
 bif HH C.base m&&HI t.nx t.env&&Ol C.base t.nx m t.bx&&Nat.ble C.base t.nx then AA m t.bx s.env t.env∧HG m t.bx s.bx t.bx else False
abbrev WT:=(Ex→St→Hp→Prop)→St→Hp→Prop
noncomputable def Cq (c:Code):Nat→Option Code :=
 Code.rec (motive:=fun _=>Nat→Option Code)
  (fun _=>none) (fun _ _ _ _=>none)
  (fun _ b ia ib l=>match ia l with
   | some r=>some (.seq r b)
   | none=>ib l)
  (fun _ _ _ _ _ _=>none) (fun _ _ _ _=>none) (fun _ _ _=>none) (fun _ _ _ _ _ _ _=>none) (fun _ _=>none) (fun _ _ _=>none)
  (fun l' l=>bif Nat.beq l' l then some .skip else none)
  (fun _ _=>none) (fun _=>none) (fun _ _=>none) c
def QW (C:Cx):Code→WT:=fun b Q s H=>pN C (.scope b) Q s H
noncomputable def Xe (W:Code→WT) (b:Code) (n:Nat):(Ex→St→Hp→Prop)→Ex→St→Hp→Prop :=
 Nat.rec (motive:=fun _=>(Ex→St→Hp→Prop)→Ex→St→Hp→Prop)
  (fun Q e s H=>match e with
   | .normal=>Q .normal s H
   | .exit i=>Q (.exit i) s H
   | .goto _=>False
   | .ret=>Q .ret s H)
  (fun _ ih Q e s H=>match e with
   | .normal=>Q .normal s H
   | .exit i=>Q (.exit i) s H
   | .goto l=>(match Cq b l with
    | some r=>W r (ih Q) s H
    | none=>False)
   | .ret=>Q .ret s H) n
def Tp (C:Cx) (W:Code→WT):Code→WT:=fun b Q s H =>
 (∃n:Nat,W b (Xe W b n Q) s H) ∨
 ∃(α:Type) (SZ:α→Nat) (T:α→St) (I:α→Hp→Prop) (μ:α→Nat),
  W b (fun e s' H'=>match e with
   | .normal=>Q .normal s' H'
   | .exit i=>Q (.exit i) s' H'
   | .goto l=>∃x m,SZ x=l∧Sub C m s' (T x)∧I x H'
   | .ret=>Q .ret s' H') s H ∧
  ∀x H',Le H H'→I x H'→match Cq b (SZ x) with
   | none=>False
   | some r=>W r (fun e s' wc=>match e with
    | .normal=>Q .normal s' wc
    | .exit i=>Q (.exit i) s' wc
    | .goto l=>∃x' m,SZ x'=l∧Sub C m s' (T x')∧I x' wc∧μ x'<μ x
    | .ret=>Q .ret s' wc) (T x) H'
def AB (C:Cx) (sc:Code→WT):Code→(Ex→St→Hp→Prop)→St→Hp→Prop
 | .skip,Q,s,H=>Q .normal s H
 | .region id ops draw,Q,s,H=>bif draw then (∃ord:Option (List Nat×List Nat),match ord with
   | some (hs,l)=>s7 ops l=true∧nj C hs ops.toList (Q .normal) l s H
   | none=>pN C (.region id ops draw) Q s H) else jX C ops.toList (Q .normal) ops.toList s H
 | .seq a b,Q,s,H=>AB C sc a (fun e s H=>match e with
   | .normal=>AB C sc b Q s H
   | .exit i=>Q (.exit i) s H
   | .goto l=>Q (.goto l) s H
   | .ret=>Q .ret s H) s H
 | .cond c a b,Q,s,H=>match get s c with
  | some (.kb t)=>bif t then AB C sc a Q s H else AB C sc b Q s H
  | some (.v (.bool t))=>(t=true→AB C sc a Q s H)∧(t=false→AB C sc b Q s H)
  | _=>False
 | .block id c,Q,s,H=>AB C sc c (fun e s H=>match e with
   | .normal=>Q .normal s H
   | .exit i=>bif Nat.beq i id then Q .normal s H else Q (.exit i) s H
   | .goto l=>Q (.goto l) s H
   | .ret=>Q .ret s H) s H
 | .loop c,Q,s,H=>∃(α:Type) (T:α→St) (I:α→Hp→Prop) (μ:α→Nat),
   (∃x m,Sub C m s (T x)∧I x H)∧∀x H',Le H H'→I x H'→AB C sc c (fun e s' wc=>match e with
    | .normal=>∃x' m,Sub C m s' (T x')∧I x' wc∧μ x'<μ x
    | .exit i=>Q (.exit i) s' wc
    | .goto l=>Q (.goto l) s' wc
    | .ret=>Q .ret s' wc) (T x) H'
 | .exit id,Q,s,H=>Q (.exit id) s H
 | .ret,Q,s,H=>Q .ret s H
 | .label _,Q,s,H=>Q .normal s H
 | .goto l,Q,s,H=>Q (.goto l) s H
 | .rangeFunc f ps a b,Q,s,H=>pN C (.rangeFunc f ps a b) Q s H
 | .scope b,Q,s,H=>sc b Q s H
 | .refuse _,_,_,_=>False
def vg (C:Cx) (s:St):List ResultVar→Option (List SV)
 | []=>some []
 | .tmp t::r=>match get s (.tmp t) with
  | some x=>match vg C s r with
   | some l=>some (x::l)
   | none=>none
  | none=>none
 | .cell a T::r=>match get s (.tmp a) with
  | some (.ptr k off)=>match lk s.bx k with
   | some (.cells _ cs)=>match cL C T with
    | some n=>bif Nat.ble (off+n) cs.length then (match E1 (kC C T) ((cs.drop off).take n) with
     | some x=>match vg C s r with
      | some l=>some (x::l)
      | none=>none
     | none=>none) else none
    | none=>none
   | _=>none
  | _=>none
def rI:List SV→SV
 | [x]=>x
 | l=>.eo l
def qI:Nat→List Value→List (Nat×SV)
 | _,[]=>[]
 | i,v::r=>(i,NV v)::qI (i+1) r
def Xf (C:Cx) (n:Nat) (c:Code) (res:List ResultVar) (args:List Value) (H:Hp) (K:Value→Hp→Prop):Prop :=
 AB { C with n:=n } (Tp { C with n:=n } (AB { C with n:=n } (QW { C with n:=n }))) c (fun e s' H'=>match e with
   | .normal | .ret=>match vg { C with n:=n } s' res with
    | some l=>Og (rI l) s' H' fun v _ wc=>K v wc
    | none=>False
   | _=>False) { env:=qI 0 args,bx:=[],nx:=0 } H
structure eH (C:Cx):Prop where
 tt:∀T i d,C.tt T=some (i,d)→C.P.info? T=some i∧C.P.underlying T=some d
 eqs : ∀ T, gp T C.eqs = true → C.P.stoodInHeld T = false ∧ C.P.eqGuardType C.P.depth T = false ∧ ∀ i fs, C.tt T = some (i, .struct fs) → ∀ f ∈ fs, f.name ≠ "_"
instance (C:Cx):CoeFun (eH C) (fun _=>∀T i d,C.tt T=some (i,d)→C.P.info? T=some i∧C.P.underlying T=some d):=⟨eH.tt⟩
end Go.Sy
end
section
/- The symbolic reader is sound: what it says of a body, the machine does. -/
namespace Go.Sy
open Go.RowKit (Below)
theorem Le.refl (H:Hp):Le H H:=fun _ _ h=>h
theorem Le.trans {A B C:Hp} (h:Le A B) (k:Le B C):Le A C:=fun b o e=>k b o (h b o e)
theorem bE {a b:Nat} (h:Nat.beq a b=true):a=b:=Nat.eq_of_beq_eq_true h
theorem Cr {a b:Nat} (h:Nat.beq a b=false):a≠b:=fun e=>by subst e;simp at h
theorem dp {a b:Nat} (h:Nat.ble a b=true):a≤b:=Nat.le_of_ble_eq_true h
theorem aT {α:Type} (k:Nat) (x:α) (r:List (Nat×α)) (n:Nat):lk ((k,x)::r) n=if k=n then some x else lk r n:=by
 rw[lk];cases h:Nat.beq k n
 ·simp [Cr h]
 ·simp [bE h]
theorem cH (ρ:bk):∀l:List SV,cE ρ l=l.map (ga ρ)
 | []=>rfl
 | x::r=>by rw[cE,cH ρ r];rfl
theorem dS (n:Nat):∀l:List SV,SV.jW n l=true↔∀x∈l,SV.lt n x=true
 | []=>by simp [SV.jW]
 | x::r=>by
  rw[SV.jW]
  cases h:SV.lt n x<;>simp [h,dS n r]
mutual
theorem vy {n m:Nat} (h:n≤m):∀x:SV,SV.lt n x=true→SV.lt m x=true
 | .v _,_=>by rw[SV.lt]
 | .kb _,_=>by rw[SV.lt]
 | .ptr k _,hx=>by
  rw[SV.lt]at hx ⊢;have:=dp hx;exact Nat.ble_eq_true_of_le (by omega)
 | .el _ _ _ _,_=>by rw[SV.lt]
 | .rel k _ _ _,hx=>by
  rw[SV.lt]at hx ⊢;have:=dp hx;exact Nat.ble_eq_true_of_le (by omega)
 | .own k,hx=>by
  rw[SV.lt]at hx ⊢;have:=dp hx;exact Nat.ble_eq_true_of_le (by omega)
 | .sub k _ _ _,hx=>by
  rw[SV.lt]at hx ⊢;have:=dp hx;exact Nat.ble_eq_true_of_le (by omega)
 | .mp k,hx=>by
  rw[SV.lt]at hx ⊢;have:=dp hx;exact Nat.ble_eq_true_of_le (by omega)
 | .agg cs,hx=>by rw[SV.lt]at hx ⊢;exact jB h cs hx
 | .fn _ cs,hx=>by rw[SV.lt]at hx ⊢;exact jB h cs hx
 | .eo cs,hx=>by rw[SV.lt]at hx ⊢;exact jB h cs hx
theorem jB {n m:Nat} (h:n≤m):∀l:List SV,SV.jW n l=true→SV.jW m l=true
 | [],_=>by rw[SV.jW]
 | x::r,hx=>by
  rw[SV.jW]at hx ⊢
  cases h1:SV.lt n x with
  | false=>rw[h1]at hx;cases hx
  | true =>
   rw[h1]at hx;rw[vy h x h1];exact jB h r hx
end
theorem oD.val {n k:Nat} {ρ ρ':bk} (h:oD n ρ ρ') (hk:k<n):ρ'.val k=ρ.val k:=by unfold bk.val;rw[(h k hk).2]
theorem oD.refl (n:Nat) (ρ:bk):oD n ρ ρ:=fun _ _=>⟨rfl,rfl⟩
mutual
theorem pO {n:Nat} {ρ ρ':bk} (h:oD n ρ ρ'):∀x:SV,SV.lt n x=true→ga ρ' x=ga ρ x
 | .v _,_=>by rw[ga,ga]
 | .kb _,_=>by rw[ga,ga]
 | .ptr k _,hx=>by
  rw[SV.lt]at hx;have:=dp hx;rw[ga,ga,(h k (by omega)).1]
 | .el none _ _ _,_=>by rw[ga,ga]
 | .el (some _) _ _ _,_=>by rw[ga,ga]
 | .rel k _ _ _,hx=>by
  rw[SV.lt]at hx;have:=dp hx;rw[ga,ga,(h k (by omega)).1]
 | .own k,hx=>by
  rw[SV.lt]at hx;have:=dp hx;rw[ga,ga,h.val (by omega)]
 | .sub k _ _ _,hx=>by
  rw[SV.lt]at hx;have:=dp hx;rw[ga,ga,bk.part,bk.part,(h k (by omega)).2]
 | .mp k,hx=>by
  rw[SV.lt]at hx;have:=dp hx;rw[ga,ga,(h k (by omega)).1]
 | .agg cs,hx=>by rw[SV.lt]at hx;rw[ga,ga,mg h cs hx]
 | .fn _ cs,hx=>by rw[SV.lt]at hx;rw[ga,ga,mg h cs hx]
 | .eo cs,hx=>by rw[SV.lt]at hx;rw[ga,ga,mg h cs hx]
theorem mg {n:Nat} {ρ ρ':bk} (h:oD n ρ ρ'):∀l:List SV,SV.jW n l=true→cE ρ' l=cE ρ l
 | [],_=>by rw[cE,cE]
 | x::r,hx=>by
  rw[SV.jW]at hx
  cases h1:SV.lt n x with
  | false=>rw[h1]at hx;cases hx
  | true =>
   rw[h1]at hx;rw[cE,cE,pO h x h1,mg h r hx]
end
section
variable {C:Cx} {B:Bs} {ρ:bk} {s:St} {H:Hp} {a:Act} {w:World}
theorem Om (hm:Mem B ρ s.bx s.nx H w) (x:SV):ga ρ (norm s.bx x)=ga ρ x:=by
 unfold norm;split
 ·rename_i k;split
  ·rename_i z hz;have:=(hm.ok _ _ hz).2.1;simp only[bu]at this;rw[ga,ga,this]
  ·rfl
 ·rename_i k sz lo n;split
  ·rename_i x z n' c hz;have:=(hm.ok _ _ hz).2.1;simp only[bu,bk.val,Value.slice.injEq]at this;rw[ga,ga,bk.part,this.1,this.2.2]
  ·rfl
 ·rfl
theorem On {n:Nat} {bx:List (Nat×Bx)} {x:SV} (h:x.lt n=true):(norm bx x).lt n=true:=by
 unfold norm;split
 ·split
  ·rw[SV.lt]
  ·exact h
 ·split
  ·rw[SV.lt]
  ·exact h
 ·exact h
theorem ai (hr:Rel C B ρ s H a w) {x:Operand} {y:SV} (h:get s x=some y):a.eval x=ga ρ y∧y.lt s.nx=true:=by
 cases x with
 | tmp t =>
  simp only[get]at h;split at h
  ·rename_i z hz;obtain⟨h1,h2⟩:=hr.env _ _ hz;simp only[Option.some.injEq]at h;subst h;refine⟨?_,On h2⟩;rw[Om hr.mem];simp [Act.eval,Array.getD_eq_getD_getElem?,h1]
  ·cases h
 | const x =>
  simp only[get]at h
  split at h<;>(simp only[Option.some.injEq]at h;subst h;exact⟨by rw[ga];rfl,by rw[SV.lt]⟩)
 | global g=>simp only[get,Option.some.injEq]at h;subst h;exact⟨by rw[ga];rfl,by rw[SV.lt]⟩
 | func f =>
  simp only[get,Option.some.injEq]at h;subst h;exact⟨by rw[ga,cE];rfl,by rw[SV.lt,SV.jW]⟩
theorem mh (hr:Rel C B ρ s H a w):∀ {l:List Operand} {ys:List SV},Ci s l=some ys→l.map a.eval=cE ρ ys∧SV.jW s.nx ys=true
 | [],ys,h=>by
  simp only[Ci,Option.some.injEq]at h;subst h;exact⟨by rw[cE];rfl,by rw[SV.jW]⟩
 | x::r,ys,h=>by
  simp only[Ci]at h;split at h
  ·rename_i y hy;split at h
   ·rename_i zs hz;simp only[Option.some.injEq]at h;subst h;obtain⟨h1,h2⟩:=ai hr hy;obtain⟨h3,h4⟩:=mh hr hz;refine⟨by rw[cE,←h1,←h3];rfl,by rw[SV.jW,h2];exact h4⟩
   ·cases h
  ·cases h
theorem bu.same {ρ':bk} {k n:Nat} {b:Bx} (h:bu ρ w k b) (hs:oD n ρ ρ') (hk:k<n) (hb:b.lt n=true):bu ρ' w k b:=by
 cases b with
 | cells T cs=>simp only[bu,Bx.lt]at *;rw[(hs k hk).1,mg hs cs hb];exact h
 | row e sz xs=>simp only[bu]at *;rw[hs.val hk,(hs k hk).1];exact h
 | qh x=>simp only[bu]at *;rw[hs.val hk];exact h
 | obj Φ=>simp only[bu]at *;rw[(hs k hk).1];exact h
 | kW e sz l=>exact h
 | dead=>trivial
theorem br.same {ρ':bk} {k n g:Nat} {b:Bx} (hs:oD n ρ ρ') (hk:k<n) (h:br ρ' k b g):br ρ k b g:=by
 cases b<;>simp only[br]at *<;>simpa [(hs k hk).1,hs.val hk] using h
theorem fU {w w':World} {e:TypeId} {sz n:Nat} {v:Value} {xs:List Value} (h:w.ownsRow 0 e sz v n xs)
  (hk:∀g,v.ownBlock=some g→w'.heap[g]?=w.heap[g]?):w'.ownsRow 0 e sz v n xs:=by
 refine⟨h.1,?_⟩
 rcases h.2 with hn | ⟨g,cap,cur,rfl,hb,E3,rest⟩
 ·exact .inl hn
 ·exact .inr ⟨g,cap,cur,rfl,hb,by rw[hk g rfl];exact E3,rest⟩
theorem bu.heap {w':World} {k:Nat} {b:Bx} (h:bu ρ w k b) (hk:∀g,br ρ k b g→w'.heap[g]?=w.heap[g]?):bu ρ w' k b:=by
 cases b with
 | cells T cs=>simp only[bu]at *;rw[hk _ rfl];exact h
 | row e sz xs=>simp only[bu]at *;exact⟨fU h.1 hk,h.2⟩
 | qh x=>exact h
 | obj Φ=>simp only[bu]at *;rw[hk _ rfl];exact h
 | kW e sz l=>exact⟨fun p hp=>⟨fU (h.1 p hp).1 fun g hg=>hk g ⟨p,hp,hg⟩,(h.1 p hp).2⟩,h.2⟩
 | dead=>trivial
theorem bu.block {k g:Nat} {b:Bx} (h:bu ρ w k b) (ho:br ρ k b g):∃o,w.heap[g]?=some o:=by
 cases b with
 | cells T cs=>simp only[br]at ho;subst ho;exact⟨_,h⟩
 | row e sz xs =>
  simp only[bu]at h
  rcases h.1.2 with ⟨h1,_⟩ | ⟨g',cap,cur,h1,_,h2,_⟩
  ·simp only[br,h1]at ho;cases ho
  ·simp only[br,h1,Value.ownBlock,Option.some.injEq]at ho;subst ho;exact⟨_,h2⟩
 | obj Φ=>simp only[br]at ho;subst ho;obtain⟨o,h1,_⟩:=h;exact⟨o,h1⟩
 | kW e sz l =>
  obtain⟨p,hp,hg⟩:=ho
  rcases (h.1 p hp).1.2 with ⟨h1,_⟩ | ⟨g',cap,cur,h1,_,h2,_⟩
  ·rw[h1]at hg;cases hg
  ·rw[h1]at hg;simp only[Value.ownBlock,Option.some.injEq]at hg;subst hg;exact⟨_,h2⟩
 | qh x=>exact ho.elim
 | dead=>exact ho.elim
theorem bu.QX {k g:Nat} {e:TypeId} {sz:Nat} {xs:List (List Value)} (h:bu ρ w k (.row e sz xs)) (ho:br ρ k (.row e sz xs) g):∃c T,w.heap[g]?=some (.cells c T (0,0)):=by
 simp only[bu]at h
 rcases h.1.2 with ⟨h1,_⟩ | ⟨g',cap,cur,h1,_,h2,_⟩
 ·simp only[br,h1]at ho;cases ho
 ·simp only[br,h1,Value.ownBlock,Option.some.injEq]at ho;subst ho;exact⟨_,_,h2⟩
theorem bu.lt {k g:Nat} {b:Bx} (h:bu ρ w k b) (ho:br ρ k b g):g<w.heap.size:=by
 obtain⟨o,hg⟩:=h.block ho;exact (Array.getElem?_eq_some_iff.1 hg).1
def bk.set (ρ:bk) (k b:Nat) (v:Option Addr×Nat×Nat):bk:=⟨fun j=>if j=k then b else ρ.b j,fun j=>if j=k then v else ρ.sl j⟩
theorem bk.rJ (ρ:bk) (n b:Nat) (v:Option Addr×Nat×Nat):oD n ρ (ρ.set n b v):=fun k hk=>by
 simp [bk.set,Nat.ne_of_lt hk]
theorem OD.refl (w:World):OD w w:=⟨rfl,Nat.le_refl _⟩
theorem OD.trans {w w' Xg:World} (h:OD w w') (h':OD w' Xg):OD w Xg:=⟨h'.1.trans h.1,Nat.le_trans h.2 h'.2⟩
theorem Mem.step {bx:List (Nat×Bx)} {nx:Nat} {w':World} (hm:Mem B ρ bx nx H w) (h1:w'.os=w.os) (h2:w'.tape=w.tape) (h3:OD w w')
  (h4:w.heap.size≤w'.heap.size) (hb:∀g,g<w.heap.size→w'.heap[g]?=w.heap[g]?):Mem B ρ bx nx H w' where
 os:=h1.trans hm.os
 tape:=h2.trans hm.tape
 output:=hm.output.trans h3
 size:=Nat.le_trans hm.size h4
 frame:=fun b Xh hE=>by rw[hb b (Nat.lt_of_lt_of_le Xh hm.size)];exact hm.frame b Xh hE
 base:=hm.base
 agree:=hm.agree
 hp:=fun b o ho=>by
  have:=hm.hp b o ho
  rw[hb b (Array.getElem?_eq_some_iff.1 this).1];exact this
 hle:=hm.hle
 cR:=hm.cR
 ok:=fun k b hk=>by
  obtain⟨h1,h2,h3⟩:=hm.ok k b hk;exact⟨h1,h2.heap fun g hg=>hb g (h2.lt hg),h3⟩
 own:=hm.own
 eZ:=hm.eZ
theorem Mem.alloc {bx:List (Nat×Bx)} {nx:Nat} {w':World} {b:Bx} {g:Nat} {v:Option Addr×Nat×Nat} (hm:Mem B ρ bx nx H w) (h1:w'.os=w.os) (h2:w'.tape=w.tape) (h3:OD w w')
  (h4:w.heap.size≤w'.heap.size) (hb:∀g,g<w.heap.size→w'.heap[g]?=w.heap[g]?)
  (aj:b.lt (nx+1)=true) (ca:bu (ρ.set nx g v) w' nx b) (cR:∀g',br (ρ.set nx g v) nx b g'→w.heap.size≤g'):
  Mem B (ρ.set nx g v) ((nx,b)::bx) (nx+1) H w':=by
 have vh:=hm.step h1 h2 h3 h4 hb;have hs:=bk.rJ ρ nx g v;exact
 {os:=vh.os,tape:=vh.tape,output:=vh.output,size:=vh.size,frame:=vh.frame
  base:=Nat.le_succ_of_le hm.base
  agree:=fun k hk=>by
   have:=hs k (Nat.lt_of_lt_of_le hk hm.base)
   rw[this.1,this.2];exact hm.agree k hk
  hp:=vh.hp,hle:=vh.hle,cR:=vh.cR
  ok:=fun k x hk=>by
   rw[aT]at hk;split at hk
   ·rename_i e;subst e;simp only[Option.some.injEq]at hk;subst hk;exact⟨Nat.lt_succ_self _,ca,aj⟩
   ·obtain⟨a1,a2,a3⟩:=vh.ok k x hk;refine⟨Nat.lt_succ_of_lt a1,a2.same hs a1 a3,?_⟩
    cases x with
    | cells T cs=>exact jB (Nat.le_succ _) cs a3
    | _=>rfl
  own:=fun k x g' hk ho=>by
   rw[aT]at hk;split at hk
   ·rename_i e;subst e;simp only[Option.some.injEq]at hk;subst hk;have hg:=cR g' ho;refine⟨?_,.inl (Nat.le_trans hm.size hg)⟩
    cases hh:H g' with
    | none=>rfl
    | some o =>
     have:=(Array.getElem?_eq_some_iff.1 (hm.hp g' o hh)).1;omega
   ·exact hm.own k x g' hk (ho.same hs (hm.ok k x hk).1)
  eZ:=fun k k' x x' g' hk lQ ho dx=>by
   rw[aT]at hk lQ
   split at hk<;>split at lQ
   ·omega
   ·rename_i e1 e2;subst e1;simp only[Option.some.injEq]at hk;subst hk;have:=cR g' ho;have h5:=(hm.ok k' x' lQ).2.1.lt (dx.same hs (hm.ok k' x' lQ).1);omega
   ·rename_i e1 e2;subst e2;simp only[Option.some.injEq]at lQ;subst lQ;have:=cR g' dx;have h5:=(hm.ok k x hk).2.1.lt (ho.same hs (hm.ok k x hk).1);omega
   ·exact hm.eZ k k' x x' g' hk lQ (ho.same hs (hm.ok k x hk).1) (dx.same hs (hm.ok k' x' lQ).1) }
theorem Mem.write {bx:List (Nat×Bx)} {nx:Nat} {w':World} {b b':Bx} {k:Nat} (hm:Mem B ρ bx nx H w) (hk:lk bx k=some b)
  (h1:w'.os=w.os) (h2:w'.tape=w.tape) (h3:OD w w') (h4:w.heap.size≤w'.heap.size)
  (hb:∀g,g<w.heap.size→¬br ρ k b g→w'.heap[g]?=w.heap[g]?) (aj:b'.lt nx=true) (ca:bu ρ w' k b') (uo:∀g,br ρ k b' g→br ρ k b g):
  Mem B ρ ((k,b')::bx) nx H w':=by
 have vz:=hm.ok k b hk;exact
 {os:=h1.trans hm.os,tape:=h2.trans hm.tape,output:=hm.output.trans h3,size:=Nat.le_trans hm.size h4
  frame:=fun g hg hE=>by
   rw[hb g (Nat.lt_of_lt_of_le hg hm.size) (fun ho=>by
    have:=(hm.own k b g hk ho).2
    rcases this with h | h
    ·omega
    ·exact hE h)]
   exact hm.frame g hg hE
  base:=hm.base,agree:=hm.agree
  hp:=fun g o ho=>by
   have h5:=hm.hp g o ho
   rw[hb g (Array.getElem?_eq_some_iff.1 h5).1 (fun hh=>by
    have:=(hm.own k b g hk hh).1
    rw[this]at ho;cases ho)]
   exact h5
  hle:=hm.hle,cR:=hm.cR
  ok:=fun j x hj=>by
   rw[aT]at hj;split at hj
   ·rename_i e;subst e;simp only[Option.some.injEq]at hj;subst hj;exact⟨vz.1,ca,aj⟩
   ·rename_i cu;obtain⟨a1,a2,a3⟩:=hm.ok j x hj;exact⟨a1,a2.heap fun g hg=>hb g (a2.lt hg) fun ho=>cu (hm.eZ k j b x g hk hj ho hg),a3⟩
  own:=fun j x g hj ho=>by
   rw[aT]at hj;split at hj
   ·rename_i e;subst e;simp only[Option.some.injEq]at hj;subst hj;exact hm.own _ b g hk (uo g ho)
   ·exact hm.own j x g hj ho
  eZ:=fun j j' x x' g hj s8 ho dx=>by
   rw[aT]at hj s8
   split at hj<;>split at s8
   ·omega
   ·rename_i e1 e2;subst e1;simp only[Option.some.injEq]at hj;subst hj;exact hm.eZ _ j' b x' g hk s8 (uo g ho) dx
   ·rename_i e1 e2;subst e2;simp only[Option.some.injEq]at s8;subst s8;exact hm.eZ j _ x b g hj hk ho (uo g dx)
   ·exact hm.eZ j j' x x' g hj s8 ho dx }
theorem Rel.vA (hr:Rel C B ρ s H a w) (g:Nat) (v:Option Addr×Nat×Nat):∀t x,lk s.env t=some x→a.tmps[t]?=some (ga (ρ.set s.nx g v) x)∧x.lt (s.nx+1)=true:=fun t x hx=>by
 obtain⟨h1,h2⟩:=hr.env t x hx;rw[pO (bk.rJ ρ s.nx g v) x h2];exact⟨h1,vy (Nat.le_succ _) x h2⟩
theorem Rel.put (hr:Rel C B ρ s H a w) (d:Option Tmp) {x:SV} (hx:x.lt s.nx=true):Rel C B ρ (s.put C.n d x) H (a.put d (ga ρ x)) w:=by
 cases d with
 | none=>exact hr
 | some t =>
  simp only[St.put,Act.put]
  cases ht:Nat.ble (t+1) C.n with
  | false =>
   simp only[cond_false]
   have vu:C.n≤t:=by
    rcases Nat.lt_or_ge t C.n with h | h
    ·rw[Nat.ble_eq_true_of_le (show t+1≤C.n from h)]at ht;cases ht
    ·exact h
   have:a.tmps.setIfInBounds t (ga ρ x)=a.tmps:=by
    rw[Array.setIfInBounds,dif_neg (by rw[hr.sz];exact Nat.not_lt.2 vu)]
   rw[this];exact hr
  | true =>
   simp only[cond_true];have aj:=dp ht;refine⟨fun u y hu=>?_,by simpa using hr.sz,hr.defers,hr.mem⟩;simp only[aT]at hu;split at hu
   ·rename_i e;subst e;simp only[Option.some.injEq]at hu;subst hu;exact⟨Array.getElem?_setIfInBounds_self_of_lt (by rw[hr.sz];exact aj),hx⟩
   ·rename_i cu;rw[Array.getElem?_setIfInBounds_ne cu];exact hr.env u y hu
end
end Go.Sy
end
section
/- The same meaning, by plain recursion: it unfolds alike everywhere. -/
namespace Go.Sy
def HJ (C:Cx) (all:List Oper) (o:Oper) (ih:St→Hp→Prop) (s:St) (H:Hp):Prop :=
 match o.guard with
 | none=>Qe C s o.op o.type H fun x s' H'=>s'.eX C.n o.dst x fun nh=>ih nh H'
 | some (j,want)=>match yO all j with
  | none=>False
  | some d=>match lk s.env d with
   | some (.kb b)=>bif (b == want) then Qe C s o.op o.type H fun x s' H'=>s'.eX C.n o.dst x fun nh=>ih nh H'
     else s.eX C.n o.dst unit fun nh=>ih nh H
   | some (.v (.bool b))=>(b=want→s.eX C.n (some d) (.kb want) fun s1=>Qe C s1 o.op o.type H fun x s' H'=>s'.eX C.n o.dst x fun nh=>ih nh H')
     ∧ (b=!want→s.eX C.n (some d) (.kb !want) fun s1=>s1.eX C.n o.dst unit fun nh=>ih nh H)
   | some (.v (.tuple _))=>s.eX C.n o.dst unit fun nh=>ih nh H
   | _=>False
noncomputable def vB (C:Cx) (all:List Oper) (Q:St→Hp→Prop) (l:List Oper):St→Hp→Prop :=
 List.rec (motive:=fun _=>St→Hp→Prop) Q (fun o _ ih=>HJ C all o ih) l
theorem wk (C:Cx) (all:List Oper) (Q:St→Hp→Prop):∀l,vB C all Q l=jX C all Q l
 | []=>rfl
 | o::r=>by
  have e:vB C all Q (o::r)=HJ C all o (vB C all Q r):=rfl;rw[e,wk C all Q r]
  rfl
def Qf (C:Cx) (hs:List Nat) (all:List Oper) (i:Nat) (r:List Nat) (ih:St→Hp→Prop) (s:St) (H:Hp):Prop :=
 match all[i]? with
 | none=>False
 | some o=>match o.guard with
  | none=>um C hs (jY hs all i r) s o H fun s' H'=>ih s' H'
  | some (j,want)=>match yO all j with
   | none=>False
   | some d=>match lk s.env d with
    | some (.kb b)=>bif (b == want) then um C hs (jY hs all i r) s o H fun s' H'=>ih s' H'
      else s.eX C.n o.dst unit fun s'=>ih s' H
    | some (.v (.bool b))=>(b=want→s.eX C.n (some d) (.kb want) fun s1=>um C hs (jY hs all i r) s1 o H fun s' H'=>ih s' H')
      ∧ (b=!want→s.eX C.n (some d) (.kb !want) fun s1=>s1.eX C.n o.dst unit fun s'=>ih s' H)
    | some (.v (.tuple _))=>s.eX C.n o.dst unit fun s'=>ih s' H
    | _=>False
noncomputable def yR (C:Cx) (hs:List Nat) (all:List Oper) (Q:St→Hp→Prop) (l:List Nat):St→Hp→Prop :=
 List.rec (motive:=fun _=>St→Hp→Prop) Q (fun i r ih=>Qf C hs all i r ih) l
theorem wm (C:Cx) (hs:List Nat) (all:List Oper) (Q:St→Hp→Prop):∀l,yR C hs all Q l=nj C hs all Q l
 | []=>rfl
 | o::r=>by
  have e:yR C hs all Q (o::r)=Qf C hs all o r (yR C hs all Q r):=rfl;rw[e,wm C hs all Q r]
  rfl
def AD (C:Cx) (id:Nat) (ops:Array Oper) (draw:Bool):WT:=fun Q s H =>
 bif draw then (∃ord:Option (List Nat×List Nat),match ord with
   | some (hs,l)=>s7 ops l=true∧yR C hs ops.toList (Q .normal) l s H
   | none=>pN C (.region id ops draw) Q s H) else vB C ops.toList (Q .normal) ops.toList s H
def Tq (ia ib:WT):WT:=fun Q s H=>ia (fun e s H=>match e with
   | .normal=>ib Q s H
   | .exit i=>Q (.exit i) s H
   | .goto l=>Q (.goto l) s H
   | .ret=>Q .ret s H) s H
def Qg (c:Operand) (ia ib:WT):WT:=fun Q s H=>match get s c with
  | some (.kb t)=>bif t then ia Q s H else ib Q s H
  | some (.v (.bool t))=>(t=true→ia Q s H)∧(t=false→ib Q s H)
  | _=>False
def Lg (id:Nat) (ic:WT):WT:=fun Q s H=>ic (fun e s H=>match e with
   | .normal=>Q .normal s H
   | .exit i=>bif Nat.beq i id then Q .normal s H else Q (.exit i) s H
   | .goto l=>Q (.goto l) s H
   | .ret=>Q .ret s H) s H
def Qh (C:Cx) (ic:WT):WT:=fun Q s H=>∃(α:Type) (T:α→St) (I:α→Hp→Prop) (μ:α→Nat),
   (∃x m,Sub C m s (T x)∧I x H)∧∀x H',Le H H'→I x H'→ic (fun e s' wc=>match e with
    | .normal=>∃x' m,Sub C m s' (T x')∧I x' wc∧μ x'<μ x
    | .exit i=>Q (.exit i) s' wc
    | .goto l=>Q (.goto l) s' wc
    | .ret=>Q .ret s' wc) (T x) H'
noncomputable def Lh (C:Cx) (sc:Code→WT) (c:Code):WT :=
 Code.rec (motive:=fun _=>WT)
  (fun Q s H=>Q .normal s H)
  (fun id ops draw=>AD C id ops draw)
  (fun _ _ ia ib=>Tq ia ib)
  (fun c _ _ ia ib=>Qg c ia ib)
  (fun id _ ic=>Lg id ic)
  (fun _ ic=>Qh C ic)
  (fun f ps a b _ _=>fun Q s H=>pN C (.rangeFunc f ps a b) Q s H)
  (fun id Q s H=>Q (.exit id) s H)
  (fun b _=>sc b)
  (fun _ Q s H=>Q .normal s H)
  (fun l Q s H=>Q (.goto l) s H)
  (fun Q s H=>Q .ret s H)
  (fun _ _ _ _=>False) c
theorem AE (C:Cx) (sc:Code→WT):∀c:Code,Lh C sc c=AB C sc c:=by
 intro c
 induction c with
 | skip=>rfl
 | region id ops draw =>
  show AD C id ops draw=_;unfold AD;simp only[wk,wm]
  rfl
 | seq a b ia ib =>
  show Tq (Lh C sc a) (Lh C sc b)=_
  rw[ia,ib];rfl
 | cond c a b ia ib =>
  show Qg c (Lh C sc a) (Lh C sc b)=_
  rw[ia,ib];rfl
 | block id c ic =>
  show Lg id (Lh C sc c)=_
  rw[ic];rfl
 | loop c ic =>
  show Qh C (Lh C sc c)=_
  rw[ic];rfl
 | rangeFunc f ps a b=>rfl
 | exit id=>rfl
 | scope b=>rfl
 | label l=>rfl
 | goto l=>rfl
 | ret=>rfl
 | refuse w=>rfl
noncomputable def Vx (C:Cx) (n:Nat) (c:Code) (res:List ResultVar) (args:List Value) (H:Hp) (K:Value→Hp→Prop):Prop :=
 Lh { C with n:=n } (Tp { C with n:=n } (Lh { C with n:=n } (QW { C with n:=n }))) c (fun e s' H'=>match e with
   | .normal | .ret=>match vg { C with n:=n } s' res with
    | some l=>Og (rI l) s' H' fun v _ wc=>K v wc
    | none=>False
   | _=>False) { env:=qI 0 args,bx:=[],nx:=0 } H
theorem QY (C:Cx) (n:Nat) (c:Code) (res:List ResultVar) (args:List Value) (H:Hp) (K:Value→Hp→Prop):Vx C n c res args H K=Xf C n c res args H K:=by
 unfold Vx;rw[AE,funext (AE { C with n:=n } (QW { C with n:=n }))]
 rfl
end Go.Sy
end
