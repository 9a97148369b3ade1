/- Part 'M11' of the proof (SyEq, SyOk5): lemmas, each with its own conditions in its own statement. -/
import Derived.Laws.StructEq
import Derived.Test.YtheokcjommfopaaGreatDoorM10
set_option maxRecDepth 20000
set_option maxHeartbeats 4000000
section
namespace Go.Sy
open Go.RowKit (Below)
section
variable {C:Cx} {B:Bs} {ρ:bk} {s:St} {H:Hp} {a:Act} {w:World} {P:Program}
theorem Lv {T:TypeId} {d:Nat} (h:P.underlying T=some .bool) (a b:Bool) (w:World):(Op.equalIn (d+1) T (.bool a) (.bool b)).run P w = .ok (a == b) w:=by
 simp only[Op.equalIn,Sem.run_bind,run_underlying h]
 rfl
theorem I9 {T e:TypeId} {d:Nat} (h:P.underlying T=some (.slice e)) (a:Option Addr) (n c n' c':Nat) (w:World):(Op.equalIn (d+1) T (.slice a n c) (.slice none n' c')).run P w = .ok a.isNone w:=by
 simp only[Op.equalIn,Sem.run_bind,run_underlying h]
 cases a<;>rfl
theorem AI {x:SV} {b:Bool} (h:UY x=some b) (ρ:bk):ga ρ x = .bool b:=by
 unfold UY at h;split at h
 ·simp only[Option.some.injEq]at h;subst h;rw[ga]
 ·simp only[Option.some.injEq]at h;subst h;rw[ga]
 ·cases h
theorem CC (ht:eH C) {e:Nat} {eq:TypeId→SV→SV→Option Bool} (he:∀T x y b,eq T x y=some b→∀(ρ:bk) (w:World),(Op.equalIn e T (ga ρ x) (ga ρ y)).run C.P w = .ok b w) (ρ:bk) (w:World):
  ∀ (fs : List Field) (xs ys : List SV) (b : Bool), (∀ f ∈ fs, f.name ≠ "_") → K5 C eq fs xs ys = some b → (Op.eqFields e (cE ρ xs).toArray (cE ρ ys).toArray fs).run C.P w = .ok b w
 | [],xs,ys,b,_,h=>by simp only[K5,Option.some.injEq]at h;subst h;rfl
 | f::r,xs,ys,b,hn,h=>by
  rw[K5]at h;split at h
  ·rename_i n cN;split at h
   ·rename_i x hx;split at h
    ·rename_i y hy;split at h
     ·rename_i p hp;split at h
      ·rename_i q hq;simp only[Option.some.injEq]at h;subst h;have ih:=CC ht he ρ w r xs ys q (fun g hg=>hn g (List.mem_cons_of_mem _ hg)) hq;rw[Op.eqFields,if_pos (hn f List.mem_cons_self)];simp only[Sem.run_bind,pR ht cN hx,pR ht cN hy,Result.andThen_ok,he _ _ _ _ hp]
       cases p with
       | true=>simpa using ih
       | false=>rfl
      ·cases h
     ·cases h
    ·cases h
   ·cases h
  ·cases h
theorem td {C:Cx} (ht:eH C) (ρ:bk) (w:World) (d:Nat) (T e:TypeId) (hT:C.P.underlying T=some (.array 2 e)) (hs:cL C e=some 1) (hg:kC C e=false) {k1 k2 k3 k4:IntKind} {a1 a2 b1 b2:Int} {p q:Bool}
  (hp:(Op.equalIn d e (.int k1 a1) (.int k3 b1)).run C.P w = .ok p w) (hq:(Op.equalIn d e (.int k2 a2) (.int k4 b2)).run C.P w = .ok q w):
  (Op.equalIn (d+1) T (.agg #[.int k1 a1,.int k2 a2]) (.agg #[.int k3 b1,.int k4 b2])).run C.P w = .ok (p&&q) w:=by
 rw[Op.equalIn];simp only[Sem.run_bind,run_underlying hT,Result.andThen_ok];have cN:(sizeOf e).run C.P w = .ok 1 w:=bW ht hs w
 have h0:∀(x1 x2:Int) (q1 q2:IntKind),(part e #[.int q1 x1,.int q2 x2] 0).run C.P w = .ok (.int q1 x1) w:=fun x1 x2 q1 q2=>by
  have:=pR (ρ:=ρ) ht hs (off:=0) (l:=[.v (.int q1 x1),.v (.int q2 x2)]) (r:=.v (.int q1 x1)) (by rw[hg];rfl) w
  simpa [cE,ga] using this
 have h1:∀(x1 x2:Int) (q1 q2:IntKind),(part e #[.int q1 x1,.int q2 x2] 1).run C.P w = .ok (.int q2 x2) w:=fun x1 x2 q1 q2=>by
  have:=pR (ρ:=ρ) ht hs (off:=1) (l:=[.v (.int q1 x1),.v (.int q2 x2)]) (r:=.v (.int q2 x2)) (by rw[hg];rfl) w
  simpa [cE,ga] using this
 rw[cN]
 cases p<;>cases q<;>simp [List.range',h0,h1,hp,hq]
theorem lu (ht:eH C):∀(d e:Nat),d≤e→∀T x y b,HB C d T x y=some b→∀(ρ:bk) (w:World),(Op.equalIn e T (ga ρ x) (ga ρ y)).run C.P w = .ok b w
 | 0,e,_,T,x,y,b,h,ρ,w=>by cases h
 | d+1,0,VC,T,x,y,b,h,ρ,w=>by omega
 | d+1,e+1,VC,T,x,y,b,h,ρ,w=>by
  rw[HB]at h;unfold oB at h;simp only at h;split at h
  ·rename_i i hT;have hu:=(ht _ _ _ hT).2;split at h
   ·rename_i p hp;split at h
    ·rename_i q hq;cases h;rw[AI hp,AI hq];exact Lv hu _ _ w
    ·cases h
   ·cases h
  ·rename_i i k0 hT;have hu:=(ht _ _ _ hT).2;split at h
   ·rename_i k n;split at h
    ·rename_i k' m
     cases hk:decide (k=k') with
     | false=>rw[hk]at h;cases h
     | true =>
      rw[hk]at h;cases h;obtain rfl:=of_decide_eq_true hk;rw[ga,ga,run_equalIn_int w e T k k0 n m hu]
      rfl
    ·cases h
   ·cases h
  ·rename_i i hT;have hu:=(ht _ _ _ hT).2;split at h
   ·split at h
    ·cases h;rw[ga,ga,run_equalIn_string w e T _ _ hu,s9,s9,HL]
    ·cases h
   ·cases h
  ·rename_i i e0 hT;have hu:=(ht _ _ _ hT).2;split at h
   ·split at h
    ·cases h;rw[ga,ga];exact I9 hu _ _ _ _ _ w
    ·cases h
   ·cases h
  ·rename_i i e0 hT;have hu:=(ht _ _ _ hT).2;split at h
   ·rename_i k off;split at h
    ·rename_i k' Cg;split at h
     ·rename_i n hn
      cases hq:(Nat.beq k k'&&Nat.beq off Cg) with
      | false=>rw[hq]at h;cases h
      | true =>
       rw[hq]at h;cases h;simp only[Bool.and_eq_true]at hq;obtain rfl:=bE hq.1;obtain rfl:=bE hq.2;rw[ga];simp [Op.equalIn,run_underlying hu,bW ht hn,sameAddr]
     ·cases h
    ·cases h;rw[ga,ga];simp [Op.equalIn,run_underlying hu]
    ·cases h
   ·split at h
    ·cases h;rw[ga];simp [Op.equalIn,run_underlying hu]
    ·cases h;rw[ga,ga];simp [Op.equalIn,run_underlying hu]
    ·cases h
   ·cases h
  ·rename_i i fs hT;have hu:=(ht _ _ _ hT).2
   cases hq:gp T C.eqs with
   | false=>rw[hq]at h;cases h
   | true =>
    rw[hq,cond_true]at h;obtain⟨g1,g2,g3⟩:=ht.eqs T hq;split at h
    ·rename_i xs hx;split at h
     ·rename_i ys hy;rw[(gH ρ hx).1,(gH ρ hy).1]
      have hf:C.P.fieldsOf T=fs:=by simp [Program.fieldsOf,hu]
      rw[run_equalIn_agg w e T _ _ (by rw[hf];exact hu) g1,hf];exact CC ht (fun T x y b h ρ w=>lu ht d e (by omega) T x y b h ρ w) ρ w fs.toList xs ys b (fun f hf=>g3 _ _ hT f (by simpa using hf)) h
     ·cases h
    ·cases h
  ·rename_i i m el hT;have hu:=(ht _ _ _ hT).2
   cases hq:(gp T C.eqs&&Nat.beq m 2&&!kC C el) with
   | false=>rw[hq]at h;cases h
   | true =>
    rw[hq,cond_true]at h;simp only[Bool.and_eq_true,Bool.not_eq_true']at hq;obtain⟨⟨Vs,E0⟩,VD⟩:=hq;have hm:m=2:=Nat.eq_of_beq_eq_true E0;subst hm;split at h
    ·split at h
     ·rename_i n hn
      cases dd:Nat.beq n 1 with
      | false=>rw[dd]at h;cases h
      | true =>
       rw[dd,cond_true]at h;have lv:n=1:=Nat.eq_of_beq_eq_true dd;subst lv;split at h
       ·rename_i k1 a1 k2 a2 hx;split at h
        ·rename_i k3 b1 k4 b2 hy;split at h
         ·rename_i p hp;split at h
          ·rename_i q hq;cases h;have g1:=lu ht d e (by omega) el _ _ p hp ρ w;have g2:=lu ht d e (by omega) el _ _ q hq ρ w;rw[(gH ρ hx).1,(gH ρ hy).1];exact td ht ρ w e T el hu hn VD (by simpa [ga] using g1) (by simpa [ga] using g2)
          ·cases h
         ·cases h
        ·cases h
       ·cases h
     ·cases h
    ·cases h
  ·cases h
theorem HS (ht:eH C) {T:TypeId} {x y:SV} {b:Bool} (h:eqv C T x y=some b) (ρ:bk) (w:World):(Op.equal T (ga ρ x) (ga ρ y)).run C.P w = .ok b w ∧
  (∀op X Y,(eqGuard op T X Y (ga ρ x) (ga ρ y)).run C.P w = .ok () w) ∧
  (∀op,Go.binOp op T (ga ρ x) (ga ρ y)=match op with
   | .eql=>(do pure (.bool (←Op.equal T (ga ρ x) (ga ρ y))))
   | .neq=>(do pure (.bool (!(←Op.equal T (ga ρ x) (ga ρ y)))))
   | op=>Go.binOp op T (ga ρ x) (ga ρ y)):=by
 unfold eqv at h;split at h
 ·rename_i i hT;refine⟨lu ht 1 10000 (by omega) T x y b h ρ w,?_⟩;rw[HB]at h;unfold oB at h;simp only at h;rw[hT]at h;simp only at h;split at h
  ·rename_i p hp;split at h
   ·rename_i q hq;rw[AI hp,AI hq]
    exact⟨fun op X Y=>by cases op<;>simp [eqGuard],fun op=>by cases op<;>rfl⟩
   ·cases h
  ·cases h
 ·rename_i i e hT;refine⟨lu ht 1 10000 (by omega) T x y b h ρ w,?_⟩;rw[HB]at h;unfold oB at h;simp only at h;rw[hT]at h;simp only at h;split at h
  ·split at h
   ·simp only[ga]
    exact⟨fun op X Y=>by cases op<;>simp [eqGuard],fun op=>by cases op<;>rfl⟩
   ·cases h
  ·cases h
 ·rename_i i e hT;refine⟨lu ht 1 10000 (by omega) T x y b h ρ w,?_⟩;rw[HB]at h;unfold oB at h;simp only at h;rw[hT]at h;simp only at h;split at h
  ·split at h
   ·simp only[ga]
    exact⟨fun op X Y=>by cases op<;>simp [eqGuard],fun op=>by cases op<;>rfl⟩
   ·simp only[ga]
    exact⟨fun op X Y=>by cases op<;>simp [eqGuard],fun op=>by cases op<;>rfl⟩
   ·cases h
  ·split at h
   ·simp only[ga]
    exact⟨fun op X Y=>by cases op<;>simp [eqGuard],fun op=>by cases op<;>rfl⟩
   ·simp only[ga]
    exact⟨fun op X Y=>by cases op<;>simp [eqGuard],fun op=>by cases op<;>rfl⟩
   ·cases h
  ·cases h
 ·rename_i i fs hT;refine⟨lu ht 8 10000 (by omega) T x y b h ρ w,?_⟩;rw[HB]at h;unfold oB at h;simp only at h;rw[hT]at h;simp only at h
  cases hq:gp T C.eqs with
  | false=>rw[hq]at h;cases h
  | true =>
   rw[hq,cond_true]at h;split at h
   ·rename_i xs hx;split at h
    ·rename_i ys hy;rw[(gH ρ hx).1,(gH ρ hy).1]
     exact⟨fun op X Y=>run_eqGuard_agg w op T X Y _ _ (ht.eqs T hq).2.1,fun op=>by cases op<;>rfl⟩
    ·cases h
   ·cases h
 ·rename_i i m el hT;refine⟨lu ht 8 10000 (by omega) T x y b h ρ w,?_⟩;rw[HB]at h;unfold oB at h;simp only at h;rw[hT]at h;simp only at h
  cases hq:(gp T C.eqs&&Nat.beq m 2&&!kC C el) with
  | false=>rw[hq]at h;cases h
  | true =>
   rw[hq,cond_true]at h;simp only[Bool.and_eq_true]at hq;split at h
   ·split at h
    ·rename_i n hn
     cases dd:Nat.beq n 1 with
     | false=>rw[dd]at h;cases h
     | true =>
      rw[dd,cond_true]at h;split at h
      ·rename_i k1 a1 k2 a2 hx;split at h
       ·rename_i k3 b1 k4 b2 hy;rw[(gH ρ hx).1,(gH ρ hy).1]
        exact⟨fun op X Y=>run_eqGuard_agg w op T X Y _ _ (ht.eqs T hq.1.1).2.1,fun op=>by cases op<;>rfl⟩
       ·cases h
      ·cases h
    ·cases h
   ·cases h
 ·cases h
theorem AJ (op:BinOp) (t:TypeId) (x y:Operand) (k k':FloatKind) (n m n' m':Nat) (w:World):(eqGuard op t x y (.complex k n m) (.complex k' n' m')).run P w = .ok () w:=by
 cases op<;>simp [eqGuard]
theorem Lw {op:BinOp} {k:FloatKind} {n m n' m':Nat} {K:SV→Prop} (xT:TypeId) (h:HC op k n m n' m' K) (w:World):
  ∃r,(Go.binOp op xT (.complex k n m) (.complex k n' m')).run P w = .ok r w∧K (.v r):=by
 unfold HC at h;split at h
 ·obtain⟨re,im,h1,h2⟩:=h;exact⟨_,run_complex_sum w .add (.inl rfl) xT k n m n' m' re im h1,h2⟩
 ·obtain⟨re,im,h1,h2⟩:=h;exact⟨_,run_complex_sum w .sub (.inr rfl) xT k n m n' m' re im h1,h2⟩
 ·obtain⟨rfl,re,im,h1,h2⟩:=h;exact⟨_,run_complex_mul w xT n m n' m' re im h1,h2⟩
 ·exact h.elim
theorem Lx (ht:eH C) {fb:Prop} {op:BinOp} {xT yT:TypeId} {x y:Operand} {T:TypeId} {K:KK} (h:bin C op xT (get s x) (get s y) fun r=>K r s H):lR C s (.binOp op xT x y yT) T H K∨fb:=by
 refine .inl fun B ρ o a w ho _ hr=>?_
 unfold bin at h;split at h
 ·rename_i k n hx;split at h
  ·rename_i k' m hy;have h1:=(ai hr hx).1;have h2:=(ai hr hy).1;rw[ga]at h1 h2
   have h3:∃r,(Go.binOp op xT (.int k n) (.int k' m)).run C.P w = .ok r w∧K (.v r) s H:=by
    split at h
    ·exact wo (K:=fun r=>K r s H) xT h (.inl rfl) w
    ·exact wo (K:=fun r=>K r s H) xT h (.inr (.inl rfl)) w
    ·cases hk:decide (k=k') with
     | false=>rw[hk]at h;exact h.elim
     | true=>rw[hk]at h;exact wo (K:=fun r=>K r s H) xT h (.inr (.inr (of_decide_eq_true hk))) w
   obtain⟨r,h4,h5⟩:=h3;refine⟨.v r,?_,h5,by rw[SV.lt]⟩;simp only[execOp,ho,h1,h2,Sem.run_bind,Cv,Result.andThen_ok,h4,ga]
   rfl
  ·exact h.elim
 ·rename_i n hx;split at h
  ·rename_i m hy;have h1:=(ai hr hx).1;have h2:=(ai hr hy).1;rw[ga]at h1 h2;obtain⟨r,h4,h5⟩:=Lk (K:=fun r=>K r s H) (P:=C.P) xT h w;refine⟨.v r,?_,h5,by rw[SV.lt]⟩;simp only[execOp,ho,h1,h2,Sem.run_bind,Cw,Result.andThen_ok,h4,ga]
   rfl
  ·exact h.elim
 ·rename_i k n m hx;split at h
  ·rename_i k' n' m' hy;obtain⟨rfl,h⟩:=h;have h1:=(ai hr hx).1;have h2:=(ai hr hy).1;rw[ga]at h1 h2;obtain⟨r,h4,h5⟩:=Lw (P:=C.P) xT h w;refine⟨.v r,?_,h5,by rw[SV.lt]⟩;simp only[execOp,ho,h1,h2,Sem.run_bind,AJ,Result.andThen_ok,h4,ga]
   rfl
  ·exact h.elim
 ·unfold UZ at h;split at h
  ·rename_i x' hx;split at h
   ·rename_i y' hy;split at h
    ·rename_i b hb;have h1:=(ai hr hx).1;have h2:=(ai hr hy).1;obtain⟨e1,e2,e3⟩:=HS ht hb ρ w;split at h
     ·refine⟨_,?_,h,by rw[bool,SV.lt]⟩;simp only[execOp,ho,h1,h2,Sem.run_bind,e2,Result.andThen_ok,e3,e1,ga,bool]
      rfl
     ·refine⟨_,?_,h,by rw[bool,SV.lt]⟩;simp only[execOp,ho,h1,h2,Sem.run_bind,e2,Result.andThen_ok,e3,e1,ga,bool]
      rfl
     ·exact h.elim
    ·exact h.elim
   ·exact h.elim
  ·exact h.elim
def HT (P:Program) (tt:TypeId→Option (TypeInfo×TypeDesc)) (T:TypeId):Bool :=
 !P.stoodInHeld T&&!P.eqGuardType P.depth T&&(match tt T with
  | some (_, .struct fs) => fs.toList.all fun f => f.name != "_"
  | _=>true)
theorem Ly {tt : TypeId → Option (TypeInfo × TypeDesc)} {l : List Nat} (h : l.all (HT P tt) = true) : ∀ T, gp T l = true → P.stoodInHeld T = false ∧ P.eqGuardType P.depth T = false ∧ ∀ i fs, tt T = some (i, .struct fs) → ∀ f ∈ fs, f.name ≠ "_" := by
 intro T hT
 have hm:T∈l:=by
  clear h
  induction l with
  | nil=>cases hT
  | cons k r ih =>
   rw[gp]at hT
   cases hk:Nat.beq k T with
   | true=>simp [bE hk]
   | false=>rw[hk]at hT;exact List.mem_cons_of_mem _ (ih hT)
 have:=List.all_eq_true.1 h T hm;simp only[HT,Bool.and_eq_true,Bool.not_eq_true']at this;refine⟨this.1.1,this.1.2,fun i fs ht f hf=>?_⟩;have h2:=this.2;rw[ht]at h2;have h3:=List.all_eq_true.1 h2 f (by simpa using hf)
 simpa using h3
end
end Go.Sy
end
section
namespace Go.Sy
open Go.RowKit (Below)
section
variable {C:Cx} {B:Bs} {ρ:bk} {s:St} {H:Hp} {a:Act} {w:World} {P:Program}
theorem wy (ht:eH C):∀ {l:List Field} {pl:List (Nat×Nat)},places C l=some pl →
  (l.mapM fun (f:Field)=>(do pure (f.offset,←sizeOf f.type):Sem (Nat×Nat))).run C.P w = .ok pl w
 | [],pl,h=>by
  simp only[places,Option.some.injEq]at h;subst h;simp
 | f::r,pl,h=>by
  simp only[places]at h;split at h
  ·rename_i n hn;split at h
   ·rename_i l hl;simp only[Option.some.injEq]at h;subst h;simp only[List.mapM_cons,Sem.run_bind,bW ht hn w,Result.andThen_ok,Sem.run_pure,wy ht hl]
   ·cases h
  ·cases h
theorem CD (ht:eH C) {fs:Array Field} {pl:List (Nat×Nat)} (h:places C fs.toList=some pl):
  (fs.mapM fun f=>(do pure (f.offset,←sizeOf f.type):Sem (Nat×Nat))).run C.P w = .ok pl.toArray w:=by
 rw[Array.mapM_eq_mapM_toList,Sem.run_map,wy ht h]
 rfl
theorem CE {fb:Prop} (ht:eH C) {T' T:TypeId} {ps:Array (Nat×Operand)} {K:KK} (h:s6 C T' ps.toList s fun r=>K r s H):lR C s (.build T' ps) T H K∨fb:=by
 unfold s6 at h;split at h
 ·exact h.elim
 ·rename_i z hz;split at h
  ·exact h.elim
  ·rename_i vs yr
   have aj:∀ {cs:List SV} {n:Nat} {B:Bs} {ρ:bk} {a:Act} {w:World} {place:Nat→Option (Nat×Nat)},kd place z vs=some cs→Rel C B ρ s H a w→SV.jW s.nx cs=true:=fun {cs n B ρ a w place} hf hr=>by
    obtain⟨v,_,_,h3⟩:=fV (w:=w) ht hz;exact HP _ _ _ hf (h3 _) (oE hr yr).2
   have oH:∀ {B:Bs} {ρ:bk} {a:Act} {w:World},Rel C B ρ s H a w→(ps.map fun (p:Nat×Operand)=>(p.1,a.eval p.2)).toList=vs.map (fun p=>(p.1,ga ρ p.2)):=fun {B ρ a w} hr=>by
    rw[Array.toList_map,(oE hr yr).1]
   split at h
   ·rename_i i0 fs hT;have hu:=(ht _ _ _ hT).2;split at h
    ·rename_i pl NX;split at h
     ·rename_i cs fB
      refine .inl fun B ρ o a w ho _ hr=>⟨_,?_,h,by rw[SV.lt];exact aj (n:=0) fB hr⟩
      obtain⟨v,h1,h2,_⟩:=fV (w:=w) ht hz;have hf:=rK ρ _ vs z cs fB;simp only[execOp,ho,Instr.build,Sem.run_bind,h1,Result.andThen_ok,run_underlying hu,CD ht NX,h2 ρ,oH hr,List.getElem?_toArray,hf,ga,Sem.run_pure]
     ·exact h.elim
    ·exact h.elim
   ·rename_i i0 len e hT;have hu:=(ht _ _ _ hT).2;split at h
    ·rename_i n hn;split at h
     ·rename_i cs fB
      refine .inl fun B ρ o a w ho _ hr=>⟨_,?_,h,by rw[SV.lt];exact aj (n:=0) fB hr⟩
      obtain⟨v,h1,h2,_⟩:=fV (w:=w) ht hz;have hf:=rK ρ _ vs z cs fB;simp only[execOp,ho,Instr.build,Sem.run_bind,h1,Result.andThen_ok,run_underlying hu,bW ht hn,h2 ρ,oH hr,hf,ga,Sem.run_pure]
     ·exact h.elim
    ·exact h.elim
   ·exact h.elim
theorem te (sz:Nat):∀(n:Nat) (l:List Value),l.length=n*sz→(s5 sz n l).flatten=l∧(s5 sz n l).length=n∧∀x∈s5 sz n l,x.length=sz∧∀u∈x,u∈l
 | 0,l,h=>by
  have:l=[]:=List.eq_nil_of_length_eq_zero (by simpa using h);subst this;simp [s5]
 | n+1,l,h=>by
  have h1:(l.drop sz).length=n*sz:=by rw[List.length_drop,h,Nat.add_mul];omega
  obtain⟨h2,h3,h4⟩:=te sz n _ h1;refine⟨by rw[s5,List.flatten_cons,h2,List.take_append_drop],by rw[s5,List.length_cons,h3],fun x hx=>?_⟩;rw[s5]at hx
  rcases List.mem_cons.1 hx with rfl | hx
  ·exact⟨by rw[List.length_take,h,Nat.add_mul];omega,fun u hu=>List.mem_of_mem_take hu⟩
  ·exact⟨(h4 x hx).1,fun u hu=>List.mem_of_mem_drop ((h4 x hx).2 u hu)⟩
theorem AK (ρ:bk) (z:List SV):∀n,cE ρ (rep n z)=((Array.range (n*z.length)).map fun i=>(cE ρ z).toArray[i % z.length]!).toList:=by
 intro n
 induction n with
 | zero=>simp [rep,cE]
 | succ n ih =>
  rw[rep];apply List.ext_getElem?;intro j;rw[cH,List.map_append,←cH,←cH,ih]
  have hl:(cE ρ z).length=z.length:=by rw[cH,List.length_map]
  by_cases hj:j<z.length
  ·rw[List.getElem?_append_left (by omega)]
   have h1:j<(n+1)*z.length:=by rw[Nat.add_mul];omega
   simp [h1,Nat.mod_eq_of_lt hj,hl,hj]
  ·rw[List.getElem?_append_right (by omega),hl];simp only[Array.getElem?_toList,Array.getElem?_map,Array.getElem?_range]
   by_cases h2:j<(n+1)*z.length
   ·have h3:j - z.length<n*z.length:=by rw[Nat.add_mul]at h2;omega
    simp only[h2,h3,if_true,Option.map_some];rw[Nat.mod_eq_sub_mod (a:=j) (by omega)]
   ·have h3:¬j - z.length<n*z.length:=by rw[Nat.add_mul]at h2;omega
    simp [h2,h3]
theorem wz {place:Nat→Option (Nat×Nat)}:∀(vs:List (Nat×SV)) (cells cs:List SV),kd place cells vs=some cs→cs.length=cells.length
 | [],cells,cs,h=>by
  simp only[kd,Option.some.injEq]at h
  subst h;rfl
 | (i,x)::r,cells,cs,h=>by
  simp only[kd]at h;split at h
  ·cases h
  ·rename_i off size hp
   cases h3:Nat.beq (cellsOf x).length size with
   | false=>rw[h3]at h;cases h
   | true =>
    rw[h3]at h;simp only[cond_true]at h
    cases h4:Nat.ble (off+size) cells.length with
    | false=>rw[h4]at h;cases h
    | true =>
     rw[h4]at h;simp only[cond_true]at h;have e1:=bE h3;have e2:=dp h4;rw[wz r _ cs h];simp [As];omega
theorem Rel.yW (hr:Rel C B ρ s H a w) {e:TypeId} {sz:Nat} {xs:List (List Value)} {w':World} {v:Option Addr×Nat×Nat} (h1:w'.os=w.os) (h2:w'.tape=w.tape) (h3:OD w w')
  (h4:w.heap.size≤w'.heap.size) (hb:∀g,g<w.heap.size→w'.heap[g]?=w.heap[g]?)
  (gG:w'.ownsRow 0 e sz (.slice v.1 v.2.1 v.2.2) xs.length xs.flatten) (yX:∀x∈xs,x.length=sz∧∀u∈x,u.oneCell'=true)
  (cR:∀g,(Value.slice v.1 v.2.1 v.2.2).ownBlock=some g→w.heap.size≤g):
  ∃ρ',Rel C B ρ' (s.new (.row e sz xs)) H a w'∧ga ρ' (.own s.nx) = .slice v.1 v.2.1 v.2.2:=by
 refine⟨ρ.set s.nx ((Value.slice v.1 v.2.1 v.2.2).ownBlock.getD 0) v,⟨hr.vA _ _,hr.sz,hr.defers,?_⟩,by rw[ga];simp [bk.val,bk.set]⟩;refine hr.mem.alloc h1 h2 h3 h4 hb rfl ?_ ?_
 ·refine⟨?_,yX,fun g hg=>?_⟩
  ·simpa [bk.val,bk.set] using gG
  ·simp only[bk.val,bk.set,if_true]at hg ⊢
   rw[hg];rfl
 ·intro g hg;simp only[br,bk.val,bk.set,if_true]at hg;exact cR g hg
theorem yt {fb:Prop} (ht:eH C) {T' T:TypeId} {len:Nat} {ps:Array (Nat×Operand)} {K:KK} (h:lr fb C T' len ps.toList s H K):bp C s (.buildSlice T' len ps) T H K∨fb:=by
 unfold lr at h;split at h
 ·exact h.elim
 ·rename_i e he;have hu:=ep ht he;split at h
  ·exact h.elim
  ·rename_i sz cN;split at h
   ·exact h.elim
   ·rename_i z hz;split at h
    ·exact h.elim
    ·rename_i vs yr;obtain⟨hle,h⟩:=dr h;simp only[Bool.and_eq_true]at hle;obtain⟨⟨hle,wA⟩,CF⟩:=hle;have hle:=dp hle;have wA:=dp wA;have CF:=bE CF;split at h
     ·rename_i cs fB;split at h
      ·rename_i l hl;refine .inl (dq fun B ρ o a w ho _ hr=>?_);obtain⟨v,h1,h2,h3⟩:=fV (w:=w) ht hz;have hf:=rK ρ _ vs _ cs fB
       have Fx:=(gE (ρ:=ρ) hl)
       rw[Fx.1]at hf
       have B1:l.length=len*sz:=by
        rw[←Fx.1,cH,List.length_map,wz _ _ _ fB];have:=congrArg List.length (AK ρ z len);rw[cH,List.length_map]at this
        rw[this,CF];simp
       obtain⟨c1,c2,c3⟩:=te sz len l B1
       have oH:(ps.map fun (p:Nat×Operand)=>(p.1,a.eval p.2)).toList=vs.map (fun p=>(p.1,ga ρ p.2)):=by
        rw[Array.toList_map,(oE hr yr).1]
       have Q7:(cE ρ (rep len z)).toArray=(Array.range (len*sz)).map fun i=>(cE ρ z).toArray[i % (cE ρ z).toArray.size]!:=by
        rw[AK,Array.toArray_toList];simp only[List.size_toArray,cH,List.length_map,CF]
       obtain⟨ρ',iX,hg⟩:=hr.yW (e:=e) (sz:=sz) (xs:=s5 sz len l) (w':=w.alloc (.cells l.toArray e)) (v:=(some ⟨w.heap.size,0,none⟩,len,len)) rfl rfl ⟨rfl,Nat.le_refl _⟩ (by simp) (fun g hg=>heap_alloc_old w _ g hg)
        (by
         rw[c1,c2];refine⟨B1,.inr ⟨w.heap.size,len,l.toArray,rfl,Nat.zero_le _,heap_alloc_new w _,Nat.le_refl _,?_,by simpa using B1,by show l.take (len*sz)=l;exact List.take_of_length_le (by omega)⟩⟩;have:len≤len*sz:=Nat.le_mul_of_pos_right len wA;simp only[maxLen]
         omega)
        (fun x hx=>⟨(c3 x hx).1,fun u hu=>Fx.2 u ((c3 x hx).2 u hu)⟩)
        (fun g hg=>by simp only[Value.ownBlock,Option.some.injEq]at hg;omega)
       refine⟨_,_,H,ρ',_,?_,h,iX,Le.refl H,?_⟩
       ·rw[hg];simp only[execOp,ho,Instr.buildSlice,Sem.run_bind,run_underlying hu,Result.andThen_ok,bW ht cN];rw[if_neg (by omega)]
        by_cases h0:len*sz=0
        ·have e1:len=0:=by rcases Nat.mul_eq_zero.1 h0 with h | h<;>omega
         subst e1;rw[if_pos h0]
         have e2:(Array.range (0*sz)).map (fun i=>(#[]:Array Value)[i % (#[]:Array Value).size]!)=(cE ρ (rep 0 z)).toArray:=by simp [rep,cE]
         simp only[Sem.run_pure,Result.andThen_ok,e2,oH,hf,Sem.run_bind,newRow,run_newObj]
         rfl
        ·rw[if_neg h0];simp only[Sem.run_bind,h1,Result.andThen_ok,Sem.run_pure,h2 ρ,oH,←Q7,hf,newRow,run_newObj]
         rfl
       ·rw[SV.lt];exact Nat.ble_eq_true_of_le (Nat.le_refl _)
      ·exact .inr h
     ·exact h.elim
end
end Go.Sy
end
