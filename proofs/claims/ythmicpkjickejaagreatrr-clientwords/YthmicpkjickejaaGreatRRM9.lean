/- Part 'M9' of the proof (SyEq, SyOk5): lemmas, each with its own conditions in its own statement. -/
import Derived.Laws.StructEq
import Derived.Test.YthmicpkjickejaaGreatRRM8
section
namespace Go.Sy
open Go.RowKit (Below)
section
variable {C:Cx} {B:Bs} {ρ:Rho} {s:St} {H:Hp} {a:Act} {w:World} {P:Program}
theorem eql_bool {T:TypeId} {d:Nat} (h:P.underlying T=some .bool) (a b:Bool) (w:World):(Op.equalIn (d+1) T (.bool a) (.bool b)).run P w = .ok (a == b) w:=by
 simp only[Op.equalIn,Sem.run_bind,run_underlying h]
 rfl
theorem eql_slice {T e:TypeId} {d:Nat} (h:P.underlying T=some (.slice e)) (a:Option Addr) (n c n' c':Nat) (w:World):(Op.equalIn (d+1) T (.slice a n c) (.slice none n' c')).run P w = .ok a.isNone w:=by
 simp only[Op.equalIn,Sem.run_bind,run_underlying h]
 cases a<;>rfl
theorem asB_ga {x:SV} {b:Bool} (h:asB x=some b) (ρ:Rho):ga ρ x = .bool b:=by
 unfold asB at h;split at h
 ·simp only[Option.some.injEq]at h;subst h;rw[ga]
 ·simp only[Option.some.injEq]at h;subst h;rw[ga]
 ·cases h
theorem eqFs_run (ht:TOK C) {e:Nat} {eq:TypeId→SV→SV→Option Bool} (he:∀T x y b,eq T x y=some b→∀(ρ:Rho) (w:World),(Op.equalIn e T (ga ρ x) (ga ρ y)).run C.P w = .ok b w) (ρ:Rho) (w:World):
  ∀ (fs : List Field) (xs ys : List SV) (b : Bool), (∀ f ∈ fs, f.name ≠ "_") → eqFs C eq fs xs ys = some b → (Op.eqFields e (gas ρ xs).toArray (gas ρ ys).toArray fs).run C.P w = .ok b w
 | [],xs,ys,b,_,h=>by simp only[eqFs,Option.some.injEq]at h;subst h;rfl
 | f::r,xs,ys,b,hn,h=>by
  rw[eqFs]at h;split at h
  ·rename_i n hsz;split at h
   ·rename_i x hx;split at h
    ·rename_i y hy;split at h
     ·rename_i p hp;split at h
      ·rename_i q hq;simp only[Option.some.injEq]at h;subst h;have ih:=eqFs_run ht he ρ w r xs ys q (fun g hg=>hn g (List.mem_cons_of_mem _ hg)) hq;rw[Op.eqFields,if_pos (hn f List.mem_cons_self)];simp only[Sem.run_bind,part_ok ht hsz hx,part_ok ht hsz hy,Result.andThen_ok,he _ _ _ _ hp]
       cases p with
       | true=>simpa using ih
       | false=>rfl
      ·cases h
     ·cases h
    ·cases h
   ·cases h
  ·cases h
theorem run_equalIn_arr2 {C:Cx} (ht:TOK C) (ρ:Rho) (w:World) (d:Nat) (T e:TypeId) (hT:C.P.underlying T=some (.array 2 e)) (hs:tsize C e=some 1) (hg:tagg C e=false) {k1 k2 k3 k4:IntKind} {a1 a2 b1 b2:Int} {p q:Bool}
  (hp:(Op.equalIn d e (.int k1 a1) (.int k3 b1)).run C.P w = .ok p w) (hq:(Op.equalIn d e (.int k2 a2) (.int k4 b2)).run C.P w = .ok q w):
  (Op.equalIn (d+1) T (.agg #[.int k1 a1,.int k2 a2]) (.agg #[.int k3 b1,.int k4 b2])).run C.P w = .ok (p&&q) w:=by
 rw[Op.equalIn];simp only[Sem.run_bind,run_underlying hT,Result.andThen_ok];have hsz:(sizeOf e).run C.P w = .ok 1 w:=tsize_ok ht hs w
 have h0:∀(x1 x2:Int) (q1 q2:IntKind),(part e #[.int q1 x1,.int q2 x2] 0).run C.P w = .ok (.int q1 x1) w:=fun x1 x2 q1 q2=>by
  have:=part_ok (ρ:=ρ) ht hs (off:=0) (l:=[.v (.int q1 x1),.v (.int q2 x2)]) (r:=.v (.int q1 x1)) (by rw[hg];rfl) w
  simpa [gas,ga] using this
 have h1:∀(x1 x2:Int) (q1 q2:IntKind),(part e #[.int q1 x1,.int q2 x2] 1).run C.P w = .ok (.int q2 x2) w:=fun x1 x2 q1 q2=>by
  have:=part_ok (ρ:=ρ) ht hs (off:=1) (l:=[.v (.int q1 x1),.v (.int q2 x2)]) (r:=.v (.int q2 x2)) (by rw[hg];rfl) w
  simpa [gas,ga] using this
 rw[hsz]
 cases p<;>cases q<;>simp [List.range',h0,h1,hp,hq]
theorem eqT_run (ht:TOK C):∀(d e:Nat),d≤e→∀T x y b,eqT C d T x y=some b→∀(ρ:Rho) (w:World),(Op.equalIn e T (ga ρ x) (ga ρ y)).run C.P w = .ok b w
 | 0,e,_,T,x,y,b,h,ρ,w=>by cases h
 | d+1,0,hde,T,x,y,b,h,ρ,w=>by omega
 | d+1,e+1,hde,T,x,y,b,h,ρ,w=>by
  rw[eqT]at h;unfold eqStep at h;simp only at h;split at h
  ·rename_i i hT;have hu:=(ht _ _ _ hT).2;split at h
   ·rename_i p hp;split at h
    ·rename_i q hq;cases h;rw[asB_ga hp,asB_ga hq];exact eql_bool hu _ _ w
    ·cases h
   ·cases h
  ·rename_i i k0 hT;have hu:=(ht _ _ _ hT).2;split at h
   ·rename_i k n;split at h
    ·rename_i k' m
     cases hk:decide (k=k') with
     | false=>rw[hk]at h;cases h
     | true =>
      rw[hk]at h;cases h;obtain rfl:=of_decide_eq_true hk;rw[ga,ga,run_equalIn_int w e T k k0 n m hu]
      rfl
    ·cases h
   ·cases h
  ·rename_i i hT;have hu:=(ht _ _ _ hT).2;split at h
   ·split at h
    ·cases h;rw[ga,ga,run_equalIn_string w e T _ _ hu,toList_sl,toList_sl,beq_dec]
    ·cases h
   ·cases h
  ·rename_i i e0 hT;have hu:=(ht _ _ _ hT).2;split at h
   ·split at h
    ·cases h;rw[ga,ga];exact eql_slice hu _ _ _ _ _ w
    ·cases h
   ·cases h
  ·rename_i i e0 hT;have hu:=(ht _ _ _ hT).2;split at h
   ·rename_i k off;split at h
    ·rename_i k' off';split at h
     ·rename_i n hn
      cases hq:(Nat.beq k k'&&Nat.beq off off') with
      | false=>rw[hq]at h;cases h
      | true =>
       rw[hq]at h;cases h;simp only[Bool.and_eq_true]at hq;obtain rfl:=beq_t hq.1;obtain rfl:=beq_t hq.2;rw[ga];simp [Op.equalIn,run_underlying hu,tsize_ok ht hn,sameAddr]
     ·cases h
    ·cases h;rw[ga,ga];simp [Op.equalIn,run_underlying hu]
    ·cases h
   ·split at h
    ·cases h;rw[ga];simp [Op.equalIn,run_underlying hu]
    ·cases h;rw[ga,ga];simp [Op.equalIn,run_underlying hu]
    ·cases h
   ·cases h
  ·rename_i i fs hT;have hu:=(ht _ _ _ hT).2
   cases hq:hasN T C.eqs with
   | false=>rw[hq]at h;cases h
   | true =>
    rw[hq,cond_true]at h;obtain⟨g1,g2,g3⟩:=ht.eqs T hq;split at h
    ·rename_i xs hx;split at h
     ·rename_i ys hy;rw[(aggOf_ga ρ hx).1,(aggOf_ga ρ hy).1]
      have hf:C.P.fieldsOf T=fs:=by simp [Program.fieldsOf,hu]
      rw[run_equalIn_agg w e T _ _ (by rw[hf];exact hu) g1,hf];exact eqFs_run ht (fun T x y b h ρ w=>eqT_run ht d e (by omega) T x y b h ρ w) ρ w fs.toList xs ys b (fun f hf=>g3 _ _ hT f (by simpa using hf)) h
     ·cases h
    ·cases h
  ·rename_i i m el hT;have hu:=(ht _ _ _ hT).2
   cases hq:(hasN T C.eqs&&Nat.beq m 2&&!tagg C el) with
   | false=>rw[hq]at h;cases h
   | true =>
    rw[hq,cond_true]at h;simp only[Bool.and_eq_true,Bool.not_eq_true']at hq;obtain⟨⟨hq1,hq2⟩,hq3⟩:=hq;have hm:m=2:=Nat.eq_of_beq_eq_true hq2;subst hm;split at h
    ·split at h
     ·rename_i n hn
      cases hn1:Nat.beq n 1 with
      | false=>rw[hn1]at h;cases h
      | true =>
       rw[hn1,cond_true]at h;have hn2:n=1:=Nat.eq_of_beq_eq_true hn1;subst hn2;split at h
       ·rename_i k1 a1 k2 a2 hx;split at h
        ·rename_i k3 b1 k4 b2 hy;split at h
         ·rename_i p hp;split at h
          ·rename_i q hq;cases h;have g1:=eqT_run ht d e (by omega) el _ _ p hp ρ w;have g2:=eqT_run ht d e (by omega) el _ _ q hq ρ w;rw[(aggOf_ga ρ hx).1,(aggOf_ga ρ hy).1];exact run_equalIn_arr2 ht ρ w e T el hu hn hq3 (by simpa [ga] using g1) (by simpa [ga] using g2)
          ·cases h
         ·cases h
        ·cases h
       ·cases h
     ·cases h
    ·cases h
  ·cases h
theorem eqv_run (ht:TOK C) {T:TypeId} {x y:SV} {b:Bool} (h:eqv C T x y=some b) (ρ:Rho) (w:World):(Op.equal T (ga ρ x) (ga ρ y)).run C.P w = .ok b w ∧
  (∀op X Y,(eqGuard op T X Y (ga ρ x) (ga ρ y)).run C.P w = .ok () w) ∧
  (∀op,Go.binOp op T (ga ρ x) (ga ρ y)=match op with
   | .eql=>(do pure (.bool (←Op.equal T (ga ρ x) (ga ρ y))))
   | .neq=>(do pure (.bool (!(←Op.equal T (ga ρ x) (ga ρ y)))))
   | op=>Go.binOp op T (ga ρ x) (ga ρ y)):=by
 unfold eqv at h;split at h
 ·rename_i i hT;refine⟨eqT_run ht 1 10000 (by omega) T x y b h ρ w,?_⟩;rw[eqT]at h;unfold eqStep at h;simp only at h;rw[hT]at h;simp only at h;split at h
  ·rename_i p hp;split at h
   ·rename_i q hq;rw[asB_ga hp,asB_ga hq]
    exact⟨fun op X Y=>by cases op<;>simp [eqGuard],fun op=>by cases op<;>rfl⟩
   ·cases h
  ·cases h
 ·rename_i i e hT;refine⟨eqT_run ht 1 10000 (by omega) T x y b h ρ w,?_⟩;rw[eqT]at h;unfold eqStep at h;simp only at h;rw[hT]at h;simp only at h;split at h
  ·split at h
   ·simp only[ga]
    exact⟨fun op X Y=>by cases op<;>simp [eqGuard],fun op=>by cases op<;>rfl⟩
   ·cases h
  ·cases h
 ·rename_i i e hT;refine⟨eqT_run ht 1 10000 (by omega) T x y b h ρ w,?_⟩;rw[eqT]at h;unfold eqStep at h;simp only at h;rw[hT]at h;simp only at h;split at h
  ·split at h
   ·simp only[ga]
    exact⟨fun op X Y=>by cases op<;>simp [eqGuard],fun op=>by cases op<;>rfl⟩
   ·simp only[ga]
    exact⟨fun op X Y=>by cases op<;>simp [eqGuard],fun op=>by cases op<;>rfl⟩
   ·cases h
  ·split at h
   ·simp only[ga]
    exact⟨fun op X Y=>by cases op<;>simp [eqGuard],fun op=>by cases op<;>rfl⟩
   ·simp only[ga]
    exact⟨fun op X Y=>by cases op<;>simp [eqGuard],fun op=>by cases op<;>rfl⟩
   ·cases h
  ·cases h
 ·rename_i i fs hT;refine⟨eqT_run ht 8 10000 (by omega) T x y b h ρ w,?_⟩;rw[eqT]at h;unfold eqStep at h;simp only at h;rw[hT]at h;simp only at h
  cases hq:hasN T C.eqs with
  | false=>rw[hq]at h;cases h
  | true =>
   rw[hq,cond_true]at h;split at h
   ·rename_i xs hx;split at h
    ·rename_i ys hy;rw[(aggOf_ga ρ hx).1,(aggOf_ga ρ hy).1]
     exact⟨fun op X Y=>run_eqGuard_agg w op T X Y _ _ (ht.eqs T hq).2.1,fun op=>by cases op<;>rfl⟩
    ·cases h
   ·cases h
 ·rename_i i m el hT;refine⟨eqT_run ht 8 10000 (by omega) T x y b h ρ w,?_⟩;rw[eqT]at h;unfold eqStep at h;simp only at h;rw[hT]at h;simp only at h
  cases hq:(hasN T C.eqs&&Nat.beq m 2&&!tagg C el) with
  | false=>rw[hq]at h;cases h
  | true =>
   rw[hq,cond_true]at h;simp only[Bool.and_eq_true]at hq;split at h
   ·split at h
    ·rename_i n hn
     cases hn1:Nat.beq n 1 with
     | false=>rw[hn1]at h;cases h
     | true =>
      rw[hn1,cond_true]at h;split at h
      ·rename_i k1 a1 k2 a2 hx;split at h
       ·rename_i k3 b1 k4 b2 hy;rw[(aggOf_ga ρ hx).1,(aggOf_ga ρ hy).1]
        exact⟨fun op X Y=>run_eqGuard_agg w op T X Y _ _ (ht.eqs T hq.1.1).2.1,fun op=>by cases op<;>rfl⟩
       ·cases h
      ·cases h
    ·cases h
   ·cases h
 ·cases h
theorem eqGuard_cplx (op:BinOp) (t:TypeId) (x y:Operand) (k k':FloatKind) (n m n' m':Nat) (w:World):(eqGuard op t x y (.complex k n m) (.complex k' n' m')).run P w = .ok () w:=by
 cases op<;>simp [eqGuard]
theorem cplx_run {op:BinOp} {k:FloatKind} {n m n' m':Nat} {K:SV→Prop} (xT:TypeId) (h:cplxE op k n m n' m' K) (w:World):
  ∃r,(Go.binOp op xT (.complex k n m) (.complex k n' m')).run P w = .ok r w∧K (.v r):=by
 unfold cplxE at h;split at h
 ·obtain⟨re,im,h1,h2⟩:=h;exact⟨_,run_complex_sum w .add (.inl rfl) xT k n m n' m' re im h1,h2⟩
 ·obtain⟨re,im,h1,h2⟩:=h;exact⟨_,run_complex_sum w .sub (.inr rfl) xT k n m n' m' re im h1,h2⟩
 ·obtain⟨rfl,re,im,h1,h2⟩:=h;exact⟨_,run_complex_mul w xT n m n' m' re im h1,h2⟩
 ·exact h.elim
theorem ok_bin (ht:TOK C) {fb:Prop} {op:BinOp} {xT yT:TypeId} {x y:Operand} {T:TypeId} {K:KK} (h:bin C op xT (get s x) (get s y) fun r=>K r s H):RawP C s (.binOp op xT x y yT) T H K∨fb:=by
 refine .inl fun B ρ o a w ho _ hr=>?_
 unfold bin at h;split at h
 ·rename_i k n hx;split at h
  ·rename_i k' m hy;have h1:=(eval_get hr hx).1;have h2:=(eval_get hr hy).1;rw[ga]at h1 h2
   have h3:∃r,(Go.binOp op xT (.int k n) (.int k' m)).run C.P w = .ok r w∧K (.v r) s H:=by
    split at h
    ·exact binI_run (K:=fun r=>K r s H) xT h (.inl rfl) w
    ·exact binI_run (K:=fun r=>K r s H) xT h (.inr (.inl rfl)) w
    ·cases hk:decide (k=k') with
     | false=>rw[hk]at h;exact h.elim
     | true=>rw[hk]at h;exact binI_run (K:=fun r=>K r s H) xT h (.inr (.inr (of_decide_eq_true hk))) w
   obtain⟨r,h4,h5⟩:=h3;refine⟨.v r,?_,h5,by rw[SV.lt]⟩;simp only[execOp,ho,h1,h2,Sem.run_bind,eqGuard_int,Result.andThen_ok,h4,ga]
   rfl
  ·exact h.elim
 ·rename_i n hx;split at h
  ·rename_i m hy;have h1:=(eval_get hr hx).1;have h2:=(eval_get hr hy).1;rw[ga]at h1 h2;obtain⟨r,h4,h5⟩:=binS_run (K:=fun r=>K r s H) (P:=C.P) xT h w;refine⟨.v r,?_,h5,by rw[SV.lt]⟩;simp only[execOp,ho,h1,h2,Sem.run_bind,eqGuard_str,Result.andThen_ok,h4,ga]
   rfl
  ·exact h.elim
 ·rename_i k n m hx;split at h
  ·rename_i k' n' m' hy;obtain⟨rfl,h⟩:=h;have h1:=(eval_get hr hx).1;have h2:=(eval_get hr hy).1;rw[ga]at h1 h2;obtain⟨r,h4,h5⟩:=cplx_run (P:=C.P) xT h w;refine⟨.v r,?_,h5,by rw[SV.lt]⟩;simp only[execOp,ho,h1,h2,Sem.run_bind,eqGuard_cplx,Result.andThen_ok,h4,ga]
   rfl
  ·exact h.elim
 ·unfold eqE at h;split at h
  ·rename_i x' hx;split at h
   ·rename_i y' hy;split at h
    ·rename_i b hb;have h1:=(eval_get hr hx).1;have h2:=(eval_get hr hy).1;obtain⟨e1,e2,e3⟩:=eqv_run ht hb ρ w;split at h
     ·refine⟨_,?_,h,by rw[bool,SV.lt]⟩;simp only[execOp,ho,h1,h2,Sem.run_bind,e2,Result.andThen_ok,e3,e1,ga,bool]
      rfl
     ·refine⟨_,?_,h,by rw[bool,SV.lt]⟩;simp only[execOp,ho,h1,h2,Sem.run_bind,e2,Result.andThen_ok,e3,e1,ga,bool]
      rfl
     ·exact h.elim
    ·exact h.elim
   ·exact h.elim
  ·exact h.elim
def eqCheck (P:Program) (tt:TypeId→Option (TypeInfo×TypeDesc)) (T:TypeId):Bool :=
 !P.stoodInHeld T&&!P.eqGuardType P.depth T&&(match tt T with
  | some (_, .struct fs) => fs.toList.all fun f => f.name != "_"
  | _=>true)
theorem eqs_of {tt : TypeId → Option (TypeInfo × TypeDesc)} {l : List Nat} (h : l.all (eqCheck P tt) = true) : ∀ T, hasN T l = true → P.stoodInHeld T = false ∧ P.eqGuardType P.depth T = false ∧ ∀ i fs, tt T = some (i, .struct fs) → ∀ f ∈ fs, f.name ≠ "_" := by
 intro T hT
 have hm:T∈l:=by
  clear h
  induction l with
  | nil=>cases hT
  | cons k r ih =>
   rw[hasN]at hT
   cases hk:Nat.beq k T with
   | true=>simp [beq_t hk]
   | false=>rw[hk]at hT;exact List.mem_cons_of_mem _ (ih hT)
 have:=List.all_eq_true.1 h T hm;simp only[eqCheck,Bool.and_eq_true,Bool.not_eq_true']at this;refine⟨this.1.1,this.1.2,fun i fs ht f hf=>?_⟩;have h2:=this.2;rw[ht]at h2;have h3:=List.all_eq_true.1 h2 f (by simpa using hf)
 simpa using h3
end
end Go.Sy
end
section
namespace Go.Sy
open Go.RowKit (Below)
section
variable {C:Cx} {B:Bs} {ρ:Rho} {s:St} {H:Hp} {a:Act} {w:World} {P:Program}
theorem places_run (ht:TOK C):∀ {l:List Field} {pl:List (Nat×Nat)},places C l=some pl →
  (l.mapM fun (f:Field)=>(do pure (f.offset,←sizeOf f.type):Sem (Nat×Nat))).run C.P w = .ok pl w
 | [],pl,h=>by
  simp only[places,Option.some.injEq]at h;subst h;simp
 | f::r,pl,h=>by
  simp only[places]at h;split at h
  ·rename_i n hn;split at h
   ·rename_i l hl;simp only[Option.some.injEq]at h;subst h;simp only[List.mapM_cons,Sem.run_bind,tsize_ok ht hn w,Result.andThen_ok,Sem.run_pure,places_run ht hl]
   ·cases h
  ·cases h
theorem mapM_places (ht:TOK C) {fs:Array Field} {pl:List (Nat×Nat)} (h:places C fs.toList=some pl):
  (fs.mapM fun f=>(do pure (f.offset,←sizeOf f.type):Sem (Nat×Nat))).run C.P w = .ok pl.toArray w:=by
 rw[Array.mapM_eq_mapM_toList,Sem.run_map,places_run ht h]
 rfl
theorem ok_build {fb:Prop} (ht:TOK C) {T' T:TypeId} {ps:Array (Nat×Operand)} {K:KK} (h:buildE C T' ps.toList s fun r=>K r s H):RawP C s (.build T' ps) T H K∨fb:=by
 unfold buildE at h;split at h
 ·exact h.elim
 ·rename_i z hz;split at h
  ·exact h.elim
  ·rename_i vs hvs
   have hlt:∀ {cs:List SV} {n:Nat} {B:Bs} {ρ:Rho} {a:Act} {w:World} {place:Nat→Option (Nat×Nat)},fillE place z vs=some cs→Rel C B ρ s H a w→SV.lts s.nx cs=true:=fun {cs n B ρ a w place} hf hr=>by
    obtain⟨v,_,_,h3⟩:=zeroCells_ok (w:=w) ht hz;exact fill_lt _ _ _ hf (h3 _) (getPs_ok hr hvs).2
   have hparts:∀ {B:Bs} {ρ:Rho} {a:Act} {w:World},Rel C B ρ s H a w→(ps.map fun (p:Nat×Operand)=>(p.1,a.eval p.2)).toList=vs.map (fun p=>(p.1,ga ρ p.2)):=fun {B ρ a w} hr=>by
    rw[Array.toList_map,(getPs_ok hr hvs).1]
   split at h
   ·rename_i i0 fs hT;have hu:=(ht _ _ _ hT).2;split at h
    ·rename_i pl hpl;split at h
     ·rename_i cs hcs
      refine .inl fun B ρ o a w ho _ hr=>⟨_,?_,h,by rw[SV.lt];exact hlt (n:=0) hcs hr⟩
      obtain⟨v,h1,h2,_⟩:=zeroCells_ok (w:=w) ht hz;have hf:=fill_ok ρ _ vs z cs hcs;simp only[execOp,ho,Instr.build,Sem.run_bind,h1,Result.andThen_ok,run_underlying hu,mapM_places ht hpl,h2 ρ,hparts hr,List.getElem?_toArray,hf,ga,Sem.run_pure]
     ·exact h.elim
    ·exact h.elim
   ·rename_i i0 len e hT;have hu:=(ht _ _ _ hT).2;split at h
    ·rename_i n hn;split at h
     ·rename_i cs hcs
      refine .inl fun B ρ o a w ho _ hr=>⟨_,?_,h,by rw[SV.lt];exact hlt (n:=0) hcs hr⟩
      obtain⟨v,h1,h2,_⟩:=zeroCells_ok (w:=w) ht hz;have hf:=fill_ok ρ _ vs z cs hcs;simp only[execOp,ho,Instr.build,Sem.run_bind,h1,Result.andThen_ok,run_underlying hu,tsize_ok ht hn,h2 ρ,hparts hr,hf,ga,Sem.run_pure]
     ·exact h.elim
    ·exact h.elim
   ·exact h.elim
theorem chop_flat (sz:Nat):∀(n:Nat) (l:List Value),l.length=n*sz→(chop sz n l).flatten=l∧(chop sz n l).length=n∧∀x∈chop sz n l,x.length=sz∧∀u∈x,u∈l
 | 0,l,h=>by
  have:l=[]:=List.eq_nil_of_length_eq_zero (by simpa using h);subst this;simp [chop]
 | n+1,l,h=>by
  have h1:(l.drop sz).length=n*sz:=by rw[List.length_drop,h,Nat.add_mul];omega
  obtain⟨h2,h3,h4⟩:=chop_flat sz n _ h1;refine⟨by rw[chop,List.flatten_cons,h2,List.take_append_drop],by rw[chop,List.length_cons,h3],fun x hx=>?_⟩;rw[chop]at hx
  rcases List.mem_cons.1 hx with rfl | hx
  ·exact⟨by rw[List.length_take,h,Nat.add_mul];omega,fun u hu=>List.mem_of_mem_take hu⟩
  ·exact⟨(h4 x hx).1,fun u hu=>List.mem_of_mem_drop ((h4 x hx).2 u hu)⟩
theorem rep_ga (ρ:Rho) (z:List SV):∀n,gas ρ (rep n z)=((Array.range (n*z.length)).map fun i=>(gas ρ z).toArray[i % z.length]!).toList:=by
 intro n
 induction n with
 | zero=>simp [rep,gas]
 | succ n ih =>
  rw[rep];apply List.ext_getElem?;intro j;rw[gas_eq,List.map_append,←gas_eq,←gas_eq,ih]
  have hl:(gas ρ z).length=z.length:=by rw[gas_eq,List.length_map]
  by_cases hj:j<z.length
  ·rw[List.getElem?_append_left (by omega)]
   have h1:j<(n+1)*z.length:=by rw[Nat.add_mul];omega
   simp [h1,Nat.mod_eq_of_lt hj,hl,hj]
  ·rw[List.getElem?_append_right (by omega),hl];simp only[Array.getElem?_toList,Array.getElem?_map,Array.getElem?_range]
   by_cases h2:j<(n+1)*z.length
   ·have h3:j - z.length<n*z.length:=by rw[Nat.add_mul]at h2;omega
    simp only[h2,h3,if_true,Option.map_some];rw[Nat.mod_eq_sub_mod (a:=j) (by omega)]
   ·have h3:¬j - z.length<n*z.length:=by rw[Nat.add_mul]at h2;omega
    simp [h2,h3]
theorem fill_len {place:Nat→Option (Nat×Nat)}:∀(vs:List (Nat×SV)) (cells cs:List SV),fillE place cells vs=some cs→cs.length=cells.length
 | [],cells,cs,h=>by
  simp only[fillE,Option.some.injEq]at h
  subst h;rfl
 | (i,x)::r,cells,cs,h=>by
  simp only[fillE]at h;split at h
  ·cases h
  ·rename_i off size hp
   cases h3:Nat.beq (cellsOf x).length size with
   | false=>rw[h3]at h;cases h
   | true =>
    rw[h3]at h;simp only[cond_true]at h
    cases h4:Nat.ble (off+size) cells.length with
    | false=>rw[h4]at h;cases h
    | true =>
     rw[h4]at h;simp only[cond_true]at h;have e1:=beq_t h3;have e2:=ble_t h4;rw[fill_len r _ cs h];simp [put1];omega
theorem Rel.rowed (hr:Rel C B ρ s H a w) {e:TypeId} {sz:Nat} {xs:List (List Value)} {w':World} {v:Option Addr×Nat×Nat} (h1:w'.os=w.os) (h2:w'.tape=w.tape) (h3:OD w w')
  (h4:w.heap.size≤w'.heap.size) (hb:∀g,g<w.heap.size→w'.heap[g]?=w.heap[g]?)
  (hown:w'.ownsRow 0 e sz (.slice v.1 v.2.1 v.2.2) xs.length xs.flatten) (hxs:∀x∈xs,x.length=sz∧∀u∈x,u.oneCell'=true)
  (hnew:∀g,(Value.slice v.1 v.2.1 v.2.2).ownBlock=some g→w.heap.size≤g):
  ∃ρ',Rel C B ρ' (s.new (.row e sz xs)) H a w'∧ga ρ' (.own s.nx) = .slice v.1 v.2.1 v.2.2:=by
 refine⟨ρ.set s.nx ((Value.slice v.1 v.2.1 v.2.2).ownBlock.getD 0) v,⟨hr.env_new _ _,hr.sz,hr.defers,?_⟩,by rw[ga];simp [Rho.val,Rho.set]⟩;refine hr.mem.alloc h1 h2 h3 h4 hb rfl ?_ ?_
 ·refine⟨?_,hxs,fun g hg=>?_⟩
  ·simpa [Rho.val,Rho.set] using hown
  ·simp only[Rho.val,Rho.set,if_true]at hg ⊢
   rw[hg];rfl
 ·intro g hg;simp only[Owns,Rho.val,Rho.set,if_true]at hg;exact hnew g hg
theorem ok_buildSlice {fb:Prop} (ht:TOK C) {T' T:TypeId} {len:Nat} {ps:Array (Nat×Operand)} {K:KK} (h:buildSliceE fb C T' len ps.toList s H K):RawOp C s (.buildSlice T' len ps) T H K∨fb:=by
 unfold buildSliceE at h;split at h
 ·exact h.elim
 ·rename_i e he;have hu:=telem_ok ht he;split at h
  ·exact h.elim
  ·rename_i sz hsz;split at h
   ·exact h.elim
   ·rename_i z hz;split at h
    ·exact h.elim
    ·rename_i vs hvs;obtain⟨hle,h⟩:=bif_f h;simp only[Bool.and_eq_true]at hle;obtain⟨⟨hle,hsz1⟩,hzl⟩:=hle;have hle:=ble_t hle;have hsz1:=ble_t hsz1;have hzl:=beq_t hzl;split at h
     ·rename_i cs hcs;split at h
      ·rename_i l hl;refine .inl (raw_val fun B ρ o a w ho _ hr=>?_);obtain⟨v,h1,h2,h3⟩:=zeroCells_ok (w:=w) ht hz;have hf:=fill_ok ρ _ vs _ cs hcs
       have hgas:=(vals_gas (ρ:=ρ) hl)
       rw[hgas.1]at hf
       have hll:l.length=len*sz:=by
        rw[←hgas.1,gas_eq,List.length_map,fill_len _ _ _ hcs];have:=congrArg List.length (rep_ga ρ z len);rw[gas_eq,List.length_map]at this
        rw[this,hzl];simp
       obtain⟨c1,c2,c3⟩:=chop_flat sz len l hll
       have hparts:(ps.map fun (p:Nat×Operand)=>(p.1,a.eval p.2)).toList=vs.map (fun p=>(p.1,ga ρ p.2)):=by
        rw[Array.toList_map,(getPs_ok hr hvs).1]
       have hrep:(gas ρ (rep len z)).toArray=(Array.range (len*sz)).map fun i=>(gas ρ z).toArray[i % (gas ρ z).toArray.size]!:=by
        rw[rep_ga,Array.toArray_toList];simp only[List.size_toArray,gas_eq,List.length_map,hzl]
       obtain⟨ρ',hr',hg⟩:=hr.rowed (e:=e) (sz:=sz) (xs:=chop sz len l) (w':=w.alloc (.cells l.toArray e)) (v:=(some ⟨w.heap.size,0,none⟩,len,len)) rfl rfl ⟨rfl,Nat.le_refl _⟩ (by simp) (fun g hg=>heap_alloc_old w _ g hg)
        (by
         rw[c1,c2];refine⟨hll,.inr ⟨w.heap.size,len,l.toArray,rfl,Nat.zero_le _,heap_alloc_new w _,Nat.le_refl _,?_,by simpa using hll,by show l.take (len*sz)=l;exact List.take_of_length_le (by omega)⟩⟩;have:len≤len*sz:=Nat.le_mul_of_pos_right len hsz1;simp only[maxLen]
         omega)
        (fun x hx=>⟨(c3 x hx).1,fun u hu=>hgas.2 u ((c3 x hx).2 u hu)⟩)
        (fun g hg=>by simp only[Value.ownBlock,Option.some.injEq]at hg;omega)
       refine⟨_,_,H,ρ',_,?_,h,hr',Le.refl H,?_⟩
       ·rw[hg];simp only[execOp,ho,Instr.buildSlice,Sem.run_bind,run_underlying hu,Result.andThen_ok,tsize_ok ht hsz];rw[if_neg (by omega)]
        by_cases h0:len*sz=0
        ·have e1:len=0:=by rcases Nat.mul_eq_zero.1 h0 with h | h<;>omega
         subst e1;rw[if_pos h0]
         have e2:(Array.range (0*sz)).map (fun i=>(#[]:Array Value)[i % (#[]:Array Value).size]!)=(gas ρ (rep 0 z)).toArray:=by simp [rep,gas]
         simp only[Sem.run_pure,Result.andThen_ok,e2,hparts,hf,Sem.run_bind,newRow,run_newObj]
         rfl
        ·rw[if_neg h0];simp only[Sem.run_bind,h1,Result.andThen_ok,Sem.run_pure,h2 ρ,hparts,←hrep,hf,newRow,run_newObj]
         rfl
       ·rw[SV.lt];exact Nat.ble_eq_true_of_le (Nat.le_refl _)
      ·exact .inr h
     ·exact h.elim
end
end Go.Sy
end
