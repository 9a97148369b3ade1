/- Part 'M30' of the proof (Av0): lemmas, each with its own conditions in its own statement. -/
import Derived.DeepKeys4
import Derived.Test.YthmicpkjickejaaGreatRRM29
namespace Go.Proofs
open Go.Sy
set_option maxRecDepth 20000
set_option maxHeartbeats 4000000
theorem laidOutK:laidOutB Tryz.prog=true:=by kernel_rfl
theorem keyedE:Maps.Keyed Tryz.prog 55:=Maps.Keyed.of_law (deep_law_laid laidOutK (m:=6) (by decide) (of_decide_eq_true (by kernel_rfl)) (by kernel_rfl) (by kernel_rfl))
theorem mapOKE:MapOK Tryz.prog 55 3:=⟨keyedE,(tt_ok 3 _ _ rfl).2,Tryz.zeroValue3⟩
theorem litI {n:Int} (h:i64R n):(Lit.int .i64 n).wf=true :=
 (Bool.and_eq_true _ _).mpr ⟨decide_eq_true (show (-9223372036854775808:Int)≤n from h.1),decide_eq_true (show n≤(9223372036854775807:Int) from h.2)⟩
theorem klI {d:Nat} {n:Int} (h:i64R n):Tryz.prog.keyLits (d+1) 3 [.int .i64 n]=some [.int .i64 n]:=by
 have hu:Tryz.prog.underlying 3=some (.int .i64):=(tt_ok 3 _ _ rfl).2;unfold Program.keyLits;rw[hu];exact if_pos ⟨rfl,litI h⟩
theorem klS {d:Nat} {s:Str} (h:sR s):Tryz.prog.keyLits (d+1) 9 [.string (bs s.l)]=some [.string s.l]:=by
 have hu:Tryz.prog.underlying 9=some .string:=(tt_ok 9 _ _ rfl).2;unfold Program.keyLits;rw[hu];refine (if_pos (show (bs s.l).size≤maxLen from h)).trans ?_
 rfl
theorem klN {d:Nat} {a:Nm} (h:i64R a.1∧i64R a.2):Tryz.prog.keyLits (d+1+1) 47 [.int .i64 a.1,.int .i64 a.2]=some [.int .i64 a.1,.int .i64 a.2]:=by
 have hu:=(tt_ok 47 _ _ rfl).2;unfold Program.keyLits;rw[hu];refine (if_pos ⟨by kernel_rfl,by kernel_rfl⟩).trans ?_;show Option.map List.flatten ((Tryz.prog.keyLits (d+1) 3 [.int .i64 a.1]).bind fun x=>(Tryz.prog.keyLits (d+1) 3 [.int .i64 a.2]).bind fun y=>some [x,y])=_;rw[klI h.1,klI h.2]
 rfl
theorem klA {d:Nat} {a:Atm} (h:atmR a):Tryz.prog.keyLits (d+1+1+1) 49 (atmV a)=some [.string a.1.l,.int .i64 a.2.1,.int .i64 a.2.2]:=by
 have hu:=(tt_ok 49 _ _ rfl).2;unfold Program.keyLits;rw[hu];refine (if_pos ⟨by kernel_rfl,by kernel_rfl⟩).trans ?_;show Option.map List.flatten ((Tryz.prog.keyLits (d+1+1) 9 [.string (bs a.1.l)]).bind fun x=>(Tryz.prog.keyLits (d+1+1) 47 [.int .i64 a.2.1,.int .i64 a.2.2]).bind fun y=>some [x,y])=_;rw[klS h.1,klN h.2]
 rfl
abbrev litsE (x:Expr):List Lit:=[.int .i64 x.1,.string x.2.1.1.l,.int .i64 x.2.1.2.1,.int .i64 x.2.1.2.2,.string x.2.2.1.l,.int .i64 x.2.2.2.1,.int .i64 x.2.2.2.2]
theorem klX {d:Nat} {x:Expr} (h:exprR x):Tryz.prog.keyLits (d+1+1+1+1) 55 (exprV x)=some (litsE x):=by
 have hu:=(tt_ok 55 _ _ rfl).2;unfold Program.keyLits;rw[hu];refine (if_pos ⟨by kernel_rfl,by kernel_rfl⟩).trans ?_;show Option.map List.flatten ((Tryz.prog.keyLits (d+1+1+1) 3 [.int .i64 x.1]).bind fun u=>(Tryz.prog.keyLits (d+1+1+1) 49 (atmV x.2.1)).bind fun y=>(Tryz.prog.keyLits (d+1+1+1) 49 (atmV x.2.2)).bind fun z=>some [u,y,z])=_;rw[klI h.1,klA h.2.1,klA h.2.2]
 rfl
def keyE (x:Expr):Lit:=.string (keyBytes (litsE x))
theorem keyOfE {x:Expr} (h:exprR x):keyOf Tryz.prog 55 (exprA x)=some (keyE x):=by
 have hu:=(tt_ok 55 _ _ rfl).2;unfold keyOf;rw[hu];refine (if_pos (show (Tryz.prog.keyType 55&&(exprA x).formed Tryz.prog 55)=true from by kernel_rfl)).trans ?_;show Option.map _ (Tryz.prog.keyLits (_+1) 55 (exprV x))=_
 have hs:Tryz.prog.types.size+1=(Tryz.prog.types.size - 3)+1+1+1+1:=by
  have:3≤Tryz.prog.types.size:=of_decide_eq_true (by kernel_rfl);omega
 rw[hs,klX h]
 rfl
theorem bs_inj {s t:Bs8} (h:bs s=bs t):s=t:=by
 have:=congrArg (fun b:ByteArray=>b.data.toList) h
 simpa [bs] using this
theorem keyE_inj {x y:Expr} (hx:exprR x) (hy:exprR y) (h:keyE x=keyE y):x=y:=by
 have e:=keyedE.inj (keyOfE hx) ((keyOfE hy).trans (congrArg some h.symm));have e2:=congrArg (fun v:Value=>match v with | .agg cs=>cs.toList | _=>[]) e;simp only[List.cons.injEq,Value.int.injEq,Value.string.injEq,true_and,and_true]at e2;obtain⟨h1,h2,h3,h4,h5,h6,h7⟩:=e2;obtain⟨o,⟨⟨a⟩,b,c⟩,⟨d⟩,f,g⟩:=x;obtain⟨o',⟨⟨a'⟩,b',c'⟩,⟨d'⟩,f',g'⟩:=y;have g2:a=a':=bs_inj h2;have g5:d=d':=bs_inj h5;dsimp only at h1 h3 h4 h6 h7;subst h1 g2 h3 h4 g5 h6 h7
 rfl
end Go.Proofs
