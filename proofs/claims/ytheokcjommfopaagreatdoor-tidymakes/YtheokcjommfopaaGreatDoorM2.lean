/- Part 'M2' of the proof (It0): lemmas, each with its own conditions in its own statement. -/
import Derived.Lib.TrailingZeros
set_option maxRecDepth 20000
set_option maxHeartbeats 4000000
namespace Go.Proofs
def wa (w:Nat):List Nat:=(List.range 64).filter fun k=>w.testBit k
theorem Fe:wa 0=[]:=by simp [wa]
theorem Ff {x:Nat} (h0:x≠0) (hx:x<2 ^ 64):wa x=Lib.ctz 64 x::wa (x &&& (x - 1))∧x &&& (x - 1)<x∧Lib.ctz 64 x<64:=by
 obtain⟨m,hm,hk⟩:=Lib.ctzFrom_spec 64 x (by omega) hx;have hc:Lib.ctz 64 x=Lib.ctzFrom 64 x:=if_neg h0;rw[hc];generalize Lib.ctzFrom 64 x=k at hm hk;have hp:0<2 ^ k:=Nat.two_pow_pos k
 have e1:x=2 ^ (k+1)*m+2 ^ k:=by rw[hm,Nat.pow_succ,Nat.mul_add,Nat.mul_one,Nat.mul_assoc]
 have e2:x - 1=2 ^ (k+1)*m+(2 ^ k - 1):=by omega
 have aj:2 ^ k<2 ^ (k+1):=by rw[Nat.pow_succ];omega
 have t1:∀j,x.testBit j=if j<k+1 then decide (k=j) else m.testBit (j - (k+1)):=fun j=>by
  rw[e1,Nat.testBit_two_pow_mul_add m aj j,Nat.testBit_two_pow]
 have t2:∀j,(x - 1).testBit j=if j<k+1 then decide (j<k) else m.testBit (j - (k+1)):=fun j=>by
  rw[e2,Nat.testBit_two_pow_mul_add m (by omega) j,Nat.testBit_two_pow_sub_one]
 have t3:∀j,(x &&& (x - 1)).testBit j=if j<k+1 then false else m.testBit (j - (k+1)):=fun j=>by
  rw[Nat.testBit_and,t1,t2];split
  ·by_cases h:k=j
   ·subst h;simp
   ·simp [h]
  ·simp
 have e3:x &&& (x - 1)=2 ^ (k+1)*m:=by
  apply Nat.eq_of_testBit_eq;intro j;rw[t3,show 2 ^ (k+1)*m=2 ^ (k+1)*m+0 from rfl,Nat.testBit_two_pow_mul_add m (Nat.two_pow_pos _) j];simp
 refine⟨?_,by rw[e3];omega,hk⟩
 have er:List.range 64=List.range k++k::(List.range (63 - k)).map (fun j=>k+1+j):=by
  have h1:(64:Nat)=k+(1+(63 - k)):=by omega
  rw[show List.range 64=List.range (k+(1+(63 - k))) from congrArg List.range h1,List.range_add,List.range_add];simp [List.range_succ,Function.comp_def,Nat.add_assoc]
 unfold wa;rw[er,List.filter_append,List.filter_append,List.filter_cons,List.filter_cons]
 have f1:(List.range k).filter (fun j=>x.testBit j)=[]:=by
  rw[List.filter_eq_nil_iff];intro j hj;rw[List.mem_range]at hj;rw[t1,if_pos (by omega)]
  simp;omega
 have f2:(List.range k).filter (fun j=>(x &&& (x - 1)).testBit j)=[]:=by
  rw[List.filter_eq_nil_iff];intro j hj;rw[List.mem_range]at hj;rw[t3,if_pos (by omega)];simp
 have f3:x.testBit k=true:=by rw[t1,if_pos (by omega)];simp
 have f4:¬(x &&& (x - 1)).testBit k=true:=by rw[t3,if_pos (by omega)];simp
 have f5:((List.range (63 - k)).map (fun j=>k+1+j)).filter (fun j=>x.testBit j)=((List.range (63 - k)).map (fun j=>k+1+j)).filter (fun j=>(x &&& (x - 1)).testBit j):=by
  refine List.filter_congr fun j hj=>?_
  obtain⟨i,_,rfl⟩:=List.mem_map.1 hj;rw[t1,t3,if_neg (by omega),if_neg (by omega)]
 rw[f1,f2,if_pos f3,if_neg f4,f5]
 rfl
def kB (i:Nat) (w:Nat):List Int:=(wa w).map fun k=>((i*64+k:Nat):Int)
def dN:List UInt64→Nat→List Int
 | [],_=>[]
 | w::r,i=>kB i w.toNat++dN r (i+1)
theorem IX {l:List UInt64} {i:Nat} {w:UInt64} (h:l[i]?=some w) (j:Nat):dN (l.drop i) j=kB j w.toNat++dN (l.drop (i+1)) (j+1):=by
 have aj:=(List.getElem?_eq_some_iff.1 h).1;rw[List.drop_eq_getElem_cons aj,dN,(List.getElem?_eq_some_iff.1 h).2]
theorem IY (w:Nat):(wa w).length≤64:=by
 have:=List.length_filter_le (fun k=>w.testBit k) (List.range 64);rw[List.length_range]at this;exact this
theorem rF:∀(l:List UInt64) (i:Nat),(dN l i).length≤64*l.length
 | [],_=>Nat.le_refl _
 | w::r,i=>by
  have h1:=IY w.toNat
  have h2:=rF r (i+1);rw[dN,List.length_append,kB,List.length_map,List.length_cons];omega
end Go.Proofs
