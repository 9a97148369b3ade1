/- Part 'M9' of the proof (Rg): lemmas, each with its own conditions in its own statement. -/
import Derived.RangeFuncBound
import Derived.RangeFuncCalls
import Derived.RangeFuncLeaves
import Derived.RangeFuncNested
set_option maxRecDepth 20000
set_option maxHeartbeats 4000000
namespace Go.Sy
open Go.RowKit
structure Li {β:Type} (B:Nat) (I:β→World→Prop):Prop where
 new:∀s W o,I s W→I s (W.alloc o)
 put:∀s W r o o',I s W→B≤r→W.heap[r]?=some o→o.isCells=false→I s (W.putObj r o')
def QZ {α:Type} (n₀:Nat) (I:List α→World→Prop) (xs:List α) (W:World):Exit→Act→World→Prop
 | .normal,_,W'=>KeepsOthers W W'∧Below n₀ W W'∧I xs W'
 | _,_,_=>False
theorem Lj {P:Program} {n:Nat} {α:Type} {g:Operand} {ps:Array Tmp} {assign body:Code} {Q:Exit→Act→World→Prop} {a:Act} {w:World} {gf:Nat} {lb:Array Value} (hg:a.eval g = .func (.func gf) #[] lb)
  (eg:∀args w,(callFunc gf args).run P w = .ok (.enter gf args) w) {encs:α→Array Value} (S0:∀x,(encs x).size=ps.size) {S:List α→Prop} {N n₀:Nat} (Xi:n₀≤w.heap.size)
  (Vy:∀(l:Nat) (J:List α→World→Prop) (W1:World),Below w.heap.size w W1→J [] W1 →
   (∀pre x W2,J pre W2→pre.length<N→YieldAt Fence.wide (n - 1 - 1) P l (encs x) W2 fun e W'=>e = .returned (.bool true)∧J (pre++[x]) W'∧Below n₀ W2 W') →
   CallsIn Fence.wide (n - 1) P gf (#[.func (.yield l) #[] #[]]++lb) W1 fun e W'=>(∃v,e = .returned v)∧∃xs,S xs∧J xs W')
  (I:List α→World→Prop) (hI:Li w.heap.size I) (h0:I [] w) (a₁:α→Act)
  (Oo:∀(l:Nat) (x:α) (W:World) (K:Act→World→Prop),K (a₁ x) W →
   assign.wpIn (Fence.wide.inRound l) (n - 1 - 1) P (Exit.then K (fun _ _ _=>False)) { tmps:=(ps.zip (encs x)).foldl (fun t (p,v)=>t.setIfInBounds p v) a.tmps,defers:=[] } W)
  (Cu:∀(l:Nat) (pre:List α) (x:α) (W:World),I pre W→pre.length<N→body.wpIn (Fence.wide.inRound l) (n - 1 - 1) P (QZ n₀ I (pre++[x]) W) (a₁ x) W)
  (HK:∀(D:Nat) (xs:List α) (W:World),w.heap.size≤D→S xs→I xs W→W.heap[D]?=some (.deferred (some []))→Q .normal { a with defers:={ target:=.collected D,args:=#[] }::a.defers } W):
  (Code.rangeFunc g ps assign body).wpIn Fence.wide n P Q a w:=by
 refine wpIn_rangeFunc ?_;intro fn Vz
 let I4:LoopState→Option Code→Obj:=fun st pe=>.loop { state:=st,pending:=pe,fn,tmps:=a.tmps,params:=ps,assign,body,defers:=w.heap.size }
 let W1:World:=(w.alloc (.deferred (some []))).alloc (I4 .ready none)
 have cN:W1.heap.size=w.heap.size+2:=by show ((w.heap.push _).push _).size=_;simp
 have hL:W1.heap[w.heap.size+1]?=some (I4 .ready none):=by
  have:=World.alloc_heap_new (w.alloc (.deferred (some []))) (I4 .ready none);rwa[World.size_alloc]at this
 have hD:W1.heap[w.heap.size]?=some (.deferred (some [])):=(Below.heap_alloc _ _ _ (by simp)).trans (World.alloc_heap_new w _);have hB:Below w.heap.size w W1:=((Below.refl _ w).alloc (Nat.le_refl _) _).alloc (by simp) _
 refine⟨w.heap.size+1,[{ target:=.collected w.heap.size,args:=#[] }],W1,{ target:=.fn (.func gf) lb,args:=#[.func (.yield (w.heap.size+1)) #[] #[]] },W1,gf,
  #[.func (.yield (w.heap.size+1)) #[] #[]]++lb,W1,run_enterLoop_outer _ _ _ _ _,?_,fun _ _=>trivial,?_,(fun h=>by cases h),?_⟩
 ·simp only[resolve,hg];simp [go_sem]
 ·simp [invoke,go_sem,eg]
 let J:List α→World→Prop:=fun pre W=>I pre W∧W.heap[w.heap.size+1]?=some (I4 .ready none)∧W.heap[w.heap.size]?=some (.deferred (some []))
 refine (Vy (w.heap.size+1) J W1 hB ⟨hI.new _ _ _ (hI.new _ _ _ h0),hL,hD⟩ ?_).mono ?_
 ·rintro pre x W ⟨hi,hl,hd⟩ hlen;have aj:w.heap.size+1<W.heap.size:=(Array.getElem?_eq_some_iff.1 hl).1;refine⟨fn,_,assign,body,run_yield hl (S0 x),roundIn_of_wpIn Vz (Oo _ x W _ ⟨_,run_beginRound hl rfl,?_⟩)⟩
  let Wb:World:=W.putObj (w.heap.size+1) (I4 .busy none)
  have X6:Wb.heap[w.heap.size+1]?=some (I4 .busy none):=World.putObj_heap_same aj;have X7:Wb.heap[w.heap.size]?=some (.deferred (some [])):=(World.putObj_heap_other (by omega)).trans hd;refine wpIn_mono (Cu _ pre x Wb (hI.put _ _ _ _ _ hi (by omega) hl rfl) hlen) ?_;rintro e a3 W3 hp
  cases e with
  | normal =>
   obtain⟨hk,S1,X8⟩:=hp;have Ts:=hk.same _ _ X6 rfl;have X9:=hk.same _ _ X7 rfl;refine⟨_,_,run_endRound none Ts,rfl,⟨hI.put _ _ _ _ _ X8 (by omega) Ts rfl,World.putObj_heap_same (Array.getElem?_eq_some_iff.1 Ts).1,(World.putObj_heap_other (by omega)).trans X9⟩,?_⟩;exact ((belowK_b (w:=w) Xi W _ _ _ (by omega) hl rfl rfl).trans S1).trans (belowK_b (w:=w) Xi W3 _ _ _ (by omega) Ts rfl rfl)
  | ret=>exact hp.elim
  | exit id=>exact hp.elim
  | goto t=>exact hp.elim
  | panic ch=>exact hp.elim
  | outgrown=>exact hp.elim
 ·rintro e W2 ⟨⟨v,rfl⟩,xs,hS,hi,hl,hd⟩;exact⟨none,_,run_endLoop hl (fun h=>by cases h),HK _ xs _ (Nat.le_refl _) hS (hI.put _ _ _ _ _ hi (by omega) hl rfl) ((World.putObj_heap_other (by omega)).trans hd)⟩
end Go.Sy
