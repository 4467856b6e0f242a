/-
  Lemmas for the statement: the loop is never left early. No condition.
-/
import Derived.RangeFuncNested
import Derived.Test.YtemjidmkolfgnaaGreatDoorSBn
import Derived.Test.YtemjidmkolfgnaaGreatDoorSB0
namespace Go.Proofs.YtemjidmkolfgnaaGreatDoor
open Go Go.RowKit
def xY {α:Type} (F:Fence) (n:Nat) (P:Program) (g:Nat) (lb:Array Value) (encs:α→Array Value) (Px:α→World→Prop) (Kp:World→World→Prop) (S:List α→Prop) (N:Nat) (w:World):Prop:=
 ∀(l:Nat) (J:List α→World→Prop) (W:World),Below w.heap.size w W→AbidesFrom W.heap.size J→
  (∀pre x W1,J pre W1→Px x W1→pre.length<N→YieldAt F (n - 1) P l (encs x) W1 λe W'=>e=.returned (.bool true)∧J (pre++[x]) W'∧Kp W1 W')→
  J [] W→CallsIn F n P g (#[.func (.yield l) #[] #[]]++lb) W λe W'=>(∃v,e=.returned v)∧∃xs,S xs∧J xs W'
def GF {α:Type} (B:Nat) (Kp:World→World→Prop) (I:List α→World→Prop) (xs:List α) (W:World):Exit→Act→World→Prop
 | .normal,_,W'=>KeepsFrom B W W'∧Kp W W'∧I xs W'
 | _,_,_=>False
theorem mj {α:Type} {F:Fence} {n:Nat} {P:Program} {w:World} {g:Operand} {ps:Array Tmp} {assign body:Code} {Q:Exit→Act→World→Prop} {a:Act}
 (hro:F.round=none) (h1:1≤n) {gf:Nat} {lb:Array Value} (hg:a.eval g=.func (.func gf) #[] lb) (hFg:F.fn gf) (eg:∀args w,(callFunc gf args).run P w=.ok (.enter gf args) w)
 {encs:α→Array Value} {Px:α→World→Prop} {Kp:World→World→Prop} {S:List α→Prop} {N:Nat} {w0:World} (hseq:xY F (n - 1) P gf lb encs Px Kp S N w0)
 (hKt:∀{A B C:World},Kp A B→Kp B C→Kp A C) (hKb:∀(W:World) (l:Nat) (o o':Obj),W.heap[l]? =some o→o.isCells=false→Kp W (W.putObj l o')) (hb0:Below w0.heap.size w0 w) (hps:∀x,(encs x).size=ps.size)
 (I:List α→World→Prop) (hI:OwnFrom w.heap.size I) (TY:∀x,OwnFrom w.heap.size (λ(_:Unit) W=>Px x W)) (h0:I [] w) (a₁:α→Act)
 (hassign:∀(l:Nat) (x:α) (W:World) (K:Act→World→Prop),K (a₁ x) W→assign.wpIn (F.inRound l) (n - 1 - 1) P (Exit.then K (λ_ _ _=>False)) {tmps:=(ps.zip (encs x)).foldl (λt (p,v)=>t.setIfInBounds p v) a.tmps,defers:=[] } W)
 (hbody:∀(l:Nat) (pre:List α) (x:α) (W:World),I pre W→Px x W→pre.length<N→body.wpIn (F.inRound l) (n - 1 - 1) P (GF w.heap.size Kp I (pre++[x]) W) (a₁ x) W)
 (hdone:∀(D:Nat) (xs:List α) (W:World),w.heap.size≤D→S xs→I xs W→W.heap[D]? =some (.deferred (some []))→Q .normal {a with defers:={target:=.collected D,args:= #[] }::a.defers } W):
 (Code.rangeFunc g ps assign body).wpIn F n P Q a w:=by
 refine wpIn_rangeFunc λfn hfn=>?_
 rw[hro]
 obtain⟨rec,yB⟩:∃rec:LoopState→Option Code→Loop,rec=λst pe=>{state:=st,pending:=pe,fn,tmps:=a.tmps,params:=ps,assign,body,defers:=w.heap.size }:=⟨_,rfl⟩
 obtain⟨W1,rB⟩:∃W1,(w.alloc (.deferred (some []))).alloc (.loop (rec .ready none))=W1:=⟨_,rfl⟩
 have book:(I [] W1∧W1.heap[w.heap.size+1]? =some (.loop (rec .ready none))∧W1.heap[w.heap.size]? =some (.deferred (some [])))∧Below w0.heap.size w0 W1∧w.heap.size+2≤W1.heap.size:=by
  have e1:=World.alloc_heap_new (w.alloc (.deferred (some []))) (.loop (rec .ready none));rw[World.size_alloc] at e1;rw[←rB];exact⟨⟨hI.alloc _ (hI.alloc _ h0),e1,(Below.heap_alloc _ _ _ (by simp)).trans (World.alloc_heap_new w _)⟩,hb0.trans ((((zb w).alloc zr _).alloc (by simp) _).mono hb0.size),by simp⟩
 have turn:∀{A:World} {o:Obj} (o':Obj),A.heap[w.heap.size+1]? =some o→(A.putObj (w.heap.size+1) o').heap[w.heap.size+1]? =some o'∧∀x:Obj,A.heap[w.heap.size]? =some x→(A.putObj (w.heap.size+1) o').heap[w.heap.size]? =some x:=
  λo' h=>⟨World.putObj_heap_same (Array.getElem?_eq_some_iff.1 h).1,λx hx=>(World.putObj_heap_other (by omega)).trans hx⟩
 refine⟨w.heap.size+1,[{target:=.collected w.heap.size,args:= #[] }],W1,{target:=.fn (.func gf) lb,args:= #[.func (.yield (w.heap.size+1)) #[] #[]] },W1,gf,
  #[.func (.yield (w.heap.size+1)) #[] #[]]++lb,W1,by rw[←rB,yB];exact run_enterLoop_outer _ _ _ _ _,by simp only[resolve,hg];simp[go_sem],?_,by simp[invoke,go_sem,eg],λ_=>h1,?_⟩
 · intro f' hf'
   simp[Target.leads] at hf';subst hf';exact hFg
 refine(hseq (w.heap.size+1) (λpre W=>I pre W∧W.heap[w.heap.size+1]? =some (.loop (rec .ready none))∧W.heap[w.heap.size]? =some (.deferred (some []))) W1 book.2.1 ?_ ?_ book.1).mono ?_
 · rintro s A B row ⟨k1,k2,k3⟩ hgr hr
   have hc:∀r,row=some r→∃o:Obj,A.heap[r]? =some o∧o.isCells=false:=λr e=>by
    obtain⟨_,o,ho,hw⟩:=hr r e;exact⟨o,ho,Obj.not_cells_of_walk hw⟩
   have hl:∀(b:Nat) (x:Obj),b<W1.heap.size→A.heap[b]? =some x→B.heap[b]? =some x:=λb x hb hx=>
    (hgr.block b (aj hx) λe=>by have:=(hr b e.symm).1;omega).trans hx
   exact⟨hI s A B row k1 hgr λr e=>⟨by have:=(hr r e).1;have:=book.2.2;omega,hc r e⟩,hl _ _ (by have:=book.2.2;omega) k2,hl _ _ (by have:=book.2.2;omega) k3⟩
 · rintro pre x W ⟨k1,k2,k3⟩ hpx hlen
   have hlt:=aj k2;have hy:=run_yield (P:=P) (args:=encs x) k2 (by rw[yB];exact hps x);rw[yB] at hy;refine⟨fn,_,assign,body,hy,roundIn_of_wpIn hfn (hassign _ x W _ ?_)⟩;refine⟨_,run_beginRound k2 (by rw[yB]),?_⟩;obtain⟨t1,t2⟩:=turn (.loop {rec .ready none with state:=.busy }) k2;refine wpIn_mono (hbody _ pre x _ (hI.putObj _ k1 (by omega) k2 rfl) ((TY x).putObj (s:=()) _ hpx (by omega) k2 rfl) hlen) ?_;rintro e a3 W3 hp;cases e with
   | normal=>
    obtain⟨p1,p2,p3⟩:=hp;have q1:=p1.same _ _ (by omega) t1 rfl;have q2:=p1.same _ _ zr (t2 _ k3) rfl;have hr:=run_endRound (P:=P) none q1;obtain⟨t3,t4⟩:=turn (.loop (rec .ready none)) q1;rw[yB] at hr t3 t4 q1 ⊢;exact⟨_,_,hr,rfl,⟨hI.putObj _ p3 (by omega) q1 rfl,t3,t4 _ q2⟩,hKt (hKt (hKb _ _ _ _ k2 rfl) p2) (hKb _ _ _ _ q1 rfl)⟩
   | _=>exact hp.elim
 · rintro e W2 ⟨⟨v,rfl⟩,xs,hS,k1,k2,k3⟩
   have:=run_endLoop (P:=P) k2 (by rw[yB];simp);rw[yB] at this k2;exact⟨none,_,this,hdone _ xs _ zr hS (hI.putObj _ k1 (by omega) k2 rfl) ((World.putObj_heap_other (by omega)).trans k3)⟩
end Go.Proofs.YtemjidmkolfgnaaGreatDoor
