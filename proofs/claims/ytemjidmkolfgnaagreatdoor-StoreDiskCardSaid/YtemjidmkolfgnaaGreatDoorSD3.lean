/-
  Lemmas: scripts of a disk that are arguments: what their reading says of memory. No condition.
-/
import Derived.Test.YtemjidmkolfgnaaGreatDoorSB43
import Derived.Test.YtemjidmkolfgnaaGreatDoorSD2
namespace Go.Proofs.YtemjidmkolfgnaaGreatDoor
open Go.ChangeShapes Go.WideShapes Go.ChangeAt Go.RowKit Go.Deep
section
variable {H:Type} {enc:TypeId×Value→H} {W:World}
theorem vcn {fuel:Nat} {v:Value} {x:DataW H×List MemPlace} (h:DataW.trod enc Tryz.prog W 0 (λ_=>true) true fuel 44 [v]=some x):∃l:List Int,CV (λb=>b<W.heap.size) W v (vay l):=
 va4 (λb:Int=>.int .i64 b) Tryz.underlying44 vaa (λn c0 y h=>by
  obtain⟨k,e,_,_⟩:=DataW.trod_int Tryz.underlying3 h;simp only[List.cons.injEq,and_true] at e;exact⟨k,e⟩) h
theorem vcc:Tryz.prog.cellsOf 38=1:=by kernel_rfl
theorem vbr:Tryz.prog.cellsOf 44=1:=by kernel_rfl
theorem vcb:Tryz.prog.cellsOf 72=5:=by kernel_rfl
instance:Inhabited vca:=⟨⟨0,0,0,[],[]⟩⟩
set_option maxRecDepth 8000 in
theorem vcy {fuel:Nat} {c0 c1 c2 c3 c4:Value} {x:DataW H×List MemPlace} (h:DataW.trod enc Tryz.prog W 0 (λ_=>true) true fuel 72 [c0,c1,c2,c3,c4]=some x):
 ∃o:vca,c0=.int .u8 (o.kd:Int)∧c1=.int .i64 o.sec∧c2=.int .i64 o.n∧CV (λb=>b<W.heap.size) W c3 (aH o.data)∧CV (λb=>b<W.heap.size) W c4 (vay o.keep)∧o.kd<256∧o.n≤9223372036854775807:=by
 obtain⟨xs,k,_,_,_,hxl,hf⟩:=DataW.trod_struct Tryz.underlying72 h
 match xs,hxl with
 | [y0,y1,y2,y3,y4],_=>
  have g0:=hf 0 _ rfl;have g1:=hf 1 _ rfl;have g2:=hf 2 _ rfl;have g3:=hf 3 _ rfl;have g4:=hf 4 _ rfl;simp[va1,vaa,vcc,vbr] at g0 g1 g2 g3 g4;obtain⟨n0,e0,_,w0⟩:=DataW.trod_int Tryz.underlying5 g0;obtain⟨n1,e1,_,_⟩:=DataW.trod_int Tryz.underlying3 g1;obtain⟨n2,e2,_,w2⟩:=DataW.trod_int Tryz.underlying3 g2;obtain⟨l3,k3⟩:=va7 g3;obtain⟨l4,k4⟩:=vcn g4;simp only[List.cons.injEq,and_true] at e0 e1 e2;obtain⟨h0,h1⟩:=va8 w0;refine⟨⟨n0.toNat,n1,n2,l3,l4⟩,?_,e1,e2,k3,k4,by dsimp only;omega,(vae w2).2⟩;rw[e0];dsimp only;rw[Int.toNat_of_nonneg h0]
theorem vd9 {v:Value} {d:DataW H} {p:List MemPlace} {a:Option Addr} {n c:Nat} (hv:v=.slice a n c) (h:DataW.Trod enc Tryz.prog W 0 (λ_=>true) true 63 v d p):∃l,vcx (λb=>b<W.heap.size) W v l:=by
 obtain⟨fuel,hf⟩:=h
 subst hv
 obtain⟨l,p,c,e,h1,h2,h3⟩:=vac (α:=vca) Tryz.underlying63 vcb (λc0 c1 c2 c3 c4 o=>c0=.int .u8 (o.kd:Int)∧c1=.int .i64 o.sec∧c2=.int .i64 o.n∧CV (λb=>b<W.heap.size) W c3 (aH o.data)∧CV (λb=>b<W.heap.size) W c4 (vay o.keep)∧o.kd<256∧o.n≤9223372036854775807) (λn c0 c1 c2 c3 c4 y h=>vcy h) (show DataW.trod enc Tryz.prog W 0 (λ_=>true) true fuel 63 [.slice a n c]=some (d,p) from hf)
 refine⟨l,p,c,e,h1,h2,?_⟩
 rcases h3 with h3|⟨b,o,e2,h4,h5⟩
 · exact .inl h3
 · refine .inr ⟨b,o,e2,h4,h4,λj x hj=>?_⟩
   obtain⟨hj2,rfl⟩:=List.getElem?_eq_some_iff.1 hj;obtain⟨c0,c1,c2,c3,c4,⟨rfl,rfl,rfl,k3,k4,k5,k6⟩,d0,d1,d2,d3,d4⟩:=h5 j hj2;refine⟨c3,c4,k3,k4,λi u hi=>?_,k5,k6⟩;rcases i with _|_|_|_|_|i
   · cases hi;exact d0
   · cases hi;exact d1
   · cases hi;exact d2
   · cases hi;exact d3
   · cases hi;exact d4
   · simp at hi
end
