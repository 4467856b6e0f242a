/-
  Lemmas: scripts of a store that are arguments: what their reading says of memory. No condition.
-/
import Derived.Test.YtemjidmkolfgnaaGreatDoorSB43
import Derived.Test.YtemjidmkolfgnaaGreatDoorSO1
namespace Go.Proofs.YtemjidmkolfgnaaGreatDoor
open Go.ChangeShapes Go.WideShapes Go.ChangeAt Go.RowKit Go.Deep
section
variable {H:Type} {enc:TypeId×Value→H} {W:World}
theorem vcp {α:Type} [Inhabited α] (k:Nat) (hk0:0<k) {t e:TypeId} {fuel:Nat} {v:Value} {x:DataW H×List MemPlace} (ht:Tryz.prog.underlying t=some (.slice e)) (viu:Tryz.prog.cellsOf e=k) (R:List Value→α→Prop)
 (hE:∀n cs y,cs.length=k→DataW.trod enc Tryz.prog W 0 (λ_=>true) true n e cs=some y→∃o,R cs o)
 (h:DataW.trod enc Tryz.prog W 0 (λ_=>true) true fuel t [v]=some x):
 ∃(l:List α) (p:Option Addr) (c:Nat),v=.slice p l.length c∧l.length≤c∧l.length≤maxLen∧(l=[]∨∃b o,p=some ⟨b,o,none⟩∧b<W.heap.size∧∀j x,l[j]? =some x→∃cs,R cs x∧cs.length=k∧W.rangeAt b (o+j * k) cs):=by
 rcases open_slice ht h with⟨e,_⟩|⟨a,len,cap,m,n,D,Pl,e,hb,hl,hm,hmm,_,hx⟩
 · simp only[List.cons.injEq,and_true] at e
   subst e;exact⟨[],none,0,rfl,Nat.zero_le _,Nat.zero_le _,.inl rfl⟩
 · simp only[List.cons.injEq,and_true] at e
   subst e
   by_cases h0:len=0
   · subst h0
     exact⟨[],_,cap,rfl,Nat.zero_le _,Nat.zero_le _,.inl rfl⟩
   · have vaf:m=cap:=by rw[hmm];simp
     have each:∀i,i<len→∃o:α,∃cs:List Value,R cs o∧cs.length=k∧∀j u,cs[j]? =some u→W.cell? (a.add (i * k+j))=some u:=by
      intro i hi;obtain⟨cs',h1,h2⟩:=hx i (by omega);rw[viu] at h1;obtain⟨_,hlen,hcell⟩:=World.cells?_some h1;obtain⟨o,ho⟩:=hE _ _ _ hlen h2;refine⟨o,cs',ho,hlen,λj u hj=>?_⟩;obtain⟨hj2,rfl⟩:=List.getElem?_eq_some_iff.1 hj;have:=hcell j (by omega);rw[add_add,List.getElem?_eq_getElem hj2] at this;exact this
     obtain⟨f,hf⟩:=choose_lt each;obtain⟨blk,off,spot⟩:=a;have hc0:∃u,W.cell? ((⟨blk,off,spot⟩:Addr).add 0)=some u:=by
      obtain⟨cs,_,h2,h3⟩:=hf 0 (by omega);obtain⟨u,hu⟩:∃u,cs[0]? =some u:=⟨_,List.getElem?_eq_getElem (by omega)⟩
      exact⟨u,by have:=h3 0 u hu;simpa using this⟩
     obtain⟨vkz,vi7⟩:=hc0;have hsp:spot=none:=by simpa[Addr.add] using World.cell?_spot vi7
     subst hsp;refine⟨(List.range len).map f,some ⟨blk,off,none⟩,cap,by simp,by simpa using hl,by simp;omega,.inr ⟨blk,off,rfl,?_,λj x hj=>?_⟩⟩
     · have:=World.block_lt_of_cell? _ _ vi7
       simpa[Addr.add] using this
     · rw[List.getElem?_map] at hj
       obtain⟨i,hi,rfl⟩:=Option.map_eq_some_iff.1 hj;obtain⟨hi2,rfl⟩:=List.getElem?_eq_some_iff.1 hi;rw[List.length_range] at hi2;rw[List.getElem_range];obtain⟨cs,k1,k2,k3⟩:=hf j hi2;refine⟨cs,k1,k2,λi u hu=>?_⟩;have:=k3 i u hu;rw[Go.WideShapes.add_plain] at this
       rwa [Nat.add_assoc]
theorem vcm {fuel:Nat} {v:Value} {x:DataW H×List MemPlace} (h:DataW.trod enc Tryz.prog W 0 (λ_=>true) true fuel 44 [v]=some x):∃l:List Int,CV (λb=>b<W.heap.size) W v (vdl l):=
 va4 (λb:Int=>.int .i64 b) Tryz.underlying44 vaa (λn c0 y h=>by
  obtain⟨k,e,_,_⟩:=DataW.trod_int Tryz.underlying3 h;simp only[List.cons.injEq,and_true] at e;exact⟨k,e⟩) h
theorem vcj:Tryz.prog.cellsOf 38=1:=by kernel_rfl
theorem vc3:Tryz.prog.cellsOf 44=1:=by kernel_rfl
theorem vd1:Tryz.prog.cellsOf 46=9:=by kernel_rfl
instance:Inhabited vbp:=⟨⟨0,[],[],[],[],0,0,[],[]⟩⟩
set_option maxRecDepth 8000 in
theorem vdr {fuel:Nat} {c0 c1 c2 c3 c4 c5 c6 c7 c8:Value} {x:DataW H×List MemPlace} (h:DataW.trod enc Tryz.prog W 0 (λ_=>true) true fuel 46 [c0,c1,c2,c3,c4,c5,c6,c7,c8]=some x):
 ∃o:vbp,[c0,c1,c2,c3,c4,c5,c6,c7,c8]=vd8 o c4 c7 c8∧vce (λb=>b<W.heap.size) W c4 c7 c8 o:=by
 obtain⟨xs,k,_,_,_,hxl,hf⟩:=DataW.trod_struct Tryz.underlying46 h
 match xs,hxl with
 | [y0, y1, y2, y3, y4, vl2, y6, vl3, vl4], _ =>
  have g0:=hf 0 _ rfl;have g1:=hf 1 _ rfl;have g2:=hf 2 _ rfl;have g3:=hf 3 _ rfl;have g4:=hf 4 _ rfl;have g5:=hf 5 _ rfl;have g6:=hf 6 _ rfl;have g7:=hf 7 _ rfl;have g8:=hf 8 _ rfl;simp[va1,vaa,vcj,vc3,vb7,vci] at g0 g1 g2 g3 g4 g5 g6 g7 g8;obtain⟨n0,e0,_,w0⟩:=DataW.trod_int Tryz.underlying5 g0;obtain⟨s1,e1,_,l1⟩:=DataW.trod_string Tryz.underlying9 g1;obtain⟨s2,e2,_,l2⟩:=DataW.trod_string Tryz.underlying9 g2;obtain⟨s3,e3,_,l3⟩:=DataW.trod_string Tryz.underlying9 g3;obtain⟨l4,k4⟩:=ve6 g4;obtain⟨n5,e5,_,_⟩:=DataW.trod_int Tryz.underlying3 g5;obtain⟨n6,e6,_,_⟩:=DataW.trod_int Tryz.underlying3 g6;obtain⟨vki,k7⟩:=va7 g7;obtain⟨vkj,k8⟩:=vcm g8;simp only[List.cons.injEq,and_true] at e0 e1 e2 e3 e5 e6;obtain⟨h0,h1⟩:=va8 w0;refine⟨⟨n0.toNat,s1.data.toList,s2.data.toList,s3.data.toList,l4,n5,n6,vki,vkj⟩,?_,?_⟩
  · unfold vd8
    rw[e0,e1,e2,e3,e5,e6];dsimp only;rw[Int.toNat_of_nonneg h0]
  · refine⟨?_,k7,k8,by dsimp only;omega,⟨by rw[Array.length_toList];exact l1,by rw[Array.length_toList];exact l2,by rw[Array.length_toList];exact l3⟩⟩
    exact k4.fresh.mono λb hb=>hb.2
theorem ve5 {v:Value} {d:DataW H} {p:List MemPlace} {a:Option Addr} {n c:Nat} (hv:v=.slice a n c) (h:DataW.Trod enc Tryz.prog W 0 (λ_=>true) true 22 v d p):∃l,vaz (λb=>b<W.heap.size) W v l:=by
 obtain⟨fuel,hf⟩:=h
 subst hv
 obtain⟨l,p,c,e,h1,h2,h3⟩:=vcp (α:=vbp) 9 (by decide) Tryz.underlying22 vd1 (λcs o=>∃va vb vc,cs=vd8 o va vb vc∧vce (λb=>b<W.heap.size) W va vb vc o) (λn cs y hl h=>by
  match cs,hl with
  | [c0,c1,c2,c3,c4,c5,c6,c7,c8],_=>
   obtain⟨o,h1,h2⟩:=vdr h;exact⟨o,_,_,_,h1,h2⟩) (show DataW.trod enc Tryz.prog W 0 (λ_=>true) true fuel 22 [.slice a n c]=some (d,p) from hf)
 refine⟨l,p,c,e,h1,h2,?_⟩
 rcases h3 with h3|⟨b,o,e2,h4,h5⟩
 · exact .inl h3
 · refine .inr ⟨b,o,e2,h4,h4,λj x hj=>?_⟩
   obtain⟨cs,⟨va,vb,vc,rfl,k1⟩,_,k2⟩:=h5 j x hj;exact⟨va,vb,vc,k1,k2⟩
end
