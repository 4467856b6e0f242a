/-
  Lemmas for the statement: arguments that are faces, needs, operations: what their reading says of memory. No condition.
-/
import Derived.Deep.SlicePairs
import Derived.Test.YtemjidmkolfgnaaGreatDoorSB14
namespace Go.Proofs.YtemjidmkolfgnaaGreatDoor
open Go.ChangeShapes Go.WideShapes Go.RowKit Go.Deep
abbrev Any:Nat→Prop:=λ_=>True
section
variable {H:Type} {enc:TypeId×Value→H} {W:World}
theorem va1:Tryz.prog.cellsOf 5=1:=by kernel_rfl
instance:Inhabited dw:=⟨⟨[],.zero⟩⟩
instance:Inhabited aZ:=⟨⟨[],0,false,[],[]⟩⟩
theorem vac {α:Type} [Inhabited α] {t e:TypeId} {fuel:Nat} {v:Value} {x:DataW H×List MemPlace} (ht:Tryz.prog.underlying t=some (.slice e)) (PJ:Tryz.prog.cellsOf e=5) (R:Value→Value→Value→Value→Value→α→Prop)
 (hE:∀n c0 c1 c2 c3 c4 y,DataW.trod enc Tryz.prog W 0 (λ_=>true) true n e [c0,c1,c2,c3,c4]=some y→∃o,R c0 c1 c2 c3 c4 o)
 (h:DataW.trod enc Tryz.prog W 0 (λ_=>true) true fuel t [v]=some x):
 ∃(l:List α) (p:Option Addr) (c:Nat),v=.slice p l.length c∧l.length≤c∧l.length≤maxLen∧(l=[]∨∃b o,p=some ⟨b,o,none⟩∧b<W.heap.size∧∀j (h:j<l.length),∃c0 c1 c2 c3 c4,R c0 c1 c2 c3 c4 l[j]∧
  W.cell? ⟨b,o+j * 5,none⟩=some c0∧W.cell? ⟨b,o+j * 5+1,none⟩=some c1∧W.cell? ⟨b,o+j * 5+2,none⟩=some c2∧W.cell? ⟨b,o+j * 5+3,none⟩=some c3∧W.cell? ⟨b,o+j * 5+4,none⟩=some c4):=by
 rcases open_slice ht h with⟨e,_⟩|⟨a,len,cap,m,n,D,Pl,e,hb,hl,hm,hmm,_,hx⟩
 · simp only[List.cons.injEq,and_true] at e
   subst e;exact⟨[],none,0,rfl,Nat.zero_le _,Nat.zero_le _,.inl rfl⟩
 · simp only[List.cons.injEq,and_true] at e
   subst e
   by_cases h0:len=0
   · subst h0
     exact⟨[],_,cap,rfl,Nat.zero_le _,Nat.zero_le _,.inl rfl⟩
   · have vaf:m=cap:=by rw[hmm];simp
     have each:∀i,i<len→∃o:α,∃c0 c1 c2 c3 c4,R c0 c1 c2 c3 c4 o∧W.cell? (a.add (i * 5))=some c0∧W.cell? (a.add (i * 5+1))=some c1∧W.cell? (a.add (i * 5+2))=some c2∧W.cell? (a.add (i * 5+3))=some c3∧W.cell? (a.add (i * 5+4))=some c4:=by
      intro i hi;obtain⟨cs',h1,h2⟩:=hx i (by omega);rw[PJ] at h1;obtain⟨_,hlen,hcell⟩:=World.cells?_some h1
      match cs',hlen with
      | [c0,c1,c2,c3,c4],_=>
       obtain⟨o,ho⟩:=hE _ _ _ _ _ _ _ h2;have e0:=hcell 0 (by omega);have e1:=hcell 1 (by omega);have e2:=hcell 2 (by omega);have e3:=hcell 3 (by omega);have e4:=hcell 4 (by omega);rw[add_add] at e0 e1 e2 e3 e4;exact⟨o,c0,c1,c2,c3,c4,ho,by simpa using e0,by simpa using e1,by simpa using e2,by simpa using e3,by simpa using e4⟩
     obtain⟨f,hf⟩:=choose_lt each;obtain⟨blk,off,spot⟩:=a;have hsp:spot=none:=by
      obtain⟨_,_,_,_,_,_,h1,_⟩:=hf 0 (by omega)
      simpa[Addr.add] using World.cell?_spot h1
     subst hsp;refine⟨(List.range len).map f,some ⟨blk,off,none⟩,cap,by simp,by simpa using hl,by simp;omega,.inr ⟨blk,off,rfl,?_,λj hj=>?_⟩⟩
     · obtain⟨_,_,_,_,_,_,h1,_⟩:=hf 0 (by omega)
       have:=World.block_lt_of_cell? _ _ h1
       simpa[Addr.add] using this
     · have hj':j<len:=by simpa using hj
       obtain⟨c0,c1,c2,c3,c4,k0,k1,k2,k3,k4,k5⟩:=hf j hj';rw[Go.WideShapes.add_plain] at k1 k2 k3 k4 k5;refine⟨c0,c1,c2,c3,c4,by simpa using k0,k1,?_,?_,?_,?_⟩
       · rwa [Nat.add_assoc]
       · rwa [Nat.add_assoc]
       · rwa [Nat.add_assoc]
       · rwa [Nat.add_assoc]
end
end Go.Proofs.YtemjidmkolfgnaaGreatDoor
