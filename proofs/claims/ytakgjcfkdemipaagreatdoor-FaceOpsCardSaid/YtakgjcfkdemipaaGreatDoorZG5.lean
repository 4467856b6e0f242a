/-
  Lemmas for the statement: what is inside a type, from itself on (plain); what a round of a loop over it must keep. No condition.
-/
import Derived.RangeFuncBound
import Derived.RangeFuncNested
import Derived.Test.YtakgjcfkdemipaaGreatDoorZGn
import Derived.Test.YtakgjcfkdemipaaGreatDoorZG4
namespace Go.Proofs.YtakgjcfkdemipaaGreatDoor
open Go.RowKit
def Fo.ins:Fo→List Tr
 | .nil=>[]
 | .cons _ k n sub rest=>⟨k,n,sub⟩::(sub.ins++rest.ins)
def Tr.ins (t:Tr):List Tr:=t::t.sub.ins
def Fo.lq:Fo→Nat→List Tr
 | _,0=>[]
 | .nil,_+1=>[]
 | .cons _ k n sub rest,i+1=>(Tr.mk k n sub).ins++rest.lq i
theorem Fo.um (fo:Fo):fo.lq 0=[]:=by cases fo<;>rfl
theorem Fo.uk:∀(fo:Fo) (i:Nat) (pn:List UInt8) (t:Tr),fo.at i=some (pn,t)→fo.lq (i+1)=fo.lq i++t.ins
 | .nil,_,_,_,h=>by simp[Fo.at] at h
 | .cons wD k n sub rest,0,pn,t,h=>by
  simp only[Fo.at,Option.some.injEq,Prod.mk.injEq] at h;obtain⟨_,rfl⟩:=h;simp[Fo.lq,Fo.um]
 | .cons wD k n sub rest,i+1,pn,t,h=>by
  rw[Fo.lq,Fo.uk rest i pn t h,Fo.lq,List.append_assoc]
theorem Fo.xD:∀fo:Fo,fo.lq fo.len=fo.ins
 | .nil=>rfl
 | .cons pn k n sub rest=>by rw[Fo.len,Fo.lq,Fo.xD rest,Fo.ins,Tr.ins];rfl
theorem Fo.rD:∀(fo:Fo) (i:Nat),fo.lq i<+:fo.ins
 | .nil,0=>List.prefix_rfl
 | .nil,_+1=>List.prefix_rfl
 | .cons pn k n sub rest,0=>List.nil_prefix
 | .cons pn k n sub rest,i+1=>by
  rw[Fo.lq,Fo.ins,Tr.ins,List.cons_append];exact(List.prefix_cons_inj _).2 ((List.prefix_append_right_inj _).2 (Fo.rD rest i))
abbrev TV (w₀:World) (n₀:Nat) (Q:Tr→Prop):={x:Tr×Value // eX w₀ (λb=>b<n₀) x.1.sub x.2∧Q x.1 }
def DR (Q:Tr→Prop):Prop:=∀t i pn u,Q t→t.sub.at i=some (pn,u)→Q u
structure jP (n₀ n₁:Nat) (W W':World):Prop where
 os:W'.os=W.os
 tape:W'.tape=W.tape
 output:W'.output=W.output
 size:W.heap.size≤W'.heap.size
 low:∀k,k<n₀→W'.heap[k]? =W.heap[k]?
 high:∀(k:Nat) (cs:Array Value) (t:TypeId) (z:Nat×Nat),n₁≤k→W.heap[k]? =some (.cells cs t z)→t≠9→W'.heap[k]? =some (.cells cs t z)
theorem jP.refl (n₀ n₁:Nat) (W:World):jP n₀ n₁ W W:=⟨rfl,rfl,rfl,nl _,λ_ _=>rfl,λ_ _ _ _ _ h _=>h⟩
theorem jP.trans {n₀ n₁:Nat} {A B C:World} (h:jP n₀ n₁ A B) (k:jP n₀ n₁ B C):jP n₀ n₁ A C:=
 ⟨k.os.trans h.os,k.tape.trans h.tape,k.output.trans h.output,Nat.le_trans h.size k.size,λi hi=>(k.low i hi).trans (h.low i hi),λi cs t z hi ho hc=>k.high i cs t z hi (h.high i cs t z hi ho hc) hc⟩
theorem jP.fQ {n₀ n₁:Nat} {W W':World} (h:Below W.heap.size W W') (hn:n₀≤W.heap.size):jP n₀ n₁ W W':=
 ⟨h.os,h.tape,h.output,h.size,λk hk=>h.block k (by omega),λk _ _ _ _ ho _=>(h.block k (Array.getElem?_eq_some_iff.1 ho).1).trans ho⟩
theorem jP.alloc {n₀ n₁:Nat} {W W':World} (h:jP n₀ n₁ W W') (hn:n₀≤W'.heap.size) (o:Obj):jP n₀ n₁ W (W'.alloc o):=
 h.trans (jP.fQ ((Below.refl _ _).alloc (nl _) o) hn)
theorem jP.setCell {n₀ n₁:Nat} {W W':World} (h:jP n₀ n₁ W W') {b o:Nat} (h0:n₀≤b) (h1:b<n₁) (u:Value):jP n₀ n₁ W (W'.setCell ⟨b,o,none⟩ u):=
 h.trans ⟨rfl,rfl,rfl,by simp[World.setCell],λk hk=>Below.heap_setCell _ _ _ _ (by simp only;omega),λk _ _ _ hk ho _=>(Below.heap_setCell _ _ _ _ (by simp only;omega)).trans ho⟩
theorem jP.grown {n₀ n₁:Nat} {W W' W'':World} {row:Option Nat} (h:jP n₀ n₁ W W') (hg:W'.grownBy W'' row) (hn:n₀≤W'.heap.size) (hr:∀r,row=some r→n₀≤r∧(r<n₁∨∃cs z,W'.heap[r]? =some (.cells cs 9 z))):jP n₀ n₁ W W'':=
 h.trans ⟨hg.os,hg.tape,hg.output,hg.size,λk hk=>hg.block k (by omega) (λe=>by have:=(hr k e.symm).1;omega),λk cs t z hk ho hc=>by
  by_cases e:some k=row
  · rcases(hr k e.symm).2 with h'|⟨cs',z',h'⟩
    · omega
    · rw[ho] at h'
      cases h';exact absurd rfl hc
  · exact(hg.block k (Array.getElem?_eq_some_iff.1 ho).1 e).trans ho⟩
theorem jP.book {n₀ n₁:Nat} {w:World} (hn0:n₀≤w.heap.size) (W:World) (l:Nat) (o o':Obj) (hl:w.heap.size≤l) (h:W.heap[l]? =some o) (hc:o.isCells=false) (_:o.isWalk=false):jP n₀ n₁ W (W.putObj l o'):=by
 have hg:=grownBy_putObj' W l o'
 refine⟨hg.os,hg.tape,hg.output,hg.size,λk hk=>hg.block k (by have:=(Array.getElem?_eq_some_iff.1 h).1;omega) (λe=>by cases e;omega),λk cs t z _ hu _=>?_⟩
 refine(hg.block k (Array.getElem?_eq_some_iff.1 hu).1 (λe=>?_)).trans hu
 cases e
 rw[h] at hu
 cases hu
 cases hc
structure mM (w₀:World) (n₀ n₁ Y V l:Nat) (W:World):Prop where
 low:Below n₀ w₀ W
 y:W.heap[Y]? =some (.cells #[.func (.yield l) #[] #[]] 220 (0,0))
 v:W.heap[V]? =some (.cells #[.func (.func 214) #[] #[.pointer (some ⟨Y,0,none⟩),.pointer (some ⟨V,0,none⟩)]] 220 (0,0))
 ny:n₁≤Y
 nv:n₁≤V
 WX:n₀≤n₁
section
variable {w₀ W W':World} {n₀ n₁ Y V l:Nat}
theorem mM.size (h:mM w₀ n₀ n₁ Y V l W):n₀≤W.heap.size:=by
 have:=(Array.getElem?_eq_some_iff.1 h.y).1
 have:=h.ny
 have:=h.WX
 omega
theorem mM.kp (h:mM w₀ n₀ n₁ Y V l W) (k:jP n₀ n₁ W W'):mM w₀ n₀ n₁ Y V l W':=
 ⟨⟨k.os.trans h.low.os,k.tape.trans h.low.tape,k.output.trans h.low.output,Nat.le_trans h.low.size k.size,λi hi=>(k.low i hi).trans (h.low.block i hi)⟩,k.high _ _ _ _ h.ny h.y (by decide),k.high _ _ _ _ h.nv h.v (by decide),h.ny,h.nv,h.WX⟩
theorem mM.alloc (h:mM w₀ n₀ n₁ Y V l W) (o:Obj):mM w₀ n₀ n₁ Y V l (W.alloc o):=h.kp ((jP.refl _ _ _).alloc h.size o)
theorem mM.cy (h:mM w₀ n₀ n₁ Y V l W):W.cell? ⟨Y,0,none⟩=some (.func (.yield l) #[] #[]):=(ak h.y 0).trans rfl
theorem mM.cv (h:mM w₀ n₀ n₁ Y V l W):W.cell? ⟨V,0,none⟩=some (.func (.func 214) #[] #[.pointer (some ⟨Y,0,none⟩),.pointer (some ⟨V,0,none⟩)]):=(ak h.v 0).trans rfl
end
def DT {w₀:World} {n₀:Nat} {Q:Tr→Prop} (n₁:Nat) (J Jx:List (TV w₀ n₀ Q)→World→Prop) (ok stop:Ending→Prop) (pre:List (TV w₀ n₀ Q)) (ts:List Tr) (W:World) (e:Ending) (W':World):Prop:=
 (ok e∧(∃xs:List (TV w₀ n₀ Q),xs.map (λx=>x.1.1)=ts∧J (pre++xs) W')∧jP n₀ n₁ W W')∨(stop e∧∃xs:List (TV w₀ n₀ Q),xs.map (λx=>x.1.1)<+:ts∧Jx (pre++xs) W')
end Go.Proofs.YtakgjcfkdemipaaGreatDoor
