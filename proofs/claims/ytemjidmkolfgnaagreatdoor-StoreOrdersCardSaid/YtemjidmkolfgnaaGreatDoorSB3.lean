/-
  Lemmas for the statement: what is inside a type, from itself on (plain); what a round of a loop over it must keep. No condition.
-/
import Derived.RangeFuncBound
import Derived.RangeFuncNested
import Derived.Test.YtemjidmkolfgnaaGreatDoorSBn
import Derived.Test.YtemjidmkolfgnaaGreatDoorSB2
namespace Go.Proofs.YtemjidmkolfgnaaGreatDoor
open Go.RowKit
def Fo.ins:Fo→List Tr
 | .nil=>[]
 | .cons _ k n sub rest=>⟨k,n,sub⟩::(sub.ins++rest.ins)
def Tr.ins (t:Tr):List Tr:=t::t.sub.ins
def Fo.iG:Fo→Nat→List Tr
 | _,0=>[]
 | .nil,_+1=>[]
 | .cons _ k n sub rest,i+1=>(Tr.mk k n sub).ins++rest.iG i
theorem Fo.qm (fo:Fo):fo.iG 0=[]:=by cases fo<;>rfl
theorem Fo.qj:∀(fo:Fo) (i:Nat) (pn:List UInt8) (t:Tr),fo.at i=some (pn,t)→fo.iG (i+1)=fo.iG i++t.ins
 | .nil,_,_,_,h=>by simp[Fo.at] at h
 | .cons Iv k n sub rest,0,pn,t,h=>by
  simp only[Fo.at,Option.some.injEq,Prod.mk.injEq] at h;obtain⟨_,rfl⟩:=h;simp[Fo.iG,Fo.qm]
 | .cons Iv k n sub rest,i+1,pn,t,h=>by
  rw[Fo.iG,Fo.qj rest i pn t h,Fo.iG,List.append_assoc]
theorem Fo.sH:∀fo:Fo,fo.iG fo.len=fo.ins
 | .nil=>rfl
 | .cons pn k n sub rest=>by rw[Fo.len,Fo.iG,Fo.sH rest,Fo.ins,Tr.ins];rfl
theorem Fo.nK:∀(fo:Fo) (i:Nat),fo.iG i<+:fo.ins
 | .nil,0=>List.prefix_rfl
 | .nil,_+1=>List.prefix_rfl
 | .cons pn k n sub rest,0=>List.nil_prefix
 | .cons pn k n sub rest,i+1=>by
  rw[Fo.iG,Fo.ins,Tr.ins,List.cons_append];exact(List.prefix_cons_inj _).2 ((List.prefix_append_right_inj _).2 (Fo.nK rest i))
abbrev TV (w₀:World) (n₀:Nat) (Q:Tr→Prop):={x:Tr×Value // ff w₀ (λb=>b<n₀) x.1.sub x.2∧Q x.1 }
def CN (Q:Tr→Prop):Prop:=∀t i pn u,Q t→t.sub.at i=some (pn,u)→Q u
structure mV (n₀ n₁:Nat) (W W':World):Prop where
 os:W'.os=W.os
 tape:W'.tape=W.tape
 output:W'.output=W.output
 size:W.heap.size≤W'.heap.size
 low:∀k,k<n₀→W'.heap[k]? =W.heap[k]?
 high:∀(k:Nat) (cs:Array Value) (t:TypeId) (z:Nat×Nat),n₁≤k→W.heap[k]? =some (.cells cs t z)→t≠9→W'.heap[k]? =some (.cells cs t z)
theorem mV.refl (n₀ n₁:Nat) (W:World):mV n₀ n₁ W W:=⟨rfl,rfl,rfl,nl _,λ_ _=>rfl,λ_ _ _ _ _ h _=>h⟩
theorem mV.trans {n₀ n₁:Nat} {A B C:World} (h:mV n₀ n₁ A B) (k:mV n₀ n₁ B C):mV n₀ n₁ A C:=
 ⟨k.os.trans h.os,k.tape.trans h.tape,k.output.trans h.output,Nat.le_trans h.size k.size,λi hi=>(k.low i hi).trans (h.low i hi),λi cs t z hi ho hc=>k.high i cs t z hi (h.high i cs t z hi ho hc) hc⟩
theorem mV.ai {n₀ n₁:Nat} {W W':World} (h:Below W.heap.size W W') (hn:n₀≤W.heap.size):mV n₀ n₁ W W':=
 ⟨h.os,h.tape,h.output,h.size,λk hk=>h.block k (by omega),λk _ _ _ _ ho _=>(h.block k (Array.getElem?_eq_some_iff.1 ho).1).trans ho⟩
theorem mV.alloc {n₀ n₁:Nat} {W W':World} (h:mV n₀ n₁ W W') (hn:n₀≤W'.heap.size) (o:Obj):mV n₀ n₁ W (W'.alloc o):=
 h.trans (mV.ai ((zb _).alloc zr o) hn)
theorem mV.book {n₀ n₁:Nat} {w:World} (hn0:n₀≤w.heap.size) (W:World) (l:Nat) (o o':Obj) (hl:w.heap.size≤l) (h:W.heap[l]? =some o) (hc:o.isCells=false) (_:o.isWalk=false):mV n₀ n₁ W (W.putObj l o'):=by
 have hg:=grownBy_putObj' W l o'
 refine⟨hg.os,hg.tape,hg.output,hg.size,λk hk=>hg.block k (by have:=(Array.getElem?_eq_some_iff.1 h).1;omega) (λe=>by cases e;omega),λk cs t z _ hu _=>?_⟩
 refine(hg.block k (Array.getElem?_eq_some_iff.1 hu).1 (λe=>?_)).trans hu
 cases e
 rw[h] at hu
 cases hu
 cases hc
structure jC (w₀:World) (n₀ n₁ Y V l:Nat) (W:World):Prop where
 low:Below n₀ w₀ W
 y:W.heap[Y]? =some (.cells #[.func (.yield l) #[] #[]] 322 (0,0))
 v:W.heap[V]? =some (.cells #[.func (.func 239) #[] #[.pointer (some ⟨Y,0,none⟩),.pointer (some ⟨V,0,none⟩)]] 322 (0,0))
 ny:n₁≤Y
 nv:n₁≤V
 SH:n₀≤n₁
section
variable {w₀ W W':World} {n₀ n₁ Y V l:Nat}
theorem jC.size (h:jC w₀ n₀ n₁ Y V l W):n₀≤W.heap.size:=by
 have:=(Array.getElem?_eq_some_iff.1 h.y).1
 have:=h.ny
 have:=h.SH
 omega
theorem jC.kp (h:jC w₀ n₀ n₁ Y V l W) (k:mV n₀ n₁ W W'):jC w₀ n₀ n₁ Y V l W':=
 ⟨⟨k.os.trans h.low.os,k.tape.trans h.low.tape,k.output.trans h.low.output,Nat.le_trans h.low.size k.size,λi hi=>(k.low i hi).trans (h.low.block i hi)⟩,k.high _ _ _ _ h.ny h.y (by decide),k.high _ _ _ _ h.nv h.v (by decide),h.ny,h.nv,h.SH⟩
theorem jC.alloc (h:jC w₀ n₀ n₁ Y V l W) (o:Obj):jC w₀ n₀ n₁ Y V l (W.alloc o):=h.kp ((mV.refl _ _ _).alloc h.size o)
theorem jC.cy (h:jC w₀ n₀ n₁ Y V l W):W.cell? ⟨Y,0,none⟩=some (.func (.yield l) #[] #[]):=(af h.y 0).trans rfl
theorem jC.cv (h:jC w₀ n₀ n₁ Y V l W):W.cell? ⟨V,0,none⟩=some (.func (.func 239) #[] #[.pointer (some ⟨Y,0,none⟩),.pointer (some ⟨V,0,none⟩)]):=(af h.v 0).trans rfl
end
def zV {w₀:World} {n₀:Nat} {Q:Tr→Prop} (n₁:Nat) (J Jx:List (TV w₀ n₀ Q)→World→Prop) (ok stop:Ending→Prop) (pre:List (TV w₀ n₀ Q)) (ts:List Tr) (W:World) (e:Ending) (W':World):Prop:=
 (ok e∧(∃xs:List (TV w₀ n₀ Q),xs.map (λx=>x.1.1)=ts∧J (pre++xs) W')∧mV n₀ n₁ W W')∨(stop e∧∃xs:List (TV w₀ n₀ Q),xs.map (λx=>x.1.1)<+:ts∧Jx (pre++xs) W')
end Go.Proofs.YtemjidmkolfgnaaGreatDoor
