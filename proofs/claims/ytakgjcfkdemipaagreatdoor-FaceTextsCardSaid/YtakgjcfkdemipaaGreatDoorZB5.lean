/-
  Lemmas for the statement: what is inside a type, from itself on (plain); what a round of a loop over it must keep. No condition.
-/
import Derived.RangeFuncBound
import Derived.RangeFuncNested
import Derived.Test.YtakgjcfkdemipaaGreatDoorZBn
import Derived.Test.YtakgjcfkdemipaaGreatDoorZB4
namespace Go.Proofs.YtakgjcfkdemipaaGreatDoor
open Go.RowKit
def Fo.ins:Fo→List Tr
 | .nil=>[]
 | .cons _ k n sub rest=>⟨k,n,sub⟩::(sub.ins++rest.ins)
def Tr.ins (t:Tr):List Tr:=t::t.sub.ins
def Fo.jM:Fo→Nat→List Tr
 | _,0=>[]
 | .nil,_+1=>[]
 | .cons _ k n sub rest,i+1=>(Tr.mk k n sub).ins++rest.jM i
theorem Fo.qZ (fo:Fo):fo.jM 0=[]:=by cases fo<;>rfl
theorem Fo.qY:∀(fo:Fo) (i:Nat) (pn:List UInt8) (t:Tr),fo.at i=some (pn,t)→fo.jM (i+1)=fo.jM i++t.ins
 | .nil,_,_,_,h=>by simp[Fo.at] at h
 | .cons sL k n sub rest,0,pn,t,h=>by
  simp only[Fo.at,Option.some.injEq,Prod.mk.injEq] at h;obtain⟨_,rfl⟩:=h;simp[Fo.jM,Fo.qZ]
 | .cons sL k n sub rest,i+1,pn,t,h=>by
  rw[Fo.jM,Fo.qY rest i pn t h,Fo.jM,List.append_assoc]
theorem Fo.tT:∀fo:Fo,fo.jM fo.len=fo.ins
 | .nil=>rfl
 | .cons pn k n sub rest=>by rw[Fo.len,Fo.jM,Fo.tT rest,Fo.ins,Tr.ins];rfl
theorem Fo.oz:∀(fo:Fo) (i:Nat),fo.jM i<+:fo.ins
 | .nil,0=>List.prefix_rfl
 | .nil,_+1=>List.prefix_rfl
 | .cons pn k n sub rest,0=>List.nil_prefix
 | .cons pn k n sub rest,i+1=>by
  rw[Fo.jM,Fo.ins,Tr.ins,List.cons_append];exact(List.prefix_cons_inj _).2 ((List.prefix_append_right_inj _).2 (Fo.oz rest i))
abbrev TV (w₀:World) (n₀:Nat) (Q:Tr→Prop):={x:Tr×Value // dB w₀ (λb=>b<n₀) x.1.sub x.2∧Q x.1 }
def AR (Q:Tr→Prop):Prop:=∀t i pn u,Q t→t.sub.at i=some (pn,u)→Q u
structure iK (n₀ n₁:Nat) (W W':World):Prop where
 os:W'.os=W.os
 tape:W'.tape=W.tape
 output:W'.output=W.output
 size:W.heap.size≤W'.heap.size
 low:∀k,k<n₀→W'.heap[k]? =W.heap[k]?
 high:∀(k:Nat) (cs:Array Value) (t:TypeId) (z:Nat×Nat),n₁≤k→W.heap[k]? =some (.cells cs t z)→t≠9→W'.heap[k]? =some (.cells cs t z)
theorem iK.refl (n₀ n₁:Nat) (W:World):iK n₀ n₁ W W:=⟨rfl,rfl,rfl,nl _,λ_ _=>rfl,λ_ _ _ _ _ h _=>h⟩
theorem iK.trans {n₀ n₁:Nat} {A B C:World} (h:iK n₀ n₁ A B) (k:iK n₀ n₁ B C):iK n₀ n₁ A C:=
 ⟨k.os.trans h.os,k.tape.trans h.tape,k.output.trans h.output,Nat.le_trans h.size k.size,λi hi=>(k.low i hi).trans (h.low i hi),λi cs t z hi ho hc=>k.high i cs t z hi (h.high i cs t z hi ho hc) hc⟩
theorem iK.ey {n₀ n₁:Nat} {W W':World} (h:Below W.heap.size W W') (hn:n₀≤W.heap.size):iK n₀ n₁ W W':=
 ⟨h.os,h.tape,h.output,h.size,λk hk=>h.block k (by omega),λk _ _ _ _ ho _=>(h.block k (Array.getElem?_eq_some_iff.1 ho).1).trans ho⟩
theorem iK.alloc {n₀ n₁:Nat} {W W':World} (h:iK n₀ n₁ W W') (hn:n₀≤W'.heap.size) (o:Obj):iK n₀ n₁ W (W'.alloc o):=
 h.trans (iK.ey ((zb _).alloc zr o) hn)
theorem iK.setCell {n₀ n₁:Nat} {W W':World} (h:iK n₀ n₁ W W') {b o:Nat} (h0:n₀≤b) (h1:b<n₁) (u:Value):iK n₀ n₁ W (W'.setCell ⟨b,o,none⟩ u):=
 h.trans ⟨rfl,rfl,rfl,by simp[World.setCell],λk hk=>Below.heap_setCell _ _ _ _ (by simp only;omega),λk _ _ _ hk ho _=>(Below.heap_setCell _ _ _ _ (by simp only;omega)).trans ho⟩
theorem iK.grown {n₀ n₁:Nat} {W W' W'':World} {row:Option Nat} (h:iK n₀ n₁ W W') (hg:W'.grownBy W'' row) (hn:n₀≤W'.heap.size) (hr:∀r,row=some r→n₀≤r∧(r<n₁∨∃cs z,W'.heap[r]? =some (.cells cs 9 z))):iK n₀ n₁ W W'':=
 h.trans ⟨hg.os,hg.tape,hg.output,hg.size,λk hk=>hg.block k (by omega) (λe=>by have:=(hr k e.symm).1;omega),λk cs t z hk ho hc=>by
  by_cases e:some k=row
  · rcases(hr k e.symm).2 with h'|⟨cs',z',h'⟩
    · omega
    · rw[ho] at h'
      cases h';exact absurd rfl hc
  · exact(hg.block k (Array.getElem?_eq_some_iff.1 ho).1 e).trans ho⟩
theorem iK.book {n₀ n₁:Nat} {w:World} (hn0:n₀≤w.heap.size) (W:World) (l:Nat) (o o':Obj) (hl:w.heap.size≤l) (h:W.heap[l]? =some o) (hc:o.isCells=false) (_:o.isWalk=false):iK n₀ n₁ W (W.putObj l o'):=by
 have hg:=grownBy_putObj' W l o'
 refine⟨hg.os,hg.tape,hg.output,hg.size,λk hk=>hg.block k (by have:=(Array.getElem?_eq_some_iff.1 h).1;omega) (λe=>by cases e;omega),λk cs t z _ hu _=>?_⟩
 refine(hg.block k (Array.getElem?_eq_some_iff.1 hu).1 (λe=>?_)).trans hu
 cases e
 rw[h] at hu
 cases hu
 cases hc
structure kL (w₀:World) (n₀ n₁ Y V l:Nat) (W:World):Prop where
 low:Below n₀ w₀ W
 y:W.heap[Y]? =some (.cells #[.func (.yield l) #[] #[]] 220 (0,0))
 v:W.heap[V]? =some (.cells #[.func (.func 214) #[] #[.pointer (some ⟨Y,0,none⟩),.pointer (some ⟨V,0,none⟩)]] 220 (0,0))
 ny:n₁≤Y
 nv:n₁≤V
 P8:n₀≤n₁
section
variable {w₀ W W':World} {n₀ n₁ Y V l:Nat}
theorem kL.size (h:kL w₀ n₀ n₁ Y V l W):n₀≤W.heap.size:=by
 have:=(Array.getElem?_eq_some_iff.1 h.y).1
 have:=h.ny
 have:=h.P8
 omega
theorem kL.kp (h:kL w₀ n₀ n₁ Y V l W) (k:iK n₀ n₁ W W'):kL w₀ n₀ n₁ Y V l W':=
 ⟨⟨k.os.trans h.low.os,k.tape.trans h.low.tape,k.output.trans h.low.output,Nat.le_trans h.low.size k.size,λi hi=>(k.low i hi).trans (h.low.block i hi)⟩,k.high _ _ _ _ h.ny h.y (by decide),k.high _ _ _ _ h.nv h.v (by decide),h.ny,h.nv,h.P8⟩
theorem kL.alloc (h:kL w₀ n₀ n₁ Y V l W) (o:Obj):kL w₀ n₀ n₁ Y V l (W.alloc o):=h.kp ((iK.refl _ _ _).alloc h.size o)
theorem kL.cy (h:kL w₀ n₀ n₁ Y V l W):W.cell? ⟨Y,0,none⟩=some (.func (.yield l) #[] #[]):=(ak h.y 0).trans rfl
theorem kL.cv (h:kL w₀ n₀ n₁ Y V l W):W.cell? ⟨V,0,none⟩=some (.func (.func 214) #[] #[.pointer (some ⟨Y,0,none⟩),.pointer (some ⟨V,0,none⟩)]):=(ak h.v 0).trans rfl
end
def AU {w₀:World} {n₀:Nat} {Q:Tr→Prop} (n₁:Nat) (J Jx:List (TV w₀ n₀ Q)→World→Prop) (ok stop:Ending→Prop) (pre:List (TV w₀ n₀ Q)) (ts:List Tr) (W:World) (e:Ending) (W':World):Prop:=
 (ok e∧(∃xs:List (TV w₀ n₀ Q),xs.map (λx=>x.1.1)=ts∧J (pre++xs) W')∧iK n₀ n₁ W W')∨(stop e∧∃xs:List (TV w₀ n₀ Q),xs.map (λx=>x.1.1)<+:ts∧Jx (pre++xs) W')
end Go.Proofs.YtakgjcfkdemipaaGreatDoor
