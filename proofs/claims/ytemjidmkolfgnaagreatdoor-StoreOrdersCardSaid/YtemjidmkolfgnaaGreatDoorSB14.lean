/-
  Lemmas for the statement: cuts of texts, and lists at bytes, at the commas that stand in no brackets (plain). No condition.
-/
import Derived.Test.YtemjidmkolfgnaaGreatDoorSBn
import Derived.Test.YtemjidmkolfgnaaGreatDoorSB0
namespace Go.Proofs.YtemjidmkolfgnaaGreatDoor
section
open Go.RowKit
theorem eX {α:Type} {l:List α} {k:Nat} {x:α} (h:l[k]? =some x):l.drop k=x::l.drop (k+1):=by
 obtain⟨hj,e⟩:=List.getElem?_eq_some_iff.1 h
 rw[List.drop_eq_getElem_cons hj,e]
def SS (D:Nat→Prop) (w:World) (v:Value) (ss:List (List UInt8)):Prop:=
 ∃p c,v=.slice p ss.length c∧ss.length≤c∧ss.length≤maxLen∧(∀s∈ss,s.length≤maxLen)∧(ss=[]∨∃b o,p=some ⟨b,o,none⟩∧D b∧b<w.heap.size∧∀j (h:j<ss.length),w.cell? ⟨b,o+j,none⟩=some (str ss[j]))
theorem SS.shape {D:Nat→Prop} {w:World} {v:Value} {ss:List (List UInt8)} (h:SS D w v ss):∃p c,v=.slice p ss.length c∧ss.length≤c∧ss.length≤maxLen∧∀s∈ss,s.length≤maxLen:=by
 obtain⟨p,c,h1,h2,h3,h4,_⟩:=h
 exact⟨p,c,h1,h2,h3,h4⟩
theorem SS.le {D:Nat→Prop} {w:World} {v:Value} {ss:List (List UInt8)} (h:SS D w v ss):∀s∈ss,s.length≤maxLen:=by
 obtain⟨p,c,_,_,_,h4,_⟩:=h
 exact h4
theorem SS.at {D:Nat→Prop} {w:World} {p:Option Addr} {n c:Nat} {ss:List (List UInt8)} (h:SS D w (.slice p n c) ss) {k:Nat} {x:List UInt8} (hk:ss[k]? =some x):∃b o,p=some ⟨b,o,none⟩∧D b∧w.cell? ⟨b,o+k,none⟩=some (str x):=by
 obtain⟨hj,e⟩:=List.getElem?_eq_some_iff.1 hk
 obtain⟨p',c',h1,_,_,_,h4⟩:=h
 injection h1 with h1
 subst h1
 rcases h4 with rfl|⟨b,o,e1,h5,_,h6⟩
 · simp at hj
 · exact⟨b,o,e1,h5,by rw[h6 k hj,e]⟩
theorem SS.below {D:Nat→Prop} {K:Nat} {w w':World} {v:Value} {ss:List (List UInt8)} (h:SS D w v ss) (hb:Below K w w') (hK:w.heap.size≤K):SS D w' v ss:=by
 obtain⟨p,c,h1,h2,h3,hl,h4⟩:=h
 refine⟨p,c,h1,h2,h3,hl,?_⟩
 rcases h4 with h4|⟨b,o,e1,h5,h6,h7⟩
 · exact .inl h4
 · exact .inr ⟨b,o,e1,h5,Nat.lt_of_lt_of_le h6 hb.size,λj hj=>by rw[hb.cell (by show b<K;omega)];exact h7 j hj⟩
theorem SS.mono {D D':Nat→Prop} {w:World} {v:Value} {ss:List (List UInt8)} (h:SS D w v ss) (hD:∀b,D b→D' b):SS D' w v ss:=by
 obtain⟨p,c,h1,h2,h3,hl,h4⟩:=h
 refine⟨p,c,h1,h2,h3,hl,?_⟩
 rcases h4 with h4|⟨b,o,e1,h5,h6,h7⟩
 · exact .inl h4
 · exact .inr ⟨b,o,e1,hD _ h5,h6,h7⟩
theorem SS.set {D:Nat→Prop} {w:World} {v:Value} {ss:List (List UInt8)} (h:SS D w v ss) {a:Addr} (ha:∀b,D b→b≠a.block) (u:Value):SS D (w.setCell a u) v ss:=by
 obtain⟨p,c,h1,h2,h3,hl,h4⟩:=h
 refine⟨p,c,h1,h2,h3,hl,?_⟩
 rcases h4 with h4|⟨b,o,e1,h5,h6,h7⟩
 · exact .inl h4
 · refine .inr ⟨b,o,e1,h5,by simpa[World.setCell] using h6,λj hj=>?_⟩
   rw[World.cell?_of_block (w:=w) (heap_setCell_other w a _ u (ha b h5))];exact h7 j hj
theorem wT {w w':World} {b:Nat} (h:w'.heap[b]? =w.heap[b]?) (hb:b<w.heap.size):b<w'.heap.size:=by
 rw[Array.getElem?_eq_getElem hb] at h
 exact(Array.getElem?_eq_some_iff.1 h).1
theorem SS.agree {D:Nat→Prop} {w w':World} {v:Value} {ss:List (List UInt8)} (h:SS D w v ss) (hk:∀b,D b→b<w.heap.size→w'.heap[b]? =w.heap[b]?):SS D w' v ss:=by
 obtain⟨p,c,h1,h2,h3,hl,h4⟩:=h
 refine⟨p,c,h1,h2,h3,hl,?_⟩
 rcases h4 with h4|⟨b,o,e1,h5,h6,h7⟩
 · exact .inl h4
 · refine .inr ⟨b,o,e1,h5,wT (hk b h5 h6) h6,λj hj=>?_⟩
   rw[World.cell?_of_block (w:=w) (a:=⟨b,o+j,none⟩) (hk b h5 h6)];exact h7 j hj
theorem SS.fresh {D:Nat→Prop} {w:World} {v:Value} {ss:List (List UInt8)} (h:SS D w v ss):SS (λb=>D b∧b<w.heap.size) w v ss:=by
 obtain⟨p,c,h1,h2,h3,hl,h4⟩:=h
 refine⟨p,c,h1,h2,h3,hl,?_⟩
 rcases h4 with h4|⟨b,o,e1,h5,h6,h7⟩
 · exact .inl h4
 · exact .inr ⟨b,o,e1,⟨h5,h6⟩,h6,h7⟩
theorem SS.nil (D:Nat→Prop) (w:World) (p:Option Addr) (c:Nat):SS D w (.slice p 0 c) []:=⟨p,c,rfl,Nat.zero_le _,Nat.zero_le _,(λ_ h=>by cases h),.inl rfl⟩
theorem SS.new (D:Nat→Prop) (w:World) (hB:D w.heap.size) (ss:List (List UInt8)) (t:TypeId) (z:Nat×Nat) (h:ss.length≤maxLen) (hl:∀s∈ss,s.length≤maxLen):SS D (w.alloc (.cells (aA ss).toArray t z)) (.slice (some ⟨w.heap.size,0,none⟩) ss.length ss.length) ss:=by
 refine⟨_,_,rfl,nl _,h,hl,.inr ⟨w.heap.size,0,rfl,hB,by simp,λj hj=>?_⟩⟩
 have hh:=heap_alloc_new w (.cells (aA ss).toArray t z)
 rw[Nat.zero_add]
 refine(af hh j).trans ?_
 simp[aA,hj]
theorem SS.eZ {w:World} {base:Nat} {e:TypeId} {v:Value} {ss:List (List UInt8)} (h:w.ownsRow base e 1 v ss.length (aA ss)) (hl:∀s∈ss,s.length≤maxLen) {D:Nat→Prop} (hD:∀b,v.ownBlock=some b→D b):SS D w v ss:=by
 have hlt:=λb e=>aW h (b:=b) e
 rcases h.2 with⟨rfl,h0⟩|⟨g,cap,cur,rfl,hg,hh,h1,h2,h3,h4⟩
 · have e0:ss=[]:=List.length_eq_zero_iff.1 (by omega)
   subst e0;exact SS.nil _ _ _ _
 · refine⟨_,_,rfl,by omega,by omega,hl,.inr ⟨g,0,rfl,hD g rfl,hlt g rfl,λj hj=>?_⟩⟩
   have:=h.cells (g:=g) rfl j _ (nT ss j hj)
   rwa [show(⟨g,0,none⟩:Addr).add j=⟨g,0+j,none⟩ from by unfold Addr.add;simp;omega] at this
def iX (D:Nat→Prop) (w:World) (v:Value) (x:fT):Prop:=
 ∃a s,v=.agg #[.bool x.iter,a,str x.res,s]∧x.res.length≤maxLen∧SS D w a x.args∧SS D w s x.sigs
theorem iX.below {D:Nat→Prop} {K:Nat} {w w':World} {v:Value} {x:fT} (h:iX D w v x) (hb:Below K w w') (hK:w.heap.size≤K):iX D w' v x:=by
 obtain⟨a,s,h1,h4,h2,h3⟩:=h
 exact⟨a,s,h1,h4,h2.below hb hK,h3.below hb hK⟩
theorem iX.mono {D D':Nat→Prop} {w:World} {v:Value} {x:fT} (h:iX D w v x) (hD:∀b,D b→D' b):iX D' w v x:=by
 obtain⟨a,s,h1,h4,h2,h3⟩:=h
 exact⟨a,s,h1,h4,h2.mono hD,h3.mono hD⟩
def AN (x:dw):Prop:=x.name.length≤maxLen∧x.sig.res.length≤maxLen
def dM (D:Nat→Prop) (w:World) (v:Value) (l:List dw):Prop:=
 ∃p c,v=.slice p l.length c∧l.length≤c∧l.length≤maxLen∧(∀x∈l,AN x)∧(l=[]∨∃b o,p=some ⟨b,o,none⟩∧D b∧b<w.heap.size∧∀j (h:j<l.length),∃a s,SS D w a l[j].sig.args∧SS D w s l[j].sig.sigs∧
  w.cell? ⟨b,o+j * 5,none⟩=some (str l[j].name)∧w.cell? ⟨b,o+j * 5+1,none⟩=some (.bool l[j].sig.iter)∧w.cell? ⟨b,o+j * 5+2,none⟩=some a∧w.cell? ⟨b,o+j * 5+3,none⟩=some (str l[j].sig.res)∧w.cell? ⟨b,o+j * 5+4,none⟩=some s)
theorem dM.shape {D:Nat→Prop} {w:World} {v:Value} {l:List dw} (h:dM D w v l):∃p c,v=.slice p l.length c∧l.length≤c∧l.length≤maxLen∧∀x∈l,AN x:=by
 obtain⟨p,c,h1,h2,h3,h4,_⟩:=h
 exact⟨p,c,h1,h2,h3,h4⟩
theorem dM.at {D:Nat→Prop} {w:World} {p:Option Addr} {n c:Nat} {l:List dw} (h:dM D w (.slice p n c) l) {k:Nat} {x:dw} (hk:l[k]? =some x):∃b o a s,p=some ⟨b,o,none⟩∧D b∧AN x∧SS D w a x.sig.args∧SS D w s x.sig.sigs∧
 w.cell? ⟨b,o+k * 5,none⟩=some (str x.name)∧w.cell? ⟨b,o+k * 5+1,none⟩=some (.bool x.sig.iter)∧w.cell? ⟨b,o+k * 5+2,none⟩=some a∧w.cell? ⟨b,o+k * 5+3,none⟩=some (str x.sig.res)∧w.cell? ⟨b,o+k * 5+4,none⟩=some s:=by
 obtain⟨hj,e⟩:=List.getElem?_eq_some_iff.1 hk
 obtain⟨p',c',h1,_,_,hl,h4⟩:=h
 have hx:=hl x (List.mem_of_getElem? hk)
 injection h1 with h1
 subst h1
 rcases h4 with rfl|⟨b,o,e1,h5,_,h6⟩
 · simp at hj
 · obtain⟨a,s,h7,h8,h9⟩:=h6 k hj
   rw[e] at h7 h8 h9;exact⟨b,o,a,s,e1,h5,hx,h7,h8,h9⟩
theorem dM.below {D:Nat→Prop} {K:Nat} {w w':World} {v:Value} {l:List dw} (h:dM D w v l) (hb:Below K w w') (hK:w.heap.size≤K):dM D w' v l:=by
 obtain⟨p,c,h1,h2,h3,hl,h4⟩:=h
 refine⟨p,c,h1,h2,h3,hl,?_⟩
 rcases h4 with h4|⟨b,o,e1,h5,h6,h7⟩
 · exact .inl h4
 · refine .inr ⟨b,o,e1,h5,Nat.lt_of_lt_of_le h6 hb.size,λj hj=>?_⟩
   obtain⟨a,s,k1,k2,k3⟩:=h7 j hj;have hc:∀i,w'.cell? ⟨b,i,none⟩=w.cell? ⟨b,i,none⟩:=λi=>hb.cell (by show b<K;omega)
   exact⟨a,s,k1.below hb hK,k2.below hb hK,by rw[hc,hc,hc,hc,hc];exact k3⟩
theorem dM.mono {D D':Nat→Prop} {w:World} {v:Value} {l:List dw} (h:dM D w v l) (hD:∀b,D b→D' b):dM D' w v l:=by
 obtain⟨p,c,h1,h2,h3,hl,h4⟩:=h
 refine⟨p,c,h1,h2,h3,hl,?_⟩
 rcases h4 with h4|⟨b,o,e1,h5,h6,h7⟩
 · exact .inl h4
 · refine .inr ⟨b,o,e1,hD _ h5,h6,λj hj=>?_⟩
   obtain⟨a,s,k1,k2,k3⟩:=h7 j hj;exact⟨a,s,k1.mono hD,k2.mono hD,k3⟩
theorem dM.nil (D:Nat→Prop) (w:World) (p:Option Addr) (c:Nat):dM D w (.slice p 0 c) []:=⟨p,c,rfl,Nat.zero_le _,Nat.zero_le _,(λ_ h=>by cases h),.inl rfl⟩
def bN (D:Nat→Prop) (w:World):List Value→List dw→Prop
 | cs,[]=>cs=[]
 | cs,x::l=>∃a s r,cs=str x.name::.bool x.sig.iter::a::str x.sig.res::s::r∧AN x∧SS D w a x.sig.args∧SS D w s x.sig.sigs∧bN D w r l
theorem bN.below {D:Nat→Prop} {K:Nat} {w w':World} (hb:Below K w w') (hK:w.heap.size≤K):∀{l:List dw} {cs:List Value},bN D w cs l→bN D w' cs l
 | [],_,h=>h
 | _::_,_,⟨a,s,r,h1,h0,h2,h3,h4⟩=>⟨a,s,r,h1,h0,h2.below hb hK,h3.below hb hK,bN.below hb hK h4⟩
theorem bN.le {D:Nat→Prop} {w:World}:∀{l:List dw} {cs:List Value},bN D w cs l→∀x∈l,AN x
 | [],_,_=>λx h=>by cases h
 | y::l,_,⟨_,_,_,_,h0,_,_,h4⟩=>λx h=>by
  rcases List.mem_cons.1 h with rfl|h
  · exact h0
  · exact bN.le h4 x h
theorem bN.Io {D D':Nat→Prop} {w:World} (hD:∀b,D b→D' b):∀{l:List dw} {cs:List Value},bN D w cs l→bN D' w cs l
 | [],_,h=>h
 | _::_,_,⟨a,s,r,h1,h0,h2,h3,h4⟩=>⟨a,s,r,h1,h0,h2.mono hD,h3.mono hD,bN.Io hD h4⟩
theorem bN.mono {D D':Nat→Prop} {w:World} {l:List dw} {cs:List Value} (h:bN D w cs l) (hD:∀b,D b→D' b):bN D' w cs l:=bN.Io hD h
theorem bN.get {D:Nat→Prop} {w:World}:∀{l:List dw} {cs:List Value},bN D w cs l→∀j (h:j<l.length),∃a s,SS D w a l[j].sig.args∧SS D w s l[j].sig.sigs∧
 cs[j * 5]? =some (str l[j].name)∧cs[j * 5+1]? =some (.bool l[j].sig.iter)∧cs[j * 5+2]? =some a∧cs[j * 5+3]? =some (str l[j].sig.res)∧cs[j * 5+4]? =some s
 | [],_,_=>λj h=>by simp at h
 | x::l,_,⟨a,s,r,h1,_,h2,h3,h4⟩=>λj h=>by
  subst h1;cases j with
  | zero=>exact⟨a,s,h2,h3,rfl,rfl,rfl,rfl,rfl⟩
  | succ j=>
   have hj:j<l.length:=by simpa using h
   obtain⟨a',s',k1,k2,k3,k4,k5,k6,k7⟩:=bN.get h4 j hj;have e:(j+1) * 5=j * 5+1+1+1+1+1:=by omega
   refine⟨a',s',k1,k2,?_⟩;rw[e];exact⟨by simpa using k3,by simpa using k4,by simpa using k5,by simpa using k6,by simpa using k7⟩
theorem bN.append {D:Nat→Prop} {w:World} {k:List dw} {ds:List Value} (hk:bN D w ds k):∀{l:List dw} {cs:List Value},bN D w cs l→bN D w (cs++ds) (l++k)
 | [],_,h=>by rw[show _=_ from h];exact hk
 | _::_,_,⟨a',s',r,h1,k0,k2,k3,k4⟩=>by subst h1;exact⟨a',s',_,rfl,k0,k2,k3,bN.append hk k4⟩
theorem dM.eZ {w:World} {base:Nat} {e:TypeId} {v:Value} {l:List dw} {cs:List Value} (h:w.ownsRow base e 5 v l.length cs) {D:Nat→Prop} (hD:∀b,v.ownBlock=some b→D b) (hc:bN D w cs l):dM D w v l:=by
 have hlt:=λb e=>aW h (b:=b) e
 rcases h.2 with⟨rfl,h0⟩|⟨g,cap,cur,rfl,hg,hh,h1,h2,h3,h4⟩
 · have e0:l=[]:=List.length_eq_zero_iff.1 (by omega)
   subst e0;exact dM.nil _ _ _ _
 · refine⟨_,_,rfl,by omega,by omega,hc.le,.inr ⟨g,0,rfl,hD g rfl,hlt g rfl,λj hj=>?_⟩⟩
   obtain⟨a,s,k1,k2,k3,k4,k5,k6,k7⟩:=hc.get j hj;have hcell:∀i u,cs[i]? =some u→w.cell? ⟨g,0+i,none⟩=some u:=λi u hu=>by
    have:=h.cells (g:=g) rfl i u hu
    rwa [show(⟨g,0,none⟩:Addr).add i=⟨g,0+i,none⟩ from by unfold Addr.add;simp;omega] at this
   exact⟨a,s,k1,k2,hcell _ _ k3,hcell _ _ k4,hcell _ _ k5,hcell _ _ k6,hcell _ _ k7⟩
def kQ (D:Nat→Prop) (w:World) (v:Value) (f:aZ):Prop:=
 ∃n o,v=.agg #[str f.name,.int .u8 f.kind,.bool f.par,n,o]∧f.name.length≤maxLen∧dM D w n f.aB∧dM D w o f.ops
def jF (D:Nat→Prop) (w:World) (v:Value) (l:List aZ):Prop:=
 ∃p c,v=.slice p l.length c∧l.length≤c∧l.length≤maxLen∧(∀f∈l,f.name.length≤maxLen)∧(l=[]∨∃b o,p=some ⟨b,o,none⟩∧D b∧b<w.heap.size∧∀j (h:j<l.length),∃n q,dM D w n l[j].aB∧dM D w q l[j].ops∧
  w.cell? ⟨b,o+j * 5,none⟩=some (str l[j].name)∧w.cell? ⟨b,o+j * 5+1,none⟩=some (.int .u8 l[j].kind)∧w.cell? ⟨b,o+j * 5+2,none⟩=some (.bool l[j].par)∧w.cell? ⟨b,o+j * 5+3,none⟩=some n∧w.cell? ⟨b,o+j * 5+4,none⟩=some q)
theorem jF.below {D:Nat→Prop} {K:Nat} {w w':World} {v:Value} {l:List aZ} (h:jF D w v l) (hb:Below K w w') (hK:w.heap.size≤K):jF D w' v l:=by
 obtain⟨p,c,h1,h2,h3,hl,h4⟩:=h
 refine⟨p,c,h1,h2,h3,hl,?_⟩
 rcases h4 with h4|⟨b,o,e1,h5,h6,h7⟩
 · exact .inl h4
 · refine .inr ⟨b,o,e1,h5,Nat.lt_of_lt_of_le h6 hb.size,λj hj=>?_⟩
   obtain⟨a,s,k1,k2,k3⟩:=h7 j hj;have hc:∀i,w'.cell? ⟨b,i,none⟩=w.cell? ⟨b,i,none⟩:=λi=>hb.cell (by show b<K;omega)
   exact⟨a,s,k1.below hb hK,k2.below hb hK,by rw[hc,hc,hc,hc,hc];exact k3⟩
end
section
open Go Go.RowKit
def CV (D:Nat→Prop) (w:World) (v:Value) (cs:List Value):Prop:=
 ∃p c,v=.slice p cs.length c∧cs.length≤c∧cs.length≤maxLen∧(cs=[]∨∃b o,p=some ⟨b,o,none⟩∧D b∧b<w.heap.size∧∀j u,cs[j]? =some u→w.cell? ⟨b,o+j,none⟩=some u)
theorem CV.shape {D:Nat→Prop} {w:World} {v:Value} {cs:List Value} (h:CV D w v cs):∃p c,v=.slice p cs.length c∧cs.length≤c∧cs.length≤maxLen:=by
 obtain⟨p,c,h1,h2,h3,_⟩:=h
 exact⟨p,c,h1,h2,h3⟩
theorem CV.at {D:Nat→Prop} {w:World} {p:Option Addr} {n c:Nat} {cs:List Value} (h:CV D w (.slice p n c) cs) {k:Nat} {x:Value} (hk:cs[k]? =some x):∃b o,p=some ⟨b,o,none⟩∧D b∧w.cell? ⟨b,o+k,none⟩=some x:=by
 obtain⟨hj,_⟩:=List.getElem?_eq_some_iff.1 hk
 obtain⟨p',c',h1,_,_,h4⟩:=h
 injection h1 with h1
 subst h1
 rcases h4 with rfl|⟨b,o,e1,h5,_,h6⟩
 · simp at hj
 · exact⟨b,o,e1,h5,h6 k x hk⟩
theorem CV.agree {D:Nat→Prop} {w w':World} {v:Value} {cs:List Value} (h:CV D w v cs) (hk:∀b,D b→b<w.heap.size→w'.heap[b]? =w.heap[b]?):CV D w' v cs:=by
 obtain⟨p,c,h1,h2,h3,h4⟩:=h
 refine⟨p,c,h1,h2,h3,?_⟩
 rcases h4 with h4|⟨b,o,e1,h5,h6,h7⟩
 · exact .inl h4
 · refine .inr ⟨b,o,e1,h5,?_,λj u hj=>?_⟩
   · have:=hk b h5 h6
     rw[Array.getElem?_eq_getElem h6] at this;exact(Array.getElem?_eq_some_iff.1 this).1
   · rw[World.cell?_of_block (w:=w) (a:=⟨b,o+j,none⟩) (hk b h5 h6)]
     exact h7 j u hj
theorem CV.below {D:Nat→Prop} {K:Nat} {w w':World} {v:Value} {cs:List Value} (h:CV D w v cs) (hb:Below K w w') (hK:w.heap.size≤K):CV D w' v cs:=h.agree λb _ hl=>hb.block b (by omega)
theorem CV.mono {D D':Nat→Prop} {w:World} {v:Value} {cs:List Value} (h:CV D w v cs) (hD:∀b,D b→D' b):CV D' w v cs:=by
 obtain⟨p,c,h1,h2,h3,h4⟩:=h
 refine⟨p,c,h1,h2,h3,?_⟩
 rcases h4 with h4|⟨b,o,e1,h5,h6,h7⟩
 · exact .inl h4
 · exact .inr ⟨b,o,e1,hD _ h5,h6,h7⟩
theorem CV.set {D:Nat→Prop} {w:World} {v:Value} {cs:List Value} (h:CV D w v cs) {a:Addr} (ha:∀b,D b→b≠a.block) (u:Value):CV D (w.setCell a u) v cs:=h.agree λb hb _=>heap_setCell_other w a b u (ha b hb)
theorem CV.nil (D:Nat→Prop) (w:World) (p:Option Addr) (c:Nat):CV D w (.slice p 0 c) []:=⟨p,c,rfl,Nat.zero_le _,Nat.zero_le _,.inl rfl⟩
theorem CV.new {D:Nat→Prop} {n:Nat} {w:World} (hn:w.heap.size=n) (hB:D n) (cs:List Value) (t:TypeId) (z:Nat×Nat) (h:cs.length≤maxLen):CV D (w.alloc (.cells cs.toArray t z)) (.slice (some ⟨n,0,none⟩) cs.length cs.length) cs:=by
 subst hn
 refine⟨_,_,rfl,nl _,h,.inr ⟨w.heap.size,0,rfl,hB,by simp,λj u hj=>?_⟩⟩
 have hh:=heap_alloc_new w (.cells cs.toArray t z)
 rw[Nat.zero_add]
 refine(af hh j).trans ?_
 simpa using hj
theorem CV.eZ {w:World} {base:Nat} {e:TypeId} {v:Value} {cs:List Value} (h:w.ownsRow base e 1 v cs.length cs) {D:Nat→Prop} (hD:∀b,v.ownBlock=some b→D b):CV D w v cs:=by
 have hlt:=λb e=>aW h (b:=b) e
 rcases h.2 with⟨rfl,h0⟩|⟨g,cap,cur,rfl,hg,hh,h1,h2,h3,h4⟩
 · have e0:cs=[]:=List.length_eq_zero_iff.1 (by omega)
   subst e0;exact CV.nil _ _ _ _
 · refine⟨_,_,rfl,by omega,by omega,.inr ⟨g,0,rfl,hD g rfl,hlt g rfl,λj u hj=>?_⟩⟩
   have:=h.cells (g:=g) rfl j _ hj
   rwa [show(⟨g,0,none⟩:Addr).add j=⟨g,0+j,none⟩ from by unfold Addr.add;simp;omega] at this
def aH (l:List UInt8):List Value:=l.map λb=>.int .u8 (b.toNat:Int)
theorem ak (l:List UInt8):(aH l).length=l.length:=List.length_map _
theorem jo (l:List UInt8) (j:Nat):(aH l)[j]? =(l[j]?).map λb=>.int .u8 (b.toNat:Int):=List.getElem?_map
theorem zL (a b:List UInt8):aH (a++b)=aH a++aH b:=List.map_append
def bF (k:IntKind) (cs:List Value):Prop:=∀u∈cs,∃x,u=.int k x
theorem bF.get {k:IntKind} {cs:List Value} (h:bF k cs) {j:Nat} (hj:j<cs.length):∃x,cs[j]? =some (.int k x):=by
 obtain⟨x,hx⟩:=h cs[j] (List.getElem_mem hj)
 exact⟨x,by rw[List.getElem?_eq_getElem hj,hx]⟩
theorem bF.set {k:IntKind} {cs:List Value} (h:bF k cs) (j:Nat) (x:Int):bF k (cs.set j (.int k x)):=λu hu=>by
 rcases List.mem_or_eq_of_mem_set hu with hu|rfl
 · exact h u hu
 · exact⟨x,rfl⟩
theorem bF.append {k:IntKind} {a b:List Value} (ha:bF k a) (hb:bF k b):bF k (a++b):=λu hu=>by
 rcases List.mem_append.1 hu with h|h
 · exact ha u h
 · exact hb u h
theorem bF.u8 (l:List UInt8):bF .u8 (aH l):=λu hu=>by
 obtain⟨b,_,rfl⟩:=List.mem_map.1 hu
 exact⟨_,rfl⟩
end
def bC (p:List UInt8):List UInt8→List UInt8×List UInt8×Bool
 | []=>([],[],p.isEmpty)
 | c::s=>if p.isPrefixOf (c::s) then([],(c::s).drop p.length,true) else(c::(bC p s).1,(bC p s).2.1,(bC p s).2.2)
theorem nj {p:List UInt8} {c:UInt8} {s:List UInt8} (h:p.isPrefixOf (c::s)=false):bC p (c::s)=(c::(bC p s).1,(bC p s).2.1,(bC p s).2.2):=by
 rw[bC,if_neg (by rw[h];simp)]
theorem ER {c d:UInt8} {p s:List UInt8} (h:d≠c):(d::p).isPrefixOf (c::s)=false:=by
 rw[List.isPrefixOf]
 simp[h]
theorem r7 {d:UInt8} {p:List UInt8}:∀(a s:List UInt8),d∉a→bC (d::p) (a++s)=(a++(bC (d::p) s).1,(bC (d::p) s).2.1,(bC (d::p) s).2.2)
 | [],s,_=>rfl
 | c::a,s,h=>by
  rw[List.cons_append,nj (ER λe=>h (by simp[e])),r7 a s λe=>h (by simp[e])]
  rfl
theorem vB {p:List UInt8} (s:List UInt8) (h:p≠[]):bC p (p++s)=([],s,true):=by
 cases p with
 | nil=>exact absurd rfl h
 | cons d p=>
  have:(d::p).isPrefixOf (d::p++s)=true:=by rw[List.isPrefixOf_iff_prefix];exact List.prefix_append _ _
  rw[List.cons_append] at this ⊢;rw[bC,if_pos this];simp
theorem FN {d:UInt8} {p:List UInt8} (a s:List UInt8) (h:d∉a):bC (d::p) (a++(d::p++s))=(a,s,true):=by
 rw[r7 a _ h,vB s (by simp)]
 simp
def jK (c:UInt8):List (List UInt8)→List (List UInt8)
 | []=>[[c]]
 | l::r=>(c::l)::r
def rq (a:List UInt8):List (List UInt8)→List (List UInt8)
 | []=>[a]
 | l::r=>(a++l)::r
def aN (c:UInt8):List UInt8→List (List UInt8)
 | []=>[[]]
 | x::s=>if x=c then []::aN c s else jK x (aN c s)
theorem j5 {c:UInt8}:∀(a s:List UInt8),c∉a→aN c (a++s)=rq a (aN c s)
 | [], s, _ => by
  show aN c s=_
  have:aN c s≠[]:=by
   cases s with
   | nil=>simp[aN]
   | cons x s=>
    rw[aN];split
    · simp
    · cases aN c s<;>simp[jK]
  cases h:aN c s with
  | nil=>exact absurd h this
  | cons l r=>rfl
 | x::a,s,h=>by
  rw[List.cons_append,aN,if_neg (λe=>h (by simp[e])),j5 a s λe=>h (by simp[e])];cases aN c s<;>rfl
def cR (d:Int):List UInt8→List (List UInt8)
 | []=>[[]]
 | c::s=>if c=44∧d=0 then []::cR d s else jK c (cR (if c=91 then d+1 else if c=93 then d - 1 else d) s)
def iA (s:List UInt8):List (List UInt8):=if s=[] then [] else cR 0 s
theorem s8 (d:Int) (s:List UInt8):cR d s≠[]:=by
 cases s with
 | nil=>simp[cR]
 | cons c s=>
  rw[cR];split
  · simp
  · cases cR (if c=91 then d+1 else if c=93 then d - 1 else d) s<;>simp[jK]
theorem Da {l:List (List UInt8)} (h:l≠[]):rq [] l=l:=by
 cases l with
 | nil=>exact absurd rfl h
 | cons a r=>rfl
theorem lI {p:List UInt8}:∀(s:List UInt8) (i:Nat),i≤s.length→(∀j,j<i→p.isPrefixOf (s.drop j)=false)→bC p s=(s.take i++(bC p (s.drop i)).1,(bC p (s.drop i)).2.1,(bC p (s.drop i)).2.2)
 | s,0,_,_=>by simp
 | [],i+1,h,_=>by simp at h
 | c::s,i+1,h,hj=>by
  have h0:=hj 0 (by omega);rw[List.drop_zero] at h0;rw[nj h0,lI s i (by simpa using h) λj hji=>by simpa using hj (j+1) (by omega)];simp
theorem pO {p:List UInt8}:∀(s:List UInt8),s.length<p.length→bC p s=(s,[],false)
 | [],h=>by
  cases p with
  | nil=>simp at h
  | cons d p=>rfl
 | c::s,h=>by
  have:p.isPrefixOf (c::s)=false:=by
   rw[Bool.eq_false_iff];intro e;rw[List.isPrefixOf_iff_prefix] at e;have:=e.length_le;omega
  rw[nj this,pO s (by simp at h;omega)]
theorem AY {p s:List UInt8} (hp:p≠[]) (h:p.isPrefixOf s=true):bC p s=([],s.drop p.length,true):=by
 rw[List.isPrefixOf_iff_prefix] at h
 obtain⟨t,rfl⟩:=h
 rw[vB t hp]
 simp
theorem Dl {p s:List UInt8} {i:Nat} (hp:p≠[]) (hi:i≤s.length) (h:∀j,j<i→p.isPrefixOf (s.drop j)=false) (hit:p.isPrefixOf (s.drop i)=true):bC p s=(s.take i,s.drop (i+p.length),true):=by
 rw[lI s i hi h,AY hp hit]
 simp
theorem Dm {p s:List UInt8} {i:Nat} (hi:i≤s.length) (hl:s.length<i+p.length) (h:∀j,j<i→p.isPrefixOf (s.drop j)=false):bC p s=(s,[],false):=by
 rw[lI s i hi h,pO _ (by rw[List.length_drop];omega)]
 simp
theorem fJ {p:List UInt8}:∀s:List UInt8,(bC p s).1.length≤s.length∧(bC p s).2.1.length≤s.length
 | []=>by simp[bC]
 | c::s=>by
  have:=fJ (p:=p) s;rw[bC];split
  · simp
  · simp;omega
end Go.Proofs.YtemjidmkolfgnaaGreatDoor
