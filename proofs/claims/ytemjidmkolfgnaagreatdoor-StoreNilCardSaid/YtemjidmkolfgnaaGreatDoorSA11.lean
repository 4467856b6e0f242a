/-
  Lemmas for the statement: contract: the program's kind.sorted at parts: a few parts in the order of their names. Conditions: bounds of lengths; the variable strings.asciiSpace.
-/
import Derived.Shelf.SlIter.Nil
import Derived.Shelf.SlSortCmp.InsertionK
import Derived.Test.YtemjidmkolfgnaaGreatDoorSA10
namespace Go.Proofs.YtemjidmkolfgnaaGreatDoor
section
open Go.RowKit Go.Sort Go.Shelf
instance:Inhabited Tr:=⟨⟨0,[],.nil⟩⟩
end
open Go.RowKit
def Q2 (w:World) (v:Value) (ps:List (List UInt8×List UInt8)):Prop:=
 (v=.slice none 0 0∧ps=[])∨∃b o c,v=.slice (some ⟨b,o,none⟩) ps.length c∧b<w.heap.size∧∀j (h:j<ps.length),w.cell? ⟨b,o+j * 2,none⟩=some (str ps[j].1)∧w.cell? ⟨b,o+j * 2+1,none⟩=some (str ps[j].2)
theorem Q2.at {w:World} {v:Value} {ps:List (List UInt8×List UInt8)} (h:Q2 w v ps) {j:Nat} (hj:j<ps.length):∃b o c x,v=.slice (some ⟨b,o,none⟩) ps.length c∧ps[j]? =some x∧w.cell? ⟨b,o+j * 2,none⟩=some (str x.1)∧w.cell? ⟨b,o+j * 2+1,none⟩=some (str x.2):=by
 rcases h with⟨rfl,rfl⟩|⟨b,o,c,rfl,hl,hc⟩
 · simp at hj
 · exact⟨b,o,c,ps[j],rfl,List.getElem?_eq_getElem hj,(hc j hj).1,(hc j hj).2⟩
def Fo.pts:Fo→List (List UInt8×List UInt8)
 | .nil=>[]
 | .cons pn k n sub rest=>(pn,Tr.txt ⟨k,n,sub⟩)::rest.pts
theorem Fo.uL:∀fo:Fo,fo.pts.length=fo.len
 | .nil=>rfl
 | .cons pn k n sub rest=>by rw[Fo.pts,List.length_cons,Fo.uL rest];rfl
theorem BD {b pn:List UInt8} {k:Nat} {n:List UInt8} {sub rest:Fo} {s:List UInt8} {i:Nat} (h:Wf (some b) (.cons pn k n sub rest)) (hs:s.drop i=(Fo.cons pn k n sub rest).tx++[93]) (hi:i≤s.length):
 ah (s.drop i)=pn.length∧List.drop i (List.take (i+pn.length) s)=pn∧Ob (s.drop (i+pn.length+1))=(Tr.txt ⟨k,n,sub⟩).length∧List.drop (i+pn.length+1) (List.take (i+pn.length+1+(Tr.txt ⟨k,n,sub⟩).length) s)=Tr.txt ⟨k,n,sub⟩∧
 i+pn.length+(Tr.txt ⟨k,n,sub⟩).length+2≤s.length∧((rest=.nil∧i+pn.length+(Tr.txt ⟨k,n,sub⟩).length+2=s.length)∨(Wf (some pn) rest∧s.drop (i+pn.length+(Tr.txt ⟨k,n,sub⟩).length+2)=rest.tx++[93])):=by
 have key:∀(c:UInt8) (Y:List UInt8),isName pn=true→Wf none (.cons [] k n sub .nil)→(c=93∨c=44)→s.drop i=pn++58::((Fo.cons [] k n sub .nil).tx++c::Y)→
  ah (s.drop i)=pn.length∧List.drop i (List.take (i+pn.length) s)=pn∧Ob (s.drop (i+pn.length+1))=(Tr.txt ⟨k,n,sub⟩).length∧List.drop (i+pn.length+1) (List.take (i+pn.length+1+(Tr.txt ⟨k,n,sub⟩).length) s)=Tr.txt ⟨k,n,sub⟩∧
  s.length=i+pn.length+(Tr.txt ⟨k,n,sub⟩).length+2+Y.length∧s.drop (i+pn.length+(Tr.txt ⟨k,n,sub⟩).length+2)=Y:=by
  intro c Y hn h hc hs;have ho:(Tr.mk k n sub).ok:=h;have e:(Fo.cons [] k n sub .nil).tx=(Tr.mk k n sub).txt:=by rw[Tr.l8];rfl
  rw[e] at hs;generalize hT:(Tr.mk k n sub).txt=T at hs ⊢;have hlen:s.length=i+pn.length+T.length+2+Y.length:=by
   have:=congrArg List.length hs;simp only[List.length_drop,List.length_append,List.length_cons] at this;omega
  have d1:s.drop (i+pn.length+1)=T++c::Y:=by
   rw[show i+pn.length+1=i+(pn.length+1) from by omega,←List.drop_drop,hs,←List.drop_drop,List.drop_left];rfl
  refine⟨?_,?_,?_,?_,hlen,?_⟩
  · rw[hs];exact pN _ (eA hn) _ (by rw[bf];rfl)
  · rw[List.drop_take,hs];simp
  · rw[d1,←hT]
    refine Eq.trans ?_ rfl;unfold Ob;rw[ho.reads (r:=c::Y) (by rcases hc with rfl|rfl;exact ku _;exact pR _)];simp
  · rw[List.drop_take,d1];simp
  · rw[show i+pn.length+T.length+2=(i+pn.length+1)+(T.length+1) from by omega,←List.drop_drop,d1,←List.drop_drop,List.drop_left];rfl
 cases h with
 | last _ _ _ _ _ hn hb h=>
  rw[Fo.jl,dF hn] at hs;obtain⟨a1,a2,a3,a4,a5,a6⟩:=key 93 [] hn h (.inl rfl) (by rw[hs];simp);exact⟨a1,a2,a3,a4,by omega,.inl ⟨rfl,by rw[a5];rfl⟩⟩
 | more _ _ _ _ _ _ hn hb h h2=>
  rw[Fo.jm _ _ _ _ _ h2.ne,dF hn] at hs;obtain⟨a1,a2,a3,a4,a5,a6⟩:=key 44 (rest.tx++[93]) hn h (.inr rfl) (by rw[hs];simp);exact⟨a1,a2,a3,a4,by omega,.inr ⟨h2,a6⟩⟩
def xX (s:List UInt8) (fo:Fo) (i:Nat) (ps:List (List UInt8×List UInt8)):Prop:=∃Ka,fo.pts=ps++Ka.pts∧i≤s.length∧((Ka=.nil∧i=s.length)∨∃b,Wf (some b) Ka∧s.drop i=Ka.tx++[93])
theorem xX.cases {s:List UInt8} {fo:Fo} {i:Nat} {ps:List (List UInt8×List UInt8)} (h:xX s fo i ps):(i=s.length∧fo.pts=ps)∨
 ∃n m,∃a b:List UInt8,i<s.length∧ah (s.drop i)=n∧List.drop i (List.take (i+n) s)=a∧Ob (s.drop (i+n+1))=m∧List.drop (i+n+1) (List.take (i+n+1+m) s)=b∧i+n+m+2≤s.length∧xX s fo (i+n+m+2) (ps++[(a,b)])∧ps.length<fo.len:=by
 obtain⟨Ka,h1,hi,h2|⟨b,h2,h3⟩⟩:=h
 · obtain⟨rfl,rfl⟩:=h2
   exact .inl ⟨rfl,by rw[h1];simp[Fo.pts]⟩
 · cases Ka with
   | nil=>exact absurd rfl h2.ne
   | cons pn k n sub rest=>
    obtain⟨a1,a2,a3,a4,a5,a6⟩:=BD h2 h3 hi;have hl:ps.length<fo.len:=by
     have:=congrArg List.length h1;rw[Fo.uL,List.length_append,Fo.uL] at this;simp only[Fo.len] at this;omega
    refine .inr ⟨pn.length,_,pn,_,by omega,a1,a2,a3,a4,a5,⟨rest,by rw[h1,Fo.pts];simp,a5,?_⟩,hl⟩;rcases a6 with⟨rfl,e⟩|⟨e1,e2⟩
    · exact .inl ⟨rfl,e⟩
    · exact .inr ⟨pn,e1,e2⟩
end Go.Proofs.YtemjidmkolfgnaaGreatDoor
