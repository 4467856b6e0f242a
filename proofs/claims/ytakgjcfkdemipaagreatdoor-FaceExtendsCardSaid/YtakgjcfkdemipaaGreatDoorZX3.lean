/-
  Lemmas for the statement: the reference's way to find what is inside a type (plain): at each place the type that begins there. Conditions: bounds of lengths; the variable strings.asciiSpace.
-/
import Derived.Test.YtakgjcfkdemipaaGreatDoorZB15
import Derived.Test.YtakgjcfkdemipaaGreatDoorZBn
import Derived.Test.YtakgjcfkdemipaaGreatDoorZX0
namespace Go.Proofs.YtakgjcfkdemipaaGreatDoor
section
theorem vbn (l:List (List UInt8)) (s:List UInt8):s∈gB l↔s∈l:=by
 unfold gB
 rw[List.mem_mergeSort,l5]
theorem vbe:∀(a b:List UInt8),Op.bytesLess a b=true→a<b
 | [],[],h=>by simp[Op.bytesLess] at h
 | [],y::b,_=>List.nil_lt_cons y b
 | x::a,[],h=>by simp[Op.bytesLess] at h
 | x::a,y::b,h=>by
  rw[jO] at h;rw[List.cons_lt_cons_iff];rcases h with h|⟨rfl,h⟩
  · exact .inl (UInt8.lt_iff_toNat_lt.2 h)
  · exact .inr ⟨rfl,vbe a b h⟩
theorem vby {a b:List UInt8} (h:leB a b=true) (hn:a≠b):Op.bytesLess a b=true:=by
 rcases h1:Op.bytesLess a b with _|_
 · have h2:=gH a b h1
   rw[Bool.or_eq_true] at h2;rcases h2 with h2|h2
   · have h3:=vbe b a h2
     simp only[leB,decide_eq_true_eq] at h;exact absurd h3 h
   · have h3:b=a:=by simpa using h2
     exact absurd h3.symm hn
 · rfl
theorem vck (a b c:List UInt8) (h1:leB a b=true) (h2:leB b c=true):leB a c=true:=by
 simp only[leB,decide_eq_true_eq] at *
 exact List.le_trans h1 h2
theorem vc7 (a b:List UInt8):(leB a b||leB b a)=true:=by
 simp only[leB,Bool.or_eq_true,decide_eq_true_eq]
 exact List.le_total a b
theorem vbm (l:List (List UInt8)):(gB l).Pairwise λa b=>Op.bytesLess a b=true:=by
 have hp:(gB l).Perm (iX l):=List.mergeSort_perm _ _
 have hn:(gB l).Nodup:=hp.nodup_iff.2 (o8 l)
 have hs:(gB l).Pairwise λa b=>leB a b=true:=List.pairwise_mergeSort vck vc7 _
 exact(hs.and hn).imp λh=>vby h.1 h.2
end
section
open Go.RowKit
theorem vdd {B:Nat} {a w:World} (h:Below B a w) (n:Nat):Below B a (w.drewN n):=h.trans ⟨rfl,rfl,rfl,nl _,λ_ _=>rfl⟩
end
section
def vam (l:List (List UInt8)):Prop:=l.Pairwise λa b=>Op.bytesLess a b=true
theorem van:∀(l m:List (List UInt8)),vam l→vam m→(∀s,s∈l↔s∈m)→l=m
 | [],[],_,_,_=>rfl
 | [],y::m,_,_,h=>by simpa using(h y).2 (by simp)
 | x::l,[],_,_,h=>by simpa using(h x).1 (by simp)
 | x :: l, y :: m, h1, h2, h => by
  obtain⟨a1,a2⟩:=List.pairwise_cons.1 h1;obtain⟨b1,b2⟩:=List.pairwise_cons.1 h2;have hxy:x=y:=by
   rcases List.mem_cons.1 ((h x).1 (by simp)) with e|e
   · exact e
   · rcases List.mem_cons.1 ((h y).2 (by simp)) with e'|e'
     · exact e'.symm
     · have:=iR _ _ (b1 x e)
       rw[a1 y e'] at this;simp at this
  subst hxy;have hnx:∀s,s∈l→s≠x:=λs hs e=>by
   subst e;have:=a1 s hs;rw[lz] at this;simp at this
  have hmx:∀s,s∈m→s≠x:=λs hs e=>by
   subst e;have:=b1 s hs;rw[lz] at this;simp at this
  rw[van l m a2 b2 λs=>⟨λhs=>by
   rcases List.mem_cons.1 ((h s).1 (List.mem_cons_of_mem _ hs)) with e|e
   · exact absurd e (hnx s hs)
   · exact e,λhs=>by
   rcases List.mem_cons.1 ((h s).2 (List.mem_cons_of_mem _ hs)) with e|e
   · exact absurd e (hmx s hs)
   · exact e⟩]
theorem vav {l:List (List UInt8)} {s:List UInt8} {k:Nat} (h:vam l) (hk:k≤l.length) (hlo:∀j (hj:j<l.length),j<k→Op.bytesLess l[j] s=true) (hhi:∀j (hj:j<l.length),k≤j→Op.bytesLess s l[j]=true):
 vam (l.take k++s::l.drop k):=by
 unfold vam at *
 rw[List.pairwise_append]
 refine⟨h.take,?_,?_⟩
 · rw[List.pairwise_cons]
   refine⟨λx hx=>?_,h.drop⟩;obtain⟨i,hi,rfl⟩:=List.getElem_of_mem hx;rw[List.getElem_drop];exact hhi _ _ (by omega)
 · intro a ha b hb
   obtain⟨i,hi,rfl⟩:=List.getElem_of_mem ha;rw[List.getElem_take];have hi':i<k∧i<l.length:=by simp at hi;omega
   rcases List.mem_cons.1 hb with rfl|hb
   · exact hlo i hi'.2 hi'.1
   · obtain⟨j,hj,rfl⟩:=List.getElem_of_mem hb
     rw[List.getElem_drop];exact fT _ _ _ (hlo i hi'.2 hi'.1) (hhi _ _ (by omega))
theorem vae {l:List (List UInt8)} {s x:List UInt8} {k:Nat}:x∈l.take k++s::l.drop k↔x=s∨x∈l:=by
 have:x∈l↔x∈l.take k++l.drop k:=by rw[List.take_append_drop]
 rw[this]
 simp only[List.mem_append,List.mem_cons]
 constructor
 · rintro(h|h|h)
   · exact .inr (.inl h)
   · exact .inl h
   · exact .inr (.inr h)
 · rintro(h|h|h)
   · exact .inr (.inl h)
   · exact .inl h
   · exact .inr (.inr h)
theorem vat {l m:List (List UInt8)} (h:vam l) (hm:∀s,s∈l↔s∈m):l=gB m:=
 van _ _ h (vbm m) λs=>by rw[hm,vbn]
end
open Go.RowKit

end Go.Proofs.YtakgjcfkdemipaaGreatDoor
