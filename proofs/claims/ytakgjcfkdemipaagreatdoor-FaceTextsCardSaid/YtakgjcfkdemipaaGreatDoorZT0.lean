/-
  Lemmas: the text of a type (plain). No condition.
-/
import Derived.Test.YtakgjcfkdemipaaGreatDoorZB3
namespace Go.Proofs.YtakgjcfkdemipaaGreatDoor
section
theorem vat (a:List UInt8) {l:List (List UInt8)} (h:l≠[]):cH (a::l)=a++44::cH l:=by
 cases l with
 | nil=>exact absurd rfl h
 | cons b l=>rfl
theorem Tr.ok.inj {t u:Tr} (h:t.ok) (k:u.ok) (e:t.txt=u.txt):t=u:=by
 have h1:=h.reads'
 rw[e,k.reads'] at h1
 simpa using h1.symm
end
section
open Go.RowKit
theorem jE.length {w:World} {D:Nat→Prop}:∀(fo:Fo) (cs:List Value),jE w D fo cs→cs.length=fo.len * 4
 | .nil,_,h=>by rw[show _=[] from h];simp[Fo.len]
 | .cons _ _ _ _ rest,_,⟨v,cs',sc,e,_,_,_,h4⟩=>by
  have:=jE.length rest cs' h4;rw[e];simp[Fo.len,this];omega
end
theorem vaq (a b:bP):pK a b=true↔a=b:=by
 rcases a with⟨i,l,r,s⟩
 rcases b with⟨i',l',r',s'⟩
 simp only[pK,Bool.and_eq_true,decide_eq_true_eq,bP.mk.injEq]
 constructor
 · rintro⟨⟨⟨h1,h2⟩,h3⟩,h4⟩;exact⟨h1,h3,h2,h4⟩
 · rintro⟨h1,h3,h2,h4⟩;exact⟨⟨⟨h1,h2⟩,h3⟩,h4⟩
def va0 (p:List UInt8):List UInt8→List UInt8×List UInt8×Bool
 | []=>([],[],p.isEmpty)
 | c::s=>if p.isPrefixOf (c::s) then([],(c::s).drop p.length,true) else(c::(va0 p s).1,(va0 p s).2.1,(va0 p s).2.2)
theorem vb0 {p:List UInt8} {c:UInt8} {s:List UInt8} (h:p.isPrefixOf (c::s)=false):va0 p (c::s)=(c::(va0 p s).1,(va0 p s).2.1,(va0 p s).2.2):=by
 rw[va0,if_neg (by rw[h];simp)]
theorem ves {c d:UInt8} {p s:List UInt8} (h:d≠c):(d::p).isPrefixOf (c::s)=false:=by
 rw[List.isPrefixOf]
 simp[h]
theorem vap {d:UInt8} {p:List UInt8}:∀(a s:List UInt8),d∉a→va0 (d::p) (a++s)=(a++(va0 (d::p) s).1,(va0 (d::p) s).2.1,(va0 (d::p) s).2.2)
 | [],s,_=>rfl
 | c::a,s,h=>by
  rw[List.cons_append,vb0 (ves λe=>h (by simp[e])),vap a s λe=>h (by simp[e])]
  rfl
theorem vco {p:List UInt8} (s:List UInt8) (h:p≠[]):va0 p (p++s)=([],s,true):=by
 cases p with
 | nil=>exact absurd rfl h
 | cons d p=>
  have:(d::p).isPrefixOf (d::p++s)=true:=by rw[List.isPrefixOf_iff_prefix];exact List.prefix_append _ _
  rw[List.cons_append] at this ⊢;rw[va0,if_pos this];simp
theorem vaf {d:UInt8} {p:List UInt8} (a s:List UInt8) (h:d∉a):va0 (d::p) (a++(d::p++s))=(a,s,true):=by
 rw[vap a _ h,vco s (by simp)]
 simp
theorem vaz {d:UInt8} {p:List UInt8} (a:List UInt8) (h:d∉a):va0 (d::p) a=(a,[],false):=by
 have:=vap (p:=p) a [] h
 rw[List.append_nil] at this
 rw[this]
 simp[va0]
theorem vg1:∀{w r y:List UInt8},32∉w→40∈w→40∉r→w.isPrefixOf (r++32::y)=false
 | [],_,_,_,h,_=>by simp at h
 | a::w,[],y,h1,_,_=>by
  rw[List.nil_append];exact ves λe=>h1 (by simp[e])
 | a :: w, b :: r, y, h1, h2, h3 => by
  rw[List.cons_append,List.isPrefixOf]
  by_cases e:a=b
  · subst e
    rw[vg1 (λh=>h1 (by simp[h])) (by
     rcases List.mem_cons.1 h2 with h|h
     · exact absurd (by simp[h]) h3
     · exact h) λh=>h3 (by simp[h])]
    simp
  · simp[e]
theorem ver {w r:List UInt8} {c:UInt8} (h1:c∈w) (h2:c∉r):w.isPrefixOf r=false:=by
 rw[Bool.eq_false_iff]
 intro h
 rw[List.isPrefixOf_iff_prefix] at h
 obtain⟨t,rfl⟩:=h
 exact h2 (by simp[h1])
def vaj (c:UInt8):List (List UInt8)→List (List UInt8)
 | []=>[[c]]
 | l::r=>(c::l)::r
def vas (a:List UInt8):List (List UInt8)→List (List UInt8)
 | []=>[a]
 | l::r=>(a++l)::r
def va1 (c:UInt8):List UInt8→List (List UInt8)
 | []=>[[]]
 | x::s=>if x=c then []::va1 c s else vaj x (va1 c s)
theorem vah {c:UInt8}:∀(a s:List UInt8),c∉a→va1 c (a++s)=vas a (va1 c s)
 | [], s, _ => by
  show va1 c s=_
  have:va1 c s≠[]:=by
   cases s with
   | nil=>simp[va1]
   | cons x s=>
    rw[va1];split
    · simp
    · cases va1 c s<;>simp[vaj]
  cases h:va1 c s with
  | nil=>exact absurd h this
  | cons l r=>rfl
 | x::a,s,h=>by
  rw[List.cons_append,va1,if_neg (λe=>h (by simp[e])),vah a s λe=>h (by simp[e])];cases va1 c s<;>rfl
theorem vci:∀l:List (List UInt8),l≠[]→(∀a∈l,44∉a)→va1 44 (cH l)=l
 | [],h,_=>absurd rfl h
 | [a],_,h=>by
  have:=vah a [] (h a (by simp));rw[List.append_nil] at this;rw[cH,this];simp[va1,vas]
 | a::b::l,_,h=>by
  rw[cH,vah a _ (h a (by simp)),va1,if_pos rfl,vci (b::l) (by simp) λx hx=>h x (by simp[hx])];simp[vas]
theorem vc3:∀l:List (List UInt8),(∀a∈l,10∉a)→va1 10 (l.flatMap (· ++[10]))=l++[[]]
 | [],_=>rfl
 | a::l,h=>by
  rw[List.flatMap_cons,List.append_assoc,vah a _ (h a (by simp)),List.singleton_append,va1,if_pos rfl,vc3 l λx hx=>h x (by simp[hx])];simp[vas]
theorem vaw:∀(s:List UInt8) (l:List (List UInt8)),va1 10 (s++[10])=l++[[]]→va1 10 s=l
 | [],l,h=>by
  have h:([[],[]]:List (List UInt8))=l++[[]]:=h;have:l=[[]]:=by
   have:=congrArg List.dropLast h
   simpa using this.symm
  rw[this]
  rfl
 | c :: s, l, h => by
  rw[List.cons_append,va1] at h;rw[va1];split at h
  · rename_i e
    rw[if_pos e];cases l with
    | nil=>
     simp only[List.nil_append,List.cons.injEq,true_and] at h;have:=vaw s [] (by
      exfalso;cases hs:s++[10] with
      | nil=>simp at hs
      | cons x y=>rw[hs,va1] at h;split at h<;>simp[vaj] at h;cases hq:va1 10 y<;>rw[hq] at h<;>simp at h)
     exfalso;cases hs:s++[10] with
     | nil=>simp at hs
     | cons x y=>rw[hs,va1] at h;split at h<;>simp[vaj] at h;cases hq:va1 10 y<;>rw[hq] at h<;>simp at h
    | cons a l=>
     rw[List.cons_append,List.cons.injEq] at h;rw[vaw s l h.2,h.1]
  · rename_i e
    rw[if_neg e];cases hq:va1 10 (s++[10]) with
    | nil=>rw[hq] at h;simp only[vaj] at h;cases l with
     | nil=>simp at h
     | cons a l=>simp at h
    | cons a m=>
     rw[hq] at h;simp only[vaj] at h;cases l with
     | nil=>simp at h
     | cons b l=>
      rw[List.cons_append,List.cons.injEq] at h;obtain⟨rfl,rfl⟩:=h;rw[vaw s (a::l) hq]
      rfl
theorem vcj (l:List (List UInt8)) (h:∀a∈l,10∉a) {s:List UInt8} (e:s++[10]=l.flatMap (· ++[10])):va1 10 s=l:=vaw s l (by rw[e];exact vc3 l h)
def va3 (d:Int):List UInt8→List (List UInt8)
 | []=>[[]]
 | c::s=>if c=44∧d=0 then []::va3 d s else vaj c (va3 (if c=91 then d+1 else if c=93 then d - 1 else d) s)
def va7 (s:List UInt8):List (List UInt8):=if s=[] then [] else va3 0 s
def vb3 (k:Int) (t:List UInt8):Prop:=∀(d:Int) (s:List UInt8),k≤d→va3 d (t++s)=vas t (va3 d s)
theorem vc9 (d:Int) (s:List UInt8):va3 d s≠[]:=by
 cases s with
 | nil=>simp[va3]
 | cons c s=>
  rw[va3];split
  · simp
  · cases va3 (if c=91 then d+1 else if c=93 then d - 1 else d) s<;>simp[vaj]
theorem vdp {l:List (List UInt8)} (h:l≠[]):vas [] l=l:=by
 cases l with
 | nil=>exact absurd rfl h
 | cons a r=>rfl
theorem vfo (a b:List UInt8) (l:List (List UInt8)):vas a (vas b l)=vas (a++b) l:=by
 cases l<;>simp[vas]
theorem vfa (c:UInt8) (a:List UInt8) (l:List (List UInt8)):vaj c (vas a l)=vas (c::a) l:=by
 cases l<;>simp[vas,vaj]
theorem vb3.nil (k:Int):vb3 k []:=λd s _=>by rw[List.nil_append,vdp (vc9 d s)]
theorem vb3.append {k:Int} {a b:List UInt8} (ha:vb3 k a) (hb:vb3 k b):vb3 k (a++b):=λd s h=>by
 rw[List.append_assoc,ha d _ h,hb d s h,vfo]
theorem vb3.mono {k k':Int} {a:List UInt8} (h:vb3 k a) (hk:k≤k'):vb3 k' a:=λd s hd=>h d s (by omega)
theorem vb3.one {k:Int} {c:UInt8} (h1:c≠91) (h2:c≠93) (h3:c≠44∨1≤k):vb3 k [c]:=λd s hd=>by
 show va3 d (c::s)=_
 rw[va3,if_neg (λ⟨e1,e2⟩=>h3.elim (λh=>h e1) λh=>by omega),if_neg h1,if_neg h2]
 cases va3 d s<;>rfl
theorem vb3.word {k:Int}:∀{a:List UInt8},(∀c∈a,c≠91∧c≠93∧c≠44)→vb3 k a
 | [],_=>vb3.nil k
 | c::a,h=>by
  have h1:=h c (by simp);exact(vb3.one h1.1 h1.2.1 (.inl h1.2.2)).append (vb3.word λx hx=>h x (by simp[hx]))
theorem vb3.shut {k:Int} {a:List UInt8} (h:vb3 (k+1) a):vb3 k (91::(a++[93])):=λd s hd=>by
 show va3 d (91::((a++[93])++s))=_
 rw[va3,if_neg (λh=>absurd h.1 (by decide)),if_pos rfl,List.append_assoc,h (d+1) _ (by omega)]
 rw[List.singleton_append,va3,if_neg (λh=>absurd h.1 (by decide)),if_neg (by decide),if_pos rfl,show d+1 - 1=d by omega]
 rw[vfa]
 cases va3 d s<;>simp[vas,vaj]
theorem vcg:∀l:List (List UInt8),l≠[]→(∀a∈l,vb3 0 a)→va3 0 (cH l)=l
 | [],h,_=>absurd rfl h
 | [a],_,h=>by
  have:=h a (by simp) 0 [] (Int.le_refl _);rw[List.append_nil] at this;rw[cH,this];simp[va3,vas]
 | a::b::l,_,h=>by
  rw[cH,h a (by simp) 0 _ (Int.le_refl _),va3,if_pos ⟨rfl,rfl⟩,vcg (b::l) (by simp) λx hx=>h x (by simp[hx])];simp[vas]
theorem vch {l:List (List UInt8)} (hb:∀a∈l,vb3 0 a) (hn:∀a∈l,a≠[]):va7 (cH l)=l:=by
 unfold va7
 cases l with
 | nil=>rfl
 | cons a l=>
  rw[if_neg,vcg _ (by simp) hb];cases l with
  | nil=>exact hn a (by simp)
  | cons b l=>simp[cH]
theorem vbr {p:List UInt8}:∀(s:List UInt8) (i:Nat),i≤s.length→(∀j,j<i→p.isPrefixOf (s.drop j)=false)→va0 p s=(s.take i++(va0 p (s.drop i)).1,(va0 p (s.drop i)).2.1,(va0 p (s.drop i)).2.2)
 | s,0,_,_=>by simp
 | [],i+1,h,_=>by simp at h
 | c::s,i+1,h,hj=>by
  have h0:=hj 0 (by omega);rw[List.drop_zero] at h0;rw[vb0 h0,vbr s i (by simpa using h) λj hji=>by simpa using hj (j+1) (by omega)];simp
theorem vcp {p:List UInt8}:∀(s:List UInt8),s.length<p.length→va0 p s=(s,[],false)
 | [],h=>by
  cases p with
  | nil=>simp at h
  | cons d p=>rfl
 | c::s,h=>by
  have:p.isPrefixOf (c::s)=false:=by
   rw[Bool.eq_false_iff];intro e;rw[List.isPrefixOf_iff_prefix] at e;have:=e.length_le;omega
  rw[vb0 this,vcp s (by simp at h;omega)]
theorem vfb {p s:List UInt8} (hp:p≠[]) (h:p.isPrefixOf s=true):va0 p s=([],s.drop p.length,true):=by
 rw[List.isPrefixOf_iff_prefix] at h
 obtain⟨t,rfl⟩:=h
 rw[vco t hp]
 simp
theorem ve6 {p s:List UInt8}:p.isPrefixOf s=decide (s.take p.length=p):=by
 by_cases h:s.take p.length=p
 · rw[decide_eq_true h,List.isPrefixOf_iff_prefix]
   exact⟨s.drop p.length,by conv=>rhs;rw[←List.take_append_drop p.length s,h]⟩
 · rw[decide_eq_false h,Bool.eq_false_iff]
   intro e;rw[List.isPrefixOf_iff_prefix] at e;obtain⟨t,rfl⟩:=e;exact h (by simp)
theorem vdq {p s:List UInt8} {i:Nat} (hp:p≠[]) (hi:i≤s.length) (h:∀j,j<i→p.isPrefixOf (s.drop j)=false) (hit:p.isPrefixOf (s.drop i)=true):va0 p s=(s.take i,s.drop (i+p.length),true):=by
 rw[vbr s i hi h,vfb hp hit]
 simp
theorem vdr {p s:List UInt8} {i:Nat} (hi:i≤s.length) (hl:s.length<i+p.length) (h:∀j,j<i→p.isPrefixOf (s.drop j)=false):va0 p s=(s,[],false):=by
 rw[vbr s i hi h,vcp _ (by rw[List.length_drop];omega)]
 simp
theorem va4 {p:List UInt8}:∀s:List UInt8,(va0 p s).1.length≤s.length∧(va0 p s).2.1.length≤s.length
 | []=>by simp[va0]
 | c::s=>by
  have:=va4 (p:=p) s;rw[va0];split
  · simp
  · simp;omega
theorem vd6 {p:List UInt8} (hp:p≠[]):∀s:List UInt8,s≠[]→(va0 p s).2.1.length<s.length
 | [],h=>absurd rfl h
 | c::s,_=>by
  rw[va0];split
  · have:=List.length_pos_iff.2 hp
    simp;omega
  · by_cases h:s=[]
    · subst h;simp[va0]
    · have:=vd6 hp s h
      simp;omega
