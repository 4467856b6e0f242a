/-
  Lemmas for the statement: the text of a type (plain). Forests that a reader gives (plain): their texts are what was read, and reading their texts gives them back. A type in the place of the parameter, whether the parameter is in a type, what has to be in its place (plain). Conditions: bounds of lengths; the variable strings.asciiSpace.
-/
import Derived.Test.YtakgjcfkdemipaaGreatDoorZGn
import Derived.Test.YtakgjcfkdemipaaGreatDoorZG0
namespace Go.Proofs.YtakgjcfkdemipaaGreatDoor
def cB (k:Nat) (n:List UInt8):List UInt8:=
 if k=1 then cU else if k=2 then aX else if k=3 then lH else if k=4 then fT else if k=5 then fP else if k=6 then gV else if k=8 then [63,116] else n
def ei:List (List UInt8)→List UInt8
 | []=>[]
 | [a]=>a
 | a::b::l=>a++44::ei (b::l)
def mS (pn:List UInt8):List UInt8:=if pn=[] then [] else pn++[58]
def Fo.txt:Fo→List (List UInt8)
 | .nil=>[]
 | .cons pn k n .nil rest=>(mS pn++cB k n)::rest.txt
 | .cons pn k n (.cons wD k' n' sub' rest') rest=>(mS pn++(cB k n++91::(ei (Fo.cons wD k' n' sub' rest').txt++[93])))::rest.txt
def Tr.txt (t:Tr):List UInt8:=
 match t.sub with
 | .nil=>cB t.k t.n
 | .cons pn k n sub rest=>cB t.k t.n++91::(ei (Fo.cons pn k n sub rest).txt++[93])
theorem Fo.qO (pn:List UInt8) (t:Tr) (rest:Fo):(Fo.cons pn t.k t.n t.sub rest).txt=(mS pn++t.txt)::rest.txt:=by
 rcases t with⟨k,n,_|_⟩<;>rfl
theorem od:∀l:List (List UInt8),l.length≤(ei l).length+1
 | []=>by simp
 | [a]=>by simp
 | a::b::l=>by
  have:=od (b::l);simp only[ei,List.length_append,List.length_cons] at this ⊢;omega
theorem jL:∀(l:List (List UInt8)) (i:Nat) (s:List UInt8),l[i]? =some s→s.length≤(ei l).length
 | [],_,_,h=>by simp at h
 | [a],i,s,h=>by
  cases i with
  | zero=>simp only[List.getElem?_cons_zero,Option.some.injEq] at h;subst h;simp[ei]
  | succ i=>simp at h
 | a::b::l,i,s,h=>by
  simp only[ei,List.length_append,List.length_cons];cases i with
  | zero=>simp only[List.getElem?_cons_zero,Option.some.injEq] at h;subst h;omega
  | succ i=>
   rw[List.getElem?_cons_succ] at h;have:=jL (b::l) i s h;omega
theorem Fo.s9:∀fo:Fo,fo.txt.length=fo.len
 | .nil=>rfl
 | .cons pn k n sub rest=>by
  have:=Fo.s9 rest;rw[show Fo.cons pn k n sub rest=.cons pn (Tr.mk k n sub).k (Tr.mk k n sub).n (Tr.mk k n sub).sub rest from rfl,Fo.qO,List.length_cons,this]
  rfl
end Go.Proofs.YtakgjcfkdemipaaGreatDoor
namespace Go.Proofs.YtakgjcfkdemipaaGreatDoor
inductive Wf:Option (List UInt8)→Fo→Prop where
 | par:Wf none (.cons [] 8 [] .nil .nil)
 | word (k:Nat) (h:k=1∨k=2∨k=3):Wf none (.cons [] k [] .nil .nil)
 | arr (a:Fo) (h:Wf none a):Wf none (.cons [] 4 fT a .nil)
 | rcd (k:Nat) (w:List UInt8) (fo:Fo) (hk:k=5∧w=fP∨k=6∧w=gV) (h:Wf (some []) fo) (hl:fo.len≤6):Wf none (.cons [] k w fo .nil)
 | nam (n:List UInt8) (hn:isName n=true):Wf none (.cons [] 7 n .nil .nil)
 | app (n:List UInt8) (a:Fo) (hn:isName n=true) (h:Wf none a):Wf none (.cons [] 7 n a .nil)
 | last (b pn:List UInt8) (k:Nat) (n:List UInt8) (sub:Fo) (hn:isName pn=true) (hb:Op.bytesLess b pn=true) (h:Wf none (.cons [] k n sub .nil)):Wf (some b) (.cons pn k n sub .nil)
 | more (b pn:List UInt8) (k:Nat) (n:List UInt8) (sub rest:Fo) (hn:isName pn=true) (hb:Op.bytesLess b pn=true) (h:Wf none (.cons [] k n sub .nil)) (h2:Wf (some pn) rest):Wf (some b) (.cons pn k n sub rest)
theorem Wf.one {fo:Fo} (h:Wf none fo):∃t:Tr,fo=.one t:=by
 cases h<;>exact⟨⟨_,_,_⟩,rfl⟩
theorem Wf.ne {b:List UInt8} {fo:Fo} (h:Wf (some b) fo):fo≠ .nil:=by
 cases h<;>simp
def Fo.tx (fo:Fo):List UInt8:=ei fo.txt
def Fo.br:Fo→List UInt8
 | .nil=>[]
 | .cons pn k n sub rest=>91::((Fo.cons pn k n sub rest).tx++[93])
theorem Fo.jG {fo:Fo} (h:fo≠ .nil):fo.br=91::(fo.tx++[93]):=by
 cases fo with
 | nil=>exact absurd rfl h
 | cons=>rfl
theorem Fo.dR (k:Nat) (n:List UInt8) (sub:Fo):(Fo.cons [] k n sub .nil).tx=cB k n++sub.br:=by
 cases sub<;>simp[Fo.tx,Fo.txt,ei,mS,Fo.br]
theorem Fo.jr (pn:List UInt8) (k:Nat) (n:List UInt8) (sub:Fo):(Fo.cons pn k n sub .nil).tx=mS pn++(Fo.cons [] k n sub .nil).tx:=by
 rw[Fo.dR]
 cases sub<;>simp[Fo.tx,Fo.txt,ei,Fo.br]
theorem Fo.js (pn:List UInt8) (k:Nat) (n:List UInt8) (sub rest:Fo) (hr:rest≠ .nil):(Fo.cons pn k n sub rest).tx=mS pn++((Fo.cons [] k n sub .nil).tx++44::rest.tx):=by
 rw[Fo.dR]
 cases rest with
 | nil=>exact absurd rfl hr
 | cons wD k' n' sub' rest'=>
  cases sub<;>cases sub'<;>simp[Fo.tx,Fo.txt,ei,Fo.br]
theorem Tr.eT (t:Tr):t.txt=(Fo.one t).tx:=by
 obtain⟨k,n,sub⟩:=t
 rw[Fo.one,Fo.dR]
 cases sub<;>simp[Tr.txt,Fo.br,Fo.tx]
theorem jm {n:List UInt8} (h:isName n=true):n≠[]:=by rintro rfl;simp[isName] at h
theorem fB {n:List UInt8} (h:isName n=true):mS n=n++[58]:=by unfold mS;rw[if_neg (jm h)]
theorem CY {w:List UInt8} (h:di w≠0):(di w=1∨di w=2∨di w=3)∧cB (di w) []=w:=by
 unfold di at h ⊢
 split
 · rename_i e;exact⟨.inl rfl,by simp[cB,e]⟩
 · split
   · rename_i e;exact⟨.inr (.inl rfl),by simp[cB,e]⟩
   · split
     · rename_i e;exact⟨.inr (.inr rfl),by simp[cB,e]⟩
     · simp_all
theorem Fq {w:List UInt8} (h:bD w=5∨bD w=6):(bD w=5∧w=fP∨bD w=6∧w=gV)∧∀n,cB (bD w) n=w:=by
 by_cases h1:w=fT
 · subst h1;exact absurd h (by decide)
 · by_cases h2:w=fP
   · subst h2;exact⟨.inl ⟨by decide,rfl⟩,λn=>by rw[show bD fP=5 from by decide];rfl⟩
   · by_cases h3:w=gV
     · subst h3;exact⟨.inr ⟨by decide,rfl⟩,λn=>by rw[show bD gV=6 from by decide];rfl⟩
     · unfold bD at h;rw[if_neg h1,if_neg h2,if_neg h3] at h;omega
theorem Fp {w:List UInt8} (h:bD w=4):w=fT:=by
 unfold bD at h
 split at h
 · assumption
 · split at h
   · omega
   · split at h<;>omega
theorem RM:∀(f:Nat) (tag:Option (List UInt8)) (s:List UInt8) (fo:Fo) (r:List UInt8),pA f tag s=some (fo,r)→Wf tag fo∧s=fo.tx++r:=by
 intro f
 induction f with
 | zero=>intro tag s fo r h;simp[pA] at h
 | succ f ih =>
  intro tag s fo r h;have hd:s=s.take (aj s)++s.drop (aj s):=(List.take_append_drop _ _).symm;cases tag with
  | none =>
   by_cases hp:eA s
   · rw [kI f s hp] at h
     generalize s.drop (aj s)=s1 at h hd;generalize s.take (aj s)=w at h hd;unfold pW at h;split at h
     · rename_i h0
       obtain⟨h1,h2⟩:=CY h0;simp only[Option.some.injEq,Prod.mk.injEq] at h;obtain⟨rfl,rfl⟩:=h;refine⟨.word _ h1,?_⟩;rw[Fo.dR,h2,hd];simp[Fo.br]
     · split at h
       · rename_i hk
         obtain⟨h1,h2⟩:=Fq hk;split at h
         · rename_i s2
           split at h
           · rename_i OD r2 e2
             split at h
             · rename_i hl
               obtain⟨i1,i2⟩:=ih _ _ _ _ e2;simp only[Option.some.injEq,Prod.mk.injEq] at h;obtain⟨rfl,rfl⟩:=h;refine⟨.rcd _ _ _ h1 i1 hl,?_⟩;rw[Fo.dR,h2,Fo.jG i1.ne,hd,i2];simp
             · simp at h
           · simp at h
         · simp at h
       · rename_i hnr
         split at h
         · rename_i hk
           split at h
           · rename_i s2
             split at h
             · rename_i OD r2 e2
               obtain⟨i1,i2⟩:=ih _ _ _ _ e2;have hne:OD≠ .nil:=by obtain⟨t,rfl⟩:=i1.one;simp[Fo.one]
               simp only[Option.some.injEq,Prod.mk.injEq] at h;obtain⟨rfl,rfl⟩:=h
               by_cases h4:bD w=4
               · have:=Fp h4
                 subst this;rw[if_pos h4];refine⟨.arr _ i1,?_⟩;rw[Fo.dR,Fo.jG hne,hd,i2];simp[cB]
               · rw[if_neg h4]
                 refine⟨.app _ _ (hk.resolve_left h4) i1,?_⟩;rw[Fo.dR,Fo.jG hne,hd,i2];simp[cB]
             · simp at h
           · split at h
             · simp at h
             · rename_i h4
               simp only[Option.some.injEq,Prod.mk.injEq] at h;obtain⟨rfl,rfl⟩:=h;refine⟨.nam _ (hk.resolve_left h4),?_⟩;rw[Fo.dR,hd];simp[Fo.br,cB]
         · simp at h
   · unfold eA at hp
     simp only[ne_eq,Classical.not_forall,Decidable.not_not] at hp;obtain⟨r',rfl⟩:=hp;rw[jx] at h;simp only[Option.some.injEq,Prod.mk.injEq] at h;obtain⟨rfl,rfl⟩:=h;exact⟨.par,by rw[Fo.dR];simp[cB,Fo.br]⟩
  | some b =>
   rw[jo] at h;split at h
   · rename_i hn
     obtain⟨Av,hn2⟩:=hn;generalize s.drop (aj s)=s1 at h hd;generalize s.take (aj s)=w at h hd Av hn2;unfold pV at h;split at h
     · rename_i s2
       split at h
       · rename_i px k n sub x r1 e1
         obtain⟨i1,i2⟩:=ih _ _ _ _ e1;have hx:px=[]∧x=.nil:=by
          obtain⟨t,ht⟩:=i1.one;simp only[Fo.one,Fo.cons.injEq] at ht;exact⟨ht.1,ht.2.2.2.2⟩
         obtain⟨rfl,rfl⟩:=hx;split at h
         · split at h
           · rename_i fo r3 e2
             obtain⟨j1,j2⟩:=ih _ _ _ _ e2;simp only[Option.some.injEq,Prod.mk.injEq] at h;obtain⟨rfl,rfl⟩:=h;refine⟨.more _ _ _ _ _ _ Av hn2 i1 j1,?_⟩;rw[Fo.js _ _ _ _ _ j1.ne,fB Av,hd,i2,j2];simp
           · simp at h
         · simp only[Option.some.injEq,Prod.mk.injEq] at h
           obtain⟨rfl,rfl⟩:=h;refine⟨.last _ _ _ _ _ Av hn2 i1,?_⟩;rw[Fo.jr,fB Av,hd,i2];simp
       · simp at h
     · simp at h
   · simp at h
def Tr.ok (t:Tr):Prop:=Wf none (.one t)
theorem FO {s r:List UInt8} {t:Tr} (h:aY s=some (t,r)):t.ok∧s=t.txt++r:=by
 rw[Tr.eT]
 refine RM (s.length+1) none s (.one t) r ?_
 rw[jf (by omega),h];rfl
def ends (r:List UInt8):Prop:=aj r=0∧∀r',r≠91::r'
theorem Ac:ends []:=⟨rfl,by simp⟩
theorem kV (r:List UInt8):ends (93::r):=⟨by rw[bI];rfl,by simp⟩
theorem oZ (r:List UInt8):ends (44::r):=⟨by rw[bI];rfl,by simp⟩
theorem nh:∀w:List UInt8,aj w=w.length→∀r,aj r=0→aj (w++r)=w.length
 | [],_,r,h=>h
 | c::w,h,r,hr=>by
  rw[bI] at h;split at h
  · rename_i hc
    rw[List.cons_append,bI,if_pos hc,nh w (by simpa using h) r hr];rfl
  · simp at h
theorem gv {w r:List UInt8} (hw:aj w=w.length) (hr:aj r=0):(w++r).take (aj (w++r))=w∧(w++r).drop (aj (w++r))=r:=by
 rw[nh w hw r hr]
 simp
theorem eO {n:List UInt8} (h:isName n=true):aj n=n.length:=by
 cases n with
 | nil=>rfl
 | cons c r=>simp[isName] at h;exact h.1.2
theorem uF {n:List UInt8} (h:isName n=true):di n=0∧bD n=0:=by
 have hw:isWord n=false:=by
  cases n with
  | nil=>rfl
  | cons c r=>simp[isName] at h;exact h.2
 constructor
 · unfold di
   rw[if_neg (by rintro rfl;revert hw;decide),if_neg (by rintro rfl;revert hw;decide),if_neg (by rintro rfl;revert hw;decide)]
 · unfold bD
   rw[if_neg (by rintro rfl;revert hw;decide),if_neg (by rintro rfl;revert hw;decide),if_neg (by rintro rfl;revert hw;decide)]
theorem j9 {w:List UInt8} (r:List UInt8) (hw:aj w=w.length) (hne:w≠[]):eA (w++r):=by
 cases w with
 | nil=>exact absurd rfl hne
 | cons c w=>
  intro r' e;simp only[List.cons_append,List.cons.injEq] at e;obtain⟨rfl,_⟩:=e;rw[bI] at hw;simp[gh] at hw
def Reads:Option (List UInt8)→Fo→Prop
 | none,fo=>∀t:Tr,fo=.one t→∀r,ends r→aY (fo.tx++r)=some (t,r)
 | some b,fo=>∀r,ends r→(∀r',r≠44::r')→dc b (fo.tx++r)=some (fo,r)
theorem Wf.reads {tag:Option (List UInt8)} {fo:Fo} (h:Wf tag fo):Reads tag fo:=by
 induction h with
 | par=>
  intro t ht r _;obtain rfl:t=⟨8,[],.nil⟩:=by cases t;simp[Fo.one] at ht;simp[ht]
  rw[Fo.dR];exact l8 r
 | word k h=>
  intro t ht r hr;obtain rfl:t=⟨k,[],.nil⟩:=by cases t;simp[Fo.one] at ht;simp[ht]
  have hw:aj (cB k [])=(cB k []).length∧cB k []≠[]∧di (cB k [])=k:=by
   rcases h with rfl|rfl|rfl<;>decide
  rw[Fo.dR];simp only[Fo.br,List.append_nil];obtain⟨e1,e2⟩:=gv hw.1 hr.1;rw[nH (j9 r hw.1 hw.2.1) (by rw[e1,hw.2.2];omega),e1,e2,hw.2.2]
 | arr a h ih=>
  intro t ht r hr;obtain rfl:t=⟨4,fT,a⟩:=by cases t;simp[Fo.one] at ht;simp[ht]
  obtain⟨ta,rfl⟩:=h.one;rw[Fo.dR,Fo.jG (by simp[Fo.one])];have hc:aj (91::((Fo.one ta).tx++[93])++r)=0:=by rw[List.cons_append,bI];rfl
  have hw:aj fT=fT.length:=by decide
  rw[show cB 4 fT=fT from rfl,List.append_assoc];obtain⟨e1,e2⟩:=gv hw hc;have:=ih ta rfl (93::r) (kV r);rw[kg (s2:=(Fo.one ta).tx++93::r) (j9 _ hw (by decide)) (by rw[e1];decide) (.inl (by rw[e1];decide)) (by rw[e2];simp),this];simp only;rw[e1]
  rfl
 | rcd k w fo hk h hl ih=>
  intro t ht r hr;obtain rfl:t=⟨k,w,fo⟩:=by cases t;simp[Fo.one] at ht;simp[ht]
  rw[Fo.dR,Fo.jG h.ne];have hc:aj (91::(fo.tx++[93])++r)=0:=by rw[List.cons_append,bI];rfl
  have hw:cB k w=w∧aj w=w.length∧w≠[]∧di w=0∧bD w=k∧(k=5∨k=6):=by
   rcases hk with⟨rfl,rfl⟩|⟨rfl,rfl⟩<;>decide
  rw[hw.1,List.append_assoc];obtain⟨e1,e2⟩:=gv hw.2.1 hc;have:=ih (93::r) (kV r) (by simp);rw[pX (s2:=fo.tx++93::r) (j9 _ hw.2.1 hw.2.2.1) (by rw[e1];exact hw.2.2.2.1) (by rw[e1,hw.2.2.2.2.1];exact hw.2.2.2.2.2) (by rw[e2];simp),this];simp only;rw[e1,if_pos hl,hw.2.2.2.2.1]
 | nam n hn=>
  intro t ht r hr;obtain rfl:t=⟨7,n,.nil⟩:=by cases t;simp[Fo.one] at ht;simp[ht]
  rw[Fo.dR];simp only[Fo.br,List.append_nil];obtain⟨e1,e2⟩:=gv (eO hn) hr.1;obtain⟨k1,k2⟩:=uF hn;rw[show cB 7 n=n from rfl,kJ (j9 r (eO hn) (jm hn)) (by rw[e1];exact k1) (by rw[e1];exact k2) (by rw[e1];exact hn) (by rw[e2];exact hr.2),e1,e2]
 | app n a hn h ih=>
  intro t ht r hr;obtain rfl:t=⟨7,n,a⟩:=by cases t;simp[Fo.one] at ht;simp[ht]
  obtain⟨ta,rfl⟩:=h.one;obtain⟨k1,k2⟩:=uF hn;rw[Fo.dR,Fo.jG (by simp[Fo.one])];have hc:aj (91::((Fo.one ta).tx++[93])++r)=0:=by rw[List.cons_append,bI];rfl
  have hw:=eO hn;rw[show cB 7 n=n from rfl,List.append_assoc];obtain⟨e1,e2⟩:=gv hw hc;have:=ih ta rfl (93::r) (kV r);rw[kg (s2:=(Fo.one ta).tx++93::r) (j9 _ hw (jm hn)) (by rw[e1];exact k1) (.inr (by rw[e1];exact⟨k2,hn⟩)) (by rw[e2];simp),this];simp only;rw[e1,k2]
  rfl
 | last b pn k n sub hn hb h ih=>
  intro r hr hr2;rw[Fo.jr,fB hn];have hc:aj (58::((Fo.cons [] k n sub .nil).tx++r))=0:=by rw[bI];rfl
  obtain⟨e1,e2⟩:=gv (eO hn) hc;have:=ih ⟨k,n,sub⟩ rfl r hr;rw[show pn++[58]++(Fo.cons [] k n sub Fo.nil).tx++r=pn++58::((Fo.cons [] k n sub .nil).tx++r) from by simp];rw[ou (s2:=(Fo.cons [] k n sub .nil).tx++r) (by rw[e1];exact hn) (by rw[e1];exact hb) e2,this,e1];simp only
 | more b pn k n sub rest hn hb h h2 ih ih2=>
  intro r hr hr2;rw[Fo.js _ _ _ _ _ h2.ne,fB hn];have hc:aj (58::((Fo.cons [] k n sub .nil).tx++44::(rest.tx++r)))=0:=by rw[bI];rfl
  obtain⟨e1,e2⟩:=gv (eO hn) hc;have:=ih ⟨k,n,sub⟩ rfl (44::(rest.tx++r)) (oZ _);have h3:=ih2 r hr hr2;rw[show pn++[58]++((Fo.cons [] k n sub Fo.nil).tx++44::rest.tx)++r=pn++58::((Fo.cons [] k n sub .nil).tx++44::(rest.tx++r)) from by simp];rw[ou (s2:=(Fo.cons [] k n sub .nil).tx++44::(rest.tx++r)) (by rw[e1];exact hn) (by rw[e1];exact hb) e2,this,e1];simp only;rw[h3]
theorem Tr.ok.reads {t:Tr} (h:t.ok) {r:List UInt8} (hr:ends r):aY (t.txt++r)=some (t,r):=by
 rw[Tr.eT];exact Wf.reads h t rfl r hr
theorem Tr.ok.reads' {t:Tr} (h:t.ok):aY t.txt=some (t,[]):=by
 have:=h.reads Ac;simpa using this
end Go.Proofs.YtakgjcfkdemipaaGreatDoor
namespace Go.Proofs.YtakgjcfkdemipaaGreatDoor
def Fo.put (a:Tr):Fo→Fo
 | .nil=>.nil
 | .cons pn k n sub rest=>if k=8 then .cons pn a.k a.n a.sub (rest.put a) else .cons pn k n (sub.put a) (rest.put a)
def Tr.put (t a:Tr):Tr:=if t.k=8 then a else⟨t.k,t.n,t.sub.put a⟩
theorem Fo.Ew (a t:Tr):(Fo.one t).put a=.one (t.put a):=by
 unfold Tr.put
 rw[Fo.one,Fo.put]
 split<;>simp[Fo.one,Fo.put]
theorem Fo.Ev (a:Tr):∀fo:Fo,(fo.put a).len=fo.len
 | .nil=>rfl
 | .cons pn k n sub rest=>by
  rw[Fo.put];split<;>simp only[Fo.len,Fo.Ev a rest]
def Fo.pS:Fo→Bool
 | .nil=>false
 | .cons _ k _ sub rest=>decide (k=8)||sub.pS||rest.pS
def Tr.pS (t:Tr):Bool:=decide (t.k=8)||t.sub.pS
theorem Fo.Lb (t:Tr):(Fo.one t).pS=t.pS:=by simp[Fo.one,Fo.pS,Tr.pS]
theorem Wf.NT {n:List UInt8} {sub:Fo} (h:Wf none (.cons [] 8 n sub .nil)):n=[]∧sub=.nil:=by
 cases h with
 | par=>exact⟨rfl,rfl⟩
 | word k h=>simp
 | rcd k w fo hk=>simp at hk
theorem Wf.put {a:Tr} (ha:a.ok) {tag:Option (List UInt8)} {fo:Fo} (h:Wf tag fo):Wf tag (fo.put a):=by
 induction h with
 | par=>rw[Fo.put,if_pos rfl];exact ha
 | word k h=>rw[Fo.put,if_neg (by omega)];exact .word k h
 | arr x h ih=>rw[Fo.put,if_neg (by omega)];exact .arr _ ih
 | rcd k w fo hk h hl ih=>rw[Fo.put,if_neg (by omega)];exact .rcd k w _ hk ih (by rw[Fo.Ev];exact hl)
 | nam n hn=>rw[Fo.put,if_neg (by omega)];exact .nam n hn
 | app n x hn h ih=>rw[Fo.put,if_neg (by omega)];exact .app n _ hn ih
 | last b pn k n sub hn hb h ih=>
  rw[Fo.put] at ih ⊢;split at ih
  · rw[if_pos ‹_›];exact .last _ _ _ _ _ hn hb ih
  · rw[if_neg ‹_›];exact .last _ _ _ _ _ hn hb ih
 | more b pn k n sub rest hn hb h h2 ih ih2=>
  rw[Fo.put] at ih ⊢;split at ih
  · rw[if_pos ‹_›];exact .more _ _ _ _ _ _ hn hb ih ih2
  · rw[if_neg ‹_›];exact .more _ _ _ _ _ _ hn hb ih ih2
theorem Tr.ok.put {a t:Tr} (ha:a.ok) (ht:t.ok):(t.put a).ok:=by
 unfold Tr.ok;rw[←Fo.Ew];exact Wf.put ha ht
def subst (a:List UInt8):List UInt8→List UInt8
 | []=>[]
 | [c]=>if c=63 then a else [c]
 | c::d::r=>if c=63 then a++subst a r else c::subst a (d::r)
theorem yj (a:List UInt8) (d:UInt8) (r:List UInt8):subst a (63::d::r)=a++subst a r:=by
 rw[subst,if_pos rfl]
theorem gl (a:List UInt8) (c:UInt8) (r:List UInt8) (h:c≠63):subst a (c::r)=c::subst a r:=by
 cases r with
 | nil=>simp[subst,h]
 | cons d r=>rw[subst,if_neg h]
theorem mq (a:List UInt8):∀(w r:List UInt8),aj w=w.length→subst a (w++r)=w++subst a r
 | [],_,_=>rfl
 | c::w,r,h=>by
  rw[bI] at h;split at h
  · rename_i hc
    rw[List.cons_append,gl _ _ _ (by rintro rfl;simp[gh] at hc),mq a w r (by simpa using h)];rfl
  · simp at h
theorem jk {k:Nat} {n:List UInt8} {sub:Fo} (h:Wf none (.cons [] k n sub .nil)) (hk:k≠8):aj (cB k n)=(cB k n).length:=by
 cases h with
 | par=>exact absurd rfl hk
 | word k h=>rcases h with rfl|rfl|rfl<;>decide
 | arr a h=>decide
 | rcd k w fo hk=>rcases hk with⟨rfl,rfl⟩|⟨rfl,rfl⟩<;>decide
 | nam n hn=>exact eO hn
 | app n a hn h=>exact eO hn
theorem Fo.Dp (a:Tr) {fo:Fo} (h:fo≠ .nil):fo.put a≠ .nil:=by
 cases fo with
 | nil=>exact absurd rfl h
 | cons pn k n sub rest=>rw[Fo.put];split<;>simp
theorem JQ {a:Tr} {sub:Fo} (h:sub≠ .nil→∀r,subst a.txt (sub.tx++r)=(sub.put a).tx++subst a.txt r) (r:List UInt8):subst a.txt (sub.br++r)=(sub.put a).br++subst a.txt r:=by
 by_cases hn:sub=.nil
 · subst hn;rfl
 · rw[Fo.jG hn,Fo.jG (Fo.Dp a hn),List.cons_append,gl _ _ _ (by decide),List.append_assoc,h hn,List.singleton_append,gl _ _ _ (by decide)]
   simp
theorem Wf.subst {a:Tr} {tag:Option (List UInt8)} {fo:Fo} (h:Wf tag fo):∀r,subst a.txt (fo.tx++r)=(fo.put a).tx++subst a.txt r:=by
 have key:∀(k:Nat) (n:List UInt8) (sub:Fo),Wf none (.cons [] k n sub .nil)→(sub≠ .nil→∀r,Proofs.YtakgjcfkdemipaaGreatDoor.subst a.txt (sub.tx++r)=(sub.put a).tx++Proofs.YtakgjcfkdemipaaGreatDoor.subst a.txt r)→
  ∀r,Proofs.YtakgjcfkdemipaaGreatDoor.subst a.txt ((Fo.cons [] k n sub .nil).tx++r)=((Fo.cons [] k n sub .nil).put a).tx++Proofs.YtakgjcfkdemipaaGreatDoor.subst a.txt r:=by
  intro k n sub h ih r;rw[Fo.put]
  by_cases hk:k=8
  · subst hk
    obtain⟨rfl,rfl⟩:=h.NT;rw[if_pos rfl,Fo.dR]
    show Proofs.YtakgjcfkdemipaaGreatDoor.subst a.txt (63::116::r)=_
    rw[yj]
    show _=(Fo.one a).tx++_
    rw[Tr.eT]
  · rw[if_neg hk,Fo.dR,List.append_assoc,mq _ _ _ (jk h hk),JQ ih]
    show _=(Fo.cons [] k n (sub.put a) .nil).tx++_
    rw[Fo.dR,List.append_assoc]
 induction h with
 | par=>exact key _ _ _ .par (λh=>absurd rfl h)
 | word k h=>exact key _ _ _ (.word k h) (λh=>absurd rfl h)
 | arr x h ih=>exact key _ _ _ (.arr x h) (λ_=>ih)
 | rcd k w fo hk h hl ih=>exact key _ _ _ (.rcd k w fo hk h hl) (λ_=>ih)
 | nam n hn=>exact key _ _ _ (.nam n hn) (λh=>absurd rfl h)
 | app n x hn h ih=>exact key _ _ _ (.app n x hn h) (λ_=>ih)
 | last b pn k n sub hn hb h ih=>
  intro r;have hc:aj pn=pn.length:=eO hn;have e:((Fo.cons pn k n sub .nil).put a).tx=mS pn++((Fo.cons [] k n sub .nil).put a).tx:=by
   by_cases hk:k=8
   · simp only[Fo.put,if_pos hk];rw[Fo.jr]
   · simp only[Fo.put,if_neg hk];rw[Fo.jr]
  rw[e,Fo.jr,fB hn,List.append_assoc,List.append_assoc,mq _ _ _ hc,List.singleton_append,gl _ _ _ (by decide),ih];simp
 | more b pn k n sub rest hn hb h h2 ih ih2=>
  intro r;have hc:aj pn=pn.length:=eO hn;have e:((Fo.cons pn k n sub rest).put a).tx=mS pn++(((Fo.cons [] k n sub .nil).put a).tx++44::(rest.put a).tx):=by
   by_cases hk:k=8
   · simp only[Fo.put,if_pos hk];rw[Fo.js _ _ _ _ _ (Fo.Dp a h2.ne)]
   · simp only[Fo.put,if_neg hk];rw[Fo.js _ _ _ _ _ (Fo.Dp a h2.ne)]
  rw[e,Fo.js _ _ _ _ _ h2.ne,fB hn];simp only[List.append_assoc,List.nil_append,List.cons_append];rw[mq _ _ _ hc,gl _ _ _ (by decide),ih,gl _ _ _ (by decide),ih2]
theorem Tr.ok.subst {a t:Tr} (ht:t.ok):subst a.txt t.txt=(t.put a).txt:=by
 have:=Wf.subst (a:=a) ht []
 rw[Fo.Ew,←Tr.eT,←Tr.eT] at this
 simpa[Proofs.YtakgjcfkdemipaaGreatDoor.subst] using this
def gC (s:List UInt8):Bool:=s.any (λc=>decide (c=63))
theorem rB {w:List UInt8} (h:aj w=w.length):gC w=false:=by
 induction w with
 | nil=>rfl
 | cons c w ih=>
  rw[bI] at h;split at h
  · rename_i hc
    have:c≠63:=by rintro rfl;simp[gh] at hc
    unfold gC at ih ⊢;rw[List.any_cons,ih (by simpa using h)];simp[this]
  · simp at h
theorem jW (s r:List UInt8):gC (s++r)=(gC s||gC r):=by simp[gC]
theorem rA (c:UInt8) (r:List UInt8) (h:c≠63):gC (c::r)=gC r:=by simp[gC,h]
theorem Wf.gC {tag:Option (List UInt8)} {fo:Fo} (h:Wf tag fo):gC fo.tx=fo.pS:=by
 have key:∀(k:Nat) (n:List UInt8) (sub:Fo),Wf none (.cons [] k n sub .nil)→(sub≠ .nil→Proofs.YtakgjcfkdemipaaGreatDoor.gC sub.tx=sub.pS)→Proofs.YtakgjcfkdemipaaGreatDoor.gC (Fo.cons [] k n sub .nil).tx=(Fo.cons [] k n sub .nil).pS:=by
  intro k n sub h ih;rw[Fo.dR,jW,Fo.pS];have hb:Proofs.YtakgjcfkdemipaaGreatDoor.gC sub.br=sub.pS:=by
   by_cases hn:sub=.nil
   · subst hn;rfl
   · rw[Fo.jG hn,rA _ _ (by decide),jW,ih hn];simp[Proofs.YtakgjcfkdemipaaGreatDoor.gC]
  rw[hb]
  by_cases hk:k=8
  · subst hk;simp[cB,Proofs.YtakgjcfkdemipaaGreatDoor.gC]
  · rw[rB (jk h hk)];simp[hk,Fo.pS]
 induction h with
 | par=>exact key _ _ _ .par (λh=>absurd rfl h)
 | word k h=>exact key _ _ _ (.word k h) (λh=>absurd rfl h)
 | arr x h ih=>exact key _ _ _ (.arr x h) (λ_=>ih)
 | rcd k w fo hk h hl ih=>exact key _ _ _ (.rcd k w fo hk h hl) (λ_=>ih)
 | nam n hn=>exact key _ _ _ (.nam n hn) (λh=>absurd rfl h)
 | app n x hn h ih=>exact key _ _ _ (.app n x hn h) (λ_=>ih)
 | last b pn k n sub hn hb h ih=>
  rw[Fo.jr,fB hn,jW,jW,rB (eO hn),ih];simp[Fo.pS,Proofs.YtakgjcfkdemipaaGreatDoor.gC]
 | more b pn k n sub rest hn hb h h2 ih ih2=>
  rw[Fo.js _ _ _ _ _ h2.ne,fB hn,jW,jW,jW,rB (eO hn),ih,rA 44 _ (by decide),ih2];simp[Fo.pS,Proofs.YtakgjcfkdemipaaGreatDoor.gC]
theorem Tr.ok.gC {t:Tr} (h:t.ok):gC t.txt=t.pS:=by rw[Tr.eT,Wf.gC h,Fo.Lb]
theorem Fo.lG (a:Tr):∀fo:Fo,(∀pn k n sub rest,fo=.cons pn k n sub rest→True)→(fo.put a).level+1≤fo.level+a.level
 | .nil,_=>by simp only[Fo.put,Fo.level,Tr.level];omega
 | .cons pn k n sub rest,_=>by
  have h1:=Fo.lG a sub (λ_ _ _ _ _ _=>trivial);have h2:=Fo.lG a rest (λ_ _ _ _ _ _=>trivial);rw[Fo.put];split
  · simp only[Fo.level,Tr.level] at *;omega
  · simp only[Fo.level,Tr.level] at *;omega
theorem Tr.lG (a t:Tr):(t.put a).level+1≤t.level+a.level:=by
 have h:=Fo.lG a t.sub (λ_ _ _ _ _ _=>trivial)
 unfold Tr.put
 split
 · simp only[Tr.level] at *;omega
 · simp only[Tr.level] at *;omega
def Fo.find:Fo→Fo→Option Tr
 | .cons _ k _ sub rest,.cons _ k' n' sub' rest'=>
  if k=8 then some ⟨k',n',sub'⟩
  else if sub.pS then(if k=k'∧sub.len=sub'.len then sub.find sub' else none)
  else rest.find rest'
 | _,_=>none
def Tr.find (p x:Tr):Option Tr:=
 if p.k=8 then some x else if p.k=x.k∧p.sub.len=x.sub.len then p.sub.find x.sub else none
theorem Wf.inner {k:Nat} {n:List UInt8} {sub:Fo} (h:Wf none (.cons [] k n sub .nil)):sub=.nil∨∃tag,Wf tag sub:=by
 cases h with
 | par=>exact .inl rfl
 | word=>exact .inl rfl
 | arr a h=>exact .inr ⟨_,h⟩
 | rcd k w fo hk h=>exact .inr ⟨_,h⟩
 | nam=>exact .inl rfl
 | app n a hn h=>exact .inr ⟨_,h⟩
theorem Wf.head {tag:Option (List UInt8)} {pn:List UInt8} {k:Nat} {n:List UInt8} {sub rest:Fo} (h:Wf tag (.cons pn k n sub rest)):Wf none (.cons [] k n sub .nil)∧(rest=.nil∨∃tag',Wf tag' rest):=by
 cases h with
 | par=>exact⟨.par,.inl rfl⟩
 | word k h=>exact⟨.word k h,.inl rfl⟩
 | arr _ h=>exact⟨.arr _ h,.inl rfl⟩
 | rcd k w fo hk h hl=>exact⟨.rcd _ _ _ hk h hl,.inl rfl⟩
 | nam n hn=>exact⟨.nam _ hn,.inl rfl⟩
 | app n a hn h=>exact⟨.app _ _ hn h,.inl rfl⟩
 | last b pn k n sub hn hb h=>exact⟨h,.inl rfl⟩
 | more b pn k n sub rest hn hb h h2=>exact⟨h,.inr ⟨_,h2⟩⟩
end Go.Proofs.YtakgjcfkdemipaaGreatDoor
namespace Go.Proofs.YtakgjcfkdemipaaGreatDoor
open Go.RowKit
def ko (w:World) (D:Nat→Prop):Fo→List Value→Prop
 | .nil,cs=>cs=[]
 | .cons pn k n sub rest,cs=>∃v cs' sc,cs=str pn::.int .u8 k::str n::v::cs'∧w.ownsRow 0 192 4 v sub.len sc∧(∀b,v.ownBlock=some b→D b)∧ko w D sub sc∧ko w D rest cs'
def eX (w:World) (D:Nat→Prop) (fo:Fo) (v:Value):Prop:=∃sc,w.ownsRow 0 192 4 v fo.len sc∧(∀b,v.ownBlock=some b→D b)∧ko w D fo sc
theorem ko.kept {w w':World} {D:Nat→Prop} (hb:∀b,D b→b<w.heap.size→w'.heap[b]? =w.heap[b]?):∀(fo:Fo) (cs:List Value),ko w D fo cs→ko w' D fo cs
 | .nil,_,h=>h
 | .cons _ _ _ sub rest,_,⟨v,cs',sc,e,h1,h2,h3,h4⟩=>
  ⟨v,cs',sc,e,dL h1 (λb e=>hb b (h2 b e) (aV h1 e)),h2,ko.kept hb sub sc h3,ko.kept hb rest cs' h4⟩
theorem ko.mono {w:World} {D D':Nat→Prop} (hD:∀b,D b→b<w.heap.size→D' b):∀(fo:Fo) (cs:List Value),ko w D fo cs→ko w D' fo cs
 | .nil,_,h=>h
 | .cons _ _ _ sub rest,_,⟨v,cs',sc,e,h1,h2,h3,h4⟩=>⟨v,cs',sc,e,h1,λb e=>hD b (h2 b e) (aV h1 e),ko.mono hD sub sc h3,ko.mono hD rest cs' h4⟩
theorem ko.length {w:World} {D:Nat→Prop}:∀(fo:Fo) (cs:List Value),ko w D fo cs→cs.length=fo.len * 4
 | .nil,_,h=>by rw[show _=[] from h];simp[Fo.len]
 | .cons _ _ _ _ rest,_,⟨v,cs',sc,e,_,_,_,h4⟩=>by
  have:=ko.length rest cs' h4;rw[e];simp[Fo.len,this];omega
theorem eX.kept {w w':World} {D:Nat→Prop} (hb:∀b,D b→b<w.heap.size→w'.heap[b]? =w.heap[b]?) {fo:Fo} {v:Value} (h:eX w D fo v):eX w' D fo v:=by
 obtain⟨sc,h1,h2,h3⟩:=h
 exact⟨sc,dL h1 (λb e=>hb b (h2 b e) (aV h1 e)),h2,h3.kept hb⟩
theorem eX.mono {w:World} {D D':Nat→Prop} (hD:∀b,D b→b<w.heap.size→D' b) {fo:Fo} {v:Value} (h:eX w D fo v):eX w D' fo v:=by
 obtain⟨sc,h1,h2,h3⟩:=h
 exact⟨sc,h1,λb e=>hD b (h2 b e) (aV h1 e),h3.mono hD⟩
theorem eX.nil (w:World) (D:Nat→Prop):eX w D .nil (.slice none 0 0):=⟨[],World.ownsRow_nil _ _ _ _,by intro b h;simp[Value.ownBlock] at h,rfl⟩
theorem eX.below {B:Nat} {w w':World} {D:Nat→Prop} {fo:Fo} {v:Value} (h:eX w D fo v) (hb:Below B w w') (hB:w.heap.size≤B):eX w' D fo v:=
 h.kept λb _ hlt=>hb.block b (by omega)
def Fo.app:Fo→Fo→Fo
 | .nil,g=>g
 | .cons pn k n sub rest,g=>.cons pn k n sub (rest.app g)
theorem Fo.wN:∀f g h:Fo,(f.app g).app h=f.app (g.app h)
 | .nil,_,_=>rfl
 | .cons pn k n sub rest,g,h=>by rw[Fo.app,Fo.app,Fo.app,Fo.wN rest g h]
theorem Fo.yT:∀f g:Fo,(f.app g).len=f.len+g.len
 | .nil,g=>by simp[Fo.app,Fo.len]
 | .cons pn k n sub rest,g=>by rw[Fo.app,Fo.len,Fo.yT rest g,Fo.len];omega
theorem ko.app {w:World} {D:Nat→Prop} {g:Fo} {cg:List Value} (hg:ko w D g cg):∀(fo:Fo) (cs:List Value),ko w D fo cs→ko w D (fo.app g) (cs++cg)
 | .nil,_,h=>by rw[show _=[] from h];exact hg
 | .cons _ _ _ _ rest,_,⟨v,cs',sc,e,h1,h2,h3,h4⟩=>⟨v,cs'++cg,sc,by rw[e];rfl,h1,h2,h3,ko.app hg rest cs' h4⟩
theorem ko.single {w:World} {D:Nat→Prop} {pn n:List UInt8} {k:Nat} {sub:Fo} {v:Value} (h:eX w D sub v):ko w D (.cons pn k n sub .nil) [str pn,.int .u8 k,str n,v]:=by
 obtain⟨sc,h1,h2,h3⟩:=h
 exact⟨v,[],sc,rfl,h1,h2,h3,rfl⟩
def Fo.last:Fo→List UInt8
 | .nil=>[]
 | .cons pn _ _ _ .nil=>pn
 | .cons _ _ _ _ (.cons pn k n sub rest)=>Fo.last (.cons pn k n sub rest)
theorem Fo.xM (pn:List UInt8) (k:Nat) (n:List UInt8) (sub:Fo):∀f:Fo,(f.app (.cons pn k n sub .nil)).last=pn
 | .nil=>rfl
 | .cons _ _ _ _ .nil=>rfl
 | .cons _ _ _ _ (.cons wD k' n' sub' rest)=>by
  rw[Fo.app];have:=Fo.xM pn k n sub (.cons wD k' n' sub' rest);rw[Fo.app] at this ⊢;rw[Fo.last];exact this
theorem ko.last {w:World} {D:Nat→Prop}:∀(fo:Fo) (cs:List Value),ko w D fo cs→fo.len≠0→cs[(fo.len - 1) * 4]? =some (str fo.last)
 | .nil,_,_,h=>by simp[Fo.len] at h
 | .cons pn _ _ _ .nil,_,⟨v,cs',sc,e,_,_,_,_⟩,_=>by rw[e];simp[Fo.len,Fo.last]
 | .cons _ _ _ _ (.cons pn k n sub rest),_,⟨v,cs',sc,e,_,_,_,h4⟩,_=>by
  have:=ko.last (.cons pn k n sub rest) cs' h4 (by simp[Fo.len]);rw[Fo.last,←this,e];simp only[Fo.len];rw[show(rest.len+1+1 - 1) * 4=(rest.len+1 - 1) * 4+1+1+1+1 from by omega];simp
end Go.Proofs.YtakgjcfkdemipaaGreatDoor
namespace Go.Proofs.YtakgjcfkdemipaaGreatDoor
open Go.RowKit
def Fo.at:Fo→Nat→Option (List UInt8×Tr)
 | .nil,_=>none
 | .cons pn k n sub _,0=>some (pn,⟨k,n,sub⟩)
 | .cons _ _ _ _ rest,i+1=>rest.at i
def Fo.kF:Fo→Nat→Nat
 | _,0=>0
 | .nil,_+1=>0
 | .cons _ _ _ sub rest,i+1=>max (sub.level+1) (rest.kF i)
theorem ko.at {w:World} {D:Nat→Prop}:∀(fo:Fo) (cs:List Value) (i:Nat),ko w D fo cs→i<fo.len→∃pn t v,fo.at i=some (pn,t)∧cs[i * 4]? =some (str pn)∧cs[i * 4+1]? =some (.int .u8 t.k)∧cs[i * 4+2]? =some (str t.n)∧cs[i * 4+3]? =some v∧eX w D t.sub v
 | .nil,_,_,_,h=>by simp[Fo.len] at h
 | .cons pn k n sub rest,_,0,⟨v,cs',sc,e,h1,h2,h3,_⟩,_=>⟨pn,⟨k,n,sub⟩,v,rfl,by rw[e];rfl,by rw[e];rfl,by rw[e];rfl,by rw[e];rfl,sc,h1,h2,h3⟩
 | .cons pn k n sub rest,_,i+1,⟨v,cs',sc,e,h1,h2,h3,h4⟩,hi=>by
  obtain⟨wD,t,v',a,b0,b1,b2,b3,c⟩:=ko.at rest cs' i h4 (by simp only[Fo.len] at hi;omega);have hs:∀j,(str pn::.int .u8 k::str n::v::cs')[(i+1) * 4+j]? =cs'[i * 4+j]? :=by
   intro j;rw[show(i+1) * 4+j=(i * 4+j)+1+1+1+1 from by omega];simp
  refine⟨wD,t,v',a,?_,?_,?_,?_,c⟩
  · rw[e];exact(hs 0).trans b0
  · rw[e];exact(hs 1).trans b1
  · rw[e];exact(hs 2).trans b2
  · rw[e];exact(hs 3).trans b3
theorem Fo.uB:∀(fo:Fo) (i:Nat) (pn:List UInt8) (t:Tr),fo.at i=some (pn,t)→fo.kF (i+1)=max (fo.kF i) (t.sub.level+1)
 | .nil,_,_,_,h=>by simp[Fo.at] at h
 | .cons _ _ _ sub rest,0,_,_,h=>by
  simp only[Fo.at,Option.some.injEq,Prod.mk.injEq] at h;obtain⟨_,rfl⟩:=h;simp[Fo.kF]
 | .cons _ _ _ sub rest,i+1,pn,t,h=>by
  have:=Fo.uB rest i pn t h;rw[Fo.kF,this,Fo.kF];omega
theorem Fo.xN:∀fo:Fo,fo.kF fo.len=fo.level
 | .nil=>rfl
 | .cons _ _ _ sub rest=>by rw[Fo.len,Fo.kF,Fo.xN rest,Fo.level]
theorem Fo.kU:∀(fo:Fo) (i:Nat) (pn:List UInt8) (t:Tr),fo.at i=some (pn,t)→t.sub.level+1≤fo.level
 | .nil,_,_,_,h=>by simp[Fo.at] at h
 | .cons _ _ _ sub rest,0,_,_,h=>by
  simp only[Fo.at,Option.some.injEq,Prod.mk.injEq] at h;obtain⟨_,rfl⟩:=h;rw[Fo.level];exact Nat.le_max_left _ _
 | .cons _ _ _ sub rest,i+1,pn,t,h=>by
  have:=Fo.kU rest i pn t h;rw[Fo.level];omega
theorem Fo.AX:∀(fo:Fo) (i:Nat),fo.kF i≤fo.level
 | .nil,0=>nl _
 | .nil,_+1=>nl _
 | .cons _ _ _ _ _,0=>by simp[Fo.kF]
 | .cons _ _ _ sub rest,i+1=>by
  have:=Fo.AX rest i;rw[Fo.kF,Fo.level];omega
theorem Fo.tC:∀(fo:Fo) (i:Nat) (pn:List UInt8) (t:Tr),fo.at i=some (pn,t)→fo.txt[i]? =some (mS pn++t.txt)
 | .nil,_,_,_,h=>by simp[Fo.at] at h
 | .cons wD k n sub rest,0,pn,t,h=>by
  simp only[Fo.at,Option.some.injEq,Prod.mk.injEq] at h;obtain⟨rfl,rfl⟩:=h;rw[show Fo.cons wD k n sub rest=.cons wD (Tr.mk k n sub).k (Tr.mk k n sub).n (Tr.mk k n sub).sub rest from rfl,Fo.qO]
  rfl
 | .cons wD k n sub rest,i+1,pn,t,h=>by
  rw[show Fo.cons wD k n sub rest=.cons wD (Tr.mk k n sub).k (Tr.mk k n sub).n (Tr.mk k n sub).sub rest from rfl,Fo.qO,List.getElem?_cons_succ];exact Fo.tC rest i pn t h
end Go.Proofs.YtakgjcfkdemipaaGreatDoor
namespace Go.Proofs.YtakgjcfkdemipaaGreatDoor
open Go.RowKit
section
variable {P:Program} (w:World)
theorem gu (base:Nat) (t ty e:TypeId) (i:TypeInfo) (z:Value) (size bytes:Nat) (ht:P.underlying t=some (.slice e)) (hi:P.info? e=some i) (hz:i.zero=some z)
 (hsize:i.size=size) (hby:i.bytes=bytes) (hzs:z.cells.size=size) (hsz:0<size)
 (v:Value) (n:Nat) (xs:List Value) (hown:w.ownsRow base e size v n xs)
 (a:Addr) (m c:Nat) (news:List Value) (hl:news.length=m * size) (hnews:∀j u,news[j]? =some u→w.cell? (a.add j)=some u) (h1:∀u∈news,u.oneCell'=true)
 (hm:0<m) (h63:n+m≤maxLen) (hbytes:(n+m) * bytes≤140737488355328) (hbase:base≤w.heap.size):
 ∃v' w',(Builtin.append_ #[t,t] ty #[v,.slice (some a) m c]).run P w=.ok v' w'∧w'.ownsRow base e size v' (n+m) (xs++news)∧w.grownBy w' v.ownBlock∧
  (v'.ownBlock=v.ownBlock∨v'.ownBlock=some w.heap.size):=by
 obtain⟨v',w',hr,h2,h3,_⟩:=run_append_own (P:=P) w base t ty e i z size bytes ht hi hz hsize hby hzs hsz v n xs hown a m c news hl hnews h1 h63 hbytes hbase
 refine⟨v',w',hr,h2,h3,?_⟩
 subst hsize
 subst hby
 have hsmall:n+m≤9223372036854775807:=by simp only[maxLen] at h63;omega
 rcases hown.2 with⟨rfl,rfl⟩|⟨g,cap,cur,rfl,hbg,hg,hnc,hcm,hcs,WN⟩
 · have hr2:=run_append_nil (P:=P) w t ty e i z ht hi hz a m c news hl hnews (by omega) (by omega) (by have hb:=hbytes;simp only[Nat.zero_add] at hb;omega)
   rw[hr] at hr2;injection hr2 with hv _;rw[hv];exact .inr rfl
 · by_cases hroom:n+m≤cap
   · have hfit:n * i.size+news.length≤cur.size:=by rw[hl,hcs,←Nat.add_mul];exact Nat.mul_le_mul_right _ hroom
     have hr2:=run_append_room (P:=P) w t ty e i ht hi g n cap cur hg a m c news hl hnews h1 hroom hfit;rw[hr] at hr2;injection hr2 with hv _;rw[hv];exact .inl rfl
   · have holds:∀j u,xs[j]? =some u→w.cell? ((⟨g,0,none⟩:Addr).add j)=some u:=hown.cells (g:=g) rfl
     have hr2:=run_append_grow (P:=P) w t ty e i z ht hi hz ⟨g,0,none⟩ n cap xs hown.1 holds a m c news hl hnews (by omega) (by omega) (growslice_fits (by omega) hbytes);rw[hr] at hr2;injection hr2 with hv _;rw[hv];exact .inr rfl
theorem aL {ops:Array Oper} {rest:List Oper} {o:Oper} {a:Act} {Q:Exit→Act→World→Prop} (hgd:o.guard=none) (s x:Operand) (t:TypeId)
 (ho:o.op=.call {callee:=.builtin .append,args:= #[s,x],argTypes:= #[t,t] })
 (base:Nat) (e:TypeId) (i:TypeInfo) (z:Value) (size bytes:Nat) (ht:P.underlying t=some (.slice e)) (hi:P.info? e=some i) (hz:i.zero=some z)
 (hsize:i.size=size) (hby:i.bytes=bytes) (hzs:z.cells.size=size) (hsz:0<size)
 (v:Value) (n:Nat) (xs:List Value) (hs:a.eval s=v) (hown:w.ownsRow base e size v n xs)
 (ad:Addr) (m c:Nat) (news:List Value) (hx:a.eval x=.slice (some ad) m c) (hl:news.length=m * size) (hnews:∀j u,news[j]? =some u→w.cell? (ad.add j)=some u) (h1:∀u∈news,u.oneCell'=true)
 (hm:0<m) (h63:n+m≤maxLen) (hbytes:(n+m) * bytes≤140737488355328) (hbase:base≤w.heap.size)
 (h:∀v' w',w'.ownsRow base e size v' (n+m) (xs++news)→w.grownBy w' v.ownBlock→(v'.ownBlock=v.ownBlock∨v'.ownBlock=some w.heap.size)→wpList P ops Q rest (a.put o.dst v') w'):wpList P ops Q (o::rest) a w:=by
 refine wpList_plain hgd λK hK=>?_
 obtain⟨v',w',hr,h2,h3,h4⟩:=gu (P:=P) w base t o.type e i z size bytes ht hi hz hsize hby hzs hsz v n xs hown ad m c news hl hnews h1 hm h63 hbytes hbase
 unfold Oper.wp execOp
 simp only[ho,resolve,invoke,builtin,Sem.run_bind,Sem.run_pure,Result.andThen_ok,List.map_toArray,List.map_cons,List.map_nil,hs,hx,hr]
 exact hK _ _ (h v' w' h2 h3 h4)
end
end Go.Proofs.YtakgjcfkdemipaaGreatDoor
