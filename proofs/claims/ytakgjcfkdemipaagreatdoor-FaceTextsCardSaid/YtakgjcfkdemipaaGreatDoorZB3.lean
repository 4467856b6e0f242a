/-
  Lemmas for the statement: the text of a type (plain). No condition.
-/
import Derived.Test.YtakgjcfkdemipaaGreatDoorZBn
import Derived.Test.YtakgjcfkdemipaaGreatDoorZB0
namespace Go.Proofs.YtakgjcfkdemipaaGreatDoor
section
def b8 (k:Nat) (n:List UInt8):List UInt8:=
 if k=1 then mA else if k=2 then gC else if k=3 then jT else if k=4 then eB else if k=5 then eu else if k=6 then fK else if k=8 then [63,116] else n
def cH:List (List UInt8)→List UInt8
 | []=>[]
 | [a]=>a
 | a::b::l=>a++44::cH (b::l)
def kO (pn:List UInt8):List UInt8:=if pn=[] then [] else pn++[58]
def Fo.txt:Fo→List (List UInt8)
 | .nil=>[]
 | .cons pn k n .nil rest=>(kO pn++b8 k n)::rest.txt
 | .cons pn k n (.cons sL k' n' sub' rest') rest=>(kO pn++(b8 k n++91::(cH (Fo.cons sL k' n' sub' rest').txt++[93])))::rest.txt
def Tr.txt (t:Tr):List UInt8:=
 match t.sub with
 | .nil=>b8 t.k t.n
 | .cons pn k n sub rest=>b8 t.k t.n++91::(cH (Fo.cons pn k n sub rest).txt++[93])
theorem Fo.nX (pn:List UInt8) (t:Tr) (rest:Fo):(Fo.cons pn t.k t.n t.sub rest).txt=(kO pn++t.txt)::rest.txt:=by
 rcases t with⟨k,n,_|_⟩<;>rfl
theorem lX:∀l:List (List UInt8),l.length≤(cH l).length+1
 | []=>by simp
 | [a]=>by simp
 | a::b::l=>by
  have:=lX (b::l);simp only[cH,List.length_append,List.length_cons] at this ⊢;omega
theorem iF:∀(l:List (List UInt8)) (i:Nat) (s:List UInt8),l[i]? =some s→s.length≤(cH l).length
 | [],_,_,h=>by simp at h
 | [a],i,s,h=>by
  cases i with
  | zero=>simp only[List.getElem?_cons_zero,Option.some.injEq] at h;subst h;simp[cH]
  | succ i=>simp at h
 | a::b::l,i,s,h=>by
  simp only[cH,List.length_append,List.length_cons];cases i with
  | zero=>simp only[List.getElem?_cons_zero,Option.some.injEq] at h;subst h;omega
  | succ i=>
   rw[List.getElem?_cons_succ] at h;have:=iF (b::l) i s h;omega
theorem Fo.qi:∀fo:Fo,fo.txt.length=fo.len
 | .nil=>rfl
 | .cons pn k n sub rest=>by
  have:=Fo.qi rest;rw[show Fo.cons pn k n sub rest=.cons pn (Tr.mk k n sub).k (Tr.mk k n sub).n (Tr.mk k n sub).sub rest from rfl,Fo.nX,List.length_cons,this]
  rfl
inductive Wf:Option (List UInt8)→Fo→Prop where
 | par:Wf none (.cons [] 8 [] .nil .nil)
 | word (k:Nat) (h:k=1∨k=2∨k=3):Wf none (.cons [] k [] .nil .nil)
 | arr (a:Fo) (h:Wf none a):Wf none (.cons [] 4 eB a .nil)
 | rcd (k:Nat) (w:List UInt8) (fo:Fo) (hk:k=5∧w=eu∨k=6∧w=fK) (h:Wf (some []) fo) (hl:fo.len≤6):Wf none (.cons [] k w fo .nil)
 | nam (n:List UInt8) (hn:isName n=true):Wf none (.cons [] 7 n .nil .nil)
 | app (n:List UInt8) (a:Fo) (hn:isName n=true) (h:Wf none a):Wf none (.cons [] 7 n a .nil)
 | last (b pn:List UInt8) (k:Nat) (n:List UInt8) (sub:Fo) (hn:isName pn=true) (hb:Op.bytesLess b pn=true) (h:Wf none (.cons [] k n sub .nil)):Wf (some b) (.cons pn k n sub .nil)
 | more (b pn:List UInt8) (k:Nat) (n:List UInt8) (sub rest:Fo) (hn:isName pn=true) (hb:Op.bytesLess b pn=true) (h:Wf none (.cons [] k n sub .nil)) (h2:Wf (some pn) rest):Wf (some b) (.cons pn k n sub rest)
theorem Wf.one {fo:Fo} (h:Wf none fo):∃t:Tr,fo=.one t:=by
 cases h<;>exact⟨⟨_,_,_⟩,rfl⟩
theorem Wf.ne {b:List UInt8} {fo:Fo} (h:Wf (some b) fo):fo≠ .nil:=by
 cases h<;>simp
def Fo.tx (fo:Fo):List UInt8:=cH fo.txt
def Fo.br:Fo→List UInt8
 | .nil=>[]
 | .cons pn k n sub rest=>91::((Fo.cons pn k n sub rest).tx++[93])
theorem Fo.ji {fo:Fo} (h:fo≠ .nil):fo.br=91::(fo.tx++[93]):=by
 cases fo with
 | nil=>exact absurd rfl h
 | cons=>rfl
theorem Fo.cN (k:Nat) (n:List UInt8) (sub:Fo):(Fo.cons [] k n sub .nil).tx=b8 k n++sub.br:=by
 cases sub<;>simp[Fo.tx,Fo.txt,cH,kO,Fo.br]
theorem Fo.gU (pn:List UInt8) (k:Nat) (n:List UInt8) (sub:Fo):(Fo.cons pn k n sub .nil).tx=kO pn++(Fo.cons [] k n sub .nil).tx:=by
 rw[Fo.cN]
 cases sub<;>simp[Fo.tx,Fo.txt,cH,Fo.br]
theorem Fo.gV (pn:List UInt8) (k:Nat) (n:List UInt8) (sub rest:Fo) (hr:rest≠ .nil):(Fo.cons pn k n sub rest).tx=kO pn++((Fo.cons [] k n sub .nil).tx++44::rest.tx):=by
 rw[Fo.cN]
 cases rest with
 | nil=>exact absurd rfl hr
 | cons sL k' n' sub' rest'=>
  cases sub<;>cases sub'<;>simp[Fo.tx,Fo.txt,cH,Fo.br]
theorem Tr.eA (t:Tr):t.txt=(Fo.one t).tx:=by
 obtain⟨k,n,sub⟩:=t
 rw[Fo.one,Fo.cN]
 cases sub<;>simp[Tr.txt,Fo.br,Fo.tx]
theorem gQ {n:List UInt8} (h:isName n=true):n≠[]:=by rintro rfl;simp[isName] at h
theorem dM {n:List UInt8} (h:isName n=true):kO n=n++[58]:=by unfold kO;rw[if_neg (gQ h)]
theorem zO {w:List UInt8} (h:bW w≠0):(bW w=1∨bW w=2∨bW w=3)∧b8 (bW w) []=w:=by
 unfold bW at h ⊢
 split
 · rename_i e;exact⟨.inl rfl,by simp[b8,e]⟩
 · split
   · rename_i e;exact⟨.inr (.inl rfl),by simp[b8,e]⟩
   · split
     · rename_i e;exact⟨.inr (.inr rfl),by simp[b8,e]⟩
     · simp_all
theorem Ci {w:List UInt8} (h:aW w=5∨aW w=6):(aW w=5∧w=eu∨aW w=6∧w=fK)∧∀n,b8 (aW w) n=w:=by
 by_cases h1:w=eB
 · subst h1;exact absurd h (by decide)
 · by_cases h2:w=eu
   · subst h2;exact⟨.inl ⟨by decide,rfl⟩,λn=>by rw[show aW eu=5 from by decide];rfl⟩
   · by_cases h3:w=fK
     · subst h3;exact⟨.inr ⟨by decide,rfl⟩,λn=>by rw[show aW fK=6 from by decide];rfl⟩
     · unfold aW at h;rw[if_neg h1,if_neg h2,if_neg h3] at h;omega
theorem Ch {w:List UInt8} (h:aW w=4):w=eB:=by
 unfold aW at h
 split at h
 · assumption
 · split at h
   · omega
   · split at h<;>omega
theorem Lr:∀(f:Nat) (tag:Option (List UInt8)) (s:List UInt8) (fo:Fo) (r:List UInt8),pA f tag s=some (fo,r)→Wf tag fo∧s=fo.tx++r:=by
 intro f
 induction f with
 | zero=>intro tag s fo r h;simp[pA] at h
 | succ f ih =>
  intro tag s fo r h;have hd:s=s.take (aj s)++s.drop (aj s):=(List.take_append_drop _ _).symm;cases tag with
  | none =>
   by_cases hp:cV s
   · rw [jq f s hp] at h
     generalize s.drop (aj s)=s1 at h hd;generalize s.take (aj s)=w at h hd;unfold pW at h;split at h
     · rename_i h0
       obtain⟨h1,h2⟩:=zO h0;simp only[Option.some.injEq,Prod.mk.injEq] at h;obtain⟨rfl,rfl⟩:=h;refine⟨.word _ h1,?_⟩;rw[Fo.cN,h2,hd];simp[Fo.br]
     · split at h
       · rename_i hk
         obtain⟨h1,h2⟩:=Ci hk;split at h
         · rename_i s2
           split at h
           · rename_i JG r2 e2
             split at h
             · rename_i hl
               obtain⟨i1,i2⟩:=ih _ _ _ _ e2;simp only[Option.some.injEq,Prod.mk.injEq] at h;obtain⟨rfl,rfl⟩:=h;refine⟨.rcd _ _ _ h1 i1 hl,?_⟩;rw[Fo.cN,h2,Fo.ji i1.ne,hd,i2];simp
             · simp at h
           · simp at h
         · simp at h
       · rename_i Un
         split at h
         · rename_i hk
           split at h
           · rename_i s2
             split at h
             · rename_i JG r2 e2
               obtain⟨i1,i2⟩:=ih _ _ _ _ e2;have hne:JG≠ .nil:=by obtain⟨t,rfl⟩:=i1.one;simp[Fo.one]
               simp only[Option.some.injEq,Prod.mk.injEq] at h;obtain⟨rfl,rfl⟩:=h
               by_cases h4:aW w=4
               · have:=Ch h4
                 subst this;rw[if_pos h4];refine⟨.arr _ i1,?_⟩;rw[Fo.cN,Fo.ji hne,hd,i2];simp[b8]
               · rw[if_neg h4]
                 refine⟨.app _ _ (hk.resolve_left h4) i1,?_⟩;rw[Fo.cN,Fo.ji hne,hd,i2];simp[b8]
             · simp at h
           · split at h
             · simp at h
             · rename_i h4
               simp only[Option.some.injEq,Prod.mk.injEq] at h;obtain⟨rfl,rfl⟩:=h;refine⟨.nam _ (hk.resolve_left h4),?_⟩;rw[Fo.cN,hd];simp[Fo.br,b8]
         · simp at h
   · unfold cV at hp
     simp only[ne_eq,Classical.not_forall,Decidable.not_not] at hp;obtain⟨r',rfl⟩:=hp;rw[gY] at h;simp only[Option.some.injEq,Prod.mk.injEq] at h;obtain⟨rfl,rfl⟩:=h;exact⟨.par,by rw[Fo.cN];simp[b8,Fo.br]⟩
  | some b =>
   rw[gR] at h;split at h
   · rename_i hn
     obtain⟨xh,hn2⟩:=hn;generalize s.drop (aj s)=s1 at h hd;generalize s.take (aj s)=w at h hd xh hn2;unfold pV at h;split at h
     · rename_i s2
       split at h
       · rename_i px k n sub x r1 e1
         obtain⟨i1,i2⟩:=ih _ _ _ _ e1;have hx:px=[]∧x=.nil:=by
          obtain⟨t,ht⟩:=i1.one;simp only[Fo.one,Fo.cons.injEq] at ht;exact⟨ht.1,ht.2.2.2.2⟩
         obtain⟨rfl,rfl⟩:=hx;split at h
         · split at h
           · rename_i fo r3 e2
             obtain⟨j1,j2⟩:=ih _ _ _ _ e2;simp only[Option.some.injEq,Prod.mk.injEq] at h;obtain⟨rfl,rfl⟩:=h;refine⟨.more _ _ _ _ _ _ xh hn2 i1 j1,?_⟩;rw[Fo.gV _ _ _ _ _ j1.ne,dM xh,hd,i2,j2];simp
           · simp at h
         · simp only[Option.some.injEq,Prod.mk.injEq] at h
           obtain⟨rfl,rfl⟩:=h;refine⟨.last _ _ _ _ _ xh hn2 i1,?_⟩;rw[Fo.gU,dM xh,hd,i2];simp
       · simp at h
     · simp at h
   · simp at h
def Tr.ok (t:Tr):Prop:=Wf none (.one t)
theorem CA {s r:List UInt8} {t:Tr} (h:aM s=some (t,r)):t.ok∧s=t.txt++r:=by
 rw[Tr.eA]
 refine Lr (s.length+1) none s (.one t) r ?_
 rw[gK (by omega),h];rfl
def ends (r:List UInt8):Prop:=aj r=0∧∀r',r≠91::r'
theorem wN:ends []:=⟨rfl,by simp⟩
theorem jH (r:List UInt8):ends (93::r):=⟨by rw[bh];rfl,by simp⟩
theorem mQ (r:List UInt8):ends (44::r):=⟨by rw[bh];rfl,by simp⟩
theorem qD:∀w:List UInt8,aj w=w.length→∀r,aj r=0→aj (w++r)=w.length
 | [],_,r,h=>h
 | c::w,h,r,hr=>by
  rw[bh] at h;split at h
  · rename_i hc
    rw[List.cons_append,bh,if_pos hc,qD w (by simpa using h) r hr];rfl
  · simp at h
theorem fE {w r:List UInt8} (hw:aj w=w.length) (hr:aj r=0):(w++r).take (aj (w++r))=w∧(w++r).drop (aj (w++r))=r:=by
 rw[qD w hw r hr]
 simp
theorem dw {n:List UInt8} (h:isName n=true):aj n=n.length:=by
 cases n with
 | nil=>rfl
 | cons c r=>simp[isName] at h;exact h.1.2
theorem rE {n:List UInt8} (h:isName n=true):bW n=0∧aW n=0:=by
 have hw:isWord n=false:=by
  cases n with
  | nil=>rfl
  | cons c r=>simp[isName] at h;exact h.2
 constructor
 · unfold bW
   rw[if_neg (by rintro rfl;revert hw;decide),if_neg (by rintro rfl;revert hw;decide),if_neg (by rintro rfl;revert hw;decide)]
 · unfold aW
   rw[if_neg (by rintro rfl;revert hw;decide),if_neg (by rintro rfl;revert hw;decide),if_neg (by rintro rfl;revert hw;decide)]
theorem iW {w:List UInt8} (r:List UInt8) (hw:aj w=w.length) (hne:w≠[]):cV (w++r):=by
 cases w with
 | nil=>exact absurd rfl hne
 | cons c w=>
  intro r' e;simp only[List.cons_append,List.cons.injEq] at e;obtain⟨rfl,_⟩:=e;rw[bh] at hw;simp[eG] at hw
def Reads:Option (List UInt8)→Fo→Prop
 | none,fo=>∀t:Tr,fo=.one t→∀r,ends r→aM (fo.tx++r)=some (t,r)
 | some b,fo=>∀r,ends r→(∀r',r≠44::r')→bU b (fo.tx++r)=some (fo,r)
theorem Wf.reads {tag:Option (List UInt8)} {fo:Fo} (h:Wf tag fo):Reads tag fo:=by
 induction h with
 | par=>
  intro t ht r _;obtain rfl:t=⟨8,[],.nil⟩:=by cases t;simp[Fo.one] at ht;simp[ht]
  rw[Fo.cN];exact kz r
 | word k h=>
  intro t ht r hr;obtain rfl:t=⟨k,[],.nil⟩:=by cases t;simp[Fo.one] at ht;simp[ht]
  have hw:aj (b8 k [])=(b8 k []).length∧b8 k []≠[]∧bW (b8 k [])=k:=by
   rcases h with rfl|rfl|rfl<;>decide
  rw[Fo.cN];simp only[Fo.br,List.append_nil];obtain⟨e1,e2⟩:=fE hw.1 hr.1;rw[lC (iW r hw.1 hw.2.1) (by rw[e1,hw.2.2];omega),e1,e2,hw.2.2]
 | arr a h ih=>
  intro t ht r hr;obtain rfl:t=⟨4,eB,a⟩:=by cases t;simp[Fo.one] at ht;simp[ht]
  obtain⟨ta,rfl⟩:=h.one;rw[Fo.cN,Fo.ji (by simp[Fo.one])];have hc:aj (91::((Fo.one ta).tx++[93])++r)=0:=by rw[List.cons_append,bh];rfl
  have hw:aj eB=eB.length:=by decide
  rw[show b8 4 eB=eB from rfl,List.append_assoc];obtain⟨e1,e2⟩:=fE hw hc;have:=ih ta rfl (93::r) (jH r);rw[iY (s2:=(Fo.one ta).tx++93::r) (iW _ hw (by decide)) (by rw[e1];decide) (.inl (by rw[e1];decide)) (by rw[e2];simp),this];simp only;rw[e1]
  rfl
 | rcd k w fo hk h hl ih=>
  intro t ht r hr;obtain rfl:t=⟨k,w,fo⟩:=by cases t;simp[Fo.one] at ht;simp[ht]
  rw[Fo.cN,Fo.ji h.ne];have hc:aj (91::(fo.tx++[93])++r)=0:=by rw[List.cons_append,bh];rfl
  have hw:b8 k w=w∧aj w=w.length∧w≠[]∧bW w=0∧aW w=k∧(k=5∨k=6):=by
   rcases hk with⟨rfl,rfl⟩|⟨rfl,rfl⟩<;>decide
  rw[hw.1,List.append_assoc];obtain⟨e1,e2⟩:=fE hw.2.1 hc;have:=ih (93::r) (jH r) (by simp);rw[nj (s2:=fo.tx++93::r) (iW _ hw.2.1 hw.2.2.1) (by rw[e1];exact hw.2.2.2.1) (by rw[e1,hw.2.2.2.2.1];exact hw.2.2.2.2.2) (by rw[e2];simp),this];simp only;rw[e1,if_pos hl,hw.2.2.2.2.1]
 | nam n hn=>
  intro t ht r hr;obtain rfl:t=⟨7,n,.nil⟩:=by cases t;simp[Fo.one] at ht;simp[ht]
  rw[Fo.cN];simp only[Fo.br,List.append_nil];obtain⟨e1,e2⟩:=fE (dw hn) hr.1;obtain⟨k1,k2⟩:=rE hn;rw[show b8 7 n=n from rfl,jr (iW r (dw hn) (gQ hn)) (by rw[e1];exact k1) (by rw[e1];exact k2) (by rw[e1];exact hn) (by rw[e2];exact hr.2),e1,e2]
 | app n a hn h ih=>
  intro t ht r hr;obtain rfl:t=⟨7,n,a⟩:=by cases t;simp[Fo.one] at ht;simp[ht]
  obtain⟨ta,rfl⟩:=h.one;obtain⟨k1,k2⟩:=rE hn;rw[Fo.cN,Fo.ji (by simp[Fo.one])];have hc:aj (91::((Fo.one ta).tx++[93])++r)=0:=by rw[List.cons_append,bh];rfl
  have hw:=dw hn;rw[show b8 7 n=n from rfl,List.append_assoc];obtain⟨e1,e2⟩:=fE hw hc;have:=ih ta rfl (93::r) (jH r);rw[iY (s2:=(Fo.one ta).tx++93::r) (iW _ hw (gQ hn)) (by rw[e1];exact k1) (.inr (by rw[e1];exact⟨k2,hn⟩)) (by rw[e2];simp),this];simp only;rw[e1,k2]
  rfl
 | last b pn k n sub hn hb h ih=>
  intro r hr hr2;rw[Fo.gU,dM hn];have hc:aj (58::((Fo.cons [] k n sub .nil).tx++r))=0:=by rw[bh];rfl
  obtain⟨e1,e2⟩:=fE (dw hn) hc;have:=ih ⟨k,n,sub⟩ rfl r hr;rw[show pn++[58]++(Fo.cons [] k n sub Fo.nil).tx++r=pn++58::((Fo.cons [] k n sub .nil).tx++r) from by simp];rw[l6 (s2:=(Fo.cons [] k n sub .nil).tx++r) (by rw[e1];exact hn) (by rw[e1];exact hb) e2,this,e1];simp only
 | more b pn k n sub rest hn hb h h2 ih ih2=>
  intro r hr hr2;rw[Fo.gV _ _ _ _ _ h2.ne,dM hn];have hc:aj (58::((Fo.cons [] k n sub .nil).tx++44::(rest.tx++r)))=0:=by rw[bh];rfl
  obtain⟨e1,e2⟩:=fE (dw hn) hc;have:=ih ⟨k,n,sub⟩ rfl (44::(rest.tx++r)) (mQ _);have h3:=ih2 r hr hr2;rw[show pn++[58]++((Fo.cons [] k n sub Fo.nil).tx++44::rest.tx)++r=pn++58::((Fo.cons [] k n sub .nil).tx++44::(rest.tx++r)) from by simp];rw[l6 (s2:=(Fo.cons [] k n sub .nil).tx++44::(rest.tx++r)) (by rw[e1];exact hn) (by rw[e1];exact hb) e2,this,e1];simp only;rw[h3]
theorem Tr.ok.reads {t:Tr} (h:t.ok) {r:List UInt8} (hr:ends r):aM (t.txt++r)=some (t,r):=by
 rw[Tr.eA];exact Wf.reads h t rfl r hr
theorem Tr.ok.reads' {t:Tr} (h:t.ok):aM t.txt=some (t,[]):=by
 have:=h.reads wN;simpa using this
def Fo.put (a:Tr):Fo→Fo
 | .nil=>.nil
 | .cons pn k n sub rest=>if k=8 then .cons pn a.k a.n a.sub (rest.put a) else .cons pn k n (sub.put a) (rest.put a)
def Tr.put (t a:Tr):Tr:=if t.k=8 then a else⟨t.k,t.n,t.sub.put a⟩
theorem Fo.Bn (a t:Tr):(Fo.one t).put a=.one (t.put a):=by
 unfold Tr.put
 rw[Fo.one,Fo.put]
 split<;>simp[Fo.one,Fo.put]
theorem Fo.Bl (a:Tr):∀fo:Fo,(fo.put a).len=fo.len
 | .nil=>rfl
 | .cons pn k n sub rest=>by
  rw[Fo.put];split<;>simp only[Fo.len,Fo.Bl a rest]
def Fo.oF:Fo→Bool
 | .nil=>false
 | .cons _ k _ sub rest=>decide (k=8)||sub.oF||rest.oF
def Tr.oF (t:Tr):Bool:=decide (t.k=8)||t.sub.oF
theorem Fo.Gl (t:Tr):(Fo.one t).oF=t.oF:=by simp[Fo.one,Fo.oF,Tr.oF]
theorem Wf.I1 {n:List UInt8} {sub:Fo} (h:Wf none (.cons [] 8 n sub .nil)):n=[]∧sub=.nil:=by
 cases h with
 | par=>exact⟨rfl,rfl⟩
 | word k h=>simp
 | rcd k w fo hk=>simp at hk
theorem Wf.put {a:Tr} (ha:a.ok) {tag:Option (List UInt8)} {fo:Fo} (h:Wf tag fo):Wf tag (fo.put a):=by
 induction h with
 | par=>rw[Fo.put,if_pos rfl];exact ha
 | word k h=>rw[Fo.put,if_neg (by omega)];exact .word k h
 | arr x h ih=>rw[Fo.put,if_neg (by omega)];exact .arr _ ih
 | rcd k w fo hk h hl ih=>rw[Fo.put,if_neg (by omega)];exact .rcd k w _ hk ih (by rw[Fo.Bl];exact hl)
 | nam n hn=>rw[Fo.put,if_neg (by omega)];exact .nam n hn
 | app n x hn h ih=>rw[Fo.put,if_neg (by omega)];exact .app n _ hn ih
 | last b pn k n sub hn hb h ih=>
  rw[Fo.put] at ih ⊢;split at ih
  · rw[if_pos ‹_›];exact .last _ _ _ _ _ hn hb ih
  · rw[if_neg ‹_›];exact .last _ _ _ _ _ hn hb ih
 | more b pn k n sub rest hn hb h h2 ih ih2=>
  rw[Fo.put] at ih ⊢;split at ih
  · rw[if_pos ‹_›];exact .more _ _ _ _ _ _ hn hb ih ih2
  · rw[if_neg ‹_›];exact .more _ _ _ _ _ _ hn hb ih ih2
theorem Tr.ok.put {a t:Tr} (ha:a.ok) (ht:t.ok):(t.put a).ok:=by
 unfold Tr.ok;rw[←Fo.Bn];exact Wf.put ha ht
def subst (a:List UInt8):List UInt8→List UInt8
 | []=>[]
 | [c]=>if c=63 then a else [c]
 | c::d::r=>if c=63 then a++subst a r else c::subst a (d::r)
theorem CS (a:List UInt8) (d:UInt8) (r:List UInt8):subst a (63::d::r)=a++subst a r:=by
 rw[subst,if_pos rfl]
theorem fC (a:List UInt8) (c:UInt8) (r:List UInt8) (h:c≠63):subst a (c::r)=c::subst a r:=by
 cases r with
 | nil=>simp[subst,h]
 | cons d r=>rw[subst,if_neg h]
theorem kE (a:List UInt8):∀(w r:List UInt8),aj w=w.length→subst a (w++r)=w++subst a r
 | [],_,_=>rfl
 | c::w,r,h=>by
  rw[bh] at h;split at h
  · rename_i hc
    rw[List.cons_append,fC _ _ _ (by rintro rfl;simp[eG] at hc),kE a w r (by simpa using h)];rfl
  · simp at h
theorem mh {k:Nat} {n:List UInt8} {sub:Fo} (h:Wf none (.cons [] k n sub .nil)) (hk:k≠8):aj (b8 k n)=(b8 k n).length:=by
 cases h with
 | par=>exact absurd rfl hk
 | word k h=>rcases h with rfl|rfl|rfl<;>decide
 | arr a h=>decide
 | rcd k w fo hk=>rcases hk with⟨rfl,rfl⟩|⟨rfl,rfl⟩<;>decide
 | nam n hn=>exact dw hn
 | app n a hn h=>exact dw hn
theorem Fo.An (a:Tr) {fo:Fo} (h:fo≠ .nil):fo.put a≠ .nil:=by
 cases fo with
 | nil=>exact absurd rfl h
 | cons pn k n sub rest=>rw[Fo.put];split<;>simp
theorem E6 {a:Tr} {sub:Fo} (h:sub≠ .nil→∀r,subst a.txt (sub.tx++r)=(sub.put a).tx++subst a.txt r) (r:List UInt8):subst a.txt (sub.br++r)=(sub.put a).br++subst a.txt r:=by
 by_cases hn:sub=.nil
 · subst hn;rfl
 · rw[Fo.ji hn,Fo.ji (Fo.An a hn),List.cons_append,fC _ _ _ (by decide),List.append_assoc,h hn,List.singleton_append,fC _ _ _ (by decide)]
   simp
theorem Wf.subst {a:Tr} {tag:Option (List UInt8)} {fo:Fo} (h:Wf tag fo):∀r,subst a.txt (fo.tx++r)=(fo.put a).tx++subst a.txt r:=by
 have key:∀(k:Nat) (n:List UInt8) (sub:Fo),Wf none (.cons [] k n sub .nil)→(sub≠ .nil→∀r,Proofs.YtakgjcfkdemipaaGreatDoor.subst a.txt (sub.tx++r)=(sub.put a).tx++Proofs.YtakgjcfkdemipaaGreatDoor.subst a.txt r)→
  ∀r,Proofs.YtakgjcfkdemipaaGreatDoor.subst a.txt ((Fo.cons [] k n sub .nil).tx++r)=((Fo.cons [] k n sub .nil).put a).tx++Proofs.YtakgjcfkdemipaaGreatDoor.subst a.txt r:=by
  intro k n sub h ih r;rw[Fo.put]
  by_cases hk:k=8
  · subst hk
    obtain⟨rfl,rfl⟩:=h.I1;rw[if_pos rfl,Fo.cN]
    show Proofs.YtakgjcfkdemipaaGreatDoor.subst a.txt (63::116::r)=_
    rw[CS]
    show _=(Fo.one a).tx++_
    rw[Tr.eA]
  · rw[if_neg hk,Fo.cN,List.append_assoc,kE _ _ _ (mh h hk),E6 ih]
    show _=(Fo.cons [] k n (sub.put a) .nil).tx++_
    rw[Fo.cN,List.append_assoc]
 induction h with
 | par=>exact key _ _ _ .par (λh=>absurd rfl h)
 | word k h=>exact key _ _ _ (.word k h) (λh=>absurd rfl h)
 | arr x h ih=>exact key _ _ _ (.arr x h) (λ_=>ih)
 | rcd k w fo hk h hl ih=>exact key _ _ _ (.rcd k w fo hk h hl) (λ_=>ih)
 | nam n hn=>exact key _ _ _ (.nam n hn) (λh=>absurd rfl h)
 | app n x hn h ih=>exact key _ _ _ (.app n x hn h) (λ_=>ih)
 | last b pn k n sub hn hb h ih=>
  intro r;have hc:aj pn=pn.length:=dw hn;have e:((Fo.cons pn k n sub .nil).put a).tx=kO pn++((Fo.cons [] k n sub .nil).put a).tx:=by
   by_cases hk:k=8
   · simp only[Fo.put,if_pos hk];rw[Fo.gU]
   · simp only[Fo.put,if_neg hk];rw[Fo.gU]
  rw[e,Fo.gU,dM hn,List.append_assoc,List.append_assoc,kE _ _ _ hc,List.singleton_append,fC _ _ _ (by decide),ih];simp
 | more b pn k n sub rest hn hb h h2 ih ih2=>
  intro r;have hc:aj pn=pn.length:=dw hn;have e:((Fo.cons pn k n sub rest).put a).tx=kO pn++(((Fo.cons [] k n sub .nil).put a).tx++44::(rest.put a).tx):=by
   by_cases hk:k=8
   · simp only[Fo.put,if_pos hk];rw[Fo.gV _ _ _ _ _ (Fo.An a h2.ne)]
   · simp only[Fo.put,if_neg hk];rw[Fo.gV _ _ _ _ _ (Fo.An a h2.ne)]
  rw[e,Fo.gV _ _ _ _ _ h2.ne,dM hn];simp only[List.append_assoc,List.nil_append,List.cons_append];rw[kE _ _ _ hc,fC _ _ _ (by decide),ih,fC _ _ _ (by decide),ih2]
theorem Tr.ok.subst {a t:Tr} (ht:t.ok):subst a.txt t.txt=(t.put a).txt:=by
 have:=Wf.subst (a:=a) ht []
 rw[Fo.Bn,←Tr.eA,←Tr.eA] at this
 simpa[Proofs.YtakgjcfkdemipaaGreatDoor.subst] using this
def fc (s:List UInt8):Bool:=s.any (λc=>decide (c=63))
theorem ox {w:List UInt8} (h:aj w=w.length):fc w=false:=by
 induction w with
 | nil=>rfl
 | cons c w ih=>
  rw[bh] at h;split at h
  · rename_i hc
    have:c≠63:=by rintro rfl;simp[eG] at hc
    unfold fc at ih ⊢;rw[List.any_cons,ih (by simpa using h)];simp[this]
  · simp at h
theorem iP (s r:List UInt8):fc (s++r)=(fc s||fc r):=by simp[fc]
theorem ow (c:UInt8) (r:List UInt8) (h:c≠63):fc (c::r)=fc r:=by simp[fc,h]
theorem Wf.fc {tag:Option (List UInt8)} {fo:Fo} (h:Wf tag fo):fc fo.tx=fo.oF:=by
 have key:∀(k:Nat) (n:List UInt8) (sub:Fo),Wf none (.cons [] k n sub .nil)→(sub≠ .nil→Proofs.YtakgjcfkdemipaaGreatDoor.fc sub.tx=sub.oF)→Proofs.YtakgjcfkdemipaaGreatDoor.fc (Fo.cons [] k n sub .nil).tx=(Fo.cons [] k n sub .nil).oF:=by
  intro k n sub h ih;rw[Fo.cN,iP,Fo.oF];have hb:Proofs.YtakgjcfkdemipaaGreatDoor.fc sub.br=sub.oF:=by
   by_cases hn:sub=.nil
   · subst hn;rfl
   · rw[Fo.ji hn,ow _ _ (by decide),iP,ih hn];simp[Proofs.YtakgjcfkdemipaaGreatDoor.fc]
  rw[hb]
  by_cases hk:k=8
  · subst hk;simp[b8,Proofs.YtakgjcfkdemipaaGreatDoor.fc]
  · rw[ox (mh h hk)];simp[hk,Fo.oF]
 induction h with
 | par=>exact key _ _ _ .par (λh=>absurd rfl h)
 | word k h=>exact key _ _ _ (.word k h) (λh=>absurd rfl h)
 | arr x h ih=>exact key _ _ _ (.arr x h) (λ_=>ih)
 | rcd k w fo hk h hl ih=>exact key _ _ _ (.rcd k w fo hk h hl) (λ_=>ih)
 | nam n hn=>exact key _ _ _ (.nam n hn) (λh=>absurd rfl h)
 | app n x hn h ih=>exact key _ _ _ (.app n x hn h) (λ_=>ih)
 | last b pn k n sub hn hb h ih=>
  rw[Fo.gU,dM hn,iP,iP,ox (dw hn),ih];simp[Fo.oF,Proofs.YtakgjcfkdemipaaGreatDoor.fc]
 | more b pn k n sub rest hn hb h h2 ih ih2=>
  rw[Fo.gV _ _ _ _ _ h2.ne,dM hn,iP,iP,iP,ox (dw hn),ih,ow 44 _ (by decide),ih2];simp[Fo.oF,Proofs.YtakgjcfkdemipaaGreatDoor.fc]
theorem Tr.ok.fc {t:Tr} (h:t.ok):fc t.txt=t.oF:=by rw[Tr.eA,Wf.fc h,Fo.Gl]
theorem Fo.jS (a:Tr):∀fo:Fo,(∀pn k n sub rest,fo=.cons pn k n sub rest→True)→(fo.put a).level+1≤fo.level+a.level
 | .nil,_=>by simp only[Fo.put,Fo.level,Tr.level];omega
 | .cons pn k n sub rest,_=>by
  have h1:=Fo.jS a sub (λ_ _ _ _ _ _=>trivial);have h2:=Fo.jS a rest (λ_ _ _ _ _ _=>trivial);rw[Fo.put];split
  · simp only[Fo.level,Tr.level] at *;omega
  · simp only[Fo.level,Tr.level] at *;omega
theorem Tr.jS (a t:Tr):(t.put a).level+1≤t.level+a.level:=by
 have h:=Fo.jS a t.sub (λ_ _ _ _ _ _=>trivial)
 unfold Tr.put
 split
 · simp only[Tr.level] at *;omega
 · simp only[Tr.level] at *;omega
theorem Wf.inner {k:Nat} {n:List UInt8} {sub:Fo} (h:Wf none (.cons [] k n sub .nil)):sub=.nil∨∃tag,Wf tag sub:=by
 cases h with
 | par=>exact .inl rfl
 | word=>exact .inl rfl
 | arr a h=>exact .inr ⟨_,h⟩
 | rcd k w fo hk h=>exact .inr ⟨_,h⟩
 | nam=>exact .inl rfl
 | app n a hn h=>exact .inr ⟨_,h⟩
theorem Wf.head {tag:Option (List UInt8)} {pn:List UInt8} {k:Nat} {n:List UInt8} {sub rest:Fo} (h:Wf tag (.cons pn k n sub rest)):Wf none (.cons [] k n sub .nil)∧(rest=.nil∨∃tag',Wf tag' rest):=by
 cases h with
 | par=>exact⟨.par,.inl rfl⟩
 | word k h=>exact⟨.word k h,.inl rfl⟩
 | arr _ h=>exact⟨.arr _ h,.inl rfl⟩
 | rcd k w fo hk h hl=>exact⟨.rcd _ _ _ hk h hl,.inl rfl⟩
 | nam n hn=>exact⟨.nam _ hn,.inl rfl⟩
 | app n a hn h=>exact⟨.app _ _ hn h,.inl rfl⟩
 | last b pn k n sub hn hb h=>exact⟨h,.inl rfl⟩
 | more b pn k n sub rest hn hb h h2=>exact⟨h,.inr ⟨_,h2⟩⟩
end
open Go.RowKit
def jE (w:World) (D:Nat→Prop):Fo→List Value→Prop
 | .nil,cs=>cs=[]
 | .cons pn k n sub rest,cs=>∃v cs' sc,cs=str pn::.int .u8 k::str n::v::cs'∧w.ownsRow 0 192 4 v sub.len sc∧(∀b,v.ownBlock=some b→D b)∧jE w D sub sc∧jE w D rest cs'
def dB (w:World) (D:Nat→Prop) (fo:Fo) (v:Value):Prop:=∃sc,w.ownsRow 0 192 4 v fo.len sc∧(∀b,v.ownBlock=some b→D b)∧jE w D fo sc
theorem jE.kept {w w':World} {D:Nat→Prop} (hb:∀b,D b→b<w.heap.size→w'.heap[b]? =w.heap[b]?):∀(fo:Fo) (cs:List Value),jE w D fo cs→jE w' D fo cs
 | .nil,_,h=>h
 | .cons _ _ _ sub rest,_,⟨v,cs',sc,e,h1,h2,h3,h4⟩=>
  ⟨v,cs',sc,e,cB h1 (λb e=>hb b (h2 b e) (aK h1 e)),h2,jE.kept hb sub sc h3,jE.kept hb rest cs' h4⟩
theorem jE.mono {w:World} {D D':Nat→Prop} (hD:∀b,D b→b<w.heap.size→D' b):∀(fo:Fo) (cs:List Value),jE w D fo cs→jE w D' fo cs
 | .nil,_,h=>h
 | .cons _ _ _ sub rest,_,⟨v,cs',sc,e,h1,h2,h3,h4⟩=>⟨v,cs',sc,e,h1,λb e=>hD b (h2 b e) (aK h1 e),jE.mono hD sub sc h3,jE.mono hD rest cs' h4⟩
theorem dB.kept {w w':World} {D:Nat→Prop} (hb:∀b,D b→b<w.heap.size→w'.heap[b]? =w.heap[b]?) {fo:Fo} {v:Value} (h:dB w D fo v):dB w' D fo v:=by
 obtain⟨sc,h1,h2,h3⟩:=h
 exact⟨sc,cB h1 (λb e=>hb b (h2 b e) (aK h1 e)),h2,h3.kept hb⟩
theorem dB.mono {w:World} {D D':Nat→Prop} (hD:∀b,D b→b<w.heap.size→D' b) {fo:Fo} {v:Value} (h:dB w D fo v):dB w D' fo v:=by
 obtain⟨sc,h1,h2,h3⟩:=h
 exact⟨sc,h1,λb e=>hD b (h2 b e) (aK h1 e),h3.mono hD⟩
theorem dB.nil (w:World) (D:Nat→Prop):dB w D .nil (.slice none 0 0):=⟨[],World.ownsRow_nil _ _ _ _,by intro b h;simp[Value.ownBlock] at h,rfl⟩
theorem dB.below {B:Nat} {w w':World} {D:Nat→Prop} {fo:Fo} {v:Value} (h:dB w D fo v) (hb:Below B w w') (hB:w.heap.size≤B):dB w' D fo v:=
 h.kept λb _ hlt=>hb.block b (by omega)
def Fo.app:Fo→Fo→Fo
 | .nil,g=>g
 | .cons pn k n sub rest,g=>.cons pn k n sub (rest.app g)
theorem Fo.sS:∀f g h:Fo,(f.app g).app h=f.app (g.app h)
 | .nil,_,_=>rfl
 | .cons pn k n sub rest,g,h=>by rw[Fo.app,Fo.app,Fo.app,Fo.sS rest g h]
theorem Fo.vk:∀f g:Fo,(f.app g).len=f.len+g.len
 | .nil,g=>by simp[Fo.app,Fo.len]
 | .cons pn k n sub rest,g=>by rw[Fo.app,Fo.len,Fo.vk rest g,Fo.len];omega
theorem jE.app {w:World} {D:Nat→Prop} {g:Fo} {cg:List Value} (hg:jE w D g cg):∀(fo:Fo) (cs:List Value),jE w D fo cs→jE w D (fo.app g) (cs++cg)
 | .nil,_,h=>by rw[show _=[] from h];exact hg
 | .cons _ _ _ _ rest,_,⟨v,cs',sc,e,h1,h2,h3,h4⟩=>⟨v,cs'++cg,sc,by rw[e];rfl,h1,h2,h3,jE.app hg rest cs' h4⟩
theorem jE.single {w:World} {D:Nat→Prop} {pn n:List UInt8} {k:Nat} {sub:Fo} {v:Value} (h:dB w D sub v):jE w D (.cons pn k n sub .nil) [str pn,.int .u8 k,str n,v]:=by
 obtain⟨sc,h1,h2,h3⟩:=h
 exact⟨v,[],sc,rfl,h1,h2,h3,rfl⟩
def Fo.last:Fo→List UInt8
 | .nil=>[]
 | .cons pn _ _ _ .nil=>pn
 | .cons _ _ _ _ (.cons pn k n sub rest)=>Fo.last (.cons pn k n sub rest)
theorem Fo.ud (pn:List UInt8) (k:Nat) (n:List UInt8) (sub:Fo):∀f:Fo,(f.app (.cons pn k n sub .nil)).last=pn
 | .nil=>rfl
 | .cons _ _ _ _ .nil=>rfl
 | .cons _ _ _ _ (.cons sL k' n' sub' rest)=>by
  rw[Fo.app];have:=Fo.ud pn k n sub (.cons sL k' n' sub' rest);rw[Fo.app] at this ⊢;rw[Fo.last];exact this
theorem jE.last {w:World} {D:Nat→Prop}:∀(fo:Fo) (cs:List Value),jE w D fo cs→fo.len≠0→cs[(fo.len - 1) * 4]? =some (str fo.last)
 | .nil,_,_,h=>by simp[Fo.len] at h
 | .cons pn _ _ _ .nil,_,⟨v,cs',sc,e,_,_,_,_⟩,_=>by rw[e];simp[Fo.len,Fo.last]
 | .cons _ _ _ _ (.cons pn k n sub rest),_,⟨v,cs',sc,e,_,_,_,h4⟩,_=>by
  have:=jE.last (.cons pn k n sub rest) cs' h4 (by simp[Fo.len]);rw[Fo.last,←this,e];simp only[Fo.len];rw[show(rest.len+1+1 - 1) * 4=(rest.len+1 - 1) * 4+1+1+1+1 from by omega];simp
def Fo.at:Fo→Nat→Option (List UInt8×Tr)
 | .nil,_=>none
 | .cons pn k n sub _,0=>some (pn,⟨k,n,sub⟩)
 | .cons _ _ _ _ rest,i+1=>rest.at i
def Fo.jm:Fo→Nat→Nat
 | _,0=>0
 | .nil,_+1=>0
 | .cons _ _ _ sub rest,i+1=>max (sub.level+1) (rest.jm i)
theorem jE.at {w:World} {D:Nat→Prop}:∀(fo:Fo) (cs:List Value) (i:Nat),jE w D fo cs→i<fo.len→∃pn t v,fo.at i=some (pn,t)∧cs[i * 4]? =some (str pn)∧cs[i * 4+1]? =some (.int .u8 t.k)∧cs[i * 4+2]? =some (str t.n)∧cs[i * 4+3]? =some v∧dB w D t.sub v
 | .nil,_,_,_,h=>by simp[Fo.len] at h
 | .cons pn k n sub rest,_,0,⟨v,cs',sc,e,h1,h2,h3,_⟩,_=>⟨pn,⟨k,n,sub⟩,v,rfl,by rw[e];rfl,by rw[e];rfl,by rw[e];rfl,by rw[e];rfl,sc,h1,h2,h3⟩
 | .cons pn k n sub rest,_,i+1,⟨v,cs',sc,e,h1,h2,h3,h4⟩,hi=>by
  obtain⟨sL,t,v',a,b0,b1,b2,b3,c⟩:=jE.at rest cs' i h4 (by simp only[Fo.len] at hi;omega);have hs:∀j,(str pn::.int .u8 k::str n::v::cs')[(i+1) * 4+j]? =cs'[i * 4+j]? :=by
   intro j;rw[show(i+1) * 4+j=(i * 4+j)+1+1+1+1 from by omega];simp
  refine⟨sL,t,v',a,?_,?_,?_,?_,c⟩
  · rw[e];exact(hs 0).trans b0
  · rw[e];exact(hs 1).trans b1
  · rw[e];exact(hs 2).trans b2
  · rw[e];exact(hs 3).trans b3
theorem Fo.rA:∀(fo:Fo) (i:Nat) (pn:List UInt8) (t:Tr),fo.at i=some (pn,t)→fo.jm (i+1)=max (fo.jm i) (t.sub.level+1)
 | .nil,_,_,_,h=>by simp[Fo.at] at h
 | .cons _ _ _ sub rest,0,_,_,h=>by
  simp only[Fo.at,Option.some.injEq,Prod.mk.injEq] at h;obtain⟨_,rfl⟩:=h;simp[Fo.jm]
 | .cons _ _ _ sub rest,i+1,pn,t,h=>by
  have:=Fo.rA rest i pn t h;rw[Fo.jm,this,Fo.jm];omega
theorem Fo.ue:∀fo:Fo,fo.jm fo.len=fo.level
 | .nil=>rfl
 | .cons _ _ _ sub rest=>by rw[Fo.len,Fo.jm,Fo.ue rest,Fo.level]
theorem Fo.jG:∀(fo:Fo) (i:Nat) (pn:List UInt8) (t:Tr),fo.at i=some (pn,t)→t.sub.level+1≤fo.level
 | .nil,_,_,_,h=>by simp[Fo.at] at h
 | .cons _ _ _ sub rest,0,_,_,h=>by
  simp only[Fo.at,Option.some.injEq,Prod.mk.injEq] at h;obtain⟨_,rfl⟩:=h;rw[Fo.level];exact Nat.le_max_left _ _
 | .cons _ _ _ sub rest,i+1,pn,t,h=>by
  have:=Fo.jG rest i pn t h;rw[Fo.level];omega
theorem Fo.xK:∀(fo:Fo) (i:Nat),fo.jm i≤fo.level
 | .nil,0=>nl _
 | .nil,_+1=>nl _
 | .cons _ _ _ _ _,0=>by simp[Fo.jm]
 | .cons _ _ _ sub rest,i+1=>by
  have:=Fo.xK rest i;rw[Fo.jm,Fo.level];omega
theorem Fo.qv:∀(fo:Fo) (i:Nat) (pn:List UInt8) (t:Tr),fo.at i=some (pn,t)→fo.txt[i]? =some (kO pn++t.txt)
 | .nil,_,_,_,h=>by simp[Fo.at] at h
 | .cons sL k n sub rest,0,pn,t,h=>by
  simp only[Fo.at,Option.some.injEq,Prod.mk.injEq] at h;obtain⟨rfl,rfl⟩:=h;rw[show Fo.cons sL k n sub rest=.cons sL (Tr.mk k n sub).k (Tr.mk k n sub).n (Tr.mk k n sub).sub rest from rfl,Fo.nX]
  rfl
 | .cons sL k n sub rest,i+1,pn,t,h=>by
  rw[show Fo.cons sL k n sub rest=.cons sL (Tr.mk k n sub).k (Tr.mk k n sub).n (Tr.mk k n sub).sub rest from rfl,Fo.nX,List.getElem?_cons_succ];exact Fo.qv rest i pn t h
end Go.Proofs.YtakgjcfkdemipaaGreatDoor
