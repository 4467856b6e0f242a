/-
  Lemmas for the statement: put, where all are types (plain): its one error. Operations put and sorted; found by name. The operations of a type with another one put in (plain). No condition.
-/
import Derived.Test.YtakgjcfkdemipaaGreatDoorZG27
import Derived.Test.YtakgjcfkdemipaaGreatDoorZGn
import Derived.Test.YtakgjcfkdemipaaGreatDoorZT2
namespace Go.Proofs.YtakgjcfkdemipaaGreatDoor
theorem vax (c:aR) {t:List UInt8} (hk:(aq t).2.k=7):cG c t=(((ez c.bK (dI t).1).map (·.ops)).getD [],(bQ t).1):=by
 unfold cG
 simp only[hk]
theorem vbw (c:aR) (want:List aG) (t:List UInt8):(dP c want t).isSome=false↔∀n∈want,xK c t n=false:=by
 unfold dP
 rw[Option.isSome_map,←Bool.not_eq_true,Option.isSome_iff_exists]
 constructor
 · intro h n hn
   rcases hq:xK c t n with _|_
   · rfl
   · rcases hf:want.find? (xK c t) with _|x
     · exact absurd hq (by simpa using List.find?_eq_none.1 hf n hn)
     · exact absurd ⟨x,hf⟩ h
 · rintro h ⟨x,hx⟩
   have h1:=h x (List.mem_of_find?_eq_some hx);rw[List.find?_some hx] at h1;cases h1
theorem vaj {α:Type} {f:α→Nat}:∀{l:List α},dV (l.map f)=0↔∀x∈l,f x=0
 | []=>by simp[dV]
 | x::l=>by
  rw[List.map_cons,dV];split
  · rename_i h
    rw[vaj (l:=l)];simp[h]
  · rename_i h
    simp[h]
theorem vbz {a : List UInt8} : ∀ {l : List aG}, (fS a l).2 = 0 → ∀ o ∈ (fS a l).1, ∃ x ∈ l, x.name = o.name ∧ bZ x.sig a = (o.sig, 0)
 | [],_,o,h=>by cases h
 | x :: l, h, o, ho => by
  unfold fS at h ho;split at h
  · rename_i h1
    rw[if_pos h1] at ho;split at h
    · rename_i h2
      rw[if_pos h2] at ho;rcases List.mem_cons.1 ho with rfl|ho
      · exact⟨x,by simp,rfl,Prod.ext rfl h1⟩
      · obtain⟨y,hy,e⟩:=vbz h2 o ho
        exact⟨y,by simp[hy],e⟩
    · rename_i h2;exact absurd h h2
  · rename_i h1;exact absurd h h1
end Go.Proofs.YtakgjcfkdemipaaGreatDoor
namespace Go.Proofs.YtakgjcfkdemipaaGreatDoor
theorem vcz {s:cD} {o:Bool} (h:ek s o=true):bZ s vfi=(s,0):=by
 obtain⟨_,_,_,_,h5⟩:=eC h
 obtain⟨it,args,res,sigs⟩:=s
 have hw:∀l:List (List UInt8),(∀t∈l,(aq t).1=0)→jD vfi l=(l,0):=by
  intro l
  induction l with
  | nil=>intro _;rfl
  | cons t l ih=>
   intro hl;have h1:=(vbm (hl t (List.mem_cons_self ..))).1;have h2:=ih λx hx=>hl x (List.mem_cons_of_mem _ hx)
   unfold jD;rw[h1,h2];simp
 have ha:=hw args λt ht=>(h5 t (by unfold aI;simp[ht])).1
 unfold bZ
 rw[if_neg (by decide:¬(vfi:List UInt8)=[]),ha]
 simp only[ne_eq,not_true_eq_false,if_false]
 by_cases hr:res=[]
 · rw[if_pos hr,hr]
 · have hr1:=(vbm (h5 res (by unfold aI;simp[hr])).1).1
   rw[if_neg hr,hr1];simp
end Go.Proofs.YtakgjcfkdemipaaGreatDoor
namespace Go.Proofs.YtakgjcfkdemipaaGreatDoor
def Fo.qn:Fo→Nat
 | .nil=>0
 | .cons _ k _ sub rest=>(if k=8 then 1 else sub.qn)+rest.qn
theorem Wf.ne' {tag:Option (List UInt8)} {fo:Fo} (h:Wf tag fo):fo≠ .nil:=by
 cases h<;>simp
theorem vab (k:Nat) (n:List UInt8) {sub:Fo} (h:sub≠ .nil):(Fo.cons [] k n sub .nil).tx.length=(cB k n).length+2+sub.tx.length:=by
 rw[Fo.dR,Fo.jG h]
 simp only[List.length_append,List.length_cons,List.length_nil]
 omega
theorem Fo.vb9 (pn:List UInt8) (k:Nat) (n:List UInt8) (sub rest:Fo):(Fo.cons pn k n sub rest).qn=(Fo.cons [] k n sub .nil).qn+rest.qn:=by
 simp[Fo.qn]
theorem Fo.vbk (a:Tr) (pn:List UInt8) (k:Nat) (n:List UInt8) (sub rest:Fo):∃k' n' sub',(Fo.cons [] k n sub .nil).put a=.cons [] k' n' sub' .nil∧(Fo.cons pn k n sub rest).put a=.cons pn k' n' sub' (rest.put a):=by
 simp only[Fo.put]
 split
 · exact⟨_,_,_,rfl,rfl⟩
 · exact⟨_,_,_,rfl,rfl⟩
theorem Wf.Ev {a:Tr} {tag:Option (List UInt8)} {fo:Fo} (h:Wf tag fo):(fo.put a).tx.length+2 * fo.qn=fo.tx.length+fo.qn * a.txt.length:=by
 induction h with
 | par=>
  rw[show(Fo.cons [] 8 [] .nil .nil).put a=.one a by rw[Fo.put,if_pos rfl];rfl,←Tr.eT]
  show a.txt.length+2 * 1=2+1 * a.txt.length
  omega
 | word k h=>
  rw[Fo.put,if_neg (by omega)];simp only[Fo.put,Fo.qn,if_neg (show ¬k=8 by omega)];omega
 | arr x h ih=>
  rw[Fo.put,if_neg (by omega)];simp only[Fo.put];rw[vab _ _ (Fo.Dp a h.ne'),vab _ _ h.ne',show(Fo.cons [] 4 fT x .nil).qn=x.qn by simp[Fo.qn]];omega
 | rcd k w fo hk h hl ih=>
  rw[Fo.put,if_neg (by omega)];simp only[Fo.put];rw[vab _ _ (Fo.Dp a h.ne'),vab _ _ h.ne',show(Fo.cons [] k w fo .nil).qn=fo.qn by simp[Fo.qn,show ¬k=8 by omega]];omega
 | nam n hn=>
  rw[Fo.put,if_neg (by omega)];simp only[Fo.put,Fo.qn,if_neg (show ¬7=8 by omega)];omega
 | app n x hn h ih=>
  rw[Fo.put,if_neg (by omega)];simp only[Fo.put];rw[vab _ _ (Fo.Dp a h.ne'),vab _ _ h.ne',show(Fo.cons [] 7 n x .nil).qn=x.qn by simp[Fo.qn]];omega
 | last b pn k n sub hn hb h ih=>
  obtain⟨k',n',sub',e1,e2⟩:=Fo.vbk a pn k n sub .nil;rw[e1] at ih;rw[e2,show Fo.nil.put a=.nil from rfl,Fo.jr pn k' n' sub',Fo.jr pn k n sub,Fo.vb9,show Fo.nil.qn=0 from rfl,Nat.add_zero,List.length_append,List.length_append];omega
 | more b pn k n sub rest hn hb h h2 ih ih2=>
  obtain⟨k',n',sub',e1,e2⟩:=Fo.vbk a pn k n sub rest;rw[e1] at ih;rw[e2,Fo.js _ _ _ _ _ (Fo.Dp a h2.ne'),Fo.js _ _ _ _ _ h2.ne',Fo.vb9,Nat.add_mul];simp only[List.length_append,List.length_cons];omega
theorem Wf.vcp {tag : Option (List UInt8)} {fo : Fo} (h : Wf tag fo) : (1 ≤ fo.qn → 2 ≤ fo.tx.length) ∧ (tag = none → 2 ≤ fo.qn → 15 ≤ fo.tx.length) ∧ (tag ≠ none → (1 ≤ fo.qn → 4 ≤ fo.tx.length) ∧ (2 ≤ fo.qn → 9 ≤ fo.tx.length)) := by
 induction h with
 | par=>exact⟨λ_=>by decide,λ_ h=>absurd h (by decide),λh=>absurd rfl h⟩
 | word k h=>
  have e:(Fo.cons [] k [] .nil .nil).qn=0:=by simp[Fo.qn,show ¬k=8 by omega]
  rw[e];exact⟨λh=>by omega,λ_ h=>by omega,λh=>absurd rfl h⟩
 | arr x h ih=>
  rw[vab _ _ h.ne',show(Fo.cons [] 4 fT x .nil).qn=x.qn by simp[Fo.qn]];exact⟨λh=>by omega,λ_ h=>by have:=ih.2.1 rfl h;omega,λh=>absurd rfl h⟩
 | rcd k w fo hk h hl ih=>
  have hw:5≤(cB k w).length:=by rcases hk with⟨rfl,rfl⟩|⟨rfl,rfl⟩<;>decide
  rw[vab _ _ h.ne',show(Fo.cons [] k w fo .nil).qn=fo.qn by simp[Fo.qn,show ¬k=8 by omega]];exact⟨λh=>by omega,λ_ h=>by have:=(ih.2.2 (by simp)).2 h;omega,λh=>absurd rfl h⟩
 | nam n hn=>
  rw[show(Fo.cons [] 7 n .nil .nil).qn=0 by simp[Fo.qn]];exact⟨λh=>by omega,λ_ h=>by omega,λh=>absurd rfl h⟩
 | app n x hn h ih=>
  rw[vab _ _ h.ne',show(Fo.cons [] 7 n x .nil).qn=x.qn by simp[Fo.qn]];exact⟨λh=>by omega,λ_ h=>by have:=ih.2.1 rfl h;omega,λh=>absurd rfl h⟩
 | last b pn k n sub hn hb h ih=>
  have hp:2≤(mS pn).length:=by
   rw[fB hn];have:=List.length_pos_iff.2 (jm hn);simp only[List.length_append,List.length_cons,List.length_nil];omega
  rw[Fo.jr,Fo.vb9,show Fo.nil.qn=0 from rfl,Nat.add_zero,List.length_append];refine⟨λh=>by omega,(λh=>by cases h),λ_=>⟨λh=>?_,λh=>?_⟩⟩
  · have:=ih.1 h;omega
  · have:=ih.2.1 rfl h;omega
 | more b pn k n sub rest hn hb h h2 ih ih2 =>
  have hp:2≤(mS pn).length:=by
   rw[fB hn];have:=List.length_pos_iff.2 (jm hn);simp only[List.length_append,List.length_cons,List.length_nil];omega
  rw[Fo.js _ _ _ _ _ h2.ne',Fo.vb9];simp only[List.length_append,List.length_cons];obtain⟨i1,i2,_⟩:=ih;obtain⟨_,_,i5⟩:=ih2;obtain⟨i5,i6⟩:=i5 (by simp)
  replace i2:=i2 rfl
  refine⟨λh=>by omega,(λh=>by cases h),λ_=>⟨λh=>?_,λh=>?_⟩⟩
  · by_cases hq:1≤(Fo.cons [] k n sub .nil).qn
    · have:=i1 hq;omega
    · have:=i5 (by omega);omega
  · by_cases hq:2≤(Fo.cons [] k n sub .nil).qn
    · have:=i2 hq;omega
    · by_cases hq1:1≤(Fo.cons [] k n sub .nil).qn
      · have:=i1 hq1
        have:=i5 (by omega);omega
      · have:=i6 (by omega);omega
theorem vbl {t a:Tr} (ht:t.ok) (hl:t.txt.length≤14):(t.put a).txt.length≤t.txt.length+a.txt.length:=by
 have h1:=Wf.Ev (a:=a) (show Wf none (.one t) from ht)
 have h2:=(Wf.vcp (show Wf none (.one t) from ht)).2.1 rfl
 rw[Fo.Ew,←Tr.eT,←Tr.eT] at h1
 rw[←Tr.eT] at h2
 have hq:(Fo.one t).qn=0∨(Fo.one t).qn=1:=by omega
 rcases hq with hq|hq
 · rw[hq] at h1;omega
 · rw[hq] at h1;omega
theorem Fo.vay (a : Tr) : ∀ fo : Fo, ∀ u ∈ (fo.put a).ins, (fo.pS = true ∧ u ∈ a.ins) ∨ ∃ v ∈ fo.ins, v.k ≠ 8 ∧ u = v.put a
 | .nil,u,h=>by simp[Fo.put,Fo.ins] at h
 | .cons pn k n sub rest, u, h => by
  rw[Fo.put] at h;have hr:u∈(rest.put a).ins→((Fo.cons pn k n sub rest).pS=true∧u∈a.ins)∨∃v∈(Fo.cons pn k n sub rest).ins,v.k≠8∧u=v.put a:=λh=>by
   rcases Fo.vay a rest u h with⟨h1,h2⟩|⟨v,h1,h2,h3⟩
   · exact .inl ⟨by rw[Fo.pS,h1];simp,h2⟩
   · exact .inr ⟨v,by rw[Fo.ins];simp[h1],h2,h3⟩
  split at h
  · rename_i hk
    rw[Fo.ins] at h;rcases List.mem_cons.1 h with h|h
    · exact .inl ⟨by rw[Fo.pS,hk];simp,by rw[Tr.ins,h];simp⟩
    · rcases List.mem_append.1 h with h|h
      · exact .inl ⟨by rw[Fo.pS,hk];simp,by rw[Tr.ins];simp[h]⟩
      · exact hr h
  · rename_i hk
    rw[Fo.ins] at h;rcases List.mem_cons.1 h with h|h
    · exact .inr ⟨⟨k,n,sub⟩,by rw[Fo.ins];simp,hk,by rw[h,Tr.put,if_neg hk]⟩
    · rcases List.mem_append.1 h with h|h
      · rcases Fo.vay a sub u h with⟨h1,h2⟩|⟨v,h1,h2,h3⟩
        · exact .inl ⟨by rw[Fo.pS,h1];simp,h2⟩
        · exact .inr ⟨v,by rw[Fo.ins];simp[h1],h2,h3⟩
      · exact hr h
theorem Tr.vay {a t u:Tr} (h:u∈(t.put a).ins):(t.pS=true∧u∈a.ins)∨∃v∈t.ins,v.k≠8∧u=v.put a:=by
 unfold Tr.put at h
 split at h
 · rename_i hk
   exact .inl ⟨by unfold Tr.pS;simp[hk],h⟩
 · rename_i hk
   unfold Tr.ins at h;rcases List.mem_cons.1 h with h|h
   · exact .inr ⟨t,by simp[Tr.ins],hk,by rw[h,Tr.put,if_neg hk]⟩
   · rcases Fo.vay a t.sub u h with⟨h1,h2⟩|⟨v,h1,h2,h3⟩
     · exact .inl ⟨by unfold Tr.pS;simp[h1],h2⟩
     · exact .inr ⟨v,by unfold Tr.ins;simp[h1],h2,h3⟩
theorem Fo.vb8 (a:Tr):∀fo:Fo,(fo.put a).FP=fo.FP.map λx=>(x.1,x.2.put a)
 | .nil=>rfl
 | .cons pn k n sub rest => by
  rw[Fo.put,Fo.FP,List.map_cons];split
  · rename_i hk
    rw[Fo.FP,Fo.vb8 a rest,Tr.put,if_pos hk]
  · rename_i hk
    rw[Fo.FP,Fo.vb8 a rest,Tr.put,if_neg hk]
theorem Fo.vas (a:Tr) {fo:Fo} (h:fo.len≠0):(fo.put a).first=fo.first.put a:=by
 cases fo with
 | nil=>exact absurd rfl h
 | cons pn k n sub rest=>
  rw[Fo.put,Fo.first,Tr.put];split<;>rfl
theorem Fo.va4 {u v:Tr} (hv:v∈u.ins):∀fo:Fo,u∈fo.ins→v∈fo.ins
 | .nil,h=>by simp[Fo.ins] at h
 | .cons pn k n sub rest, h => by
  rw[Fo.ins] at h ⊢;rcases List.mem_cons.1 h with rfl|h
  · unfold Tr.ins at hv
    rcases List.mem_cons.1 hv with rfl|hv
    · simp
    · simp only at hv;simp[hv]
  · rcases List.mem_append.1 h with h|h
    · simp[Fo.va4 hv sub h]
    · simp[Fo.va4 hv rest h]
theorem Tr.va4 {t u v:Tr} (hu:u∈t.ins) (hv:v∈u.ins):v∈t.ins:=by
 unfold Tr.ins at hu ⊢
 rcases List.mem_cons.1 hu with rfl|hu
 · exact hv
 · exact List.mem_cons_of_mem _ (Fo.va4 hv t.sub hu)
theorem Fo.vah {u:Tr} (ho:u.pS=true):∀fo:Fo,u∈fo.ins→fo.pS=true
 | .nil,h=>by simp[Fo.ins] at h
 | .cons pn k n sub rest, h => by
  rw[Fo.ins] at h;rw[Fo.pS];rcases List.mem_cons.1 h with rfl|h
  · unfold Tr.pS at ho
    simp only at ho;rw[ho];simp
  · rcases List.mem_append.1 h with h|h
    · simp[Fo.vah ho sub h]
    · simp[Fo.vah ho rest h]
theorem Tr.vah {t u:Tr} (hu:u∈t.ins) (ho:u.pS=true):t.pS=true:=by
 unfold Tr.ins at hu
 rcases List.mem_cons.1 hu with rfl|hu
 · exact ho
 · unfold Tr.pS;simp[Fo.vah ho t.sub hu]
theorem Fo.vat {a:Tr}:∀fo:Fo,(fo.put a).pS=true→a.pS=true
 | .nil,h=>by simp[Fo.put,Fo.pS] at h
 | .cons pn k n sub rest, h => by
  rw[Fo.put] at h;split at h
  · rw[Fo.pS,Bool.or_eq_true] at h
    rcases h with h|h
    · exact h
    · exact Fo.vat rest h
  · rename_i hk
    rw[Fo.pS,Bool.or_eq_true,Bool.or_eq_true] at h;rcases h with(h|h)|h
    · exact absurd (of_decide_eq_true h) hk
    · exact Fo.vat sub h
    · exact Fo.vat rest h
theorem Tr.vat {a t:Tr} (h:(t.put a).pS=true):a.pS=true:=by
 unfold Tr.put at h
 split at h
 · exact h
 · rename_i hk
   unfold Tr.pS at h;simp only[Bool.or_eq_true,decide_eq_true_eq] at h;rcases h with h|h
   · exact absurd h hk
   · exact Fo.vat t.sub h
theorem va2 {t:List UInt8} {T U:Tr} (h:aq t=(0,T)) (hu:U∈T.ins):aq U.txt=(0,U)∧(U=T∨U.level<T.level)∧U.ok:=by
 obtain⟨o,e,l,v⟩:=bE h
 obtain⟨o2,l2,v2⟩:=o.Eg hu
 rw[e] at l2
 have hv:U.level≤T.level:=by rcases v2 with rfl|v2<;>omega
 exact⟨by rw[nR o2,if_neg (by omega)],v2,o2⟩
theorem va3 {t u:List UInt8} {T:Tr} (h:aq t=(0,T)):u∈(dO t).1↔∃U∈T.ins,u=U.txt:=by
 unfold dO
 rw[h,if_pos rfl]
 simp only
 rw[xC,oq,List.mem_map]
 constructor
 · rintro⟨U,h1,h2⟩;exact⟨U,h1,h2.symm⟩
 · rintro⟨U,h1,h2⟩;exact⟨U,h1,h2.symm⟩
theorem vak {T:Tr} (o:T.ok) (h:(aq T.txt).1=0):ij T=(T.txt,0):=by
 rw[nR o] at h
 unfold ij
 split at h
 · cases h
 · rename_i h1;rw[if_neg h1]
end Go.Proofs.YtakgjcfkdemipaaGreatDoor
namespace Go.Proofs.YtakgjcfkdemipaaGreatDoor
open Go.RowKit
theorem vae (s:cD):bZ s []=(s,0):=by unfold bZ;rw[if_pos rfl]
theorem va0 {t:List UInt8} (h:(aq t).1=0):t≠[]:=by
 rintro rfl
 revert h
 decide+kernel
theorem vcf {t b x:List UInt8} (h:aQ t b=(x,0)):x≠[]:=by
 obtain⟨T,A,h1,h2,h3,h4⟩:=JV h
 exact va0 (by rw[h4])
theorem vbo {a : List UInt8} : ∀ {l : List (List UInt8)}, (jD a l).2 = 0 → ∀ u ∈ (jD a l).1, ∃ v ∈ l, aQ v a = (u, 0)
 | [],_,u,hu=>by cases hu
 | t :: l, h, u, hu => by
  unfold jD at h hu;split at h
  · rename_i h1
    rw[if_pos h1] at hu;split at h
    · rename_i h2
      rw[if_pos h2] at hu;rcases List.mem_cons.1 hu with rfl|hu
      · exact⟨t,by simp,Prod.ext rfl h1⟩
      · obtain⟨v,hv,e⟩:=vbo h2 u hu
        exact⟨v,by simp[hv],e⟩
    · rename_i h2;exact absurd h h2
  · rename_i h1;exact absurd h h1
theorem vai {u:List UInt8} {U:Tr} (h:aq u=(0,U)) (hk:U.k=7∨U.k=4) (hn:U.sub.len≠0):bQ u=(U.sub.first.txt,true,0)∧U.sub.first∈U.sub.ins:=by
 refine⟨?_,?_⟩
 · have vcx:lX u [4,7]=(0,U):=by unfold lX;rw[h,if_pos rfl,if_pos (by rcases hk with hk|hk<;>rw[hk]<;>rfl)]
   unfold bQ;rw[vcx,if_pos ⟨rfl,hn⟩]
 · rcases hs:U.sub with _|⟨pn,k,n,sub,rest⟩
   · rw[hs] at hn;exact absurd rfl hn
   · rw[Fo.first,Fo.ins];exact List.mem_cons_self ..
end Go.Proofs.YtakgjcfkdemipaaGreatDoor
namespace Go.Proofs.YtakgjcfkdemipaaGreatDoor
def vcd (c:aR) (u:List UInt8):Prop:=
 (aq u).2.k=7→∃f,ez c.bK (dI u).1=some f∧f.kind=3∧(bQ u).2.1=f.par∧((bQ u).2.1=true→(dP c f.ag (bQ u).1).isSome=false)
theorem vcn {c:aR} {n:Nat} {u:List UInt8} (h:gH c (cV c n) u=0):vcd c u:=by
 intro hk
 unfold gH at h
 rw[if_pos hk] at h
 rcases hf:ez c.bK (dI u).1 with _|f
 · rw[hf] at h;cases h
 rw[hf] at h
 simp only at h
 split at h
 case isFalse=>cases h
 rename_i h1
 refine⟨f,rfl,h1.1,h1.2,λha=>?_⟩
 split at h
 · cases h
 rename_i h2
 rcases hl:(dP c f.ag (bQ u).1).isSome with _|_
 · rfl
 · exact absurd ⟨ha,.inr hl⟩ h2
theorem vaq {u:List UInt8} {U:Tr} (h:aq u=(0,U)) (hk:U.k=7) (hn:U.sub.len=0):bQ u=([],false,0):=by
 have vcx:lX u [4,7]=(0,U):=by unfold lX;rw[h,if_pos rfl,if_pos (by rw[hk];rfl)]
 unfold bQ
 rw[vcx,if_neg (by simp[hn])]
theorem vb5 {u:List UInt8} {U:Tr} (h:aq u=(0,U)) (hk:U.k=7):dI u=(U.n,0):=by
 have vcx:lX u [7]=(0,U):=by unfold lX;rw[h,if_pos rfl,if_pos (by rw[hk];rfl)]
 unfold dI
 rw[vcx]
theorem vb6 {c:aR}:∀(n:Nat) {t:List UInt8},iz t≤n→(aq t).1=0→(eW t=true→c.par=true)→(∀u∈(dO t).1,vcd c u)→dx c t=0
 | 0,t,hl,h0,_,_=>by have:=vc8 h0;omega
 | n + 1, t, hl, h0, ho, hi => by
  unfold dx;rw[cV,if_neg (by rw[h0];simp)];rw[if_neg (by
   rintro⟨h1,h2⟩;rw[ho h1] at h2;cases h2)]
  rw[vaj];intro u hu;unfold gH
  by_cases hk:(aq u).2.k=7
  case neg=>rw[if_neg hk]
  rw[if_pos hk];obtain⟨f,h1,h2,h3,h4⟩:=hi u hu hk;rw[h1];simp only;rw[if_pos ⟨h2,h3⟩];rw[if_neg];rintro⟨ha,hb⟩;rcases hb with⟨_,hb⟩|hb
  · apply hb
    rcases hq:aq t with⟨e,T⟩;rw[hq] at h0;simp only at h0;subst h0;obtain⟨U,hU,rfl⟩:=(va3 hq).1 hu;obtain⟨k1,k2,k3⟩:=va2 hq hU;rw[k1] at hk;simp only at hk
    by_cases hn:U.sub.len=0
    · rw[vaq k1 hk hn] at ha;cases ha
    obtain⟨m1,m2⟩:=vai k1 (.inl hk) hn;rw[m1];simp only;have vdc:U.sub.first∈U.ins:=by unfold Tr.ins;exact List.mem_cons_of_mem _ m2
    obtain⟨r1,r2,r3⟩:=va2 hq (Tr.va4 hU vdc);have hlv:iz U.sub.first.txt<iz U.txt:=by
     have:=(qX (u:=U.txt) (by rw[k1]) (by rw[k1];exact hk)).2.2.2.2.1 (by rw[m1]);rw[m1] at this;exact this.2.2
    have vee:iz U.txt≤iz t:=by
     rw[om k1,om hq];rcases k2 with rfl|k2
     · exact nl _
     · omega
    have h6:=oh t;have:=vb6 (c:=c) n (t:=U.sub.first.txt) (by omega) (by rw[r1]) (λh=>ho (by
     unfold eW at h ⊢;rw[r1,if_pos rfl] at h;rw[hq,if_pos rfl];exact Tr.vah (Tr.va4 hU vdc) h)) (λv hv=>by
     obtain⟨V,hV,rfl⟩:=(va3 r1).1 hv;exact hi V.txt ((va3 hq).2 ⟨V,Tr.va4 (Tr.va4 hU vdc) hV,rfl⟩))
    unfold dx at this;rw[vbb c 6 7 _ (by omega) (by omega)];exact this
  · rw[h4 ha] at hb;cases hb
theorem vad {c:aR} {t:List UInt8} (h:dx c t=0):(aq t).1=0∧(eW t=true→c.par=true)∧∀u∈(dO t).1,vcd c u:=by
 unfold dx at h
 rw[cV] at h
 split at h
 · rename_i h1;exact absurd h h1
 rename_i h1
 split at h
 · cases h
 rename_i h2
 rw[vaj] at h
 refine⟨Decidable.not_not.1 h1,λho=>?_,λu hu=>vcn (h u hu)⟩
 rcases hp:c.par with _|_
 · exact absurd ⟨ho,hp⟩ h2
 · rfl
theorem vb3 {c:aR} {t:List UInt8} {T U:Tr} (h:dx c t=0) (hq:aq t=(0,T)) (hU:U∈T.ins):dx c U.txt=0:=by
 obtain⟨_,h2,h3⟩:=vad h
 obtain⟨k1,k2,k3⟩:=va2 hq hU
 refine vb6 _ (nl _) (by rw[k1]) (λho=>h2 ?_) λv hv=>?_
 · unfold eW at ho ⊢
   rw[k1,if_pos rfl] at ho;rw[hq,if_pos rfl];exact Tr.vah hU ho
 · obtain⟨V,hV,rfl⟩:=(va3 k1).1 hv
   exact h3 V.txt ((va3 hq).2 ⟨V,Tr.va4 hU hV,rfl⟩)
theorem vbg {b a y:List UInt8} (hy:aQ b a=(y,0)):∀{l:List (List UInt8)},(jD b l).2=0→jD a (jD b l).1=jD y l
 | [],_=>rfl
 | t::l,h=>by
  unfold jD at h;split at h
  · rename_i h1
    split at h
    · rename_i h2
      have e:jD b (t::l)=((aQ t b).1::(jD b l).1,0):=by rw[jD,if_pos h1,if_pos h2]
      have e2:aQ (aQ t b).1 a=aQ t y:=vbf (Prod.ext rfl h1) hy;rw[e];simp only;rw[jD,jD,e2,vbg hy h2]
    · rename_i h2;exact absurd h h2
  · rename_i h1;exact absurd h h1
theorem vbj {s:cD} {b a y:List UInt8} (hb:b≠[]) (ha:a≠[]) (hy:aQ b a=(y,0)) (h:(bZ s b).2=0):bZ (bZ s b).1 a=bZ s y:=by
 have ZO:=vcf hy
 unfold bZ at h
 rw[if_neg hb] at h
 split at h
 · rename_i h1;exact absurd h h1
 rename_i h1
 have hl:=vbg hy (Decidable.not_not.1 h1)
 split at h
 · rename_i h2
   have e:bZ s b=(⟨s.iter,(jD b s.args).1,[],s.sigs⟩,0):=by unfold bZ;rw[if_neg hb,if_neg h1,if_pos h2]
   rw[e];unfold bZ;rw[if_neg ha,if_neg ZO];simp only;rw[hl];simp only[h2,if_true]
 · rename_i h2
   split at h
   · rename_i h3;exact absurd h h3
   rename_i h3
   have vdl:=Decidable.not_not.1 h3;have e:bZ s b=(⟨s.iter,(jD b s.args).1,(aQ s.res b).1,s.sigs⟩,0):=by unfold bZ;rw[if_neg hb,if_neg h1,if_neg h2,if_neg h3]
   have e2:aQ (aQ s.res b).1 a=aQ s.res y:=vbf (Prod.ext rfl vdl) hy;have hne:(aQ s.res b).1≠[]:=vcf (t:=s.res) (b:=b) (Prod.ext rfl vdl);rw[e];unfold bZ;rw[if_neg ha,if_neg ZO];simp only;rw[hl,if_neg hne,if_neg h2,e2]
end Go.Proofs.YtakgjcfkdemipaaGreatDoor
namespace Go.Proofs.YtakgjcfkdemipaaGreatDoor
theorem va7 {u a:List UInt8} (hu:(aq u).1=0) (ho:eW u=false) (ha:(aq a).1=0):aQ u a=(u,0):=by
 rcases h1:aq u with⟨c,U⟩
 rcases h2:aq a with⟨d,A⟩
 rw[h1] at hu
 rw[h2] at ha
 simp only at hu ha
 subst hu ha
 unfold eW at ho
 rw[h1,if_pos rfl] at ho
 obtain⟨o,e,_⟩:=bE h1
 rw[BS h1 h2,Tr.van ho,vak o (by rw[e,h1]),e]
theorem vby {s:cD} {a:List UInt8} (hs:∀u∈aI s,(aq u).1=0∧eW u=false) (ha:(aq a).1=0):bZ s a=(s,0):=by
 obtain⟨it,args,res,sigs⟩:=s
 have hw:∀l:List (List UInt8),(∀u∈l,(aq u).1=0∧eW u=false)→jD a l=(l,0):=by
  intro l
  induction l with
  | nil=>intro _;rfl
  | cons t l ih=>
   intro hl;obtain⟨h1,h2⟩:=hl t (List.mem_cons_self ..);rw[jD,va7 h1 h2 ha,ih λx hx=>hl x (List.mem_cons_of_mem _ hx)];simp
 have h1:=hw args λt ht=>hs t (by unfold aI;simp[ht])
 unfold bZ
 rw[if_neg (va0 ha),h1]
 simp only[ne_eq,not_true_eq_false,if_false]
 by_cases hr:res=[]
 · rw[if_pos hr,hr]
 · obtain⟨h2,h3⟩:=hs res (by unfold aI;simp[hr])
   rw[if_neg hr,va7 h2 h3 ha];simp
theorem vap:(aq cU).1=0∧eW cU=false∧(aq cU).2.k=1:=by decide+kernel
theorem vau:(aq aX).1=0∧eW aX=false:=by decide+kernel
theorem vbu {b a:List UInt8} {B A U:Tr} (hb:aq b=(0,B)) (ha:aq a=(0,A)) (hx:aq (B.put A).txt=(0,B.put A)) (hU:U∈B.ins) (hV:U.put A∈(B.put A).ins):aQ U.txt a=((U.put A).txt,0):=by
 obtain⟨u1,_,_⟩:=va2 hb hU
 obtain⟨v1,_,v3⟩:=va2 hx hV
 rw[BS u1 ha,vak v3 (by rw[v1])]
theorem vbh {l:List aG} {g:aG→cD} (n:List UInt8):(l.map λo=>(⟨o.name,g o⟩:aG)).find? (λo=>decide (o.name=n))=(l.find? (λo=>decide (o.name=n))).map λo=>⟨o.name,g o⟩:=by
 induction l with
 | nil=>rfl
 | cons x l ih=>
  rw[List.map_cons,List.find?_cons,List.find?_cons];split
  · rename_i h;simp only at h;rw[h];rfl
  · rename_i h;simp only at h;rw[h];exact ih
def vbq (c d:aR) (b a x:List UInt8):Prop:=cG c x=((cG d b).1.map λo=>⟨o.name,(bZ o.sig a).1⟩,[])∧(cG d b).2=[]∧∀o∈(cG d b).1,(bZ o.sig a).2=0
theorem vbq.op {c d:aR} {b a x nm:List UInt8} {s:cD} (h:vbq c d b a x) (ho:oE d b nm=(s,0)):oE c x nm=bZ s a:=by
 obtain⟨h1,h2,h3⟩:=h
 unfold oE at ho ⊢
 rw[h1]
 rw[h2] at ho
 simp only
 rw[vbh]
 rcases hq:(cG d b).1.find? (λo=>decide (o.name=nm)) with _|o
 · rw[hq] at ho;cases ho
 · rw[hq] at ho
   simp only[vae,Prod.mk.injEq,and_true] at ho;rw[hq];simp only[Option.map_some,vae];rw[←ho];exact Prod.ext rfl (h3 o (List.mem_of_find?_eq_some hq)).symm
theorem va6 {a r r':List UInt8} {args args' sigs:List (List UInt8)} (ha:a≠[]) (h1:jD a args=(args',0)) (h2:r=[]∧r'=[]∨r≠[]∧aQ r a=(r',0)):bZ (sg r args sigs) a=(sg r' args' sigs,0):=by
 unfold bZ sg
 rw[if_neg ha]
 simp only
 rw[h1]
 simp only[ne_eq,not_true_eq_false,if_false]
 rcases h2 with⟨rfl,rfl⟩|⟨h2,h3⟩
 · rw[if_pos rfl]
 · rw[if_neg h2,h3]
   simp
theorem vaf {a x y x' y':List UInt8} (h1:aQ x a=(x',0)) (h2:aQ y a=(y',0)):jD a [x,y]=([x',y'],0):=by
 simp[jD,h1,h2]
theorem va9 {a x x':List UInt8} (h1:aQ x a=(x',0)):jD a [x]=([x'],0):=by
 simp[jD,h1]
theorem vbt {a x y z x' y' z':List UInt8} (h1:aQ x a=(x',0)) (h2:aQ y a=(y',0)) (h3:aQ z a=(z',0)):jD a [x,y,z]=([x',y',z'],0):=by
 simp[jD,h1,h2,h3]
theorem vbn {a:List UInt8}:∀{l:List (List UInt8×List UInt8)},(∀p∈l,(aQ p.2 a).2=0)→jD a (l.map (·.2))=(l.map λp=>(aQ p.2 a).1,0)
 | [],_=>rfl
 | p::l,h=>by
  rw[List.map_cons,jD,if_pos (h p (List.mem_cons_self ..)),vbn λq hq=>h q (List.mem_cons_of_mem _ hq)]
  rfl
theorem vac {c d:aR} {b a x:List UInt8} (h1:(cG c x).2=[]) (h2:(cG d b).2=[]) (h3:((cG d b).1.map λo=>((⟨o.name,(bZ o.sig a).1⟩:aG),(bZ o.sig a).2))=(cG c x).1.map λo=>(o,0)):vbq c d b a x:=by
 refine⟨Prod.ext ?_ h1,h2,λo ho=>?_⟩
 · have:=congrArg (List.map Prod.fst) h3
   rw[List.map_map,List.map_map] at this;have e:(cG c x).1.map (Prod.fst ∘ λo:aG=>(o,0))=(cG c x).1:=by
    rw[show(Prod.fst ∘ λo:aG=>((o,0):aG×Nat))=id from rfl,List.map_id]
   rw[e] at this;rw[←this]
   rfl
 · have hm:((⟨o.name,(bZ o.sig a).1⟩:aG),(bZ o.sig a).2)∈(cG c x).1.map λo=>(o,0):=by
    rw[←h3];exact List.mem_map.2 ⟨o,ho,rfl⟩
   obtain⟨y,_,e⟩:=List.mem_map.1 hm;exact(congrArg Prod.snd e).symm
theorem vba {α β:Type} {F:α→List aG} {F':β→List aG} {g:α→β} {G:aG→aG×Nat}:∀{l:List α},(∀p∈l,(F p).map G=(F' (g p)).map λo=>(o,0))→(l.flatMap F).map G=((l.map g).flatMap F').map λo=>(o,0)
 | [],_=>rfl
 | p::l,h=>by
  rw[List.flatMap_cons,List.map_cons,List.flatMap_cons,List.map_append,List.map_append,h p (List.mem_cons_self ..),vba λq hq=>h q (List.mem_cons_of_mem _ hq)]
theorem Fo.vb7:∀(fo:Fo) (y:List UInt8×Tr),y∈fo.FP→y.2∈fo.ins
 | .nil,y,h=>by simp[Fo.FP] at h
 | .cons pn k n sub rest,y,h=>by
  rw[Fo.FP] at h;rw[Fo.ins];rcases List.mem_cons.1 h with rfl|h
  · exact List.mem_cons_self ..
  · simp[Fo.vb7 rest y h]
theorem vbd {u:List UInt8} {U:Tr} (h:aq u=(0,U)) (hk:U.k=5∨U.k=6):cK u=(U.sub.pts,0):=by
 have vcx:lX u [5,6]=(0,U):=by unfold lX;rw[h,if_pos rfl,if_pos (by rcases hk with hk|hk<;>rw[hk]<;>rfl)]
 unfold cK
 rw[vcx,if_pos rfl]
theorem vbi {b a x:List UInt8} {B A:Tr} (hb:aq b=(0,B)) (ha:aq a=(0,A)) (hX:aq x=(0,B.put A)) (ex:x=(B.put A).txt) (hk:B.k=5∨B.k=6):
 (cK x).1=(cK b).1.map (λp=>(p.1,(aQ p.2 a).1))∧∀p∈(cK b).1,(aQ p.2 a).2=0:=by
 have e:B.put A=⟨B.k,B.n,B.sub.put A⟩:=by rw[Tr.put,if_neg (by omega)]
 have hw:∀y∈B.sub.FP,aQ y.2.txt a=((y.2.put A).txt,0):=λy hy=>by
  refine vbu hb ha (by rw[←ex];exact hX) ?_ ?_
  · unfold Tr.ins;exact List.mem_cons_of_mem _ (Fo.vb7 _ y hy)
  · rw[e]
    unfold Tr.ins;refine List.mem_cons_of_mem _ (Fo.vb7 _ (y.1,y.2.put A) ?_);rw[Fo.vb8];exact List.mem_map.2 ⟨y,hy,rfl⟩
 rw[vbd hb hk,vbd hX (by rw[e];exact hk),e]
 simp only
 rw[Fo.zf,Fo.zf,Fo.vb8,List.map_map,List.map_map]
 refine⟨?_,λp hp=>?_⟩
 · refine List.map_congr_left λy hy=>?_
   simp only[Function.comp];rw[hw y hy]
 · obtain⟨y,hy,rfl⟩:=List.mem_map.1 hp
   simp only;rw[hw y hy]
theorem vcu {c d:aR} {b a x:List UInt8} {B A:Tr} (hb:aq b=(0,B)) (ha:aq a=(0,A)) (h7:B.k≠7) (h8:B.k≠8) (hx:aQ b a=(x,0)):vbq c d b a x:=by
 obtain⟨B',A',hb',vcw,ex,hX⟩:=JV hx
 obtain rfl:B=B':=by rw[hb] at hb';exact congrArg Prod.snd hb'
 obtain rfl:A=A':=by rw[ha] at vcw;exact congrArg Prod.snd vcw
 have hk:=gm (s:=b) (by rw[hb])
 rw[hb] at hk
 simp only at hk
 have e:B.put A=⟨B.k,B.n,B.sub.put A⟩:=by rw[Tr.put,if_neg h8]
 have kb:(aq b).2.k=B.k:=by rw[hb]
 have kx:(aq x).2.k=B.k:=by rw[hX,e]
 have hne:a≠[]:=va0 (by rw[ha])
 have bne:b≠[]:=va0 (by rw[hb])
 have ca:(aq a).1=0:=by rw[ha]
 have hB:aQ aX a=(aX,0):=va7 vau.1 vau.2 ca
 have hI:aQ cU a=(cU,0):=va7 vap.1 vap.2.1 ca
 have P1:∀sigs,bZ (sg aX [b,b] sigs) a=(sg aX [x,x] sigs,0):=λsigs=>va6 hne (vaf hx hx) (.inr ⟨by decide,hB⟩)
 have P2:∀sigs,bZ (sg b [b,b] sigs) a=(sg x [x,x] sigs,0):=λsigs=>va6 hne (vaf hx hx) (.inr ⟨bne,hx⟩)
 have P3:∀sigs,bZ (sg b [b] sigs) a=(sg x [x] sigs,0):=λsigs=>va6 hne (va9 hx) (.inr ⟨bne,hx⟩)
 have P4:∀sigs,bZ (sg b [] sigs) a=(sg x [] sigs,0):=λsigs=>va6 hne rfl (.inr ⟨bne,hx⟩)
 have vez:∀sigs,bZ (sg cU [b] sigs) a=(sg cU [x] sigs,0):=λsigs=>va6 hne (va9 hx) (.inr ⟨by decide,hI⟩)
 have vf0:∀sigs,bZ (sg aX [b] sigs) a=(sg aX [x] sigs,0):=λsigs=>va6 hne (va9 hx) (.inr ⟨by decide,hB⟩)
 have hks:B.k=1∨B.k=2∨B.k=3∨B.k=4∨B.k=5∨B.k=6:=by omega
 rcases hks with h|h|h|h|h|h
 · refine vac (by unfold cG;simp only[kx,h]) (by unfold cG;simp only[kb,h]) ?_
   unfold cG;simp only[kx,kb,h];simp[P1,P2]
 · refine vac (by unfold cG;simp only[kx,h]) (by unfold cG;simp only[kb,h]) ?_
   unfold cG;simp only[kx,kb,h];simp[P1,P2,P3]
 · refine vac (by unfold cG;simp only[kx,h]) (by unfold cG;simp only[kb,h]) ?_
   unfold cG;simp only[kx,kb,h];simp[P1]
 · have hn:B.sub.len≠0:=by
    obtain⟨o,_⟩:=bE hb;have o':Wf none (.cons [] B.k B.n B.sub .nil):=o;rw[h] at o';generalize B.n=n at o';generalize B.sub=sub at o' ⊢;cases o' with
    | word k h=>omega
    | arr x h=>
     obtain⟨t,rfl⟩:=h.one;simp[Fo.one,Fo.len]
    | rcd k w fo hk=>omega
   obtain⟨m1,m2⟩:=vai hb (.inr h) hn;obtain⟨m3,m4⟩:=vai hX (.inr (by rw[e];exact h)) (by rw[e];simp only;rw[Fo.Ev];exact hn);rw[e] at m3 m4;simp only at m3 m4;rw[Fo.vas A hn] at m3 m4;have he:aQ (bQ b).1 a=((bQ x).1,0):=by
    rw[m1,m3];refine vbu hb ha (by rw[←ex];exact hX) ?_ ?_
    · unfold Tr.ins;exact List.mem_cons_of_mem _ m2
    · rw[e];unfold Tr.ins;exact List.mem_cons_of_mem _ m4
   have vd4:(bQ b).1≠[]:=by
    rw[m1];exact va0 (by rw[(va2 hb (by unfold Tr.ins;exact List.mem_cons_of_mem _ m2)).1])
   have vf1:∀sigs,bZ (sg [] [b,(bQ b).1] sigs) a=(sg [] [x,(bQ x).1] sigs,0):=λsigs=>va6 hne (vaf hx he) (.inl ⟨rfl,rfl⟩)
   have vf2:∀sigs,bZ (sg (bQ b).1 [b,cU] sigs) a=(sg (bQ x).1 [x,cU] sigs,0):=λsigs=>va6 hne (vaf hx hI) (.inr ⟨vd4,he⟩)
   have vf3:∀sigs,bZ (sg (bQ b).1 [b] sigs) a=(sg (bQ x).1 [x] sigs,0):=λsigs=>va6 hne (va9 hx) (.inr ⟨vd4,he⟩)
   have vf4:∀sigs,bZ (sg [] [b,cU,(bQ b).1] sigs) a=(sg [] [x,cU,(bQ x).1] sigs,0):=λsigs=>va6 hne (vbt hx hI he) (.inl ⟨rfl,rfl⟩)
   refine vac (by unfold cG;simp only[kx,h]) (by unfold cG;simp only[kb,h]) ?_;unfold cG;simp only[kx,kb,h];simp[P1,P4,vez,vf1,vf2,vf3,vf4]
 · obtain⟨q1,q2⟩:=vbi hb ha hX ex (.inl h)
   refine vac (by unfold cG;simp only[kx,h]) (by unfold cG;simp only[kb,h]) ?_;unfold cG;simp only[kx,kb,h];have KS:∀p∈(cK b).1,p.2≠[]:=λp hp=>va0 (jy.1 p hp).2
   have M:∀sigs,bZ (sg b ((cK b).1.map (·.2)) sigs) a=(sg x ((cK x).1.map (·.2)) sigs,0):=λsigs=>by
    refine va6 hne ?_ (.inr ⟨bne,hx⟩);rw[vbn q2,q1,List.map_map]
    rfl
   rw[q1] at M ⊢;simp only[List.map_append,List.map_cons,List.map_nil];rw[M,P1]
   congr 1
   congr 1
   refine vba λp hp=>?_
   have w:aQ p.2 a=((aQ p.2 a).1,0):=Prod.ext rfl (q2 p hp);simp only[List.map_cons,List.map_nil];rw[va6 hne (va9 hx) (.inr ⟨KS p hp,w⟩),va6 hne (vaf hx w) (.inl ⟨rfl,rfl⟩)]
 · obtain⟨q1,q2⟩:=vbi hb ha hX ex (.inr h)
   refine vac (by unfold cG;simp only[kx,h]) (by unfold cG;simp only[kb,h]) ?_;unfold cG;simp only[kx,kb,h];rw[q1];simp only[List.map_cons];rw[P1]
   congr 1
   refine vba λp hp=>?_
   have w:aQ p.2 a=((aQ p.2 a).1,0):=Prod.ext rfl (q2 p hp);simp only[List.map_cons,List.map_nil];rw[vf0,va6 hne (va9 w) (.inr ⟨bne,hx⟩)]
end Go.Proofs.YtakgjcfkdemipaaGreatDoor
namespace Go.Proofs.YtakgjcfkdemipaaGreatDoor
theorem vce {B:Tr} (h:B.ok) (hk:B.k=8):B=⟨8,[],.nil⟩:=by
 obtain⟨k,n,sub⟩:=B
 simp only at hk
 subst hk
 obtain⟨rfl,rfl⟩:=(show Wf none (.cons [] 8 n sub .nil) from h).NT
 rfl
theorem vcy {L:List aB} {nd nc:List aG} {pd pc:Bool} {b a x nm:List UInt8} {σ:cD} {B A:Tr} (hL:∀f∈L,eU f=true) (hN:vcd ⟨L,nd,pd⟩ b) (hb:aq b=(0,B)) (ha:aq a=(0,A)) (h8:B.k≠8) (hx:aQ b a=(x,0)) (h:oE ⟨L,nd,pd⟩ b nm=(σ,0)):oE ⟨L,nc,pc⟩ x nm=bZ σ a:=by
 by_cases h7:B.k=7
 case neg=>exact(vcu (c:=⟨L,nc,pc⟩) hb ha h7 h8 hx).op h
 obtain⟨B',A',hb',vcw,ex,hX⟩:=JV hx
 obtain rfl:B=B':=by rw[hb] at hb';exact congrArg Prod.snd hb'
 obtain rfl:A=A':=by rw[ha] at vcw;exact congrArg Prod.snd vcw
 have e:B.put A=⟨B.k,B.n,B.sub.put A⟩:=by rw[Tr.put,if_neg h8]
 have kb:(aq b).2.k=7:=by rw[hb];exact h7
 have kx:(aq x).2.k=7:=by rw[hX,e];exact h7
 have hne:a≠[]:=va0 (by rw[ha])
 obtain⟨f,f1,f2,f3,f4⟩:=hN kb
 have bx:dI x=dI b:=by rw[vb5 hb h7,vb5 hX (by rw[e];exact h7),e]
 have rb:cG ⟨L,nd,pd⟩ b=(f.ops,(bQ b).1):=by
  rw[vax _ kb];simp only at f1 ⊢;rw[f1];rfl
 have rx:cG ⟨L,nc,pc⟩ x=(f.ops,(bQ x).1):=by
  rw[vax _ kx];simp only at f1 ⊢;rw[bx,f1];rfl
 have nY:=ec (hL f (List.mem_of_find?_eq_some f1))
 unfold oE at h ⊢
 rw[rb] at h
 rw[rx]
 simp only at h ⊢
 rcases hq:f.ops.find? (λo=>decide (o.name=nm)) with _|o
 · rw[hq] at h;cases h
 rw[hq] at h ⊢
 simp only at h ⊢
 have xx:=eC (nY.2.2.2.2.2.2.2.1 o (List.mem_of_find?_eq_some hq)).2
 by_cases hn:B.sub.len=0
 · have hab:=vaq hb h7 hn
   have vdy:=vaq hX (by rw[e];exact h7) (by rw[e];simp only;rw[Fo.Ev];exact hn);rw[hab] at h f3;rw[vdy];simp only at h f3 ⊢;rw[vae] at h ⊢;obtain rfl:o.sig=σ:=congrArg Prod.fst h;rw[vby (λu hu=>?_) (by rw[ha])];obtain⟨u1,u2⟩:=xx.2.2.2.2 u hu;refine⟨u1,?_⟩;rcases ho:eW u with _|_
   · rfl
   · rw[←f3] at u2
     exact absurd (u2 ho) (by simp)
 · obtain⟨m1,m2⟩:=vai hb (.inl h7) hn
   obtain⟨m3,m4⟩:=vai hX (.inl (by rw[e];exact h7)) (by rw[e];simp only;rw[Fo.Ev];exact hn);rw[e] at m3 m4;simp only at m3 m4;rw[Fo.vas A hn] at m3 m4;have he:aQ (bQ b).1 a=((bQ x).1,0):=by
    rw[m1,m3];refine vbu hb ha (by rw[←ex];exact hX) ?_ ?_
    · unfold Tr.ins;exact List.mem_cons_of_mem _ m2
    · rw[e];unfold Tr.ins;exact List.mem_cons_of_mem _ m4
   have vd4:(bQ b).1≠[]:=by
    rw[m1];exact va0 (by rw[(va2 hb (by unfold Tr.ins;exact List.mem_cons_of_mem _ m2)).1])
   rw[←vbj vd4 hne he (by rw[h]),h]
theorem vcc {u b:List UInt8} (hu:(aq u).1=0) (hb:(aq b).1=0) (ve4:u.length≤14) (hl:u.length+b.length≤100) (hv:iz u+iz b≤7):(aQ u b).2=0:=by
 rcases h1:aq u with⟨c,U⟩
 rcases h2:aq b with⟨d,A⟩
 rw[h1] at hu
 rw[h2] at hb
 simp only at hu hb
 subst hu hb
 obtain⟨o,e,_⟩:=bE h1
 obtain⟨o2,e2,_⟩:=bE h2
 rw[om h1,om h2] at hv
 have h3:=vbl (a:=A) o (by rw[e];exact ve4)
 rw[e,e2] at h3
 have h4:=Tr.lG A U
 rw[BS h1 h2]
 unfold ij
 rw[if_neg (by omega)]
theorem vca {s:cD} {b:List UInt8} (hs:∀u∈aI s,(aQ u b).2=0):(bZ s b).2=0:=by
 obtain⟨it,args,res,sigs⟩:=s
 have hw:∀l:List (List UInt8),(∀u∈l,(aQ u b).2=0)→(jD b l).2=0:=λl hl=>by rw[nM b l hl]
 have h1:=hw args λt ht=>hs t (by unfold aI;simp[ht])
 unfold bZ
 split
 · rfl
 · rw[if_neg (by simp only;rw[h1];simp)]
   split
   · rfl
   · rename_i hr
     rw[if_neg (by simp only at hr ⊢;rw[hs res (by unfold aI;simp[hr])];simp)]
def vc3 (L:List aB):Prop:=∀f∈L,∀n∈f.ag,∀u∈aI n.sig,u.length≤14∧iz u≤2
theorem vco {a b:cD} (h:ic a b=true):a=b:=(oy a b).1 h
theorem vc7 {c:aR} {t:List UInt8} {n:aG} (h:xK c t n=false):oE c t n.name=bZ n.sig t∧(bZ n.sig t).2=0:=by
 unfold xK at h
 simp only[Bool.or_eq_false_iff,decide_eq_false_iff_not,ne_eq,Decidable.not_not,Bool.not_eq_false'] at h
 exact⟨Prod.ext (vco h.2) (by rw[h.1.1,h.1.2]),h.1.2⟩
theorem vcr {c:aR} {t:List UInt8} {n:aG} (h:oE c t n.name=bZ n.sig t) (h2:(bZ n.sig t).2=0):xK c t n=false:=by
 unfold xK
 rw[h,h2,(oy _ _).2 rfl]
 simp
theorem vbv {L:List aB} {nd nc:List aG} {pd pc:Bool} {s a x:List UInt8} (hL:∀f∈L,eU f=true) (hS:vc3 L) (hs:dx ⟨L,nd,pd⟩ s=0) (ha:dx ⟨L,nc,pc⟩ a=0) (hf:(dP ⟨L,nc,pc⟩ nd a).isSome=false) (hx:aQ s a=(x,0))
 (vdt:s.length≤14) (s2:iz s≤2) (ve8:a.length≤30) (a3:iz a≤3):dx ⟨L,nc,pc⟩ x=0:=by
 obtain⟨S,A,qS,vfh,rfl,vfj⟩:=JV hx
 obtain⟨_,ao,an⟩:=vad ha
 obtain⟨_,so,sn⟩:=vad hs
 have ca:(aq a).1=0:=by rw[vfh]
 refine vb6 _ (nl _) (by rw[vfj]) (λho=>ao ?_) λu hu=>?_
 · unfold eW at ho ⊢
   rw[vfj,if_pos rfl] at ho;rw[vfh,if_pos rfl];exact Tr.vat ho
 · obtain⟨U,hU,rfl⟩:=(va3 vfj).1 hu
   rcases Tr.vay hU with⟨_,hm⟩|⟨V,hV,h8,rfl⟩
   · exact an _ ((va3 vfh).2 ⟨U,hm,rfl⟩)
   obtain⟨v1,v2,v3⟩:=va2 qS hV;obtain⟨u1,u2,u3⟩:=va2 vfj hU;have e:V.put A=⟨V.k,V.n,V.sub.put A⟩:=by rw[Tr.put,if_neg h8]
   intro hk;have vcv:V.k=7:=by rw[u1,e] at hk;exact hk
   have hN:=sn V.txt ((va3 qS).2 ⟨V,hV,rfl⟩);obtain⟨f,f1,f2,f3,f4⟩:=hN (by rw[v1];exact vcv);have hbase:dI (V.put A).txt=dI V.txt:=by rw[vb5 v1 vcv,vb5 u1 (by rw[e];exact vcv),e]
   by_cases hn:V.sub.len=0
   · have YX:=vaq v1 vcv hn
     have vdm:=vaq u1 (by rw[e];exact vcv) (by rw[e];simp only;rw[Fo.Ev];exact hn);refine⟨f,by rw[hbase];exact f1,f2,?_,λh=>?_⟩
     · rw[vdm,←f3,YX]
     · rw[vdm] at h;cases h
   obtain⟨m1,m2⟩:=vai v1 (.inl vcv) hn;obtain⟨m3,m4⟩:=vai u1 (.inl (by rw[e];exact vcv)) (by rw[e];simp only;rw[Fo.Ev];exact hn);rw[e] at m4;simp only at m4;have vdq:bQ (V.put A).txt=((V.sub.first.put A).txt,true,0):=by
    rw[m3,e];simp only;rw[Fo.vas A hn]
   rw[Fo.vas A hn] at m4;refine⟨f,by rw[hbase];exact f1,f2,by rw[vdq,←f3,m1],λ_=>?_⟩;rw[vdq];simp only;have vd5:=f4 (by rw[m1]);rw[m1] at vd5;simp only at vd5;have vdu:V.sub.first∈V.ins:=by unfold Tr.ins;exact List.mem_cons_of_mem _ m2
   have vdd:=Tr.va4 hV vdu;obtain⟨b1,b2,b3⟩:=va2 qS vdd;have vdw:V.sub.first.put A∈(S.put A).ins:=by
    refine Tr.va4 hU ?_;rw[e];unfold Tr.ins;exact List.mem_cons_of_mem _ m4
   obtain⟨y1,y2,y3⟩:=va2 vfj vdw;have hNb:=sn V.sub.first.txt ((va3 qS).2 ⟨_,vdd,rfl⟩)
   have lb:V.sub.first.txt.length≤14:=by
    obtain⟨o,e2,_⟩:=bE qS;have:=(o.Eg vdd).2.1;rw[e2] at this;omega
   have ved:=om qS;have veb:V.sub.first.level≤2:=by
    rcases b2 with b2|b2
    · rw[b2];omega
    · omega
   have vea:=om vfh;obtain⟨vff,vfb,_⟩:=bE vfh;have KY:(V.sub.first.put A).txt.length≤44:=by
    have:=vbl (a:=A) b3 lb;rw[vfb] at this;omega
   have veh:(V.sub.first.put A).level≤4:=by
    have:=Tr.lG A V.sub.first
    omega
   have vdp:aQ V.sub.first.txt a=((V.sub.first.put A).txt,0):=by rw[BS b1 vfh,vak y3 (by rw[y1])]
   have vS:f∈L:=List.mem_of_find?_eq_some f1;have nY:=ec (hL f vS);rw[vbw] at vd5 hf ⊢;intro n hnm;have xx:ek n.sig true=true:=by
    have:=nY.2.2.2.1;unfold bh at this;simp only[Bool.and_eq_true,List.all_eq_true] at this;exact this.1.1 n hnm
   obtain⟨g1,g2⟩:=vc7 (vd5 n hnm)
   by_cases Yy:V.sub.first.k=8
   · have hB:=vce b3 Yy
     have QO:V.sub.first.txt=vfi:=by rw[hB];rfl
     have ve1:(V.sub.first.put A).txt=a:=by rw[Tr.put,if_pos Yy,vfb]
     rw[ve1];rw[QO,vcz xx] at g1;have hr:cG ⟨L,nd,pd⟩ vfi=(nd,[]):=by unfold cG;rw[vc4];rfl
     unfold oE at g1;rw[hr] at g1;simp only at g1;rcases hq:nd.find? (λo=>decide (o.name=n.name)) with _|m
     · rw[hq] at g1
       exact absurd (congrArg Prod.snd g1) (by simp)
     rw[hq] at g1;simp only[vae,Prod.mk.injEq,and_true] at g1;have hmn:m.name=n.name:=by simpa using List.find?_some hq
     obtain rfl:m=n:=by
      obtain⟨m1,m2⟩:=m;obtain⟨n1,n2⟩:=n;simp only at hmn g1;rw[hmn,g1]
     exact hf m (List.mem_of_find?_eq_some hq)
   · have hop:=vcy (nc:=nc) (pc:=pc) hL hNb b1 vfh Yy vdp (nm:=n.name) (σ:=(bZ n.sig V.sub.first.txt).1) (by rw[g1];exact Prod.ext rfl g2)
     have has:=vbj (s:=n.sig) (va0 (by rw[b1])) (va0 ca) vdp g2;rw[has] at hop;refine vcr hop (vca λu hu=>?_);obtain⟨ve7,uv⟩:=hS f vS n hnm u hu;have ve0:=((eC xx).2.2.2.2 u hu).1;have vef:=om y1;exact vcc ve0 (by rw[y1]) ve7 (by omega) (by omega)
theorem vbe {a:List aB}:∀{l:List aB} {i:Nat},fL a l i=none→∀f∈l,∀u∈(mJ f).flatMap aI,dx ⟨a,f.ag,f.par⟩ u=0
 | [],_,_,f,hf=>by cases hf
 | g::l,i,h,f,hf=>by
  unfold fL at h;simp only at h;split at h
  · rename_i h1
    rcases List.mem_cons.1 hf with rfl|hf
    · exact vaj.1 h1
    · exact vbe h f hf
  · cases h
theorem vcq {r u:List UInt8} {args sigs:List (List UInt8)} (h:u∈aI (sg r args sigs)):u∈args∨u=r:=by
 unfold aI sg at h
 simp only[List.mem_append] at h
 rcases h with h|h
 · exact .inl h
 · split at h
   · cases h
   · exact .inr (List.mem_singleton.1 h)
theorem vci {c:aR} {t u:List UInt8} {T:Tr} (hq:aq t=(0,T)) (h7:T.k≠7) (h8:T.k≠8) {x:aG} (hx:x∈(cG c t).1) (hu:u∈aI x.sig):u=cU∨u=aX∨∃U∈T.ins,u=U.txt:=by
 have hk:=gm (s:=t) (by rw[hq])
 rw[hq] at hk
 simp only at hk
 have kt:(aq t).2.k=T.k:=by rw[hq]
 have ht:∃U∈T.ins,t=U.txt:=⟨T,by unfold Tr.ins;exact List.mem_cons_self ..,(bE hq).2.1.symm⟩
 have hks:T.k=1∨T.k=2∨T.k=3∨T.k=4∨T.k=5∨T.k=6:=by omega
 have hp:(T.k=5∨T.k=6)→∀p∈(cK t).1,∃U∈T.ins,p.2=U.txt:=λh p hp=>by
  rw[vbd hq h] at hp;simp only at hp;rw[Fo.zf] at hp;obtain⟨y,hy,rfl⟩:=List.mem_map.1 hp;exact⟨y.2,by unfold Tr.ins;exact List.mem_cons_of_mem _ (Fo.vb7 _ y hy),rfl⟩
 have va1 : ∀ {r : List UInt8} {args sigs : List (List UInt8)} {n : List UInt8}, x = ⟨n, sg r args sigs⟩ → (∀ v ∈ args, v = cU ∨ v = aX ∨ ∃ U ∈ T.ins, v = U.txt) → (r = cU ∨ r = aX ∨ (∃ U ∈ T.ins, r = U.txt) ∨ r = []) → u = cU ∨ u = aX ∨ ∃ U ∈ T.ins, u = U.txt := by
  intro r args sigs n e h1 h2;subst e;simp only at hu
  by_cases hr:r=[]
  · unfold aI sg at hu
    simp only[hr,if_true,List.append_nil] at hu;exact h1 u hu
  · rcases vcq hu with h|rfl
    · exact h1 u h
    · rcases h2 with h2|h2|h2|h2
      · exact .inl h2
      · exact .inr (.inl h2)
      · exact .inr (.inr h2)
      · exact absurd h2 hr
 rcases hks with h|h|h|h|h|h
 · unfold cG at hx
   rw[kt,h] at hx;simp only[List.mem_append,List.mem_cons,List.not_mem_nil,or_false,List.mem_map] at hx;rcases hx with((hx|hx|hx)|⟨n,_,hx⟩)|⟨n,_,hx⟩
   · exact va1 hx (by simp[ht]) (.inr (.inl rfl))
   · exact va1 hx (by simp[ht]) (.inr (.inl rfl))
   · exact va1 hx (by simp[ht]) (.inr (.inl rfl))
   · exact va1 hx.symm (by simp[ht]) (.inr (.inr (.inl ht)))
   · exact va1 hx.symm (by simp[ht]) (.inr (.inr (.inl ht)))
 · unfold cG at hx
   rw[kt,h] at hx;simp only[List.mem_cons,List.not_mem_nil,or_false] at hx;rcases hx with hx|hx|hx|hx
   · exact va1 hx (by simp[ht]) (.inr (.inl rfl))
   · exact va1 hx (by simp[ht]) (.inr (.inr (.inl ht)))
   · exact va1 hx (by simp[ht]) (.inr (.inr (.inl ht)))
   · exact va1 hx (by simp[ht]) (.inr (.inr (.inl ht)))
 · unfold cG at hx
   rw[kt,h] at hx;simp only[List.mem_cons,List.not_mem_nil,or_false] at hx;exact va1 hx (by simp[ht]) (.inr (.inl rfl))
 · have ha:∃U∈T.ins,(bQ t).1=U.txt:=by
    by_cases hn:T.sub.len=0
    · exfalso
      obtain⟨o,_⟩:=bE hq;have o':Wf none (.cons [] T.k T.n T.sub .nil):=o;rw[h] at o';generalize T.n=n at o';generalize T.sub=sub at o' hn;cases o' with
      | word k h=>omega
      | arr x h=>
       obtain⟨t,rfl⟩:=h.one;simp[Fo.one,Fo.len] at hn
      | rcd k w fo hk=>omega
    · obtain⟨m1,m2⟩:=vai hq (.inr h) hn
      exact⟨_,by unfold Tr.ins;exact List.mem_cons_of_mem _ m2,by rw[m1]⟩
   unfold cG at hx;rw[kt,h] at hx;simp only[List.mem_cons,List.not_mem_nil,or_false] at hx;rcases hx with hx|hx|hx|hx|hx|hx|hx
   · exact va1 hx (by simp[ht]) (.inr (.inl rfl))
   · exact va1 hx (by simp[ht,ha]) (.inr (.inr (.inr rfl)))
   · exact va1 hx (by simp[ht]) (.inr (.inr (.inl ha)))
   · exact va1 hx (by simp) (.inr (.inr (.inl ht)))
   · exact va1 hx (by simp[ht]) (.inr (.inr (.inl ha)))
   · exact va1 hx (by simp[ht]) (.inl rfl)
   · exact va1 hx (by simp[ht,ha]) (.inr (.inr (.inr rfl)))
 · have hp:=hp (.inl h)
   unfold cG at hx;rw[kt,h] at hx;simp only[List.mem_append,List.mem_cons,List.not_mem_nil,or_false,List.mem_flatMap] at hx;rcases hx with(hx|⟨p,Zw,hx|hx⟩)|hx
   · exact va1 hx (by simp[ht]) (.inr (.inl rfl))
   · exact va1 hx (by simp[ht]) (.inr (.inr (.inl (hp p Zw))))
   · exact va1 hx (by simp[ht,hp p Zw]) (.inr (.inr (.inr rfl)))
   · refine va1 hx (λv hv=>?_) (.inr (.inr (.inl ht)))
     obtain⟨p,Zw,rfl⟩:=List.mem_map.1 hv;exact .inr (.inr (hp p Zw))
 · have hp:=hp (.inr h)
   unfold cG at hx;rw[kt,h] at hx;simp only[List.mem_cons,List.not_mem_nil,or_false,List.mem_flatMap] at hx;rcases hx with hx|⟨p,Zw,hx|hx⟩
   · exact va1 hx (by simp[ht]) (.inr (.inl rfl))
   · exact va1 hx (by simp[ht]) (.inr (.inl rfl))
   · exact va1 hx (by simp[hp p Zw]) (.inr (.inr (.inl ht)))
theorem vck {s:cD} {a u:List UInt8} (ha:a≠[]) (h:(bZ s a).2=0) (hu:u∈aI (bZ s a).1):∃v∈aI s,aQ v a=(u,0):=by
 unfold bZ at h hu
 rw[if_neg ha] at h hu
 split at h
 · rename_i h1;exact absurd h h1
 rename_i h1
 rw[if_neg h1] at hu
 have hw:=vbo (Decidable.not_not.1 h1)
 split at h
 · rename_i h2
   rw[if_pos h2] at hu;unfold aI at hu ⊢;simp only[if_true,List.append_nil] at hu;obtain⟨v,hv,e⟩:=hw u hu;exact⟨v,by simp[hv],e⟩
 · rename_i h2
   rw[if_neg h2] at hu;split at h
   · rename_i h3;exact absurd h h3
   rename_i h3
   rw[if_neg h3] at hu;unfold aI at hu ⊢;simp only[List.mem_append] at hu;rcases hu with hu|hu
   · obtain⟨v,hv,e⟩:=hw u hu
     exact⟨v,by simp[hv],e⟩
   · split at hu
     · cases hu
     · obtain rfl:=List.mem_singleton.1 hu
       exact⟨s.res,by simp[h2],Prod.ext rfl (Decidable.not_not.1 h3)⟩
theorem vch:aq cU=(0,⟨1,[],.nil⟩):=by kernel_rfl
theorem vc5:aq aX=(0,⟨2,[],.nil⟩):=by kernel_rfl
theorem vbp {c:aR} {w:List UInt8} {k:Nat} (h0:(aq w).1=0) (ho:eW w=false) (h:aq w=(0,⟨k,[],.nil⟩)) (hk:k≠7:=by decide):dx c w=0:=by
 refine vb6 _ (nl _) h0 (λh=>by rw[ho] at h;cases h) λv hv=>?_
 obtain⟨V,hV,rfl⟩:=(va3 h).1 hv
 obtain rfl:V=⟨k,[],.nil⟩:=by simpa[Tr.ins,Fo.ins] using hV
 intro hk2
 rw[(va2 h hV).1] at hk2
 exact absurd hk2 hk
theorem vcj {l : List aB} {ag : List aG} {t : List UInt8} (hS : vc3 l) (hO : ∀ f ∈ l, ∀ o ∈ f.ops, ∀ u ∈ aI o.sig, u.length ≤ 14 ∧ iz u ≤ 2) (hsc : ∀ n ∈ ag, ∀ u ∈ aI n.sig, oJ l ag true u = 0) (hl : t.length ≤ 30) (hv : iz t ≤ 3) (h : (nG l ag t).2 = 0) :
 zH (nG l ag t).1∧∀o∈(nG l ag t).1,(∀u∈aI o.sig,oJ l ag (dX ag t) u=0)∧lC l ag t o.name=(o.sig,0):=by
 have hty:gU l ag t=0:=by
  unfold nG at h;split at h
  · rename_i h1;exact absurd h h1
  · rename_i h1;exact Decidable.not_not.1 h1
 rw[show nG l ag t=Jb ⟨l,ag,dX ag t⟩ t by unfold nG;rw[if_neg (by rw[hty];simp)]] at h ⊢
 have CI:bP l ag=0∧dx ⟨l,ag,dX ag t⟩ t=0:=by
  unfold gU at hty;split at hty
  · rename_i h1;exact absurd hty h1
  · rename_i h1;exact⟨Decidable.not_not.1 h1,hty⟩
 obtain⟨hL,hnd⟩:=rU CI.1
 have hall:(ja l).2=0:=by
  have:=CI.1;unfold bP at this;split at this
  · rename_i h1;exact absurd this h1
  · rename_i h1;exact Decidable.not_not.1 h1
 have vdf:=vbe (sR hall).2
 have hro:=ve ⟨l,ag,dX ag t⟩ t hL hnd
 have vdn:∀p u,oJ l ag p u=dx ⟨l,ag,p⟩ u:=λp u=>by unfold oJ;rw[if_neg (by rw[CI.1];simp)]
 unfold Jb at h ⊢
 split at h
 · rename_i h1;exact absurd h h1
 rename_i h1
 rw[if_neg h1]
 replace h1:=Decidable.not_not.1 h1
 refine⟨Gj (by have:=(qI (cG ⟨l,ag,dX ag t⟩ t).2 (cG ⟨l,ag,dX ag t⟩ t).1).2 h1;unfold gW at hro ⊢;rw[this];exact hro),λo hmem=>?_⟩
 obtain⟨x,hx,e1,e2⟩:=vbz h1 o ((jg _).mem_iff.1 hmem)
 refine⟨λu hu=>?_,?_⟩
 case refine_2=>
  unfold lC;rw[if_neg (by rw[hty];simp)];unfold oE;rw[←e1,FF hro hx];exact e2
 rw[vdn]
 obtain⟨hc0,hop,hnm⟩:=vad CI.2
 rcases hq:aq t with⟨z,T⟩
 rw[hq] at hc0
 simp only at hc0
 subst hc0
 obtain⟨oT,vfc,_⟩:=bE hq
 have OR:T∈T.ins:=by unfold Tr.ins;exact List.mem_cons_self ..
 have hint:dx ⟨l,ag,dX ag t⟩ cU=0:=vbp vap.1 vap.2.1 vch
 have vd3:dx ⟨l,ag,dX ag t⟩ aX=0:=vbp vau.1 vau.2 vc5
 by_cases h8:T.k=8
 · have YR:=vce oT h8
   have veg:t=vfi:=by rw[←vfc,YR];rfl
   have hr:cG ⟨l,ag,dX ag t⟩ t=(ag,[]):=by unfold cG;rw[hq,YR];rfl
   rw[hr] at hx e2;simp only at hx e2;rw[vae] at e2;obtain e3:x.sig=o.sig:=congrArg Prod.fst e2;have hp:dX ag t=true:=by unfold dX eW;rw[hq,if_pos rfl,YR];simp[Tr.pS]
   have:=hsc x hx u (by rw[e3];exact hu);rw[vdn] at this;rw[hp];exact this
 by_cases h7:T.k=7
 · have kS : (aq t).2.k = 7 := by rw [hq]; exact h7
   obtain⟨f,f1,f2,f3,f4⟩:=hnm t ((va3 hq).2 ⟨T,OR,vfc.symm⟩) kS;simp only at f1;have vS:f∈l:=List.mem_of_find?_eq_some f1;have nY:=ec (hL f vS);have hr:cG ⟨l,ag,dX ag t⟩ t=(f.ops,(bQ t).1):=by rw[vax _ kS];simp only;rw[f1];rfl
   rw[hr] at hx e2;simp only at hx e2;have Sw:∀v∈aI x.sig,dx ⟨l,f.ag,f.par⟩ v=0:=λv hv=>vdf f vS v (List.mem_flatMap.2 ⟨x.sig,by unfold mJ;exact List.mem_append_right _ (List.mem_map.2 ⟨x,hx,rfl⟩),hv⟩)
   by_cases hn:T.sub.len=0
   · have ha:=vaq hq h7 hn
     rw [ha] at e2 f3;simp only at e2 f3;rw [vae] at e2;have e3 : x.sig = o.sig := congrArg Prod.fst e2;rw [← e3] at hu;have hg := Sw u hu;obtain ⟨u1, u2, _⟩ := vad hg;have mF : eW u = false := by
      rcases ho:eW u with _|_
      · rfl
      · have:=u2 ho
        rw[←f3] at this;cases this
     have hnn:f.ag=[]:=nY.2.2.2.2.1.resolve_left (by rw[←f3];simp);obtain⟨s1,s2⟩:=hO f vS x hx u hu;refine vbv hL hS hg hint ?_ (va7 u1 mF vap.1) s1 s2 (by decide) (by decide+kernel);rw[hnn];rfl
   · obtain⟨m1,m2⟩:=vai hq (.inl h7) hn
     have vdb:T.sub.first∈T.ins:=by unfold Tr.ins;exact List.mem_cons_of_mem _ m2
     obtain⟨a1,a2,a3⟩:=va2 hq vdb;have hla:=(oT.Eg vdb).2.1;have hlv:=om hq;have vde:=om a1;rw[m1] at e2 f3 f4;simp only at e2 f3 f4;have QJ:T.sub.first.txt≠[]:=va0 (by rw[a1])
     rw[show o.sig=(bZ x.sig T.sub.first.txt).1 by rw[e2]] at hu;obtain⟨v,hv,ev⟩:=vck QJ (by rw[e2]) hu;obtain⟨s1,s2⟩:=hO f vS x hx v hv;refine vbv hL hS (Sw v hv) (vb3 CI.2 hq vdb) (f4 trivial) ev s1 s2 (by rw[vfc] at hla;omega) ?_;rw[vde];rcases a2 with a2|a2
     · rw[a2];omega
     · omega
 · have hr2:(cG ⟨l,ag,dX ag t⟩ t).2=[]:=by
    unfold cG;rw[hq];simp only;split<;>first|rfl|(rename_i h;exact absurd h h7)
   rw[hr2,vae] at e2;have e3:x.sig=o.sig:=congrArg Prod.fst e2;rw[←e3] at hu;rcases vci hq h7 h8 hx hu with rfl|rfl|⟨U,hU,rfl⟩
   · exact hint
   · exact vd3
   · exact vb3 CI.2 hq hU
end Go.Proofs.YtakgjcfkdemipaaGreatDoor
