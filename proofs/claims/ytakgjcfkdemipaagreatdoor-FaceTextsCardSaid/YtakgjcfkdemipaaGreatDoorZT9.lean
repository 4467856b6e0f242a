/-
  Lemmas: signatures and faces read back out of their texts (plain), by the program's reader and by the reference's. No condition.
-/
import Derived.Test.YtakgjcfkdemipaaGreatDoorZB15
import Derived.Test.YtakgjcfkdemipaaGreatDoorZT0
import Derived.Test.YtakgjcfkdemipaaGreatDoorZT1
namespace Go.Proofs.YtakgjcfkdemipaaGreatDoor
def va6 (s:List UInt8):Prop:=∀c∈s,c≠10∧c≠32∧c≠40∧c≠41
theorem va6.append {a b:List UInt8} (ha:va6 a) (hb:va6 b):va6 (a++b):=λc hc=>by
 rcases List.mem_append.1 hc with h|h
 · exact ha c h
 · exact hb c h
theorem va6.cons {c:UInt8} {a:List UInt8} (hc:c≠10∧c≠32∧c≠40∧c≠41) (ha:va6 a):va6 (c::a):=λx hx=>by
 rcases List.mem_cons.1 hx with rfl|h
 · exact hc
 · exact ha x h
theorem vbf {α:Type} (f:α→Bool):∀l:List α,(l.takeWhile f).length=l.length→∀x∈l,f x=true
 | [],_,x,h=>by cases h
 | a::l,h,x,hx=>by
  rw[List.takeWhile_cons] at h;split at h
  · rename_i ha
    rcases List.mem_cons.1 hx with rfl|hx
    · exact ha
    · exact vbf f l (by simpa using h) x hx
  · simp at h
theorem vav {n:List UInt8} (h:isName n=true):∀c∈n,eG c=true:=by
 unfold isName at h
 cases n with
 | nil=>simp at h
 | cons a r=>
  simp only[Bool.and_eq_true,decide_eq_true_eq] at h;exact vbf eG _ h.1.2
theorem vb7 {c:UInt8} (h:eG c=true):c≠10∧c≠32∧c≠40∧c≠41∧c≠44∧c≠91∧c≠93∧c≠58:=by
 refine⟨?_,?_,?_,?_,?_,?_,?_,?_⟩<;>(rintro rfl;revert h;decide)
theorem vam {n:List UInt8} (h:isName n=true):va6 n:=λc hc=>by
 have:=vb7 (vav h c hc)
 exact⟨this.1,this.2.1,this.2.2.1,this.2.2.2.1⟩
theorem vcw {n:List UInt8} {k:Int} (h:isName n=true):vb3 k n:=vb3.word λc hc=>by
 have:=vb7 (vav h c hc)
 exact⟨this.2.2.2.2.2.1,this.2.2.2.2.2.2.1,this.2.2.2.2.1⟩
theorem vgp {k:Nat} {n:List UInt8} (h:k=1∨k=2∨k=3∨k=4∨k=5∨k=6∨k=8∨isName n=true):va6 (b8 k n)∧(∀d,vb3 d (b8 k n))∧b8 k n≠[]:=by
 have key:∀w:List UInt8,(w.all λc=>decide (c≠10∧c≠32∧c≠40∧c≠41∧c≠91∧c≠93∧c≠44))=true→w≠[]→va6 w∧(∀d,vb3 d w)∧w≠[]:=λw hw h0=>by
  rw[List.all_eq_true] at hw;refine⟨λc hc=>?_,λd=>vb3.word λc hc=>?_,h0⟩
  · have:=hw c hc;simp only[decide_eq_true_eq] at this;exact⟨this.1,this.2.1,this.2.2.1,this.2.2.2.1⟩
  · have:=hw c hc;simp only[decide_eq_true_eq] at this;exact⟨this.2.2.2.2.1,this.2.2.2.2.2.1,this.2.2.2.2.2.2⟩
 unfold b8
 split
 · exact key _ (by decide) (by decide)
 · split
   · exact key _ (by decide) (by decide)
   · split
     · exact key _ (by decide) (by decide)
     · split
       · exact key _ (by decide) (by decide)
       · split
         · exact key _ (by decide) (by decide)
         · split
           · exact key _ (by decide) (by decide)
           · split
             · exact key _ (by decide) (by decide)
             · rename_i h1 h2 h3 h4 h5 h6 h7
               have hn:isName n=true:=by simp_all
               exact⟨vam hn,λd=>vcw hn,gQ hn⟩
theorem vfr {fo:Fo} {d:Int} (h:va6 fo.tx∧vb3 (d+1) fo.tx):va6 fo.br∧vb3 d fo.br:=by
 cases fo with
 | nil=>exact⟨λc hc=>(by cases hc),vb3.nil d⟩
 | cons pn k n sub rest=>exact⟨(h.1.append λc hc=>by rw[List.mem_singleton.1 hc];decide).cons (by decide),h.2.shut⟩
def vfs:Option (List UInt8)→Int
 | none=>0
 | some _=>1
theorem vgo {b:Option (List UInt8)} {fo:Fo} (h:Wf b fo):va6 fo.tx∧fo.tx≠[]∧vb3 (vfs b) fo.tx:=by
 have one:∀{k:Nat} {n:List UInt8} {sub:Fo} {d:Int},(k=1∨k=2∨k=3∨k=4∨k=5∨k=6∨k=8∨isName n=true)→(va6 sub.br∧vb3 d sub.br)→va6 (Fo.cons [] k n sub .nil).tx∧(Fo.cons [] k n sub .nil).tx≠[]∧vb3 d (Fo.cons [] k n sub .nil).tx:=λhk hs=>by
  obtain⟨w1,w2,w3⟩:=vgp hk;rw[Fo.cN];exact⟨w1.append hs.1,by simp[w3],(w2 _).append hs.2⟩
 have vh7:∀d:Int,va6 Fo.nil.br∧vb3 d Fo.nil.br:=λd=>⟨λc hc=>(by cases hc),vb3.nil d⟩
 have col:∀{n:List UInt8},isName n=true→va6 (n++[58])∧vb3 1 (n++[58]):=λhn=>
  ⟨(vam hn).append λc hc=>(by rw[List.mem_singleton.1 hc];decide),(vcw hn).append (vb3.one (by decide) (by decide) (.inl (by decide)))⟩
 induction h with
 | par=>exact one (by simp) (vh7 0)
 | word k h=>exact one (by rcases h with h|h|h<;>simp[h]) (vh7 0)
 | arr a h ih=>exact one (by simp) (vfr ⟨ih.1,ih.2.2.mono (by simp[vfs])⟩)
 | rcd k w fo hk h hl ih=>exact one (by rcases hk with⟨h,_⟩|⟨h,_⟩<;>simp[h]) (vfr ⟨ih.1,ih.2.2⟩)
 | nam n hn=>exact one (by simp[hn]) (vh7 0)
 | app n a hn h ih=>exact one (by simp[hn]) (vfr ⟨ih.1,ih.2.2.mono (by simp[vfs])⟩)
 | last b pn k n sub hn hb h ih=>
  rw[Fo.gU,dM hn];exact⟨(col hn).1.append ih.1,by simp,(col hn).2.append (ih.2.2.mono (by simp[vfs]))⟩
 | more b pn k n sub rest hn hb h h2 ih ih2=>
  rw[Fo.gV _ _ _ _ _ h2.ne,dM hn];refine⟨(col hn).1.append (ih.1.append (ih2.1.cons (by decide))),by simp,(col hn).2.append ((ih.2.2.mono (by simp[vfs])).append ?_)⟩;exact vb3.append (a:=[44]) (vb3.one (by decide) (by decide) (.inr (by simp))) ih2.2.2
theorem vbn {t:List UInt8} (h:(aq t).1=0):va6 t∧t≠[]∧vb3 0 t:=by
 obtain⟨h1,h2,_⟩:=bC (s:=t) (t:=(aq t).2) (Prod.ext h rfl)
 have:=vgo (show Wf none (.one (aq t).2) from h1)
 rw[←Tr.eA,h2] at this
 exact this
theorem vbu:∀{l:List (List UInt8)},(∀a∈l,va6 a)→va6 (cH l)
 | [],_=>λc hc=>by cases hc
 | [a],h=>h a (by simp)
 | a::b::l,h=>(h a (by simp)).append ((vbu λx hx=>h x (by simp[hx])).cons (by decide))
def vck (s:List UInt8):bP:=
 let q:=if Lib.hasSuffix s [41]=true∧(va0 [32,115,105,103,110,97,108,115,40] (Lib.trimSuffix s [41])).2.2=true then
  ((va0 [32,115,105,103,110,97,108,115,40] (Lib.trimSuffix s [41])).1,va1 44 (va0 [32,115,105,103,110,97,108,115,40] (Lib.trimSuffix s [41])).2.1) else(s,[])
 let y:=va0 [32,121,105,101,108,100,115,32] q.1
 let r:=va0 [32,114,101,116,117,114,110,115,32] q.1
 let u:=if y.2.2=true then(true,y.2.1,y.1) else if r.2.2=true then(false,r.2.1,r.1) else(false,[],q.1)
 ⟨u.1,if 5<u.2.2.length then va7 (Lib.trimSuffix (u.2.2.drop 5) [41]) else [],u.2.1,q.2⟩
def ve9 (s:List UInt8):bP:=
 let h:=va0 [40] s
 let a:=va0 [41] h.2.1
 let b:=va0 [32,115,105,103,110,97,108,115,40] a.2.1
 let r:=va0 [32,114,101,116,117,114,110,115,32] b.1
 ⟨decide (h.1=[105,116,101,114]),va7 a.1,if r.2.2=true then r.2.1 else(va0 [32,121,105,101,108,100,115,32] b.1).2.1,if b.2.2=true then va7 (va0 [41] b.2.1).1 else []⟩
theorem vc6 {p:List UInt8}:∀{s:List UInt8},p≠[]→(va0 p s).2.2=false→(va0 p s).1=s∧(va0 p s).2.1=[]
 | [],_,_=>⟨rfl,rfl⟩
 | c::s,hp,h=>by
  rw[va0] at h ⊢;split at h
  · simp at h
  · rename_i e
    rw[if_neg e];have:=vc6 (s:=s) hp h;exact⟨by simp[this.1],this.2⟩
theorem va8 {s:List UInt8} (h:va6 s):10∉s∧32∉s∧40∉s∧41∉s:=⟨λe=>(h _ e).1 rfl,λe=>(h _ e).2.1 rfl,λe=>(h _ e).2.2.1 rfl,λe=>(h _ e).2.2.2 rfl⟩
theorem vcq {p F w R Z:List UInt8} (hF:32∉F) (hw:32∉w) (hR:32∉R) (h1:p.isPrefixOf (w++32::(R++Z))=false) (h2:p.isPrefixOf (R++Z)=false):
 va0 (32::p) (F++32::(w++32::(R++Z)))=(F++32::(w++32::(R++(va0 (32::p) Z).1)),(va0 (32::p) Z).2.1,(va0 (32::p) Z).2.2):=by
 have e:∀s,p.isPrefixOf s=false→(32::p).isPrefixOf (32::s)=false:=λs h=>by rw[List.isPrefixOf,h];simp
 rw[vap F _ hF,vb0 (e _ h1),vap w _ hw,vb0 (e _ h2),vap R _ hR]
theorem vh8 {s:List UInt8} {c d:UInt8} (h:c≠d):Lib.hasSuffix (s++[c]) [d]=false:=by
 unfold Lib.hasSuffix
 rw[Bool.eq_false_iff]
 intro e
 rw[List.isSuffixOf_iff_suffix] at e
 obtain⟨t,ht⟩:=e
 have:=congrArg List.getLast? ht
 simp at this
 exact h this.symm
theorem vbm (s:List UInt8) (c:UInt8):Lib.hasSuffix (s++[c]) [c]=true∧Lib.trimSuffix (s++[c]) [c]=s:=by
 have h:Lib.hasSuffix (s++[c]) [c]=true:=by
  unfold Lib.hasSuffix;rw[List.isSuffixOf_iff_suffix];exact List.suffix_append _ _
 refine⟨h,?_⟩
 unfold Lib.trimSuffix
 rw[if_pos h]
 simp
structure vbo (s:bP):Prop where
 a:va6 (cH s.args)
 a2:va7 (cH s.args)=s.args
 r:s.res=[]∨(va6 s.res∧s.res≠[])
 g:va6 (cH s.sigs)
 g2:s.sigs≠[]→va1 44 (cH s.sigs)=s.sigs
 g3:va7 (cH s.sigs)=s.sigs
 i:s.iter=true→s.res≠[]
theorem vcn:∀{l:List (List UInt8)},eY l=true→∀a∈l,isName a=true
 | [],_,a,h=>by cases h
 | [x],h,a,ha=>by rw[List.mem_singleton.1 ha];exact h
 | x::y::l,h,a,ha=>by
  unfold eY at h;simp only[Bool.and_eq_true] at h;rcases List.mem_cons.1 ha with rfl|ha
  · exact h.1.1
  · exact vcn h.2 a ha
theorem vg3 {s:bP} {o:Bool} (h:cZ s o=true):vbo s:=by
 obtain⟨_,_,h3,h4,h5⟩:=eN h
 have ha:∀t∈s.args,(aq t).1=0:=λt ht=>(h5 t (by unfold aQ;simp[ht])).1
 have hn:=vcn h3
 refine⟨vbu λt ht=>(vbn (ha t ht)).1,vch (λt ht=>(vbn (ha t ht)).2.2) (λt ht=>(vbn (ha t ht)).2.1),?_,vbu λt ht=>vam (hn t ht),λhne=>vci _ hne λt ht e=>(vb7 (vav (hn t ht) _ e)).2.2.2.2.1 rfl,vch (λt ht=>vcw (hn t ht)) (λt ht=>gQ (hn t ht)),h4⟩
 by_cases hr:s.res=[]
 · exact .inl hr
 · have:=(h5 s.res (by unfold aQ;simp[hr])).1
   exact .inr ⟨(vbn this).1,hr⟩
def vac (s:bP):List UInt8:=(if s.iter then [105,116,101,114,40] else [112,114,111,99,40])++(cH s.args++[41])
def vai (s:bP):List UInt8:=if s.res=[] then [] else 32::((if s.iter then [121,105,101,108,100,115] else [114,101,116,117,114,110,115])++32::s.res)
def vax (s:bP):List UInt8:=if s.sigs=[] then [] else [32,115,105,103,110,97,108,115,40]++(cH s.sigs++[41])
theorem vc2 (s:bP):Ji s=vac s++(vai s++vax s):=by
 unfold Ji vac vai vax
 cases s.iter<;>by_cases h1:s.res=[]<;>by_cases h2:s.sigs=[]<;>simp[h1,h2]
theorem vdw {s:bP} (h:vbo s):32∉vac s∧10∉vac s:=by
 have:=va8 h.a
 unfold vac
 cases s.iter<;>simp[this]
theorem vds {s:bP} (h:vbo s) {F:List UInt8} (hF:32∉F) (Y:List UInt8):va0 [32,115,105,103,110,97,108,115,40] (F++(vai s++([32,115,105,103,110,97,108,115,40]++Y)))=(F++vai s,Y,true)∧
 (va0 [32,115,105,103,110,97,108,115,40] (F++vai s)).2.2=false:=by
 unfold vai
 rcases h.r with hr|⟨hr,hn⟩
 · rw[if_pos hr,List.nil_append,List.append_nil]
   exact⟨vaf _ _ hF,by rw[vaz _ hF]⟩
 · rw[if_neg hn]
   have hR:=va8 hr;have hw:32∉(if s.iter=true then [121,105,101,108,100,115] else [114,101,116,117,114,110,115]:List UInt8):=by cases s.iter<;>decide
   have h1:∀x:List UInt8,([115,105,103,110,97,108,115,40]:List UInt8).isPrefixOf ((if s.iter=true then [121,105,101,108,100,115] else [114,101,116,117,114,110,115])++x)=false:=λx=>by cases s.iter<;>rfl
   constructor
   · have:=vcq (p:=[115,105,103,110,97,108,115,40]) (Z:=[32,115,105,103,110,97,108,115,40]++Y) hF hw hR.2.1 (h1 _) (vg1 (by decide) (by decide) hR.2.2.1)
     rw[vco _ (by simp)] at this
     simpa using this
   · have:=vcq (p:=[115,105,103,110,97,108,115,40]) (Z:=[]) hF hw hR.2.1 (h1 _) (by rw[List.append_nil];exact ver (c:=40) (by decide) hR.2.2.1)
     rw[List.append_nil] at this;rw[this]
     rfl
theorem vew {s:bP} (h:vbo s) {F:List UInt8} (hF:32∉F):
 (s.iter=true→va0 [32,121,105,101,108,100,115,32] (F++vai s)=(F,s.res,true)∧(va0 [32,114,101,116,117,114,110,115,32] (F++vai s)).2.2=false)∧
 (s.iter=false→(va0 [32,121,105,101,108,100,115,32] (F++vai s)).2.2=false∧(s.res≠[]→va0 [32,114,101,116,117,114,110,115,32] (F++vai s)=(F,s.res,true))∧(s.res=[]→vai s=[]∧va0 [32,114,101,116,117,114,110,115,32] (F++vai s)=(F,[],false))):=by
 have two:∀{p w R:List UInt8},32∉w→32∉R→p.isPrefixOf (w++32::R)=false→p.isPrefixOf R=false→(va0 (32::p) (F++32::(w++32::R))).2.2=false:=λhw hR h1 h2=>by
  have:=vcq (Z:=[]) hF hw hR (by rw[List.append_nil];exact h1) (by rw[List.append_nil];exact h2);rw[List.append_nil] at this;rw[this]
  rfl
 constructor
 · intro hi
   have hn:=h.i hi;unfold vai;rw[if_neg hn,if_pos hi];rcases h.r with hr|⟨hr,_⟩
   · exact absurd hr hn
   · exact⟨vaf (p:=[121,105,101,108,100,115,32]) F s.res hF,two (p:=[114,101,116,117,114,110,115,32]) (by decide) (va8 hr).2.1 rfl (ver (c:=32) (by decide) (va8 hr).2.1)⟩
 · intro hi
   unfold vai;rcases h.r with hr|⟨hr,hn⟩
   · rw[if_pos hr,List.append_nil]
     exact⟨by rw[vaz _ hF],λh=>absurd hr h,λ_=>⟨rfl,vaz _ hF⟩⟩
   · rw[if_neg hn,hi,if_neg (by simp)]
     exact⟨two (p:=[121,105,101,108,100,115,32]) (by decide) (va8 hr).2.1 rfl (ver (c:=32) (by decide) (va8 hr).2.1),λ_=>vaf (p:=[114,101,116,117,114,110,115,32]) F s.res hF,λh=>absurd h hn⟩
theorem vda {s:bP} (h:vbo s):vck (Ji s)=s:=by
 have hF:=(vdw h).1
 have hS:=vds h hF (cH s.sigs)
 have hq : (if Lib.hasSuffix (Ji s) [41] = true ∧ (va0 [32, 115, 105, 103, 110, 97, 108, 115, 40] (Lib.trimSuffix (Ji s) [41])).2.2 = true then
  ((va0 [32,115,105,103,110,97,108,115,40] (Lib.trimSuffix (Ji s) [41])).1,va1 44 (va0 [32,115,105,103,110,97,108,115,40] (Lib.trimSuffix (Ji s) [41])).2.1) else(Ji s,[]))=(vac s++vai s,s.sigs):=by
  by_cases hg:s.sigs=[]
  · have e:Ji s=vac s++vai s:=by rw[vc2];unfold vax;rw[if_pos hg,List.append_nil]
    rw[if_neg,e,hg];rintro⟨h1,h2⟩;rw[e] at h1 h2;rcases h.r with hr|⟨hr,hn⟩
    · have e2:vac s++vai s=((if s.iter then [105,116,101,114,40] else [112,114,111,99,40])++cH s.args)++[41]:=by unfold vac vai;rw[if_pos hr];simp
      rw[e2,(vbm _ _).2] at h2;have:32∉(if s.iter then [105,116,101,114,40] else [112,114,111,99,40]:List UInt8)++cH s.args:=by
       have:=va8 h.a;cases s.iter<;>simp[this]
      rw[vaz _ this] at h2;simp at h2
    · obtain⟨R,c,hc⟩:∃R c,s.res=R++[c]:=⟨s.res.dropLast,s.res.getLast hn,(List.dropLast_concat_getLast hn).symm⟩
      have e2:∃X,vac s++vai s=X++[c]:=by
       unfold vai;rw[if_neg hn,hc];exact⟨vac s++32::((if s.iter then [121,105,101,108,100,115] else [114,101,116,117,114,110,115])++32::R),by simp⟩
      obtain⟨X,hX⟩:=e2;rw[hX,vh8 (by
       rintro rfl;exact(va8 hr).2.2.2 (by rw[hc];simp))] at h1
      simp at h1
  · have e:Ji s=(vac s++(vai s++([32,115,105,103,110,97,108,115,40]++cH s.sigs)))++[41]:=by rw[vc2];unfold vax;rw[if_neg hg];simp
    rw[e,(vbm _ _).1,(vbm _ _).2,hS.1];simp[h.g2 hg]
 have hA:∀X:bP→Prop,X ⟨s.iter,s.args,s.res,s.sigs⟩→X s:=λX h=>h
 have hd:5<(vac s).length∧Lib.trimSuffix ((vac s).drop 5) [41]=cH s.args:=by
  unfold vac;cases s.iter<;>exact⟨by simp<;>omega,(vbm _ _).2⟩
 have hR:=vew h hF
 unfold vck
 rw[hq]
 dsimp only
 cases hi:s.iter with
 | true=>
  obtain⟨h1,_⟩:=hR.1 hi;rw[h1];simp only[if_true,if_pos hd.1,hd.2,h.a2];rw[←hi]
 | false=>
  obtain⟨h1,h2,h3⟩:=hR.2 hi;rw[h1]
  by_cases hr:s.res=[]
  · obtain⟨h4,h5⟩:=h3 hr
    rw[h5,h4];simp only[List.append_nil,if_pos hd.1,hd.2,h.a2,Bool.false_eq_true,if_false];rw[←hi,←hr]
  · rw[h2 hr]
    simp only[if_true,if_pos hd.1,hd.2,h.a2,Bool.false_eq_true,if_false];rw[←hi]
theorem vdb {s:bP} (h:vbo s):ve9 (Ji s)=s:=by
 have e1:Ji s=(if s.iter then [105,116,101,114] else [112,114,111,99])++([40]++(cH s.args++([41]++(vai s++vax s)))):=by
  rw[vc2];unfold vac;cases s.iter<;>simp
 have c1:va0 [40] (Ji s)=((if s.iter then [105,116,101,114] else [112,114,111,99]),cH s.args++([41]++(vai s++vax s)),true):=by
  rw[e1];exact vaf _ _ (by cases s.iter<;>decide)
 have c2:va0 [41] (cH s.args++([41]++(vai s++vax s)))=(cH s.args,vai s++vax s,true):=vaf _ _ (va8 h.a).2.2.2
 have hS:=vds h (F:=[]) (by simp) (cH s.sigs++[41])
 simp only[List.nil_append] at hS
 have hR:=vew h (F:=[]) (by simp)
 simp only[List.nil_append] at hR
 have c3:(va0 [32,115,105,103,110,97,108,115,40] (vai s++vax s)).1=vai s∧(if(va0 [32,115,105,103,110,97,108,115,40] (vai s++vax s)).2.2=true then va7 (va0 [41] (va0 [32,115,105,103,110,97,108,115,40] (vai s++vax s)).2.1).1 else [])=s.sigs:=by
  unfold vax
  by_cases hg:s.sigs=[]
  · rw[if_pos hg,List.append_nil]
    exact⟨(vc6 (by simp) hS.2).1,by rw[hS.2,hg];rfl⟩
  · rw[if_neg hg,hS.1]
    refine⟨rfl,?_⟩;have:va0 [41] (cH s.sigs++[41])=(cH s.sigs,[],true):=vaf (p:=[]) (cH s.sigs) [] (va8 h.g).2.2.2;simp only[if_true];rw[this,h.g3]
 unfold ve9
 rw[c1]
 dsimp only
 rw[c2]
 dsimp only
 rw[c3.1,c3.2,h.a2]
 cases hi:s.iter with
 | true=>
  obtain⟨h1,h2⟩:=hR.1 hi;rw[h2,h1];simp only[if_true,decide_true,Bool.false_eq_true,if_false];rw[←hi]
 | false=>
  obtain⟨h1,h2,h3⟩:=hR.2 hi
  by_cases hr:s.res=[]
  · obtain⟨h4,h5⟩:=h3 hr
    rw[h5];simp only[Bool.false_eq_true,if_false,(vc6 (by simp) h1).2]
    show _=(⟨s.iter,s.args,s.res,s.sigs⟩:bP)
    rw[hr,hi]
    rfl
  · rw[h2 hr]
    simp only[if_true,Bool.false_eq_true,if_false];rw[show decide (([112,114,111,99]:List UInt8)=[105,116,101,114])=false from rfl,←hi]
def vab:List (List UInt8):=[[],[112,114,111,99],[105,116,101,114],[99,108,117,115,116,101,114]]
def aA.vf8 (f:aA) (o:aL):aA:=⟨f.name,f.kind,f.par,f.ag++[o],f.ops⟩
def aA.vf9 (f:aA) (o:aL):aA:=⟨f.name,f.kind,f.par,f.ag,f.ops++[o]⟩
def vbq (rd:List UInt8→bP) (f:aA) (l:List UInt8):aA:=
 let a:=va0 [32] l
 let b:=va0 [32] a.2.1
 if a.1=[104,97,115] then f.vf8 ⟨b.1,rd b.2.1⟩ else f.vf9 ⟨b.1,rd b.2.1⟩
def vbz (l:List UInt8):aA:=
 let a:=va0 [32] l
 ⟨Lib.trimSuffix a.2.1 [91,116,93],(vab.idxOf a.1) % 4,Lib.hasSuffix a.2.1 [91,116,93],[],[]⟩
def vad (s:List UInt8):aA:=
 match va1 10 (Lib.trimSuffix s [10]) with
 | []=>⟨[],0,false,[],[]⟩
 | l::ls=>ls.foldl (vbq vck) (vbz l)
def vey (l:List UInt8):aA:=
 let a:=va0 [32] l
 let b:=va0 [91,116,93] a.2.1
 ⟨b.1,if a.1=[112,114,111,99] then 1 else if a.1=[105,116,101,114] then 2 else 3,b.2.2,[],[]⟩
def vbc:Nat→List UInt8→aA→aA
 | 0,_,f=>f
 | n+1,s,f=>if s=[] then f else vbc n (va0 [10] s).2.1 (vbq ve9 f (va0 [10] s).1)
def vbe (s:List UInt8):aA:=vbc 30 (va0 [10] s).2.1 (vey (va0 [10] s).1)
theorem vgn {s:bP} (h:vbo s):10∉Ji s:=by
 rw[vc2]
 have h1:=(vdw h).2
 have h2:=(va8 h.g).1
 unfold vai vax
 rcases h.r with hr|⟨hr,hn⟩
 · rw[if_pos hr]
   by_cases hg:s.sigs=[]
   · simp[hg,h1]
   · simp[hg,h1,h2]
 · have h3:=(va8 hr).1
   rw[if_neg hn]
   by_cases hg:s.sigs=[]<;>cases s.iter<;>simp[hg,h1,h2,h3]
def vb2 (word:List UInt8) (o:aL):List UInt8:=word++([32]++(o.name++([32]++Ji o.sig)))
theorem vfz (word:List UInt8) (o:aL):dR word o=vb2 word o++[10]:=by unfold dR vb2;simp
theorem vd5 {rd:List UInt8→bP} {f:aA} {o:aL} {word:List UInt8} (hw:32∉word) (hn:isName o.name=true) (hr:rd (Ji o.sig)=o.sig):
 vbq rd f (vb2 word o)=if word=[104,97,115] then f.vf8 o else f.vf9 o:=by
 have c1:va0 [32] (vb2 word o)=(word,o.name++([32]++Ji o.sig),true):=vaf _ _ hw
 have c2:va0 [32] (o.name++([32]++Ji o.sig))=(o.name,Ji o.sig,true):=vaf _ _ (va8 (vam hn)).2.1
 unfold vbq
 rw[c1]
 dsimp only
 rw[c2]
 dsimp only
 rw[hr]
theorem vbs {rd:List UInt8→bP}:∀(l:List aL) (f:aA),(∀o∈l,isName o.name=true∧rd (Ji o.sig)=o.sig)→(l.map (vb2 [104,97,115])).foldl (vbq rd) f=⟨f.name,f.kind,f.par,f.ag++l,f.ops⟩
 | [],f,_=>by simp
 | o::l,f,h=>by
  rw[List.map_cons,List.foldl_cons,vd5 (by decide) (h o (by simp)).1 (h o (by simp)).2,if_pos rfl,vbs l _ λx hx=>h x (by simp[hx])];simp[aA.vf8]
theorem vcr {rd:List UInt8→bP}:∀(l:List aL) (f:aA),(∀o∈l,isName o.name=true∧rd (Ji o.sig)=o.sig)→(l.map (vb2 [111,112])).foldl (vbq rd) f=⟨f.name,f.kind,f.par,f.ag,f.ops++l⟩
 | [],f,_=>by simp
 | o::l,f,h=>by
  rw[List.map_cons,List.foldl_cons,vd5 (by decide) (h o (by simp)).1 (h o (by simp)).2,if_neg (by decide),vcr l _ λx hx=>h x (by simp[hx])];simp[aA.vf9]
def vc0 (k:Nat):List UInt8:=if k=1 then [112,114,111,99] else if k=2 then [105,116,101,114] else [99,108,117,115,116,101,114]
theorem vdz (k:Nat):32∉vc0 k∧10∉vc0 k:=by
 unfold vc0
 split
 · decide
 · split<;>decide
def vct (f:aA):List UInt8:=vc0 f.kind++([32]++(f.name++(if f.par then [91,116,93] else [])))
def vau (f:aA):List (List UInt8):=vct f::(f.ag.map (vb2 [104,97,115])++f.ops.map (vb2 [111,112]))
theorem vb8 (f:aA):AX f=(vau f).flatMap (· ++[10]):=by
 unfold AX vau vct vc0
 rw[List.flatMap_cons,List.flatMap_append,List.flatMap_map,List.flatMap_map]
 have:∀(w:List UInt8) (l:List aL),l.flatMap (dR w)=l.flatMap λa=>vb2 w a++[10]:=λw l=>by
  congr 1
  funext o;exact vfz w o
 rw[this,this]
 simp
theorem vbj {f:aA} (h:dF f=true):isName f.name=true∧1≤f.kind∧f.kind≤3∧(∀o∈f.ag,isName o.name=true∧vbo o.sig)∧(∀o∈f.ops,isName o.name=true∧vbo o.sig)∧f.ag.length≤4∧1≤f.ops.length∧f.ops.length≤20:=by
 obtain⟨h1,h2,h3,h4,_,h6,h7,h8,_⟩:=dQ h
 unfold aU at h4
 simp only[Bool.and_eq_true,decide_eq_true_eq,List.all_eq_true] at h4
 refine⟨h1,h2,h3,λo ho=>⟨vcn h4.2 _ (List.mem_map_of_mem ho),vg3 (h4.1.1 o ho)⟩,λo ho=>⟨(h8 o ho).1,vg3 (h8 o ho).2⟩,h4.1.2,h6,h7⟩
theorem vcv {f:aA} (h:dF f=true):∀a∈vau f,10∉a:=by
 obtain⟨h1,_,_,h4,h5,_⟩:=vbj h
 have hl:∀(w:List UInt8) (o:aL),10∉w→(isName o.name=true∧vbo o.sig)→10∉vb2 w o:=λw o hw ho=>by
  unfold vb2;simp[hw,(va8 (vam ho.1)).1,vgn ho.2]
 intro a ha
 unfold vau at ha
 rcases List.mem_cons.1 ha with rfl|ha
 · unfold vct
   have:=(va8 (vam h1)).1;have h2:=(vdz f.kind).2;cases f.par<;>simp[this,h2]
 · rcases List.mem_append.1 ha with ha|ha
   · obtain⟨o,ho,rfl⟩:=List.mem_map.1 ha
     exact hl _ o (by decide) (h4 o ho)
   · obtain⟨o,ho,rfl⟩:=List.mem_map.1 ha
     exact hl _ o (by decide) (h5 o ho)
theorem vdx (f:aA):va0 [32] (vct f)=(vc0 f.kind,f.name++(if f.par then [91,116,93] else []),true):=vaf _ _ (vdz _).1
theorem vfg {n:List UInt8} (h:isName n=true):Lib.hasSuffix n [91,116,93]=false:=by
 unfold Lib.hasSuffix
 rw[Bool.eq_false_iff]
 intro e
 rw[List.isSuffixOf_iff_suffix] at e
 obtain⟨t,rfl⟩:=e
 exact(vb7 (vav h 93 (by simp))).2.2.2.2.2.2.1 rfl
theorem vei {f:aA} (hn:isName f.name=true) (h1:1≤f.kind) (h3:f.kind≤3):vbz (vct f)=⟨f.name,f.kind,f.par,[],[]⟩:=by
 unfold vbz
 rw[vdx]
 dsimp only
 have hk:(vab.idxOf (vc0 f.kind)) % 4=f.kind:=by
  generalize f.kind=k at *;have:k=1∨k=2∨k=3:=by omega
  rcases this with rfl|rfl|rfl<;>decide
 rw[hk]
 cases hp:f.par with
 | true=>
  have:Lib.hasSuffix (f.name++[91,116,93]) [91,116,93]=true:=by
   unfold Lib.hasSuffix;rw[List.isSuffixOf_iff_suffix];exact List.suffix_append _ _
  simp only[if_true];unfold Lib.trimSuffix;rw[this,if_pos rfl];simp
 | false=>
  simp only[Bool.false_eq_true,if_false,List.append_nil];unfold Lib.trimSuffix;rw[vfg hn,if_neg (by simp)]
theorem vej {f:aA} (hn:isName f.name=true) (h1:1≤f.kind) (h3:f.kind≤3):vey (vct f)=⟨f.name,f.kind,f.par,[],[]⟩:=by
 unfold vey
 rw[vdx]
 dsimp only
 have hk:(if vc0 f.kind=[112,114,111,99] then 1 else if vc0 f.kind=[105,116,101,114] then 2 else 3)=f.kind:=by
  generalize f.kind=k at *;have:k=1∨k=2∨k=3:=by omega
  rcases this with rfl|rfl|rfl<;>decide
 rw[hk]
 have ved:91∉f.name:=λe=>(vb7 (vav hn 91 e)).2.2.2.2.2.1 rfl
 cases hp:f.par with
 | true=>
  have:=vaf (d:=91) (p:=[116,93]) f.name [] ved;rw[List.append_nil] at this;simp only[if_true];rw[this]
 | false=>
  simp only[Bool.false_eq_true,if_false,List.append_nil];rw[vaz _ ved]
theorem vcx {f:aA} (h:dF f=true):vad (AX f)=f:=by
 obtain⟨h1,h2,h3,h4,h5,_⟩:=vbj h
 have hne:∃s,AX f=s++[10]:=by
  rw[vb8];unfold vau;have hq:∀l:List (List UInt8),l≠[]→∃s,l.flatMap (· ++[10])=s++[(10:UInt8)]:=λl hl=>by
   obtain⟨m,x,rfl⟩:∃m x,l=m++[x]:=⟨l.dropLast,l.getLast hl,(List.dropLast_concat_getLast hl).symm⟩
   exact⟨m.flatMap (· ++[10])++x,by simp⟩
  exact hq _ (by simp)
 obtain⟨s,hs⟩:=hne
 have hsp:va1 10 (Lib.trimSuffix (AX f) [10])=vau f:=by
  rw[hs,(vbm s 10).2];exact vcj _ (vcv h) (by rw[←hs,vb8])
 unfold vad
 rw[hsp]
 unfold vau
 dsimp only
 rw[vei h1 h2 h3,List.foldl_append,vbs _ _ λo ho=>⟨(h4 o ho).1,vda (h4 o ho).2⟩,vcr _ _ λo ho=>⟨(h5 o ho).1,vda (h5 o ho).2⟩]
 simp
theorem vcd:∀(l:List (List UInt8)) (n:Nat) (f:aA),l.length≤n→(∀a∈l,10∉a)→vbc n (l.flatMap (· ++[10])) f=l.foldl (vbq ve9) f
 | [],n,f,_,_=>by cases n<;>simp[vbc]
 | a::l,0,f,h,_=>by simp at h
 | a::l,n+1,f,h,ha=>by
  have c:va0 [10] (a++([10]++l.flatMap (· ++[10])))=(a,l.flatMap (· ++[10]),true):=vaf _ _ (ha a (by simp));rw[List.flatMap_cons,List.append_assoc,vbc,if_neg (by simp),c];dsimp only;rw[vcd l n _ (by simpa using h) λx hx=>ha x (by simp[hx]),List.foldl_cons]
theorem vet {f:aA} (h:dF f=true):vbe (AX f)=f:=by
 obtain⟨h1,h2,h3,h4,h5,h6,_,h7⟩:=vbj h
 have hl:=vcv h
 have c:va0 [10] (AX f)=(vct f,(f.ag.map (vb2 [104,97,115])++f.ops.map (vb2 [111,112])).flatMap (· ++[10]),true):=by
  rw[vb8];unfold vau at hl ⊢;rw[List.flatMap_cons,List.append_assoc];exact vaf _ _ (hl _ (by simp))
 unfold vbe
 rw[c]
 dsimp only
 rw[vcd _ _ _ (by simp;omega) (λa ha=>hl a (by unfold vau;exact List.mem_cons_of_mem _ ha)),vej h1 h2 h3,List.foldl_append,vbs _ _ λo ho=>⟨(h4 o ho).1,vdb (h4 o ho).2⟩,vcr _ _ λo ho=>⟨(h5 o ho).1,vdb (h5 o ho).2⟩]
 simp
def vae (rd:List UInt8→aA) (s:List UInt8):aA×Nat:=if(su (rd s)).2=0∧(su (rd s)).1=s then(rd s,0) else(⟨[],0,false,[],[]⟩,4)
theorem vc4 {f:aA} (h:(su f).2=0):dF f=true∧(su f).1=AX f:=by
 unfold su at h ⊢
 split at h
 · rename_i hf;exact⟨hf,by rw[if_pos hf]⟩
 · simp at h
theorem vfh (s:List UInt8):vae vad s=vae vbe s:=by
 unfold vae
 by_cases h:(su (vad s)).2=0∧(su (vad s)).1=s
 · obtain⟨h1,h2⟩:=vc4 h.1
   have e:s=AX (vad s):=by rw[←h2,h.2]
   have hr:vbe s=vad s:=by
    have:=vet h1
    rwa [←e] at this
   rw[hr]
 · rw[if_neg h,if_neg]
   intro h';obtain⟨h1,h2⟩:=vc4 h'.1;have e:s=AX (vbe s):=by rw[←h2,h'.2]
   have hr:vad s=vbe s:=by
    have:=vcx h1
    rwa [←e] at this
   rw[hr] at h;exact h h'
