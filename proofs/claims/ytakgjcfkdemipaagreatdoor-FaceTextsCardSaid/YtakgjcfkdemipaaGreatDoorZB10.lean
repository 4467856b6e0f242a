/-
  Lemmas for the statement: contracts: kind.Check, Kind, Level, Open, told. Conditions: bounds of lengths; the variable strings.asciiSpace.
-/
import Derived.Test.YtakgjcfkdemipaaGreatDoorZBn
import Derived.Test.YtakgjcfkdemipaaGreatDoorZB8
import Derived.Test.YtakgjcfkdemipaaGreatDoorZB9
set_option maxHeartbeats 3200000
namespace Go.Proofs.YtakgjcfkdemipaaGreatDoor
section
open Go.RowKit
theorem bC {s:List UInt8} {t:Tr} (h:aq s=(0,t)):t.ok∧t.txt=s∧s.length≤100∧t.level≤6:=by
 unfold aq at h
 split at h
 · simp at h
 · rename_i hl
   split at h
   · rename_i u e
     split at h
     · simp at h
     · rename_i hv
       simp only[Prod.mk.injEq,true_and] at h;subst h;obtain⟨h1,h2⟩:=CA e;exact⟨h1,by simpa using h2.symm,by omega,by omega⟩
   · simp at h
theorem mP {s:List UInt8} {c:Nat} {t:Tr} (h:aq s=(c,t)) (hc:c≠0):(c=2∨c=4)∧t=⟨0,[],.nil⟩:=by
 unfold aq at h
 split at h
 · simp only[Prod.mk.injEq] at h;exact⟨.inl h.1.symm,h.2.symm⟩
 · split at h
   · split at h
     · simp only[Prod.mk.injEq] at h;exact⟨.inl h.1.symm,h.2.symm⟩
     · simp only[Prod.mk.injEq] at h;exact absurd h.1.symm hc
   · simp only[Prod.mk.injEq] at h;exact⟨.inr h.1.symm,h.2.symm⟩
theorem oq {t:Tr} (h:t.ok):aq t.txt=if 100<t.txt.length∨6<t.level then(2,⟨0,[],.nil⟩) else(0,t):=by
 unfold aq
 rw[h.reads']
 by_cases h1:100<t.txt.length
 · rw[if_pos h1,if_pos (.inl h1)]
 · rw[if_neg h1]
   by_cases h2:6<t.level
   · simp only;rw[if_pos h2,if_pos (.inr h2)]
   · simp only;rw[if_neg h2,if_neg (by omega)]
theorem bK {c:Nat} (h:c≠0):((c:Int)==0)=false∧((c:Int) != 0)=true:=by
 constructor
 · rw[beq_eq_false_iff_ne];omega
 · rw[bne_iff_ne];omega
set_option maxRecDepth 4000 in
theorem zM (s:List UInt8) (hm:s.length≤maxLen) (w:World) (ht:dW w):Calls Tryz.prog 116 #[str s] w λe w'=>e=.returned (.int .i64 (aq s).1)∧Below w.heap.size w w':=by
 go_enter Tryz.func116,Tryz.ntmps116
 go_wp2_with (go_at_call 157;refine(cF s hm _ ht).mono ?_;rintro e w1 ⟨v,rfl,hv,au⟩;obtain⟨p,c,rfl,_⟩:=hv.shape)
 go_ret
 exact⟨rfl,au.alloc au.size _⟩
set_option maxRecDepth 4000 in
theorem tW (s:List UInt8) (hm:s.length≤maxLen) (w:World) (ht:dW w):Calls Tryz.prog 119 #[str s] w λe w'=>e=.returned (.tuple #[.int .u8 (aq s).2.k,.int .i64 (aq s).1])∧Below w.heap.size w w':=by
 go_enter Tryz.func119,Tryz.ntmps119
 go_wp2_with (go_at_call 157;refine(cF s hm _ ht).mono ?_;rintro e w1 ⟨v,rfl,hv,au⟩;obtain⟨p,c,rfl,_⟩:=hv.shape)
 go_ret2
 exact⟨rfl,au.alloc au.size _⟩
def jy (s:List UInt8):Nat:=if(aq s).1=0 then(aq s).2.level else 0
def eM (s:List UInt8):Bool:=if(aq s).1=0 then(aq s).2.oF else false
set_option maxRecDepth 4000 in
theorem lY (s:List UInt8) (hm:s.length≤maxLen) (w:World) (ht:dW w):Calls Tryz.prog 117 #[str s] w λe w'=>e=.returned (.tuple #[.bool (eM s),.int .i64 (aq s).1])∧Below w.heap.size w w':=by
 have HC:=cF s hm w ht
 unfold bJ at HC
 unfold eM
 rcases hq:aq s with⟨c,t⟩
 rw[hq] at HC
 simp only at HC ⊢
 by_cases hc:c=0
 · subst hc
   have HQ:=zh hq;clear hq;go_enter Tryz.func117,Tryz.ntmps117;go_wp2_with (first|(go_at_call 157;refine HC.mono ?_;clear HC;rintro e w1 ⟨v,rfl,hv,au⟩;obtain⟨p,c,rfl,_⟩:=hv.shape)|(go_at_call 174;refine(Er t _ _ _ (hv.below ((zb w1).alloc zr _) zr)).mono ?_;rintro e w2 ⟨rfl,aC⟩));go_ret2;exact⟨rfl,(au.alloc au.size _).trans (af aC (by have:=au.size;simp;omega))⟩
 · obtain⟨h1,h2⟩:=bK hc
   have HQ:=zh hq;have HZ:=zh hc;clear hq hc;go_enter Tryz.func117,Tryz.ntmps117;go_wp2_with (go_at_call 157;refine HC.mono ?_;clear HC;rintro e w1 ⟨v,rfl,hv,au⟩;obtain⟨p,c,rfl,_⟩:=hv.shape);go_ret2;exact⟨rfl,au.alloc au.size _⟩
def kJ (t:Tr):List UInt8×Nat:=if 100<t.txt.length∨6<t.level then([],2) else(t.txt,0)
set_option maxRecDepth 4000 in
theorem E9 (t:Tr) (hl:t.txt.length≤1000000) (hlv:t.level≤1000) (w:World) (D:Nat→Prop) (v:Value) (hv:dB w D t.sub v):
 Calls Tryz.prog 186 #[.agg #[.int .u8 t.k,str t.n,v]] w λe w'=>e=.returned (.tuple #[str (kJ t).1,.int .i64 (kJ t).2])∧Below w.heap.size w w':=by
 obtain⟨p,c,rfl,_⟩:=hv.shape
 unfold Tr.level at hlv
 have hrow:=heap_alloc_new w (.cells #[.int .u8 t.k,str t.n,.slice p t.sub.len c] 174)
 have tN:=hv.below ((zb w).alloc zr (.cells #[.int .u8 t.k,str t.n,.slice p t.sub.len c] 174)) zr
 have hb0:=(zb w).alloc zr (.cells #[.int .u8 t.k,str t.n,.slice p t.sub.len c] 174)
 by_cases h1:100<t.txt.length
 · have HT:=zh (show kJ t=([],2) by unfold kJ;rw[if_pos (.inl h1)])
   go_enter Tryz.func186,Tryz.ntmps186;go_wp2_with (go_at_call 175;refine(fq t _ _ _ tN hl).mono ?_;rintro e w2 ⟨rfl,aC⟩);go_ret2;rw[HT.out];exact⟨rfl,hb0.trans (af aC (by simp))⟩
 · have h1':t.txt.length≤100:=by omega
   by_cases h2:6<t.level
   · have HT:=zh (show kJ t=([],2) by unfold kJ;rw[if_pos (.inr h2)])
     have h3:(6:Int)<((t.sub.level+1:Nat):Int):=by unfold Tr.level at h2;omega
     go_enter Tryz.func186,Tryz.ntmps186;go_wp2_with (first|(go_at_call 175;refine(fq t _ _ _ tN hl).mono ?_;rintro e w2 ⟨rfl,aC⟩;have r2:=(aC.block w.heap.size (by simp)).trans hrow;have c0:=(ak r2 0).trans rfl;have c1:=(ak r2 1).trans rfl;have c2:=(ak r2 2).trans rfl;have oc:=tN.below aC zr;clear r2)|(go_at_call 212;refine(oD 1000 t.sub (by omega) (by omega) _ _ _ t.k t.n oc).mono ?_;rintro e w3 ⟨rfl,aH⟩));go_ret2;rw[HT.out];exact⟨rfl,(hb0.trans (af aC (by simp))).trans (af aH (by have:=aC.size;simp at this;omega))⟩
   · have HT:=zh (show kJ t=(t.txt,0) by unfold kJ;rw[if_neg (by omega)])
     have h3:((t.sub.level+1:Nat):Int)≤6:=by unfold Tr.level at h2;omega
     go_enter Tryz.func186,Tryz.ntmps186;go_wp2_with (first|(go_at_call 175;refine(fq t _ _ _ tN hl).mono ?_;rintro e w2 ⟨rfl,aC⟩;have r2:=(aC.block w.heap.size (by simp)).trans hrow;have c0:=(ak r2 0).trans rfl;have c1:=(ak r2 1).trans rfl;have c2:=(ak r2 2).trans rfl;have oc:=tN.below aC zr;clear r2)|(go_at_call 212;refine(oD 1000 t.sub (by omega) (by omega) _ _ _ t.k t.n oc).mono ?_;rintro e w3 ⟨rfl,aH⟩));go_ret2;rw[HT.out];exact⟨rfl,(hb0.trans (af aC (by simp))).trans (af aH (by have:=aC.size;simp at this;omega))⟩
theorem Oz (s:List UInt8) (hl:¬100<s.length):
 (cW s=0∧(aq s).1=4)∨(0<cW s∧cW s≠s.length∧(aq s).1=4)∨(0<cW s∧cW s=s.length∧6<iZ s∧(aq s).1=2)∨
 (0<cW s∧cW s=s.length∧¬6<iZ s∧(aq s).1=0∧(aq s).2.level=iZ s):=by
 unfold cW iZ aq
 rw[if_neg hl]
 rcases hp:aM s with _|⟨t,r⟩
 · exact .inl ⟨rfl,rfl⟩
 · have hr:=gM hp
   cases r with
   | nil=>
    simp only[List.length_nil] at hr ⊢
    by_cases hv:6<t.level
    · rw[if_pos hv];exact .inr (.inr (.inl ⟨by omega,by omega,hv,by simp⟩))
    · rw[if_neg hv];exact .inr (.inr (.inr ⟨by omega,by omega,hv,by simp,by simp⟩))
   | cons c r=>
    simp only[List.length_cons] at hr ⊢;exact .inr (.inl ⟨by omega,by omega,by simp⟩)
theorem wD {s:List UInt8} (hl:100<s.length):aq s=(2,⟨0,[],.nil⟩):=by unfold aq;rw[if_pos hl]
set_option maxRecDepth 4000 in
theorem nw (s:List UInt8) (hm:s.length≤maxLen) (w:World):Calls Tryz.prog 84 #[str s] w λe w'=>e=.returned (.int .i64 (aq s).1)∧Below w.heap.size w w':=by
 unfold maxLen at hm
 by_cases hl:100<s.length
 · have HC:=zh (show(aq s).1=2 by rw[wD hl])
   have hl':(100:Int)<(s.length:Int):=by omega
   clear hl;go_enter Tryz.func84,Tryz.ntmps84;go_wp2_with fail;go_ret;exact⟨by rw[HC.out];rfl,zb _⟩
 · have hl':¬(100:Int)<(s.length:Int):=by omega
   have hc:=Oz s hl;have hr:=yt s 0 w (Int.le_refl _) (by omega);generalize cW s=N at hc hr;generalize iZ s=L at hc hr;clear hl;rcases hc with⟨h1,h2⟩|⟨h1,h2,h3⟩|⟨h1,h2,h3,h4⟩|⟨h1,h2,h3,h4,_⟩
   · have HC:=zh h2
     subst h1;clear h2;go_enter Tryz.func84,Tryz.ntmps84;go_wp2_with (go_at_call 140;refine hr.mono ?_;clear hr;rintro e w1 ⟨rfl,au⟩);go_ret;exact⟨by rw[HC.out];rfl,au⟩
   · have HC:=zh h3
     have g1:((N:Int)==0)=false:=by rw[beq_eq_false_iff_ne];omega
     have g2:((N:Int) != (s.length:Int))=true:=by rw[bne_iff_ne];omega
     clear h1 h2 h3;go_enter Tryz.func84,Tryz.ntmps84;go_wp2_with (go_at_call 140;refine hr.mono ?_;clear hr;rintro e w1 ⟨rfl,au⟩);go_ret;exact⟨by rw[HC.out];rfl,au⟩
   · have HC:=zh h4
     have g1:((N:Int)==0)=false:=by rw[beq_eq_false_iff_ne];omega
     have g2:((N:Int) != (s.length:Int))=false:=by rw[h2];simp
     have g3:(6:Int)<(L:Int):=by omega
     clear h1 h2 h3 h4;go_enter Tryz.func84,Tryz.ntmps84;go_wp2_with (go_at_call 140;refine hr.mono ?_;clear hr;rintro e w1 ⟨rfl,au⟩);go_ret;exact⟨by rw[HC.out];rfl,au⟩
   · have HC:=zh h4
     have g1:((N:Int)==0)=false:=by rw[beq_eq_false_iff_ne];omega
     have g2:((N:Int) != (s.length:Int))=false:=by rw[h2];simp
     have g3:¬(6:Int)<(L:Int):=by omega
     clear h1 h2 h3 h4;go_enter Tryz.func84,Tryz.ntmps84;go_wp2_with (go_at_call 140;refine hr.mono ?_;clear hr;rintro e w1 ⟨rfl,au⟩);go_ret;exact⟨by rw[HC.out];rfl,au⟩
def mJ (s:List UInt8):Nat:=
 if s.take (aj s)=[] then 8 else if s.take (aj s)=mA then 1 else if s.take (aj s)=gC then 2 else if s.take (aj s)=jT then 3 else if s.take (aj s)=eB then 4 else if s.take (aj s)=eu then 5 else if s.take (aj s)=fK then 6 else 7
theorem kg {w r:List UInt8} (hw:aj w=w.length) (hr:aj r=0):mJ (w++r)=if w=[] then 8 else if w=mA then 1 else if w=gC then 2 else if w=jT then 3 else if w=eB then 4 else if w=eu then 5 else if w=fK then 6 else 7:=by
 unfold mJ
 rw[(fE hw hr).1]
theorem qw (fo:Fo):aj fo.br=0:=by cases fo<;>simp[Fo.br,bh,eG,show aj []=0 from rfl]
theorem zY {n:List UInt8} (h:isName n=true):n≠[]∧n≠mA∧n≠gC∧n≠jT∧n≠eB∧n≠eu∧n≠fK:=by
 refine⟨gQ h,?_,?_,?_,?_,?_,?_⟩<;>(rintro rfl;revert h;decide)
theorem rq {n r:List UInt8} (h:isName n=true) (hr:aj r=0):mJ (n++r)=7:=by
 obtain⟨h1,h2,h3,h4,h5,h6,h7⟩:=zY h
 rw[kg (dw h) hr,if_neg h1,if_neg h2,if_neg h3,if_neg h4,if_neg h5,if_neg h6,if_neg h7]
theorem Tr.ok.mJ {t:Tr} (h:t.ok):mJ t.txt=t.k:=by
 obtain⟨k,n,sub⟩:=t
 have h':Wf none (.cons [] k n sub .nil):=h
 clear h
 rw[Tr.eA,Fo.one,Fo.cN]
 cases h' with
 | par=>rfl
 | word _ h3=>rcases h3 with rfl|rfl|rfl<;>rfl
 | arr a h=>rw[show b8 4 eB=eB from rfl,kg (by decide) (qw _)];rfl
 | rcd k w fo hk h hl=>
  rcases hk with⟨rfl,rfl⟩|⟨rfl,rfl⟩
  · rw[show b8 5 eu=eu from rfl,kg (by decide) (qw _)];rfl
  · rw[show b8 6 fK=fK from rfl,kg (by decide) (qw _)];rfl
 | nam n hn=>rw[show b8 7 n=n from rfl];exact rq hn (qw _)
 | app n a hn h=>rw[show b8 7 n=n from rfl];exact rq hn (qw _)
set_option maxRecDepth 4000 in
theorem Jb (s:List UInt8) (hm:s.length≤maxLen) (w:World):Calls Tryz.prog 164 #[str s] w λe w'=>e=.returned (.int .u8 (mJ s))∧w=w':=by
 have hle:=bX s
 have hh:=hm
 unfold maxLen at hh
 have HK:∀k:Nat,mJ s=k→Hid (mJ s=k):=λ_ h=>h
 have hk:∀x,s.take (aj s)=x→mJ s=if x=[] then 8 else if x=mA then 1 else if x=gC then 2 else if x=jT then 3 else if x=eB then 4 else if x=eu then 5 else if x=fK then 6 else 7:=by intro x h;unfold mJ;rw[h]
 rcases hx:s.take (aj s) with _|⟨c0,x0⟩
 · have HE:=HK _ (hk _ hx)
   clear hk HK;go_enter Tryz.func164,Tryz.ntmps164;go_wp2_with (go_at_call 162;refine(aX _ _ hm).mono ?_;rintro e w1 ⟨rfl,rfl⟩);go_ret;exact⟨by rw[HE.out];rfl,rfl⟩
 · generalize hX:c0::x0=X at hx
   have hne:(X==[])=false:=by rw[←hX];rfl
   have Pr:X≠[]:=by rw[←hX];simp
   clear hX c0 x0;have HE:=HK _ (hk _ hx);rw[if_neg Pr] at HE;clear hk HK Pr
   by_cases h1:X=[105,110,116]
   · subst h1
     go_enter Tryz.func164,Tryz.ntmps164;go_wp2_with (go_at_call 162;refine(aX _ _ hm).mono ?_;rintro e w1 ⟨rfl,rfl⟩);go_ret;exact⟨by rw[HE.out];rfl,rfl⟩
   by_cases h2:X=[98,111,111,108]
   · subst h2
     go_enter Tryz.func164,Tryz.ntmps164;go_wp2_with (go_at_call 162;refine(aX _ _ hm).mono ?_;rintro e w1 ⟨rfl,rfl⟩);go_ret;exact⟨by rw[HE.out];rfl,rfl⟩
   by_cases h3:X=[110,117,108,108]
   · subst h3
     go_enter Tryz.func164,Tryz.ntmps164;go_wp2_with (go_at_call 162;refine(aX _ _ hm).mono ?_;rintro e w1 ⟨rfl,rfl⟩);go_ret;exact⟨by rw[HE.out];rfl,rfl⟩
   by_cases h4:X=[97,114,114,97,121]
   · subst h4
     go_enter Tryz.func164,Tryz.ntmps164;go_wp2_with (go_at_call 162;refine(aX _ _ hm).mono ?_;rintro e w1 ⟨rfl,rfl⟩);go_ret;exact⟨by rw[HE.out];rfl,rfl⟩
   by_cases h5:X=[114,101,99,111,114,100]
   · subst h5
     go_enter Tryz.func164,Tryz.ntmps164;go_wp2_with (go_at_call 162;refine(aX _ _ hm).mono ?_;rintro e w1 ⟨rfl,rfl⟩);go_ret;exact⟨by rw[HE.out];rfl,rfl⟩
   by_cases h6:X=[111,110,101,111,102]
   · subst h6
     go_enter Tryz.func164,Tryz.ntmps164;go_wp2_with (go_at_call 162;refine(aX _ _ hm).mono ?_;rintro e w1 ⟨rfl,rfl⟩);go_ret;exact⟨by rw[HE.out];rfl,rfl⟩
   rw[show mA=[105,110,116] from rfl,if_neg h1,show gC=[98,111,111,108] from rfl,if_neg h2,show jT=[110,117,108,108] from rfl,if_neg h3,show eB=[97,114,114,97,121] from rfl,if_neg h4,show eu=[114,101,99,111,114,100] from rfl,if_neg h5,show fK=[111,110,101,111,102] from rfl,if_neg h6] at HE;have g1:=gW h1;have g2:=gW h2;have g3:=gW h3;have g4:=gW h4;have g5:=gW h5;have g6:=gW h6;clear h1 h2 h3 h4 h5 h6;go_enter Tryz.func164,Tryz.ntmps164;go_wp2_with (go_at_call 162;refine(aX _ _ hm).mono ?_;rintro e w1 ⟨rfl,rfl⟩);go_ret;exact⟨by rw[HE.out];rfl,rfl⟩
theorem BS {s:List UInt8} {k:Nat} (hk:k<s.length) (h:fc s=fc (s.drop k)) (hc:s[k]≠63):fc s=fc (s.drop (k+1)):=by
 rw[h,List.drop_eq_getElem_cons hk,ow _ _ hc]
theorem DK {s:List UInt8} {k:Nat} (hk:k<s.length) (h:fc s=fc (s.drop k)) (hc:s[k]=63):fc s=true:=by
 rw[h,List.drop_eq_getElem_cons hk]
 simp[fc,hc]
set_option maxRecDepth 4000 in
theorem Aw (s:List UInt8) (hm:s.length≤maxLen) (w:World):Calls Tryz.prog 85 #[str s] w λe w'=>e=.returned (.bool (fc s))∧w=w':=by
 unfold maxLen at hm
 go_enter Tryz.func85,Tryz.ntmps85
 go_wp2_with fail
 go_loop [3] (λi=>∃k:Nat,k≤s.length∧Hid (fc s=fc (s.drop k))∧i=.int .i64 k) (λi=>s.length - (intOf i).toNat)
 case atStart=>exact⟨0,by omega,rfl,rfl⟩
 case round =>
  obtain⟨k,hk,HN,rfl⟩:=hrel
  by_cases hlt:k<s.length
  · by_cases hc:s[k]=63
    · have HS:=zh (DK hlt HN.out hc)
      have g:(((s[k]).toNat:Int)==63)=true:=by rw[hc];rfl
      clear hc;go_wp2_with fail;go_ret;exact⟨bI HS.out.symm,rfl⟩
    · have HS:=zh (BS hlt HN.out hc)
      have g:(((s[k]).toNat:Int)==63)=false:=by rw[beq_eq_false_iff_ne];exact nY (d:=63) hc
      clear hc;go_wp2_with fail
      go_round
      case rel=>exact⟨k+1,by omega,HS.out,by go_num⟩
      case measure=>simp[intOf];omega
  · have HS:=zh (show fc s=false by rw[HN.out,List.drop_of_length_le (by omega)];rfl)
    go_wp2_with fail;go_ret;exact⟨bI HS.out.symm,rfl⟩
theorem Ad {s:List UInt8} (h:(aq s).1=0):eM s=fc s:=by
 rcases hq:aq s with⟨c,T⟩
 have h':=h
 rw[hq] at h'
 simp only at h'
 subst h'
 obtain⟨h1,h2,_,_⟩:=bC hq
 unfold eM
 rw[if_pos h,hq,←h2,h1.fc]
set_option maxRecDepth 4000 in
theorem CL (s:List UInt8) (hm:s.length≤maxLen) (w:World):Calls Tryz.prog 34 #[str s] w λe w'=>e=.returned (.tuple #[.bool (eM s),.int .i64 (aq s).1])∧Below w.heap.size w w':=by
 have hC:=nw s hm w
 have hO:=λW=>Aw s hm W
 have hk:=@Ad s
 have hk0:(aq s).1≠0→eM s=false:=λh=>by unfold eM;rw[if_neg h]
 generalize (aq s).1=C at hC hk hk0 ⊢
 generalize eM s=O at hk hk0 ⊢
 by_cases hc:C=0
 · subst hc
   obtain rfl:=hk rfl;clear hk hk0;generalize fc s=O at hO ⊢;cases O
   all_goals
    go_enter Tryz.func34,Tryz.ntmps34;go_wp2_with (first
     | (go_at_call 84;refine hC.mono ?_;clear hC;rintro e w1 ⟨rfl,au⟩)
     | (go_at_call 85;refine(hO _).mono ?_;clear hO;rintro e w2 ⟨rfl,rfl⟩))
    go_ret2;exact⟨rfl,au⟩
 · obtain rfl:=hk0 hc
   obtain⟨g1,g2⟩:=bK hc;clear hc hk hk0;go_enter Tryz.func34,Tryz.ntmps34;go_wp2_with (go_at_call 84;refine hC.mono ?_;clear hC;rintro e w1 ⟨rfl,au⟩);go_ret2;exact⟨rfl,au⟩
def xB (x:Nat):List Nat→Nat→Int
 | [],_=> -1
 | y::r,k=>if x=y then k else xB x r (k+1)
theorem Ba (x:Nat):∀(l:List Nat) (k:Nat),(0≤xB x l k)↔x∈l
 | [],k=>by simp[xB]
 | y::r,k=>by
  rw[xB];split
  · rename_i h;subst h;simp
  · rename_i h;rw[Ba x r (k+1)];simp[h]
theorem Ee (x:Nat):∀(l:List Nat) (k:Nat),-1≤xB x l k
 | [],k=>by simp[xB]
 | y::r,k=>by
  rw[xB];split
  · omega
  · exact Ee x r (k+1)
set_option maxRecDepth 4000 in
theorem Ea (l:List Nat) (x:Nat) (b c:Nat) (w:World) (hl:l.length≤100) (hc:∀j (h:j<l.length),w.cell? ⟨b,j,none⟩=some (.int .u8 l[j])):
 Calls Tryz.prog 271 #[.slice (some ⟨b,0,none⟩) l.length c,.int .u8 x] w λe w'=>e=.returned (.int .i64 (xB x l 0))∧Below w.heap.size w w':=by
 have HC:=zh hc
 clear hc
 go_enter Tryz.func271,Tryz.ntmps271
 go_wp2_with fail
 go_loop [8] (λa=>∃i:Nat,i≤l.length∧a=.int .i64 i∧Hid (xB x l 0=xB x (l.drop i) i)) (λa=>l.length - (intOf a).toNat)
 case atStart=>exact⟨0,Nat.zero_le _,rfl,rfl⟩
 case round=>
  obtain⟨i,hi,rfl,HI⟩:=hrel
  by_cases hlt:i<l.length
  case pos=>
   have c0:=HC.out i hlt;have hd:l.drop i=l[i]::l.drop (i+1):=List.drop_eq_getElem_cons hlt
   by_cases he:x=l[i]
   · have HS:=zh (show xB x l 0=i by rw[HI.out,hd,xB,if_pos he])
     have g:((x:Int)==(l[i]:Int))=true:=by rw[he];simp
     clear hd he;go_wp2_with fail;go_ret;exact⟨by rw[HS.out];rfl,zb _⟩
   · have HS:=zh (show xB x l 0=xB x (l.drop (i+1)) (i+1) by rw[HI.out,hd,xB,if_neg he])
     have g:((x:Int)==(l[i]:Int))=false:=by rw[beq_eq_false_iff_ne];omega
     clear hd he;go_wp2_with fail
     go_round
     case rel=>exact⟨i+1,hlt,by go_num,HS.out⟩
     case measure=>simp[intOf];omega
  case neg=>
   have HS:=zh (show xB x l 0= -1 by rw[HI.out,List.drop_of_length_le (by omega)];rfl);go_wp2_with fail;go_ret;exact⟨by rw[HS.out];rfl,zb _⟩
theorem wI (l:List Nat) (x:Nat) (b c:Nat) (w:World) (hl:l.length≤100) (hc:∀j (h:j<l.length),w.cell? ⟨b,j,none⟩=some (.int .u8 l[j])) (q:Bool) (hq:l.contains x=q):
 Calls Tryz.prog 237 #[.slice (some ⟨b,0,none⟩) l.length c,.int .u8 x] w λe w'=>e=.returned (.bool q)∧Below w.heap.size w w':=by
 have hI:=Ea l x b c w hl hc
 have hp:=Ba x l 0
 have hlo:=Ee x l 0
 generalize xB x l 0=I at hI hp hlo
 cases q with
 | true=>
  have h0:decide (0≤I)=true:=by simpa using hp.2 (by simpa using hq)
  clear hp hq hc;go_enter Tryz.func237,Tryz.ntmps237;go_wp2_with (go_at_call 271;refine hI.mono ?_;rintro e w1 ⟨rfl,au⟩);go_ret;exact⟨rfl,au⟩
 | false=>
  have h0:decide (0≤I)=false:=by
   rw[decide_eq_false_iff_not];intro h;have:=hp.1 h;simp at hq;exact hq this
  clear hp hq hc;go_enter Tryz.func237,Tryz.ntmps237;go_wp2_with (go_at_call 271;refine hI.mono ?_;rintro e w1 ⟨rfl,au⟩);go_ret;exact⟨rfl,au⟩
def mz (s:List UInt8) (l:List Nat):Nat×Tr:=if(aq s).1=0 then(if l.contains (aq s).2.k then aq s else(30,⟨0,[],.nil⟩)) else aq s
def mM (w:World) (s:List UInt8) (l:List Nat) (e:Ending) (w':World):Prop:=
 ∃v,e=.returned (.tuple #[.agg #[.int .u8 (mz s l).2.k,str (mz s l).2.n,v],.int .i64 (mz s l).1])∧dB w' (λb=>w.heap.size≤b) (mz s l).2.sub v∧Below w.heap.size w w'
set_option maxRecDepth 4000 in
theorem z8 (s:List UInt8) (l:List Nat) (b c:Nat) (hm:s.length≤maxLen) (w:World) (ht:dW w) (hl:l.length≤100) (hc:∀j (h:j<l.length),w.cell? ⟨b,j,none⟩=some (.int .u8 l[j])):
 Calls Tryz.prog 176 #[str s,.slice (some ⟨b,0,none⟩) l.length c] w (mM w s l):=by
 have hb0:=(zb w).alloc zr (.cells #[.int .u8 0,.string ⟨#[]⟩,.slice none 0 0] 174)
 have HC:=cF s hm _ (ht.below hb0 zr)
 unfold bJ at HC
 have hL:∀W,Below w.heap.size w W→∀x q,l.contains x=q→Calls Tryz.prog 237 #[.slice (some ⟨b,0,none⟩) l.length c,.int .u8 x] W λe w'=>e=.returned (.bool q)∧Below W.heap.size W w':=
  λW hW x q hq=>wI l x b c W hl (λj h=>Below.keep hW (hc j h)) q hq
 have HL:=zh hL
 clear hc hL hl
 rcases hq:aq s with⟨C,t⟩
 rw[hq] at HC
 simp only at HC
 by_cases h0:C=0
 · subst h0
   rcases hk:l.contains t.k with _|_
   · have HE:=zh (show mz s l=(30,⟨0,[],.nil⟩) by unfold mz;rw[hq];simp only[if_true];rw[hk];rfl)
     have HK:=zh hk;clear hq hk;go_enter Tryz.func176,Tryz.ntmps176;go_wp2_with (first
      | (go_at_call 157;refine HC.mono ?_;clear HC;rintro e w1 ⟨v,rfl,hv,au⟩;obtain⟨p,cc,rfl,_⟩:=hv.shape;have r1:=λo=>bV o ((au.block w.heap.size (by simp)).trans (heap_alloc_new w (.cells #[.int .u8 0,.string ⟨#[]⟩,.slice none 0 0] 174))))
      | (go_at_call 237;refine(HL.out _ ((hb0.trans (af au (by simp))).alloc (by have:=au.size;simp at this;omega) _) _ _ HK.out).mono ?_;rintro e w2 ⟨rfl,aC⟩;have r2:=(aC.block w.heap.size (by have:=au.size;simp at this ⊢;omega)).trans (r1 _);have c0:=(ak r2 0).trans rfl;have c1:=(ak r2 1).trans rfl;have c2:=(ak r2 2).trans rfl;have f0:=az r2 0;have f1:=az r2 1;have f2:=az r2 2;clear r1 r2))
     have hs1:=au.size;simp only[World.size_alloc] at hs1;have aH:=((hb0.trans (af au (by simp))).alloc (by omega) (.cells #[.int .u8 t.k,.string ⟨t.n.toArray⟩,.slice p t.sub.len cc] 174)).trans (af aC (by simp;omega));refine bodyPost_ret (v:=.tuple #[.agg #[.int .u8 0,str [],.slice none 0 0],.int .i64 30]) (by simp[results,Tryz.results176,go_sem,c0,c1,c2]) rfl ?_;unfold mM;rw[HE.out];exact⟨_,rfl,dB.nil _ _,((aH.setCell (p:=⟨w.heap.size,0,none⟩) zr _).setCell (p:=⟨w.heap.size,1,none⟩) zr _).setCell (p:=⟨w.heap.size,2,none⟩) zr _⟩
   · have HE:=zh (show mz s l=(0,t) by unfold mz;rw[hq];simp only[if_true];rw[hk];rfl)
     have HK:=zh hk;clear hq hk;go_enter Tryz.func176,Tryz.ntmps176;go_wp2_with (first
      | (go_at_call 157;refine HC.mono ?_;clear HC;rintro e w1 ⟨v,rfl,hv,au⟩;obtain⟨p,cc,rfl,_⟩:=hv.shape;have r1:=λo=>bV o ((au.block w.heap.size (by simp)).trans (heap_alloc_new w (.cells #[.int .u8 0,.string ⟨#[]⟩,.slice none 0 0] 174))))
      | (go_at_call 237;refine(HL.out _ ((hb0.trans (af au (by simp))).alloc (by have:=au.size;simp at this;omega) _) _ _ HK.out).mono ?_;rintro e w2 ⟨rfl,aC⟩;have r2:=(aC.block w.heap.size (by have:=au.size;simp at this ⊢;omega)).trans (r1 _);have c0:=(ak r2 0).trans rfl;have c1:=(ak r2 1).trans rfl;have c2:=(ak r2 2).trans rfl;have f0:=az r2 0;have f1:=az r2 1;have f2:=az r2 2;have r4:=(aC.block w1.heap.size (by simp)).trans (heap_alloc_new w1 _);have d0:=(ak r4 0).trans rfl;have d1:=(ak r4 1).trans rfl;have d2:=(ak r4 2).trans rfl;clear r1 r2 r4))
     have hs1:=au.size;simp only[World.size_alloc] at hs1;have aH:=((hb0.trans (af au (by simp))).alloc (by omega) (.cells #[.int .u8 t.k,.string ⟨t.n.toArray⟩,.slice p t.sub.len cc] 174)).trans (af aC (by simp;omega));refine bodyPost_ret (v:=.tuple #[.agg #[.int .u8 t.k,str t.n,.slice p t.sub.len cc],.int .i64 0]) (by simp[results,Tryz.results176,go_sem,c0,c1,c2]) rfl ?_;unfold mM;rw[HE.out];refine⟨_,rfl,?_,((aH.setCell (p:=⟨w.heap.size,0,none⟩) zr _).setCell (p:=⟨w.heap.size,1,none⟩) zr _).setCell (p:=⟨w.heap.size,2,none⟩) zr _⟩;have F5:=(hv.below (B:=w1.heap.size) ((zb w1).alloc zr (.cells #[.int .u8 t.k,.string ⟨t.n.toArray⟩,.slice p t.sub.len cc] 174)) zr).below aC zr;have IW:=F5.mono (D':=λb=>w.heap.size<b) λb hb _=>by simp only[World.size_alloc] at hb;show w.heap.size<b;omega
     exact(IW.yC (λb hb=>Nat.ne_of_gt hb) _ _ _).mono λb hb _=>Nat.le_of_lt hb
 · have HE:=zh (show mz s l=(C,⟨0,[],.nil⟩) by
    unfold mz;rw[hq];simp only;rw[if_neg h0,(mP hq h0).2])
   obtain rfl:=(mP hq h0).2;obtain⟨g1,g2⟩:=bK h0;clear hq h0;go_enter Tryz.func176,Tryz.ntmps176;go_wp2_with (go_at_call 157;refine HC.mono ?_;clear HC;rintro e w1 ⟨v,rfl,hv,au⟩;obtain⟨p,cc,rfl,_⟩:=hv.shape;have r1:=λo=>bV o ((au.block w.heap.size (by simp)).trans (heap_alloc_new w (.cells #[.int .u8 0,.string ⟨#[]⟩,.slice none 0 0] 174)));have c0:=λo=>(ak (r1 o) 0).trans rfl;have c1:=λo=>(ak (r1 o) 1).trans rfl;have c2:=λo=>(ak (r1 o) 2).trans rfl;have f0:=λo=>az (r1 o) 0;have f1:=λo=>az (r1 o) 1;have f2:=λo=>az (r1 o) 2;clear r1);have hs1:=au.size;simp only[World.size_alloc] at hs1;have aH:=(hb0.trans (af au (by simp))).alloc (by omega) (.cells #[.int .u8 0,.string ⟨#[]⟩,.slice p 0 cc] 174);refine bodyPost_ret (v:=.tuple #[.agg #[.int .u8 0,str [],.slice p 0 cc],.int .i64 C]) (by simp[results,Tryz.results176,go_sem,c0,c1,c2];rfl) rfl ?_;unfold mM;rw[HE.out];refine⟨_,rfl,?_,((aH.setCell (p:=⟨w.heap.size,0,none⟩) zr _).setCell (p:=⟨w.heap.size,1,none⟩) zr _).setCell (p:=⟨w.heap.size,2,none⟩) zr _⟩;have F5:=hv.below (B:=w1.heap.size) ((zb w1).alloc zr (.cells #[.int .u8 0,.string ⟨#[]⟩,.slice p 0 cc] 174)) zr;have IW:=F5.mono (D':=λb=>w.heap.size<b) λb hb _=>by simp only[World.size_alloc] at hb;show w.heap.size<b;omega
   exact(IW.yC (λb hb=>Nat.ne_of_gt hb) _ _ _).mono λb hb _=>Nat.le_of_lt hb
def Fo.first:Fo→Tr
 | .nil=>⟨0,[],.nil⟩
 | .cons _ k n sub _=>⟨k,n,sub⟩
theorem Fo.Dw {fo:Fo} {pn:List UInt8} {t:Tr} (h:fo.at 0=some (pn,t)):fo.first=t:=by
 cases fo with
 | nil=>simp[Fo.at] at h
 | cons sL k n sub rest=>simp only[Fo.at,Option.some.injEq,Prod.mk.injEq] at h;exact h.2
theorem Fo.ou {fo:Fo} (h:fo.len≠0):fo.first.txt.length≤fo.tx.length:=by
 cases fo with
 | nil=>simp[Fo.len] at h
 | cons pn k n sub rest=>
  have:=iF (Fo.cons pn k n sub rest).txt 0 (kO pn++(Tr.mk k n sub).txt) (by rw[show Fo.cons pn k n sub rest=.cons pn (Tr.mk k n sub).k (Tr.mk k n sub).n (Tr.mk k n sub).sub rest from rfl,Fo.nX];rfl);rw[List.length_append] at this
  show(Tr.mk k n sub).txt.length≤(cH _).length
  omega
theorem rH {s:List UInt8} {l:List Nat} {t:Tr} (h:mz s l=(0,t)):aq s=(0,t)∧t.k∈l:=by
 unfold mz at h
 split at h
 · rename_i h0
   split at h
   · rename_i h1
     refine⟨h,?_⟩;rw[h] at h1
     simpa using h1
   · simp at h
 · rename_i h0
   rw[h] at h0;simp at h0
theorem Bh {s:List UInt8} {l:List Nat} {c:Nat} {t:Tr} (h:mz s l=(c,t)) (hc:c≠0):t=⟨0,[],.nil⟩:=by
 unfold mz at h
 split at h
 · rename_i h0
   split at h
   · rw[h] at h0;exact absurd h0 hc
   · simp only[Prod.mk.injEq] at h;exact h.2.symm
 · exact(mP h hc).2
def bQ (s:List UInt8):List UInt8×Bool×Nat:=if(mz s [4,7]).1=0∧(mz s [4,7]).2.sub.len≠0 then((mz s [4,7]).2.sub.first.txt,true,0) else([],false,(mz s [4,7]).1)
def eH (s:List UInt8):List UInt8×Nat:=((mz s [7]).2.n,(mz s [7]).1)
set_option maxRecDepth 4000 in
theorem q8 (s:List UInt8) (hm:s.length≤maxLen) (w:World) (ht:dW w):Calls Tryz.prog 121 #[str s] w λe w'=>e=.returned (.tuple #[str (bQ s).1,.bool (bQ s).2.1,.int .i64 (bQ s).2.2])∧Below w.heap.size w w':=by
 have hb0:=(zb w).alloc zr (.cells #[.int .u8 4,.int .u8 7] 5)
 have lp:=heap_alloc_new w (.cells #[.int .u8 4,.int .u8 7] 5)
 have HC:=z8 s [4,7] w.heap.size 2 hm _ (ht.below hb0 zr) (by simp) (λj h=>by
  have h:j<2:=h;rcases(show j=0∨j=1 by omega) with rfl|rfl
  · exact(ak lp 0).trans rfl
  · exact(ak lp 1).trans rfl)
 clear lp
 unfold mM at HC
 unfold bQ
 rcases hq:mz s [4,7] with⟨C,t⟩
 rw[hq] at HC
 simp only at HC ⊢
 by_cases h0:C=0
 · subst h0
   obtain⟨hk,_⟩:=rH hq;obtain⟨_,h2,h3,_⟩:=bC hk
   by_cases hz:t.sub.len=0
   · rw[if_neg (by omega)]
     have D7:((t.sub.len:Int)==0)=true:=by rw[hz];rfl
     clear hq hk h2 h3 hz;go_enter Tryz.func121,Tryz.ntmps121;go_wp2_with (go_at_call 176;refine HC.mono ?_;clear HC;rintro e w1 ⟨v,rfl,hv,au⟩;obtain⟨p,cc,rfl,_⟩:=hv.shape);have hs1:=au.size;simp only[World.size_alloc] at hs1
     go_ret3
     exact⟨rfl,(hb0.trans (af au (by simp))).alloc (by omega) _⟩
   · rw[if_pos ⟨rfl,hz⟩]
     have hl:=Fo.ou hz;have hx:(Tr.txt ⟨t.k,t.n,t.sub⟩).length≤100:=by show t.txt.length≤100;rw[h2];exact h3
     rw[vR hz] at hx;simp only[List.length_append,List.length_cons] at hx;have h4:t.sub.first.txt.length≤1000000:=by omega
     have D7:((t.sub.len:Int)==0)=false:=iB hz;clear hq hk h2 h3 hl hx;go_enter Tryz.func121,Tryz.ntmps121;go_wp2_with (go_at_call 176;refine HC.mono ?_;clear HC;rintro e w1 ⟨v,rfl,hv,au⟩;obtain⟨g,cc,pn,u,uv,rfl,_,hg,ha,c0,c1,c2,c3,hu⟩:=hv.at (i:=0) (by omega);obtain⟨pu,cu,rfl,_⟩:=hu.shape;obtain rfl:=Fo.Dw ha;clear ha hv;have d0:=λo=>Below.keep ((zb w1).alloc zr o) c0;have d1:=λo=>Below.keep ((zb w1).alloc zr o) c1;have d2:=λo=>Below.keep ((zb w1).alloc zr o) c2;have d3:=λo=>Below.keep ((zb w1).alloc zr o) c3;clear c0 c1 c2 c3);have hs1:=au.size;simp only[World.size_alloc] at hs1;refine(fq t.sub.first _ _ _ (hu.below ((zb w1).alloc zr _) zr) h4).mono ?_;rintro e w2 ⟨rfl,aC⟩;go_wp2_with fail
     go_ret3
     exact⟨rfl,((hb0.trans (af au (by simp))).alloc (by omega) _).trans (af aC (by simp;omega))⟩
 · obtain⟨g1,g2⟩:=bK h0
   obtain rfl:=Bh hq h0;rw[if_neg (by simp[h0])];clear hq h0;go_enter Tryz.func121,Tryz.ntmps121;go_wp2_with (go_at_call 176;refine HC.mono ?_;clear HC;rintro e w1 ⟨v,rfl,hv,au⟩;obtain⟨p,cc,rfl,_⟩:=hv.shape);have hs1:=au.size;simp only[World.size_alloc] at hs1
   go_ret3
   exact⟨rfl,(hb0.trans (af au (by simp))).alloc (by omega) _⟩
set_option maxRecDepth 4000 in
theorem tU (s:List UInt8) (hm:s.length≤maxLen) (w:World) (ht:dW w):Calls Tryz.prog 120 #[str s] w λe w'=>e=.returned (.tuple #[str (eH s).1,.int .i64 (eH s).2])∧Below w.heap.size w w':=by
 have hb0:=(zb w).alloc zr (.cells #[.int .u8 7] 5)
 have lp:=heap_alloc_new w (.cells #[.int .u8 7] 5)
 have HC:=z8 s [7] w.heap.size 1 hm _ (ht.below hb0 zr) (by simp) (λj h=>by
  have h:j<1:=h;rcases(show j=0 by omega) with rfl;exact(ak lp 0).trans rfl)
 clear lp
 unfold mM at HC
 unfold eH
 rcases hq:mz s [7] with⟨C,t⟩
 rw[hq] at HC
 simp only at HC ⊢
 clear hq
 go_enter Tryz.func120,Tryz.ntmps120
 go_wp2_with (go_at_call 176;refine HC.mono ?_;clear HC;rintro e w1 ⟨v,rfl,hv,au⟩;obtain⟨p,cc,rfl,_⟩:=hv.shape)
 have hs1:=au.size
 simp only[World.size_alloc] at hs1
 go_ret2
 exact⟨rfl,(hb0.trans (af au (by simp))).alloc (by omega) _⟩
theorem iT {n:List UInt8} (h:isName n=true):n.length≤12:=by
 cases n with
 | nil=>simp
 | cons c r=>simp only[isName,Bool.and_eq_true,decide_eq_true_eq] at h;exact h.1.1.1
theorem Gi (k:Nat) (n:List UInt8) (t:Tr):Tr.txt ⟨k,n,.one t⟩=b8 k n++91::(t.txt++[93]):=by
 rw[vR (by simp[Fo.one,Fo.len]),←Tr.eA]
theorem uk (k:Nat) (n:List UInt8) (t:Tr):Tr.level ⟨k,n,.one t⟩=t.level+1:=by
 simp[Tr.level,Fo.one,Fo.level]
def jC (s u:List UInt8):Tr×Tr×Nat:=if(aq s).1=0 then((aq s).2,(aq u).2,(aq u).1) else((aq s).2,⟨0,[],.nil⟩,(aq s).1)
def lJ (w:World) (s u:List UInt8) (e:Ending) (w':World):Prop:=
 ∃va vb,e=.returned (.tuple #[.agg #[.int .u8 (jC s u).1.k,str (jC s u).1.n,va],.agg #[.int .u8 (jC s u).2.1.k,str (jC s u).2.1.n,vb],.int .i64 (jC s u).2.2])∧
  dB w' (λb=>w.heap.size+1<b) (jC s u).1.sub va∧dB w' (λb=>w.heap.size+1<b) (jC s u).2.1.sub vb∧Below w.heap.size w w'
structure jY (w:World) (a b:Tr) (va vb:Value) (W:World):Prop where
 ra:W.heap[w.heap.size]? =some (.cells #[.int .u8 a.k,str a.n,va] 174 (0,0))
 rb:W.heap[w.heap.size+1]? =some (.cells #[.int .u8 b.k,str b.n,vb] 174 (0,0))
 fa:dB W (λb=>w.heap.size+1<b) a.sub va
 fb:dB W (λb=>w.heap.size+1<b) b.sub vb
 nD:Below w.heap.size w W
theorem yD {W:World} {B:Nat} {x0 x1 x2:Value} {t:TypeId} {z:Nat×Nat} (h:W.heap[B]? =some (.cells #[x0,x1,x2] t z)) (a b c:Value):
 (((W.setCell ⟨B,0,none⟩ a).setCell ⟨B,1,none⟩ b).setCell ⟨B,2,none⟩ c).heap[B]? =some (.cells #[a,b,c] t z):=cK (cK (cK h 0 a) 1 b) 2 c
theorem rW {W:World} {B k:Nat} (h:k≠B) (a b c:Value):(((W.setCell ⟨B,0,none⟩ a).setCell ⟨B,1,none⟩ b).setCell ⟨B,2,none⟩ c).heap[k]? =W.heap[k]? :=by
 rw[Below.heap_setCell _ _ _ _ h,Below.heap_setCell _ _ _ _ h,Below.heap_setCell _ _ _ _ h]
theorem rV {B' B:Nat} {w W:World} (h:Below B' w W) (hB:B'≤B) (a b c:Value):Below B' w (((W.setCell ⟨B,0,none⟩ a).setCell ⟨B,1,none⟩ b).setCell ⟨B,2,none⟩ c):=
 ((h.setCell (p:=⟨B,0,none⟩) hB a).setCell (p:=⟨B,1,none⟩) hB b).setCell (p:=⟨B,2,none⟩) hB c
theorem nV {W:World} {D:Nat→Prop} {fo:Fo} {v:Value} {B:Nat} (h:dB W D fo v) (hD:∀b,D b→b≠B) (x y z:Value):dB (((W.setCell ⟨B,0,none⟩ x).setCell ⟨B,1,none⟩ y).setCell ⟨B,2,none⟩ z) D fo v:=
 h.kept λb hb _=>rW (hD b hb) x y z
theorem jY.Gn {w:World} {a b a':Tr} {va vb OD:Value} {W:World} (h:jY w a b va vb W) (hv:dB W (λb=>w.heap.size+1<b) a'.sub OD):
 jY w a' b OD vb (((W.setCell ⟨w.heap.size,0,none⟩ (.int .u8 a'.k)).setCell ⟨w.heap.size,1,none⟩ (str a'.n)).setCell ⟨w.heap.size,2,none⟩ OD):=
 ⟨yD h.ra _ _ _,(rW (by omega) _ _ _).trans h.rb,nV hv (λb hb=>by omega) _ _ _,nV h.fb (λb hb=>by omega) _ _ _,rV h.nD zr _ _ _⟩
theorem jY.Jc {w:World} {a b b':Tr} {va vb Mo:Value} {W:World} (h:jY w a b va vb W) (hv:dB W (λb=>w.heap.size+1<b) b'.sub Mo):
 jY w a b' va Mo (((W.setCell ⟨w.heap.size+1,0,none⟩ (.int .u8 b'.k)).setCell ⟨w.heap.size+1,1,none⟩ (str b'.n)).setCell ⟨w.heap.size+1,2,none⟩ Mo):=
 ⟨(rW (by omega) _ _ _).trans h.ra,yD h.rb _ _ _,nV h.fa (λb hb=>by omega) _ _ _,nV hv (λb hb=>by omega) _ _ _,rV h.nD (by omega) _ _ _⟩
theorem jY.below {w:World} {a b:Tr} {va vb:Value} {W W':World} (h:jY w a b va vb W) (hb:Below W.heap.size W W'):jY w a b va vb W':=
 ⟨(hb.block _ (Array.getElem?_eq_some_iff.1 h.ra).1).trans h.ra,(hb.block _ (Array.getElem?_eq_some_iff.1 h.rb).1).trans h.rb,h.fa.below hb zr,h.fb.below hb zr,h.nD.trans (af hb h.nD.size)⟩
theorem jY.drew {w:World} {a b:Tr} {va vb:Value} {W:World} (h:jY w a b va vb W):jY w a b va vb W.drew:=h.below (zb _).drew
abbrev MD (w:World) (a b:Tr) (va vb:Value) (W:World):Prop:=
 (W.cell? ⟨w.heap.size,0,none⟩=some (.int .u8 a.k)∧W.cell? ⟨w.heap.size,1,none⟩=some (str a.n)∧W.cell? ⟨w.heap.size,2,none⟩=some va)∧
 (W.frozen? ⟨w.heap.size,0,none⟩=false∧W.frozen? ⟨w.heap.size,1,none⟩=false∧W.frozen? ⟨w.heap.size,2,none⟩=false)∧
 (W.cell? ⟨w.heap.size+1,0,none⟩=some (.int .u8 b.k)∧W.cell? ⟨w.heap.size+1,1,none⟩=some (str b.n)∧W.cell? ⟨w.heap.size+1,2,none⟩=some vb)∧
 (W.frozen? ⟨w.heap.size+1,0,none⟩=false∧W.frozen? ⟨w.heap.size+1,1,none⟩=false∧W.frozen? ⟨w.heap.size+1,2,none⟩=false)∧jY w a b va vb W
theorem jY.c {w:World} {a b:Tr} {va vb:Value} {W:World} (h:jY w a b va vb W):MD w a b va vb W:=
 ⟨⟨(ak h.ra 0).trans rfl,(ak h.ra 1).trans rfl,(ak h.ra 2).trans rfl⟩,⟨az h.ra 0,az h.ra 1,az h.ra 2⟩,⟨(ak h.rb 0).trans rfl,(ak h.rb 1).trans rfl,(ak h.rb 2).trans rfl⟩,⟨az h.rb 0,az h.rb 1,az h.rb 2⟩,h⟩
set_option maxRecDepth 4000 in
theorem Jr (s u:List UInt8) (ms:s.length≤maxLen) (mu:u.length≤maxLen) (w:World) (ht:dW w) (hc:(aq s).1=0):Calls Tryz.prog 185 #[str s,str u] w (lJ w s u):=by
 have HT:=zh (show jC s u=((aq s).2,(aq u).2,(aq u).1) by unfold jC;rw[if_pos hc])
 have uK:=λW h=>cF s ms W h
 have GF:=λW h=>cF u mu W h
 unfold bJ at uK GF
 rcases hq:aq s with⟨c,t⟩
 rcases hr:aq u with⟨d,x⟩
 rw[hq] at uK HT hc
 rw[hr] at GF HT
 simp only at uK GF HT hc
 subst hc
 have H1:=zh uK
 have H2:=zh GF
 clear hq hr uK GF
 have hb0:=((zb w).alloc zr (.cells #[.int .u8 0,.string ⟨#[]⟩,.slice none 0 0] 174)).alloc (by simp) (.cells #[.int .u8 0,.string ⟨#[]⟩,.slice none 0 0] 174)
 have DE:jY w ⟨0,[],.nil⟩ ⟨0,[],.nil⟩ (.slice none 0 0) (.slice none 0 0) ((w.alloc (.cells #[.int .u8 0,.string ⟨#[]⟩,.slice none 0 0] 174)).alloc (.cells #[.int .u8 0,.string ⟨#[]⟩,.slice none 0 0] 174)):=
  ⟨aD _ (heap_alloc_new w _),cI (by simp) _ _,dB.nil _ _,dB.nil _ _,hb0⟩
 have hz0:((w.alloc (.cells #[.int .u8 0,.string ⟨#[]⟩,.slice none 0 0] 174)).alloc (.cells #[.int .u8 0,.string ⟨#[]⟩,.slice none 0 0] 174)).heap.size=w.heap.size+2:=by simp
 have zD:=ht.below hb0 zr
 go_enter Tryz.func185,Tryz.ntmps185
 go_wp2_with fail
 refine(H1.out _ zD).mono ?_
 rintro e w1 ⟨va,rfl,xu,au⟩
 generalize (w.alloc (.cells #[.int .u8 0,.string ⟨#[]⟩,.slice none 0 0] 174)).alloc (.cells #[.int .u8 0,.string ⟨#[]⟩,.slice none 0 0] 174)=W0 at *
 obtain⟨pa,ca,rfl,_⟩:=xu.shape
 have tE:=DE.below au
 have zF:dB w1 (λb=>w.heap.size+1<b) t.sub (.slice pa t.sub.len ca):=xu.mono λb hb _=>by have hb:W0.heap.size≤b:=hb;omega
 have Mb:=tE.Gn zF
 have ht2:=ht.below Mb.nD zr
 have c0:=(ak tE.ra 0).trans rfl
 have c1:=(ak tE.ra 1).trans rfl
 have c2:=(ak tE.ra 2).trans rfl
 have f0:=az tE.ra 0
 have f1:=az tE.ra 1
 have f2:=az tE.ra 2
 have hz1:=Mb.nD.size
 have Ut:w.heap.size+2≤(((w1.setCell ⟨w.heap.size,0,none⟩ (.int .u8 t.k)).setCell ⟨w.heap.size,1,none⟩ (str t.n)).setCell ⟨w.heap.size,2,none⟩ (.slice pa t.sub.len ca)).heap.size:=by have:=au.size;simp[World.setCell];omega
 clear DE hb0 tE xu zF au
 go_wp2_with fail
 refine(H2.out _ ht2).mono ?_
 rintro e w3 ⟨vb,rfl,hvb,aH⟩
 generalize ((w1.setCell ⟨w.heap.size,0,none⟩ (.int .u8 t.k)).setCell ⟨w.heap.size,1,none⟩ (str t.n)).setCell ⟨w.heap.size,2,none⟩ (.slice pa t.sub.len ca)=W2 at *
 obtain⟨pb,cb,rfl,_⟩:=hvb.shape
 have GW:=Mb.below aH
 have DF:=GW.Jc (b':=x) (Mo:=.slice pb x.sub.len cb) (hvb.mono λb hb _=>by have hb:W2.heap.size≤b:=hb;omega)
 have e0:=(ak GW.rb 0).trans rfl
 have e1:=(ak GW.rb 1).trans rfl
 have e2:=(ak GW.rb 2).trans rfl
 have g0:=az GW.rb 0
 have g1:=az GW.rb 1
 have g2:=az GW.rb 2
 clear c0 c1 c2 f0 f1 f2 Mb GW hvb aH ht2 zD
 go_wp2_with fail
 generalize ((w3.setCell ⟨w.heap.size+1,0,none⟩ (.int .u8 x.k)).setCell ⟨w.heap.size+1,1,none⟩ (str x.n)).setCell ⟨w.heap.size+1,2,none⟩ (.slice pb x.sub.len cb)=W4 at *
 have hC:=DF.drew.c
 have FQ:=DF.Gn DF.fa
 have BP:=FQ.drew.c
 have Kr:=FQ.Jc FQ.fb
 have DB:=Kr.drew.c
 clear FQ Kr
 clear e0 e1 e2 g0 g1 g2
 obtain⟨⟨k0,k1,k2⟩,⟨k3,k4,k5⟩,⟨m0,m1,m2⟩,⟨m3,m4,m5⟩,_⟩:=DF.c
 clear DF
 go_region_held3 (λW=>(W.cell? ⟨w.heap.size,0,none⟩=some (.int .u8 t.k)∧W.cell? ⟨w.heap.size,1,none⟩=some (str t.n)∧W.cell? ⟨w.heap.size,2,none⟩=some (.slice pa t.sub.len ca))∧
  (W.frozen? ⟨w.heap.size,0,none⟩=false∧W.frozen? ⟨w.heap.size,1,none⟩=false∧W.frozen? ⟨w.heap.size,2,none⟩=false)∧
  (W.cell? ⟨w.heap.size+1,0,none⟩=some (.int .u8 x.k)∧W.cell? ⟨w.heap.size+1,1,none⟩=some (str x.n)∧W.cell? ⟨w.heap.size+1,2,none⟩=some (.slice pb x.sub.len cb))∧
  (W.frozen? ⟨w.heap.size+1,0,none⟩=false∧W.frozen? ⟨w.heap.size+1,1,none⟩=false∧W.frozen? ⟨w.heap.size+1,2,none⟩=false)∧jY w t x (.slice pa t.sub.len ca) (.slice pb x.sub.len cb) W)
  (with_reducible (first|exact hC|exact BP|exact DB|assumption)) (fail)
 rename_i M9
 clear M9
 clear hC BP k0 k1 k2 k3 k4 k5 m0 m1 m2 m3 m4 m5
 generalize World.drew _=WF at *
 obtain⟨⟨q0,q1,q2⟩,_,⟨r0,r1,r2⟩,_,hP⟩:=DB
 go_wp2_with fail
 refine bodyPost_ret (v:=.tuple #[.agg #[.int .u8 t.k,str t.n,.slice pa t.sub.len ca],.agg #[.int .u8 x.k,str x.n,.slice pb x.sub.len cb],.int .i64 d]) (by simp[results,Tryz.results185,go_sem,q0,q1,q2,r0,r1,r2]) rfl ?_
 unfold lJ
 rw[HT.out]
 exact⟨_,_,rfl,hP.fa,hP.fb,hP.nD⟩
set_option maxRecDepth 4000 in
theorem Jq (s u:List UInt8) (ms:s.length≤maxLen) (w:World) (ht:dW w) (hc:(aq s).1≠0):Calls Tryz.prog 185 #[str s,str u] w (lJ w s u):=by
 obtain⟨z,hz⟩:∃z:Tr,z=⟨0,[],.nil⟩:=⟨_,rfl⟩
 have HT:=zh (show jC s u=((aq s).2,z,(aq s).1) by unfold jC;rw[if_neg hc,hz])
 have uK:=λW h=>cF s ms W h
 unfold bJ at uK
 rcases hq:aq s with⟨d,t⟩
 rw[hq] at uK HT hc
 simp only at uK HT hc
 obtain⟨z1,z2⟩:=bK hc
 have H1:=zh uK
 clear hq uK hc
 have hb0:=((zb w).alloc zr (.cells #[.int .u8 0,.string ⟨#[]⟩,.slice none 0 0] 174)).alloc (by simp) (.cells #[.int .u8 0,.string ⟨#[]⟩,.slice none 0 0] 174)
 have DE:jY w z z (.slice none 0 0) (.slice none 0 0) ((w.alloc (.cells #[.int .u8 0,.string ⟨#[]⟩,.slice none 0 0] 174)).alloc (.cells #[.int .u8 0,.string ⟨#[]⟩,.slice none 0 0] 174)):=
  by subst hz;exact⟨aD _ (heap_alloc_new w _),cI (by simp) _ _,dB.nil _ _,dB.nil _ _,hb0⟩
 have HZ:=zh hz
 clear hz
 have hz0:((w.alloc (.cells #[.int .u8 0,.string ⟨#[]⟩,.slice none 0 0] 174)).alloc (.cells #[.int .u8 0,.string ⟨#[]⟩,.slice none 0 0] 174)).heap.size=w.heap.size+2:=by simp
 have zD:=ht.below hb0 zr
 go_enter Tryz.func185,Tryz.ntmps185
 go_wp2_with fail
 refine(H1.out _ zD).mono ?_
 rintro e w1 ⟨va,rfl,xu,au⟩
 generalize (w.alloc (.cells #[.int .u8 0,.string ⟨#[]⟩,.slice none 0 0] 174)).alloc (.cells #[.int .u8 0,.string ⟨#[]⟩,.slice none 0 0] 174)=W0 at *
 obtain⟨pa,ca,rfl,_⟩:=xu.shape
 have tE:=DE.below au
 have zF:dB w1 (λb=>w.heap.size+1<b) t.sub (.slice pa t.sub.len ca):=xu.mono λb hb _=>by have hb:W0.heap.size≤b:=hb;omega
 have DF:=tE.Gn zF
 have c0:=(ak tE.ra 0).trans rfl
 have c1:=(ak tE.ra 1).trans rfl
 have c2:=(ak tE.ra 2).trans rfl
 have f0:=az tE.ra 0
 have f1:=az tE.ra 1
 have f2:=az tE.ra 2
 clear DE hb0 tE xu zF au
 go_wp2_with fail
 generalize ((w1.setCell ⟨w.heap.size,0,none⟩ (.int .u8 t.k)).setCell ⟨w.heap.size,1,none⟩ (str t.n)).setCell ⟨w.heap.size,2,none⟩ (.slice pa t.sub.len ca)=W4 at *
 clear c0 c1 c2 f0 f1 f2 zD
 have hC:=DF.drew.c
 have FQ:=DF.Gn DF.fa
 have BP:=FQ.drew.c
 have Kr:=FQ.Jc FQ.fb
 have DB:=Kr.drew.c
 clear FQ Kr
 obtain⟨⟨k0,k1,k2⟩,⟨k3,k4,k5⟩,⟨m0,m1,m2⟩,⟨m3,m4,m5⟩,_⟩:=DF.c
 clear DF
 go_region_held3 (λW=>(W.cell? ⟨w.heap.size,0,none⟩=some (.int .u8 t.k)∧W.cell? ⟨w.heap.size,1,none⟩=some (str t.n)∧W.cell? ⟨w.heap.size,2,none⟩=some (.slice pa t.sub.len ca))∧
  (W.frozen? ⟨w.heap.size,0,none⟩=false∧W.frozen? ⟨w.heap.size,1,none⟩=false∧W.frozen? ⟨w.heap.size,2,none⟩=false)∧
  (W.cell? ⟨w.heap.size+1,0,none⟩=some (.int .u8 z.k)∧W.cell? ⟨w.heap.size+1,1,none⟩=some (str z.n)∧W.cell? ⟨w.heap.size+1,2,none⟩=some (.slice none 0 0))∧
  (W.frozen? ⟨w.heap.size+1,0,none⟩=false∧W.frozen? ⟨w.heap.size+1,1,none⟩=false∧W.frozen? ⟨w.heap.size+1,2,none⟩=false)∧jY w t z (.slice pa t.sub.len ca) (.slice none 0 0) W)
  (with_reducible (first|exact hC|exact BP|exact DB|assumption)) (fail)
 rename_i M9
 clear M9
 clear hC BP k0 k1 k2 k3 k4 k5 m0 m1 m2 m3 m4 m5
 generalize World.drew _=WF at *
 obtain⟨⟨q0,q1,q2⟩,_,⟨r0,r1,r2⟩,_,hP⟩:=DB
 go_wp2_with fail
 refine bodyPost_ret (v:=.tuple #[.agg #[.int .u8 t.k,str t.n,.slice pa t.sub.len ca],.agg #[.int .u8 z.k,str z.n,.slice none 0 0],.int .i64 d]) (by simp[results,Tryz.results185,go_sem,q0,q1,q2,r0,r1,r2]) rfl ?_
 unfold lJ
 rw[HT.out]
 exact⟨_,_,rfl,hP.fa,hP.fb,hP.nD⟩
theorem GA (s u:List UInt8) (ms:s.length≤maxLen) (mu:u.length≤maxLen) (w:World) (ht:dW w):Calls Tryz.prog 185 #[str s,str u] w (lJ w s u):=by
 by_cases hc:(aq s).1=0
 · exact Jr s u ms mu w ht hc
 · exact Jq s u ms w ht hc
theorem CR (a:List UInt8):∀(n:Nat) (s:List UInt8),s.length≤n→(subst a s).length≤s.length * (a.length+1):=by
 intro n
 induction n with
 | zero=>intro s h;have:s=[]:=List.length_eq_zero_iff.1 (by omega);subst this;simp[subst]
 | succ n ih=>
  intro s h
  match s,h with
  | [],_=>simp[subst]
  | [c],_=>
   rw[subst];split
   · simp
   · simp
  | c::d::r,h=>
   rw[subst];simp only[List.length_cons] at h;split
   · have:=ih r (by omega)
     simp only[List.length_append,List.length_cons,Nat.add_mul] at this ⊢;omega
   · have:=ih (d::r) (by simp only[List.length_cons];omega)
     simp only[List.length_cons,Nat.add_mul] at this ⊢;omega
theorem CF {t a:Tr} (ht:t.ok) (hl:t.txt.length≤100) (ha:a.txt.length≤100):(t.put a).txt.length≤1000000:=by
 rw[←ht.subst]
 have h:=CR a.txt _ t.txt zr
 have:t.txt.length * (a.txt.length+1)≤100 * 101:=Nat.mul_le_mul hl (by omega)
 omega
def aV (s u:List UInt8):List UInt8×Nat:=if(jC s u).2.2=0 then kJ ((jC s u).1.put (jC s u).2.1) else([],(jC s u).2.2)
theorem BA {s u:List UInt8} {t a:Tr} (h:jC s u=(t,a,0)):aq s=(0,t)∧aq u=(0,a):=by
 unfold jC at h
 rcases hq:aq s with⟨c,x⟩
 rcases hr:aq u with⟨d,y⟩
 rw[hq,hr] at h
 simp only at h
 split at h
 · rename_i e
   simp only[Prod.mk.injEq] at h;obtain⟨rfl,rfl,rfl⟩:=h;subst e;exact⟨rfl,rfl⟩
 · rename_i e
   simp only[Prod.mk.injEq] at h;exact absurd h.2.2 e
set_option maxRecDepth 4000 in
theorem tY (s u:List UInt8) (ms:s.length≤maxLen) (mu:u.length≤maxLen) (w:World) (ht:dW w):
 Calls Tryz.prog 123 #[str s,str u] w λe w'=>e=.returned (.tuple #[str (aV s u).1,.int .i64 (aV s u).2])∧Below w.heap.size w w':=by
 have HC:=GA s u ms mu w ht
 unfold lJ at HC
 unfold aV
 rcases hq:jC s u with⟨t,a,c⟩
 rw[hq] at HC
 simp only at HC ⊢
 by_cases hc:c=0
 · subst hc
   obtain⟨h1,h2⟩:=BA hq;obtain⟨ot,et,lt,vt⟩:=bC h1;obtain⟨oa,ea,la,va⟩:=bC h2;have C7:t.txt.length≤100:=by rw[et];exact lt
   have hps:=CF ot C7 (by rw[ea];exact la);have hpl:(t.put a).level≤1000:=by have:=Tr.jS a t;omega
   have Od:t.txt.length≤1000000:=by omega
   clear hq h1 h2 et ea lt la vt va;go_enter Tryz.func123,Tryz.ntmps123;go_wp2_with fail;refine HC.mono ?_;clear HC;rintro e w1 ⟨v1,v2,rfl,tN,oc,au⟩;obtain⟨p1,c1,rfl,_⟩:=tN.shape;obtain⟨p2,c2,rfl,_⟩:=oc.shape;have mT:=((zb w1).alloc zr (.cells #[.int .u8 t.k,str t.n,.slice p1 t.sub.len c1] 174)).alloc (by simp) (.cells #[.int .u8 a.k,str a.n,.slice p2 a.sub.len c2] 174);have hw1:=tN.below mT zr;have SL:=oc.below mT zr;have hz:=au.size;have yU:=au.trans (af mT hz);clear mT tN oc;go_wp2_with fail;refine(Fh t a Od _ _ _ _ hw1 SL).mono ?_;rintro e w2 ⟨v',rfl,F4,aC⟩;obtain⟨p3,c3,rfl,_⟩:=F4.shape;go_wp2_with fail;refine(E9 (t.put a) hps hpl _ _ _ F4).mono ?_;rintro e w3 ⟨rfl,aH⟩;go_wp2_with fail;go_ret2;exact⟨rfl,(yU.trans (af aC (by simp;omega))).trans (af aH (by have:=aC.size;simp at this;omega))⟩
 · obtain⟨z1,z2⟩:=bK hc
   have HZ:=zh hc;clear hq hc;go_enter Tryz.func123,Tryz.ntmps123;go_wp2_with fail;refine HC.mono ?_;clear HC;rintro e w1 ⟨v1,v2,rfl,tN,oc,au⟩;obtain⟨p1,c1,rfl,_⟩:=tN.shape;obtain⟨p2,c2,rfl,_⟩:=oc.shape;go_wp2_with fail;go_ret2;refine⟨?_,(au.alloc au.size _).alloc (by have:=au.size;simp;omega) _⟩
   rfl
end
section
theorem Fo.vQ (pn:List UInt8) (k:Nat) (n:List UInt8) (sub rest:Fo):(Fo.one ⟨k,n,sub⟩).tx.length≤(Fo.cons pn k n sub rest).tx.length∧sub.tx.length≤(Fo.one ⟨k,n,sub⟩).tx.length∧rest.tx.length≤(Fo.cons pn k n sub rest).tx.length:=by
 have h1:(Fo.one ⟨k,n,sub⟩).tx=b8 k n++sub.br:=Fo.cN k n sub
 have h2:sub.tx.length≤sub.br.length:=by
  cases sub with
  | nil=>simp[Fo.tx,Fo.txt,cH]
  | cons=>rw[Fo.ji (by simp)];simp only[List.length_cons,List.length_append,List.length_nil];omega
 by_cases hr:rest=.nil
 · subst hr
   rw[Fo.gU,show(Fo.cons [] k n sub Fo.nil)=Fo.one ⟨k,n,sub⟩ from rfl,h1];simp only[List.length_append];refine⟨by omega,by omega,by simp[Fo.tx,Fo.txt,cH]⟩
 · rw[Fo.gV _ _ _ _ _ hr,show(Fo.cons [] k n sub Fo.nil)=Fo.one ⟨k,n,sub⟩ from rfl,h1]
   simp only[List.length_append,List.length_cons];omega
end
open Go.RowKit

end Go.Proofs.YtakgjcfkdemipaaGreatDoor
