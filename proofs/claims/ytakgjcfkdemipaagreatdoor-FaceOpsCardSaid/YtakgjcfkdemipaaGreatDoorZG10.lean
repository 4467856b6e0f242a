/-
  Lemmas for the statement: contracts: kind.Check, Kind, Level, Open, told. Contracts: the reference's Check, kind, Kind, Level, open, Open (argusref03), in the words of the program's contracts. Contracts: slices.Contains (bytes), kind.of, Arg, Base, Array, Named. Conditions: bounds of lengths; the variable strings.asciiSpace.
-/
import Derived.Test.YtakgjcfkdemipaaGreatDoorZGn
import Derived.Test.YtakgjcfkdemipaaGreatDoorZG8
import Derived.Test.YtakgjcfkdemipaaGreatDoorZG9
set_option maxHeartbeats 3200000
namespace Go.Proofs.YtakgjcfkdemipaaGreatDoor
open Go.RowKit
theorem bE {s:List UInt8} {t:Tr} (h:aq s=(0,t)):t.ok∧t.txt=s∧s.length≤100∧t.level≤6:=by
 unfold aq at h
 split at h
 · simp at h
 · rename_i hl
   split at h
   · rename_i u e
     split at h
     · simp at h
     · rename_i hv
       simp only[Prod.mk.injEq,true_and] at h;subst h;obtain⟨h1,h2⟩:=FO e;exact⟨h1,by simpa using h2.symm,by omega,by omega⟩
   · simp at h
theorem jR {s:List UInt8} {c:Nat} {t:Tr} (h:aq s=(c,t)) (hc:c≠0):(c=2∨c=4)∧t=⟨0,[],.nil⟩:=by
 unfold aq at h
 split at h
 · simp only[Prod.mk.injEq] at h;exact⟨.inl h.1.symm,h.2.symm⟩
 · split at h
   · split at h
     · simp only[Prod.mk.injEq] at h;exact⟨.inl h.1.symm,h.2.symm⟩
     · simp only[Prod.mk.injEq] at h;exact absurd h.1.symm hc
   · simp only[Prod.mk.injEq] at h;exact⟨.inr h.1.symm,h.2.symm⟩
theorem nR {t:Tr} (h:t.ok):aq t.txt=if 100<t.txt.length∨6<t.level then(2,⟨0,[],.nil⟩) else(0,t):=by
 unfold aq
 rw[h.reads']
 by_cases h1:100<t.txt.length
 · rw[if_pos h1,if_pos (.inl h1)]
 · rw[if_neg h1]
   by_cases h2:6<t.level
   · simp only;rw[if_pos h2,if_pos (.inr h2)]
   · simp only;rw[if_neg h2,if_neg (by omega)]
theorem bC {c:Nat} (h:c≠0):((c:Int)==0)=false∧((c:Int) != 0)=true:=by
 constructor
 · rw[beq_eq_false_iff_ne];omega
 · rw[bne_iff_ne];omega
set_option maxRecDepth 4000 in
theorem CW (s:List UInt8) (hm:s.length≤maxLen) (w:World) (ht:fN w):Calls Tryz.prog 116 #[str s] w λe w'=>e=.returned (.int .i64 (aq s).1)∧Below w.heap.size w w':=by
 go_enter Tryz.func116,Tryz.ntmps116
 go_wp2_with (go_at_call 157;refine(dW s hm _ ht).mono ?_;rintro e w1 ⟨v,rfl,hv,ay⟩;obtain⟨p,c,rfl,_⟩:=hv.shape)
 go_ret
 exact⟨rfl,ay.alloc ay.size _⟩
set_option maxRecDepth 4000 in
theorem xG (s:List UInt8) (hm:s.length≤maxLen) (w:World) (ht:fN w):Calls Tryz.prog 119 #[str s] w λe w'=>e=.returned (.tuple #[.int .u8 (aq s).2.k,.int .i64 (aq s).1])∧Below w.heap.size w w':=by
 go_enter Tryz.func119,Tryz.ntmps119
 go_wp2_with (go_at_call 157;refine(dW s hm _ ht).mono ?_;rintro e w1 ⟨v,rfl,hv,ay⟩;obtain⟨p,c,rfl,_⟩:=hv.shape)
 go_ret2
 exact⟨rfl,ay.alloc ay.size _⟩
def iz (s:List UInt8):Nat:=if(aq s).1=0 then(aq s).2.level else 0
def eW (s:List UInt8):Bool:=if(aq s).1=0 then(aq s).2.pS else false
set_option maxRecDepth 4000 in
theorem oe (s:List UInt8) (hm:s.length≤maxLen) (w:World) (ht:fN w):Calls Tryz.prog 117 #[str s] w λe w'=>e=.returned (.tuple #[.bool (eW s),.int .i64 (aq s).1])∧Below w.heap.size w w':=by
 have HC:=dW s hm w ht
 unfold cH at HC
 unfold eW
 rcases hq:aq s with⟨c,t⟩
 rw[hq] at HC
 simp only at HC ⊢
 by_cases hc:c=0
 · subst hc
   have HQ:=Lib.hid hq;clear hq;go_enter Tryz.func117,Tryz.ntmps117;go_wp2_with (first|(go_at_call 157;refine HC.mono ?_;clear HC;rintro e w1 ⟨v,rfl,hv,ay⟩;obtain⟨p,c,rfl,_⟩:=hv.shape)|(go_at_call 174;refine(Ja t _ _ _ (hv.below ((Below.refl _ w1).alloc (nl _) _) (nl _))).mono ?_;rintro e w2 ⟨rfl,aA⟩));go_ret2;exact⟨rfl,(ay.alloc ay.size _).trans (af aA (by have:=ay.size;simp;omega))⟩
 · obtain⟨h1,h2⟩:=bC hc
   have HQ:=Lib.hid hq;have HZ:=Lib.hid hc;clear hq hc;go_enter Tryz.func117,Tryz.ntmps117;go_wp2_with (go_at_call 157;refine HC.mono ?_;clear HC;rintro e w1 ⟨v,rfl,hv,ay⟩;obtain⟨p,c,rfl,_⟩:=hv.shape);go_ret2;exact⟨rfl,ay.alloc ay.size _⟩
def ij (t:Tr):List UInt8×Nat:=if 100<t.txt.length∨6<t.level then([],2) else(t.txt,0)
set_option maxRecDepth 4000 in
theorem JT (t:Tr) (hl:t.txt.length≤1000000) (hlv:t.level≤1000) (w:World) (D:Nat→Prop) (v:Value) (hv:eX w D t.sub v):
 Calls Tryz.prog 186 #[.agg #[.int .u8 t.k,str t.n,v]] w λe w'=>e=.returned (.tuple #[str (ij t).1,.int .i64 (ij t).2])∧Below w.heap.size w w':=by
 obtain⟨p,c,rfl,_⟩:=hv.shape
 unfold Tr.level at hlv
 have hrow:=heap_alloc_new w (.cells #[.int .u8 t.k,str t.n,.slice p t.sub.len c] 174)
 have xz:=hv.below ((Below.refl _ w).alloc (nl _) (.cells #[.int .u8 t.k,str t.n,.slice p t.sub.len c] 174)) (nl _)
 have hb0:=(Below.refl _ w).alloc (nl _) (.cells #[.int .u8 t.k,str t.n,.slice p t.sub.len c] 174)
 by_cases h1:100<t.txt.length
 · have HT:=Lib.hid (show ij t=([],2) by unfold ij;rw[if_pos (.inl h1)])
   go_enter Tryz.func186,Tryz.ntmps186;go_wp2_with (go_at_call 175;refine(gG t _ _ _ xz hl).mono ?_;rintro e w2 ⟨rfl,aA⟩);go_ret2;rw[HT.out];exact⟨rfl,hb0.trans (af aA (by simp))⟩
 · have h1':t.txt.length≤100:=by omega
   by_cases h2:6<t.level
   · have HT:=Lib.hid (show ij t=([],2) by unfold ij;rw[if_pos (.inr h2)])
     have h3:(6:Int)<((t.sub.level+1:Nat):Int):=by unfold Tr.level at h2;omega
     go_enter Tryz.func186,Tryz.ntmps186;go_wp2_with (first|(go_at_call 175;refine(gG t _ _ _ xz hl).mono ?_;rintro e w2 ⟨rfl,aA⟩;have r2:=(aA.block w.heap.size (by simp)).trans hrow;have c0:=(ak r2 0).trans rfl;have c1:=(ak r2 1).trans rfl;have c2:=(ak r2 2).trans rfl;have qV:=xz.below aA (nl _);clear r2)|(go_at_call 212;refine(rH 1000 t.sub (by omega) (by omega) _ _ _ t.k t.n qV).mono ?_;rintro e w3 ⟨rfl,aK⟩));go_ret2;rw[HT.out];exact⟨rfl,(hb0.trans (af aA (by simp))).trans (af aK (by have:=aA.size;simp at this;omega))⟩
   · have HT:=Lib.hid (show ij t=(t.txt,0) by unfold ij;rw[if_neg (by omega)])
     have h3:((t.sub.level+1:Nat):Int)≤6:=by unfold Tr.level at h2;omega
     go_enter Tryz.func186,Tryz.ntmps186;go_wp2_with (first|(go_at_call 175;refine(gG t _ _ _ xz hl).mono ?_;rintro e w2 ⟨rfl,aA⟩;have r2:=(aA.block w.heap.size (by simp)).trans hrow;have c0:=(ak r2 0).trans rfl;have c1:=(ak r2 1).trans rfl;have c2:=(ak r2 2).trans rfl;have qV:=xz.below aA (nl _);clear r2)|(go_at_call 212;refine(rH 1000 t.sub (by omega) (by omega) _ _ _ t.k t.n qV).mono ?_;rintro e w3 ⟨rfl,aK⟩));go_ret2;rw[HT.out];exact⟨rfl,(hb0.trans (af aA (by simp))).trans (af aK (by have:=aA.size;simp at this;omega))⟩
end Go.Proofs.YtakgjcfkdemipaaGreatDoor
namespace Go.Proofs.YtakgjcfkdemipaaGreatDoor
open Go.RowKit
theorem Vr (s:List UInt8) (hl:¬100<s.length):
 (eB s=0∧(aq s).1=4)∨(0<eB s∧eB s≠s.length∧(aq s).1=4)∨(0<eB s∧eB s=s.length∧6<jN s∧(aq s).1=2)∨
 (0<eB s∧eB s=s.length∧¬6<jN s∧(aq s).1=0∧(aq s).2.level=jN s):=by
 unfold eB jN aq
 rw[if_neg hl]
 rcases hp:aY s with _|⟨t,r⟩
 · exact .inl ⟨rfl,rfl⟩
 · have hr:=iF hp
   cases r with
   | nil=>
    simp only[List.length_nil] at hr ⊢
    by_cases hv:6<t.level
    · rw[if_pos hv];exact .inr (.inr (.inl ⟨by omega,by omega,hv,by simp⟩))
    · rw[if_neg hv];exact .inr (.inr (.inr ⟨by omega,by omega,hv,by simp,by simp⟩))
   | cons c r=>
    simp only[List.length_cons] at hr ⊢;exact .inr (.inl ⟨by omega,by omega,by simp⟩)
theorem zW {s:List UInt8} (hl:100<s.length):aq s=(2,⟨0,[],.nil⟩):=by unfold aq;rw[if_pos hl]
set_option maxRecDepth 4000 in
theorem eN (s:List UInt8) (hm:s.length≤maxLen) (w:World):Calls Tryz.prog 84 #[str s] w λe w'=>e=.returned (.int .i64 (aq s).1)∧Below w.heap.size w w':=by
 unfold maxLen at hm
 by_cases hl:100<s.length
 · have HC:=Lib.hid (show(aq s).1=2 by rw[zW hl])
   have hl':(100:Int)<(s.length:Int):=by omega
   clear hl;go_enter Tryz.func84,Tryz.ntmps84;go_wp2_with fail;go_ret;exact⟨by rw[HC.out];rfl,Below.refl _ _⟩
 · have hl':¬(100:Int)<(s.length:Int):=by omega
   have hc:=Vr s hl;have hr:=vk s 0 w (Int.le_refl _) (by omega);generalize eB s=N at hc hr;generalize jN s=L at hc hr;clear hl;rcases hc with⟨h1,h2⟩|⟨h1,h2,h3⟩|⟨h1,h2,h3,h4⟩|⟨h1,h2,h3,h4,_⟩
   · have HC:=Lib.hid h2
     subst h1;clear h2;go_enter Tryz.func84,Tryz.ntmps84;go_wp2_with (go_at_call 140;refine hr.mono ?_;clear hr;rintro e w1 ⟨rfl,ay⟩);go_ret;exact⟨by rw[HC.out];rfl,ay⟩
   · have HC:=Lib.hid h3
     have g1:((N:Int)==0)=false:=by rw[beq_eq_false_iff_ne];omega
     have g2:((N:Int) != (s.length:Int))=true:=by rw[bne_iff_ne];omega
     clear h1 h2 h3;go_enter Tryz.func84,Tryz.ntmps84;go_wp2_with (go_at_call 140;refine hr.mono ?_;clear hr;rintro e w1 ⟨rfl,ay⟩);go_ret;exact⟨by rw[HC.out];rfl,ay⟩
   · have HC:=Lib.hid h4
     have g1:((N:Int)==0)=false:=by rw[beq_eq_false_iff_ne];omega
     have g2:((N:Int) != (s.length:Int))=false:=by rw[h2];simp
     have g3:(6:Int)<(L:Int):=by omega
     clear h1 h2 h3 h4;go_enter Tryz.func84,Tryz.ntmps84;go_wp2_with (go_at_call 140;refine hr.mono ?_;clear hr;rintro e w1 ⟨rfl,ay⟩);go_ret;exact⟨by rw[HC.out];rfl,ay⟩
   · have HC:=Lib.hid h4
     have g1:((N:Int)==0)=false:=by rw[beq_eq_false_iff_ne];omega
     have g2:((N:Int) != (s.length:Int))=false:=by rw[h2];simp
     have g3:¬(6:Int)<(L:Int):=by omega
     clear h1 h2 h3 h4;go_enter Tryz.func84,Tryz.ntmps84;go_wp2_with (go_at_call 140;refine hr.mono ?_;clear hr;rintro e w1 ⟨rfl,ay⟩);go_ret;exact⟨by rw[HC.out];rfl,ay⟩
def kE (s:List UInt8):Nat:=
 if s.take (aj s)=[] then 8 else if s.take (aj s)=cU then 1 else if s.take (aj s)=aX then 2 else if s.take (aj s)=lH then 3 else if s.take (aj s)=fT then 4 else if s.take (aj s)=fP then 5 else if s.take (aj s)=gV then 6 else 7
theorem lT {w r:List UInt8} (hw:aj w=w.length) (hr:aj r=0):kE (w++r)=if w=[] then 8 else if w=cU then 1 else if w=aX then 2 else if w=lH then 3 else if w=fT then 4 else if w=fP then 5 else if w=gV then 6 else 7:=by
 unfold kE
 rw[(gv hw hr).1]
theorem mZ (fo:Fo):aj fo.br=0:=by cases fo<;>simp[Fo.br,bI,gh,show aj []=0 from rfl]
theorem C8 {n:List UInt8} (h:isName n=true):n≠[]∧n≠cU∧n≠aX∧n≠lH∧n≠fT∧n≠fP∧n≠gV:=by
 refine⟨jm h,?_,?_,?_,?_,?_,?_⟩<;>(rintro rfl;revert h;decide)
theorem uw {n r:List UInt8} (h:isName n=true) (hr:aj r=0):kE (n++r)=7:=by
 obtain⟨h1,h2,h3,h4,h5,h6,h7⟩:=C8 h
 rw[lT (eO h) hr,if_neg h1,if_neg h2,if_neg h3,if_neg h4,if_neg h5,if_neg h6,if_neg h7]
theorem Tr.ok.kE {t:Tr} (h:t.ok):kE t.txt=t.k:=by
 obtain⟨k,n,sub⟩:=t
 have h':Wf none (.cons [] k n sub .nil):=h
 clear h
 rw[Tr.eT,Fo.one,Fo.dR]
 cases h' with
 | par=>rfl
 | word _ h3=>rcases h3 with rfl|rfl|rfl<;>rfl
 | arr a h=>rw[show cB 4 fT=fT from rfl,lT (by decide) (mZ _)];rfl
 | rcd k w fo hk h hl=>
  rcases hk with⟨rfl,rfl⟩|⟨rfl,rfl⟩
  · rw[show cB 5 fP=fP from rfl,lT (by decide) (mZ _)];rfl
  · rw[show cB 6 gV=gV from rfl,lT (by decide) (mZ _)];rfl
 | nam n hn=>rw[show cB 7 n=n from rfl];exact uw hn (mZ _)
 | app n a hn h=>rw[show cB 7 n=n from rfl];exact uw hn (mZ _)
set_option maxRecDepth 4000 in
theorem mh (s:List UInt8) (hm:s.length≤maxLen) (w:World):Calls Tryz.prog 164 #[str s] w λe w'=>e=.returned (.int .u8 (kE s))∧w=w':=by
 have hle:=cL s
 have hh:=hm
 unfold maxLen at hh
 have HK:∀k:Nat,kE s=k→Hid (kE s=k):=λ_ h=>h
 have hk:∀x,s.take (aj s)=x→kE s=if x=[] then 8 else if x=cU then 1 else if x=aX then 2 else if x=lH then 3 else if x=fT then 4 else if x=fP then 5 else if x=gV then 6 else 7:=by intro x h;unfold kE;rw[h]
 rcases hx:s.take (aj s) with _|⟨c0,x0⟩
 · have HE:=HK _ (hk _ hx)
   clear hk HK;go_enter Tryz.func164,Tryz.ntmps164;go_wp2_with (go_at_call 162;refine(bz _ _ hm).mono ?_;rintro e w1 ⟨rfl,rfl⟩);go_ret;exact⟨by rw[HE.out];rfl,rfl⟩
 · generalize hX:c0::x0=X at hx
   have hne:(X==[])=false:=by rw[←hX];rfl
   have Wj:X≠[]:=by rw[←hX];simp
   clear hX c0 x0;have HE:=HK _ (hk _ hx);rw[if_neg Wj] at HE;clear hk HK Wj
   by_cases h1:X=[105,110,116]
   · subst h1
     go_enter Tryz.func164,Tryz.ntmps164;go_wp2_with (go_at_call 162;refine(bz _ _ hm).mono ?_;rintro e w1 ⟨rfl,rfl⟩);go_ret;exact⟨by rw[HE.out];rfl,rfl⟩
   by_cases h2:X=[98,111,111,108]
   · subst h2
     go_enter Tryz.func164,Tryz.ntmps164;go_wp2_with (go_at_call 162;refine(bz _ _ hm).mono ?_;rintro e w1 ⟨rfl,rfl⟩);go_ret;exact⟨by rw[HE.out];rfl,rfl⟩
   by_cases h3:X=[110,117,108,108]
   · subst h3
     go_enter Tryz.func164,Tryz.ntmps164;go_wp2_with (go_at_call 162;refine(bz _ _ hm).mono ?_;rintro e w1 ⟨rfl,rfl⟩);go_ret;exact⟨by rw[HE.out];rfl,rfl⟩
   by_cases h4:X=[97,114,114,97,121]
   · subst h4
     go_enter Tryz.func164,Tryz.ntmps164;go_wp2_with (go_at_call 162;refine(bz _ _ hm).mono ?_;rintro e w1 ⟨rfl,rfl⟩);go_ret;exact⟨by rw[HE.out];rfl,rfl⟩
   by_cases h5:X=[114,101,99,111,114,100]
   · subst h5
     go_enter Tryz.func164,Tryz.ntmps164;go_wp2_with (go_at_call 162;refine(bz _ _ hm).mono ?_;rintro e w1 ⟨rfl,rfl⟩);go_ret;exact⟨by rw[HE.out];rfl,rfl⟩
   by_cases h6:X=[111,110,101,111,102]
   · subst h6
     go_enter Tryz.func164,Tryz.ntmps164;go_wp2_with (go_at_call 162;refine(bz _ _ hm).mono ?_;rintro e w1 ⟨rfl,rfl⟩);go_ret;exact⟨by rw[HE.out];rfl,rfl⟩
   rw[show cU=[105,110,116] from rfl,if_neg h1,show aX=[98,111,111,108] from rfl,if_neg h2,show lH=[110,117,108,108] from rfl,if_neg h3,show fT=[97,114,114,97,121] from rfl,if_neg h4,show fP=[114,101,99,111,114,100] from rfl,if_neg h5,show gV=[111,110,101,111,102] from rfl,if_neg h6] at HE;have g1:=jt h1;have g2:=jt h2;have g3:=jt h3;have g4:=jt h4;have g5:=jt h5;have g6:=jt h6;clear h1 h2 h3 h4 h5 h6;go_enter Tryz.func164,Tryz.ntmps164;go_wp2_with (go_at_call 162;refine(bz _ _ hm).mono ?_;rintro e w1 ⟨rfl,rfl⟩);go_ret;exact⟨by rw[HE.out];rfl,rfl⟩
theorem zU {s:List UInt8} (h:(aq s).1=0):kE s=(aq s).2.k:=by
 rcases hq:aq s with⟨c,T⟩
 rw[hq] at h
 simp only at h
 subst h
 obtain⟨h1,h2,_,_⟩:=bE hq
 rw[←h2,h1.kE]
theorem yH {s:List UInt8} (h:(aq s).1≠0):(aq s).2.k=0:=by
 rcases hq:aq s with⟨c,T⟩
 rw[hq] at h
 rw[(jR hq h).2]
set_option maxRecDepth 4000 in
theorem gP (s:List UInt8) (hm:s.length≤maxLen) (w:World):Calls Tryz.prog 128 #[str s] w λe w'=>e=.returned (.tuple #[.int .u8 (aq s).2.k,.int .i64 (aq s).1])∧Below w.heap.size w w':=by
 have hC:=eN s hm w
 have hk:=@zU s
 have hk0:=@yH s
 generalize (aq s).1=C at hC hk hk0 ⊢
 generalize (aq s).2.k=K at hk hk0 ⊢
 by_cases hc:C=0
 · subst hc
   have HK:=Lib.hid (hk rfl);clear hk hk0;go_enter Tryz.func128,Tryz.ntmps128;go_wp2_with (first
    | (go_at_call 84;refine hC.mono ?_;clear hC;rintro e w1 ⟨rfl,ay⟩)
    | (go_at_call 164;refine(mh s hm _).mono ?_;rintro e w2 ⟨rfl,rfl⟩))
   go_ret2;exact⟨by rw[HK.out];rfl,ay⟩
 · obtain rfl:=hk0 hc
   obtain⟨g1,g2⟩:=bC hc;clear hc hk hk0;go_enter Tryz.func128,Tryz.ntmps128;go_wp2_with (go_at_call 84;refine hC.mono ?_;clear hC;rintro e w1 ⟨rfl,ay⟩);go_ret2;exact⟨rfl,ay⟩
theorem E9 {s:List UInt8} {k:Nat} (hk:k<s.length) (h:gC s=gC (s.drop k)) (hc:s[k]≠63):gC s=gC (s.drop (k+1)):=by
 rw[h,List.drop_eq_getElem_cons hk,rA _ _ hc]
theorem Ii {s:List UInt8} {k:Nat} (hk:k<s.length) (h:gC s=gC (s.drop k)) (hc:s[k]=63):gC s=true:=by
 rw[h,List.drop_eq_getElem_cons hk]
 simp[gC,hc]
set_option maxRecDepth 4000 in
theorem Dz (s:List UInt8) (hm:s.length≤maxLen) (w:World):Calls Tryz.prog 85 #[str s] w λe w'=>e=.returned (.bool (gC s))∧w=w':=by
 unfold maxLen at hm
 go_enter Tryz.func85,Tryz.ntmps85
 go_wp2_with fail
 go_loop [3] (λi=>∃k:Nat,k≤s.length∧Hid (gC s=gC (s.drop k))∧i=.int .i64 k) (λi=>s.length - (intOf i).toNat)
 case atStart=>exact⟨0,by omega,rfl,rfl⟩
 case round =>
  obtain⟨k,hk,HN,rfl⟩:=hrel
  by_cases hlt:k<s.length
  · by_cases hc:s[k]=63
    · have HS:=Lib.hid (Ii hlt HN.out hc)
      have g:(((s[k]).toNat:Int)==63)=true:=by rw[hc];rfl
      clear hc;go_wp2_with fail;go_ret;exact⟨cC HS.out.symm,rfl⟩
    · have HS:=Lib.hid (E9 hlt HN.out hc)
      have g:(((s[k]).toNat:Int)==63)=false:=by rw[beq_eq_false_iff_ne];exact oS (d:=63) hc
      clear hc;go_wp2_with fail
      go_round
      case rel=>exact⟨k+1,by omega,HS.out,by go_num⟩
      case measure=>simp[intOf];omega
  · have HS:=Lib.hid (show gC s=false by rw[HN.out,List.drop_of_length_le (by omega)];rfl)
    go_wp2_with fail;go_ret;exact⟨cC HS.out.symm,rfl⟩
theorem Df {s:List UInt8} (h:(aq s).1=0):eW s=gC s:=by
 rcases hq:aq s with⟨c,T⟩
 have h':=h
 rw[hq] at h'
 simp only at h'
 subst h'
 obtain⟨h1,h2,_,_⟩:=bE hq
 unfold eW
 rw[if_pos h,hq,←h2,h1.gC]
set_option maxRecDepth 4000 in
theorem rL (s:List UInt8) (hm:s.length≤maxLen) (w:World):Calls Tryz.prog 34 #[str s] w λe w'=>e=.returned (.tuple #[.bool (eW s),.int .i64 (aq s).1])∧Below w.heap.size w w':=by
 have hC:=eN s hm w
 have hO:=λW=>Dz s hm W
 have hk:=@Df s
 have hk0:(aq s).1≠0→eW s=false:=λh=>by unfold eW;rw[if_neg h]
 generalize (aq s).1=C at hC hk hk0 ⊢
 generalize eW s=O at hk hk0 ⊢
 by_cases hc:C=0
 · subst hc
   obtain rfl:=hk rfl;clear hk hk0;generalize gC s=O at hO ⊢;cases O
   all_goals
    go_enter Tryz.func34,Tryz.ntmps34;go_wp2_with (first
     | (go_at_call 84;refine hC.mono ?_;clear hC;rintro e w1 ⟨rfl,ay⟩)
     | (go_at_call 85;refine(hO _).mono ?_;clear hO;rintro e w2 ⟨rfl,rfl⟩))
    go_ret2;exact⟨rfl,ay⟩
 · obtain rfl:=hk0 hc
   obtain⟨g1,g2⟩:=bC hc;clear hc hk hk0;go_enter Tryz.func34,Tryz.ntmps34;go_wp2_with (go_at_call 84;refine hC.mono ?_;clear hC;rintro e w1 ⟨rfl,ay⟩);go_ret2;exact⟨rfl,ay⟩
end Go.Proofs.YtakgjcfkdemipaaGreatDoor
namespace Go.Proofs.YtakgjcfkdemipaaGreatDoor
open Go.RowKit
def AH (x:Nat):List Nat→Nat→Int
 | [],_=> -1
 | y::r,k=>if x=y then k else AH x r (k+1)
theorem Eh (x:Nat):∀(l:List Nat) (k:Nat),(0≤AH x l k)↔x∈l
 | [],k=>by simp[AH]
 | y::r,k=>by
  rw[AH];split
  · rename_i h;subst h;simp
  · rename_i h;rw[Eh x r (k+1)];simp[h]
theorem IU (x:Nat):∀(l:List Nat) (k:Nat),-1≤AH x l k
 | [],k=>by simp[AH]
 | y::r,k=>by
  rw[AH];split
  · omega
  · exact IU x r (k+1)
set_option maxRecDepth 4000 in
theorem IK (l:List Nat) (x:Nat) (b c:Nat) (w:World) (hl:l.length≤100) (hc:∀j (h:j<l.length),w.cell? ⟨b,j,none⟩=some (.int .u8 l[j])):
 Calls Tryz.prog 271 #[.slice (some ⟨b,0,none⟩) l.length c,.int .u8 x] w λe w'=>e=.returned (.int .i64 (AH x l 0))∧Below w.heap.size w w':=by
 have HC:=Lib.hid hc
 clear hc
 go_enter Tryz.func271,Tryz.ntmps271
 go_wp2_with fail
 go_loop [8] (λa=>∃i:Nat,i≤l.length∧a=.int .i64 i∧Hid (AH x l 0=AH x (l.drop i) i)) (λa=>l.length - (intOf a).toNat)
 case atStart=>exact⟨0,Nat.zero_le _,rfl,rfl⟩
 case round=>
  obtain⟨i,hi,rfl,HI⟩:=hrel
  by_cases hlt:i<l.length
  case pos=>
   have c0:=HC.out i hlt;have hd:l.drop i=l[i]::l.drop (i+1):=List.drop_eq_getElem_cons hlt
   by_cases he:x=l[i]
   · have HS:=Lib.hid (show AH x l 0=i by rw[HI.out,hd,AH,if_pos he])
     have g:((x:Int)==(l[i]:Int))=true:=by rw[he];simp
     clear hd he;go_wp2_with fail;go_ret;exact⟨by rw[HS.out];rfl,Below.refl _ _⟩
   · have HS:=Lib.hid (show AH x l 0=AH x (l.drop (i+1)) (i+1) by rw[HI.out,hd,AH,if_neg he])
     have g:((x:Int)==(l[i]:Int))=false:=by rw[beq_eq_false_iff_ne];omega
     clear hd he;go_wp2_with fail
     go_round
     case rel=>exact⟨i+1,hlt,by go_num,HS.out⟩
     case measure=>simp[intOf];omega
  case neg=>
   have HS:=Lib.hid (show AH x l 0= -1 by rw[HI.out,List.drop_of_length_le (by omega)];rfl);go_wp2_with fail;go_ret;exact⟨by rw[HS.out];rfl,Below.refl _ _⟩
theorem z6 (l:List Nat) (x:Nat) (b c:Nat) (w:World) (hl:l.length≤100) (hc:∀j (h:j<l.length),w.cell? ⟨b,j,none⟩=some (.int .u8 l[j])) (q:Bool) (hq:l.contains x=q):
 Calls Tryz.prog 237 #[.slice (some ⟨b,0,none⟩) l.length c,.int .u8 x] w λe w'=>e=.returned (.bool q)∧Below w.heap.size w w':=by
 have hI:=IK l x b c w hl hc
 have hp:=Eh x l 0
 have hlo:=IU x l 0
 generalize AH x l 0=I at hI hp hlo
 cases q with
 | true=>
  have h0:decide (0≤I)=true:=by simpa using hp.2 (by simpa using hq)
  clear hp hq hc;go_enter Tryz.func237,Tryz.ntmps237;go_wp2_with (go_at_call 271;refine hI.mono ?_;rintro e w1 ⟨rfl,ay⟩);go_ret;exact⟨rfl,ay⟩
 | false=>
  have h0:decide (0≤I)=false:=by
   rw[decide_eq_false_iff_not];intro h;have:=hp.1 h;simp at hq;exact hq this
  clear hp hq hc;go_enter Tryz.func237,Tryz.ntmps237;go_wp2_with (go_at_call 271;refine hI.mono ?_;rintro e w1 ⟨rfl,ay⟩);go_ret;exact⟨rfl,ay⟩
def lX (s:List UInt8) (l:List Nat):Nat×Tr:=if(aq s).1=0 then(if l.contains (aq s).2.k then aq s else(30,⟨0,[],.nil⟩)) else aq s
def oV (w:World) (s:List UInt8) (l:List Nat) (e:Ending) (w':World):Prop:=
 ∃v,e=.returned (.tuple #[.agg #[.int .u8 (lX s l).2.k,str (lX s l).2.n,v],.int .i64 (lX s l).1])∧eX w' (λb=>w.heap.size≤b) (lX s l).2.sub v∧Below w.heap.size w w'
set_option maxRecDepth 4000 in
theorem Db (s:List UInt8) (l:List Nat) (b c:Nat) (hm:s.length≤maxLen) (w:World) (ht:fN w) (hl:l.length≤100) (hc:∀j (h:j<l.length),w.cell? ⟨b,j,none⟩=some (.int .u8 l[j])):
 Calls Tryz.prog 176 #[str s,.slice (some ⟨b,0,none⟩) l.length c] w (oV w s l):=by
 have hb0:=(Below.refl _ w).alloc (nl _) (.cells #[.int .u8 0,.string ⟨#[]⟩,.slice none 0 0] 174)
 have HC:=dW s hm _ (ht.below hb0 (nl _))
 unfold cH at HC
 have hL:∀W,Below w.heap.size w W→∀x q,l.contains x=q→Calls Tryz.prog 237 #[.slice (some ⟨b,0,none⟩) l.length c,.int .u8 x] W λe w'=>e=.returned (.bool q)∧Below W.heap.size W w':=
  λW hW x q hq=>z6 l x b c W hl (λj h=>Below.keep hW (hc j h)) q hq
 have HL:=Lib.hid hL
 clear hc hL hl
 rcases hq:aq s with⟨C,t⟩
 rw[hq] at HC
 simp only at HC
 by_cases h0:C=0
 · subst h0
   rcases hk:l.contains t.k with _|_
   · have HE:=Lib.hid (show lX s l=(30,⟨0,[],.nil⟩) by unfold lX;rw[hq];simp only[if_true];rw[hk];rfl)
     have HK:=Lib.hid hk;clear hq hk;go_enter Tryz.func176,Tryz.ntmps176;go_wp2_with (first
      | (go_at_call 157;refine HC.mono ?_;clear HC;rintro e w1 ⟨v,rfl,hv,ay⟩;obtain⟨p,cc,rfl,_⟩:=hv.shape;have r1:=λo=>dh o ((ay.block w.heap.size (by simp)).trans (heap_alloc_new w (.cells #[.int .u8 0,.string ⟨#[]⟩,.slice none 0 0] 174))))
      | (go_at_call 237;refine(HL.out _ ((hb0.trans (af ay (by simp))).alloc (by have:=ay.size;simp at this;omega) _) _ _ HK.out).mono ?_;rintro e w2 ⟨rfl,aA⟩;have r2:=(aA.block w.heap.size (by have:=ay.size;simp at this ⊢;omega)).trans (r1 _);have c0:=(ak r2 0).trans rfl;have c1:=(ak r2 1).trans rfl;have c2:=(ak r2 2).trans rfl;have f0:=aC r2 0;have f1:=aC r2 1;have f2:=aC r2 2;clear r1 r2))
     have hs1:=ay.size;simp only[World.size_alloc] at hs1;have aK:=((hb0.trans (af ay (by simp))).alloc (by omega) (.cells #[.int .u8 t.k,.string ⟨t.n.toArray⟩,.slice p t.sub.len cc] 174)).trans (af aA (by simp;omega));refine bodyPost_ret (v:=.tuple #[.agg #[.int .u8 0,str [],.slice none 0 0],.int .i64 30]) (by simp[results,Tryz.results176,go_sem,c0,c1,c2]) rfl ?_;unfold oV;rw[HE.out];exact⟨_,rfl,eX.nil _ _,((aK.setCell (p:=⟨w.heap.size,0,none⟩) (nl _) _).setCell (p:=⟨w.heap.size,1,none⟩) (nl _) _).setCell (p:=⟨w.heap.size,2,none⟩) (nl _) _⟩
   · have HE:=Lib.hid (show lX s l=(0,t) by unfold lX;rw[hq];simp only[if_true];rw[hk];rfl)
     have HK:=Lib.hid hk;clear hq hk;go_enter Tryz.func176,Tryz.ntmps176;go_wp2_with (first
      | (go_at_call 157;refine HC.mono ?_;clear HC;rintro e w1 ⟨v,rfl,hv,ay⟩;obtain⟨p,cc,rfl,_⟩:=hv.shape;have r1:=λo=>dh o ((ay.block w.heap.size (by simp)).trans (heap_alloc_new w (.cells #[.int .u8 0,.string ⟨#[]⟩,.slice none 0 0] 174))))
      | (go_at_call 237;refine(HL.out _ ((hb0.trans (af ay (by simp))).alloc (by have:=ay.size;simp at this;omega) _) _ _ HK.out).mono ?_;rintro e w2 ⟨rfl,aA⟩;have r2:=(aA.block w.heap.size (by have:=ay.size;simp at this ⊢;omega)).trans (r1 _);have c0:=(ak r2 0).trans rfl;have c1:=(ak r2 1).trans rfl;have c2:=(ak r2 2).trans rfl;have f0:=aC r2 0;have f1:=aC r2 1;have f2:=aC r2 2;have r4:=(aA.block w1.heap.size (by simp)).trans (heap_alloc_new w1 _);have d0:=(ak r4 0).trans rfl;have d1:=(ak r4 1).trans rfl;have d2:=(ak r4 2).trans rfl;clear r1 r2 r4))
     have hs1:=ay.size;simp only[World.size_alloc] at hs1;have aK:=((hb0.trans (af ay (by simp))).alloc (by omega) (.cells #[.int .u8 t.k,.string ⟨t.n.toArray⟩,.slice p t.sub.len cc] 174)).trans (af aA (by simp;omega));refine bodyPost_ret (v:=.tuple #[.agg #[.int .u8 t.k,str t.n,.slice p t.sub.len cc],.int .i64 0]) (by simp[results,Tryz.results176,go_sem,c0,c1,c2]) rfl ?_;unfold oV;rw[HE.out];refine⟨_,rfl,?_,((aK.setCell (p:=⟨w.heap.size,0,none⟩) (nl _) _).setCell (p:=⟨w.heap.size,1,none⟩) (nl _) _).setCell (p:=⟨w.heap.size,2,none⟩) (nl _) _⟩;have KV:=(hv.below (B:=w1.heap.size) ((Below.refl _ w1).alloc (nl _) (.cells #[.int .u8 t.k,.string ⟨t.n.toArray⟩,.slice p t.sub.len cc] 174)) (nl _)).below aA (nl _);have NQ:=KV.mono (D':=λb=>w.heap.size<b) λb hb _=>by simp only[World.size_alloc] at hb;show w.heap.size<b;omega
     exact(NQ.BD (λb hb=>Nat.ne_of_gt hb) _ _ _).mono λb hb _=>Nat.le_of_lt hb
 · have HE:=Lib.hid (show lX s l=(C,⟨0,[],.nil⟩) by
    unfold lX;rw[hq];simp only;rw[if_neg h0,(jR hq h0).2])
   obtain rfl:=(jR hq h0).2;obtain⟨g1,g2⟩:=bC h0;clear hq h0;go_enter Tryz.func176,Tryz.ntmps176;go_wp2_with (go_at_call 157;refine HC.mono ?_;clear HC;rintro e w1 ⟨v,rfl,hv,ay⟩;obtain⟨p,cc,rfl,_⟩:=hv.shape;have r1:=λo=>dh o ((ay.block w.heap.size (by simp)).trans (heap_alloc_new w (.cells #[.int .u8 0,.string ⟨#[]⟩,.slice none 0 0] 174)));have c0:=λo=>(ak (r1 o) 0).trans rfl;have c1:=λo=>(ak (r1 o) 1).trans rfl;have c2:=λo=>(ak (r1 o) 2).trans rfl;have f0:=λo=>aC (r1 o) 0;have f1:=λo=>aC (r1 o) 1;have f2:=λo=>aC (r1 o) 2;clear r1);have hs1:=ay.size;simp only[World.size_alloc] at hs1;have aK:=(hb0.trans (af ay (by simp))).alloc (by omega) (.cells #[.int .u8 0,.string ⟨#[]⟩,.slice p 0 cc] 174);refine bodyPost_ret (v:=.tuple #[.agg #[.int .u8 0,str [],.slice p 0 cc],.int .i64 C]) (by simp[results,Tryz.results176,go_sem,c0,c1,c2];rfl) rfl ?_;unfold oV;rw[HE.out];refine⟨_,rfl,?_,((aK.setCell (p:=⟨w.heap.size,0,none⟩) (nl _) _).setCell (p:=⟨w.heap.size,1,none⟩) (nl _) _).setCell (p:=⟨w.heap.size,2,none⟩) (nl _) _⟩;have KV:=hv.below (B:=w1.heap.size) ((Below.refl _ w1).alloc (nl _) (.cells #[.int .u8 0,.string ⟨#[]⟩,.slice p 0 cc] 174)) (nl _);have NQ:=KV.mono (D':=λb=>w.heap.size<b) λb hb _=>by simp only[World.size_alloc] at hb;show w.heap.size<b;omega
   exact(NQ.BD (λb hb=>Nat.ne_of_gt hb) _ _ _).mono λb hb _=>Nat.le_of_lt hb
end Go.Proofs.YtakgjcfkdemipaaGreatDoor
namespace Go.Proofs.YtakgjcfkdemipaaGreatDoor
open Go.RowKit
def Fo.first:Fo→Tr
 | .nil=>⟨0,[],.nil⟩
 | .cons _ k n sub _=>⟨k,n,sub⟩
theorem Fo.Hg {fo:Fo} {pn:List UInt8} {t:Tr} (h:fo.at 0=some (pn,t)):fo.first=t:=by
 cases fo with
 | nil=>simp[Fo.at] at h
 | cons wD k n sub rest=>simp only[Fo.at,Option.some.injEq,Prod.mk.injEq] at h;exact h.2
theorem Fo.ri {fo:Fo} (h:fo.len≠0):fo.first.txt.length≤fo.tx.length:=by
 cases fo with
 | nil=>simp[Fo.len] at h
 | cons pn k n sub rest=>
  have:=jL (Fo.cons pn k n sub rest).txt 0 (mS pn++(Tr.mk k n sub).txt) (by rw[show Fo.cons pn k n sub rest=.cons pn (Tr.mk k n sub).k (Tr.mk k n sub).n (Tr.mk k n sub).sub rest from rfl,Fo.qO];rfl);rw[List.length_append] at this
  show(Tr.mk k n sub).txt.length≤(ei _).length
  omega
theorem uJ {s:List UInt8} {l:List Nat} {t:Tr} (h:lX s l=(0,t)):aq s=(0,t)∧t.k∈l:=by
 unfold lX at h
 split at h
 · rename_i h0
   split at h
   · rename_i h1
     refine⟨h,?_⟩;rw[h] at h1
     simpa using h1
   · simp at h
 · rename_i h0
   rw[h] at h0;simp at h0
theorem Eo {s:List UInt8} {l:List Nat} {c:Nat} {t:Tr} (h:lX s l=(c,t)) (hc:c≠0):t=⟨0,[],.nil⟩:=by
 unfold lX at h
 split at h
 · rename_i h0
   split at h
   · rw[h] at h0;exact absurd h0 hc
   · simp only[Prod.mk.injEq] at h;exact h.2.symm
 · exact(jR h hc).2
def bQ (s:List UInt8):List UInt8×Bool×Nat:=if(lX s [4,7]).1=0∧(lX s [4,7]).2.sub.len≠0 then((lX s [4,7]).2.sub.first.txt,true,0) else([],false,(lX s [4,7]).1)
def dI (s:List UInt8):List UInt8×Nat:=((lX s [7]).2.n,(lX s [7]).1)
set_option maxRecDepth 4000 in
theorem uq (s:List UInt8) (hm:s.length≤maxLen) (w:World) (ht:fN w):Calls Tryz.prog 121 #[str s] w λe w'=>e=.returned (.tuple #[str (bQ s).1,.bool (bQ s).2.1,.int .i64 (bQ s).2.2])∧Below w.heap.size w w':=by
 have hb0:=(Below.refl _ w).alloc (nl _) (.cells #[.int .u8 4,.int .u8 7] 5)
 have bY:=heap_alloc_new w (.cells #[.int .u8 4,.int .u8 7] 5)
 have HC:=Db s [4,7] w.heap.size 2 hm _ (ht.below hb0 (nl _)) (by simp) (λj h=>by
  have h:j<2:=h;rcases(show j=0∨j=1 by omega) with rfl|rfl
  · exact(ak bY 0).trans rfl
  · exact(ak bY 1).trans rfl)
 clear bY
 unfold oV at HC
 unfold bQ
 rcases hq:lX s [4,7] with⟨C,t⟩
 rw[hq] at HC
 simp only at HC ⊢
 by_cases h0:C=0
 · subst h0
   obtain⟨hk,_⟩:=uJ hq;obtain⟨_,h2,h3,_⟩:=bE hk
   by_cases hz:t.sub.len=0
   · rw[if_neg (by omega)]
     have IG:((t.sub.len:Int)==0)=true:=by rw[hz];rfl
     clear hq hk h2 h3 hz;go_enter Tryz.func121,Tryz.ntmps121;go_wp2_with (go_at_call 176;refine HC.mono ?_;clear HC;rintro e w1 ⟨v,rfl,hv,ay⟩;obtain⟨p,cc,rfl,_⟩:=hv.shape);have hs1:=ay.size;simp only[World.size_alloc] at hs1
     go_ret3
     exact⟨rfl,(hb0.trans (af ay (by simp))).alloc (by omega) _⟩
   · rw[if_pos ⟨rfl,hz⟩]
     have hl:=Fo.ri hz;have hx:(Tr.txt ⟨t.k,t.n,t.sub⟩).length≤100:=by show t.txt.length≤100;rw[h2];exact h3
     rw[zw hz] at hx;simp only[List.length_append,List.length_cons] at hx;have h4:t.sub.first.txt.length≤1000000:=by omega
     have IG:((t.sub.len:Int)==0)=false:=jK hz;clear hq hk h2 h3 hl hx;go_enter Tryz.func121,Tryz.ntmps121;go_wp2_with (go_at_call 176;refine HC.mono ?_;clear HC;rintro e w1 ⟨v,rfl,hv,ay⟩;obtain⟨g,cc,pn,u,uv,rfl,_,hg,ha,c0,c1,c2,c3,hu⟩:=hv.at (i:=0) (by omega);obtain⟨pu,cu,rfl,_⟩:=hu.shape;obtain rfl:=Fo.Hg ha;clear ha hv;have d0:=λo=>Below.keep ((Below.refl _ w1).alloc (nl _) o) c0;have d1:=λo=>Below.keep ((Below.refl _ w1).alloc (nl _) o) c1;have d2:=λo=>Below.keep ((Below.refl _ w1).alloc (nl _) o) c2;have d3:=λo=>Below.keep ((Below.refl _ w1).alloc (nl _) o) c3;clear c0 c1 c2 c3);have hs1:=ay.size;simp only[World.size_alloc] at hs1;refine(gG t.sub.first _ _ _ (hu.below ((Below.refl _ w1).alloc (nl _) _) (nl _)) h4).mono ?_;rintro e w2 ⟨rfl,aA⟩;go_wp2_with fail
     go_ret3
     exact⟨rfl,((hb0.trans (af ay (by simp))).alloc (by omega) _).trans (af aA (by simp;omega))⟩
 · obtain⟨g1,g2⟩:=bC h0
   obtain rfl:=Eo hq h0;rw[if_neg (by simp[h0])];clear hq h0;go_enter Tryz.func121,Tryz.ntmps121;go_wp2_with (go_at_call 176;refine HC.mono ?_;clear HC;rintro e w1 ⟨v,rfl,hv,ay⟩;obtain⟨p,cc,rfl,_⟩:=hv.shape);have hs1:=ay.size;simp only[World.size_alloc] at hs1
   go_ret3
   exact⟨rfl,(hb0.trans (af ay (by simp))).alloc (by omega) _⟩
set_option maxRecDepth 4000 in
theorem xE (s:List UInt8) (hm:s.length≤maxLen) (w:World) (ht:fN w):Calls Tryz.prog 120 #[str s] w λe w'=>e=.returned (.tuple #[str (dI s).1,.int .i64 (dI s).2])∧Below w.heap.size w w':=by
 have hb0:=(Below.refl _ w).alloc (nl _) (.cells #[.int .u8 7] 5)
 have bY:=heap_alloc_new w (.cells #[.int .u8 7] 5)
 have HC:=Db s [7] w.heap.size 1 hm _ (ht.below hb0 (nl _)) (by simp) (λj h=>by
  have h:j<1:=h;rcases(show j=0 by omega) with rfl;exact(ak bY 0).trans rfl)
 clear bY
 unfold oV at HC
 unfold dI
 rcases hq:lX s [7] with⟨C,t⟩
 rw[hq] at HC
 simp only at HC ⊢
 clear hq
 go_enter Tryz.func120,Tryz.ntmps120
 go_wp2_with (go_at_call 176;refine HC.mono ?_;clear HC;rintro e w1 ⟨v,rfl,hv,ay⟩;obtain⟨p,cc,rfl,_⟩:=hv.shape)
 have hs1:=ay.size
 simp only[World.size_alloc] at hs1
 go_ret2
 exact⟨rfl,(hb0.trans (af ay (by simp))).alloc (by omega) _⟩
theorem j5 {n:List UInt8} (h:isName n=true):n.length≤12:=by
 cases n with
 | nil=>simp
 | cons c r=>simp only[isName,Bool.and_eq_true,decide_eq_true_eq] at h;exact h.1.1.1
theorem K8 (k:Nat) (n:List UInt8) (t:Tr):Tr.txt ⟨k,n,.one t⟩=cB k n++91::(t.txt++[93]):=by
 rw[zw (by simp[Fo.one,Fo.len]),←Tr.eT]
theorem xT (k:Nat) (n:List UInt8) (t:Tr):Tr.level ⟨k,n,.one t⟩=t.level+1:=by
 simp[Tr.level,Fo.one,Fo.level]
end Go.Proofs.YtakgjcfkdemipaaGreatDoor
namespace Go.Proofs.YtakgjcfkdemipaaGreatDoor
open Go.RowKit
def jC (s u:List UInt8):Tr×Tr×Nat:=if(aq s).1=0 then((aq s).2,(aq u).2,(aq u).1) else((aq s).2,⟨0,[],.nil⟩,(aq s).1)
def nO (w:World) (s u:List UInt8) (e:Ending) (w':World):Prop:=
 ∃va vb,e=.returned (.tuple #[.agg #[.int .u8 (jC s u).1.k,str (jC s u).1.n,va],.agg #[.int .u8 (jC s u).2.1.k,str (jC s u).2.1.n,vb],.int .i64 (jC s u).2.2])∧
  eX w' (λb=>w.heap.size+1<b) (jC s u).1.sub va∧eX w' (λb=>w.heap.size+1<b) (jC s u).2.1.sub vb∧Below w.heap.size w w'
structure lK (w:World) (a b:Tr) (va vb:Value) (W:World):Prop where
 ra:W.heap[w.heap.size]? =some (.cells #[.int .u8 a.k,str a.n,va] 174 (0,0))
 rb:W.heap[w.heap.size+1]? =some (.cells #[.int .u8 b.k,str b.n,vb] 174 (0,0))
 fa:eX W (λb=>w.heap.size+1<b) a.sub va
 fb:eX W (λb=>w.heap.size+1<b) b.sub vb
 oD:Below w.heap.size w W
theorem BE {W:World} {B:Nat} {x0 x1 x2:Value} {t:TypeId} {z:Nat×Nat} (h:W.heap[B]? =some (.cells #[x0,x1,x2] t z)) (a b c:Value):
 (((W.setCell ⟨B,0,none⟩ a).setCell ⟨B,1,none⟩ b).setCell ⟨B,2,none⟩ c).heap[B]? =some (.cells #[a,b,c] t z):=ep (ep (ep h 0 a) 1 b) 2 c
theorem vA {W:World} {B k:Nat} (h:k≠B) (a b c:Value):(((W.setCell ⟨B,0,none⟩ a).setCell ⟨B,1,none⟩ b).setCell ⟨B,2,none⟩ c).heap[k]? =W.heap[k]? :=by
 rw[Below.heap_setCell _ _ _ _ h,Below.heap_setCell _ _ _ _ h,Below.heap_setCell _ _ _ _ h]
theorem vz {B' B:Nat} {w W:World} (h:Below B' w W) (hB:B'≤B) (a b c:Value):Below B' w (((W.setCell ⟨B,0,none⟩ a).setCell ⟨B,1,none⟩ b).setCell ⟨B,2,none⟩ c):=
 ((h.setCell (p:=⟨B,0,none⟩) hB a).setCell (p:=⟨B,1,none⟩) hB b).setCell (p:=⟨B,2,none⟩) hB c
theorem qK {W:World} {D:Nat→Prop} {fo:Fo} {v:Value} {B:Nat} (h:eX W D fo v) (hD:∀b,D b→b≠B) (x y z:Value):eX (((W.setCell ⟨B,0,none⟩ x).setCell ⟨B,1,none⟩ y).setCell ⟨B,2,none⟩ z) D fo v:=
 h.kept λb hb _=>vA (hD b hb) x y z
theorem lK.JA {w:World} {a b a':Tr} {va vb Vv:Value} {W:World} (h:lK w a b va vb W) (hv:eX W (λb=>w.heap.size+1<b) a'.sub Vv):
 lK w a' b Vv vb (((W.setCell ⟨w.heap.size,0,none⟩ (.int .u8 a'.k)).setCell ⟨w.heap.size,1,none⟩ (str a'.n)).setCell ⟨w.heap.size,2,none⟩ Vv):=
 ⟨BE h.ra _ _ _,(vA (by omega) _ _ _).trans h.rb,qK hv (λb hb=>by omega) _ _ _,qK h.fb (λb hb=>by omega) _ _ _,vz h.oD (nl _) _ _ _⟩
theorem lK.N4 {w:World} {a b b':Tr} {va vb SJ:Value} {W:World} (h:lK w a b va vb W) (hv:eX W (λb=>w.heap.size+1<b) b'.sub SJ):
 lK w a b' va SJ (((W.setCell ⟨w.heap.size+1,0,none⟩ (.int .u8 b'.k)).setCell ⟨w.heap.size+1,1,none⟩ (str b'.n)).setCell ⟨w.heap.size+1,2,none⟩ SJ):=
 ⟨(vA (by omega) _ _ _).trans h.ra,BE h.rb _ _ _,qK h.fa (λb hb=>by omega) _ _ _,qK hv (λb hb=>by omega) _ _ _,vz h.oD (by omega) _ _ _⟩
theorem lK.below {w:World} {a b:Tr} {va vb:Value} {W W':World} (h:lK w a b va vb W) (hb:Below W.heap.size W W'):lK w a b va vb W':=
 ⟨(hb.block _ (Array.getElem?_eq_some_iff.1 h.ra).1).trans h.ra,(hb.block _ (Array.getElem?_eq_some_iff.1 h.rb).1).trans h.rb,h.fa.below hb (nl _),h.fb.below hb (nl _),h.oD.trans (af hb h.oD.size)⟩
theorem lK.drew {w:World} {a b:Tr} {va vb:Value} {W:World} (h:lK w a b va vb W):lK w a b va vb W.drew:=h.below (Below.refl _ _).drew
abbrev Kk (w:World) (a b:Tr) (va vb:Value) (W:World):Prop:=
 (W.cell? ⟨w.heap.size,0,none⟩=some (.int .u8 a.k)∧W.cell? ⟨w.heap.size,1,none⟩=some (str a.n)∧W.cell? ⟨w.heap.size,2,none⟩=some va)∧
 (W.frozen? ⟨w.heap.size,0,none⟩=false∧W.frozen? ⟨w.heap.size,1,none⟩=false∧W.frozen? ⟨w.heap.size,2,none⟩=false)∧
 (W.cell? ⟨w.heap.size+1,0,none⟩=some (.int .u8 b.k)∧W.cell? ⟨w.heap.size+1,1,none⟩=some (str b.n)∧W.cell? ⟨w.heap.size+1,2,none⟩=some vb)∧
 (W.frozen? ⟨w.heap.size+1,0,none⟩=false∧W.frozen? ⟨w.heap.size+1,1,none⟩=false∧W.frozen? ⟨w.heap.size+1,2,none⟩=false)∧lK w a b va vb W
theorem lK.c {w:World} {a b:Tr} {va vb:Value} {W:World} (h:lK w a b va vb W):Kk w a b va vb W:=
 ⟨⟨(ak h.ra 0).trans rfl,(ak h.ra 1).trans rfl,(ak h.ra 2).trans rfl⟩,⟨aC h.ra 0,aC h.ra 1,aC h.ra 2⟩,⟨(ak h.rb 0).trans rfl,(ak h.rb 1).trans rfl,(ak h.rb 2).trans rfl⟩,⟨aC h.rb 0,aC h.rb 1,aC h.rb 2⟩,h⟩
theorem Kk.a {w:World} {a b:Tr} {va vb:Value} {W:World} (h:Kk w a b va vb W):Kk w a b va vb (((W.setCell ⟨w.heap.size,0,none⟩ (.int .u8 a.k)).setCell ⟨w.heap.size,1,none⟩ (str a.n)).setCell ⟨w.heap.size,2,none⟩ va):=
 (h.2.2.2.2.JA h.2.2.2.2.fa).c
set_option maxRecDepth 4000 in
theorem Ol (s u:List UInt8) (ms:s.length≤maxLen) (mu:u.length≤maxLen) (w:World) (ht:fN w) (hc:(aq s).1=0):Calls Tryz.prog 185 #[str s,str u] w (nO w s u):=by
 have HT:=Lib.hid (show jC s u=((aq s).2,(aq u).2,(aq u).1) by unfold jC;rw[if_pos hc])
 have yA:=λW h=>dW s ms W h
 have LB:=λW h=>dW u mu W h
 unfold cH at yA LB
 rcases hq:aq s with⟨c,t⟩
 rcases hr:aq u with⟨d,x⟩
 rw[hq] at yA HT hc
 rw[hr] at LB HT
 simp only at yA LB HT hc
 subst hc
 have H1:=Lib.hid yA
 have H2:=Lib.hid LB
 clear hq hr yA LB
 have hb0:=((Below.refl _ w).alloc (nl _) (.cells #[.int .u8 0,.string ⟨#[]⟩,.slice none 0 0] 174)).alloc (by simp) (.cells #[.int .u8 0,.string ⟨#[]⟩,.slice none 0 0] 174)
 have H6:lK w ⟨0,[],.nil⟩ ⟨0,[],.nil⟩ (.slice none 0 0) (.slice none 0 0) ((w.alloc (.cells #[.int .u8 0,.string ⟨#[]⟩,.slice none 0 0] 174)).alloc (.cells #[.int .u8 0,.string ⟨#[]⟩,.slice none 0 0] 174)):=
  ⟨aH _ (heap_alloc_new w _),dD (by simp) _ _,eX.nil _ _,eX.nil _ _,hb0⟩
 have hz0:((w.alloc (.cells #[.int .u8 0,.string ⟨#[]⟩,.slice none 0 0] 174)).alloc (.cells #[.int .u8 0,.string ⟨#[]⟩,.slice none 0 0] 174)).heap.size=w.heap.size+2:=by simp
 have CO:=ht.below hb0 (nl _)
 go_enter Tryz.func185,Tryz.ntmps185
 go_wp2_with fail
 refine(H1.out _ CO).mono ?_
 rintro e w1 ⟨va,rfl,Ay,ay⟩
 generalize (w.alloc (.cells #[.int .u8 0,.string ⟨#[]⟩,.slice none 0 0] 174)).alloc (.cells #[.int .u8 0,.string ⟨#[]⟩,.slice none 0 0] 174)=W0 at *
 obtain⟨pa,ca,rfl,_⟩:=Ay.shape
 have xb:=H6.below ay
 have CP:eX w1 (λb=>w.heap.size+1<b) t.sub (.slice pa t.sub.len ca):=Ay.mono λb hb _=>by have hb:W0.heap.size≤b:=hb;omega
 have Sn:=xb.JA CP
 have ht2:=ht.below Sn.oD (nl _)
 have c0:=(ak xb.ra 0).trans rfl
 have c1:=(ak xb.ra 1).trans rfl
 have c2:=(ak xb.ra 2).trans rfl
 have f0:=aC xb.ra 0
 have f1:=aC xb.ra 1
 have f2:=aC xb.ra 2
 have hz1:=Sn.oD.size
 have hzz:w.heap.size+2≤(((w1.setCell ⟨w.heap.size,0,none⟩ (.int .u8 t.k)).setCell ⟨w.heap.size,1,none⟩ (str t.n)).setCell ⟨w.heap.size,2,none⟩ (.slice pa t.sub.len ca)).heap.size:=by have:=ay.size;simp[World.setCell];omega
 clear H6 hb0 xb Ay CP ay
 go_wp2_with fail
 refine(H2.out _ ht2).mono ?_
 rintro e w3 ⟨vb,rfl,hvb,aK⟩
 generalize ((w1.setCell ⟨w.heap.size,0,none⟩ (.int .u8 t.k)).setCell ⟨w.heap.size,1,none⟩ (str t.n)).setCell ⟨w.heap.size,2,none⟩ (.slice pa t.sub.len ca)=W2 at *
 obtain⟨pb,cb,rfl,_⟩:=hvb.shape
 have Mg:=Sn.below aK
 have H7:=Mg.N4 (b':=x) (SJ:=.slice pb x.sub.len cb) (hvb.mono λb hb _=>by have hb:W2.heap.size≤b:=hb;omega)
 have e0:=(ak Mg.rb 0).trans rfl
 have e1:=(ak Mg.rb 1).trans rfl
 have e2:=(ak Mg.rb 2).trans rfl
 have g0:=aC Mg.rb 0
 have g1:=aC Mg.rb 1
 have g2:=aC Mg.rb 2
 clear c0 c1 c2 f0 f1 f2 Sn Mg hvb aK ht2 CO
 go_wp2_with fail
 generalize ((w3.setCell ⟨w.heap.size+1,0,none⟩ (.int .u8 x.k)).setCell ⟨w.heap.size+1,1,none⟩ (str x.n)).setCell ⟨w.heap.size+1,2,none⟩ (.slice pb x.sub.len cb)=W4 at *
 have hC:=H7.drew.c
 have KE:=H7.JA H7.fa
 have E1:=KE.drew.c
 have Qj:=KE.N4 KE.fb
 have Hv:=Qj.drew.c
 clear KE Qj
 clear e0 e1 e2 g0 g1 g2
 obtain⟨⟨k0,k1,k2⟩,⟨k3,k4,k5⟩,⟨m0,m1,m2⟩,⟨m3,m4,m5⟩,_⟩:=H7.c
 clear H7
 go_region_held3 (λW=>(W.cell? ⟨w.heap.size,0,none⟩=some (.int .u8 t.k)∧W.cell? ⟨w.heap.size,1,none⟩=some (str t.n)∧W.cell? ⟨w.heap.size,2,none⟩=some (.slice pa t.sub.len ca))∧
  (W.frozen? ⟨w.heap.size,0,none⟩=false∧W.frozen? ⟨w.heap.size,1,none⟩=false∧W.frozen? ⟨w.heap.size,2,none⟩=false)∧
  (W.cell? ⟨w.heap.size+1,0,none⟩=some (.int .u8 x.k)∧W.cell? ⟨w.heap.size+1,1,none⟩=some (str x.n)∧W.cell? ⟨w.heap.size+1,2,none⟩=some (.slice pb x.sub.len cb))∧
  (W.frozen? ⟨w.heap.size+1,0,none⟩=false∧W.frozen? ⟨w.heap.size+1,1,none⟩=false∧W.frozen? ⟨w.heap.size+1,2,none⟩=false)∧lK w t x (.slice pa t.sub.len ca) (.slice pb x.sub.len cb) W)
  (with_reducible (first|exact hC|exact E1|exact Hv|assumption)) (fail)
 rename_i TM
 clear TM
 clear hC E1 k0 k1 k2 k3 k4 k5 m0 m1 m2 m3 m4 m5
 generalize World.drew _=WF at *
 obtain⟨⟨q0,q1,q2⟩,_,⟨r0,r1,r2⟩,_,hP⟩:=Hv
 go_wp2_with fail
 refine bodyPost_ret (v:=.tuple #[.agg #[.int .u8 t.k,str t.n,.slice pa t.sub.len ca],.agg #[.int .u8 x.k,str x.n,.slice pb x.sub.len cb],.int .i64 d]) (by simp[results,Tryz.results185,go_sem,q0,q1,q2,r0,r1,r2]) rfl ?_
 unfold nO
 rw[HT.out]
 exact⟨_,_,rfl,hP.fa,hP.fb,hP.oD⟩
set_option maxRecDepth 4000 in
theorem Oj (s u:List UInt8) (ms:s.length≤maxLen) (w:World) (ht:fN w) (hc:(aq s).1≠0):Calls Tryz.prog 185 #[str s,str u] w (nO w s u):=by
 obtain⟨z,hz⟩:∃z:Tr,z=⟨0,[],.nil⟩:=⟨_,rfl⟩
 have HT:=Lib.hid (show jC s u=((aq s).2,z,(aq s).1) by unfold jC;rw[if_neg hc,hz])
 have yA:=λW h=>dW s ms W h
 unfold cH at yA
 rcases hq:aq s with⟨d,t⟩
 rw[hq] at yA HT hc
 simp only at yA HT hc
 obtain⟨z1,z2⟩:=bC hc
 have H1:=Lib.hid yA
 clear hq yA hc
 have hb0:=((Below.refl _ w).alloc (nl _) (.cells #[.int .u8 0,.string ⟨#[]⟩,.slice none 0 0] 174)).alloc (by simp) (.cells #[.int .u8 0,.string ⟨#[]⟩,.slice none 0 0] 174)
 have H6:lK w z z (.slice none 0 0) (.slice none 0 0) ((w.alloc (.cells #[.int .u8 0,.string ⟨#[]⟩,.slice none 0 0] 174)).alloc (.cells #[.int .u8 0,.string ⟨#[]⟩,.slice none 0 0] 174)):=
  by subst hz;exact⟨aH _ (heap_alloc_new w _),dD (by simp) _ _,eX.nil _ _,eX.nil _ _,hb0⟩
 have HZ:=Lib.hid hz
 clear hz
 have hz0:((w.alloc (.cells #[.int .u8 0,.string ⟨#[]⟩,.slice none 0 0] 174)).alloc (.cells #[.int .u8 0,.string ⟨#[]⟩,.slice none 0 0] 174)).heap.size=w.heap.size+2:=by simp
 have CO:=ht.below hb0 (nl _)
 go_enter Tryz.func185,Tryz.ntmps185
 go_wp2_with fail
 refine(H1.out _ CO).mono ?_
 rintro e w1 ⟨va,rfl,Ay,ay⟩
 generalize (w.alloc (.cells #[.int .u8 0,.string ⟨#[]⟩,.slice none 0 0] 174)).alloc (.cells #[.int .u8 0,.string ⟨#[]⟩,.slice none 0 0] 174)=W0 at *
 obtain⟨pa,ca,rfl,_⟩:=Ay.shape
 have xb:=H6.below ay
 have CP:eX w1 (λb=>w.heap.size+1<b) t.sub (.slice pa t.sub.len ca):=Ay.mono λb hb _=>by have hb:W0.heap.size≤b:=hb;omega
 have H7:=xb.JA CP
 have c0:=(ak xb.ra 0).trans rfl
 have c1:=(ak xb.ra 1).trans rfl
 have c2:=(ak xb.ra 2).trans rfl
 have f0:=aC xb.ra 0
 have f1:=aC xb.ra 1
 have f2:=aC xb.ra 2
 clear H6 hb0 xb Ay CP ay
 go_wp2_with fail
 generalize ((w1.setCell ⟨w.heap.size,0,none⟩ (.int .u8 t.k)).setCell ⟨w.heap.size,1,none⟩ (str t.n)).setCell ⟨w.heap.size,2,none⟩ (.slice pa t.sub.len ca)=W4 at *
 clear c0 c1 c2 f0 f1 f2 CO
 have hC:=H7.drew.c
 have KE:=H7.JA H7.fa
 have E1:=KE.drew.c
 have Qj:=KE.N4 KE.fb
 have Hv:=Qj.drew.c
 clear KE Qj
 obtain⟨⟨k0,k1,k2⟩,⟨k3,k4,k5⟩,⟨m0,m1,m2⟩,⟨m3,m4,m5⟩,_⟩:=H7.c
 clear H7
 go_region_held3 (λW=>(W.cell? ⟨w.heap.size,0,none⟩=some (.int .u8 t.k)∧W.cell? ⟨w.heap.size,1,none⟩=some (str t.n)∧W.cell? ⟨w.heap.size,2,none⟩=some (.slice pa t.sub.len ca))∧
  (W.frozen? ⟨w.heap.size,0,none⟩=false∧W.frozen? ⟨w.heap.size,1,none⟩=false∧W.frozen? ⟨w.heap.size,2,none⟩=false)∧
  (W.cell? ⟨w.heap.size+1,0,none⟩=some (.int .u8 z.k)∧W.cell? ⟨w.heap.size+1,1,none⟩=some (str z.n)∧W.cell? ⟨w.heap.size+1,2,none⟩=some (.slice none 0 0))∧
  (W.frozen? ⟨w.heap.size+1,0,none⟩=false∧W.frozen? ⟨w.heap.size+1,1,none⟩=false∧W.frozen? ⟨w.heap.size+1,2,none⟩=false)∧lK w t z (.slice pa t.sub.len ca) (.slice none 0 0) W)
  (with_reducible (first|exact hC|exact E1|exact Hv|assumption)) (fail)
 rename_i TM
 clear TM
 clear hC E1 k0 k1 k2 k3 k4 k5 m0 m1 m2 m3 m4 m5
 generalize World.drew _=WF at *
 obtain⟨⟨q0,q1,q2⟩,_,⟨r0,r1,r2⟩,_,hP⟩:=Hv
 go_wp2_with fail
 refine bodyPost_ret (v:=.tuple #[.agg #[.int .u8 t.k,str t.n,.slice pa t.sub.len ca],.agg #[.int .u8 z.k,str z.n,.slice none 0 0],.int .i64 d]) (by simp[results,Tryz.results185,go_sem,q0,q1,q2,r0,r1,r2]) rfl ?_
 unfold nO
 rw[HT.out]
 exact⟨_,_,rfl,hP.fa,hP.fb,hP.oD⟩
theorem Lt (s u:List UInt8) (ms:s.length≤maxLen) (mu:u.length≤maxLen) (w:World) (ht:fN w):Calls Tryz.prog 185 #[str s,str u] w (nO w s u):=by
 by_cases hc:(aq s).1=0
 · exact Ol s u ms mu w ht hc
 · exact Oj s u ms w ht hc
end Go.Proofs.YtakgjcfkdemipaaGreatDoor
namespace Go.Proofs.YtakgjcfkdemipaaGreatDoor
open Go.RowKit
theorem Gl (a:List UInt8):∀(n:Nat) (s:List UInt8),s.length≤n→(subst a s).length≤s.length * (a.length+1):=by
 intro n
 induction n with
 | zero=>intro s h;have:s=[]:=List.length_eq_zero_iff.1 (by omega);subst this;simp[subst]
 | succ n ih=>
  intro s h
  match s,h with
  | [],_=>simp[subst]
  | [c],_=>
   rw[subst];split
   · simp
   · simp
  | c::d::r,h=>
   rw[subst];simp only[List.length_cons] at h;split
   · have:=ih r (by omega)
     simp only[List.length_append,List.length_cons,Nat.add_mul] at this ⊢;omega
   · have:=ih (d::r) (by simp only[List.length_cons];omega)
     simp only[List.length_cons,Nat.add_mul] at this ⊢;omega
theorem FV {t a:Tr} (ht:t.ok) (hl:t.txt.length≤100) (ha:a.txt.length≤100):(t.put a).txt.length≤1000000:=by
 rw[←ht.subst]
 have h:=Gl a.txt _ t.txt (nl _)
 have:t.txt.length * (a.txt.length+1)≤100 * 101:=Nat.mul_le_mul hl (by omega)
 omega
def aQ (s u:List UInt8):List UInt8×Nat:=if(jC s u).2.2=0 then ij ((jC s u).1.put (jC s u).2.1) else([],(jC s u).2.2)
theorem zu {s u:List UInt8} {t a:Tr} (h:jC s u=(t,a,0)):aq s=(0,t)∧aq u=(0,a):=by
 unfold jC at h
 rcases hq:aq s with⟨c,x⟩
 rcases hr:aq u with⟨d,y⟩
 rw[hq,hr] at h
 simp only at h
 split at h
 · rename_i e
   simp only[Prod.mk.injEq] at h;obtain⟨rfl,rfl,rfl⟩:=h;subst e;exact⟨rfl,rfl⟩
 · rename_i e
   simp only[Prod.mk.injEq] at h;exact absurd h.2.2 e
set_option maxRecDepth 4000 in
theorem xI (s u:List UInt8) (ms:s.length≤maxLen) (mu:u.length≤maxLen) (w:World) (ht:fN w):
 Calls Tryz.prog 123 #[str s,str u] w λe w'=>e=.returned (.tuple #[str (aQ s u).1,.int .i64 (aQ s u).2])∧Below w.heap.size w w':=by
 have HC:=Lt s u ms mu w ht
 unfold nO at HC
 unfold aQ
 rcases hq:jC s u with⟨t,a,c⟩
 rw[hq] at HC
 simp only at HC ⊢
 by_cases hc:c=0
 · subst hc
   obtain⟨h1,h2⟩:=zu hq;obtain⟨ot,et,lt,vt⟩:=bE h1;obtain⟨oa,ea,la,va⟩:=bE h2;have GG:t.txt.length≤100:=by rw[et];exact lt
   have hps:=FV ot GG (by rw[ea];exact la);have hpl:(t.put a).level≤1000:=by have:=Tr.lG a t;omega
   have U3:t.txt.length≤1000000:=by omega
   clear hq h1 h2 et ea lt la vt va;go_enter Tryz.func123,Tryz.ntmps123;go_wp2_with fail;refine HC.mono ?_;clear HC;rintro e w1 ⟨v1,v2,rfl,xz,qV,ay⟩;obtain⟨p1,c1,rfl,_⟩:=xz.shape;obtain⟨p2,c2,rfl,_⟩:=qV.shape;have mQ:=((Below.refl _ w1).alloc (nl _) (.cells #[.int .u8 t.k,str t.n,.slice p1 t.sub.len c1] 174)).alloc (by simp) (.cells #[.int .u8 a.k,str a.n,.slice p2 a.sub.len c2] 174);have hw1:=xz.below mQ (nl _);have ZH:=qV.below mQ (nl _);have hz:=ay.size;have Cc:=ay.trans (af mQ hz);clear mQ xz qV;go_wp2_with fail;refine(JX t a U3 _ _ _ _ hw1 ZH).mono ?_;rintro e w2 ⟨v',rfl,KU,aA⟩;obtain⟨p3,c3,rfl,_⟩:=KU.shape;go_wp2_with fail;refine(JT (t.put a) hps hpl _ _ _ KU).mono ?_;rintro e w3 ⟨rfl,aK⟩;go_wp2_with fail;go_ret2;exact⟨rfl,(Cc.trans (af aA (by simp;omega))).trans (af aK (by have:=aA.size;simp at this;omega))⟩
 · obtain⟨z1,z2⟩:=bC hc
   have HZ:=Lib.hid hc;clear hq hc;go_enter Tryz.func123,Tryz.ntmps123;go_wp2_with fail;refine HC.mono ?_;clear HC;rintro e w1 ⟨v1,v2,rfl,xz,qV,ay⟩;obtain⟨p1,c1,rfl,_⟩:=xz.shape;obtain⟨p2,c2,rfl,_⟩:=qV.shape;go_wp2_with fail;go_ret2;refine⟨?_,(ay.alloc ay.size _).alloc (by have:=ay.size;simp;omega) _⟩
   rfl
end Go.Proofs.YtakgjcfkdemipaaGreatDoor
namespace Go.Proofs.YtakgjcfkdemipaaGreatDoor
theorem Fo.zv (pn:List UInt8) (k:Nat) (n:List UInt8) (sub rest:Fo):(Fo.one ⟨k,n,sub⟩).tx.length≤(Fo.cons pn k n sub rest).tx.length∧sub.tx.length≤(Fo.one ⟨k,n,sub⟩).tx.length∧rest.tx.length≤(Fo.cons pn k n sub rest).tx.length:=by
 have h1:(Fo.one ⟨k,n,sub⟩).tx=cB k n++sub.br:=Fo.dR k n sub
 have h2:sub.tx.length≤sub.br.length:=by
  cases sub with
  | nil=>simp[Fo.tx,Fo.txt,ei]
  | cons=>rw[Fo.jG (by simp)];simp only[List.length_cons,List.length_append,List.length_nil];omega
 by_cases hr:rest=.nil
 · subst hr
   rw[Fo.jr,show(Fo.cons [] k n sub Fo.nil)=Fo.one ⟨k,n,sub⟩ from rfl,h1];simp only[List.length_append];refine⟨by omega,by omega,by simp[Fo.tx,Fo.txt,ei]⟩
 · rw[Fo.js _ _ _ _ _ hr,show(Fo.cons [] k n sub Fo.nil)=Fo.one ⟨k,n,sub⟩ from rfl,h1]
   simp only[List.length_append,List.length_cons];omega
end Go.Proofs.YtakgjcfkdemipaaGreatDoor
namespace Go.Proofs.YtakgjcfkdemipaaGreatDoor
open Go.RowKit
structure MN (w:World) (P B:Nat) (t a:Tr) (v1:Value) (wr:World) (wt xt:Tr):Prop where
 rp:wr.heap[P]? =some (.cells #[.int .u8 t.k,str t.n,v1] 174 (0,0))
 fp:eX wr (λb=>b<B) t.sub v1
 ra:∃p c,wr.heap[B]? =some (.cells #[.int .u8 xt.k,str xt.n,.slice p xt.sub.len c] 174 (0,0))∧eX wr (λb=>b<B) xt.sub (.slice p xt.sub.len c)
 rw_:∃p c,wr.heap[B+1]? =some (.cells #[.int .u8 wt.k,str wt.n,.slice p wt.sub.len c] 174 (0,0))∧eX wr (λb=>b<B) wt.sub (.slice p wt.sub.len c)
 oD:Below w.heap.size w wr
 hP:P<B
 hB:w.heap.size≤B
 pS:wt.pS=true
 eq:t.find a=wt.find xt
theorem MN.below {w:World} {P B:Nat} {t a:Tr} {v1:Value} {wr wr':World} {wt xt:Tr} (h:MN w P B t a v1 wr wt xt) (hb:Below wr.heap.size wr wr'):MN w P B t a v1 wr' wt xt:=by
 obtain⟨pa,ca,h1,h2⟩:=h.ra
 obtain⟨pw,cw,h3,h4⟩:=h.rw_
 exact⟨(hb.block _ (Array.getElem?_eq_some_iff.1 h.rp).1).trans h.rp,h.fp.below hb (nl _),⟨pa,ca,(hb.block _ (Array.getElem?_eq_some_iff.1 h1).1).trans h1,h2.below hb (nl _)⟩,
  ⟨pw,cw,(hb.block _ (Array.getElem?_eq_some_iff.1 h3).1).trans h3,h4.below hb (nl _)⟩,h.oD.trans (af hb h.oD.size),h.hP,h.hB,h.pS,h.eq⟩
end Go.Proofs.YtakgjcfkdemipaaGreatDoor
