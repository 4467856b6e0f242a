/-
  Lemmas for the statement: contract: of the package face: (scope).good. Conditions: bounds of lengths; the variable strings.asciiSpace.
-/
import Derived.Test.YtakgjcfkdemipaaGreatDoorZBn
import Derived.Test.YtakgjcfkdemipaaGreatDoorZB23
set_option maxHeartbeats 25600000
namespace Go.Proofs.YtakgjcfkdemipaaGreatDoor
open Go.RowKit
theorem Ej {c:bw} {t:List UInt8} {x:aL} {l:List aL} (h:Bd c t x=false):dZ c (x::l) t=dZ c l t:=by
 unfold dZ
 rw[List.find?_cons_of_neg (by simp[h])]
theorem oC {c:bw} {t:List UInt8} {x:aL} {l:List aL} (h:Bd c t x=true):dZ c (x::l) t=some x.name:=by
 unfold dZ
 rw[List.find?_cons_of_pos h]
 rfl
set_option maxRecDepth 8000 in
theorem ua {D D' : Nat → Prop} (c : bw) (v : Value) (want : List aL) (wv : Value) (t : List UInt8) (w : World) (hv : ScopeM D w v c) (hw : aY D' w wv want) (qW : ∀ o ∈ want, o.sig.args.length ≤ 100000 ∧ o.sig.sigs.length ≤ 100000) (hty : Di t) (hro : sR c t) (hT : dW w) (ha : mB c.dG) (hn : c.ag.length ≤ 100000) (hk : want ≠ [] → 1 ≤ (aq t).2.k ∧ (aq t).2.k ≤ 8) :
 Calls Tryz.prog 79 #[v,wv,str t] w λe w'=>e=.returned (.tuple #[str ((dZ c want t).getD []),.bool (dZ c want t).isSome])∧Below w.heap.size w w':=by
 have BC:=zh (λW (hW:Below w.heap.size w W) (n:List UInt8) (hne:want≠[])=>Ep c v t n W (hv.below hW zr) hty hro (hT.below hW zr) ha hn (hk hne))
 have OQ:=zh (λW (hW:Below w.heap.size w W) (D0:Nat→Prop) (u:Value) (x:aL) (hx:x∈want) (hs:aT D0 W u x.sig)=>Bk u x.sig t W (hT.below hW zr) hs (qW x hx).1 (qW x hx).2 hty.1)
 obtain⟨m,q,cq,rfl⟩:=hv.shape
 obtain⟨p,cw,rfl,_,hm,_⟩:=hw.shape
 unfold maxLen at hm
 have bT:=heap_alloc_new w (.cells #[.map (some m),.slice q c.ag.length cq,.bool c.par] 86)
 have hA:=(zb w).alloc zr (.cells #[.map (some m),.slice q c.ag.length cq,.bool c.par] 86)
 clear hv qW hty hro hT ha hk
 go_enter Tryz.func79,Tryz.ntmps79
 go_wp2_with fail
 go_loopw [16] (λa wr=>∃i:Nat,i≤want.length∧a=.int .i64 i∧Below w.heap.size w wr∧wr.heap[w.heap.size]? =some (.cells #[.map (some m),.slice q c.ag.length cq,.bool c.par] 86 (0,0))∧Hid (dZ c want t=dZ c (want.drop i) t)) (λa _=>want.length - (intOf a).toNat)
 case atStart=>exact⟨0,Nat.zero_le _,by go_num,hA,bT,rfl⟩
 case round =>
  clear hA bT;obtain⟨i,hi,rfl,hb,iu,hL⟩:=hrel
  by_cases hlt:i<want.length
  case neg=>
   have HX:=zh (show dZ c want t=none by rw[hL.out,List.drop_eq_nil_of_le (by omega)];rfl);clear hL;go_wp2_with fail;go_ret2;rw[HX.out];exact⟨rfl,hb⟩
  case pos =>
   obtain⟨x,hkx⟩:∃x,want[i]? =some x:=⟨_,List.getElem?_eq_getElem hlt⟩
   have hmem:=List.mem_of_getElem? hkx;have hne:want≠[]:=by intro e;rw[e] at hlt;simp at hlt
   obtain⟨b1,o1,av,sv,rfl,_,⟨_,mI⟩,fe,eE,uq,pG,od,pZ,rK⟩:=(hw.below hb zr).at hkx;obtain⟨pa,ca,rfl,_⟩:=fe.shape;obtain⟨ps,cs,rfl,_⟩:=eE.shape;have hd:=hL.out;rw[bp hkx] at hd;clear hL hkx;have GV:=heap_alloc_new wr (.cells #[str x.name,.bool x.sig.iter,.slice pa x.sig.args.length ca,str x.sig.res,.slice ps x.sig.sigs.length cs] 79);have hE:=(zb wr).alloc zr (.cells #[str x.name,.bool x.sig.iter,.slice pa x.sig.args.length ca,str x.sig.res,.slice ps x.sig.sigs.length cs] 79);have au:=hb.trans (af hE hb.size);have sx:=fe.below hE zr;have sy:=eE.below hE zr;have dI:=ah iu hE;have bs:=eZ dI;have bn:=(bz GV).1;have HO:=BC.out _ au x.name hne;have hlk:Bd c t x=(decide ((ng c t x.name).2≠0)||decide ((eF x.sig t).2≠0)|| !pK (ng c t x.name).1 (eF x.sig t).1):=rfl;have HP:=λW hW D0 u hs=>OQ.out W hW D0 u x hmem hs
   have bT:=iu;clear OQ BC hmem;generalize ng c t x.name=OI at *;generalize eF x.sig t=PK at *
   by_cases h0:OI.2=0
   case neg=>
    obtain⟨g1,g2⟩:=bK h0;have HX:=zh (hd.trans (oC (hlk.trans (by simp[h0]))));clear hd hlk h0;go_wp2_with (first
     | (go_at_call 64;refine(HP _ mS D' _ ⟨_,_,rfl,mI,(sx.below aH zr).below tC zr,(sy.below aH zr).below tC zr⟩).mono ?_;rintro e w4 ⟨u4,rfl,⟨a4,q4,rfl,l4,r4,s4⟩,hb4⟩;obtain⟨p4,c4,rfl,_⟩:=r4.shape;obtain⟨Ah,zk,rfl,_⟩:=s4.shape;have qN:=mS.trans (af hb4 mS.size);have nE:=(zb w4).alloc zr (.cells #[.bool PK.1.iter,.slice p4 PK.1.args.length c4,(.string ⟨PK.1.res.toArray⟩),.slice Ah PK.1.sigs.length zk] 36);have uW:=qN.alloc qN.size (.cells #[.bool PK.1.iter,.slice p4 PK.1.args.length c4,(.string ⟨PK.1.res.toArray⟩),.slice Ah PK.1.sigs.length zk] 36);have M5:=(aN (heap_alloc_new w4 (.cells #[.bool PK.1.iter,.slice p4 PK.1.args.length c4,(.string ⟨PK.1.res.toArray⟩),.slice Ah PK.1.sigs.length zk] 36))).1;have Io:=(aN (ah (ah Im hb4) nE)).1;have BQ:=ah (ah pS hb4) nE;have MF:=(bz BQ).1)
     | (go_at_call 72;refine HO.mono ?_;clear HO;rintro e w3 ⟨u3,rfl,⟨a3,q3,rfl,l3,r3,s3⟩,aH⟩;obtain⟨p3,c3,rfl,_⟩:=r3.shape;obtain⟨Ag,zj,rfl,_⟩:=s3.shape;have pS:=ah GV aH;have ME:=(bz pS).1;have qM:=au.trans (af aH au.size);have tC:=(zb w3).alloc zr (.cells #[.bool OI.1.iter,.slice p3 OI.1.args.length c3,(.string ⟨OI.1.res.toArray⟩),.slice Ag OI.1.sigs.length zj] 36);have mS:=qM.alloc qM.size (.cells #[.bool OI.1.iter,.slice p3 OI.1.args.length c3,(.string ⟨OI.1.res.toArray⟩),.slice Ag OI.1.sigs.length zj] 36);have Im:=heap_alloc_new w3 (.cells #[.bool OI.1.iter,.slice p3 OI.1.args.length c3,(.string ⟨OI.1.res.toArray⟩),.slice Ag OI.1.sigs.length zj] 36);have pS:=ah pS tC;have Ig:=(bz pS).1))
    go_ret2;rw[HX.out];exact⟨rfl,uW⟩
   case pos =>
    by_cases h1:PK.2=0
    case neg=>
     obtain⟨g1,g2⟩:=bK h1;have HX:=zh (hd.trans (oC (hlk.trans (by simp[h1]))));clear hd hlk h1;go_wp2_with (first
      | (go_at_call 64;refine(HP _ mS D' _ ⟨_,_,rfl,mI,(sx.below aH zr).below tC zr,(sy.below aH zr).below tC zr⟩).mono ?_;rintro e w4 ⟨u4,rfl,⟨a4,q4,rfl,l4,r4,s4⟩,hb4⟩;obtain⟨p4,c4,rfl,_⟩:=r4.shape;obtain⟨Ah,zk,rfl,_⟩:=s4.shape;have qN:=mS.trans (af hb4 mS.size);have nE:=(zb w4).alloc zr (.cells #[.bool PK.1.iter,.slice p4 PK.1.args.length c4,(.string ⟨PK.1.res.toArray⟩),.slice Ah PK.1.sigs.length zk] 36);have uW:=qN.alloc qN.size (.cells #[.bool PK.1.iter,.slice p4 PK.1.args.length c4,(.string ⟨PK.1.res.toArray⟩),.slice Ah PK.1.sigs.length zk] 36);have M5:=(aN (heap_alloc_new w4 (.cells #[.bool PK.1.iter,.slice p4 PK.1.args.length c4,(.string ⟨PK.1.res.toArray⟩),.slice Ah PK.1.sigs.length zk] 36))).1;have Io:=(aN (ah (ah Im hb4) nE)).1;have BQ:=ah (ah pS hb4) nE;have MF:=(bz BQ).1)
      | (go_at_call 72;refine HO.mono ?_;clear HO;rintro e w3 ⟨u3,rfl,⟨a3,q3,rfl,l3,r3,s3⟩,aH⟩;obtain⟨p3,c3,rfl,_⟩:=r3.shape;obtain⟨Ag,zj,rfl,_⟩:=s3.shape;have pS:=ah GV aH;have ME:=(bz pS).1;have qM:=au.trans (af aH au.size);have tC:=(zb w3).alloc zr (.cells #[.bool OI.1.iter,.slice p3 OI.1.args.length c3,(.string ⟨OI.1.res.toArray⟩),.slice Ag OI.1.sigs.length zj] 36);have mS:=qM.alloc qM.size (.cells #[.bool OI.1.iter,.slice p3 OI.1.args.length c3,(.string ⟨OI.1.res.toArray⟩),.slice Ag OI.1.sigs.length zj] 36);have Im:=heap_alloc_new w3 (.cells #[.bool OI.1.iter,.slice p3 OI.1.args.length c3,(.string ⟨OI.1.res.toArray⟩),.slice Ag OI.1.sigs.length zj] 36);have pS:=ah pS tC;have Ig:=(bz pS).1))
     go_ret2;rw[HX.out];exact⟨rfl,uW⟩
    case pos=>
     rcases hB:pK OI.1 PK.1 with _|_
     · have HX:=zh (hd.trans (oC (hlk.trans (by simp[hB]))))
       clear hd hlk;go_wp2_with (first
        | (go_at_call 139;refine(tr OI.1 PK.1 _ _ _ ⟨_,_,rfl,l3,((r3.below tC zr).below hb4 zr).below nE zr,((s3.below tC zr).below hb4 zr).below nE zr⟩ ⟨_,_,rfl,l4,r4.below nE zr,s4.below nE zr⟩).mono ?_;rintro e w5 ⟨rfl,eT⟩;rw[hB];have QL:=(bz (ah BQ eT)).1;have Iu:=uW.trans (af eT uW.size))
        | (go_at_call 64;refine(HP _ mS D' _ ⟨_,_,rfl,mI,(sx.below aH zr).below tC zr,(sy.below aH zr).below tC zr⟩).mono ?_;rintro e w4 ⟨u4,rfl,⟨a4,q4,rfl,l4,r4,s4⟩,hb4⟩;obtain⟨p4,c4,rfl,_⟩:=r4.shape;obtain⟨Ah,zk,rfl,_⟩:=s4.shape;have qN:=mS.trans (af hb4 mS.size);have nE:=(zb w4).alloc zr (.cells #[.bool PK.1.iter,.slice p4 PK.1.args.length c4,(.string ⟨PK.1.res.toArray⟩),.slice Ah PK.1.sigs.length zk] 36);have uW:=qN.alloc qN.size (.cells #[.bool PK.1.iter,.slice p4 PK.1.args.length c4,(.string ⟨PK.1.res.toArray⟩),.slice Ah PK.1.sigs.length zk] 36);have M5:=(aN (heap_alloc_new w4 (.cells #[.bool PK.1.iter,.slice p4 PK.1.args.length c4,(.string ⟨PK.1.res.toArray⟩),.slice Ah PK.1.sigs.length zk] 36))).1;have Io:=(aN (ah (ah Im hb4) nE)).1;have BQ:=ah (ah pS hb4) nE;have MF:=(bz BQ).1)
        | (go_at_call 72;refine HO.mono ?_;clear HO;rintro e w3 ⟨u3,rfl,⟨a3,q3,rfl,l3,r3,s3⟩,aH⟩;obtain⟨p3,c3,rfl,_⟩:=r3.shape;obtain⟨Ag,zj,rfl,_⟩:=s3.shape;have pS:=ah GV aH;have ME:=(bz pS).1;have qM:=au.trans (af aH au.size);have tC:=(zb w3).alloc zr (.cells #[.bool OI.1.iter,.slice p3 OI.1.args.length c3,(.string ⟨OI.1.res.toArray⟩),.slice Ag OI.1.sigs.length zj] 36);have mS:=qM.alloc qM.size (.cells #[.bool OI.1.iter,.slice p3 OI.1.args.length c3,(.string ⟨OI.1.res.toArray⟩),.slice Ag OI.1.sigs.length zj] 36);have Im:=heap_alloc_new w3 (.cells #[.bool OI.1.iter,.slice p3 OI.1.args.length c3,(.string ⟨OI.1.res.toArray⟩),.slice Ag OI.1.sigs.length zj] 36);have pS:=ah pS tC;have Ig:=(bz pS).1))
       go_ret2;rw[HX.out];exact⟨rfl,Iu⟩
     · have HX:=zh (hd.trans (Ej (hlk.trans (by simp[hB,h0,h1]))))
       clear hd hlk;go_wp2_with (first
        | (go_at_call 139;refine(tr OI.1 PK.1 _ _ _ ⟨_,_,rfl,l3,((r3.below tC zr).below hb4 zr).below nE zr,((s3.below tC zr).below hb4 zr).below nE zr⟩ ⟨_,_,rfl,l4,r4.below nE zr,s4.below nE zr⟩).mono ?_;rintro e w5 ⟨rfl,eT⟩;rw[hB];have QL:=(bz (ah BQ eT)).1;have Iu:=uW.trans (af eT uW.size))
        | (go_at_call 64;refine(HP _ mS D' _ ⟨_,_,rfl,mI,(sx.below aH zr).below tC zr,(sy.below aH zr).below tC zr⟩).mono ?_;rintro e w4 ⟨u4,rfl,⟨a4,q4,rfl,l4,r4,s4⟩,hb4⟩;obtain⟨p4,c4,rfl,_⟩:=r4.shape;obtain⟨Ah,zk,rfl,_⟩:=s4.shape;have qN:=mS.trans (af hb4 mS.size);have nE:=(zb w4).alloc zr (.cells #[.bool PK.1.iter,.slice p4 PK.1.args.length c4,(.string ⟨PK.1.res.toArray⟩),.slice Ah PK.1.sigs.length zk] 36);have uW:=qN.alloc qN.size (.cells #[.bool PK.1.iter,.slice p4 PK.1.args.length c4,(.string ⟨PK.1.res.toArray⟩),.slice Ah PK.1.sigs.length zk] 36);have M5:=(aN (heap_alloc_new w4 (.cells #[.bool PK.1.iter,.slice p4 PK.1.args.length c4,(.string ⟨PK.1.res.toArray⟩),.slice Ah PK.1.sigs.length zk] 36))).1;have Io:=(aN (ah (ah Im hb4) nE)).1;have BQ:=ah (ah pS hb4) nE;have MF:=(bz BQ).1)
        | (go_at_call 72;refine HO.mono ?_;clear HO;rintro e w3 ⟨u3,rfl,⟨a3,q3,rfl,l3,r3,s3⟩,aH⟩;obtain⟨p3,c3,rfl,_⟩:=r3.shape;obtain⟨Ag,zj,rfl,_⟩:=s3.shape;have pS:=ah GV aH;have ME:=(bz pS).1;have qM:=au.trans (af aH au.size);have tC:=(zb w3).alloc zr (.cells #[.bool OI.1.iter,.slice p3 OI.1.args.length c3,(.string ⟨OI.1.res.toArray⟩),.slice Ag OI.1.sigs.length zj] 36);have mS:=qM.alloc qM.size (.cells #[.bool OI.1.iter,.slice p3 OI.1.args.length c3,(.string ⟨OI.1.res.toArray⟩),.slice Ag OI.1.sigs.length zj] 36);have Im:=heap_alloc_new w3 (.cells #[.bool OI.1.iter,.slice p3 OI.1.args.length c3,(.string ⟨OI.1.res.toArray⟩),.slice Ag OI.1.sigs.length zj] 36);have pS:=ah pS tC;have Ig:=(bz pS).1))
       exact⟨⟨i+1,by omega,by go_num,Iu,ah (ah (ah (ah (ah dI aH) tC) hb4) nE) eT,HX⟩,by simp only[intOf];omega⟩
theorem El {s:List UInt8} (h:(aq s).1=0):s.length≤100:=by
 rcases hq:aq s with⟨c,T⟩
 rw[hq] at h
 simp only at h
 subst h
 exact(bC hq).2.2.1
theorem CU {t:List UInt8} (h:(aq t).1=0):Di t:=by
 have hm:∀n,n≤100→n≤maxLen:=λn hn=>by unfold maxLen;omega
 refine⟨hm _ (El h),?_,?_,Nat.le_trans gZ.2.2 (by decide),λx hx=>⟨Nat.le_trans (iT (gZ.1 x hx).1) (by decide),hm _ (El (gZ.1 x hx).2)⟩⟩
 · unfold bQ
   split
   · rename_i h1
     rcases hq:mz t [4,7] with⟨c,T⟩;rw[hq] at h1;simp only at h1 ⊢;obtain⟨rfl,h2⟩:=h1;obtain⟨o1,e1,l1,_⟩:=bC (rH hq).1;have h3:=Fo.ou h2;have h4:=(Fo.vQ [] T.k T.n T.sub .nil).2.1;have h5:(Fo.one ⟨T.k,T.n,T.sub⟩).tx.length=T.txt.length:=by rw[Tr.eA]
     rw[e1] at h5;exact hm _ (by omega)
   · unfold maxLen;simp
 · by_cases h7:(aq t).2.k=7
   · exact hm _ (sU h h7).2.2.1
   · unfold eH
     rcases hq:mz t [7] with⟨c,T⟩
     by_cases hc:c=0
     · subst hc
       have:=rH hq;rw[this.1] at h7;simp at this;exact absurd this.2 h7
     · rw[Bh hq hc]
       unfold maxLen;simp
def gh (c:bw):Prop:=mB c.dG∧c.ag.length≤100000∧(∀f∈c.dG,∀o∈f.ag,o.sig.args.length≤100000∧o.sig.sigs.length≤100000)∧∀t,(aq t).1=0→sR c t
def AO (D:Nat→Prop) (c:bw) (n:Nat):Prop:=
 ∀(v:Value) (t:List UInt8) (w:World),ScopeM D w v c→t.length≤maxLen→jy t<n→dW w→Calls Tryz.prog 59 #[v,str t] w λe w'=>e=.returned (.int .i64 (ff c n t))∧Below w.heap.size w w'
def wQ (c:bw) (n:Nat) (want:List aL) (t:List UInt8):Bool:= !((decide (want≠[])&&decide (ff c n t≠0))||(dZ c want t).isSome)
set_option maxRecDepth 8000 in
theorem qH {D D':Nat→Prop} (c:bw) (k:Nat) (hG:AO D c k) (iw:gh c) (v:Value) (want:List aL) (wv:Value) (t:List UInt8) (w:World) (hv:ScopeM D w v c) (hw:aY D' w wv want) (qW:∀o∈want,o.sig.args.length≤100000∧o.sig.sigs.length≤100000) (zD:(aq t).1=0) (SD:jy t<k) (hT:dW w):
 Calls Tryz.prog 76 #[v,wv,str t] w λe w'=>e=.returned (.bool (wQ c k want t))∧Below w.heap.size w w':=by
 have hty:=CU zD
 have hkk:=gl zD
 obtain⟨m,q,cq,rfl⟩:=hv.shape
 have bT:=heap_alloc_new w (.cells #[.map (some m),.slice q c.ag.length cq,.bool c.par] 86)
 have hA:=(zb w).alloc zr (.cells #[.map (some m),.slice q c.ag.length cq,.bool c.par] 86)
 have HL:=λW (hW:Below w.heap.size w W)=>ua c _ want wv t W (hv.below hW zr) (hw.below hW zr) qW hty (iw.2.2.2 t zD) (hT.below hW zr) iw.1 iw.2.1 (λ_=>hkk)
 have HG:=hG _ t _ (hv.below hA zr) hty.1 SD (hT.below hA zr)
 obtain⟨p,cw,rfl,_,hm,_⟩:=hw.shape
 unfold maxLen at hm
 have hw0:(decide (want≠[]))=decide (0<want.length):=by cases want<;>simp
 have bs:=eZ bT
 have hfn:wQ c k want t= !((decide (want≠[])&&decide (ff c k t≠0))||(dZ c want t).isSome):=rfl
 rw[hw0] at hfn
 generalize wQ c k want t=FN at *
 generalize ff c k t=GN at *
 generalize Ry:dZ c want t=LK at *
 clear Ry hw0 hG iw hv hw qW hty hkk hT
 by_cases h0:0<want.length
 · by_cases hg:GN=0
   · subst hg
     have HX:=zh (show FN= !LK.isSome by rw[hfn];simp);clear hfn;cases LK
     all_goals
      dsimp only[Option.getD_none,Option.isSome_none,Option.getD_some,Option.isSome_some] at HL HX;go_enter Tryz.func76,Tryz.ntmps76;go_wp2_with (first
       | (go_at_call 79;refine(HL _ bL).mono ?_;rintro e w2 ⟨rfl,aC⟩)
       | (go_at_call 59;refine HG.mono ?_;clear HG;rintro e w1 ⟨rfl,au⟩;have TG:=eZ (ah bT au);have bL:=hA.trans (af au (by simp))))
      go_ret;rw[HX.out];exact⟨rfl,bL.trans (af aC bL.size)⟩
   · obtain⟨g1,g2⟩:=bK hg
     have HX:=zh (show FN=false by rw[hfn];simp[h0,hg]);clear hfn hg;go_enter Tryz.func76,Tryz.ntmps76;go_wp2_with (go_at_call 59;refine HG.mono ?_;clear HG;rintro e w1 ⟨rfl,au⟩;have bL:=hA.trans (af au (by simp)));go_ret;rw[HX.out];exact⟨rfl,bL⟩
 · have HX:=zh (show FN= !LK.isSome by rw[hfn];simp[h0])
   obtain rfl:want=[]:=List.length_eq_zero_iff.1 (by omega);clear hfn h0;simp only[List.length_nil] at HL hm ⊢;cases LK
   all_goals
    dsimp only[Option.getD_none,Option.isSome_none,Option.getD_some,Option.isSome_some] at HL HX;go_enter Tryz.func76,Tryz.ntmps76;go_wp2_with (go_at_call 79;refine(HL _ hA).mono ?_;rintro e w2 ⟨rfl,aC⟩);go_ret;rw[HX.out];exact⟨rfl,hA.trans (af aC (by simp))⟩
theorem jl {e:Nat} {l:List Nat} (h:e=0):dY (e::l)=dY l:=by rw[dY,if_pos h]
theorem gG {e:Nat} {l:List Nat} (h:e≠0):dY (e::l)=e:=by rw[dY,if_neg h]
theorem Cp {c:bw} {r:List UInt8→Nat} {u:List UInt8} (h:(aq u).2.k≠7):gm c r u=0:=by unfold gm;rw[if_neg h]
theorem rF {c:bw} {r:List UInt8→Nat} {u:List UInt8} (h:(aq u).2.k=7) (hf:ew c.dG (eH u).1=none):gm c r u=5:=by unfold gm;rw[if_pos h,hf]
theorem iG {c:bw} {r:List UInt8→Nat} {u:List UInt8} {f:aA} (h:(aq u).2.k=7) (hf:ew c.dG (eH u).1=some f) (hx:¬(f.kind=3∧(bQ u).2.1=f.par)):gm c r u=5:=by unfold gm;rw[if_pos h,hf];simp only;rw[if_neg hx]
theorem zZ {c:bw} {r:List UInt8→Nat} {u:List UInt8} {f:aA} (h:(aq u).2.k=7) (hf:ew c.dG (eH u).1=some f) (h3:f.kind=3) (hp:f.par=false) (ha:(bQ u).2.1=false):gm c r u=0:=by
 unfold gm
 rw[if_pos h,hf]
 simp only
 rw[if_pos ⟨h3,by rw[hp,ha]⟩,if_neg (by rw[ha];simp)]
theorem Co {c:bw} {n:Nat} {u:List UInt8} {f:aA} (h:(aq u).2.k=7) (hf:ew c.dG (eH u).1=some f) (h3:f.kind=3) (hp:f.par=true) (ha:(bQ u).2.1=true):gm c (ff c n) u=if wQ c n f.ag (bQ u).1=true then 0 else 41:=by
 unfold gm wQ
 rw[if_pos h,hf]
 simp only
 rw[if_pos ⟨h3,by rw[hp,ha]⟩,ha]
 by_cases h1:f.ag=[]<;>by_cases h2:ff c n (bQ u).1=0<;>cases (dZ c f.ag (bQ u).1).isSome<;>simp[h1,h2]
set_option maxRecDepth 8000 in
theorem BO {D:Nat→Prop} (c:bw) (n:Nat) (hG:AO D c n) (iw:gh c):AO D c (n+1):=by
 intro v t w hv htl KP hT
 have HV:=zh (λW (hW:Below w.heap.size w W)=>hv.below hW zr)
 have HT:=zh (λW (hW:Below w.heap.size w W)=>hT.below hW zr)
 obtain⟨m,nv,rfl,hs,hN⟩:=hv
 have HS:=zh (λW (hW:Below w.heap.size w W)=>hs.below hW zr)
 obtain⟨q,cq,rfl,_⟩:=hN.shape
 have bT:=heap_alloc_new w (.cells #[.map (some m),.slice q c.ag.length cq,.bool c.par] 86)
 have hA:=(zb w).alloc zr (.cells #[.map (some m),.slice q c.ag.length cq,.bool c.par] 86)
 have HC:=zM t htl _ (HT.out _ hA)
 clear hs hN hT
 by_cases h0:(aq t).1=0
 case neg=>
  obtain⟨g1,g2⟩:=bK h0;have HX:=zh (show ff c (n+1) t=(aq t).1 by rw[ff,if_pos h0]);clear h0;generalize (aq t).1=C at *;generalize ff c (n+1) t=GN at *;go_enter Tryz.func59,Tryz.ntmps59;go_wp2_with fail
  go_step3
  go_wp2_with (go_at_call 116;refine HC.mono ?_;clear HC;rintro e w1 ⟨rfl,au⟩);try rw[Exit.noGoto_ret]
  go_ret;rw[HX.out];exact⟨rfl,hA.trans (af au (by simp))⟩
 case pos =>
  obtain⟨hi2,hil,NO⟩:=zL h0
  by_cases ho:eM t=true∧c.par=false
  case pos=>
   obtain⟨jW,zz⟩:=ho;have HX:=zh (show ff c (n+1) t=43 by rw[ff,if_neg (by simp[h0]),if_pos ⟨jW,zz⟩]);have BC:=λW hW=>lY t htl W (HT.out W hW)
   rw[jW,h0] at BC;rw[h0] at HC;generalize ff c (n+1) t=GN at *;rw[zz] at bT hA HV HC;simp only[zz];clear h0 jW zz hi2 hil NO;go_enter Tryz.func59,Tryz.ntmps59;go_wp2_with fail
   go_step3
   go_wp2_with (first
    | (go_at_call 117;refine(BC _ bL).mono ?_;clear BC;rintro e w2 ⟨rfl,aC⟩;have GP:=eZ (ah dI aC))
    | (go_at_call 116;refine HC.mono ?_;clear HC;rintro e w1 ⟨rfl,au⟩;have dI:=ah bT au;have bL:=hA.trans (af au (by simp))))
   try rw[Exit.noGoto_ret]
   go_ret;rw[HX.out];exact⟨rfl,bL.trans (af aC bL.size)⟩
  case neg =>
   have HX:=zh (show ff c (n+1) t=dY ((cT t).1.map (gm c (ff c n))) by rw[ff,if_neg (by simp[h0]),if_neg ho]);have BC:=λW hW=>lY t htl W (HT.out W hW)
   have LI:=λW hW=>xE t htl W (HT.out W hW)
   rw[h0] at HC BC;generalize ff c (n+1) t=GN at *;unfold di at LI;rw[hi2] at LI;generalize (cT t).1=l at *;have PA:eM t=false∨c.par=true:=by cases h1:eM t<;>cases h2:c.par<;>simp_all
   clear ho h0 hi2;generalize eM t=O at *;have HK:=λ(u:List UInt8) (hu:u.length≤maxLen) W hW=>tW u hu W (HT.out W hW)
   have KG:O=false∨(O=true∧c.par=true):=by rcases PA with h|h;exact .inl h;cases O;exact .inl rfl;exact .inr ⟨rfl,h⟩
   clear PA;rcases KG with rfl|⟨rfl,N2⟩
   all_goals
    try rw[N2] at bT hA HC ⊢
    go_enter Tryz.func59,Tryz.ntmps59;go_wp2_with fail
    go_step3
    go_wp2_with (first
     | (go_at_call 118;refine(LI _ cD).mono ?_;clear LI;rintro e w3 ⟨vl,rfl,hown,aH⟩;obtain⟨pl,cl,rfl⟩:=bu hown;have fW:=ah fS aH;have dx:=cD.trans (af aH cD.size))
     | (go_at_call 117;refine(BC _ bL).mono ?_;clear BC;rintro e w2 ⟨rfl,aC⟩;have fS:=ah dI aC;have GP:=eZ fS;have cD:=bL.trans (af aC bL.size))
     | (go_at_call 116;refine HC.mono ?_;clear HC;rintro e w1 ⟨rfl,au⟩;have dI:=ah bT au;have bL:=hA.trans (af au (by simp))))
    go_step3
    go_wp2_with fail;try rw[←N2] at fW
    try clear N2
    have yT:SS (λ_=>True) w3 (.slice pl l.length cl) l:=SS.bH hown (λs hs=>Nat.le_trans (NO s hs).2.1 (by decide)) (λ_ _=>trivial);have zw:=fW;have DA:=dx;clear hown fW dx fS dI bL cD au aC aH GP hA bT;go_loopw [10,45] (λo y wr=>o=.int .i64 0∧∃i:Nat,i≤l.length∧y=.int .i64 i∧Below w.heap.size w wr∧wr.heap[w.heap.size]? =some (.cells #[.map (some m),.slice q c.ag.length cq,.bool c.par] 86 (0,0))∧SS (λ_=>True) wr (.slice pl l.length cl) l∧Hid (dY (l.map (gm c (ff c n)))=dY ((l.drop i).map (gm c (ff c n))))) (λ_ y _=>l.length - (intOf y).toNat)
    case atStart=>exact⟨rfl,0,Nat.zero_le _,by go_num,DA,zw,yT,rfl⟩
    case round =>
     clear zw DA yT;obtain⟨rfl,i,hi,rfl,hb,iu,yT,hE⟩:=hrel
     by_cases hlt:i<l.length
     case neg=>
      have HY:=zh (show GN=0 by rw[HX.out,hE.out,List.drop_eq_nil_of_le (by omega)];rfl);clear hE;go_wp2_with fail;try rw[Exit.noGoto_ret]
      go_ret;rw[HY.out];exact⟨rfl,hb⟩
     case pos =>
      obtain⟨u,F1⟩:∃u,l[i]? =some u:=⟨_,List.getElem?_eq_getElem hlt⟩
      obtain⟨SF,Cd,huv⟩:=NO u (List.mem_of_getElem? F1);have Cd:u.length≤maxLen:=Nat.le_trans Cd (by decide);obtain⟨b1,o1,rfl,_,pc⟩:=yT.at F1;have hd:=hE.out;rw[bp F1,List.map_cons] at hd;clear hE F1;have HK:=HK u Cd wr hb
      by_cases uX:(aq u).2.k=7
      case neg=>
       have g1:(((aq u).2.k:Int) != 7)=true:=by rw[bne_iff_ne];omega
       have g2:(((aq u).2.k:Int)==7)=false:=by rw[beq_eq_false_iff_ne];omega
       have HY:=zh (hd.trans (jl (Cp uX)));clear uX;clear hd;go_wp2_with (go_at_call 119;refine HK.mono ?_;clear HK;rintro e w1 ⟨rfl,au⟩;have dI:=ah iu au;have bL:=hb.trans (af au hb.size);have hS1:=yT.below au zr);exact⟨⟨rfl,i+1,hlt,by go_num,bL,dI,hS1,HY⟩,by simp only[intOf];omega⟩
      case pos =>
       obtain⟨_,hal,DM,_,hac,_⟩:=sU SF uX;have DM:(eH u).1.length≤maxLen:=Nat.le_trans DM (by decide);rw[uX] at HK;have AP:=λW hW=>tU u Cd W (HT.out W hW)
       have uJ:=λW hW=>q8 u Cd W (HT.out W hW)
       have yQ:=λW hW=>qG c.dG m (eH u).1 W (HS.out W hW) iw.1 DM
       rcases hq:ew c.dG (eH u).1 with _|f
       · have HY:=zh (hd.trans ((gG (by rw[rF uX hq];decide)).trans (rF uX hq)))
         simp only[hq,Option.isSome_none] at yQ;clear hd;go_wp2_with (first
          | (go_at_call 75;refine(yQ _ dx).mono ?_;clear yQ;rintro e w4 ⟨fv,rfl,f1,_,hb4⟩;obtain rfl:=f1 trivial;have eD:=dx.trans (af hb4 dx.size))
          | (go_at_call 121;refine(uJ _ cD).mono ?_;clear uJ;rintro e w3' ⟨rfl,aH⟩;have fW:=ah fS aH;have yR:=eZ fW;have dx:=cD.trans (af aH cD.size);have wV:=nG.below aH zr)
          | (go_at_call 120;refine(AP _ bL).mono ?_;clear AP;rintro e w2 ⟨rfl,aC⟩;have fS:=ah dI aC;have cD:=bL.trans (af aC bL.size);have nG:=hS1.below aC zr)
          | (go_at_call 119;refine HK.mono ?_;clear HK;rintro e w1 ⟨rfl,au⟩;have dI:=ah iu au;have bL:=hb.trans (af au hb.size);have hS1:=yT.below au zr))
         try rw[Exit.noGoto_ret]
         go_ret;rw[HX.out,HY.out];exact⟨rfl,eD.alloc eD.size _⟩
       · have tJ := iw.2.2.1 f (by unfold ew at hq; exact List.mem_of_find?_eq_some hq)
         simp only[hq,Option.isSome_some] at yQ
         by_cases h3:f.kind=3
         case neg=>
          have HY:=zh (hd.trans ((gG (by rw[iG uX hq (λh=>h3 h.1)];decide)).trans (iG uX hq (λh=>h3 h.1))));clear hq;obtain⟨fn,fk,fp,dm,iN⟩:=f;simp only at h3;have g1:((fk:Int) != 3)=true:=by rw[bne_iff_ne];omega
          have g2:((fk:Int)==3)=false:=by rw[beq_eq_false_iff_ne];omega
          clear h3;clear hd;go_wp2_with (first
           | (go_at_call 75;refine(yQ _ dx).mono ?_;clear yQ;rintro e w4 ⟨fv,rfl,_,f2,hb4⟩;obtain⟨nv,ov,rfl,hfl,wU,zx⟩:=f2 _ rfl;obtain⟨p1,c1,rfl,_⟩:=wU.shape;obtain⟨p2,c2,rfl,_⟩:=zx.shape;have j7:=ah fW hb4;have eD:=dx.trans (af hb4 dx.size);have uV:=wV.below hb4 zr;have vZ:=(zb w4).alloc zr (.cells #[.string ⟨fn.toArray⟩,.int .u8 fk,.bool fp,.slice p1 dm.length c1,.slice p2 iN.length c2] 58);have nK:=aD (.cells #[.string ⟨fn.toArray⟩,.int .u8 fk,.bool fp,.slice p1 dm.length c1,.slice p2 iN.length c2] 58) j7;have J6:=eZ nK;have kH:=eD.alloc eD.size (.cells #[.string ⟨fn.toArray⟩,.int .u8 fk,.bool fp,.slice p1 dm.length c1,.slice p2 iN.length c2] 58);have BR:=uV.below vZ zr)
           | (go_at_call 121;refine(uJ _ cD).mono ?_;clear uJ;rintro e w3' ⟨rfl,aH⟩;have fW:=ah fS aH;have yR:=eZ fW;have dx:=cD.trans (af aH cD.size);have wV:=nG.below aH zr)
           | (go_at_call 120;refine(AP _ bL).mono ?_;clear AP;rintro e w2 ⟨rfl,aC⟩;have fS:=ah dI aC;have cD:=bL.trans (af aC bL.size);have nG:=hS1.below aC zr)
           | (go_at_call 119;refine HK.mono ?_;clear HK;rintro e w1 ⟨rfl,au⟩;have dI:=ah iu au;have bL:=hb.trans (af au hb.size);have hS1:=yT.below au zr))
          try rw[Exit.noGoto_ret]
          go_ret;rw[HX.out,HY.out];exact⟨rfl,kH⟩
         case pos =>
          rcases hha:(bQ u).2.1 with _|_<;>rcases mV:f.par with _|_
          · have HY:=zh (hd.trans (jl (zZ uX hq h3 mV hha)))
            clear hq;rw[hha] at uJ hac;clear hha;obtain⟨fn,fk,fp,dm,iN⟩:=f;simp only at h3 mV tJ;subst mV;have g1:((fk:Int) != 3)=false:=by subst h3;rfl
            have g2:((fk:Int)==3)=true:=by subst h3;rfl
            clear h3;clear hd;go_wp2_with (first
             | (go_at_call 75;refine(yQ _ dx).mono ?_;clear yQ;rintro e w4 ⟨fv,rfl,_,f2,hb4⟩;obtain⟨nv,ov,rfl,hfl,wU,zx⟩:=f2 _ rfl;obtain⟨p1,c1,rfl,_⟩:=wU.shape;obtain⟨p2,c2,rfl,_⟩:=zx.shape;have j7:=ah fW hb4;have eD:=dx.trans (af hb4 dx.size);have uV:=wV.below hb4 zr;have vZ:=(zb w4).alloc zr (.cells #[.string ⟨fn.toArray⟩,.int .u8 fk,.bool false,.slice p1 dm.length c1,.slice p2 iN.length c2] 58);have nK:=aD (.cells #[.string ⟨fn.toArray⟩,.int .u8 fk,.bool false,.slice p1 dm.length c1,.slice p2 iN.length c2] 58) j7;have J6:=eZ nK;have kH:=eD.alloc eD.size (.cells #[.string ⟨fn.toArray⟩,.int .u8 fk,.bool false,.slice p1 dm.length c1,.slice p2 iN.length c2] 58);have BR:=uV.below vZ zr)
             | (go_at_call 121;refine(uJ _ cD).mono ?_;clear uJ;rintro e w3' ⟨rfl,aH⟩;have fW:=ah fS aH;have yR:=eZ fW;have dx:=cD.trans (af aH cD.size);have wV:=nG.below aH zr)
             | (go_at_call 120;refine(AP _ bL).mono ?_;clear AP;rintro e w2 ⟨rfl,aC⟩;have fS:=ah dI aC;have cD:=bL.trans (af aC bL.size);have nG:=hS1.below aC zr)
             | (go_at_call 119;refine HK.mono ?_;clear HK;rintro e w1 ⟨rfl,au⟩;have dI:=ah iu au;have bL:=hb.trans (af au hb.size);have hS1:=yT.below au zr))
            exact⟨⟨rfl,i+1,hlt,by go_num,kH,nK,BR,HY⟩,by simp only[intOf];omega⟩
          · have HY:=zh (hd.trans ((gG (by rw[iG uX hq (λh=>by rw[hha,mV] at h;simp at h)];decide)).trans (iG uX hq (λh=>by rw[hha,mV] at h;simp at h))))
            clear hq;rw[hha] at uJ hac;clear hha;obtain⟨fn,fk,fp,dm,iN⟩:=f;simp only at h3 mV tJ;subst mV;have g1:((fk:Int) != 3)=false:=by subst h3;rfl
            have g2:((fk:Int)==3)=true:=by subst h3;rfl
            clear h3;clear hd;go_wp2_with (first
             | (go_at_call 75;refine(yQ _ dx).mono ?_;clear yQ;rintro e w4 ⟨fv,rfl,_,f2,hb4⟩;obtain⟨nv,ov,rfl,hfl,wU,zx⟩:=f2 _ rfl;obtain⟨p1,c1,rfl,_⟩:=wU.shape;obtain⟨p2,c2,rfl,_⟩:=zx.shape;have j7:=ah fW hb4;have eD:=dx.trans (af hb4 dx.size);have uV:=wV.below hb4 zr;have vZ:=(zb w4).alloc zr (.cells #[.string ⟨fn.toArray⟩,.int .u8 fk,.bool true,.slice p1 dm.length c1,.slice p2 iN.length c2] 58);have nK:=aD (.cells #[.string ⟨fn.toArray⟩,.int .u8 fk,.bool true,.slice p1 dm.length c1,.slice p2 iN.length c2] 58) j7;have J6:=eZ nK;have kH:=eD.alloc eD.size (.cells #[.string ⟨fn.toArray⟩,.int .u8 fk,.bool true,.slice p1 dm.length c1,.slice p2 iN.length c2] 58);have BR:=uV.below vZ zr)
             | (go_at_call 121;refine(uJ _ cD).mono ?_;clear uJ;rintro e w3' ⟨rfl,aH⟩;have fW:=ah fS aH;have yR:=eZ fW;have dx:=cD.trans (af aH cD.size);have wV:=nG.below aH zr)
             | (go_at_call 120;refine(AP _ bL).mono ?_;clear AP;rintro e w2 ⟨rfl,aC⟩;have fS:=ah dI aC;have cD:=bL.trans (af aC bL.size);have nG:=hS1.below aC zr)
             | (go_at_call 119;refine HK.mono ?_;clear HK;rintro e w1 ⟨rfl,au⟩;have dI:=ah iu au;have bL:=hb.trans (af au hb.size);have hS1:=yT.below au zr))
            try rw[Exit.noGoto_ret]
            go_ret;rw[HX.out,HY.out];exact⟨rfl,kH⟩
          · have HY:=zh (hd.trans ((gG (by rw[iG uX hq (λh=>by rw[hha,mV] at h;simp at h)];decide)).trans (iG uX hq (λh=>by rw[hha,mV] at h;simp at h))))
            clear hq;rw[hha] at uJ hac;clear hha;obtain⟨fn,fk,fp,dm,iN⟩:=f;simp only at h3 mV tJ;subst mV;have g1:((fk:Int) != 3)=false:=by subst h3;rfl
            have g2:((fk:Int)==3)=true:=by subst h3;rfl
            clear h3;clear hd;go_wp2_with (first
             | (go_at_call 75;refine(yQ _ dx).mono ?_;clear yQ;rintro e w4 ⟨fv,rfl,_,f2,hb4⟩;obtain⟨nv,ov,rfl,hfl,wU,zx⟩:=f2 _ rfl;obtain⟨p1,c1,rfl,_⟩:=wU.shape;obtain⟨p2,c2,rfl,_⟩:=zx.shape;have j7:=ah fW hb4;have eD:=dx.trans (af hb4 dx.size);have uV:=wV.below hb4 zr;have vZ:=(zb w4).alloc zr (.cells #[.string ⟨fn.toArray⟩,.int .u8 fk,.bool false,.slice p1 dm.length c1,.slice p2 iN.length c2] 58);have nK:=aD (.cells #[.string ⟨fn.toArray⟩,.int .u8 fk,.bool false,.slice p1 dm.length c1,.slice p2 iN.length c2] 58) j7;have J6:=eZ nK;have kH:=eD.alloc eD.size (.cells #[.string ⟨fn.toArray⟩,.int .u8 fk,.bool false,.slice p1 dm.length c1,.slice p2 iN.length c2] 58);have BR:=uV.below vZ zr)
             | (go_at_call 121;refine(uJ _ cD).mono ?_;clear uJ;rintro e w3' ⟨rfl,aH⟩;have fW:=ah fS aH;have yR:=eZ fW;have dx:=cD.trans (af aH cD.size);have wV:=nG.below aH zr)
             | (go_at_call 120;refine(AP _ bL).mono ?_;clear AP;rintro e w2 ⟨rfl,aC⟩;have fS:=ah dI aC;have cD:=bL.trans (af aC bL.size);have nG:=hS1.below aC zr)
             | (go_at_call 119;refine HK.mono ?_;clear HK;rintro e w1 ⟨rfl,au⟩;have dI:=ah iu au;have bL:=hb.trans (af au hb.size);have hS1:=yT.below au zr))
            try rw[Exit.noGoto_ret]
            go_ret;rw[HX.out,HY.out];exact⟨rfl,kH⟩
          · have hnf:=Co (n:=n) uX hq h3 mV hha
            rcases hfit:wQ c n f.ag (bQ u).1 with _|_
            · rw[hfit,if_neg (by simp)] at hnf
              have HY:=zh (hd.trans ((gG (by rw[hnf];decide)).trans hnf));clear hnf;clear hq;rw[hha] at uJ hac;clear hha;have DI:=zh (hac rfl);clear hac;obtain⟨fn,fk,fp,dm,iN⟩:=f;simp only at h3 mV tJ hfit;subst mV;have g1:((fk:Int) != 3)=false:=by subst h3;rfl
              have g2:((fk:Int)==3)=true:=by subst h3;rfl
              clear h3;clear hd;go_wp2_with (first
               | (go_at_call 76;refine(qH c n hG iw _ dm _ (bQ u).1 _ (HV.out _ kH) (wU.below vZ zr) tJ DI.out.1 (Nat.lt_of_lt_of_le DI.out.2.2 (by omega)) (HT.out _ kH)).mono ?_;rintro e w6 ⟨rfl,jJ⟩;rw[hfit];have KE:=ah nK jJ;have FM:=kH.trans (af jJ kH.size);have Pm:=BR.below jJ zr)
               | (go_at_call 75;refine(yQ _ dx).mono ?_;clear yQ;rintro e w4 ⟨fv,rfl,_,f2,hb4⟩;obtain⟨nv,ov,rfl,hfl,wU,zx⟩:=f2 _ rfl;obtain⟨p1,c1,rfl,_⟩:=wU.shape;obtain⟨p2,c2,rfl,_⟩:=zx.shape;have j7:=ah fW hb4;have eD:=dx.trans (af hb4 dx.size);have uV:=wV.below hb4 zr;have vZ:=(zb w4).alloc zr (.cells #[.string ⟨fn.toArray⟩,.int .u8 fk,.bool true,.slice p1 dm.length c1,.slice p2 iN.length c2] 58);have nK:=aD (.cells #[.string ⟨fn.toArray⟩,.int .u8 fk,.bool true,.slice p1 dm.length c1,.slice p2 iN.length c2] 58) j7;have J6:=eZ nK;have kH:=eD.alloc eD.size (.cells #[.string ⟨fn.toArray⟩,.int .u8 fk,.bool true,.slice p1 dm.length c1,.slice p2 iN.length c2] 58);have BR:=uV.below vZ zr)
               | (go_at_call 121;refine(uJ _ cD).mono ?_;clear uJ;rintro e w3' ⟨rfl,aH⟩;have fW:=ah fS aH;have yR:=eZ fW;have dx:=cD.trans (af aH cD.size);have wV:=nG.below aH zr)
               | (go_at_call 120;refine(AP _ bL).mono ?_;clear AP;rintro e w2 ⟨rfl,aC⟩;have fS:=ah dI aC;have cD:=bL.trans (af aC bL.size);have nG:=hS1.below aC zr)
               | (go_at_call 119;refine HK.mono ?_;clear HK;rintro e w1 ⟨rfl,au⟩;have dI:=ah iu au;have bL:=hb.trans (af au hb.size);have hS1:=yT.below au zr))
              try rw[Exit.noGoto_ret]
              go_ret;rw[HX.out,HY.out];exact⟨rfl,FM⟩
            · rw[hfit,if_pos rfl] at hnf
              have HY:=zh (hd.trans (jl hnf));clear hnf;clear hq;rw[hha] at uJ hac;clear hha;have DI:=zh (hac rfl);clear hac;obtain⟨fn,fk,fp,dm,iN⟩:=f;simp only at h3 mV tJ hfit;subst mV;have g1:((fk:Int) != 3)=false:=by subst h3;rfl
              have g2:((fk:Int)==3)=true:=by subst h3;rfl
              clear h3;clear hd;go_wp2_with (first
               | (go_at_call 76;refine(qH c n hG iw _ dm _ (bQ u).1 _ (HV.out _ kH) (wU.below vZ zr) tJ DI.out.1 (Nat.lt_of_lt_of_le DI.out.2.2 (by omega)) (HT.out _ kH)).mono ?_;rintro e w6 ⟨rfl,jJ⟩;rw[hfit];have KE:=ah nK jJ;have FM:=kH.trans (af jJ kH.size);have Pm:=BR.below jJ zr)
               | (go_at_call 75;refine(yQ _ dx).mono ?_;clear yQ;rintro e w4 ⟨fv,rfl,_,f2,hb4⟩;obtain⟨nv,ov,rfl,hfl,wU,zx⟩:=f2 _ rfl;obtain⟨p1,c1,rfl,_⟩:=wU.shape;obtain⟨p2,c2,rfl,_⟩:=zx.shape;have j7:=ah fW hb4;have eD:=dx.trans (af hb4 dx.size);have uV:=wV.below hb4 zr;have vZ:=(zb w4).alloc zr (.cells #[.string ⟨fn.toArray⟩,.int .u8 fk,.bool true,.slice p1 dm.length c1,.slice p2 iN.length c2] 58);have nK:=aD (.cells #[.string ⟨fn.toArray⟩,.int .u8 fk,.bool true,.slice p1 dm.length c1,.slice p2 iN.length c2] 58) j7;have J6:=eZ nK;have kH:=eD.alloc eD.size (.cells #[.string ⟨fn.toArray⟩,.int .u8 fk,.bool true,.slice p1 dm.length c1,.slice p2 iN.length c2] 58);have BR:=uV.below vZ zr)
               | (go_at_call 121;refine(uJ _ cD).mono ?_;clear uJ;rintro e w3' ⟨rfl,aH⟩;have fW:=ah fS aH;have yR:=eZ fW;have dx:=cD.trans (af aH cD.size);have wV:=nG.below aH zr)
               | (go_at_call 120;refine(AP _ bL).mono ?_;clear AP;rintro e w2 ⟨rfl,aC⟩;have fS:=ah dI aC;have cD:=bL.trans (af aC bL.size);have nG:=hS1.below aC zr)
               | (go_at_call 119;refine HK.mono ?_;clear HK;rintro e w1 ⟨rfl,au⟩;have dI:=ah iu au;have bL:=hb.trans (af au hb.size);have hS1:=yT.below au zr))
              exact⟨⟨rfl,i+1,hlt,by go_num,FM,KE,Pm,HY⟩,by simp only[intOf];omega⟩
theorem qJ {D:Nat→Prop} (c:bw) (iw:gh c):∀n,AO D c n
 | 0=>λ_ _ _ _ _ h _=>absurd h (by omega)
 | n+1=>BO c n (qJ c iw n) iw
theorem kY {D:Nat→Prop} (c:bw) (v:Value) (t:List UInt8) (w:World) (hv:ScopeM D w v c) (iw:gh c) (htl:t.length≤maxLen) (hT:dW w):
 Calls Tryz.prog 59 #[v,str t] w λe w'=>e=.returned (.int .i64 (dz c t))∧Below w.heap.size w w':=
 qJ c iw 7 v t w hv htl (by have:=uf t;omega) hT
theorem F9:(Tryz.prog.info? 36).map (λi=>(i.zero,i.size,i.bytes))=some (some (.agg #[.bool false,.slice none 0 0,.string ⟨#[]⟩,.slice none 0 0]),4,72):=by kernel_rfl
theorem uE:Tryz.prog.underlying 115=some (.slice 36):=by kernel_rfl
def mm (D:Nat→Prop) (w:World):List Value→List bP→Prop
 | cs,[]=>cs=[]
 | cs,x::l=>∃a s r,cs=.bool x.iter::a::str x.res::s::r∧x.res.length≤maxLen∧SS D w a x.args∧SS D w s x.sigs∧mm D w r l
theorem mm.below {D:Nat→Prop} {K:Nat} {w w':World} (hb:Below K w w') (hK:w.heap.size≤K):∀{l:List bP} {cs:List Value},mm D w cs l→mm D w' cs l
 | [],_,h=>h
 | _::_,_,⟨a,s,r,h1,h0,h2,h3,h4⟩=>⟨a,s,r,h1,h0,h2.below hb hK,h3.below hb hK,mm.below hb hK h4⟩
theorem mm.mono {D D':Nat→Prop} {w:World} (hD:∀b,D b→D' b):∀{l:List bP} {cs:List Value},mm D w cs l→mm D' w cs l
 | [],_,h=>h
 | _::_,_,⟨a,s,r,h1,h0,h2,h3,h4⟩=>⟨a,s,r,h1,h0,h2.mono hD,h3.mono hD,mm.mono hD h4⟩
theorem mm.fresh {D:Nat→Prop} {w:World}:∀{l:List bP} {cs:List Value},mm D w cs l→mm (λb=>D b∧b<w.heap.size) w cs l
 | [],_,h=>h
 | _::_,_,⟨a,s,r,h1,h0,h2,h3,h4⟩=>⟨a,s,r,h1,h0,h2.fresh,h3.fresh,mm.fresh h4⟩
theorem mm.agree {D:Nat→Prop} {w w':World} (hk:∀b,D b→b<w.heap.size→w'.heap[b]? =w.heap[b]?):∀{l:List bP} {cs:List Value},mm D w cs l→mm D w' cs l
 | [],_,h=>h
 | _::_,_,⟨a,s,r,h1,h0,h2,h3,h4⟩=>⟨a,s,r,h1,h0,h2.agree hk,h3.agree hk,mm.agree hk h4⟩
theorem mm.append {D:Nat→Prop} {w:World} {k:List bP} {ds:List Value} (hk:mm D w ds k):∀{l:List bP} {cs:List Value},mm D w cs l→mm D w (cs++ds) (l++k)
 | [],_,h=>by rw[show _=_ from h];exact hk
 | _::_,_,⟨a',s',r,h1,k0,k2,k3,k4⟩=>by subst h1;exact⟨a',s',_,rfl,k0,k2,k3,mm.append hk k4⟩
theorem mm.get {D:Nat→Prop} {w:World}:∀{l:List bP} {cs:List Value} (i:Nat) {x:bP},mm D w cs l→l[i]? =some x→
 ∃a s,x.res.length≤maxLen∧SS D w a x.args∧SS D w s x.sigs∧cs[i * 4]? =some (.bool x.iter)∧cs[i * 4+1]? =some a∧cs[i * 4+2]? =some (str x.res)∧cs[i * 4+3]? =some s
 | [],_,_,_,_,h=>by simp at h
 | y::l,_,0,x,⟨a,s,r,h1,h0,h2,h3,h4⟩,h=>by
  simp only[List.getElem?_cons_zero,Option.some.injEq] at h;subst h;subst h1;exact⟨a,s,h0,h2,h3,rfl,rfl,rfl,rfl⟩
 | y::l,_,i+1,x,⟨a,s,r,h1,h0,h2,h3,h4⟩,h=>by
  rw[List.getElem?_cons_succ] at h;obtain⟨a',s',k0,k1,k2,k3,k4,k5,k6⟩:=mm.get i h4 h;subst h1;refine⟨a',s',k0,k1,k2,?_,?_,?_,?_⟩
  · rw[show(i+1) * 4=i * 4+4 by omega];exact k3
  · rw[show(i+1) * 4+1=i * 4+1+4 by omega];exact k4
  · rw[show(i+1) * 4+2=i * 4+2+4 by omega];exact k5
  · rw[show(i+1) * 4+3=i * 4+3+4 by omega];exact k6
def kP (B:Nat) (w:World) (v:Value) (l:List bP):Prop:=∃cs,w.ownsRow B 36 4 v l.length cs∧mm (λb=>v.ownBlock≠some b) w cs l
theorem kP.below {B K:Nat} {w w':World} {v:Value} {l:List bP} (h:kP B w v l) (hb:Below K w w') (hK:w.heap.size≤K):kP B w' v l:=by
 obtain⟨cs,h1,h2⟩:=h
 exact⟨cs,ay h1 hb hK,h2.below hb hK⟩
theorem kP.shape {B:Nat} {w:World} {v:Value} {l:List bP} (h:kP B w v l):∃p c,v=.slice p l.length c:=by
 obtain⟨cs,h1,_⟩:=h
 exact bu h1
theorem kP.nil (B:Nat) (w:World):kP B w (.slice none 0 0) []:=⟨[],World.ownsRow_nil _ _ _ _,rfl⟩
theorem kP.at {B:Nat} {w:World} {p:Option Addr} {n c:Nat} {l:List bP} (h:kP B w (.slice p n c) l) {i:Nat} {x:bP} (hi:l[i]? =some x):
 ∃g a s,p=some ⟨g,0,none⟩∧x.res.length≤maxLen∧SS (λ_=>True) w a x.args∧SS (λ_=>True) w s x.sigs∧w.cell? ⟨g,0+i * 4,none⟩=some (.bool x.iter)∧w.cell? ⟨g,0+i * 4+1,none⟩=some a∧w.cell? ⟨g,0+i * 4+2,none⟩=some (str x.res)∧w.cell? ⟨g,0+i * 4+3,none⟩=some s:=by
 obtain⟨cs,h1,h2⟩:=h
 obtain⟨a,s,k0,k1,k2,k3,k4,k5,k6⟩:=h2.get i hi
 obtain⟨hl,_⟩:=List.getElem?_eq_some_iff.1 hi
 rcases h1.2 with⟨_,h0⟩|⟨g,cap,cur,h0,_⟩
 · omega
 · injection h0 with h0 _ _
   subst h0;have key:∀j u,cs[j]? =some u→w.cell? ⟨g,j,none⟩=some u:=by
    intro j u hj;have:=h1.cells (g:=g) rfl j u hj
    rwa [show(⟨g,0,none⟩:Addr).add j=⟨g,j,none⟩ from by unfold Addr.add;simp;omega] at this
   exact⟨g,a,s,rfl,k0,k1.mono λ_ _=>trivial,k2.mono λ_ _=>trivial,by rw[Nat.zero_add];exact key _ _ k3,by rw[Nat.zero_add];exact key _ _ k4,by rw[Nat.zero_add];exact key _ _ k5,by rw[Nat.zero_add];exact key _ _ k6⟩
theorem kP.append {B:Nat} {W W':World} {v v':Value} {l k:List bP} {ds cs:List Value} (hC:mm (λb=>v.ownBlock≠some b) W cs l) (hk:mm (λb=>v.ownBlock≠some b) W ds k) (h':W'.ownsRow B 36 4 v' (l.length+k.length) (cs++ds)) (hg:W.grownBy W' v.ownBlock) (ho:v'.ownBlock=v.ownBlock∨v'.ownBlock=some W.heap.size):kP B W' v' (l++k):=by
 refine⟨cs++ds,by rw[List.length_append];exact h',?_⟩
 have key:∀{l:List bP} {cs:List Value},mm (λb=>v.ownBlock≠some b) W cs l→mm (λb=>v'.ownBlock≠some b) W' cs l:=by
  intro l cs hc;refine(hc.fresh.agree (w':=W') λb hb hlt=>hg.block b hlt λe=>hb.1 e.symm).mono λb hb e=>?_
  rcases ho with ho|ho
  · exact hb.1 (by rw[←ho];exact e)
  · have h2:=hb.2
    rw[ho] at e;injection e with e;omega
 exact mm.append (key hk) (key hC)
theorem ec {l:List aL} (h:aU l=true):l.length≤4∧∀o∈l,o.sig.args.length≤6∧o.sig.sigs.length≤6:=by
 unfold aU at h
 rw[Bool.and_eq_true,Bool.and_eq_true,List.all_eq_true,decide_eq_true_eq] at h
 exact⟨h.1.2,λo ho=>⟨(eN (h.1.1 o ho)).1,(eN (h.1.1 o ho)).2.1⟩⟩
theorem Ls {c:bw} {t:List UInt8} (ht:(aq t).1=0) (hf:∀f∈c.dG,dF f=true) (hn:∀o∈c.ag,o.sig.args.length≤6∧o.sig.sigs.length≤6):sR c t:=by
 have hty:=CU ht
 have hpl:=(gZ (t:=t)).2.2
 have hz:([]:List UInt8).length≤maxLen:=by simp
 have hkk:=gl ht
 have h8:(aq t).2.k=1∨(aq t).2.k=2∨(aq t).2.k=3∨(aq t).2.k=4∨(aq t).2.k=5∨(aq t).2.k=6∨(aq t).2.k=7∨(aq t).2.k=8:=by omega
 unfold sR dU
 rcases h8 with hk|hk|hk|hk|hk|hk|hk|hk
 all_goals rw[hk]
 · exact⟨hz,by simp[sg]⟩
 · exact⟨hz,by simp[sg]⟩
 · exact⟨hz,by simp[sg]⟩
 · exact⟨hz,by simp[sg]⟩
 · refine⟨hz,λo ho=>?_⟩
   simp only[List.mem_append,List.mem_cons,List.mem_flatMap,List.not_mem_nil,or_false] at ho;rcases ho with(rfl|⟨p,_,rfl|rfl⟩)|rfl<;>simp[sg]
   omega
 · refine⟨hz,λo ho=>?_⟩
   simp only[List.mem_cons,List.mem_flatMap,List.not_mem_nil,or_false] at ho;rcases ho with rfl|⟨p,_,rfl|rfl⟩<;>simp[sg]
 · refine⟨hty.2.1,λo ho=>?_⟩
   simp only at ho;rcases hq:ew c.dG (eH t).1 with _|f
   · rw[hq] at ho
     simp at ho
   · rw[hq] at ho
     have tJ:f∈c.dG:=by unfold ew at hq;exact List.mem_of_find?_eq_some hq
     have:=eN ((dQ (hf f tJ)).2.2.2.2.2.2.2.1 o ho).2;exact⟨by omega,by omega⟩
 · refine⟨hz,λo ho=>?_⟩
   have:=hn o ho;exact⟨by omega,by omega⟩
theorem rU {l:List aA} {ag:List aL} {par:Bool} (ha:mB l) (hf:∀f∈l,dF f=true) (hn:aU ag=true):gh ⟨l,ag,par⟩:=by
 obtain⟨h1,h2⟩:=ec hn
 refine⟨ha,by simp only;omega,λf tJ o ho=>?_,λt ht=>Ls ht hf h2⟩
 have:=(ec (dQ (hf f tJ)).2.2.2.1).2 o ho
 exact⟨by omega,by omega⟩
def nR (l:List aA):Nat→Option (List UInt8)
 | 0=>none
 | i+1=>(l[i]?).map (·.name)
theorem zu {f:aA} {l:List aA} {i:Nat} {p:Option (List UInt8)} (h:20≤i):cU (f::l) i p=some (i,2):=by rw[cU,if_pos h]
theorem zq {f:aA} {l:List aA} {i:Nat} {p:Option (List UInt8)} (h:¬20≤i) (hf:dF f=false):cU (f::l) i p=some (i,42):=by rw[cU,if_neg h,if_pos hf]
theorem uR {f:aA} {l:List aA} {i:Nat} {q:List UInt8} (h:¬20≤i) (hf:dF f=true) (hq:Op.bytesLess q f.name=false):cU (f::l) i (some q)=some (i,6):=by
 rw[cU,if_neg h,if_neg (by rw[hf];simp),if_pos (by simp[hq])]
theorem sY {f:aA} {l:List aA} {i:Nat} {p:Option (List UInt8)} (h:¬20≤i) (hf:dF f=true) (hq:(p.any λq=> !Op.bytesLess q f.name)=false):cU (f::l) i p=cU l (i+1) (some f.name):=by
 rw[cU,if_neg h,if_neg (by rw[hf];simp),if_neg (by rw[hq];simp)]
theorem CV {all:List aA} {f:aA} {r:List aA} {i:Nat} (h:dY (((mL f).flatMap aQ).map (dz ⟨all,f.ag,f.par⟩))≠0):fI all (f::r) i=some (i,dY (((mL f).flatMap aQ).map (dz ⟨all,f.ag,f.par⟩))):=by
 unfold fI
 simp only
 rw[if_neg h]
theorem Fa {all:List aA} {f:aA} {r:List aA} {i:Nat} (h:dY (((mL f).flatMap aQ).map (dz ⟨all,f.ag,f.par⟩))=0):fI all (f::r) i=fI all r (i+1):=by
 conv=>lhs;unfold fI
 simp only
 rw[if_pos h]
theorem qq {l:List aA} {r:Nat×Nat} (h:cU l 0 none=some r):kS l=r:=by unfold kS;rw[h];rfl
set_option maxRecDepth 8000 in
theorem uQ {D : Nat → Prop} (l : List aA) (v : Value) (w : World) (hT : dW w) (hv : bG D w v l) (hn : ∀ f ∈ l, f.ag.length ≤ 100000) :
 Calls Tryz.prog 40 #[v] w λe w'=>e=.returned (.tuple #[.int .i64 (kS l).1,.int .i64 (kS l).2])∧Below w.heap.size w w':=by
 obtain⟨p,c,rfl,_,hm,hle⟩:=hv.shape
 unfold maxLen at hm
 have HT:=zh (λW (hW:Below w.heap.size w W)=>hT.below hW zr)
 clear hT hle
 go_enter Tryz.func40,Tryz.ntmps40
 go_wp2_with fail
 go_loopw [22] (λy wx=>∃i:Nat,i≤l.length∧y=.int .i64 i∧Below w.heap.size w wx∧Hid (cU l 0 none=cU (l.drop i) i (nR l i))) (λy _=>l.length - (intOf y).toNat)
 case atStart=>exact⟨0,Nat.zero_le _,by go_num,zb _,rfl⟩
 case round =>
  obtain⟨i,hi,rfl,hb,hA⟩:=hrel
  by_cases hlt:i<l.length
  case neg => as_aux_lemma =>
   have hie:i=l.length:=by omega
   have HX:=zh (show cU l 0 none=none by rw[hA.out,List.drop_eq_nil_of_le (by omega)];rfl);clear hA;have RW:=iE l 0 none HX.out;have hap:=wo HX.out;obtain⟨NV,O9,_,_⟩:=RW;have KR:l.length≤100000:=by
    rcases NV with rfl|h
    · simp
    · omega
   have OK:=zh (show kS l=(fI l l 0).getD (0,0) by unfold kS;rw[HX.out];rfl);have sG:=hv.below hb zr;clear HX;go_wp2_with (go_at_call 91;refine(pL l _ _ sG KR).mono ?_;rintro e w1 ⟨M,rfl,hM,au⟩);have JM:=heap_alloc_new w1 (.cells #[.map (some M)] 84);have M4:=(zb w1).alloc zr (.cells #[.map (some M)] 84);have bL:=(hb.trans (af au hb.size)).alloc (by have:=hb.size;have:=au.size;omega) (.cells #[.map (some M)] 84);have hM1:=hM.below M4 zr;have RP:=(sG.below au zr).below M4 zr;clear sG hM au M4 hb;go_loopw [56] (λy wx=>∃i:Nat,i≤l.length∧y=.int .i64 i∧Below w.heap.size w wx∧wx.heap[w1.heap.size]? =some (.cells #[.map (some M)] 84 (0,0))∧dV D wx M l∧Hid (fI l l 0=fI l (l.drop i) i)) (λy _=>l.length - (intOf y).toNat)
   case atStart=>exact⟨0,Nat.zero_le _,by go_num,bL,JM,hM1,rfl⟩
   case round =>
    clear bL JM hM1 RP;obtain⟨i,hi,rfl,hb,JM,hM,GX⟩:=hrel
    by_cases hlt:i<l.length
    case neg=>as_aux_lemma=>
     have HZ:=zh (show kS l=(0,0) by rw[OK.out,GX.out,List.drop_eq_nil_of_le (by omega)];rfl);clear GX;go_wp2_with fail;go_ret2;rw[HZ.out];exact⟨rfl,hb⟩
    case pos => as_aux_lemma =>
     obtain⟨f,hkx⟩:∃f,l[i]? =some f:=⟨_,List.getElem?_eq_getElem hlt⟩
     have tJ:=List.mem_of_getElem? hkx;have sG:=hv.below hb zr;obtain⟨b1,o1,nv,ov,rfl,_,hfl,hN,hO,c0,c1,c2,c3,c4⟩:=sG.at hkx;obtain⟨p1,z1,rfl,_⟩:=hN.shape;obtain⟨p2,z2,rfl,_⟩:=hO.shape;obtain⟨i0,gw,hz0,hz1,hz2⟩:=bY F9;rw[bp hkx] at GX;have mV:=dQ (O9 f tJ);have hnl:=(ec mV.2.2.2.1).1;have hol:=mV.2.2.2.2.2.2.1;have iw:gh ⟨l,f.ag,f.par⟩:=rU hap O9 mV.2.2.2.1;have hc:=(ak JM 0).trans rfl;have ig:=(zb wr).alloc zr (.cells #[.string ⟨f.name.toArray⟩,.int .u8 f.kind,.bool f.par,.slice p1 f.ag.length z1,.slice p2 f.ops.length z2] 58);have Kk:=heap_alloc_new wr (.cells #[.string ⟨f.name.toArray⟩,.int .u8 f.kind,.bool f.par,.slice p1 f.ag.length z1,.slice p2 f.ops.length z2] 58);have Iq:=ah JM ig;have hc1:(wr.alloc (.cells #[.string ⟨f.name.toArray⟩,.int .u8 f.kind,.bool f.par,.slice p1 f.ag.length z1,.slice p2 f.ops.length z2] 58)).cell? ⟨w1.heap.size,0,none⟩=some (.map (some M)):=(ak Iq 0).trans rfl;have Kk:=aD (.cells #[.map (some M),.slice p1 f.ag.length z1,.bool f.par] 86) Kk;have qd:=ig.alloc (by simp) (.cells #[.map (some M),.slice p1 f.ag.length z1,.bool f.par] 86);have C4:=cI (w:=wr.alloc (.cells #[.string ⟨f.name.toArray⟩,.int .u8 f.kind,.bool f.par,.slice p1 f.ag.length z1,.slice p2 f.ops.length z2] 58)) (n:=wr.heap.size+1) (by simp) #[.map (some M),.slice p1 f.ag.length z1,.bool f.par] 86;have QG:=(bz Kk).1;have Cc:∀x∈f.ag.map (·.sig)++f.ops.map (·.sig),x.args.length≤6:=by
      intro x hx;rcases List.mem_append.1 hx with hx|hx
      · obtain⟨o,ho,rfl⟩:=List.mem_map.1 hx
        exact((ec mV.2.2.2.1).2 o ho).1
      · obtain⟨o,ho,rfl⟩:=List.mem_map.1 hx
        exact(eN (mV.2.2.2.2.2.2.2.1 o ho).2).1
     clear hkx mV;go_upto_region 17 with fail;have Kn:=hN.below qd zr;have Nh:=Kn.fresh;have RG:=(hO.below qd zr).fresh;have Pf:=hM.below qd zr;have L6:=hb.trans (af qd hb.size);have Ks:=aD (.cells #[.map (some M),.slice p1 f.ag.length z1,.bool f.par] 86) Iq;clear hN hO c0 c1 c2 c3 c4 ig qd JM Iq hc hc1 sG hM hb;generalize (wr.alloc (.cells #[.string ⟨f.name.toArray⟩,.int .u8 f.kind,.bool f.par,.slice p1 f.ag.length z1,.slice p2 f.ops.length z2] 58)).alloc (.cells #[.map (some M),.slice p1 f.ag.length z1,.bool f.par] 86)=W2 at *;generalize wr.heap.size=PB at *;go_wp2_with fail;go_loopw [10,70] (λa y wx=>∃k:Nat,k≤f.ag.length∧y=.int .i64 k∧kP W2.heap.size wx a ((f.ag.take k).map (·.sig))∧Below W2.heap.size W2 wx) (λ_ y _=>f.ag.length - (intOf y).toNat)
     case atStart=>exact⟨0,Nat.zero_le _,by go_num,kP.nil _ _,zb _⟩
     case round =>
      clear QG;obtain⟨k,hk,rfl,hown,mE⟩:=hrel;obtain⟨pv,cv,rfl⟩:=hown.shape
      by_cases hlt:k<f.ag.length
      case neg => as_aux_lemma =>
       have hke:k=f.ag.length:=by omega
       subst hke;simp only[List.take_length] at hown ⊢;have xk:=hown;have DN:=mE;have bF:=(bz (cG Kk mE (bA Kk))).1;clear hown mE;go_wp2_with fail;clear bF;go_loopw [10,83] (λa y wx=>∃k:Nat,k≤f.ops.length∧y=.int .i64 k∧kP W2.heap.size wx a (f.ag.map (·.sig)++(f.ops.take k).map (·.sig))∧Below W2.heap.size W2 wx) (λ_ y _=>f.ops.length - (intOf y).toNat)
       case atStart=>exact⟨0,Nat.zero_le _,by go_num,by simpa using xk,DN⟩
       case round =>
        clear xk DN;obtain⟨k,hk,rfl,hown,mE⟩:=hrel;obtain⟨pv,cv,rfl⟩:=hown.shape
        by_cases hlt:k<f.ops.length
        case neg => as_aux_lemma =>
         have hke:k=f.ops.length:=by omega
         subst hke;simp only[List.take_length] at hown ⊢;have xk:=hown;have DN:=mE;have FP:(f.ag.map (·.sig)++f.ops.map (·.sig)).length≤30:=by rw[List.length_append,List.length_map,List.length_map];omega
         have Nq:Hid (mL f=f.ag.map (·.sig)++f.ops.map (·.sig)):=rfl;generalize f.ag.map (·.sig)++f.ops.map (·.sig)=LS at *;clear hown mE;go_wp2_with fail;go_loopw [95] (λy wx=>∃k:Nat,k≤LS.length∧y=.int .i64 k∧kP W2.heap.size wx (.slice pv LS.length cv) LS∧Below W2.heap.size W2 wx∧Hid (dY ((LS.flatMap aQ).map (dz ⟨l,f.ag,f.par⟩))=dY (((LS.drop k).flatMap aQ).map (dz ⟨l,f.ag,f.par⟩)))) (λy _=>LS.length - (intOf y).toNat)
         case atStart=>exact⟨0,Nat.zero_le _,by go_num,xk,DN,rfl⟩
         case round=>
          clear xk DN;obtain⟨k,hk,rfl,hown,mE,hF⟩:=hrel
          by_cases hlt5:k<LS.length
          case neg=>as_aux_lemma=>
           have h0:dY ((LS.flatMap aQ).map (dz ⟨l,f.ag,f.par⟩))=0:=by rw[hF.out,List.drop_eq_nil_of_le (by omega)];rfl
           have HZ:=zh (show fI l l 0=fI l (l.drop (i+1)) (i+1) by rw[GX.out,Fa (by rw[Nq.out];exact h0)]);clear hF h0;go_wp2_with fail;exact⟨⟨i+1,by omega,by go_num,L6.trans (af mE L6.size),cG Ks mE (bA Ks),Pf.below mE zr,HZ⟩,by simp only[intOf];omega⟩
          case pos => as_aux_lemma =>
           obtain⟨x,hx⟩:∃x,LS[k]? =some x:=⟨_,List.getElem?_eq_getElem hlt5⟩
           obtain⟨g,av,sv,hpe,mI,fe,eE,d0,d1,d2,d3⟩:=hown.at hx;subst hpe;simp only[Nat.zero_add] at d0 d1 d2 d3;obtain⟨pa,ca,rfl,_⟩:=fe.shape;obtain⟨ps,cs,rfl,_⟩:=eE.shape;have hxl:=Cc x (List.mem_of_getElem? hx);have hd:=hF.out;rw[bp hx,List.flatMap_cons,List.map_append] at hd;clear hF hx;have nE:=(zb wr).alloc zr (.cells #[.bool x.iter,.slice pa x.args.length ca,.string ⟨x.res.toArray⟩,.slice ps x.sigs.length cs] 36);have eD:=mE.alloc mE.size (.cells #[.bool x.iter,.slice pa x.args.length ca,.string ⟨x.res.toArray⟩,.slice ps x.sigs.length cs] 36);have OU:=oJ _ x _ ⟨_,_,rfl,mI,fe.below nE zr,eE.below nE zr⟩ (by omega);have bB:=hown.below nE zr;clear hown fe eE mE;generalize aQ x=T at *;obtain⟨OX,Nl⟩:∃r,r=((LS.drop (k+1)).flatMap aQ).map (dz ⟨l,f.ag,f.par⟩):=⟨_,rfl⟩
           rw[←Nl] at hd;have Nn:=zh Nl;have O8:=zh hd;clear Nl hd;go_wp2_with (go_at_call 92;refine OU.mono ?_;clear OU;rintro e w5 ⟨tv,rfl,JN,eT⟩;obtain⟨pt,ct,rfl,_,Mc,_⟩:=JN.shape);have KB:=eD.trans (af eT eD.size);have gX:=bB.below eT zr;unfold maxLen at Mc;clear eD eT bB nE;go_loopw [102] (λy wx=>∃j:Nat,j≤T.length∧y=.int .i64 j∧Below w5.heap.size w5 wx∧Hid (dY ((LS.flatMap aQ).map (dz ⟨l,f.ag,f.par⟩))=dY (((T.drop j).map (dz ⟨l,f.ag,f.par⟩))++OX))) (λy _=>T.length - (intOf y).toNat)
           case atStart=>exact⟨0,Nat.zero_le _,by go_num,zb _,O8⟩
           case round=>
            clear O8;obtain⟨j,hj,rfl,jJ,hG⟩:=hrel;have Kv:=KB.trans (af jJ KB.size)
            by_cases F2:j<T.length
            case neg=>as_aux_lemma=>
             have HZ:=zh ((show dY ((LS.flatMap aQ).map (dz ⟨l,f.ag,f.par⟩))=dY OX by rw[hG.out,List.drop_eq_nil_of_le (by omega)];rfl).trans (by rw[Nn.out]));clear hG;go_wp2_with fail;exact⟨⟨k+1,hlt5,by go_num,gX.below jJ zr,Kv,HZ⟩,by have h9:=hlt5;simp only[intOf];omega⟩
            case pos=>as_aux_lemma=>
             obtain⟨u,F1⟩:∃u,T[j]? =some u:=⟨_,List.getElem?_eq_getElem F2⟩
             have Pq:=JN.below jJ zr;obtain⟨b1,o1,rfl,_,pc⟩:=Pq.at F1;have Cd:=Pq.le u (List.mem_of_getElem? F1);have hd:=hG.out;rw[bp F1,List.map_cons,List.cons_append] at hd;clear hG F1;have Ny:=L6.trans (af Kv L6.size);have bS:=eZ (cG C4 Kv (bA C4));have LG:=kY (D:=D) ⟨l,f.ag,f.par⟩ (.agg #[.map (some M),.slice p1 f.ag.length z1,.bool f.par]) u wr ⟨M,_,rfl,Pf.below Kv zr,(Kn.below Kv zr)⟩ iw Cd (HT.out _ Ny);generalize dz ⟨l,f.ag,f.par⟩ u=GK at *
             by_cases h0:GK=0
             · subst h0
               rw[jl rfl] at hd;have HZ:=zh hd;clear hd;go_wp2_with (go_at_call 59;refine LG.mono ?_;clear LG;rintro e w7 ⟨rfl,sB⟩);exact⟨⟨j+1,F2,by go_num,jJ.trans (af sB jJ.size),HZ⟩,by simp only[intOf];omega⟩
             · obtain⟨g1,g2⟩:=bK h0
               rw[gG h0] at hd;have HZ:=zh (show kS l=(i,GK) by rw[OK.out,GX.out,CV (by rw[Nq.out,hd];exact h0),Nq.out,hd];rfl);clear hd h0;go_wp2_with (go_at_call 59;refine LG.mono ?_;clear LG;rintro e w7 ⟨rfl,sB⟩);go_ret2;rw[HZ.out];exact⟨rfl,Ny.trans (af sB Ny.size)⟩
        case pos=>as_aux_lemma=>
         obtain⟨x,hx⟩:∃x,f.ops[k]? =some x:=⟨_,List.getElem?_eq_getElem hlt⟩
         obtain⟨b1,o1,av,sv,mq,Il,⟨F8,mI⟩,fe,eE,uq,pG,od,pZ,rK⟩:=(RG.below mE zr).at hx;subst mq;obtain⟨pa,ca,rfl,_⟩:=fe.shape;obtain⟨ps,cs,rfl,_⟩:=eE.shape;have FV:=zh (show(f.ag.map (·.sig)++(f.ops.take k).map (·.sig))++[x.sig]=f.ag.map (·.sig)++(f.ops.take (k+1)).map (·.sig) by rw[List.take_add_one,hx];simp);have hlen:(f.ag.map (·.sig)++(f.ops.take k).map (·.sig)).length≤30:=by simp;omega
         generalize (f.ag.map (·.sig)++(f.ops.take k).map (·.sig))=LS at *;clear hx;obtain⟨cc,hcs,hC⟩:=hown;have ig:=(zb wr).alloc zr (.cells #[str x.name,.bool x.sig.iter,.slice pa x.sig.args.length ca,str x.sig.res,.slice ps x.sig.sigs.length cs] 50);have bL:=mE.alloc mE.size (.cells #[str x.name,.bool x.sig.iter,.slice pa x.sig.args.length ca,str x.sig.res,.slice ps x.sig.sigs.length cs] 50);have mU:=ay hcs ig zr;have BP:=hC.below ig zr;have sx:=fe.below ig zr;have sy:=eE.below ig zr;have hp1:=(bz (heap_alloc_new wr (.cells #[str x.name,.bool x.sig.iter,.slice pa x.sig.args.length ca,str x.sig.res,.slice ps x.sig.sigs.length cs] 50))).1;clear hC ig fe eE;go_wp2_with (at_builtin;refine bq _ rfl _ _ 115 rfl W2.heap.size 36 i0 _ 4 72 uE gw hz0 hz1 hz2 rfl (by decide) _ _ cc rfl (mU.alloc _) ⟨wr.heap.size+1,0,none⟩ 1 1 [.bool x.sig.iter,.slice pa x.sig.args.length ca,str x.sig.res,.slice ps x.sig.sigs.length cs] rfl rfl (by have:=gF (wr.alloc (.cells #[str x.name,.bool x.sig.iter,.slice pa x.sig.args.length ca,str x.sig.res,.slice ps x.sig.sigs.length cs] 50)) [.bool x.sig.iter,.slice pa x.sig.args.length ca,str x.sig.res,.slice ps x.sig.sigs.length cs] 36;simpa using this) (by intro u hu;simp only[List.mem_cons,List.not_mem_nil,or_false] at hu;rcases hu with rfl|rfl|rfl|rfl<;>rfl) (by decide) (by unfold maxLen;omega) (by omega) (Nat.le_trans bL.size (by simp)) ?_;intro v' w5 gX hgr sF);have C3:=(zb (wr.alloc (.cells #[str x.name,.bool x.sig.iter,.slice pa x.sig.args.length ca,str x.sig.res,.slice ps x.sig.sigs.length cs] 50))).alloc zr (.cells #[.bool x.sig.iter,.slice pa x.sig.args.length ca,str x.sig.res,.slice ps x.sig.sigs.length cs] 36);have hne:∀b,D b∧b<W2.heap.size→(Value.slice pv LS.length cv).ownBlock≠some b:=λb hb e=>by have:=(mU.lt _ e).1;omega
         have h5:=kP.append (k:=[x.sig]) (BP.below C3 zr) (mm.below C3 zr ⟨_,_,[],rfl,mI,sx.mono hne,sy.mono hne,rfl⟩) gX hgr sF;have kH:=Below.grown (B:=W2.heap.size) (bL.alloc bL.size (.cells #[.bool x.sig.iter,.slice pa x.sig.args.length ca,str x.sig.res,.slice ps x.sig.sigs.length cs] 36)) hgr (Nat.le_trans bL.size (by simp)) (λk e=>(mU.lt k e).1);refine⟨⟨k+1,hlt,by go_num,FV.out▸h5,kH⟩,by simp only[intOf];omega⟩
      case pos=>as_aux_lemma=>
       obtain⟨x,hx⟩:∃x,f.ag[k]? =some x:=⟨_,List.getElem?_eq_getElem hlt⟩
       obtain⟨b1,o1,av,sv,mq,Il,⟨F8,mI⟩,fe,eE,uq,pG,od,pZ,rK⟩:=(Nh.below mE zr).at hx;subst mq;obtain⟨pa,ca,rfl,_⟩:=fe.shape;obtain⟨ps,cs,rfl,_⟩:=eE.shape;have FV:=zh (show((f.ag.take k).map (·.sig))++[x.sig]=(f.ag.take (k+1)).map (·.sig) by rw[List.take_add_one,hx];simp);have hlen:((f.ag.take k).map (·.sig)).length≤30:=by simp;omega
       generalize ((f.ag.take k).map (·.sig))=LS at *;clear hx;obtain⟨cc,hcs,hC⟩:=hown;have ig:=(zb wr).alloc zr (.cells #[str x.name,.bool x.sig.iter,.slice pa x.sig.args.length ca,str x.sig.res,.slice ps x.sig.sigs.length cs] 79);have bL:=mE.alloc mE.size (.cells #[str x.name,.bool x.sig.iter,.slice pa x.sig.args.length ca,str x.sig.res,.slice ps x.sig.sigs.length cs] 79);have mU:=ay hcs ig zr;have BP:=hC.below ig zr;have sx:=fe.below ig zr;have sy:=eE.below ig zr;have hp1:=(bz (heap_alloc_new wr (.cells #[str x.name,.bool x.sig.iter,.slice pa x.sig.args.length ca,str x.sig.res,.slice ps x.sig.sigs.length cs] 79))).1;clear hC ig fe eE;go_wp2_with (at_builtin;refine bq _ rfl _ _ 115 rfl W2.heap.size 36 i0 _ 4 72 uE gw hz0 hz1 hz2 rfl (by decide) _ _ cc rfl (mU.alloc _) ⟨wr.heap.size+1,0,none⟩ 1 1 [.bool x.sig.iter,.slice pa x.sig.args.length ca,str x.sig.res,.slice ps x.sig.sigs.length cs] rfl rfl (by have:=gF (wr.alloc (.cells #[str x.name,.bool x.sig.iter,.slice pa x.sig.args.length ca,str x.sig.res,.slice ps x.sig.sigs.length cs] 79)) [.bool x.sig.iter,.slice pa x.sig.args.length ca,str x.sig.res,.slice ps x.sig.sigs.length cs] 36;simpa using this) (by intro u hu;simp only[List.mem_cons,List.not_mem_nil,or_false] at hu;rcases hu with rfl|rfl|rfl|rfl<;>rfl) (by decide) (by unfold maxLen;omega) (by omega) (Nat.le_trans bL.size (by simp)) ?_;intro v' w5 gX hgr sF);have C3:=(zb (wr.alloc (.cells #[str x.name,.bool x.sig.iter,.slice pa x.sig.args.length ca,str x.sig.res,.slice ps x.sig.sigs.length cs] 79))).alloc zr (.cells #[.bool x.sig.iter,.slice pa x.sig.args.length ca,str x.sig.res,.slice ps x.sig.sigs.length cs] 36);have hne:∀b,D b∧b<W2.heap.size→(Value.slice pv LS.length cv).ownBlock≠some b:=λb hb e=>by have:=(mU.lt _ e).1;omega
       have h5:=kP.append (k:=[x.sig]) (BP.below C3 zr) (mm.below C3 zr ⟨_,_,[],rfl,mI,sx.mono hne,sy.mono hne,rfl⟩) gX hgr sF;have kH:=Below.grown (B:=W2.heap.size) (bL.alloc bL.size (.cells #[.bool x.sig.iter,.slice pa x.sig.args.length ca,str x.sig.res,.slice ps x.sig.sigs.length cs] 36)) hgr (Nat.le_trans bL.size (by simp)) (λk e=>(mU.lt k e).1);refine⟨⟨k+1,hlt,by go_num,FV.out▸h5,kH⟩,by simp only[intOf];omega⟩
  case pos => as_aux_lemma =>
   obtain⟨f,hkx⟩:∃f,l[i]? =some f:=⟨_,List.getElem?_eq_getElem hlt⟩
   have sG:=hv.below hb zr;obtain⟨b1,o1,nv,ov,rfl,_,hfl,hN,hO,c0,c1,c2,c3,c4⟩:=sG.at hkx;obtain⟨p1,z1,rfl,_⟩:=hN.shape;obtain⟨p2,z2,rfl,_⟩:=hO.shape;have hd:=hA.out;rw[bp hkx] at hd;clear hA
   by_cases h20:20≤i
   · have HX:=zh (qq (hd.trans (zu h20)))
     have g0:(20:Int)≤(i:Int):=by omega
     clear hd hkx;go_wp2_with fail;go_ret2;rw[HX.out];exact⟨rfl,hb.alloc hb.size _⟩
   · have g0 : ¬(20 : Int) ≤ (i : Int) := by omega
     have iu:=heap_alloc_new wr (.cells #[.string ⟨f.name.toArray⟩,.int .u8 f.kind,.bool f.par,.slice p1 f.ag.length z1,.slice p2 f.ops.length z2] 58);have hE:=(zb wr).alloc zr (.cells #[.string ⟨f.name.toArray⟩,.int .u8 f.kind,.bool f.par,.slice p1 f.ag.length z1,.slice p2 f.ops.length z2] 58);have hB:=hb.alloc hb.size (.cells #[.string ⟨f.name.toArray⟩,.int .u8 f.kind,.bool f.par,.slice p1 f.ag.length z1,.slice p2 f.ops.length z2] 58);have HC:=mR _ f _ (HT.out _ hB) ⟨_,_,rfl,hfl,hN.below hE zr,hO.below hE zr⟩ (hn f (List.mem_of_getElem? hkx));rcases qT:dF f with _|_
     · rw[kW qT] at HC
       have HX:=zh (qq (hd.trans (zq h20 qT)));clear hd hkx qT;go_wp2_with (go_at_call 38;refine HC.mono ?_;clear HC;rintro e w1 ⟨rfl,au⟩);go_ret2;rw[HX.out];exact⟨rfl,hB.trans (af au hB.size)⟩
     · rw [sZ qT] at HC
       have RV:=(bz iu).1;cases i with
       | zero=>
        have HX:=zh (show cU l 0 none=cU (l.drop 1) 1 (nR l 1) by rw[hd,sY h20 qT (by rfl)];simp[nR,hkx]);simp only[Nat.zero_mul,Nat.add_zero] at c0 c1 c2 c3 c4;clear hd hkx qT;go_upto_region 8 with(go_at_call 38;refine HC.mono ?_;clear HC;rintro e w1 ⟨rfl,au⟩;have oN:=(bz (ah iu au)).1);go_quiet (fail);go_wp2_with fail;exact⟨⟨1,by omega,by go_num,Dm (hB.trans (af au hB.size)) _,HX⟩,by simp only[intOf];omega⟩
       | succ j=>
        have hj:j<l.length:=by omega
        obtain⟨y,j8⟩:∃y,l[j]? =some y:=⟨_,List.getElem?_eq_getElem hj⟩
        obtain⟨b2,o2,Uz,UA,e2,_,_,_,_,d0,_⟩:=sG.at j8;injection e2 with e2;injection e2 with e2 e3;subst e2 e3;have d0:=Below.keep hE d0;rcases hl:Op.bytesLess y.name f.name with _|_
        · have HX:=zh (qq (hd.trans (by rw[show nR l (j+1)=some y.name by rw[nR,j8];rfl];exact uR h20 qT hl)))
          clear hd hkx j8 qT;go_upto_region 8 with(go_at_call 38;refine HC.mono ?_;clear HC;rintro e w1 ⟨rfl,au⟩;have oN:=(bz (ah iu au)).1;have d0:=Below.keep au d0);go_quiet (fail);go_wp2_with fail;go_ret2;rw[HX.out];exact⟨rfl,Dm (hB.trans (af au hB.size)) _⟩
        · have HX:=zh (show cU l 0 none=cU (l.drop (j+2)) (j+2) (nR l (j+2)) by rw[hd,sY h20 qT (by rw[show nR l (j+1)=some y.name by rw[nR,j8];rfl];simp[hl])];simp[nR,hkx])
          clear hd hkx j8 qT;go_upto_region 8 with(go_at_call 38;refine HC.mono ?_;clear HC;rintro e w1 ⟨rfl,au⟩;have oN:=(bz (ah iu au)).1;have d0:=Below.keep au d0);go_quiet (fail);go_wp2_with fail;exact⟨⟨j+2,by omega,by go_num,Dm (hB.trans (af au hB.size)) _,HX⟩,by simp only[intOf];omega⟩
theorem bG.fresh {D:Nat→Prop} {w:World} {v:Value} {l:List aA} (h:bG D w v l):bG (λb=>D b∧b<w.heap.size) w v l:=by
 obtain⟨p,c,h1,h2,h3,h4,h5⟩:=h
 refine⟨p,c,h1,h2,h3,h4,?_⟩
 rcases h5 with h5|⟨b,o,e,hb,hlt,hj⟩
 · exact .inl h5
 · refine .inr ⟨b,o,e,⟨hb,hlt⟩,hlt,λj hj'=>?_⟩
   obtain⟨n,q,k1,k2,k3⟩:=hj j hj';exact⟨n,q,k1.fresh,k2.fresh,k3⟩
set_option maxRecDepth 8000 in
theorem ko {D:Nat→Prop} (l:List aA) (v:Value) (ag:List aL) (wv:Value) (par:Bool) (w:World) (hT:dW w) (hv:bG D w v l) (hw:aY D w wv ag) (hn:∀f∈l,f.ag.length≤100000) (hnl:ag.length≤100000):
 Calls Tryz.prog 58 #[v,wv,.bool par] w λe w'=>∃m q n c pb,e=.returned (.tuple #[.agg #[.map m,.slice q n c,.bool pb],.int .i64 (cE l ag)])∧(cE l ag=0→ScopeM D w' (.agg #[.map m,.slice q n c,.bool pb]) ⟨l,ag,par⟩)∧Below w.heap.size w w':=by
 have hA:=(zb w).alloc zr (.cells #[.map none,.slice none 0 0,.bool false] 86)
 have hg:=heap_alloc_new w (.cells #[.map none,.slice none 0 0,.bool false] 86)
 have HC:=uQ l v _ (hT.below hA zr) (hv.below hA zr) hn
 have HN:=λW (hW:Below w.heap.size w W)=>kj ag wv W (hT.below hW zr) (hw.below hW zr) hnl
 have HV:=zh (λW (hW:Below w.heap.size w W)=>hv.fresh.below hW zr)
 have HW:=zh (λW (hW:Below w.heap.size w W)=>hw.fresh.below hW zr)
 have hok:=λh=>(uP (l:=l) h).1
 obtain⟨p,c,rfl,_⟩:=hv.shape
 obtain⟨q,cq,rfl,_⟩:=hw.shape
 have Fx:cE l ag=if(kS l).2≠0 then(kS l).2 else if aU ag=true then 0 else 42:=rfl
 generalize cE l ag=AS at *
 generalize kS l=AK at *
 obtain⟨j,C⟩:=AK
 simp only at HC hok Fx
 clear hT hv hw
 by_cases h0:C=0
 case neg=>
  obtain⟨g1,g2⟩:=bK h0;rw[if_pos h0] at Fx;subst Fx;have H0:=zh h0;clear h0 hok;go_enter Tryz.func58,Tryz.ntmps58;go_wp2_with (go_at_call 40;refine HC.mono ?_;clear HC;rintro e w1 ⟨rfl,au⟩;have hg1:=ah hg au;have b3:=eZ hg1;have OY:=az hg1 0;have J4:=az hg1 1;have J5:=az hg1 2);refine bodyPost_ret (v:=.tuple #[.agg #[.map none,.slice none 0 0,.bool false],.int .i64 AS]) (by simp[results,Tryz.results58,go_sem,b3]) rfl ?_;have bL:=hA.trans (af au (by simp));exact⟨_,_,_,_,_,rfl,λh=>absurd h H0.out,((bL.setCell (p:=⟨w.heap.size,0,none⟩) zr _).setCell (p:=⟨w.heap.size,1,none⟩) zr _).setCell (p:=⟨w.heap.size,2,none⟩) zr _⟩
 case pos=>
  subst h0;rw[if_neg (by simp)] at Fx;rcases hnk:aU ag with _|_
  · rw[hnk] at HN Fx
    simp only[Bool.false_eq_true,if_false] at Fx;subst Fx;go_enter Tryz.func58,Tryz.ntmps58;go_wp2_with (first
     | (go_at_call 78;refine(HN _ bL).mono ?_;clear HN;rintro e w2 ⟨rfl,aC⟩;have hg2:=ah hg1 aC;have b3:=eZ hg2;have OY:=az hg2 0;have J4:=az hg2 1;have J5:=az hg2 2;have cD:=bL.trans (af aC bL.size))
     | (go_at_call 40;refine HC.mono ?_;clear HC;rintro e w1 ⟨rfl,au⟩;have hg1:=ah hg au;have bL:=hA.trans (af au (by simp))))
    refine bodyPost_ret (v:=.tuple #[.agg #[.map none,.slice none 0 0,.bool false],.int .i64 42]) (by simp[results,Tryz.results58,go_sem,b3]) rfl ?_;exact⟨_,_,_,_,_,rfl,λh=>absurd h (by decide),((cD.setCell (p:=⟨w.heap.size,0,none⟩) zr _).setCell (p:=⟨w.heap.size,1,none⟩) zr _).setCell (p:=⟨w.heap.size,2,none⟩) zr _⟩
  · rw[hnk] at HN Fx
    simp only[if_true] at Fx;subst Fx;have KR:l.length≤100000:=by
     rcases(iE l 0 none (hok rfl)).1 with h|h
     · rw[h];simp
     · omega
    clear hok;go_enter Tryz.func58,Tryz.ntmps58;go_wp2_with (first
     | (go_at_call 91;refine(pL l _ _ (HV.out _ cD) KR).mono ?_;rintro e w3 ⟨M,rfl,hM,aH⟩;have hg3:=ah hg2 aH;have b3:=eZ hg3;have OY:=az hg3 0;have J4:=az hg3 1;have J5:=az hg3 2;have dx:=cD.trans (af aH cD.size))
     | (go_at_call 78;refine(HN _ bL).mono ?_;clear HN;rintro e w2 ⟨rfl,aC⟩;have hg2:=ah hg1 aC;have cD:=bL.trans (af aC bL.size))
     | (go_at_call 40;refine HC.mono ?_;clear HC;rintro e w1 ⟨rfl,au⟩;have hg1:=ah hg au;have bL:=hA.trans (af au (by simp))))
    refine bodyPost_ret (v:=.tuple #[.agg #[.map (some M),.slice q ag.length cq,.bool par],.int .i64 0]) (by simp[results,Tryz.results58,go_sem,b3]) rfl ?_;have Ip:M≠w.heap.size:=by
     intro Rz;obtain⟨L,_,hf,_⟩:=hM;obtain⟨es,clock,h1,_⟩:=hf;rw[Rz,hg3] at h1;simp at h1
    have Nh:=HW.out _ dx;refine⟨_,_,_,_,_,rfl,λ_=>⟨M,_,rfl,dV.mono (((hM.set (a:=⟨w.heap.size,0,none⟩) Ip (λb hb=>by have:=hb.2;simp only;omega) _).set (a:=⟨w.heap.size,1,none⟩) Ip (λb hb=>by have:=hb.2;simp only;omega) _).set (a:=⟨w.heap.size,2,none⟩) Ip (λb hb=>by have:=hb.2;simp only;omega) _) (λb hb=>hb.1),aY.mono (((Nh.set (a:=⟨w.heap.size,0,none⟩) (λb hb=>by have:=hb.2;simp only;omega) _).set (a:=⟨w.heap.size,1,none⟩) (λb hb=>by have:=hb.2;simp only;omega) _).set (a:=⟨w.heap.size,2,none⟩) (λb hb=>by have:=hb.2;simp only;omega) _) (λb hb=>hb.1)⟩,((dx.setCell (p:=⟨w.heap.size,0,none⟩) zr _).setCell (p:=⟨w.heap.size,1,none⟩) zr _).setCell (p:=⟨w.heap.size,2,none⟩) zr _⟩
theorem mX (t:List UInt8) (w:World) (htl:t.length≤maxLen) (hT:dW w):
 Calls Tryz.prog 74 #[str t] w λe w'=>e=.returned (.bool (eM t))∧Below w.heap.size w w':=by
 have HO:=lY t htl w hT
 go_enter Tryz.func74,Tryz.ntmps74
 go_wp2_with (go_at_call 117;refine HO.mono ?_;clear HO;rintro e w1 ⟨rfl,au⟩)
 go_ret
 exact⟨rfl,au⟩
theorem fU {l:List aA} {ag:List aL} {par:Bool} (h:cE l ag=0):gh ⟨l,ag,par⟩:=by
 unfold cE at h
 split at h
 · rename_i h1;exact absurd h h1
 · rename_i h1
   split at h
   · rename_i h2
     have hc:=(uP (by simpa using h1)).1;exact rU (wo hc) (iE l 0 none hc).2.1 h2
   · cases h
set_option maxRecDepth 8000 in
theorem tu {D:Nat→Prop} (l:List aA) (v:Value) (ag:List aL) (wv:Value) (par:Bool) (t:List UInt8) (w:World) (hT:dW w) (hv:bG D w v l) (hw:aY D w wv ag) (hn:∀f∈l,f.ag.length≤100000) (hnl:ag.length≤100000) (htl:t.length≤maxLen):
 Calls Tryz.prog 19 #[v,wv,.bool par,str t] w λe w'=>e=.returned (.int .i64 (wT l ag par t))∧Below w.heap.size w w':=by
 have HC:=ko l v ag wv par w hT hv hw hn hnl
 have HT:=zh (λW (hW:Below w.heap.size w W)=>hT.below hW zr)
 have hsc:=λh=>fU (l:=l) (ag:=ag) (par:=par) h
 obtain⟨p,c,rfl,_⟩:=hv.shape
 obtain⟨q,cq,rfl,_⟩:=hw.shape
 have cM:wT l ag par t=if cE l ag≠0 then cE l ag else dz ⟨l,ag,par⟩ t:=rfl
 generalize wT l ag par t=GL at *
 generalize cE l ag=AS at *
 clear hT hv hw
 by_cases h0:AS=0
 case neg=>
  obtain⟨g1,g2⟩:=bK h0;rw[if_pos h0] at cM;subst cM;clear h0 hsc;go_enter Tryz.func19,Tryz.ntmps19;go_wp2_with (go_at_call 58;refine HC.mono ?_;clear HC;rintro e w1 ⟨m1,q1,n1,c1,nH,rfl,_,au⟩);go_ret;exact⟨rfl,au.alloc au.size _⟩
 case pos=>
  subst h0;rw[if_neg (by simp)] at cM;have iw:=hsc rfl;have HX:=zh cM;clear hsc cM;go_enter Tryz.func19,Tryz.ntmps19;go_wp2_with (first
   | (go_at_call 59;refine(kY ⟨l,ag,par⟩ _ t _ nG iw htl (HT.out _ cD)).mono ?_;rintro e w3 ⟨rfl,aH⟩)
   | (go_at_call 58;refine HC.mono ?_;clear HC;rintro e w1 ⟨m1,q1,n1,c1,nH,rfl,hS,au⟩;have hS1:=hS rfl;clear hS;have qd:=(zb w1).alloc zr (.cells #[m1 |> Value.map,.slice q1 n1 c1,.bool nH] 86);have nG:=hS1.below qd zr;have cD:=au.alloc au.size (.cells #[.map m1,.slice q1 n1 c1,.bool nH] 86)))
  go_ret;rw[HX.out];exact⟨rfl,cD.trans (af aH cD.size)⟩
theorem ScopeM.mono {D D':Nat→Prop} {w:World} {v:Value} {c:bw} (h:ScopeM D w v c) (hD:∀b,D b→D' b):ScopeM D' w v c:=by
 obtain⟨m,nv,h1,h2,h3⟩:=h
 exact⟨m,nv,h1,h2.mono hD,h3.mono hD⟩
theorem ScopeM.yC {D:Nat→Prop} {w:World} {v:Value} {c:bw} (h:ScopeM D w v c) {b:Nat} {cs:Array Value} {t:TypeId} (hb:w.heap[b]? =some (.cells cs t (0,0))) (hD:∀k,D k→k≠b) (x y z:Value):
 ScopeM D (((w.setCell ⟨b,0,none⟩ x).setCell ⟨b,1,none⟩ y).setCell ⟨b,2,none⟩ z) v c:=by
 obtain⟨m,nv,h1,h2,h3⟩:=h
 have hm:m≠b:=by
  intro e;obtain⟨L,_,hf,_⟩:=h2;obtain⟨es,clock,h4,_⟩:=hf;rw[e,hb] at h4;simp at h4
 exact⟨m,nv,h1,((h2.set (a:=⟨b,0,none⟩) hm hD _).set (a:=⟨b,1,none⟩) hm hD _).set (a:=⟨b,2,none⟩) hm hD _,((h3.set (a:=⟨b,0,none⟩) hD _).set (a:=⟨b,1,none⟩) hD _).set (a:=⟨b,2,none⟩) hD _⟩
theorem nh (ag:List aL) (t:List UInt8):(0<ag.length∧true=fP ag t)∨(ag=[]∧eM t=fP ag t):=by
 unfold fP
 rcases ag with _|⟨x,l⟩
 · right;simp
 · left;simp
set_option maxRecDepth 8000 in
theorem uD {D:Nat→Prop} (l:List aA) (v:Value) (ag:List aL) (wv:Value) (t:List UInt8) (w:World) (hT:dW w) (hv:bG D w v l) (hw:aY D w wv ag) (hn:∀f∈l,f.ag.length≤100000) (hnl:ag.length≤100000) (htl:t.length≤maxLen):
 Calls Tryz.prog 62 #[v,wv,str t] w λe w'=>∃m q n c pb,e=.returned (.tuple #[.agg #[.map m,.slice q n c,.bool pb],.int .i64 (fJ l ag t)])∧(fJ l ag t=0→ScopeM D w' (.agg #[.map m,.slice q n c,.bool pb]) ⟨l,ag,fP ag t⟩)∧Below w.heap.size w w':=by
 have hA:=(zb w).alloc zr (.cells #[.map none,.slice none 0 0,.bool false] 86)
 have hg:=heap_alloc_new w (.cells #[.map none,.slice none 0 0,.bool false] 86)
 have HT:=zh (λW (hW:Below w.heap.size w W)=>hT.below hW zr)
 have HI:=mX t _ htl (HT.out _ hA)
 have HC:=λpar W (hW:Below w.heap.size w W)=>ko l v ag wv par W (HT.out W hW) (hv.fresh.below hW zr) (hw.fresh.below hW zr) hn hnl
 have hsc:=λpar h=>fU (l:=l) (ag:=ag) (par:=par) h
 obtain⟨p,c,rfl,_⟩:=hv.shape
 obtain⟨q,cq,rfl,_⟩:=hw.shape
 have cM:fJ l ag t=if cE l ag≠0 then cE l ag else dz ⟨l,ag,fP ag t⟩ t:=rfl
 have hP:=nh ag t
 have HG:=λiw v' W hT (hS:ScopeM (λb=>D b∧b<w.heap.size) W v' ⟨l,ag,fP ag t⟩)=>kY ⟨l,ag,fP ag t⟩ v' t W hS iw htl hT
 replace hsc:=hsc (fP ag t)
 generalize fP ag t=P at *
 generalize dz ⟨l,ag,P⟩ t=GK at *
 generalize fJ l ag t=GL at *
 generalize cE l ag=AS at *
 clear hT hv hw hn hnl
 have yS:=hA
 have lp:=hg
 rcases hP with⟨hn0,A3⟩|⟨rfl,A3⟩
 all_goals
  try rw[List.length_nil]
  replace A3:=zh A3
  replace cM:=zh cM
  replace hsc:=zh hsc
  go_enter Tryz.func62,Tryz.ntmps62;go_upto_region 2 with(first
   | (go_at_call 58;refine(HC _ _ yS).mono ?_;clear HC;rintro e w1 ⟨m1,q1,n1,c1,nH,rfl,hS,au⟩;have hg1:=ah lp au;have bL:=yS.trans (af au yS.size))
   | (go_at_call 74;refine HI.mono ?_;clear HI;rintro e w0 ⟨rfl,hb0⟩;have lp:=ah hg hb0;have yS:=hA.trans (af hb0 (by simp))))
  have cD:=bL.alloc bL.size (.cells #[.map m1,.slice q1 n1 c1,.bool nH] 86);have hg2:=aD (.cells #[.map m1,.slice q1 n1 c1,.bool nH] 86) hg1;have hx2:=heap_alloc_new w1 (.cells #[.map m1,.slice q1 n1 c1,.bool nH] 86)
  replace cM:=cM.out
  by_cases h0:AS=0
  case neg=>
   obtain⟨g1,g2⟩:=bK h0;rw[if_pos h0] at cM;subst cM;have H0:=zh h0;have b3:=eZ hg2;have QH:=az hg2 0;have QI:=az hg2 1;have QJ:=az hg2 2;have GP:=eZ hx2;clear h0 hsc HG hS;go_wp2_with fail;refine bodyPost_ret (v:=.tuple #[.agg #[.map m1,.slice q1 n1 c1,.bool nH],.int .i64 GL]) (by simp[results,Tryz.results62,go_sem,b3]) rfl ?_;exact⟨_,_,_,_,_,rfl,λh=>absurd h H0.out,((cD.setCell (p:=⟨w.heap.size,0,none⟩) zr _).setCell (p:=⟨w.heap.size,1,none⟩) zr _).setCell (p:=⟨w.heap.size,2,none⟩) zr _⟩
  subst h0;rw[if_neg (by simp)] at cM;have hS1:=hS rfl;rw[A3.out] at hS1;have nG:=hS1.below ((zb w1).alloc zr (.cells #[.map m1,.slice q1 n1 c1,.bool nH] 86)) zr;have HX:=zh cM;have GP:=eZ hx2
  replace HG:=HG (hsc.out rfl)
  clear hsc cM hS hS1;go_wp2_with (go_at_call 59;refine(HG _ _ (HT.out _ cD) nG).mono ?_;rintro e w3 ⟨rfl,aH⟩;have hg3:=ah hg2 aH;have F6:=ah hx2 aH;have b3:=eZ hg3;have yR:=eZ F6;have QH:=az hg3 0;have QI:=az hg3 1;have QJ:=az hg3 2;have wV:=nG.below aH zr;have dx:=cD.trans (af aH cD.size));refine bodyPost_ret (v:=.tuple #[.agg #[.map m1,.slice q1 n1 c1,.bool nH],.int .i64 GK]) (by simp[results,Tryz.results62,go_sem,b3]) rfl ?_;rw[HX.out];exact⟨_,_,_,_,_,rfl,λ_=>ScopeM.mono (ScopeM.yC wV hg3 (λk hk=>by have:=hk.2;omega) _ _ _) (λb hb=>hb.1),((dx.setCell (p:=⟨w.heap.size,0,none⟩) zr _).setCell (p:=⟨w.heap.size,1,none⟩) zr _).setCell (p:=⟨w.heap.size,2,none⟩) zr _⟩
end Go.Proofs.YtakgjcfkdemipaaGreatDoor
