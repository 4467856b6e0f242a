/-
  Lemmas for the statement: the law FaceExtends answers true. Conditions: bounds of lengths; the variable strings.asciiSpace.
-/
import Derived.Test.YtakgjcfkdemipaaGreatDoorZB33
import Derived.Test.YtakgjcfkdemipaaGreatDoorZBn
import Derived.Test.YtakgjcfkdemipaaGreatDoorZX5
set_option maxHeartbeats 25600000
namespace Go.Proofs.YtakgjcfkdemipaaGreatDoor
open Go Go.RowKit
theorem vb5 {l:List aA} (h:pQ l=true):∀f∈l,f.ag.length≤100000:=λf hf=>by
 rw[LZ,Bool.and_eq_true,List.all_eq_true] at h
 have h1:=h.1 f hf
 unfold jk qQ iD at h1
 simp only[Bool.and_eq_true,decide_eq_true_eq] at h1
 omega
set_option maxRecDepth 8000 in
theorem vb4 (f g:aA) (vf vff:Value) (w:World) (ht:dW w) (hf:dO Any w vf f) (hg:dO Any w vff g):
 Calls Tryz.prog 11 #[vf,vff] w λe w'=>e=.returned (.bool true)∧Below w.heap.size w w':=by
 obtain⟨fn,fk,fp,vf5,vf6⟩:=f
 obtain⟨gn,gk,vfa,vf7,vf8⟩:=g
 obtain⟨v1,v4,rfl,fl,f1,f4⟩:=hf
 obtain⟨v5,v6,rfl,vf9,g5,g6⟩:=hg
 dsimp only at fl f1 f4 vf9 g5 g6
 obtain⟨p1,c1,rfl,_⟩:=f1.shape
 obtain⟨p4,c4,rfl,_⟩:=f4.shape
 obtain⟨vfb,c5,rfl,_⟩:=g5.shape
 obtain⟨p6,c6,rfl,_⟩:=g6.shape
 have hA:=(zb w).alloc zr (.cells #[str fn,.int .u8 fk,.bool fp,.slice p1 vf5.length c1,.slice p4 vf6.length c4] 58)
 have hC:=hA.alloc hA.size (.cells #[str gn,.int .u8 gk,.bool vfa,.slice vfb vf7.length c5,.slice p6 vf8.length c6] 58)
 have k1:=aD (.cells #[str gn,.int .u8 gk,.bool vfa,.slice vfb vf7.length c5,.slice p6 vf8.length c6] 58) (heap_alloc_new w (.cells #[str fn,.int .u8 fk,.bool fp,.slice p1 vf5.length c1,.slice p4 vf6.length c4] 58))
 have k2:=cI (w:=w.alloc (.cells #[str fn,.int .u8 fk,.bool fp,.slice p1 vf5.length c1,.slice p4 vf6.length c4] 58)) (n:=w.heap.size+1) (by simp) #[str gn,.int .u8 gk,.bool vfa,.slice vfb vf7.length c5,.slice p6 vf8.length c6] 58
 have vet:dO Any ((w.alloc (.cells #[str fn,.int .u8 fk,.bool fp,.slice p1 vf5.length c1,.slice p4 vf6.length c4] 58)).alloc (.cells #[str gn,.int .u8 gk,.bool vfa,.slice vfb vf7.length c5,.slice p6 vf8.length c6] 58)) (.agg #[str fn,.int .u8 fk,.bool fp,.slice p1 vf5.length c1,.slice p4 vf6.length c4]) ⟨fn,fk,fp,vf5,vf6⟩:=⟨_,_,rfl,fl,f1.below hC zr,f4.below hC zr⟩
 have vew:dO Any ((w.alloc (.cells #[str fn,.int .u8 fk,.bool fp,.slice p1 vf5.length c1,.slice p4 vf6.length c4] 58)).alloc (.cells #[str gn,.int .u8 gk,.bool vfa,.slice vfb vf7.length c5,.slice p6 vf8.length c6] 58)) (.agg #[str gn,.int .u8 gk,.bool vfa,.slice vfb vf7.length c5,.slice p6 vf8.length c6]) ⟨gn,gk,vfa,vf7,vf8⟩:=⟨_,_,rfl,vf9,g5.below hC zr,g6.below hC zr⟩
 have vcm:=Ll [⟨fn,fk,fp,vf5,vf6⟩,⟨gn,gk,vfa,vf7,vf8⟩] _ _ (wO (D:=Any) ((w.alloc (.cells #[str fn,.int .u8 fk,.bool fp,.slice p1 vf5.length c1,.slice p4 vf6.length c4] 58)).alloc (.cells #[str gn,.int .u8 gk,.bool vfa,.slice vfb vf7.length c5,.slice p6 vf8.length c6] 58)) (w.heap.size+1+1) (by simp) trivial (l:=[⟨fn,fk,fp,vf5,vf6⟩,⟨gn,gk,vfa,vf7,vf8⟩]) 58 (by simp[maxLen]) ⟨_,_,_,rfl,fl,f1.below hC zr,f4.below hC zr,_,_,[],rfl,vf9,g5.below hC zr,g6.below hC zr,rfl⟩)
 have HT:=zh (λW (hW:Below w.heap.size w W)=>ht.below hW zr)
 have hD:=hC.alloc hC.size (.cells #[str fn,.int .u8 fk,.bool fp,.slice p1 vf5.length c1,.slice p4 vf6.length c4,str gn,.int .u8 gk,.bool vfa,.slice vfb vf7.length c5,.slice p6 vf8.length c6] 58)
 have b1:=bz k1
 have b2:=bz k2
 rcases q0:pQ [⟨fn,fk,fp,vf5,vf6⟩,⟨gn,gk,vfa,vf7,vf8⟩] with _|_
 · rw[q0] at vcm
   clear vet vew q0;go_enter Tryz.func11,Tryz.ntmps11;go_wp2_with (first
    | (go_at_call 18;refine(JW _ (HT.out w5 B5)).mono ?_;rintro e w6 ⟨rfl,jJ⟩)
    | (go_at_call 15;refine vcm.mono ?_;clear vcm;rintro e w5 ⟨rfl,eT⟩;have B5:=hD.trans (af eT hD.size)))
   go_ret;exact⟨rfl,B5.trans (af jJ B5.size)⟩
 rw[q0] at vcm
 have hfn:=vb5 q0
 have fb:=hfn ⟨fn,fk,fp,vf5,vf6⟩ (by simp)
 have gb:=hfn ⟨gn,gk,vfa,vf7,vf8⟩ (by simp)
 have HS:=λW' (hW:Below ((w.alloc (.cells #[str fn,.int .u8 fk,.bool fp,.slice p1 vf5.length c1,.slice p4 vf6.length c4] 58)).alloc (.cells #[str gn,.int .u8 gk,.bool vfa,.slice vfb vf7.length c5,.slice p6 vf8.length c6] 58)).heap.size ((w.alloc (.cells #[str fn,.int .u8 fk,.bool fp,.slice p1 vf5.length c1,.slice p4 vf6.length c4] 58)).alloc (.cells #[str gn,.int .u8 gk,.bool vfa,.slice vfb vf7.length c5,.slice p6 vf8.length c6] 58)) W')=>JW W' (HT.out W' (hC.trans (af hW hC.size)))
 have veq:=λW' (hW:Below ((w.alloc (.cells #[str fn,.int .u8 fk,.bool fp,.slice p1 vf5.length c1,.slice p4 vf6.length c4] 58)).alloc (.cells #[str gn,.int .u8 gk,.bool vfa,.slice vfb vf7.length c5,.slice p6 vf8.length c6] 58)).heap.size ((w.alloc (.cells #[str fn,.int .u8 fk,.bool fp,.slice p1 vf5.length c1,.slice p4 vf6.length c4] 58)).alloc (.cells #[str gn,.int .u8 gk,.bool vfa,.slice vfb vf7.length c5,.slice p6 vf8.length c6] 58)) W')=>vay _ _ _ _ W' (HT.out W' (hC.trans (af hW hC.size))) (vet.below hW zr) (vew.below hW zr) fb gb
 have ver:=λW' (hW:Below ((w.alloc (.cells #[str fn,.int .u8 fk,.bool fp,.slice p1 vf5.length c1,.slice p4 vf6.length c4] 58)).alloc (.cells #[str gn,.int .u8 gk,.bool vfa,.slice vfb vf7.length c5,.slice p6 vf8.length c6] 58)).heap.size ((w.alloc (.cells #[str fn,.int .u8 fk,.bool fp,.slice p1 vf5.length c1,.slice p4 vf6.length c4] 58)).alloc (.cells #[str gn,.int .u8 gk,.bool vfa,.slice vfb vf7.length c5,.slice p6 vf8.length c6] 58)) W')=>vaw _ _ _ _ W' (vet.below hW zr) (vew.below hW zr)
 have E3:=λW' (hW:Below ((w.alloc (.cells #[str fn,.int .u8 fk,.bool fp,.slice p1 vf5.length c1,.slice p4 vf6.length c4] 58)).alloc (.cells #[str gn,.int .u8 gk,.bool vfa,.slice vfb vf7.length c5,.slice p6 vf8.length c6] 58)).heap.size ((w.alloc (.cells #[str fn,.int .u8 fk,.bool fp,.slice p1 vf5.length c1,.slice p4 vf6.length c4] 58)).alloc (.cells #[str gn,.int .u8 gk,.bool vfa,.slice vfb vf7.length c5,.slice p6 vf8.length c6] 58)) W')=>Fc _ _ W' (HT.out W' (hC.trans (af hW hC.size))) (vet.below hW zr) fb
 have E4:=λW' (hW:Below ((w.alloc (.cells #[str fn,.int .u8 fk,.bool fp,.slice p1 vf5.length c1,.slice p4 vf6.length c4] 58)).alloc (.cells #[str gn,.int .u8 gk,.bool vfa,.slice vfb vf7.length c5,.slice p6 vf8.length c6] 58)).heap.size ((w.alloc (.cells #[str fn,.int .u8 fk,.bool fp,.slice p1 vf5.length c1,.slice p4 vf6.length c4] 58)).alloc (.cells #[str gn,.int .u8 gk,.bool vfa,.slice vfb vf7.length c5,.slice p6 vf8.length c6] 58)) W')=>vbk _ _ W' (vet.below hW zr)
 have HK:=zh (λW' (hW:Below ((w.alloc (.cells #[str fn,.int .u8 fk,.bool fp,.slice p1 vf5.length c1,.slice p4 vf6.length c4] 58)).alloc (.cells #[str gn,.int .u8 gk,.bool vfa,.slice vfb vf7.length c5,.slice p6 vf8.length c6] 58)).heap.size ((w.alloc (.cells #[str fn,.int .u8 fk,.bool fp,.slice p1 vf5.length c1,.slice p4 vf6.length c4] 58)).alloc (.cells #[str gn,.int .u8 gk,.bool vfa,.slice vfb vf7.length c5,.slice p6 vf8.length c6] 58)) W')=>And.intro (bz (ah k1 hW)) (bz (ah k2 hW)))
 have hR:=(zb ((w.alloc (.cells #[str fn,.int .u8 fk,.bool fp,.slice p1 vf5.length c1,.slice p4 vf6.length c4] 58)).alloc (.cells #[str gn,.int .u8 gk,.bool vfa,.slice vfb vf7.length c5,.slice p6 vf8.length c6] 58))).alloc zr (.cells #[str fn,.int .u8 fk,.bool fp,.slice p1 vf5.length c1,.slice p4 vf6.length c4,str gn,.int .u8 gk,.bool vfa,.slice vfb vf7.length c5,.slice p6 vf8.length c6] 58)
 have vdt:=zh hC
 clear vet vew q0 hfn k1 k2 hD hA hC f1 f4 g5 g6 fb gb HT
 generalize vai ⟨fn,fk,fp,vf5,vf6⟩ ⟨gn,gk,vfa,vf7,vf8⟩=X at *
 generalize uF ⟨fn,fk,fp,vf5,vf6⟩=Y at *
 go_enter Tryz.func11,Tryz.ntmps11
 go_wp2_with (first
  | (go_at_call 49;refine(rT Y.1 Y.1 _ _ yY U8 U9).mono ?_;rintro e Mp ⟨he,vdf⟩;rw[decide_eq_true (rfl:Y.1=Y.1)] at he;subst he;have LC:=OE.trans (af vdf OE.size))
  | (go_at_call 18;refine(HS w9 B9).mono ?_;rintro e yY ⟨rfl,DL⟩;have OE:=B9.trans (af DL B9.size);have U8:=(S8.below Me zr).below DL zr;have U9:=vf2.below DL zr)
  | (go_at_call 48;refine(E4 w8 B8).mono ?_;clear E4;rintro e w9 ⟨u9,rfl,vf2,Me⟩;obtain⟨p9,c9,rfl,_⟩:=vf2.shape;have B9:=B8.trans (af Me B8.size);have S0:=HK.out w9 B9)
  | (go_at_call 47;refine(E3 w7 B7).mono ?_;clear E3;rintro e w8 ⟨u8,rfl,S8,tG⟩;obtain⟨vfd,c8,rfl,_⟩:=S8.shape;have B8:=B7.trans (af tG B7.size);have SZ:=HK.out w8 B8)
  | (go_at_call 46;refine(ver w6 B6).mono ?_;clear ver;rintro e w7 ⟨rfl,sB⟩;have B7:=B6.trans (af sB B6.size);have SY:=HK.out w7 B7)
  | (go_at_call 45;refine(veq w5 B5).mono ?_;clear veq;rintro e w6 ⟨rfl,jJ⟩;have B6:=B5.trans (af jJ B5.size);have vem:=HK.out w6 B6)
  | (go_at_call 15;refine vcm.mono ?_;clear vcm;rintro e w5 ⟨rfl,eT⟩;have B5:=hR.trans (af eT hR.size);have vel:=HK.out w5 B5))
 go_ret
 exact⟨by simp,vdt.out.trans (af LC vdt.out.size)⟩
end Go.Proofs.YtakgjcfkdemipaaGreatDoor
