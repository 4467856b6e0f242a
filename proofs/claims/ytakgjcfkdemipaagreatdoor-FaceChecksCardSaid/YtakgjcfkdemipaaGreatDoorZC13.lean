/-
  Lemmas for the statement: the law FaceChecks answers true. Conditions: bounds of lengths; the variable strings.asciiSpace.
-/
import Derived.Test.YtakgjcfkdemipaaGreatDoorZB33
import Derived.Test.YtakgjcfkdemipaaGreatDoorZBn
import Derived.Test.YtakgjcfkdemipaaGreatDoorZC8
import Derived.Test.YtakgjcfkdemipaaGreatDoorZC11
import Derived.Test.YtakgjcfkdemipaaGreatDoorZC12
set_option maxHeartbeats 25600000
namespace Go.Proofs.YtakgjcfkdemipaaGreatDoor
open Go Go.RowKit
set_option maxRecDepth 8000 in
theorem vdt {D:Nat→Prop} (l:List aA) (v:Value) (n:List UInt8) (w:World) (hv:bG D w v l):
 Calls Tryz.prog 43 #[v,str n] w λe w'=>∃u,e=.returned (.tuple #[u,.int .i64 (vai l n).2])∧dO Any w' u (vai l n).1∧Below w.heap.size w w':=by
 have FO:=(zb w).alloc zr (.cells #[.string ⟨#[]⟩,.int .u8 0,.bool false,.slice none 0 0,.slice none 0 0] 58)
 have Pz:=heap_alloc_new w (.cells #[.string ⟨#[]⟩,.int .u8 0,.bool false,.slice none 0 0,.slice none 0 0] 58)
 have HA:=vcg l D v _ (hv.below FO zr)
 have HT:=λW (hW:Below w.heap.size w W)=>vc5 l n v W (hv.below hW zr)
 have cM:vai l n=if(kS l).2≠0 then(.zero,(kS l).2) else match ew l n with|none=>(.zero,5)|some f=>(f,0):=rfl
 generalize vai l n=RS at *
 generalize kS l=AK at *
 by_cases h0:AK.2=0
 case neg=>
  obtain⟨g1,g2⟩:=bK h0;rw[if_pos h0] at cM;have HX:=zh cM;obtain⟨p,c,rfl,_⟩:=hv.shape;clear h0 cM HT hv;go_enter Tryz.func43,Tryz.ntmps43;go_wp2_with (go_at_call 41;refine HA.mono ?_;clear HA;rintro e w1 ⟨rfl,au⟩;have bL:=FO.trans (af au (by simp));have hg1:=ah Pz au;have b1:=bz hg1);refine bodyPost_ret (v:=.tuple #[mD,.int .i64 AK.2]) (by simp[results,Tryz.results43,go_sem,b1.1]) rfl ?_;rw[HX.out];exact⟨_,rfl,dO.zero _ _,Below.vak bL (b:=w.heap.size) zr _ _ _ _ _⟩
 rw[if_neg (by simpa using h0)] at cM
 rw[h0] at HA
 rcases xC (vag n) l 0 with⟨h1,h2⟩|⟨k,f,h1,h2,h3⟩
 · rw[vac] at h2
   rw[h2] at cM;rw[h1] at HT;have HX:=zh cM;obtain⟨p,c,rfl,_⟩:=hv.shape;clear cM h1 h2 hv h0;go_enter Tryz.func43,Tryz.ntmps43;go_wp2_with (first
    | (go_at_call 95;refine(HT _ bL).mono ?_;clear HT;rintro e w2 ⟨rfl,aC⟩;have cD:=bL.trans (af aC bL.size);have hg2:=ah hg1 aC;have b2:=bz hg2)
    | (go_at_call 41;refine HA.mono ?_;clear HA;rintro e w1 ⟨rfl,au⟩;have bL:=FO.trans (af au (by simp));have hg1:=ah Pz au;have b1:=bz hg1))
   refine bodyPost_ret (v:=.tuple #[mD,.int .i64 5]) (by simp[results,Tryz.results43,go_sem,b2.1]) rfl ?_;rw[HX.out];exact⟨_,rfl,dO.zero _ _,Below.vak cD (b:=w.heap.size) zr _ _ _ _ _⟩
 · rw[vac] at h2
   rw[h2] at cM;dsimp only at cM;rw[h1,Nat.zero_add] at HT;have NU:k<l.length:=(List.getElem?_eq_some_iff.1 h3).1;have hki:¬((k:Int)<0):=by omega
   obtain⟨p,c,rfl,hlc,hlm,_⟩:=hv.shape;unfold maxLen at hlm;obtain⟨b1,o1,Hq,I4,rfl,_,hfl,wU,zx,e0,e1,e2,e3,e4⟩:=hv.at h3;obtain⟨po,co,rfl,_⟩:=zx.shape;obtain⟨pn,cn,rfl,_⟩:=wU.shape;have HX:=zh cM;clear cM h1 h2 h3 hv h0;go_enter Tryz.func43,Tryz.ntmps43;go_wp2_with (first
    | (go_at_call 95;refine(HT _ bL).mono ?_;clear HT;rintro e w2 ⟨rfl,aC⟩;have cD:=bL.trans (af aC bL.size);have hg2:=ah hg1 aC;have b2:=bz hg2;have c0:=Below.keep cD e0;have c1:=Below.keep cD e1;have c2:=Below.keep cD e2;have c3:=Below.keep cD e3;have c4:=Below.keep cD e4)
    | (go_at_call 41;refine HA.mono ?_;clear HA;rintro e w1 ⟨rfl,au⟩;have bL:=FO.trans (af au (by simp));have hg1:=ah Pz au))
   refine bodyPost_ret (v:=.tuple #[.agg #[str f.name,.int .u8 f.kind,.bool f.par,.slice pn f.ag.length cn,.slice po f.ops.length co],.int .i64 0]) (by simp[results,Tryz.results43,go_sem,b2.1]) rfl ?_;rw[HX.out];refine⟨_,rfl,⟨_,_,rfl,hfl,?_,?_⟩,Below.vak cD (b:=w.heap.size) zr _ _ _ _ _⟩
   · exact(aY.vak (wU.fresh.below cD zr) (b:=w.heap.size) (λb hb=>by have:=hb.2;omega) _ _ _ _ _).mono λ_ _=>trivial
   · exact(aY.vak (zx.fresh.below cD zr) (b:=w.heap.size) (λb hb=>by have:=hb.2;omega) _ _ _ _ _).mono λ_ _=>trivial
set_option maxRecDepth 8000 in
theorem vet {D E:Nat→Prop} (f:aA) (v u:Value) (w:World) (hv:dO D w v f) (hu:dO E w u f):
 Calls Tryz.prog 44 #[v,u] w λe w'=>e=.returned (.bool true)∧Below w.heap.size w w':=by
 obtain⟨n1,o1,rfl,_,xh,jW⟩:=hv
 obtain⟨n2,o2,rfl,_,hn2,zz⟩:=hu
 have HN:=λW (hW:Below w.heap.size w W)=>vbg f.ag f.ag n1 n2 W (xh.below hW zr) (hn2.below hW zr)
 have HO:=λW (hW:Below w.heap.size w W)=>vc7 f.ops f.ops o1 o2 W (jW.below hW zr) (zz.below hW zr)
 obtain⟨p1,c1,rfl,_⟩:=xh.shape
 obtain⟨p2,c2,rfl,_⟩:=hn2.shape
 obtain⟨p3,c3,rfl,_⟩:=jW.shape
 obtain⟨p4,c4,rfl,_⟩:=zz.shape
 rw[show decide (f.ag=f.ag)=true from decide_eq_true rfl] at HN
 rw[show decide (f.ops=f.ops)=true from decide_eq_true rfl] at HO
 have hX:=(zb w).alloc zr (.cells #[str f.name,.int .u8 f.kind,.bool f.par,.slice p1 f.ag.length c1,.slice p3 f.ops.length c3] 58)
 have hY:=hX.alloc (by simp) (.cells #[str f.name,.int .u8 f.kind,.bool f.par,.slice p2 f.ag.length c2,.slice p4 f.ops.length c4] 58)
 have hg1:=aD (.cells #[str f.name,.int .u8 f.kind,.bool f.par,.slice p2 f.ag.length c2,.slice p4 f.ops.length c4] 58) (heap_alloc_new w (.cells #[str f.name,.int .u8 f.kind,.bool f.par,.slice p1 f.ag.length c1,.slice p3 f.ops.length c3] 58))
 have hg2:=heap_alloc_new (w.alloc (.cells #[str f.name,.int .u8 f.kind,.bool f.par,.slice p1 f.ag.length c1,.slice p3 f.ops.length c3] 58)) (.cells #[str f.name,.int .u8 f.kind,.bool f.par,.slice p2 f.ag.length c2,.slice p4 f.ops.length c4] 58)
 rw[World.size_alloc] at hg2
 have b1:=(bz hg1).1
 have b2:=(bz hg2).1
 clear xh hn2 jW zz hX
 go_enter Tryz.func44,Tryz.ntmps44
 go_wp2_with (first
  | (go_at_call 25;refine(HO _ bL).mono ?_;clear HO;rintro e w2 ⟨rfl,aC⟩;have cD:=bL.trans (af aC bL.size))
  | (go_at_call 50;refine(HN _ hY).mono ?_;clear HN;rintro e w1 ⟨rfl,au⟩;have bL:=hY.trans (af au hY.size);have b1:=(bz (ah hg1 au)).1;have b2:=(bz (ah hg2 au)).1))
 go_ret
 exact⟨rfl,cD⟩
theorem vcl {l:List aA} (h:pQ l=true):∀f∈l,f.ag.length≤100000:=λf hf=>by
 rw[LZ,Bool.and_eq_true,List.all_eq_true] at h
 have h1:=h.1 f hf
 unfold jk qQ iD at h1
 simp only[Bool.and_eq_true,decide_eq_true_eq] at h1
 omega
set_option maxRecDepth 8000 in
theorem vck (l : List aA) (n : List UInt8) (lv : Value) (w : World) (hT : dW w) (hl : bG Any w lv l) (hnl : n.length ≤ maxLen) :
 Calls Tryz.prog 9 #[lv,str n] w λe w'=>e=.returned (.bool true)∧Below w.heap.size w w':=by
 obtain⟨vob,lc,rfl,hlc,hlm,_⟩:=hl.shape
 unfold maxLen at hlm
 have hA:=Below.refl w.heap.size w
 have HT:=zh (λW (hW:Below w.heap.size w W)=>hT.below hW zr)
 have HS:=λW hW=>JW W (HT.out W hW)
 have HF:=λW (hW:Below w.heap.size w W)=>Ll l _ W (hl.below hW zr)
 have vnh:=λW=>gI [n] (.slice (some ⟨W.heap.size,0,none⟩) 1 1) (W.alloc (.cells #[str n] 9)) (Bu (D:=Any) W W.heap.size rfl trivial [n] (by simp[maxLen]) (by intro s hs;simp only[List.mem_cons,List.not_mem_nil,or_false] at hs;rcases hs with rfl;assumption) 9)
 rcases q1:pQ l with _|_
 · rw[q1] at HF
   clear vnh q1 hl;go_enter Tryz.func9,Tryz.ntmps9;go_wp2_with (first
    | (go_at_call 18;refine(HS w1 B1).mono ?_;rintro e w99 ⟨rfl,vga⟩)
    | (go_at_call 15;refine(HF w hA).mono ?_;clear HF;rintro e w1 ⟨rfl,au⟩;have B1:=hA.trans au))
   go_ret;exact⟨rfl,B1.trans (af vga B1.size)⟩
 rw[q1] at HF
 have hfn:=vcl q1
 clear q1
 rcases q9:ef [n] with _|_
 · rw[q9] at vnh
   clear q9 hl hfn;go_enter Tryz.func9,Tryz.ntmps9;go_wp2_with (first
    | (go_at_call 18;refine(HS w3 B3).mono ?_;rintro e w99 ⟨rfl,vga⟩)
    | (go_at_call 17;refine(vnh w1).mono ?_;clear vnh;rintro e w3 ⟨rfl,aH⟩;have B3:=(B1.alloc B1.size (.cells #[str n] 9)).trans (af aH (B1.alloc B1.size (.cells #[str n] 9)).size))
    | (go_at_call 15;refine(HF w hA).mono ?_;clear HF;rintro e w1 ⟨rfl,au⟩;have B1:=hA.trans au))
   go_ret;exact⟨rfl,B3.trans (af vga B3.size)⟩
 rw[q9] at vnh
 clear q9
 have HL:=zh (λW (hW:Below w.heap.size w W)=>hl.below hW zr)
 have vjz:=zh hfn
 have vn5:=λW (hW:Below w.heap.size w W)=>uQ l _ W (HT.out W hW) (HL.out W hW) hfn
 have vn6:=λW (hW:Below w.heap.size w W)=>vcg l Any _ W (HL.out W hW)
 have vn7:=λW (hW:Below w.heap.size w W)=>vdj l _ n W (HT.out W hW) (HL.out W hW) hfn hnl
 have vn8:=λW (hW:Below w.heap.size w W)=>vdt l _ n W (HL.out W hW)
 clear hl hfn hT
 generalize vai l n=X at vn7 vn8
 generalize kS l=AK at vn5 vn6
 go_enter Tryz.func9,Tryz.ntmps9
 go_wp2_with (first
  | (go_at_call 17;refine(vnh w1).mono ?_;clear vnh;rintro e w3 ⟨rfl,aH⟩;have B3:=(B1.alloc B1.size (.cells #[str n] 9)).trans (af aH (B1.alloc B1.size (.cells #[str n] 9)).size))
  | (go_at_call 15;refine(HF w hA).mono ?_;clear HF;rintro e w1 ⟨rfl,au⟩;have B1:=hA.trans au))
 go_loopw [5] (λy wx=>∃i:Nat,i≤l.length∧y=.int .i64 i∧Below w.heap.size w wx) (λy _=>l.length - (intOf y).toNat)
 case atStart=>exact⟨0,Nat.zero_le _,by go_num,B3⟩
 case round =>
  obtain⟨i,hi,rfl,hb⟩:=hrel
  by_cases hlt:i<l.length
  case neg=>
   obtain rfl:i=l.length:=by omega
   clear B3 aH au B1;go_wp2_with (first
    | (go_at_call 44;refine(vet X.1 _ _ w8 vky vkz).mono ?_;rintro e w9 ⟨rfl,Me⟩;have B9:=B8.trans (af Me B8.size))
    | (go_at_call 18;refine(HS _ B7).mono ?_;rintro e w8 ⟨rfl,tG⟩;have B8:=B7.trans (af tG B7.size);have vky:=((V6.below sB zr).below vnc zr).below tG zr;have vkz:=V7.below tG zr;have x6:=bz (ah (aD (.cells #[str X.1.name,.int .u8 X.1.kind,.bool X.1.par,.slice voi X.1.ag.length c7,.slice r7 X.1.ops.length d7] 58) (ah vnf sB)) tG);have x7:=bz (ah vng tG))
    | (go_at_call 43;refine(vn8 _ B6).mono ?_;clear vn8;rintro e w7 ⟨u,rfl,⟨vmi,vn2,rfl,vkq,vjy,vjw⟩,sB⟩;obtain⟨voi,c7,rfl,_⟩:=vjy.shape;obtain⟨r7,d7,rfl,_⟩:=vjw.shape;have vnc:=(zb w7).alloc zr (.cells #[str X.1.name,.int .u8 X.1.kind,.bool X.1.par,.slice voi X.1.ag.length c7,.slice r7 X.1.ops.length d7] 58);have vng:=heap_alloc_new w7 (.cells #[str X.1.name,.int .u8 X.1.kind,.bool X.1.par,.slice voi X.1.ag.length c7,.slice r7 X.1.ops.length d7] 58);have V7:=dO.below ⟨_,_,rfl,vkq,vjy,vjw⟩ vnc zr;have B7:=(B6.trans (af sB B6.size)).alloc (Nat.le_trans B6.size sB.size) (.cells #[str X.1.name,.int .u8 X.1.kind,.bool X.1.par,.slice voi X.1.ag.length c7,.slice r7 X.1.ops.length d7] 58);clear vkq vjy vjw)
    | (go_at_call 42;refine(vn7 _ B5).mono ?_;clear vn7;rintro e w6 ⟨u,rfl,⟨vmh,vn1,rfl,vkp,vjx,vjv⟩,jJ⟩;obtain⟨p6,c6,rfl,_⟩:=vjx.shape;obtain⟨vom,d6,rfl,_⟩:=vjv.shape;have vnb:=(zb w6).alloc zr (.cells #[str X.1.name,.int .u8 X.1.kind,.bool X.1.par,.slice p6 X.1.ag.length c6,.slice vom X.1.ops.length d6] 58);have vnf:=heap_alloc_new w6 (.cells #[str X.1.name,.int .u8 X.1.kind,.bool X.1.par,.slice p6 X.1.ag.length c6,.slice vom X.1.ops.length d6] 58);have V6:=dO.below ⟨_,_,rfl,vkp,vjx,vjv⟩ vnb zr;have B6:=(B5.trans (af jJ B5.size)).alloc (Nat.le_trans B5.size jJ.size) (.cells #[str X.1.name,.int .u8 X.1.kind,.bool X.1.par,.slice p6 X.1.ag.length c6,.slice vom X.1.ops.length d6] 58);clear vkp vjx vjv)
    | (go_at_call 41;refine(vn6 _ B4).mono ?_;clear vn6;rintro e w5 ⟨rfl,eT⟩;have B5:=B4.trans (af eT B4.size))
    | (go_at_call 40;refine(vn5 _ hb).mono ?_;clear vn5;rintro e w4 ⟨rfl,hb4⟩;have B4:=hb.trans (af hb4 hb.size)))
   go_ret;exact⟨by simp,B9⟩
  case pos=>
   obtain⟨f,hkx⟩:∃f,l[i]? =some f:=⟨_,List.getElem?_eq_getElem hlt⟩
   have vlx:=vjz.out f (List.mem_of_getElem? hkx);obtain⟨b1,o1,nv,ov,rfl,_,hfl,wU,zx,d0,d1,d2,d3,d4⟩:=(HL.out wr hb).at hkx;obtain⟨pn,cn,rfl,_⟩:=wU.shape;obtain⟨po,co,rfl,_⟩:=zx.shape;have Po:=HT.out wr hb;have hil:(i:Int)<(l.length:Int):=by omega
   clear vn5 vn6 vn7 vn8 HS HL HT vjz hkx;go_upto_region 6 with fail;have hdr:=(Below.refl wr.heap.size wr).drew;have e0:=Below.keep hdr d0;have e1:=Below.keep hdr d1;have e2:=Below.keep hdr d2;have e3:=Below.keep hdr d3;have e4:=Below.keep hdr d4;have hV:dO Any wr.drew (.agg #[str f.name,.int .u8 f.kind,.bool f.par,.slice pn f.ag.length cn,.slice po f.ops.length co]) f:=⟨_,_,rfl,hfl,wU.below hdr zr,zx.below hdr zr⟩;have vf7:=Po.below hdr zr;clear wU zx d0 d1 d2 d3 d4;refine dK (D:=Any) (w:=wr) 10 [(0,vL b1 o1 l.length lc),(5,vI i)] [vL b1 o1 l.length lc,vI i,vP b1 (o1+i * 5),.eq (.agg #[str f.name,.int .u8 f.kind,.bool f.par,.slice pn f.ag.length cn,.slice po f.ops.length co]),vI (iL f),vL b1 o1 l.length lc,vI i,vP b1 (o1+i * 5),.eq (.agg #[str f.name,.int .u8 f.kind,.bool f.par,.slice pn f.ag.length cn,.slice po f.ops.length co]),vI (iL f),vN] (λw'=>aZ [(⟨b1,o1+i * 5,none⟩,str f.name),(⟨b1,o1+i * 5+1,none⟩,.int .u8 f.kind),(⟨b1,o1+i * 5+2,none⟩,.bool f.par),(⟨b1,o1+i * 5+3,none⟩,.slice pn f.ag.length cn),(⟨b1,o1+i * 5+4,none⟩,.slice po f.ops.length co)] w'∧dO Any w' (.agg #[str f.name,.int .u8 f.kind,.bool f.par,.slice pn f.ag.length cn,.slice po f.ops.length co]) f∧dW w') (by kernel_rfl) rfl (λ_ _ h hb=>⟨h.1.below hb,h.2.1.below hb zr,h.2.2.below hb zr⟩) ⟨(by(iterate 5 refine b9 (by assumption) ?_);exact gy),hV,vf7⟩ ⟨rfl,rfl,trivial⟩ ?_ ?_
   · iterate 11
      refine And.intro ?_ ?_
      · first
        | exact dr (by kernel_rfl) rfl
        | exact oe rfl rfl (by kernel_rfl)
        | exact iC rfl (by kernel_rfl) rfl rfl rfl (λw=>by simp[go_sem,hil])
        | exact gv rfl (by kernel_rfl) rfl rfl (λw hS=>by simp[go_sem,(hS.1.get 0 rfl),(hS.1.get 1 rfl),(hS.1.get 2 rfl),(hS.1.get 3 rfl),(hS.1.get 4 rfl)])
        | exact er (s1:=.eq (.agg #[str f.name,.int .u8 f.kind,.bool f.par,.slice pn f.ag.length cn,.slice po f.ops.length co])) rfl (enters_of Tryz.func38 (by kernel_rfl) rfl) (by kernel_rfl) rfl (by kernel_rfl) (λv wx hS h1=>by rw[show v=_ from h1];exact(mR _ f wx hS.2.2 hS.2.1 vlx).mono (by rintro e w' ⟨rfl,hb⟩;exact⟨_,rfl,rfl,hb⟩))
        | exact er (s1:=.eq (.agg #[str f.name,.int .u8 f.kind,.bool f.par,.slice pn f.ag.length cn,.slice po f.ops.length co])) rfl (enters_of Tryz.func39 (by kernel_rfl) rfl) (by kernel_rfl) rfl (by kernel_rfl) (λv wx hS h1=>by rw[show v=_ from h1];exact(Hw _ f wx hS.2.1).mono (by rintro e w' ⟨rfl,hb⟩;exact⟨_,rfl,rfl,hb⟩))
        | exact eW rfl (by kernel_rfl) rfl rfl rfl (λw=>by simp[go_sem])
     exact trivial
   · intro aE wE mo fM _
     simp only[pq,pz,pw];have vlv:=hb.trans (af fM hb.size);clear mo;go_wp2_with fail;exact⟨⟨i+1,hlt,by go_num,vlv⟩,by simp only[intOf];omega⟩
end Go.Proofs.YtakgjcfkdemipaaGreatDoor
