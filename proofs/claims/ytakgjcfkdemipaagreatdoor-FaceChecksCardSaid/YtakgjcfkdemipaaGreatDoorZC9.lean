/-
  Lemmas for the statement: contracts of the reference argusref04: raws, of the parameter. Conditions: bounds of lengths; the variable strings.asciiSpace.
-/
import Derived.Test.YtakgjcfkdemipaaGreatDoorZBn
import Derived.Test.YtakgjcfkdemipaaGreatDoorZC7
set_option maxHeartbeats 25600000
namespace Go.Proofs.YtakgjcfkdemipaaGreatDoor
section
open Go.RowKit
set_option maxRecDepth 8000 in
theorem vd0 {D D':Nat→Prop} (c:bw) (lv nv:Value) (t:List UInt8) (w:World) (hl:bG D w lv c.dG) (hn:aY D' w nv c.ag) (ht:t.length≤maxLen) (hk:(aq t).2.k=3) (h0:(aq t).1=0):
 Calls Tryz.prog 70 #[lv,nv,str t] w λe w'=>∃v,e=.returned v∧va6 w' v (lH [⟨[101,113,117,97,108],⟨false,[t,t],gC,[]⟩⟩]) []∧Below w.heap.size w w':=by
 have HK:=va9 t ht w
 rw[hk,h0] at HK
 obtain⟨pl,cl,rfl,_⟩:=hl.shape
 obtain⟨pn,cn,rfl,_⟩:=hn.shape
 go_enter Tryz.func70,Tryz.ntmps70
 go_upto_region 4 with(go_at_call 128;refine HK.mono ?_;clear HK;rintro e W ⟨rfl,hB⟩)
 obtain⟨L0,yS,vaf,vb8,L9,vb7⟩:=vad hB ht
 go_upto_region 5 with fail
 clear hB
 generalize vcr:W.alloc (.cells #[str t,str t] 9)=W0 at *
 clear vcr
 go_upto_region 21 with fail
 have lp:=(Below.refl W0.heap.size W0)
 go_upto_region 63 with(first
  | (go_at_call 132;refine(va8 ((L9.below lp zr).below au zr) hV (va0 vb7.out (by simp))).mono ?_;rintro e W1 ⟨vni,p2,c2,rfl,hE,va7,aC⟩)
  | (go_at_call 133;refine(va4 [101,113,117,97,108] gC [t,t] [] _ _ _ (vb8.below lp zr) (SS.nil Any _ none 0) (by decide) (by decide)).mono ?_;rintro e w1 ⟨u1,rfl,hV,au⟩;obtain⟨x1,y1,x2,y2,rfl⟩:=hV.vbh))
 obtain⟨bL,Ir,Ko,vey,vco⟩:=va2 vb7.out yS vaf lp au aC hE.out va7
 have vdm:=vb8.below Ir zr
 clear vb8 vb7 L9 yS vaf au aC va7 Ir lp hV hE
 have hL:=va0 vey.out (by simp)
 go_wp2_with fail
 clear vdm
 go_loopw [27,28] (λv y wx=>∃k:Nat,k≤vni.length∧y=.int .i64 k∧va5 W1 [] vni k v wx) (λ_ y _=>vni.length - (intOf y).toNat)
 case atStart=>exact⟨0,Nat.zero_le _,by go_num,va5.zero _ _ _⟩
 case round=>
  obtain⟨k,hk,rfl,hR⟩:=hrel;obtain⟨pv,cv,rfl⟩:=hR.shape
  by_cases hlt:k<vni.length
  case neg=>
   obtain rfl:k=vni.length:=by omega
   go_wp2_with fail;go_ret;exact⟨_,rfl,vey.out▸hR.fin,bL.trans (af hR.1 vco)⟩
  case pos=>
   obtain⟨x,b1,o1,pa,ca,ps,vex,rfl,hX,d0,d1,d2,d3,d4⟩:=hR.at Ko hlt;go_wp2_with (at_builtin;refine va3 hR hX hL _ _ rfl rfl rfl rfl ?_;intro v5 w5 vcq);exact⟨⟨k+1,hlt,by go_num,vcq⟩,by simp only[intOf];omega⟩
set_option maxRecDepth 8000 in
theorem vcz {D D':Nat→Prop} (c:bw) (lv nv:Value) (t:List UInt8) (w:World) (hl:bG D w lv c.dG) (hn:aY D' w nv c.ag) (ht:t.length≤maxLen) (hk:(aq t).2.k=2) (h0:(aq t).1=0):
 Calls Tryz.prog 70 #[lv,nv,str t] w λe w'=>∃v,e=.returned v∧va6 w' v (lH [⟨[97,110,100],⟨false,[t,t],gC,[]⟩⟩,⟨[111,114],⟨false,[t,t],gC,[]⟩⟩,⟨[101,113,117,97,108],⟨false,[t,t],gC,[]⟩⟩,⟨[110,111,116],⟨false,[t],gC,[]⟩⟩]) []∧Below w.heap.size w w':=by
 have HK:=va9 t ht w
 rw[hk,h0] at HK
 obtain⟨pl,cl,rfl,_⟩:=hl.shape
 obtain⟨pn,cn,rfl,_⟩:=hn.shape
 go_enter Tryz.func70,Tryz.ntmps70
 go_upto_region 4 with(go_at_call 128;refine HK.mono ?_;clear HK;rintro e W ⟨rfl,hB⟩)
 obtain⟨L0,yS,vaf,vb8,L9,vb7⟩:=vad hB ht
 go_upto_region 5 with fail
 clear hB
 generalize vcr:W.alloc (.cells #[str t,str t] 9)=W0 at *
 clear vcr
 go_upto_region 16 with fail
 have lp:=(Below.refl W0.heap.size W0)
 go_upto_region 17 with(first
  | (go_at_call 132;refine(va8 ((L9.below lp zr).below au zr) hV (va0 vb7.out (by simp))).mono ?_;rintro e W1 ⟨vni,p2,c2,rfl,hE,va7,aC⟩)
  | (go_at_call 133;refine(va4 [97,110,100] gC [t,t] [] _ _ _ (vb8.below lp zr) (SS.nil Any _ none 0) (by decide) (by decide)).mono ?_;rintro e w1 ⟨u1,rfl,hV,au⟩;obtain⟨x1,y1,x2,y2,rfl⟩:=hV.vbh))
 obtain⟨bL,Ir,Ko,vey,vco⟩:=va2 vb7.out yS vaf lp au aC hE.out va7
 have vdm:=vb8.below Ir zr
 clear vb8 vb7 L9 yS vaf au aC va7 Ir lp hV hE
 have lp:=(Below.refl W1.heap.size W1)
 go_upto_region 18 with(first
  | (go_at_call 132;refine(va8 ((Ko.below lp zr).below au zr) hV (va0 vey.out (by simp))).mono ?_;rintro e W2 ⟨vnj,p2,c2,rfl,hE,va7,aC⟩)
  | (go_at_call 133;refine(va4 [111,114] gC [t,t] [] _ _ _ (vdm.below lp zr) (SS.nil Any _ none 0) (by decide) (by decide)).mono ?_;rintro e w1 ⟨u1,rfl,hV,au⟩;obtain⟨x1,y1,x2,y2,rfl⟩:=hV.vbh))
 obtain⟨cD,vg6,Kq,vcp,vej⟩:=va2 vey.out bL vco lp au aC hE.out va7
 have vf7:=vdm.below vg6 zr
 clear vdm vey Ko bL vco au aC va7 vg6 lp hV hE
 have lp:=(Below.refl W2.heap.size W2)
 go_upto_region 19 with(first
  | (go_at_call 132;refine(va8 ((Kq.below lp zr).below au zr) hV (va0 vcp.out (by simp))).mono ?_;rintro e W3 ⟨vnk,p2,c2,rfl,hE,va7,aC⟩)
  | (go_at_call 133;refine(va4 [101,113,117,97,108] gC [t,t] [] _ _ _ (vf7.below lp zr) (SS.nil Any _ none 0) (by decide) (by decide)).mono ?_;rintro e w1 ⟨u1,rfl,hV,au⟩;obtain⟨x1,y1,x2,y2,rfl⟩:=hV.vbh))
 obtain⟨dx,vi1,RF,vg3,vek⟩:=va2 vcp.out cD vej lp au aC hE.out va7
 have vfq:=vf7.below vi1 zr
 clear vf7 vcp Kq cD vej au aC va7 vi1 lp hV hE
 have lp:=((Below.refl W3.heap.size W3).alloc zr (.cells #[str t] 9))
 go_upto_region 63 with(first
  | (go_at_call 132;refine(va8 ((RF.below lp zr).below au zr) hV (va0 vg3.out (by simp))).mono ?_;rintro e W4 ⟨vnl,p2,c2,rfl,hE,va7,aC⟩)
  | (go_at_call 133;refine(va4 [110,111,116] gC [t] [] _ _ _ (SS.new Any W3 trivial [t] 9 (0,0) (by unfold maxLen;simp) (vae ht)) (SS.nil Any _ none 0) (by decide) (by decide)).mono ?_;rintro e w1 ⟨u1,rfl,hV,au⟩;obtain⟨x1,y1,x2,y2,rfl⟩:=hV.vbh))
 obtain⟨eD,vg7,Ph,vgk,vf4⟩:=va2 vg3.out dx vek lp au aC hE.out va7
 have vhs:=vfq.below vg7 zr
 clear vfq vg3 RF dx vek au aC va7 vg7 lp hV hE
 have hL:=va0 vgk.out (by simp)
 go_wp2_with fail
 clear vhs
 go_loopw [27,28] (λv y wx=>∃k:Nat,k≤vnl.length∧y=.int .i64 k∧va5 W4 [] vnl k v wx) (λ_ y _=>vnl.length - (intOf y).toNat)
 case atStart=>exact⟨0,Nat.zero_le _,by go_num,va5.zero _ _ _⟩
 case round=>
  obtain⟨k,hk,rfl,hR⟩:=hrel;obtain⟨pv,cv,rfl⟩:=hR.shape
  by_cases hlt:k<vnl.length
  case neg=>
   obtain rfl:k=vnl.length:=by omega
   go_wp2_with fail;go_ret;exact⟨_,rfl,vgk.out▸hR.fin,eD.trans (af hR.1 vf4)⟩
  case pos=>
   obtain⟨x,b1,o1,pa,ca,ps,vex,rfl,hX,d0,d1,d2,d3,d4⟩:=hR.at Ph hlt;go_wp2_with (at_builtin;refine va3 hR hX hL _ _ rfl rfl rfl rfl ?_;intro v5 w5 vcq);exact⟨⟨k+1,hlt,by go_num,vcq⟩,by simp only[intOf];omega⟩
set_option maxRecDepth 8000 in
theorem ve2 {D D':Nat→Prop} (c:bw) (lv nv:Value) (t:List UInt8) (w:World) (hl:bG D w lv c.dG) (hn:aY D' w nv c.ag) (ht:t.length≤maxLen) (hk:(aq t).2.k=1) (h0:(aq t).1=0):
 Calls Tryz.prog 70 #[lv,nv,str t] w λe w'=>∃v,e=.returned v∧va6 w' v (lH [⟨[97,100,100],⟨false,[t,t],mA,[[111,118,101,114,102,108,111,119]]⟩⟩,⟨[115,117,98],⟨false,[t,t],mA,[[111,118,101,114,102,108,111,119]]⟩⟩,⟨[109,117,108],⟨false,[t,t],mA,[[111,118,101,114,102,108,111,119]]⟩⟩,⟨[100,105,118],⟨false,[t,t],mA,[[122,101,114,111,100,105,118,105,100,101]]⟩⟩,⟨[109,111,100],⟨false,[t,t],mA,[[122,101,114,111,100,105,118,105,100,101]]⟩⟩,⟨[108,116],⟨false,[t,t],gC,[]⟩⟩,⟨[108,101],⟨false,[t,t],gC,[]⟩⟩,⟨[101,113,117,97,108],⟨false,[t,t],gC,[]⟩⟩]) []∧Below w.heap.size w w':=by
 have HK:=va9 t ht w
 rw[hk,h0] at HK
 obtain⟨pl,cl,rfl,_⟩:=hl.shape
 obtain⟨pn,cn,rfl,_⟩:=hn.shape
 go_enter Tryz.func70,Tryz.ntmps70
 go_upto_region 4 with(go_at_call 128;refine HK.mono ?_;clear HK;rintro e W ⟨rfl,hB⟩)
 obtain⟨L0,yS,vaf,vb8,L9,vb7⟩:=vad hB ht
 go_upto_region 5 with fail
 clear hB
 generalize vcr:W.alloc (.cells #[str t,str t] 9)=W0 at *
 clear vcr
 go_upto_region 7 with fail
 have lp:=((Below.refl W0.heap.size W0).alloc zr (.cells #[str [111,118,101,114,102,108,111,119]] 9))
 go_upto_region 8 with(first
  | (go_at_call 132;refine(va8 ((L9.below lp zr).below au zr) hV (va0 vb7.out (by simp))).mono ?_;rintro e W1 ⟨vni,p2,c2,rfl,hE,va7,aC⟩)
  | (go_at_call 133;refine(va4 [97,100,100] mA [t,t] [[111,118,101,114,102,108,111,119]] _ _ _ (vb8.below lp zr) (SS.new Any W0 trivial [[111,118,101,114,102,108,111,119]] 9 (0,0) (by unfold maxLen;simp) (vae (by decide))) (by decide) (by decide)).mono ?_;rintro e w1 ⟨u1,rfl,hV,au⟩;obtain⟨x1,y1,x2,y2,rfl⟩:=hV.vbh))
 obtain⟨bL,Ir,Ko,vey,vco⟩:=va2 vb7.out yS vaf lp au aC hE.out va7
 have vdm:=vb8.below Ir zr
 clear vb8 vb7 L9 yS vaf au aC va7 Ir lp hV hE
 have lp:=((Below.refl W1.heap.size W1).alloc zr (.cells #[str [111,118,101,114,102,108,111,119]] 9))
 go_upto_region 9 with(first
  | (go_at_call 132;refine(va8 ((Ko.below lp zr).below au zr) hV (va0 vey.out (by simp))).mono ?_;rintro e W2 ⟨vnj,p2,c2,rfl,hE,va7,aC⟩)
  | (go_at_call 133;refine(va4 [115,117,98] mA [t,t] [[111,118,101,114,102,108,111,119]] _ _ _ (vdm.below lp zr) (SS.new Any W1 trivial [[111,118,101,114,102,108,111,119]] 9 (0,0) (by unfold maxLen;simp) (vae (by decide))) (by decide) (by decide)).mono ?_;rintro e w1 ⟨u1,rfl,hV,au⟩;obtain⟨x1,y1,x2,y2,rfl⟩:=hV.vbh))
 obtain⟨cD,vg6,Kq,vcp,vej⟩:=va2 vey.out bL vco lp au aC hE.out va7
 have vf7:=vdm.below vg6 zr
 clear vdm vey Ko bL vco au aC va7 vg6 lp hV hE
 have lp:=((Below.refl W2.heap.size W2).alloc zr (.cells #[str [111,118,101,114,102,108,111,119]] 9))
 go_upto_region 10 with(first
  | (go_at_call 132;refine(va8 ((Kq.below lp zr).below au zr) hV (va0 vcp.out (by simp))).mono ?_;rintro e W3 ⟨vnk,p2,c2,rfl,hE,va7,aC⟩)
  | (go_at_call 133;refine(va4 [109,117,108] mA [t,t] [[111,118,101,114,102,108,111,119]] _ _ _ (vf7.below lp zr) (SS.new Any W2 trivial [[111,118,101,114,102,108,111,119]] 9 (0,0) (by unfold maxLen;simp) (vae (by decide))) (by decide) (by decide)).mono ?_;rintro e w1 ⟨u1,rfl,hV,au⟩;obtain⟨x1,y1,x2,y2,rfl⟩:=hV.vbh))
 obtain⟨dx,vi1,RF,vg3,vek⟩:=va2 vcp.out cD vej lp au aC hE.out va7
 have vfq:=vf7.below vi1 zr
 clear vf7 vcp Kq cD vej au aC va7 vi1 lp hV hE
 have lp:=((Below.refl W3.heap.size W3).alloc zr (.cells #[str [122,101,114,111,100,105,118,105,100,101]] 9))
 go_upto_region 11 with(first
  | (go_at_call 132;refine(va8 ((RF.below lp zr).below au zr) hV (va0 vg3.out (by simp))).mono ?_;rintro e W4 ⟨vnl,p2,c2,rfl,hE,va7,aC⟩)
  | (go_at_call 133;refine(va4 [100,105,118] mA [t,t] [[122,101,114,111,100,105,118,105,100,101]] _ _ _ (vfq.below lp zr) (SS.new Any W3 trivial [[122,101,114,111,100,105,118,105,100,101]] 9 (0,0) (by unfold maxLen;simp) (vae (by decide))) (by decide) (by decide)).mono ?_;rintro e w1 ⟨u1,rfl,hV,au⟩;obtain⟨x1,y1,x2,y2,rfl⟩:=hV.vbh))
 obtain⟨eD,vg7,Ph,vgk,vf4⟩:=va2 vg3.out dx vek lp au aC hE.out va7
 have vhs:=vfq.below vg7 zr
 clear vfq vg3 RF dx vek au aC va7 vg7 lp hV hE
 have lp:=((Below.refl W4.heap.size W4).alloc zr (.cells #[str [122,101,114,111,100,105,118,105,100,101]] 9))
 go_upto_region 12 with(first
  | (go_at_call 132;refine(va8 ((Ph.below lp zr).below au zr) hV (va0 vgk.out (by simp))).mono ?_;rintro e W5 ⟨vnm,p2,c2,rfl,hE,va7,aC⟩)
  | (go_at_call 133;refine(va4 [109,111,100] mA [t,t] [[122,101,114,111,100,105,118,105,100,101]] _ _ _ (vhs.below lp zr) (SS.new Any W4 trivial [[122,101,114,111,100,105,118,105,100,101]] 9 (0,0) (by unfold maxLen;simp) (vae (by decide))) (by decide) (by decide)).mono ?_;rintro e w1 ⟨u1,rfl,hV,au⟩;obtain⟨x1,y1,x2,y2,rfl⟩:=hV.vbh))
 obtain⟨kH,Ku,vif,vj0,vh9⟩:=va2 vgk.out eD vf4 lp au aC hE.out va7
 have vja:=vhs.below Ku zr
 clear vhs vgk Ph eD vf4 au aC va7 Ku lp hV hE
 have lp:=(Below.refl W5.heap.size W5)
 go_upto_region 13 with(first
  | (go_at_call 132;refine(va8 ((vif.below lp zr).below au zr) hV (va0 vj0.out (by simp))).mono ?_;rintro e W6 ⟨vnn,p2,c2,rfl,hE,va7,aC⟩)
  | (go_at_call 133;refine(va4 [108,116] gC [t,t] [] _ _ _ (vja.below lp zr) (SS.nil Any _ none 0) (by decide) (by decide)).mono ?_;rintro e w1 ⟨u1,rfl,hV,au⟩;obtain⟨x1,y1,x2,y2,rfl⟩:=hV.vbh))
 obtain⟨FM,Kv,Ni,vj1,vha⟩:=va2 vj0.out kH vh9 lp au aC hE.out va7
 have vjb:=vja.below Kv zr
 clear vja vj0 vif kH vh9 au aC va7 Kv lp hV hE
 have lp:=(Below.refl W6.heap.size W6)
 go_upto_region 14 with(first
  | (go_at_call 132;refine(va8 ((Ni.below lp zr).below au zr) hV (va0 vj1.out (by simp))).mono ?_;rintro e W7 ⟨vno,p2,c2,rfl,hE,va7,aC⟩)
  | (go_at_call 133;refine(va4 [108,101] gC [t,t] [] _ _ _ (vjb.below lp zr) (SS.nil Any _ none 0) (by decide) (by decide)).mono ?_;rintro e w1 ⟨u1,rfl,hV,au⟩;obtain⟨x1,y1,x2,y2,rfl⟩:=hV.vbh))
 obtain⟨M3,Nx,vd8,vj2,vdk⟩:=va2 vj1.out FM vha lp au aC hE.out va7
 have ved:=vjb.below Nx zr
 clear vjb vj1 Ni FM vha au aC va7 Nx lp hV hE
 have lp:=(Below.refl W7.heap.size W7)
 go_upto_region 63 with(first
  | (go_at_call 132;refine(va8 ((vd8.below lp zr).below au zr) hV (va0 vj2.out (by simp))).mono ?_;rintro e W8 ⟨vnp,p2,c2,rfl,hE,va7,aC⟩)
  | (go_at_call 133;refine(va4 [101,113,117,97,108] gC [t,t] [] _ _ _ (ved.below lp zr) (SS.nil Any _ none 0) (by decide) (by decide)).mono ?_;rintro e w1 ⟨u1,rfl,hV,au⟩;obtain⟨x1,y1,x2,y2,rfl⟩:=hV.vbh))
 obtain⟨vh3,vkd,vig,vk7,viy⟩:=va2 vj2.out M3 vdk lp au aC hE.out va7
 have vlr:=ved.below vkd zr
 clear ved vj2 vd8 M3 vdk au aC va7 vkd lp hV hE
 have hL:=va0 vk7.out (by simp)
 go_wp2_with fail
 clear vlr
 go_loopw [27,28] (λv y wx=>∃k:Nat,k≤vnp.length∧y=.int .i64 k∧va5 W8 [] vnp k v wx) (λ_ y _=>vnp.length - (intOf y).toNat)
 case atStart=>exact⟨0,Nat.zero_le _,by go_num,va5.zero _ _ _⟩
 case round=>
  obtain⟨k,hk,rfl,hR⟩:=hrel;obtain⟨pv,cv,rfl⟩:=hR.shape
  by_cases hlt:k<vnp.length
  case neg=>
   obtain rfl:k=vnp.length:=by omega
   go_wp2_with fail;go_ret;exact⟨_,rfl,vk7.out▸hR.fin,vh3.trans (af hR.1 viy)⟩
  case pos=>
   obtain⟨x,b1,o1,pa,ca,ps,vex,rfl,hX,d0,d1,d2,d3,d4⟩:=hR.at vig hlt;go_wp2_with (at_builtin;refine va3 hR hX hL _ _ rfl rfl rfl rfl ?_;intro v5 w5 vcq);exact⟨⟨k+1,hlt,by go_num,vcq⟩,by simp only[intOf];omega⟩
set_option maxRecDepth 8000 in
theorem vci {D D':Nat→Prop} (c:bw) (lv nv:Value) (t:List UInt8) (w:World) (hl:bG D w lv c.dG) (hn:aY D' w nv c.ag) (ht:t.length≤maxLen) (hk:(aq t).2.k=4) (h0:(aq t).1=0) (ta:List UInt8) (Ur:(bQ t).1=ta) (hat:ta.length≤maxLen):
 Calls Tryz.prog 70 #[lv,nv,str t] w λe w'=>∃v,e=.returned v∧va6 w' v (lH [⟨[110,101,119],⟨false,[],t,[]⟩⟩,⟨[115,105,122,101],⟨false,[t],mA,[]⟩⟩,⟨[97,100,100,104],⟨false,[t,ta],[],[[111,118,101,114,102,108,111,119]]⟩⟩,⟨[114,101,109,104],⟨false,[t],ta,[[98,111,117,110,100,115]]⟩⟩,⟨[102,101,116,99,104],⟨false,[t,mA],ta,[[98,111,117,110,100,115]]⟩⟩,⟨[115,116,111,114,101],⟨false,[t,mA,ta],[],[[98,111,117,110,100,115]]⟩⟩,⟨[101,113,117,97,108],⟨false,[t,t],gC,[]⟩⟩]) []∧Below w.heap.size w w':=by
 have HK:=va9 t ht w
 rw[hk,h0] at HK
 obtain⟨pl,cl,rfl,_⟩:=hl.shape
 obtain⟨pn,cn,rfl,_⟩:=hn.shape
 have HA:=λW=>vbe t ht W
 rw[Ur] at HA
 go_enter Tryz.func70,Tryz.ntmps70
 go_upto_region 4 with(go_at_call 128;refine HK.mono ?_;clear HK;rintro e W ⟨rfl,hB⟩)
 obtain⟨L0,yS,vaf,vb8,L9,vb7⟩:=vad hB ht
 go_upto_region 5 with fail
 clear hB
 generalize vcr:W.alloc (.cells #[str t,str t] 9)=W0 at *
 clear vcr
 go_upto_region 24 with(go_at_call 130;refine(HA W0).mono ?_;rintro e W20 ⟨rfl,mT⟩)
 have vhm:=vb8.below mT zr
 have vhd:=L9.below mT zr
 have vgw:=yS.trans (af mT vaf)
 have vfi:=Nat.le_trans vaf mT.size
 have vfw:=vb7
 clear vb8 L9 yS vaf vb7 mT HA
 have lp:=(Below.refl W20.heap.size W20)
 go_upto_region 25 with(first
  | (go_at_call 132;refine(va8 ((vhd.below lp zr).below au zr) hV (va0 vfw.out (by simp))).mono ?_;rintro e W21 ⟨vmb,p2,c2,rfl,hE,va7,aC⟩)
  | (go_at_call 133;refine(va4 [110,101,119] t [] [] _ _ _ (SS.nil Any _ none 0) (SS.nil Any _ none 0) (by decide) ht).mono ?_;rintro e w1 ⟨u1,rfl,hV,au⟩;obtain⟨x1,y1,x2,y2,rfl⟩:=hV.vbh))
 obtain⟨vgx,vhu,vhe,vfx,vfj⟩:=va2 vfw.out vgw vfi lp au aC hE.out va7
 have vhn:=vhm.below vhu zr
 clear vhm vfw vhd vgw vfi au aC va7 vhu lp hV hE
 have lp:=((Below.refl W21.heap.size W21).alloc zr (.cells #[str t] 9))
 go_upto_region 26 with(first
  | (go_at_call 132;refine(va8 ((vhe.below lp zr).below au zr) hV (va0 vfx.out (by simp))).mono ?_;rintro e W22 ⟨vmc,p2,c2,rfl,hE,va7,aC⟩)
  | (go_at_call 133;refine(va4 [115,105,122,101] mA [t] [] _ _ _ (SS.new Any W21 trivial [t] 9 (0,0) (by unfold maxLen;simp) (vae ht)) (SS.nil Any _ none 0) (by decide) (by decide)).mono ?_;rintro e w1 ⟨u1,rfl,hV,au⟩;obtain⟨x1,y1,x2,y2,rfl⟩:=hV.vbh))
 obtain⟨vgy,vhv,vhf,vfy,vfk⟩:=va2 vfx.out vgx vfj lp au aC hE.out va7
 have vho:=vhn.below vhv zr
 clear vhn vfx vhe vgx vfj au aC va7 vhv lp hV hE
 have lp:=(((Below.refl W22.heap.size W22).alloc zr (.cells #[str t,str ta] 9)).alloc (by simp) (.cells #[str [111,118,101,114,102,108,111,119]] 9))
 go_upto_region 27 with(first
  | (go_at_call 132;refine(va8 ((vhf.below lp zr).below au zr) hV (va0 vfy.out (by simp))).mono ?_;rintro e W23 ⟨vmd,p2,c2,rfl,hE,va7,aC⟩)
  | (go_at_call 133;refine(va4 [97,100,100,104] [] [t,ta] [[111,118,101,114,102,108,111,119]] _ _ _ ((show SS Any (W22.alloc (.cells #[str t,str ta] 9)) (.slice (some ⟨W22.heap.size,0,none⟩) 2 2) [t,ta] from(SS.new Any W22 trivial [t,ta] 9 (0,0) (by unfold maxLen;simp) (vbv ht hat))).below ((zb (W22.alloc (.cells #[str t,str ta] 9))).alloc zr (.cells #[str [111,118,101,114,102,108,111,119]] 9)) zr) (SS.newAt (w:=(W22.alloc (.cells #[str t,str ta] 9))) (D:=Any) (n:=W22.heap.size+1) (by simp) trivial [[111,118,101,114,102,108,111,119]] 9 (0,0) (by unfold maxLen;simp) (vae (by decide))) (by decide) (by decide)).mono ?_;rintro e w1 ⟨u1,rfl,hV,au⟩;obtain⟨x1,y1,x2,y2,rfl⟩:=hV.vbh))
 obtain⟨vgz,vhw,vhg,vfz,vfl⟩:=va2 vfy.out vgy vfk lp au aC hE.out va7
 have vhp:=vho.below vhw zr
 clear vho vfy vhf vgy vfk au aC va7 vhw lp hV hE
 have lp:=(((Below.refl W23.heap.size W23).alloc zr (.cells #[str t] 9)).alloc (by simp) (.cells #[str [98,111,117,110,100,115]] 9))
 go_upto_region 28 with(first
  | (go_at_call 132;refine(va8 ((vhg.below lp zr).below au zr) hV (va0 vfz.out (by simp))).mono ?_;rintro e W24 ⟨vme,p2,c2,rfl,hE,va7,aC⟩)
  | (go_at_call 133;refine(va4 [114,101,109,104] ta [t] [[98,111,117,110,100,115]] _ _ _ ((show SS Any (W23.alloc (.cells #[str t] 9)) (.slice (some ⟨W23.heap.size,0,none⟩) 1 1) [t] from(SS.new Any W23 trivial [t] 9 (0,0) (by unfold maxLen;simp) (vae ht))).below ((zb (W23.alloc (.cells #[str t] 9))).alloc zr (.cells #[str [98,111,117,110,100,115]] 9)) zr) (SS.newAt (w:=(W23.alloc (.cells #[str t] 9))) (D:=Any) (n:=W23.heap.size+1) (by simp) trivial [[98,111,117,110,100,115]] 9 (0,0) (by unfold maxLen;simp) (vae (by decide))) (by decide) hat).mono ?_;rintro e w1 ⟨u1,rfl,hV,au⟩;obtain⟨x1,y1,x2,y2,rfl⟩:=hV.vbh))
 obtain⟨vh0,vhx,vhh,vg0,vfm⟩:=va2 vfz.out vgz vfl lp au aC hE.out va7
 have vhq:=vhp.below vhx zr
 clear vhp vfz vhg vgz vfl au aC va7 vhx lp hV hE
 have lp:=(((Below.refl W24.heap.size W24).alloc zr (.cells #[str t,str mA] 9)).alloc (by simp) (.cells #[str [98,111,117,110,100,115]] 9))
 go_upto_region 29 with(first
  | (go_at_call 132;refine(va8 ((vhh.below lp zr).below au zr) hV (va0 vg0.out (by simp))).mono ?_;rintro e W25 ⟨vmf,p2,c2,rfl,hE,va7,aC⟩)
  | (go_at_call 133;refine(va4 [102,101,116,99,104] ta [t,mA] [[98,111,117,110,100,115]] _ _ _ ((show SS Any (W24.alloc (.cells #[str t,str mA] 9)) (.slice (some ⟨W24.heap.size,0,none⟩) 2 2) [t,mA] from(SS.new Any W24 trivial [t,mA] 9 (0,0) (by unfold maxLen;simp) (vbv ht (by decide)))).below ((zb (W24.alloc (.cells #[str t,str mA] 9))).alloc zr (.cells #[str [98,111,117,110,100,115]] 9)) zr) (SS.newAt (w:=(W24.alloc (.cells #[str t,str mA] 9))) (D:=Any) (n:=W24.heap.size+1) (by simp) trivial [[98,111,117,110,100,115]] 9 (0,0) (by unfold maxLen;simp) (vae (by decide))) (by decide) hat).mono ?_;rintro e w1 ⟨u1,rfl,hV,au⟩;obtain⟨x1,y1,x2,y2,rfl⟩:=hV.vbh))
 obtain⟨vh1,vhy,vhi,vg1,vfn⟩:=va2 vg0.out vh0 vfm lp au aC hE.out va7
 have vhr:=vhq.below vhy zr
 clear vhq vg0 vhh vh0 vfm au aC va7 vhy lp hV hE
 have lp:=(((Below.refl W25.heap.size W25).alloc zr (.cells #[str t,str mA,str ta] 9)).alloc (by simp) (.cells #[str [98,111,117,110,100,115]] 9))
 go_upto_region 30 with(first
  | (go_at_call 132;refine(va8 ((vhi.below lp zr).below au zr) hV (va0 vg1.out (by simp))).mono ?_;rintro e W26 ⟨vmg,p2,c2,rfl,hE,va7,aC⟩)
  | (go_at_call 133;refine(va4 [115,116,111,114,101] [] [t,mA,ta] [[98,111,117,110,100,115]] _ _ _ ((show SS Any (W25.alloc (.cells #[str t,str mA,str ta] 9)) (.slice (some ⟨W25.heap.size,0,none⟩) 3 3) [t,mA,ta] from(SS.new Any W25 trivial [t,mA,ta] 9 (0,0) (by unfold maxLen;simp) (vfv ht (by decide) hat))).below ((zb (W25.alloc (.cells #[str t,str mA,str ta] 9))).alloc zr (.cells #[str [98,111,117,110,100,115]] 9)) zr) (SS.newAt (w:=(W25.alloc (.cells #[str t,str mA,str ta] 9))) (D:=Any) (n:=W25.heap.size+1) (by simp) trivial [[98,111,117,110,100,115]] 9 (0,0) (by unfold maxLen;simp) (vae (by decide))) (by decide) (by decide)).mono ?_;rintro e w1 ⟨u1,rfl,hV,au⟩;obtain⟨x1,y1,x2,y2,rfl⟩:=hV.vbh))
 obtain⟨vh2,vhz,vhj,vg2,vfo⟩:=va2 vg1.out vh1 vfn lp au aC hE.out va7
 have vg5:=vhr.below vhz zr
 clear vhr vg1 vhi vh1 vfn au aC va7 vhz lp hV hE
 have lp:=(Below.refl W26.heap.size W26)
 go_upto_region 63 with(first
  | (go_at_call 132;refine(va8 ((vhj.below lp zr).below au zr) hV (va0 vg2.out (by simp))).mono ?_;rintro e W27 ⟨vgp,p2,c2,rfl,hE,va7,aC⟩)
  | (go_at_call 133;refine(va4 [101,113,117,97,108] gC [t,t] [] _ _ _ (vg5.below lp zr) (SS.nil Any _ none 0) (by decide) (by decide)).mono ?_;rintro e w1 ⟨u1,rfl,hV,au⟩;obtain⟨x1,y1,x2,y2,rfl⟩:=hV.vbh))
 obtain⟨viv,vi0,vj3,vhb,vh7⟩:=va2 vg2.out vh2 vfo lp au aC hE.out va7
 have vj8:=vg5.below vi0 zr
 clear vg5 vg2 vhj vh2 vfo au aC va7 vi0 lp hV hE
 have hL:=va0 vhb.out (by simp)
 go_wp2_with fail
 clear vj8
 go_loopw [27,28] (λv y wx=>∃k:Nat,k≤vgp.length∧y=.int .i64 k∧va5 W27 [] vgp k v wx) (λ_ y _=>vgp.length - (intOf y).toNat)
 case atStart=>exact⟨0,Nat.zero_le _,by go_num,va5.zero _ _ _⟩
 case round=>
  obtain⟨k,hk,rfl,hR⟩:=hrel;obtain⟨pv,cv,rfl⟩:=hR.shape
  by_cases hlt:k<vgp.length
  case neg=>
   obtain rfl:k=vgp.length:=by omega
   go_wp2_with fail;go_ret;exact⟨_,rfl,vhb.out▸hR.fin,viv.trans (af hR.1 vh7)⟩
  case pos=>
   obtain⟨x,b1,o1,pa,ca,ps,vex,rfl,hX,d0,d1,d2,d3,d4⟩:=hR.at vj3 hlt;go_wp2_with (at_builtin;refine va3 hR hX hL _ _ rfl rfl rfl rfl ?_;intro v5 w5 vcq);exact⟨⟨k+1,hlt,by go_num,vcq⟩,by simp only[intOf];omega⟩
end
section
open Go Go.RowKit
theorem va6.to {w:World} {v:Value} {l l':List aL} {a:List UInt8} (h:va6 w v l a) (e:l=l'):va6 w v l' a:=e▸h
theorem vbw (a b:List UInt8) (h:a.length+b.length≤100000) (x y:Operand) (w:World):(do eqGuard .add 9 x y (str a) (str b);Go.binOp .add 9 (str a) (str b):Sem Value).run Tryz.prog w=.ok (str (a++b)) w:=by
 simp[go_sem]
 omega
theorem vaa {α:Type} (f:α→List aL) (hf:∀x,(f x).length=2):∀l:List α,(l.flatMap f).length=l.length * 2
 | []=>rfl
 | x::l=>by rw[List.flatMap_cons,List.length_append,hf,vaa f hf l,List.length_cons];omega
section
variable {D:Nat→Prop} {ops:Array Oper} {h:Nat} {V:List VS} {E:List (Nat×VS)} {S:World→Prop} {k:Nat} {o:Oper}
theorem veu {t:TypeId} {x y:Operand} {u v r:Value} (ho:o.op=.build t #[(0,x),(1,y)]) (hw:cO ops h V o=some true) (hk:V[k]? =some (.eq r)) (hx:aJ ops h V E o x=some (.eq u)) (hy:aJ ops h V E o y=some (.eq v))
 (hr:∀w,(Instr.build t #[(0,u),(1,v)]).run Tryz.prog w=.ok r w):bM D Tryz.prog S ops h V E k o:=
 AE x y hw hk hx hy λev w hS h1 h2=>by unfold execOp;simp[ho,h1,h2,hr]
theorem stOp {x y z u:Operand} {tys:Array TypeId} {nm rs:List UInt8} {L:List (List UInt8)} (ho:o.op=.call {callee:=.value (.func 133),args:= #[x,y,z,u],argTypes:=tys }) (hw:cO ops h V o=some true) (hk:V[k]? =some (.op ⟨nm,⟨false,L,rs,[]⟩⟩))
 (hx:aJ ops h V E o x=some (.eq (str nm))) (hy:aJ ops h V E o y=some (.ss L)) (hz:aJ ops h V E o z=some (.eq (str rs))) (hu:aJ ops h V E o u=some (.eq (.slice none 0 0))) (hn:nm.length≤maxLen) (hr:rs.length≤maxLen):bM D Tryz.prog S ops h V E k o:=
 vdf ho (enters_of Tryz.func133 (by kernel_rfl) rfl) hw hk hx hy hz hu λv v2 v3 v4 w hS h1 h2 h3 h4=>by
  rw[show v=_ from h1,show v3=_ from h3,show v4=_ from h4];refine(va4 nm rs L [] v2 _ w h2 (SS.nil (λ_=>False) w none 0) hn hr).mono ?_;rintro e w' ⟨q,rfl,hq,hb⟩;exact⟨q,rfl,hq.mono λb hb=>hb.elim id False.elim,hb⟩
theorem vev {x y:Operand} {tys:Array TypeId} {l:List aL} {X:aL} (ho:o.op=.call {callee:=.value (.func 132),args:= #[x,y],argTypes:=tys }) (hw:cO ops h V o=some true) (hk:V[k]? =some (.ops (qX X l)))
 (hx:aJ ops h V E o x=some (.ops l)) (hy:aJ ops h V E o y=some (.op X)) (hl:l.length≤1000) (hD:∀w,S w→∀b,w.heap.size≤b→D b):bM D Tryz.prog S ops h V E k o:=
 gu ho (enters_of Tryz.func132 (by kernel_rfl) rfl) hw hk hx hy λv v2 w hS h1 h2=>by
  refine(vaq l X v v2 w h1 h2 hl).mono ?_;rintro e w' ⟨q,rfl,hq,hb⟩;exact⟨q,rfl,hq.mono λb hb=>hb.elim id λhb=>hb.elim id λhb=>hD w hS b hb,hb⟩
theorem vgg {x y:Operand} {tys:Array TypeId} {l:List aL} {X:aL} {u:Value} (ho:o.op=.call {callee:=.value (.func 132),args:= #[x,y],argTypes:=tys }) (hw:cO ops h V o=some true) (hk:V[k]? =some (.ops (qX X l)))
 (hx:aJ ops h V E o x=some (.ops l)) (hy:aJ ops h V E o y=some (.eq u)) (hl:l.length≤1000) (hD:∀w,S w→∀b,w.heap.size≤b→D b) (hX:∀w,S w→gx D w u X):bM D Tryz.prog S ops h V E k o:=
 gu ho (enters_of Tryz.func132 (by kernel_rfl) rfl) hw hk hx hy λv v2 w hS h1 h2=>by
  rw[show v2=_ from h2];refine(vaq l X v u w h1 (hX w hS) hl).mono ?_;rintro e w' ⟨q,rfl,hq,hb⟩;exact⟨q,rfl,hq.mono λb hb=>hb.elim id λhb=>hb.elim id λhb=>hD w hS b hb,hb⟩
end
end
open Go.RowKit
set_option maxRecDepth 8000 in
theorem ve5 {D D' : Nat → Prop} (c : bw) (lv nv : Value) (t : List UInt8) (w : World) (hl : bG D w lv c.dG) (hn : aY D' w nv c.ag) (ht : t.length ≤ maxLen) (hk : (aq t).2.k = 8) (h0 : (aq t).1 = 0) (PI : c.ag.length ≤ 900) :
 Calls Tryz.prog 70 #[lv,nv,str t] w λe w'=>∃v,e=.returned v∧va6 w' v (lH c.ag) []∧Below w.heap.size w w':=by
 have HK:=va9 t ht w
 rw[hk,h0] at HK
 obtain⟨pl,cl,rfl,_⟩:=hl.shape
 obtain⟨pn,cn,rfl,_⟩:=hn.shape
 go_enter Tryz.func70,Tryz.ntmps70
 go_upto_region 4 with(go_at_call 128;refine HK.mono ?_;clear HK;rintro e W ⟨rfl,hB⟩)
 obtain⟨L0,yS,vaf,vb8,L9,vb7⟩:=vad hB ht
 go_upto_region 5 with fail
 clear hB
 generalize vcr:W.alloc (.cells #[str t,str t] 9)=W0 at *
 clear vcr
 go_wp2_with fail
 go_loopw [9,26] (λv y wx=>∃k:Nat,k≤c.ag.length∧y=.int .i64 k∧Below w.heap.size w wx∧SS Any wx (.slice (some ⟨W.heap.size,0,none⟩) 2 2) [t,t]∧∃vnq,aY Any wx v vnq∧Hid (vnq=lH (c.ag.take k))) (λ_ y _=>c.ag.length - (intOf y).toNat)
 case atStart=>exact⟨0,Nat.zero_le _,by go_num,yS,vb8,L0,L9,vb7⟩
 case round =>
  clear yS vb8 L9 vb7 vaf;obtain⟨k,hk,rfl,hB,hT,vnq,hO,hH⟩:=hrel;have vbi:=hB.size;obtain⟨pv,cv,rfl,_⟩:=hO.shape
  by_cases hlt:k<c.ag.length
  case neg=>
   obtain rfl:k=c.ag.length:=by omega
   rw[List.take_length] at hH;obtain⟨vf0,vcv⟩:∃z,z=wr:=⟨_,rfl⟩
   subst vcv;have vbj:=hT;have vc0:=hO;have vb4:=hH;have vbz:=hB;have vb2:=vbi;clear hT hO hH hB vbi;have hL:=va0 vb4.out (by omega);go_wp2_with fail;clear vbj;go_loopw [27,28] (λv y wx=>∃k:Nat,k≤vnq.length∧y=.int .i64 k∧va5 vf0 [] vnq k v wx) (λ_ y _=>vnq.length - (intOf y).toNat)
   case atStart=>exact⟨0,Nat.zero_le _,by go_num,va5.zero _ _ _⟩
   case round=>
    obtain⟨k,hk,rfl,hR⟩:=hrel;obtain⟨pv,cv,rfl⟩:=hR.shape
    by_cases hlt:k<vnq.length
    case neg=>
     obtain rfl:k=vnq.length:=by omega
     go_wp2_with fail;go_ret;exact⟨_,rfl,vb4.out▸hR.fin,vbz.trans (af hR.1 vb2)⟩
    case pos=>
     obtain⟨x,b1,o1,pa,ca,ps,vex,rfl,hX,d0,d1,d2,d3,d4⟩:=hR.at vc0 hlt;go_wp2_with (at_builtin;refine va3 hR hX hL _ _ rfl rfl rfl rfl ?_;intro v5 w5 vcq);exact⟨⟨k+1,hlt,by go_num,vcq⟩,by simp only[intOf];omega⟩
  case pos=>
   obtain⟨x,hkx⟩:∃x,c.ag[k]? =some x:=⟨_,List.getElem?_eq_getElem hlt⟩
   obtain⟨b1,o1,av,sv,rfl,_,hle,fe,eE,d0,d1,d2,d3,d4⟩:=(hn.below hB zr).at hkx;have hX:gx Any wr (.agg #[str x.name,.bool x.sig.iter,av,str x.sig.res,sv]) x:=⟨_,_,rfl,hle,fe.mono λ_ _=>trivial,eE.mono λ_ _=>trivial⟩;have FP:vnq.length≤1000:=va0 hH.out (by rw[List.length_take];omega);have vcp:=zh (show qX x vnq=lH (c.ag.take (k+1)) by rw[List.take_add_one,hkx,hH.out];exact(vab _ _).symm);clear hkx;go_upto_region 62 with fail;refine jc (D:=Any) (w:=wr) 13 [(1,.eq (.slice (some ⟨b1,o1,none⟩) c.ag.length cn)),(9,.ops vnq),(26,.eq (.int .i64 k))] [(.ops vnq),(.eq (.slice (some ⟨b1,o1,none⟩) c.ag.length cn)),(.eq (.int .i64 k)),(.eq (.pointer (some ⟨b1,o1+k * 5,none⟩))),(.eq (.pointer (some ⟨b1,o1+k * 5,none⟩))),(.eq (str x.name)),(.eq (.slice (some ⟨b1,o1,none⟩) c.ag.length cn)),(.eq (.int .i64 k)),(.eq (.pointer (some ⟨b1,o1+k * 5,none⟩))),(.eq (.pointer (some ⟨b1,o1+k * 5+1,none⟩))),(.eq (.agg #[.bool x.sig.iter,av,str x.sig.res,sv])),(.eq (.agg #[str x.name,.bool x.sig.iter,av,str x.sig.res,sv])),(.ops (qX x vnq)),(.ops (qX x vnq))] (λw'=>aZ [(⟨b1,o1+k * 5,none⟩,str x.name),(⟨b1,o1+k * 5+1,none⟩,.bool x.sig.iter),(⟨b1,o1+k * 5+2,none⟩,av),(⟨b1,o1+k * 5+3,none⟩,str x.sig.res),(⟨b1,o1+k * 5+4,none⟩,sv)] w'∧gx Any w' (.agg #[str x.name,.bool x.sig.iter,av,str x.sig.res,sv]) x) (by kernel_rfl) (by kernel_rfl) (by kernel_rfl) (by kernel_rfl) (by kernel_rfl) (λ_ _ h hb=>⟨h.1.below hb,gx.below h.2 hb zr⟩) ⟨(λp hp=>by simp only[List.mem_cons,List.not_mem_nil,or_false] at hp;rcases hp with rfl|rfl|rfl|rfl|rfl<;>assumption),hX.below (zb wr).drew zr⟩ ?_ ?_ ?_
   · intro p hp
     simp only[List.mem_cons,List.not_mem_nil,or_false] at hp;rcases hp with rfl|rfl|rfl
     · exact rfl
     · exact(hO.below (zb wr).drew zr)
     · exact rfl
   · iterate 14
      refine And.intro ?_ ?_
      · first
        | exact dr (by kernel_rfl) rfl
        | exact Mn (.inl rfl) (by kernel_rfl) rfl (by kernel_rfl)
        | exact Mn (.inr rfl) (by kernel_rfl) rfl (by kernel_rfl)
        | exact EY rfl (by kernel_rfl) rfl rfl (by kernel_rfl)
        | exact Hy rfl (by kernel_rfl) rfl rfl rfl
        | exact eX rfl (by kernel_rfl) (by kernel_rfl) rfl rfl
        | exact gN rfl (by kernel_rfl) rfl rfl (λw=>by simp[go_sem])
        | exact iC rfl (by kernel_rfl) rfl rfl rfl (λw=>by simp[go_sem,hlt])
        | exact gv rfl (by kernel_rfl) rfl rfl (λw hS=>by simp[go_sem,(hS.1.get 0 rfl),(hS.1.get 1 rfl),(hS.1.get 2 rfl),(hS.1.get 3 rfl),(hS.1.get 4 rfl)])
        | exact veu rfl (by kernel_rfl) rfl rfl rfl (λw=>by simp[go_sem])
        | exact vgg rfl (by kernel_rfl) rfl (by kernel_rfl) (by kernel_rfl) FP (λ_ _ _ _=>trivial) (λ_ hS=>hS.2)
        | exact eW rfl (by kernel_rfl) rfl rfl rfl (λw=>by simp[go_sem])
     exact trivial
   · intro aE vE wE mo fM Pv vib SI
     have SI:aY Any wE vE (qX x vnq):=SI _ rfl;obtain⟨pE,vo5,rfl,_⟩:=SI.shape;rw[Pv];clear Pv vib;simp only[List.take_succ_cons,List.take_zero,dA,pz,pw];go_wp2_with fail;exact⟨⟨k+1,hlt,by go_num,hB.trans (af fM vbi),hT.below fM zr,_,SI,vcp⟩,by simp only[intOf];omega⟩
set_option maxRecDepth 8000 in
theorem ve3 {D D':Nat→Prop} (c:bw) (lv nv:Value) (t:List UInt8) (w:World) (hl:bG D w lv c.dG) (hn:aY D' w nv c.ag) (ht:t.length≤maxLen) (hk:(aq t).2.k=7) (h0:(aq t).1=0) (ta:List UInt8) (Ur:(bQ t).1=ta) (_hat:ta.length≤maxLen) (f:aA) (hf:ew c.dG (eH t).1=some f) (PI:f.ops.length≤900):
 Calls Tryz.prog 70 #[lv,nv,str t] w λe w'=>∃v,e=.returned v∧va6 w' v (lH f.ops) ta∧Below w.heap.size w w':=by
 have HK:=va9 t ht w
 rw[hk,h0] at HK
 obtain⟨pl,cl,rfl,_⟩:=hl.shape
 obtain⟨pn,cn,rfl,_⟩:=hn.shape
 have HA:=λW=>vbe t ht W
 have vks:=λW=>vbs t ht W
 have QA:=λW (hW:Below w.heap.size w W)=>vc5 c.dG (eH t).1 _ W (hl.below hW zr)
 rw[Ur] at HA
 obtain⟨fi,R8,hfi⟩:∃fi:Nat,pU (vag (eH t).1) c.dG 0=(fi:Int)∧c.dG[fi]? =some f:=by
  rcases xC (vag (eH t).1) c.dG 0 with⟨_,h2⟩|⟨i,x,h1,h2,h3⟩
  · rw[vac,hf] at h2;cases h2
  · rw[vac,hf] at h2
    cases h2;exact⟨i,by simpa using h1,h3⟩
 rw[R8] at QA
 have hfl:fi<c.dG.length:=(List.getElem?_eq_some_iff.1 hfi).1
 obtain⟨b1,o1,Uz,UA,rfl,_,_,Nj,vih,e0,e1,e2,e3,e4⟩:=hl.at hfi
 obtain⟨po,co,rfl,_⟩:=vih.shape
 clear R8 hf hfi Nj e0 e1 e2 e3
 generalize (eH t).1=nm at *
 go_enter Tryz.func70,Tryz.ntmps70
 go_upto_region 4 with(go_at_call 128;refine HK.mono ?_;clear HK;rintro e W ⟨rfl,hB⟩)
 obtain⟨L0,yS,vaf,vb8,L9,vb7⟩:=vad hB ht
 go_upto_region 5 with fail
 clear hB
 generalize vcr:W.alloc (.cells #[str t,str t] 9)=W0 at *
 clear vcr
 go_upto_region 54 with(first
  | (go_at_call 95;refine(QA W6 (yS.trans (af (Iw.trans (af vgl Iw.size)) vaf))).mono ?_;rintro e W7 ⟨rfl,vjg⟩;have e4:=Below.keep ((yS.trans (af (Iw.trans (af vgl Iw.size)) vaf)).trans (af vjg (Nat.le_trans vaf (Nat.le_trans Iw.size vgl.size)))) e4)
  | (go_at_call 130;refine(HA W5).mono ?_;rintro e W6 ⟨rfl,vgl⟩)
  | (go_at_call 129;refine(vks W0).mono ?_;rintro e W5 ⟨rfl,Iw⟩))
 have vii:=(Iw.trans (af vgl Iw.size)).trans (af vjg (Nat.le_trans Iw.size vgl.size))
 have M3:=yS.trans (af vii vaf)
 have ved:=vb8.below vii zr
 have vd8:=L9.below vii zr
 clear Iw vgl vjg vii yS vb8 L9 vaf
 go_wp2_with fail
 go_loopw [9,25] (λv y wx=>∃k:Nat,k≤f.ops.length∧y=.int .i64 k∧Below w.heap.size w wx∧SS Any wx (.slice (some ⟨W.heap.size,0,none⟩) 2 2) [t,t]∧∃vnq,aY Any wx v vnq∧Hid (vnq=lH (f.ops.take k))) (λ_ y _=>f.ops.length - (intOf y).toNat)
 case atStart=>exact⟨0,Nat.zero_le _,by go_num,M3,ved,L0,vd8,vb7⟩
 case round=>
  clear M3 ved vd8 vb7 e4;obtain⟨k,hk,rfl,hB,hT,vnq,hO,hH⟩:=hrel;have vbi:=hB.size;obtain⟨pv,cv,rfl,_⟩:=hO.shape
  by_cases hlt:k<f.ops.length
  case neg=>
   obtain rfl:k=f.ops.length:=by omega
   rw[List.take_length] at hH;obtain⟨vf0,vcv⟩:∃z,z=wr:=⟨_,rfl⟩
   subst vcv;have vbj:=hT;have vc0:=hO;have vb4:=hH;have vbz:=hB;have vb2:=vbi;clear hT hO hH hB vbi;have hL:=va0 vb4.out (by omega);go_wp2_with fail;clear vbj;go_loopw [27,28] (λv y wx=>∃k:Nat,k≤vnq.length∧y=.int .i64 k∧va5 vf0 ta vnq k v wx) (λ_ y _=>vnq.length - (intOf y).toNat)
   case atStart=>exact⟨0,Nat.zero_le _,by go_num,va5.zero _ _ _⟩
   case round=>
    obtain⟨k,hk,rfl,hR⟩:=hrel;obtain⟨pv,cv,rfl⟩:=hR.shape
    by_cases hlt:k<vnq.length
    case neg=>
     obtain rfl:k=vnq.length:=by omega
     go_wp2_with fail;go_ret;exact⟨_,rfl,vb4.out▸hR.fin,vbz.trans (af hR.1 vb2)⟩
    case pos=>
     obtain⟨x,b1,o1,pa,ca,ps,vex,rfl,hX,d0,d1,d2,d3,d4⟩:=hR.at vc0 hlt;go_wp2_with (at_builtin;refine va3 hR hX hL _ _ rfl rfl rfl rfl ?_;intro v5 w5 vcq);exact⟨⟨k+1,hlt,by go_num,vcq⟩,by simp only[intOf];omega⟩
  case pos=>
   obtain⟨x,hkx⟩:∃x,f.ops[k]? =some x:=⟨_,List.getElem?_eq_getElem hlt⟩
   obtain⟨b3,o3,av,sv,rfl,_,hle,fe,eE,d0,d1,d2,d3,d4⟩:=(vih.below hB zr).at hkx;have hX:gx D wr (.agg #[str x.name,.bool x.sig.iter,av,str x.sig.res,sv]) x:=⟨_,_,rfl,hle,fe,eE⟩;obtain⟨pa,ca,rfl,_⟩:=fe.shape;obtain⟨ps,vex,rfl,_⟩:=eE.shape;have FP:vnq.length≤1000:=va0 hH.out (by rw[List.length_take];omega);have vcp:=zh (show qX x vnq=lH (f.ops.take (k+1)) by rw[List.take_add_one,hkx,hH.out];exact(vab _ _).symm);clear hkx fe eE;go_wp2_with (go_at_call 132;refine(vaq vnq x _ _ wr hO hX FP).mono ?_;rintro e w2 ⟨v2,rfl,Kq,aC⟩;obtain⟨p2,c2,rfl,_⟩:=Kq.shape);exact⟨⟨k+1,hlt,by go_num,hB.trans (af aC vbi),hT.below aC zr,_,Kq.mono λ_ _=>trivial,vcp⟩,by simp only[intOf];omega⟩
set_option maxRecDepth 8000 in
theorem ve4 {D D' : Nat → Prop} (c : bw) (lv nv : Value) (t : List UInt8) (w : World) (hl : bG D w lv c.dG) (hn : aY D' w nv c.ag) (ht : t.length ≤ maxLen) (hk : (aq t).2.k = 6) (h0 : (aq t).1 = 0) (hps : ∀ x ∈ (dJ t).1, x.1.length ≤ 1000 ∧ x.2.length ≤ maxLen) (PO : (dJ t).1.length ≤ 100) :
 Calls Tryz.prog 70 #[lv,nv,str t] w λe w'=>∃v,e=.returned v∧va6 w' v (lH (((dJ t).1.flatMap λp=>[⟨[109,97,107,101,95]++p.1,⟨false,[p.2],t,[]⟩⟩,⟨[105,115,95]++p.1,⟨false,[t],gC,[]⟩⟩])++[⟨[101,113,117,97,108],⟨false,[t,t],gC,[]⟩⟩])) []∧Below w.heap.size w w':=by
 have HK:=va9 t ht w
 rw[hk,h0] at HK
 obtain⟨pl,cl,rfl,_⟩:=hl.shape
 obtain⟨pn,cn,rfl,_⟩:=hn.shape
 have vgm:=λW=>vbf t ht W
 go_enter Tryz.func70,Tryz.ntmps70
 go_upto_region 4 with(go_at_call 128;refine HK.mono ?_;clear HK;rintro e W ⟨rfl,hB⟩)
 obtain⟨L0,yS,vaf,vb8,L9,vb7⟩:=vad hB ht
 go_upto_region 5 with fail
 clear hB
 generalize vcr:W.alloc (.cells #[str t,str t] 9)=W0 at *
 clear vcr
 go_upto_region 44 with(go_at_call 134;refine(vgm W0).mono ?_;rintro e W5 ⟨vos,rfl,hP,Iw⟩;obtain⟨pp,cp,rfl⟩:=hP.shape)
 have M3:=yS.trans (af Iw vaf)
 have ved:=vb8.below Iw zr
 have vd8:=L9.below Iw zr
 have vdk:=Nat.le_trans vaf Iw.size
 clear Iw yS vb8 L9 vaf
 obtain⟨PS,vf6⟩:∃PS,PS=(dJ t).1:=⟨_,rfl⟩
 have vin:=zh vf6
 rw[←vf6] at hP hps PO
 simp only[←vf6]
 clear vf6 vgm
 go_wp2_with fail
 go_loopw [9,21] (λv y wx=>∃k:Nat,k≤PS.length∧y=.int .i64 k∧Below w.heap.size w wx∧Below W5.heap.size W5 wx∧SS Any wx (.slice (some ⟨W.heap.size,0,none⟩) 2 2) [t,t]∧∃vnq,aY Any wx v vnq∧Hid (vnq=lH ((PS.take k).flatMap (λp:List UInt8×List UInt8=>([⟨[109,97,107,101,95]++p.1,⟨false,[p.2],t,[]⟩⟩,⟨[105,115,95]++p.1,⟨false,[t],gC,[]⟩⟩]:List aL))))) (λ_ y _=>PS.length - (intOf y).toNat)
 case atStart=>exact⟨0,Nat.zero_le _,by go_num,M3,zb _,ved,L0,vd8,vb7⟩
 case round =>
  clear M3 ved vd8 vb7;obtain⟨k,hk,rfl,hB,kH,hT,vnq,hO,hH⟩:=hrel;have vbi:=hB.size;obtain⟨pv,cv,rfl,_⟩:=hO.shape
  by_cases hlt:k<PS.length
  case neg=>
   obtain rfl:k=PS.length:=by omega
   rw[List.take_length] at hH;have hpl:=vaa (λp:List UInt8×List UInt8=>([⟨[109,97,107,101,95]++p.1,⟨false,[p.2],t,[]⟩⟩,⟨[105,115,95]++p.1,⟨false,[t],gC,[]⟩⟩]:List aL)) (λ_=>rfl) PS;obtain⟨vf0,vcv⟩:∃z,z=wr:=⟨_,rfl⟩
   subst vcv;have vbj:=hT;have vc0:=hO;have vb4:=hH;have vbz:=hB;have vb2:=vbi;clear hT hO hH hB vbi;have lp:=(Below.refl vf0.heap.size vf0);go_upto_region 63 with(first
    | (go_at_call 132;refine(va8 ((vc0.below lp zr).below au zr) hV (va0 vb4.out (Nat.le_trans (Nat.le_of_eq hpl) (by omega)))).mono ?_;rintro e W41 ⟨vgi,p2,c2,rfl,hE,va7,aC⟩)
    | (go_at_call 133;refine(va4 [101,113,117,97,108] gC [t,t] [] _ _ _ (vbj.below lp zr) (SS.nil Any _ none 0) (by decide) (by decide)).mono ?_;rintro e w1 ⟨u1,rfl,hV,au⟩;obtain⟨x1,y1,x2,y2,rfl⟩:=hV.vbh))
   obtain⟨vf3,ven,vf5,vdl,vd6⟩:=va2 vb4.out vbz vb2 lp au aC hE.out va7;have vem:=vbj.below ven zr;clear vbj vb4 vc0 vbz vb2 au aC va7 ven lp hV hE;have hL:=va0 vdl.out (by rw[List.length_append,hpl,List.length_singleton];omega);go_wp2_with fail;clear vem;go_loopw [27,28] (λv y wx=>∃k:Nat,k≤vgi.length∧y=.int .i64 k∧va5 W41 [] vgi k v wx) (λ_ y _=>vgi.length - (intOf y).toNat)
   case atStart=>exact⟨0,Nat.zero_le _,by go_num,va5.zero _ _ _⟩
   case round=>
    obtain⟨k,hk,rfl,hR⟩:=hrel;obtain⟨pv,cv,rfl⟩:=hR.shape
    by_cases hlt:k<vgi.length
    case neg=>
     obtain rfl:k=vgi.length:=by omega
     go_wp2_with fail;go_ret;exact⟨_,rfl,va6.to hR.fin (vdl.out.trans (by rw[vin.out]<;>rfl)),vf3.trans (af hR.1 vd6)⟩
    case pos=>
     obtain⟨x,b1,o1,pa,ca,ps,vex,rfl,hX,d0,d1,d2,d3,d4⟩:=hR.at vf5 hlt;go_wp2_with (at_builtin;refine va3 hR hX hL _ _ rfl rfl rfl rfl ?_;intro v5 w5 vcq);exact⟨⟨k+1,hlt,by go_num,vcq⟩,by simp only[intOf];omega⟩
  case pos=>
   obtain⟨b1,o1,cz,⟨nm,ty⟩,mq,hkx,d0,d1⟩:=(hP.below kH).at hlt;simp only[Value.slice.injEq,true_and] at mq;obtain⟨rfl,rfl⟩:=mq;obtain⟨hnm,hty⟩:=hps _ (List.mem_of_getElem? hkx);simp only at hnm hty d0 d1;have hnl:nm.length≤maxLen:=by unfold maxLen;omega
   have vgc:([109,97,107,101,95]++nm).length≤maxLen:=by rw[List.length_append];simp;unfold maxLen;omega
   have vgd:([105,115,95]++nm).length≤maxLen:=by rw[List.length_append];simp;unfold maxLen;omega
   have hpl:=vaa (λp:List UInt8×List UInt8=>([⟨[109,97,107,101,95]++p.1,⟨false,[p.2],t,[]⟩⟩,⟨[105,115,95]++p.1,⟨false,[t],gC,[]⟩⟩]:List aL)) (λ_=>rfl) (PS.take k);rw[List.length_take] at hpl;have FP:vnq.length≤900:=by rw[hH.out,vb6];omega
   have vcp:=zh (show qX ⟨[105,115,95]++nm,⟨false,[t],gC,[]⟩⟩ (qX ⟨[109,97,107,101,95]++nm,⟨false,[ty],t,[]⟩⟩ vnq)=lH ((PS.take (k+1)).flatMap (λp:List UInt8×List UInt8=>([⟨[109,97,107,101,95]++p.1,⟨false,[p.2],t,[]⟩⟩,⟨[105,115,95]++p.1,⟨false,[t],gC,[]⟩⟩]:List aL))) by rw[List.take_add_one,hkx,List.flatMap_append,hH.out,←vab,←vab];simp);clear hkx hpl;go_upto_region 47 with fail;refine jc (D:=Any) (w:=wr) 16 [(2,.eq (str t)),(9,.ops vnq),(19,.eq (.slice (some ⟨b1,o1,none⟩) PS.length cp)),(21,.eq (.int .i64 k))] [(.ops vnq),(.eq (.slice (some ⟨b1,o1,none⟩) PS.length cp)),(.eq (.int .i64 k)),(.eq (.pointer (some ⟨b1,o1+k * 2,none⟩))),(.eq (.pointer (some ⟨b1,o1+k * 2,none⟩))),(.eq (str nm)),(.eq (str ([109,97,107,101,95]++nm))),(.eq (.slice (some ⟨b1,o1,none⟩) PS.length cp)),(.eq (.int .i64 k)),(.eq (.pointer (some ⟨b1,o1+k * 2,none⟩))),(.eq (.pointer (some ⟨b1,o1+k * 2+1,none⟩))),(.eq (str ty)),(.ss [ty]),(.eq (str t)),(.op ⟨[109,97,107,101,95]++nm,⟨false,[ty],t,[]⟩⟩),(.ops (qX ⟨[109,97,107,101,95]++nm,⟨false,[ty],t,[]⟩⟩ vnq)),(.ops (qX ⟨[109,97,107,101,95]++nm,⟨false,[ty],t,[]⟩⟩ vnq))] (aZ [(⟨b1,o1+k * 2,none⟩,str nm),(⟨b1,o1+k * 2+1,none⟩,str ty)]) (by kernel_rfl) (by kernel_rfl) (by kernel_rfl) (by kernel_rfl) (by kernel_rfl) (λ_ _ h hb=>h.below hb) (λp hp=>by simp only[List.mem_cons,List.not_mem_nil,or_false] at hp;rcases hp with rfl|rfl<;>assumption) ?_ ?_ ?_
   · intro p hp
     simp only[List.mem_cons,List.not_mem_nil,or_false] at hp;rcases hp with rfl|rfl|rfl|rfl
     · exact rfl
     · exact(hO.below (zb wr).drew zr)
     · exact rfl
     · exact rfl
   · iterate 17
      refine And.intro ?_ ?_
      · first
        | exact dr (by kernel_rfl) rfl
        | exact Mn (.inl rfl) (by kernel_rfl) rfl (by kernel_rfl)
        | exact Mn (.inr rfl) (by kernel_rfl) rfl (by kernel_rfl)
        | exact EY rfl (by kernel_rfl) rfl rfl (by kernel_rfl)
        | exact Hy rfl (by kernel_rfl) rfl rfl rfl
        | exact eX rfl (by kernel_rfl) (by kernel_rfl) rfl rfl
        | exact gN rfl (by kernel_rfl) rfl rfl (λw=>by simp[go_sem])
        | exact iC rfl (by kernel_rfl) rfl rfl rfl (λw=>by simp[go_sem,hlt])
        | exact gv rfl (by kernel_rfl) rfl rfl (λw hS=>by simp[go_sem,(hS.get 0 rfl),(hS.get 1 rfl)])
        | exact eW rfl (by kernel_rfl) rfl rfl rfl (λw=>vbw _ _ (by simp;omega) _ _ w)
        | exact Hz rfl rfl (by kernel_rfl) rfl (by kernel_rfl) hty (λ_ _=>trivial)
        | exact stOp rfl (by kernel_rfl) rfl (by kernel_rfl) (by kernel_rfl) (by kernel_rfl) (by kernel_rfl) vgc ht
        | exact vev rfl (by kernel_rfl) rfl (by kernel_rfl) (by kernel_rfl) (Nat.le_trans FP (by decide)) (λ_ _ _ _=>trivial)
        | exact eW rfl (by kernel_rfl) rfl rfl rfl (λw=>by simp[go_sem])
     exact trivial
   · intro aE vE wE mo fM Pv vib SI
     have SI:aY Any wE vE (qX ⟨[109,97,107,101,95]++nm,⟨false,[ty],t,[]⟩⟩ vnq):=SI _ rfl;obtain⟨pE,vo5,rfl,_⟩:=SI.shape;rw[Pv];clear Pv vib;simp only[List.take_succ_cons,List.take_zero,dA,pz,pw];have hl1:(qX (⟨[109,97,107,101,95]++nm,⟨false,[ty],t,[]⟩⟩) vnq).length≤1000:=by rw[vcc];omega
     have d0:=Below.keep fM d0;have O4:=hB.trans (af fM vbi);have vic:=fM.size;clear mo hO;generalize qX (⟨[109,97,107,101,95]++nm,⟨false,[ty],t,[]⟩⟩) vnq=vni at *;go_wp2_with (first
      | (go_at_call 132;refine(vaq vni ⟨[105,115,95]++nm,⟨false,[t],gC,[]⟩⟩ _ _ _ ((SI.below ((Below.refl wE.heap.size wE).alloc zr (.cells #[str t] 9)) zr).below au zr) ⟨_,_,rfl,l1,r1,q1⟩ hl1).mono ?_;rintro e w2 ⟨v2,rfl,va7,aC⟩;obtain⟨p2,c2,rfl,_⟩:=va7.shape)
      | (go_at_call 133;refine(va4 ([105,115,95]++nm) gC [t] [] _ _ _ (SS.new Any wE trivial [t] 9 (0,0) (by unfold maxLen;simp) (vae ht)) (SS.nil Any _ none 0) vgd (by decide)).mono ?_;rintro e w1 ⟨u1,rfl,⟨x1,y1,rfl,l1,r1,q1⟩,au⟩;obtain⟨vn0,vmr,rfl,_⟩:=r1.shape;obtain⟨vmz,vmq,rfl,_⟩:=q1.shape))
     have hbz:=(((Below.refl wE.heap.size wE).alloc zr (.cells #[str t] 9)).trans (af au (by simp))).trans (af aC (by have:=au.size;simp at this;omega));exact⟨⟨k+1,hlt,by go_num,O4.trans (af hbz (Nat.le_trans vbi vic)),(kH.trans (af fM kH.size)).trans (af hbz (Nat.le_trans kH.size vic)),(hT.below fM zr).below hbz zr,_,va7.mono λ_ _=>trivial,vcp⟩,by simp only[intOf];omega⟩
end Go.Proofs.YtakgjcfkdemipaaGreatDoor
