/-
  Lemmas for the statement: contracts of the reference argusref04: raws, of int, bool, null, arrays. The operations that a region of raws holds, each by one lemma: op, put, a struct, a text put together. Contracts of the reference argusref04: raws, of the parameter. Conditions: bounds of lengths; the variable strings.asciiSpace.
-/
import Derived.Test.YtakgjcfkdemipaaGreatDoorZGn
import Derived.Test.YtakgjcfkdemipaaGreatDoorZG29
set_option maxHeartbeats 25600000
namespace Go.Proofs.YtakgjcfkdemipaaGreatDoor
open Go.RowKit
set_option maxRecDepth 8000 in
theorem F7 {D D':Nat→Prop} (c:aR) (lv nv:Value) (t:List UInt8) (w:World) (hl:aZ D w lv c.bK) (hn:aJ D' w nv c.ag) (ht:t.length≤maxLen) (hk:(aq t).2.k=1) (h0:(aq t).1=0):
 Calls Tryz.prog 70 #[lv,nv,str t] w λe w'=>∃v,e=.returned v∧eE w' v (cN [⟨[97,100,100],⟨false,[t,t],cU,[[111,118,101,114,102,108,111,119]]⟩⟩,⟨[115,117,98],⟨false,[t,t],cU,[[111,118,101,114,102,108,111,119]]⟩⟩,⟨[109,117,108],⟨false,[t,t],cU,[[111,118,101,114,102,108,111,119]]⟩⟩,⟨[100,105,118],⟨false,[t,t],cU,[[122,101,114,111,100,105,118,105,100,101]]⟩⟩,⟨[109,111,100],⟨false,[t,t],cU,[[122,101,114,111,100,105,118,105,100,101]]⟩⟩,⟨[108,116],⟨false,[t,t],aX,[]⟩⟩,⟨[108,101],⟨false,[t,t],aX,[]⟩⟩,⟨[101,113,117,97,108],⟨false,[t,t],aX,[]⟩⟩]) []∧Below w.heap.size w w':=by
 obtain⟨i0,fV,hz0,hz1,hz2⟩:=bu kD
 have HK:=gP t ht w
 rw[hk,h0] at HK
 obtain⟨pl,cl,rfl,_⟩:=hl.shape
 obtain⟨pn,cn,rfl,_⟩:=hn.shape
 go_enter Tryz.func70,Tryz.ntmps70
 go_upto_region 4 with(go_at_call 128;refine HK.mono ?_;clear HK;rintro e W ⟨rfl,hB⟩)
 have kr:=hB.alloc hB.size (.cells #[str t,str t] 9)
 have iU:w.heap.size≤(W.alloc (.cells #[str t,str t] 9)).heap.size:=Nat.le_trans hB.size (by simp)
 have r6:SS Any (W.alloc (.cells #[str t,str t] 9)) (.slice (some ⟨W.heap.size,0,none⟩) 2 2) [t,t]:=SS.new Any W trivial [t,t] 9 (0,0) (by unfold maxLen;simp) (jQ ht ht)
 have nk:aJ Any (W.alloc (.cells #[str t,str t] 9)) (.slice none 0 0) []:=aJ.nil _ _ _ _
 obtain⟨L0,eL⟩:∃L:List aG,L=cN []:=⟨_,rfl⟩
 rw[show([]:List aG)=L0 from eL.symm] at nk
 have r5:=Lib.hid eL
 clear eL
 go_upto_region 5 with fail
 clear hB
 generalize CH:W.alloc (.cells #[str t,str t] 9)=W0 at *
 clear CH
 go_upto_region 7 with fail
 have bY:=((Below.refl W0.heap.size W0).alloc (nl _) (.cells #[str [111,118,101,114,102,108,111,119]] 9))
 go_upto_region 8 with(first
  | (go_at_call 132;refine(bU L0 (⟨[97,100,100],⟨false,[t,t],cU,[[111,118,101,114,102,108,111,119]]⟩⟩:aG) _ _ _ ((nk.below bY (nl _)).below ay (nl _)) ⟨_,_,rfl,l1,r1,q1⟩ (bT r5.out (by simp))).mono ?_;rintro e W1 ⟨v2,rfl,eY,aA⟩;obtain⟨p2,c2,rfl,_⟩:=eY.shape)
  | (go_at_call 133;refine(dF [97,100,100] cU [t,t] [[111,118,101,114,102,108,111,119]] _ _ _ (r6.below bY (nl _)) (SS.new Any W0 trivial [[111,118,101,114,102,108,111,119]] 9 (0,0) (by unfold maxLen;simp) (iN (by first|exact ht|exact hat|decide))) (by first|exact ht|exact hat|decide) (by first|exact ht|exact hat|decide)).mono ?_;rintro e w1 ⟨u1,rfl,⟨x1,y1,rfl,l1,r1,q1⟩,ay⟩;obtain⟨uT,tN,rfl,_⟩:=r1.shape;obtain⟨uS,tM,rfl,_⟩:=q1.shape))
 obtain⟨bJ,Cb,D6,J9,CC⟩:=cT r5.out kr iU bY ay aA eY
 generalize cZ (⟨[97,100,100],⟨false,[t,t],cU,[[111,118,101,114,102,108,111,119]]⟩⟩:aG) L0=L1 at *
 have E8:=r6.below Cb (nl _)
 clear r6 r5 nk kr iU ay aA eY Cb bY l1 r1 q1
 have bY:=((Below.refl W1.heap.size W1).alloc (nl _) (.cells #[str [111,118,101,114,102,108,111,119]] 9))
 go_upto_region 9 with(first
  | (go_at_call 132;refine(bU L1 (⟨[115,117,98],⟨false,[t,t],cU,[[111,118,101,114,102,108,111,119]]⟩⟩:aG) _ _ _ ((D6.below bY (nl _)).below ay (nl _)) ⟨_,_,rfl,l1,r1,q1⟩ (bT J9.out (by simp))).mono ?_;rintro e W2 ⟨v2,rfl,eY,aA⟩;obtain⟨p2,c2,rfl,_⟩:=eY.shape)
  | (go_at_call 133;refine(dF [115,117,98] cU [t,t] [[111,118,101,114,102,108,111,119]] _ _ _ (E8.below bY (nl _)) (SS.new Any W1 trivial [[111,118,101,114,102,108,111,119]] 9 (0,0) (by unfold maxLen;simp) (iN (by first|exact ht|exact hat|decide))) (by first|exact ht|exact hat|decide) (by first|exact ht|exact hat|decide)).mono ?_;rintro e w1 ⟨u1,rfl,⟨x1,y1,rfl,l1,r1,q1⟩,ay⟩;obtain⟨uT,tN,rfl,_⟩:=r1.shape;obtain⟨uS,tM,rfl,_⟩:=q1.shape))
 obtain⟨bW,Nf,B0,CF,Ht⟩:=cT J9.out bJ CC bY ay aA eY
 generalize cZ (⟨[115,117,98],⟨false,[t,t],cU,[[111,118,101,114,102,108,111,119]]⟩⟩:aG) L1=L2 at *
 have Nb:=E8.below Nf (nl _)
 clear E8 J9 D6 bJ CC ay aA eY Nf bY l1 r1 q1
 have bY:=((Below.refl W2.heap.size W2).alloc (nl _) (.cells #[str [111,118,101,114,102,108,111,119]] 9))
 go_upto_region 10 with(first
  | (go_at_call 132;refine(bU L2 (⟨[109,117,108],⟨false,[t,t],cU,[[111,118,101,114,102,108,111,119]]⟩⟩:aG) _ _ _ ((B0.below bY (nl _)).below ay (nl _)) ⟨_,_,rfl,l1,r1,q1⟩ (bT CF.out (by simp))).mono ?_;rintro e W3 ⟨v2,rfl,eY,aA⟩;obtain⟨p2,c2,rfl,_⟩:=eY.shape)
  | (go_at_call 133;refine(dF [109,117,108] cU [t,t] [[111,118,101,114,102,108,111,119]] _ _ _ (Nb.below bY (nl _)) (SS.new Any W2 trivial [[111,118,101,114,102,108,111,119]] 9 (0,0) (by unfold maxLen;simp) (iN (by first|exact ht|exact hat|decide))) (by first|exact ht|exact hat|decide) (by first|exact ht|exact hat|decide)).mono ?_;rintro e w1 ⟨u1,rfl,⟨x1,y1,rfl,l1,r1,q1⟩,ay⟩;obtain⟨uT,tN,rfl,_⟩:=r1.shape;obtain⟨uS,tM,rfl,_⟩:=q1.shape))
 obtain⟨dg,QD,M9,M7,Hu⟩:=cT CF.out bW Ht bY ay aA eY
 generalize cZ (⟨[109,117,108],⟨false,[t,t],cU,[[111,118,101,114,102,108,111,119]]⟩⟩:aG) L2=L3 at *
 have Mi:=Nb.below QD (nl _)
 clear Nb CF B0 bW Ht ay aA eY QD bY l1 r1 q1
 have bY:=((Below.refl W3.heap.size W3).alloc (nl _) (.cells #[str [122,101,114,111,100,105,118,105,100,101]] 9))
 go_upto_region 11 with(first
  | (go_at_call 132;refine(bU L3 (⟨[100,105,118],⟨false,[t,t],cU,[[122,101,114,111,100,105,118,105,100,101]]⟩⟩:aG) _ _ _ ((M9.below bY (nl _)).below ay (nl _)) ⟨_,_,rfl,l1,r1,q1⟩ (bT M7.out (by simp))).mono ?_;rintro e W4 ⟨v2,rfl,eY,aA⟩;obtain⟨p2,c2,rfl,_⟩:=eY.shape)
  | (go_at_call 133;refine(dF [100,105,118] cU [t,t] [[122,101,114,111,100,105,118,105,100,101]] _ _ _ (Mi.below bY (nl _)) (SS.new Any W3 trivial [[122,101,114,111,100,105,118,105,100,101]] 9 (0,0) (by unfold maxLen;simp) (iN (by first|exact ht|exact hat|decide))) (by first|exact ht|exact hat|decide) (by first|exact ht|exact hat|decide)).mono ?_;rintro e w1 ⟨u1,rfl,⟨x1,y1,rfl,l1,r1,q1⟩,ay⟩;obtain⟨uT,tN,rfl,_⟩:=r1.shape;obtain⟨uS,tM,rfl,_⟩:=q1.shape))
 obtain⟨dH,Ng,Mf,OM,KC⟩:=cT M7.out dg Hu bY ay aA eY
 generalize cZ (⟨[100,105,118],⟨false,[t,t],cU,[[122,101,114,111,100,105,118,105,100,101]]⟩⟩:aG) L3=L4 at *
 have Qs:=Mi.below Ng (nl _)
 clear Mi M7 M9 dg Hu ay aA eY Ng bY l1 r1 q1
 have bY:=((Below.refl W4.heap.size W4).alloc (nl _) (.cells #[str [122,101,114,111,100,105,118,105,100,101]] 9))
 go_upto_region 12 with(first
  | (go_at_call 132;refine(bU L4 (⟨[109,111,100],⟨false,[t,t],cU,[[122,101,114,111,100,105,118,105,100,101]]⟩⟩:aG) _ _ _ ((Mf.below bY (nl _)).below ay (nl _)) ⟨_,_,rfl,l1,r1,q1⟩ (bT OM.out (by simp))).mono ?_;rintro e W5 ⟨v2,rfl,eY,aA⟩;obtain⟨p2,c2,rfl,_⟩:=eY.shape)
  | (go_at_call 133;refine(dF [109,111,100] cU [t,t] [[122,101,114,111,100,105,118,105,100,101]] _ _ _ (Qs.below bY (nl _)) (SS.new Any W4 trivial [[122,101,114,111,100,105,118,105,100,101]] 9 (0,0) (by unfold maxLen;simp) (iN (by first|exact ht|exact hat|decide))) (by first|exact ht|exact hat|decide) (by first|exact ht|exact hat|decide)).mono ?_;rintro e w1 ⟨u1,rfl,⟨x1,y1,rfl,l1,r1,q1⟩,ay⟩;obtain⟨uT,tN,rfl,_⟩:=r1.shape;obtain⟨uS,tM,rfl,_⟩:=q1.shape))
 obtain⟨iq,Mj,Sj,TI,PM⟩:=cT OM.out dH KC bY ay aA eY
 generalize cZ (⟨[109,111,100],⟨false,[t,t],cU,[[122,101,114,111,100,105,118,105,100,101]]⟩⟩:aG) L4=L5 at *
 have Uf:=Qs.below Mj (nl _)
 clear Qs OM Mf dH KC ay aA eY Mj bY l1 r1 q1
 have bY:=(Below.refl W5.heap.size W5)
 go_upto_region 13 with(first
  | (go_at_call 132;refine(bU L5 (⟨[108,116],⟨false,[t,t],aX,[]⟩⟩:aG) _ _ _ ((Sj.below bY (nl _)).below ay (nl _)) ⟨_,_,rfl,l1,r1,q1⟩ (bT TI.out (by simp))).mono ?_;rintro e W6 ⟨v2,rfl,eY,aA⟩;obtain⟨p2,c2,rfl,_⟩:=eY.shape)
  | (go_at_call 133;refine(dF [108,116] aX [t,t] [] _ _ _ (Uf.below bY (nl _)) (SS.nil Any _ none 0) (by first|exact ht|exact hat|decide) (by first|exact ht|exact hat|decide)).mono ?_;rintro e w1 ⟨u1,rfl,⟨x1,y1,rfl,l1,r1,q1⟩,ay⟩;obtain⟨uT,tN,rfl,_⟩:=r1.shape;obtain⟨uS,tM,rfl,_⟩:=q1.shape))
 obtain⟨Gy,Mk,OP,TJ,PN⟩:=cT TI.out iq PM bY ay aA eY
 generalize cZ (⟨[108,116],⟨false,[t,t],aX,[]⟩⟩:aG) L5=L6 at *
 have Ug:=Uf.below Mk (nl _)
 clear Uf TI Sj iq PM ay aA eY Mk bY l1 r1 q1
 have bY:=(Below.refl W6.heap.size W6)
 go_upto_region 14 with(first
  | (go_at_call 132;refine(bU L6 (⟨[108,101],⟨false,[t,t],aX,[]⟩⟩:aG) _ _ _ ((OP.below bY (nl _)).below ay (nl _)) ⟨_,_,rfl,l1,r1,q1⟩ (bT TJ.out (by simp))).mono ?_;rintro e W7 ⟨v2,rfl,eY,aA⟩;obtain⟨p2,c2,rfl,_⟩:=eY.shape)
  | (go_at_call 133;refine(dF [108,101] aX [t,t] [] _ _ _ (Ug.below bY (nl _)) (SS.nil Any _ none 0) (by first|exact ht|exact hat|decide) (by first|exact ht|exact hat|decide)).mono ?_;rintro e w1 ⟨u1,rfl,⟨x1,y1,rfl,l1,r1,q1⟩,ay⟩;obtain⟨uT,tN,rfl,_⟩:=r1.shape;obtain⟨uS,tM,rfl,_⟩:=q1.shape))
 obtain⟨CB,OS,Hz,TL,EZ⟩:=cT TJ.out Gy PN bY ay aA eY
 generalize cZ (⟨[108,101],⟨false,[t,t],aX,[]⟩⟩:aG) L6=L7 at *
 have GB:=Ug.below OS (nl _)
 clear Ug TJ OP Gy PN ay aA eY OS bY l1 r1 q1
 have bY:=(Below.refl W7.heap.size W7)
 go_upto_region 63 with(first
  | (go_at_call 132;refine(bU L7 (⟨[101,113,117,97,108],⟨false,[t,t],aX,[]⟩⟩:aG) _ _ _ ((Hz.below bY (nl _)).below ay (nl _)) ⟨_,_,rfl,l1,r1,q1⟩ (bT TL.out (by simp))).mono ?_;rintro e W8 ⟨v2,rfl,eY,aA⟩;obtain⟨p2,c2,rfl,_⟩:=eY.shape)
  | (go_at_call 133;refine(dF [101,113,117,97,108] aX [t,t] [] _ _ _ (GB.below bY (nl _)) (SS.nil Any _ none 0) (by first|exact ht|exact hat|decide) (by first|exact ht|exact hat|decide)).mono ?_;rintro e w1 ⟨u1,rfl,⟨x1,y1,rfl,l1,r1,q1⟩,ay⟩;obtain⟨uT,tN,rfl,_⟩:=r1.shape;obtain⟨uS,tM,rfl,_⟩:=q1.shape))
 obtain⟨Yy,Wi,V9,V2,TC⟩:=cT TL.out CB EZ bY ay aA eY
 generalize cZ (⟨[101,113,117,97,108],⟨false,[t,t],aX,[]⟩⟩:aG) L7=L8 at *
 have YR:=GB.below Wi (nl _)
 clear GB TL Hz CB EZ ay aA eY Wi bY l1 r1 q1
 have hL:=bT V2.out (by simp)
 have zF:=V9.fresh
 go_wp2_with fail
 clear V9 YR
 go_loopw [27,28] (λv y wx=>∃k:Nat,k≤L8.length∧y=.int .i64 k∧Below W8.heap.size W8 wx∧∃cs,wx.ownsRow W8.heap.size 102 6 v k cs∧iK (λb=>b<W8.heap.size) wx [] cs (L8.take k)) (λ_ y _=>L8.length - (intOf y).toNat)
 case atStart=>exact⟨0,Nat.zero_le _,by go_num,Below.refl _ _,[],World.ownsRow_nil _ _ _ _,rfl⟩
 case round=>
  obtain⟨k,hk,rfl,hb,cs,hown,hC⟩:=hrel;obtain⟨pv,cv,rfl⟩:=aS hown
  by_cases hlt:k<L8.length
  case neg=>
   obtain rfl:k=L8.length:=by omega
   rw[List.take_length] at hC;go_wp2_with fail;go_ret;exact⟨_,rfl,V2.out▸eE.bG hown hC,Yy.trans (af hb TC)⟩
  case pos=>
   obtain⟨x,hkx⟩:∃x,L8[k]? =some x:=⟨_,List.getElem?_eq_getElem hlt⟩
   obtain⟨b1,o1,av,sv,rfl,_,hle,dy,cQ,d0,d1,d2,d3,d4⟩:=zF.at hkx;obtain⟨pa,ca,rfl,_⟩:=dy.shape;obtain⟨ps,sU,rfl,_⟩:=cQ.shape;have d0:=Below.keep hb d0;have d1:=Below.keep hb d1;have d2:=Below.keep hb d2;have d3:=Below.keep hb d3;have d4:=Below.keep hb d4;have pG:=Lib.hid (show L8.take k++[x]=L8.take (k+1) by rw[List.take_add_one,hkx];rfl);have hsz:=hb.size;clear hkx;go_wp2_with (at_builtin;refine aL _ rfl _ _ 99 rfl W8.heap.size 102 i0 _ 6 104 iI fV hz0 hz1 hz2 rfl (by decide) (.slice pv k cv) k cs rfl (hown.alloc _) ⟨wr.heap.size,0,none⟩ 1 1 [str x.name,.bool x.sig.iter,.slice pa x.sig.args.length ca,str x.sig.res,.slice ps x.sig.sigs.length sU,str []] rfl rfl (ew _ _ _) (by intro u hu;simp only[List.mem_cons,List.not_mem_nil,or_false] at hu;rcases hu with rfl|rfl|rfl|rfl|rfl|rfl<;>rfl) (by decide) (by unfold maxLen;omega) (by omega) (by simp;omega) ?_;intro v5 w5 dJ hgr n5);have cW:=(hb.alloc hsz (.cells #[str x.name,.bool x.sig.iter,.slice pa x.sig.args.length ca,str x.sig.res,.slice ps x.sig.sigs.length sU,str []] 102)).grown hgr (by simp;omega) (λk e=>(hown.lt k e).1);have CE:=iK.agree (w':=w5) (λb hbb _=>(cW.block b hbb).trans (hb.block b hbb).symm) hC;have sW:=CE.snoc hle ((dy.below cW (nl _)).mono λb hb=>hb.2) ((cQ.below cW (nl _)).mono λb hb=>hb.2);rw[pG.out] at sW;exact⟨⟨k+1,hlt,by go_num,cW,_,dJ,sW⟩,by simp only[intOf];omega⟩
end Go.Proofs.YtakgjcfkdemipaaGreatDoor
namespace Go.Proofs.YtakgjcfkdemipaaGreatDoor
open Go.RowKit
set_option maxRecDepth 8000 in
theorem Bz {D D':Nat→Prop} (c:aR) (lv nv:Value) (t:List UInt8) (w:World) (hl:aZ D w lv c.bK) (hn:aJ D' w nv c.ag) (ht:t.length≤maxLen) (hk:(aq t).2.k=4) (h0:(aq t).1=0) (ta:List UInt8) (Sz:(bQ t).1=ta) (hat:ta.length≤maxLen):
 Calls Tryz.prog 70 #[lv,nv,str t] w λe w'=>∃v,e=.returned v∧eE w' v (cN [⟨[110,101,119],⟨false,[],t,[]⟩⟩,⟨[115,105,122,101],⟨false,[t],cU,[]⟩⟩,⟨[97,100,100,104],⟨false,[t,ta],[],[[111,118,101,114,102,108,111,119]]⟩⟩,⟨[114,101,109,104],⟨false,[t],ta,[[98,111,117,110,100,115]]⟩⟩,⟨[102,101,116,99,104],⟨false,[t,cU],ta,[[98,111,117,110,100,115]]⟩⟩,⟨[115,116,111,114,101],⟨false,[t,cU,ta],[],[[98,111,117,110,100,115]]⟩⟩,⟨[101,113,117,97,108],⟨false,[t,t],aX,[]⟩⟩]) []∧Below w.heap.size w w':=by
 obtain⟨i0,fV,hz0,hz1,hz2⟩:=bu kD
 have HK:=gP t ht w
 rw[hk,h0] at HK
 obtain⟨pl,cl,rfl,_⟩:=hl.shape
 obtain⟨pn,cn,rfl,_⟩:=hn.shape
 have HA:=λW=>uY t ht W
 rw[Sz] at HA
 go_enter Tryz.func70,Tryz.ntmps70
 go_upto_region 4 with(go_at_call 128;refine HK.mono ?_;clear HK;rintro e W ⟨rfl,hB⟩)
 have kr:=hB.alloc hB.size (.cells #[str t,str t] 9)
 have iU:w.heap.size≤(W.alloc (.cells #[str t,str t] 9)).heap.size:=Nat.le_trans hB.size (by simp)
 have r6:SS Any (W.alloc (.cells #[str t,str t] 9)) (.slice (some ⟨W.heap.size,0,none⟩) 2 2) [t,t]:=SS.new Any W trivial [t,t] 9 (0,0) (by unfold maxLen;simp) (jQ ht ht)
 have nk:aJ Any (W.alloc (.cells #[str t,str t] 9)) (.slice none 0 0) []:=aJ.nil _ _ _ _
 obtain⟨L0,eL⟩:∃L:List aG,L=cN []:=⟨_,rfl⟩
 rw[show([]:List aG)=L0 from eL.symm] at nk
 have r5:=Lib.hid eL
 clear eL
 go_upto_region 5 with fail
 clear hB
 generalize CH:W.alloc (.cells #[str t,str t] 9)=W0 at *
 clear CH
 go_upto_region 24 with(go_at_call 130;refine(HA W0).mono ?_;rintro e W20 ⟨rfl,mQ⟩)
 have Qm:=r6.below mQ (nl _)
 have Qa:=nk.below mQ (nl _)
 have Px:=kr.trans (af mQ iU)
 have LW:=Nat.le_trans iU mQ.size
 have MZ:=r5
 clear r6 nk kr iU r5 mQ HA
 have bY:=(Below.refl W20.heap.size W20)
 go_upto_region 25 with(first
  | (go_at_call 132;refine(bU L0 (⟨[110,101,119],⟨false,[],t,[]⟩⟩:aG) _ _ _ ((Qa.below bY (nl _)).below ay (nl _)) ⟨_,_,rfl,l1,r1,q1⟩ (bT MZ.out (by simp))).mono ?_;rintro e W21 ⟨v2,rfl,eY,aA⟩;obtain⟨p2,c2,rfl,_⟩:=eY.shape)
  | (go_at_call 133;refine(dF [110,101,119] t [] [] _ _ _ (SS.nil Any _ none 0) (SS.nil Any _ none 0) (by first|exact ht|exact hat|decide) (by first|exact ht|exact hat|decide)).mono ?_;rintro e w1 ⟨u1,rfl,⟨x1,y1,rfl,l1,r1,q1⟩,ay⟩;obtain⟨uT,tN,rfl,_⟩:=r1.shape;obtain⟨uS,tM,rfl,_⟩:=q1.shape))
 obtain⟨Py,Qw,Qb,M0,LY⟩:=cT MZ.out Px LW bY ay aA eY
 generalize cZ (⟨[110,101,119],⟨false,[],t,[]⟩⟩:aG) L0=L21 at *
 have Qn:=Qm.below Qw (nl _)
 clear Qm MZ Qa Px LW ay aA eY Qw bY l1 r1 q1
 have bY:=((Below.refl W21.heap.size W21).alloc (nl _) (.cells #[str t] 9))
 go_upto_region 26 with(first
  | (go_at_call 132;refine(bU L21 (⟨[115,105,122,101],⟨false,[t],cU,[]⟩⟩:aG) _ _ _ ((Qb.below bY (nl _)).below ay (nl _)) ⟨_,_,rfl,l1,r1,q1⟩ (bT M0.out (by simp))).mono ?_;rintro e W22 ⟨v2,rfl,eY,aA⟩;obtain⟨p2,c2,rfl,_⟩:=eY.shape)
  | (go_at_call 133;refine(dF [115,105,122,101] cU [t] [] _ _ _ (SS.new Any W21 trivial [t] 9 (0,0) (by unfold maxLen;simp) (iN (by first|exact ht|exact hat|decide))) (SS.nil Any _ none 0) (by first|exact ht|exact hat|decide) (by first|exact ht|exact hat|decide)).mono ?_;rintro e w1 ⟨u1,rfl,⟨x1,y1,rfl,l1,r1,q1⟩,ay⟩;obtain⟨uT,tN,rfl,_⟩:=r1.shape;obtain⟨uS,tM,rfl,_⟩:=q1.shape))
 obtain⟨Pz,Qx,Qc,M1,LZ⟩:=cT M0.out Py LY bY ay aA eY
 generalize cZ (⟨[115,105,122,101],⟨false,[t],cU,[]⟩⟩:aG) L21=L22 at *
 have Qo:=Qn.below Qx (nl _)
 clear Qn M0 Qb Py LY ay aA eY Qx bY l1 r1 q1
 have bY:=(((Below.refl W22.heap.size W22).alloc (nl _) (.cells #[str t,str ta] 9)).alloc (by simp) (.cells #[str [111,118,101,114,102,108,111,119]] 9))
 go_upto_region 27 with(first
  | (go_at_call 132;refine(bU L22 (⟨[97,100,100,104],⟨false,[t,ta],[],[[111,118,101,114,102,108,111,119]]⟩⟩:aG) _ _ _ ((Qc.below bY (nl _)).below ay (nl _)) ⟨_,_,rfl,l1,r1,q1⟩ (bT M1.out (by simp))).mono ?_;rintro e W23 ⟨v2,rfl,eY,aA⟩;obtain⟨p2,c2,rfl,_⟩:=eY.shape)
  | (go_at_call 133;refine(dF [97,100,100,104] [] [t,ta] [[111,118,101,114,102,108,111,119]] _ _ _ ((show SS Any (W22.alloc (.cells #[str t,str ta] 9)) (.slice (some ⟨W22.heap.size,0,none⟩) 2 2) [t,ta] from(SS.new Any W22 trivial [t,ta] 9 (0,0) (by unfold maxLen;simp) (jQ (by first|exact ht|exact hat|decide) (by first|exact ht|exact hat|decide)))).below ((Below.refl _ (W22.alloc (.cells #[str t,str ta] 9))).alloc (nl _) (.cells #[str [111,118,101,114,102,108,111,119]] 9)) (nl _)) (SS.newAt (w:=(W22.alloc (.cells #[str t,str ta] 9))) (D:=Any) (n:=W22.heap.size+1) (by simp) trivial [[111,118,101,114,102,108,111,119]] 9 (0,0) (by unfold maxLen;simp) (iN (by first|exact ht|exact hat|decide))) (by first|exact ht|exact hat|decide) (by first|exact ht|exact hat|decide)).mono ?_;rintro e w1 ⟨u1,rfl,⟨x1,y1,rfl,l1,r1,q1⟩,ay⟩;obtain⟨uT,tN,rfl,_⟩:=r1.shape;obtain⟨uS,tM,rfl,_⟩:=q1.shape))
 obtain⟨PA,Qy,Qd,M3,L9⟩:=cT M1.out Pz LZ bY ay aA eY
 generalize cZ (⟨[97,100,100,104],⟨false,[t,ta],[],[[111,118,101,114,102,108,111,119]]⟩⟩:aG) L22=L23 at *
 have Qp:=Qo.below Qy (nl _)
 clear Qo M1 Qc Pz LZ ay aA eY Qy bY l1 r1 q1
 have bY:=(((Below.refl W23.heap.size W23).alloc (nl _) (.cells #[str t] 9)).alloc (by simp) (.cells #[str [98,111,117,110,100,115]] 9))
 go_upto_region 28 with(first
  | (go_at_call 132;refine(bU L23 (⟨[114,101,109,104],⟨false,[t],ta,[[98,111,117,110,100,115]]⟩⟩:aG) _ _ _ ((Qd.below bY (nl _)).below ay (nl _)) ⟨_,_,rfl,l1,r1,q1⟩ (bT M3.out (by simp))).mono ?_;rintro e W24 ⟨v2,rfl,eY,aA⟩;obtain⟨p2,c2,rfl,_⟩:=eY.shape)
  | (go_at_call 133;refine(dF [114,101,109,104] ta [t] [[98,111,117,110,100,115]] _ _ _ ((show SS Any (W23.alloc (.cells #[str t] 9)) (.slice (some ⟨W23.heap.size,0,none⟩) 1 1) [t] from(SS.new Any W23 trivial [t] 9 (0,0) (by unfold maxLen;simp) (iN (by first|exact ht|exact hat|decide)))).below ((Below.refl _ (W23.alloc (.cells #[str t] 9))).alloc (nl _) (.cells #[str [98,111,117,110,100,115]] 9)) (nl _)) (SS.newAt (w:=(W23.alloc (.cells #[str t] 9))) (D:=Any) (n:=W23.heap.size+1) (by simp) trivial [[98,111,117,110,100,115]] 9 (0,0) (by unfold maxLen;simp) (iN (by first|exact ht|exact hat|decide))) (by first|exact ht|exact hat|decide) (by first|exact ht|exact hat|decide)).mono ?_;rintro e w1 ⟨u1,rfl,⟨x1,y1,rfl,l1,r1,q1⟩,ay⟩;obtain⟨uT,tN,rfl,_⟩:=r1.shape;obtain⟨uS,tM,rfl,_⟩:=q1.shape))
 obtain⟨PC,Qz,Qe,M4,Ma⟩:=cT M3.out PA L9 bY ay aA eY
 generalize cZ (⟨[114,101,109,104],⟨false,[t],ta,[[98,111,117,110,100,115]]⟩⟩:aG) L23=L24 at *
 have Qq:=Qp.below Qz (nl _)
 clear Qp M3 Qd PA L9 ay aA eY Qz bY l1 r1 q1
 have bY:=(((Below.refl W24.heap.size W24).alloc (nl _) (.cells #[str t,str cU] 9)).alloc (by simp) (.cells #[str [98,111,117,110,100,115]] 9))
 go_upto_region 29 with(first
  | (go_at_call 132;refine(bU L24 (⟨[102,101,116,99,104],⟨false,[t,cU],ta,[[98,111,117,110,100,115]]⟩⟩:aG) _ _ _ ((Qe.below bY (nl _)).below ay (nl _)) ⟨_,_,rfl,l1,r1,q1⟩ (bT M4.out (by simp))).mono ?_;rintro e W25 ⟨v2,rfl,eY,aA⟩;obtain⟨p2,c2,rfl,_⟩:=eY.shape)
  | (go_at_call 133;refine(dF [102,101,116,99,104] ta [t,cU] [[98,111,117,110,100,115]] _ _ _ ((show SS Any (W24.alloc (.cells #[str t,str cU] 9)) (.slice (some ⟨W24.heap.size,0,none⟩) 2 2) [t,cU] from(SS.new Any W24 trivial [t,cU] 9 (0,0) (by unfold maxLen;simp) (jQ (by first|exact ht|exact hat|decide) (by first|exact ht|exact hat|decide)))).below ((Below.refl _ (W24.alloc (.cells #[str t,str cU] 9))).alloc (nl _) (.cells #[str [98,111,117,110,100,115]] 9)) (nl _)) (SS.newAt (w:=(W24.alloc (.cells #[str t,str cU] 9))) (D:=Any) (n:=W24.heap.size+1) (by simp) trivial [[98,111,117,110,100,115]] 9 (0,0) (by unfold maxLen;simp) (iN (by first|exact ht|exact hat|decide))) (by first|exact ht|exact hat|decide) (by first|exact ht|exact hat|decide)).mono ?_;rintro e w1 ⟨u1,rfl,⟨x1,y1,rfl,l1,r1,q1⟩,ay⟩;obtain⟨uT,tN,rfl,_⟩:=r1.shape;obtain⟨uS,tM,rfl,_⟩:=q1.shape))
 obtain⟨PD,QA,Qf,M5,Mb⟩:=cT M4.out PC Ma bY ay aA eY
 generalize cZ (⟨[102,101,116,99,104],⟨false,[t,cU],ta,[[98,111,117,110,100,115]]⟩⟩:aG) L24=L25 at *
 have Qr:=Qq.below QA (nl _)
 clear Qq M4 Qe PC Ma ay aA eY QA bY l1 r1 q1
 have bY:=(((Below.refl W25.heap.size W25).alloc (nl _) (.cells #[str t,str cU,str ta] 9)).alloc (by simp) (.cells #[str [98,111,117,110,100,115]] 9))
 go_upto_region 30 with(first
  | (go_at_call 132;refine(bU L25 (⟨[115,116,111,114,101],⟨false,[t,cU,ta],[],[[98,111,117,110,100,115]]⟩⟩:aG) _ _ _ ((Qf.below bY (nl _)).below ay (nl _)) ⟨_,_,rfl,l1,r1,q1⟩ (bT M5.out (by simp))).mono ?_;rintro e W26 ⟨v2,rfl,eY,aA⟩;obtain⟨p2,c2,rfl,_⟩:=eY.shape)
  | (go_at_call 133;refine(dF [115,116,111,114,101] [] [t,cU,ta] [[98,111,117,110,100,115]] _ _ _ ((show SS Any (W25.alloc (.cells #[str t,str cU,str ta] 9)) (.slice (some ⟨W25.heap.size,0,none⟩) 3 3) [t,cU,ta] from(SS.new Any W25 trivial [t,cU,ta] 9 (0,0) (by unfold maxLen;simp) (MP (by first|exact ht|exact hat|decide) (by first|exact ht|exact hat|decide) (by first|exact ht|exact hat|decide)))).below ((Below.refl _ (W25.alloc (.cells #[str t,str cU,str ta] 9))).alloc (nl _) (.cells #[str [98,111,117,110,100,115]] 9)) (nl _)) (SS.newAt (w:=(W25.alloc (.cells #[str t,str cU,str ta] 9))) (D:=Any) (n:=W25.heap.size+1) (by simp) trivial [[98,111,117,110,100,115]] 9 (0,0) (by unfold maxLen;simp) (iN (by first|exact ht|exact hat|decide))) (by first|exact ht|exact hat|decide) (by first|exact ht|exact hat|decide)).mono ?_;rintro e w1 ⟨u1,rfl,⟨x1,y1,rfl,l1,r1,q1⟩,ay⟩;obtain⟨uT,tN,rfl,_⟩:=r1.shape;obtain⟨uS,tM,rfl,_⟩:=q1.shape))
 obtain⟨PF,QB,Qg,M6,Mc⟩:=cT M5.out PD Mb bY ay aA eY
 generalize cZ (⟨[115,116,111,114,101],⟨false,[t,cU,ta],[],[[98,111,117,110,100,115]]⟩⟩:aG) L25=L26 at *
 have Nc:=Qr.below QB (nl _)
 clear Qr M5 Qf PD Mb ay aA eY QB bY l1 r1 q1
 have bY:=(Below.refl W26.heap.size W26)
 go_upto_region 63 with(first
  | (go_at_call 132;refine(bU L26 (⟨[101,113,117,97,108],⟨false,[t,t],aX,[]⟩⟩:aG) _ _ _ ((Qg.below bY (nl _)).below ay (nl _)) ⟨_,_,rfl,l1,r1,q1⟩ (bT M6.out (by simp))).mono ?_;rintro e W27 ⟨v2,rfl,eY,aA⟩;obtain⟨p2,c2,rfl,_⟩:=eY.shape)
  | (go_at_call 133;refine(dF [101,113,117,97,108] aX [t,t] [] _ _ _ (Nc.below bY (nl _)) (SS.nil Any _ none 0) (by first|exact ht|exact hat|decide) (by first|exact ht|exact hat|decide)).mono ?_;rintro e w1 ⟨u1,rfl,⟨x1,y1,rfl,l1,r1,q1⟩,ay⟩;obtain⟨uT,tN,rfl,_⟩:=r1.shape;obtain⟨uS,tM,rfl,_⟩:=q1.shape))
 obtain⟨TA,QC,Qh,PZ,PJ⟩:=cT M6.out PF Mc bY ay aA eY
 generalize cZ (⟨[101,113,117,97,108],⟨false,[t,t],aX,[]⟩⟩:aG) L26=L27 at *
 have Ud:=Nc.below QC (nl _)
 clear Nc M6 Qg PF Mc ay aA eY QC bY l1 r1 q1
 have hL:=bT PZ.out (by simp)
 have zF:=Qh.fresh
 go_wp2_with fail
 clear Qh Ud
 go_loopw [27,28] (λv y wx=>∃k:Nat,k≤L27.length∧y=.int .i64 k∧Below W27.heap.size W27 wx∧∃cs,wx.ownsRow W27.heap.size 102 6 v k cs∧iK (λb=>b<W27.heap.size) wx [] cs (L27.take k)) (λ_ y _=>L27.length - (intOf y).toNat)
 case atStart=>exact⟨0,Nat.zero_le _,by go_num,Below.refl _ _,[],World.ownsRow_nil _ _ _ _,rfl⟩
 case round=>
  obtain⟨k,hk,rfl,hb,cs,hown,hC⟩:=hrel;obtain⟨pv,cv,rfl⟩:=aS hown
  by_cases hlt:k<L27.length
  case neg=>
   obtain rfl:k=L27.length:=by omega
   rw[List.take_length] at hC;go_wp2_with fail;go_ret;exact⟨_,rfl,PZ.out▸eE.bG hown hC,TA.trans (af hb PJ)⟩
  case pos=>
   obtain⟨x,hkx⟩:∃x,L27[k]? =some x:=⟨_,List.getElem?_eq_getElem hlt⟩
   obtain⟨b1,o1,av,sv,rfl,_,hle,dy,cQ,d0,d1,d2,d3,d4⟩:=zF.at hkx;obtain⟨pa,ca,rfl,_⟩:=dy.shape;obtain⟨ps,sU,rfl,_⟩:=cQ.shape;have d0:=Below.keep hb d0;have d1:=Below.keep hb d1;have d2:=Below.keep hb d2;have d3:=Below.keep hb d3;have d4:=Below.keep hb d4;have pG:=Lib.hid (show L27.take k++[x]=L27.take (k+1) by rw[List.take_add_one,hkx];rfl);have hsz:=hb.size;clear hkx;go_wp2_with (at_builtin;refine aL _ rfl _ _ 99 rfl W27.heap.size 102 i0 _ 6 104 iI fV hz0 hz1 hz2 rfl (by decide) (.slice pv k cv) k cs rfl (hown.alloc _) ⟨wr.heap.size,0,none⟩ 1 1 [str x.name,.bool x.sig.iter,.slice pa x.sig.args.length ca,str x.sig.res,.slice ps x.sig.sigs.length sU,str []] rfl rfl (ew _ _ _) (by intro u hu;simp only[List.mem_cons,List.not_mem_nil,or_false] at hu;rcases hu with rfl|rfl|rfl|rfl|rfl|rfl<;>rfl) (by decide) (by unfold maxLen;omega) (by omega) (by simp;omega) ?_;intro v5 w5 dJ hgr n5);have cW:=(hb.alloc hsz (.cells #[str x.name,.bool x.sig.iter,.slice pa x.sig.args.length ca,str x.sig.res,.slice ps x.sig.sigs.length sU,str []] 102)).grown hgr (by simp;omega) (λk e=>(hown.lt k e).1);have CE:=iK.agree (w':=w5) (λb hbb _=>(cW.block b hbb).trans (hb.block b hbb).symm) hC;have sW:=CE.snoc hle ((dy.below cW (nl _)).mono λb hb=>hb.2) ((cQ.below cW (nl _)).mono λb hb=>hb.2);rw[pG.out] at sW;exact⟨⟨k+1,hlt,by go_num,cW,_,dJ,sW⟩,by simp only[intOf];omega⟩
end Go.Proofs.YtakgjcfkdemipaaGreatDoor
namespace Go.Proofs.YtakgjcfkdemipaaGreatDoor
open Go Go.RowKit
theorem eE.to {w:World} {v:Value} {l l':List aG} {a:List UInt8} (h:eE w v l a) (e:l=l'):eE w v l' a:=e▸h
theorem yG (a b:List UInt8) (h:a.length+b.length≤100000) (x y:Operand) (w:World):(do eqGuard .add 9 x y (str a) (str b);Go.binOp .add 9 (str a) (str b):Sem Value).run Tryz.prog w=.ok (str (a++b)) w:=by
 simp[go_sem]
 omega
theorem gY {α:Type} (f:α→List aG) (hf:∀x,(f x).length=2):∀l:List α,(l.flatMap f).length=l.length * 2
 | []=>rfl
 | x::l=>by rw[List.flatMap_cons,List.length_append,hf,gY f hf l,List.length_cons];omega
section
variable {D:Nat→Prop} {ops:Array Oper} {h:Nat} {V:List VS} {E:List (Nat×VS)} {S:World→Prop} {k:Nat} {o:Oper}
theorem JG {t:TypeId} {x y:Operand} {u v r:Value} (ho:o.op=.build t #[(0,x),(1,y)]) (hw:dN ops h V o=some true) (hk:V[k]? =some (.eq r)) (hx:aM ops h V E o x=some (.eq u)) (hy:aM ops h V E o y=some (.eq v))
 (hr:∀w,(Instr.build t #[(0,u),(1,v)]).run Tryz.prog w=.ok r w):bX D Tryz.prog S ops h V E k o:=
 BK x y hw hk hx hy λev w hS h1 h2=>by unfold execOp;simp[ho,h1,h2,hr]
theorem stOp {x y z u:Operand} {tys:Array TypeId} {nm rs:List UInt8} {L:List (List UInt8)} (ho:o.op=.call {callee:=.value (.func 133),args:= #[x,y,z,u],argTypes:=tys }) (hw:dN ops h V o=some true) (hk:V[k]? =some (.op ⟨nm,⟨false,L,rs,[]⟩⟩))
 (hx:aM ops h V E o x=some (.eq (str nm))) (hy:aM ops h V E o y=some (.ss L)) (hz:aM ops h V E o z=some (.eq (str rs))) (hu:aM ops h V E o u=some (.eq (.slice none 0 0))) (hn:nm.length≤maxLen) (hr:rs.length≤maxLen):bX D Tryz.prog S ops h V E k o:=
 ED ho (enters_of Tryz.func133 (by kernel_rfl) rfl) hw hk hx hy hz hu λv v2 v3 v4 w hS h1 h2 h3 h4=>by
  rw[show v=_ from h1,show v3=_ from h3,show v4=_ from h4];refine(dF nm rs L [] v2 _ w h2 (SS.nil (λ_=>False) w none 0) hn hr).mono ?_;rintro e w' ⟨q,rfl,hq,hb⟩;exact⟨q,rfl,hq.mono λb hb=>hb.elim id False.elim,hb⟩
theorem JK {x y:Operand} {tys:Array TypeId} {l:List aG} {X:aG} (ho:o.op=.call {callee:=.value (.func 132),args:= #[x,y],argTypes:=tys }) (hw:dN ops h V o=some true) (hk:V[k]? =some (.ops (cZ X l)))
 (hx:aM ops h V E o x=some (.ops l)) (hy:aM ops h V E o y=some (.op X)) (hl:l.length≤1000) (hD:∀w,S w→∀b,w.heap.size≤b→D b):bX D Tryz.prog S ops h V E k o:=
 eS ho (enters_of Tryz.func132 (by kernel_rfl) rfl) hw hk hx hy λv v2 w hS h1 h2=>by
  refine(bU l X v v2 w h1 h2 hl).mono ?_;rintro e w' ⟨q,rfl,hq,hb⟩;exact⟨q,rfl,hq.mono λb hb=>hb.elim id λhb=>hb.elim id λhb=>hD w hS b hb,hb⟩
theorem Og {x y:Operand} {tys:Array TypeId} {l:List aG} {X:aG} {u:Value} (ho:o.op=.call {callee:=.value (.func 132),args:= #[x,y],argTypes:=tys }) (hw:dN ops h V o=some true) (hk:V[k]? =some (.ops (cZ X l)))
 (hx:aM ops h V E o x=some (.ops l)) (hy:aM ops h V E o y=some (.eq u)) (hl:l.length≤1000) (hD:∀w,S w→∀b,w.heap.size≤b→D b) (hX:∀w,S w→gR D w u X):bX D Tryz.prog S ops h V E k o:=
 eS ho (enters_of Tryz.func132 (by kernel_rfl) rfl) hw hk hx hy λv v2 w hS h1 h2=>by
  rw[show v2=_ from h2];refine(bU l X v u w h1 (hX w hS) hl).mono ?_;rintro e w' ⟨q,rfl,hq,hb⟩;exact⟨q,rfl,hq.mono λb hb=>hb.elim id λhb=>hb.elim id λhb=>hD w hS b hb,hb⟩
end
end Go.Proofs.YtakgjcfkdemipaaGreatDoor
namespace Go.Proofs.YtakgjcfkdemipaaGreatDoor
open Go.RowKit
set_option maxRecDepth 8000 in
theorem Ga {D D' : Nat → Prop} (c : aR) (lv nv : Value) (t : List UInt8) (w : World) (hl : aZ D w lv c.bK) (hn : aJ D' w nv c.ag) (ht : t.length ≤ maxLen) (hk : (aq t).2.k = 8) (h0 : (aq t).1 = 0) (GD : c.ag.length ≤ 900) :
 Calls Tryz.prog 70 #[lv,nv,str t] w λe w'=>∃v,e=.returned v∧eE w' v (cN c.ag) []∧Below w.heap.size w w':=by
 obtain⟨i0,fV,hz0,hz1,hz2⟩:=bu kD
 have HK:=gP t ht w
 rw[hk,h0] at HK
 obtain⟨pl,cl,rfl,_⟩:=hl.shape
 obtain⟨pn,cn,rfl,_⟩:=hn.shape
 go_enter Tryz.func70,Tryz.ntmps70
 go_upto_region 4 with(go_at_call 128;refine HK.mono ?_;clear HK;rintro e W ⟨rfl,hB⟩)
 have kr:=hB.alloc hB.size (.cells #[str t,str t] 9)
 have iU:w.heap.size≤(W.alloc (.cells #[str t,str t] 9)).heap.size:=Nat.le_trans hB.size (by simp)
 have r6:SS Any (W.alloc (.cells #[str t,str t] 9)) (.slice (some ⟨W.heap.size,0,none⟩) 2 2) [t,t]:=SS.new Any W trivial [t,t] 9 (0,0) (by unfold maxLen;simp) (jQ ht ht)
 have nk:aJ Any (W.alloc (.cells #[str t,str t] 9)) (.slice none 0 0) []:=aJ.nil _ _ _ _
 obtain⟨L0,eL⟩:∃L:List aG,L=cN []:=⟨_,rfl⟩
 rw[show([]:List aG)=L0 from eL.symm] at nk
 have r5:=Lib.hid eL
 clear eL
 go_upto_region 5 with fail
 clear hB
 generalize CH:W.alloc (.cells #[str t,str t] 9)=W0 at *
 clear CH
 go_wp2_with fail
 go_loopw [9,26] (λv y wx=>∃k:Nat,k≤c.ag.length∧y=.int .i64 k∧Below w.heap.size w wx∧SS Any wx (.slice (some ⟨W.heap.size,0,none⟩) 2 2) [t,t]∧∃LX,aJ Any wx v LX∧Hid (LX=cN (c.ag.take k))) (λ_ y _=>c.ag.length - (intOf y).toNat)
 case atStart=>exact⟨0,Nat.zero_le _,by go_num,kr,r6,L0,nk,r5⟩
 case round =>
  clear kr r6 nk r5 iU;obtain⟨k,hk,rfl,hB,hT,LX,hO,hH⟩:=hrel;have zB:=hB.size;obtain⟨pv,cv,rfl,_⟩:=hO.shape
  by_cases hlt:k<c.ag.length
  case neg=>
   obtain rfl:k=c.ag.length:=by omega
   rw[List.take_length] at hH;obtain⟨zJ,CQ⟩:∃z,z=wr:=⟨_,rfl⟩
   subst CQ;have we:=hT;have tY:=hO;have rz:=hH;have yL:=hB;have qt:=zB;clear hT hO hH hB zB;have hL:=bT rz.out (by omega);have zF:=tY.fresh;go_wp2_with fail;clear tY we;go_loopw [27,28] (λv y wx=>∃k:Nat,k≤LX.length∧y=.int .i64 k∧Below zJ.heap.size zJ wx∧∃cs,wx.ownsRow zJ.heap.size 102 6 v k cs∧iK (λb=>b<zJ.heap.size) wx [] cs (LX.take k)) (λ_ y _=>LX.length - (intOf y).toNat)
   case atStart=>exact⟨0,Nat.zero_le _,by go_num,Below.refl _ _,[],World.ownsRow_nil _ _ _ _,rfl⟩
   case round=>
    obtain⟨k,hk,rfl,hb,cs,hown,hC⟩:=hrel;obtain⟨pv,cv,rfl⟩:=aS hown
    by_cases hlt:k<LX.length
    case neg=>
     obtain rfl:k=LX.length:=by omega
     rw[List.take_length] at hC;go_wp2_with fail;go_ret;exact⟨_,rfl,rz.out▸eE.bG hown hC,yL.trans (af hb qt)⟩
    case pos=>
     obtain⟨x,hkx⟩:∃x,LX[k]? =some x:=⟨_,List.getElem?_eq_getElem hlt⟩
     obtain⟨b1,o1,av,sv,rfl,_,hle,dy,cQ,d0,d1,d2,d3,d4⟩:=zF.at hkx;obtain⟨pa,ca,rfl,_⟩:=dy.shape;obtain⟨ps,sU,rfl,_⟩:=cQ.shape;have d0:=Below.keep hb d0;have d1:=Below.keep hb d1;have d2:=Below.keep hb d2;have d3:=Below.keep hb d3;have d4:=Below.keep hb d4;have pG:=Lib.hid (show LX.take k++[x]=LX.take (k+1) by rw[List.take_add_one,hkx];rfl);have hsz:=hb.size;clear hkx;go_wp2_with (at_builtin;refine aL _ rfl _ _ 99 rfl zJ.heap.size 102 i0 _ 6 104 iI fV hz0 hz1 hz2 rfl (by decide) (.slice pv k cv) k cs rfl (hown.alloc _) ⟨wr.heap.size,0,none⟩ 1 1 [str x.name,.bool x.sig.iter,.slice pa x.sig.args.length ca,str x.sig.res,.slice ps x.sig.sigs.length sU,str []] rfl rfl (ew _ _ _) (by intro u hu;simp only[List.mem_cons,List.not_mem_nil,or_false] at hu;rcases hu with rfl|rfl|rfl|rfl|rfl|rfl<;>rfl) (by decide) (by unfold maxLen;omega) (by omega) (by simp;omega) ?_;intro v5 w5 dJ hgr n5);have cW:=(hb.alloc hsz (.cells #[str x.name,.bool x.sig.iter,.slice pa x.sig.args.length ca,str x.sig.res,.slice ps x.sig.sigs.length sU,str []] 102)).grown hgr (by simp;omega) (λk e=>(hown.lt k e).1);have CE:=iK.agree (w':=w5) (λb hbb _=>(cW.block b hbb).trans (hb.block b hbb).symm) hC;have sW:=CE.snoc hle ((dy.below cW (nl _)).mono λb hb=>hb.2) ((cQ.below cW (nl _)).mono λb hb=>hb.2);rw[pG.out] at sW;exact⟨⟨k+1,hlt,by go_num,cW,_,dJ,sW⟩,by simp only[intOf];omega⟩
  case pos=>
   obtain⟨x,hkx⟩:∃x,c.ag[k]? =some x:=⟨_,List.getElem?_eq_getElem hlt⟩
   obtain⟨b1,o1,av,sv,rfl,_,hle,dy,cQ,d0,d1,d2,d3,d4⟩:=(hn.below hB (nl _)).at hkx;have hX:gR Any wr (.agg #[str x.name,.bool x.sig.iter,av,str x.sig.res,sv]) x:=⟨_,_,rfl,hle,dy.mono λ_ _=>trivial,cQ.mono λ_ _=>trivial⟩;have Ak:LX.length≤1000:=bT hH.out (by rw[List.length_take];omega);have CF:=Lib.hid (show cZ x LX=cN (c.ag.take (k+1)) by rw[List.take_add_one,hkx,hH.out];exact(iB _ _).symm);clear hkx;go_upto_region 62 with fail;refine dB (D:=Any) (w:=wr) 13 [(1,.eq (.slice (some ⟨b1,o1,none⟩) c.ag.length cn)),(9,.ops LX),(26,.eq (.int .i64 k))] [(.ops LX),(.eq (.slice (some ⟨b1,o1,none⟩) c.ag.length cn)),(.eq (.int .i64 k)),(.eq (.pointer (some ⟨b1,o1+k * 5,none⟩))),(.eq (.pointer (some ⟨b1,o1+k * 5,none⟩))),(.eq (str x.name)),(.eq (.slice (some ⟨b1,o1,none⟩) c.ag.length cn)),(.eq (.int .i64 k)),(.eq (.pointer (some ⟨b1,o1+k * 5,none⟩))),(.eq (.pointer (some ⟨b1,o1+k * 5+1,none⟩))),(.eq (.agg #[.bool x.sig.iter,av,str x.sig.res,sv])),(.eq (.agg #[str x.name,.bool x.sig.iter,av,str x.sig.res,sv])),(.ops (cZ x LX)),(.ops (cZ x LX))] (λw'=>aW [(⟨b1,o1+k * 5,none⟩,str x.name),(⟨b1,o1+k * 5+1,none⟩,.bool x.sig.iter),(⟨b1,o1+k * 5+2,none⟩,av),(⟨b1,o1+k * 5+3,none⟩,str x.sig.res),(⟨b1,o1+k * 5+4,none⟩,sv)] w'∧gR Any w' (.agg #[str x.name,.bool x.sig.iter,av,str x.sig.res,sv]) x) (by kernel_rfl) (by kernel_rfl) (by kernel_rfl) (by kernel_rfl) (by kernel_rfl) (λ_ _ h hb=>⟨h.1.below hb,gR.below h.2 hb (nl _)⟩) ⟨(λp hp=>by simp only[List.mem_cons,List.not_mem_nil,or_false] at hp;rcases hp with rfl|rfl|rfl|rfl|rfl<;>assumption),hX.below (Below.refl _ wr).drew (nl _)⟩ ?_ ?_ ?_
   · intro p hp
     simp only[List.mem_cons,List.not_mem_nil,or_false] at hp;rcases hp with rfl|rfl|rfl
     · exact rfl
     · exact(hO.below (Below.refl _ wr).drew (nl _))
     · exact rfl
   · iterate 14
      refine And.intro ?_ ?_
      · first
        | exact bV (by kernel_rfl) rfl
        | exact zG (.inl rfl) (by kernel_rfl) rfl (by kernel_rfl)
        | exact zG (.inr rfl) (by kernel_rfl) rfl (by kernel_rfl)
        | exact mo rfl (by kernel_rfl) rfl rfl (by kernel_rfl)
        | exact qM rfl (by kernel_rfl) rfl rfl rfl
        | exact dS rfl (by kernel_rfl) (by kernel_rfl) rfl rfl
        | exact fK rfl (by kernel_rfl) rfl rfl (λw=>by simp[go_sem])
        | exact fZ rfl (by kernel_rfl) rfl rfl rfl (λw=>by simp[go_sem,hlt])
        | exact fq rfl (by kernel_rfl) rfl rfl (λw hS=>by simp[go_sem,(hS.1.get 0 rfl),(hS.1.get 1 rfl),(hS.1.get 2 rfl),(hS.1.get 3 rfl),(hS.1.get 4 rfl)])
        | exact dA rfl (by kernel_rfl) rfl rfl rfl (λw=>by simp[go_sem])
        | exact JG rfl (by kernel_rfl) rfl rfl rfl (λw=>by simp[go_sem])
        | exact Og rfl (by kernel_rfl) rfl (by kernel_rfl) (by kernel_rfl) Ak (λ_ _ _ _=>trivial) (λ_ hS=>hS.2)
     exact trivial
   · intro aE vE wE jv eu xe Q3 vU
     have vU:aJ Any wE vE (cZ x LX):=vU _ rfl;obtain⟨pE,cE,rfl,_⟩:=vU.shape;rw[xe];clear xe Q3;simp only[List.take_succ_cons,List.take_zero,dQ,pz,pw];go_wp2_with fail;exact⟨⟨k+1,hlt,by go_num,hB.trans (af eu zB),hT.below eu (nl _),_,vU,CF⟩,by simp only[intOf];omega⟩
end Go.Proofs.YtakgjcfkdemipaaGreatDoor
namespace Go.Proofs.YtakgjcfkdemipaaGreatDoor
open Go.RowKit
set_option maxRecDepth 8000 in
theorem F8 {D D':Nat→Prop} (c:aR) (lv nv:Value) (t:List UInt8) (w:World) (hl:aZ D w lv c.bK) (hn:aJ D' w nv c.ag) (ht:t.length≤maxLen) (hk:(aq t).2.k=7) (h0:(aq t).1=0) (ta:List UInt8) (Sz:(bQ t).1=ta) (_hat:ta.length≤maxLen) (f:aB) (hf:ez c.bK (dI t).1=some f) (GD:f.ops.length≤900):
 Calls Tryz.prog 70 #[lv,nv,str t] w λe w'=>∃v,e=.returned v∧eE w' v (cN f.ops) ta∧Below w.heap.size w w':=by
 obtain⟨i0,fV,hz0,hz1,hz2⟩:=bu kD
 have HK:=gP t ht w
 rw[hk,h0] at HK
 obtain⟨pl,cl,rfl,_⟩:=hl.shape
 obtain⟨pn,cn,rfl,_⟩:=hn.shape
 have HA:=λW=>uY t ht W
 have Xu:=λW=>x9 t ht W
 have vV:=λW (hW:Below w.heap.size w W)=>Ex c.bK (dI t).1 _ W (hl.below hW (nl _))
 rw[Sz] at HA
 obtain⟨fi,Ke,hfi⟩:∃fi:Nat,pM (j6 (dI t).1) c.bK 0=(fi:Int)∧c.bK[fi]? =some f:=by
  rcases qC (j6 (dI t).1) c.bK 0 with⟨_,h2⟩|⟨i,x,h1,h2,h3⟩
  · rw[kG,hf] at h2;cases h2
  · rw[kG,hf] at h2
    cases h2;exact⟨i,by simpa using h1,h3⟩
 rw[Ke] at vV
 have hfl:fi<c.bK.length:=(List.getElem?_eq_some_iff.1 hfi).1
 obtain⟨b1,o1,Vl,Vm,rfl,_,_,E7,Sm,e0,e1,e2,e3,e4⟩:=hl.at hfi
 obtain⟨po,co,rfl,_⟩:=Sm.shape
 clear Ke hf hfi E7 e0 e1 e2 e3
 generalize (dI t).1=nm at *
 go_enter Tryz.func70,Tryz.ntmps70
 go_upto_region 4 with(go_at_call 128;refine HK.mono ?_;clear HK;rintro e W ⟨rfl,hB⟩)
 have kr:=hB.alloc hB.size (.cells #[str t,str t] 9)
 have iU:w.heap.size≤(W.alloc (.cells #[str t,str t] 9)).heap.size:=Nat.le_trans hB.size (by simp)
 have r6:SS Any (W.alloc (.cells #[str t,str t] 9)) (.slice (some ⟨W.heap.size,0,none⟩) 2 2) [t,t]:=SS.new Any W trivial [t,t] 9 (0,0) (by unfold maxLen;simp) (jQ ht ht)
 have nk:aJ Any (W.alloc (.cells #[str t,str t] 9)) (.slice none 0 0) []:=aJ.nil _ _ _ _
 obtain⟨L0,eL⟩:∃L:List aG,L=cN []:=⟨_,rfl⟩
 rw[show([]:List aG)=L0 from eL.symm] at nk
 have r5:=Lib.hid eL
 clear eL
 go_upto_region 5 with fail
 clear hB
 generalize CH:W.alloc (.cells #[str t,str t] 9)=W0 at *
 clear CH
 go_upto_region 54 with(first
  | (go_at_call 95;refine(vV W6 (kr.trans (af (rC.trans (af OU rC.size)) iU))).mono ?_;rintro e W7 ⟨rfl,Up⟩;have e4:=Below.keep ((kr.trans (af (rC.trans (af OU rC.size)) iU)).trans (af Up (Nat.le_trans iU (Nat.le_trans rC.size OU.size)))) e4)
  | (go_at_call 130;refine(HA W5).mono ?_;rintro e W6 ⟨rfl,OU⟩)
  | (go_at_call 129;refine(Xu W0).mono ?_;rintro e W5 ⟨rfl,rC⟩))
 have Su:=(rC.trans (af OU rC.size)).trans (af Up (Nat.le_trans rC.size OU.size))
 have CB:=kr.trans (af Su iU)
 have GB:=r6.below Su (nl _)
 have Hz:=nk.below Su (nl _)
 clear rC OU Up Su kr r6 nk iU
 go_wp2_with fail
 go_loopw [9,25] (λv y wx=>∃k:Nat,k≤f.ops.length∧y=.int .i64 k∧Below w.heap.size w wx∧SS Any wx (.slice (some ⟨W.heap.size,0,none⟩) 2 2) [t,t]∧∃LX,aJ Any wx v LX∧Hid (LX=cN (f.ops.take k))) (λ_ y _=>f.ops.length - (intOf y).toNat)
 case atStart=>exact⟨0,Nat.zero_le _,by go_num,CB,GB,L0,Hz,r5⟩
 case round=>
  clear CB GB Hz r5 e4;obtain⟨k,hk,rfl,hB,hT,LX,hO,hH⟩:=hrel;have zB:=hB.size;obtain⟨pv,cv,rfl,_⟩:=hO.shape
  by_cases hlt:k<f.ops.length
  case neg=>
   obtain rfl:k=f.ops.length:=by omega
   rw[List.take_length] at hH;obtain⟨zJ,CQ⟩:∃z,z=wr:=⟨_,rfl⟩
   subst CQ;have we:=hT;have tY:=hO;have rz:=hH;have yL:=hB;have qt:=zB;clear hT hO hH hB zB;have hL:=bT rz.out (by omega);have zF:=tY.fresh;go_wp2_with fail;clear tY we;go_loopw [27,28] (λv y wx=>∃k:Nat,k≤LX.length∧y=.int .i64 k∧Below zJ.heap.size zJ wx∧∃cs,wx.ownsRow zJ.heap.size 102 6 v k cs∧iK (λb=>b<zJ.heap.size) wx ta cs (LX.take k)) (λ_ y _=>LX.length - (intOf y).toNat)
   case atStart=>exact⟨0,Nat.zero_le _,by go_num,Below.refl _ _,[],World.ownsRow_nil _ _ _ _,rfl⟩
   case round=>
    obtain⟨k,hk,rfl,hb,cs,hown,hC⟩:=hrel;obtain⟨pv,cv,rfl⟩:=aS hown
    by_cases hlt:k<LX.length
    case neg=>
     obtain rfl:k=LX.length:=by omega
     rw[List.take_length] at hC;go_wp2_with fail;go_ret;exact⟨_,rfl,rz.out▸eE.bG hown hC,yL.trans (af hb qt)⟩
    case pos=>
     obtain⟨x,hkx⟩:∃x,LX[k]? =some x:=⟨_,List.getElem?_eq_getElem hlt⟩
     obtain⟨b1,o1,av,sv,rfl,_,hle,dy,cQ,d0,d1,d2,d3,d4⟩:=zF.at hkx;obtain⟨pa,ca,rfl,_⟩:=dy.shape;obtain⟨ps,sU,rfl,_⟩:=cQ.shape;have d0:=Below.keep hb d0;have d1:=Below.keep hb d1;have d2:=Below.keep hb d2;have d3:=Below.keep hb d3;have d4:=Below.keep hb d4;have pG:=Lib.hid (show LX.take k++[x]=LX.take (k+1) by rw[List.take_add_one,hkx];rfl);have hsz:=hb.size;clear hkx;go_wp2_with (at_builtin;refine aL _ rfl _ _ 99 rfl zJ.heap.size 102 i0 _ 6 104 iI fV hz0 hz1 hz2 rfl (by decide) (.slice pv k cv) k cs rfl (hown.alloc _) ⟨wr.heap.size,0,none⟩ 1 1 [str x.name,.bool x.sig.iter,.slice pa x.sig.args.length ca,str x.sig.res,.slice ps x.sig.sigs.length sU,str ta] rfl rfl (ew _ _ _) (by intro u hu;simp only[List.mem_cons,List.not_mem_nil,or_false] at hu;rcases hu with rfl|rfl|rfl|rfl|rfl|rfl<;>rfl) (by decide) (by unfold maxLen;omega) (by omega) (by simp;omega) ?_;intro v5 w5 dJ hgr n5);have cW:=(hb.alloc hsz (.cells #[str x.name,.bool x.sig.iter,.slice pa x.sig.args.length ca,str x.sig.res,.slice ps x.sig.sigs.length sU,str ta] 102)).grown hgr (by simp;omega) (λk e=>(hown.lt k e).1);have CE:=iK.agree (w':=w5) (λb hbb _=>(cW.block b hbb).trans (hb.block b hbb).symm) hC;have sW:=CE.snoc hle ((dy.below cW (nl _)).mono λb hb=>hb.2) ((cQ.below cW (nl _)).mono λb hb=>hb.2);rw[pG.out] at sW;exact⟨⟨k+1,hlt,by go_num,cW,_,dJ,sW⟩,by simp only[intOf];omega⟩
  case pos=>
   obtain⟨x,hkx⟩:∃x,f.ops[k]? =some x:=⟨_,List.getElem?_eq_getElem hlt⟩
   obtain⟨b3,o3,av,sv,rfl,_,hle,dy,cQ,d0,d1,d2,d3,d4⟩:=(Sm.below hB (nl _)).at hkx;have hX:gR D wr (.agg #[str x.name,.bool x.sig.iter,av,str x.sig.res,sv]) x:=⟨_,_,rfl,hle,dy,cQ⟩;obtain⟨pa,ca,rfl,_⟩:=dy.shape;obtain⟨ps,sU,rfl,_⟩:=cQ.shape;have Ak:LX.length≤1000:=bT hH.out (by rw[List.length_take];omega);have CF:=Lib.hid (show cZ x LX=cN (f.ops.take (k+1)) by rw[List.take_add_one,hkx,hH.out];exact(iB _ _).symm);clear hkx dy cQ;go_wp2_with (go_at_call 132;refine(bU LX x _ _ wr hO hX Ak).mono ?_;rintro e w2 ⟨v2,rfl,B0,aA⟩;obtain⟨p2,c2,rfl,_⟩:=B0.shape);exact⟨⟨k+1,hlt,by go_num,hB.trans (af aA zB),hT.below aA (nl _),_,B0.mono λ_ _=>trivial,CF⟩,by simp only[intOf];omega⟩
end Go.Proofs.YtakgjcfkdemipaaGreatDoor
namespace Go.Proofs.YtakgjcfkdemipaaGreatDoor
open Go.RowKit
set_option maxRecDepth 8000 in
theorem F9 {D D' : Nat → Prop} (c : aR) (lv nv : Value) (t : List UInt8) (w : World) (hl : aZ D w lv c.bK) (hn : aJ D' w nv c.ag) (ht : t.length ≤ maxLen) (hk : (aq t).2.k = 6) (h0 : (aq t).1 = 0) (hps : ∀ x ∈ (cK t).1, x.1.length ≤ 1000 ∧ x.2.length ≤ maxLen) (KS : (cK t).1.length ≤ 100) :
 Calls Tryz.prog 70 #[lv,nv,str t] w λe w'=>∃v,e=.returned v∧eE w' v (cN (((cK t).1.flatMap λp=>[⟨[109,97,107,101,95]++p.1,⟨false,[p.2],t,[]⟩⟩,⟨[105,115,95]++p.1,⟨false,[t],aX,[]⟩⟩])++[⟨[101,113,117,97,108],⟨false,[t,t],aX,[]⟩⟩])) []∧Below w.heap.size w w':=by
 obtain⟨i0,fV,hz0,hz1,hz2⟩:=bu kD
 have HK:=gP t ht w
 rw[hk,h0] at HK
 obtain⟨pl,cl,rfl,_⟩:=hl.shape
 obtain⟨pn,cn,rfl,_⟩:=hn.shape
 have O9:=λW=>vq t ht W
 go_enter Tryz.func70,Tryz.ntmps70
 go_upto_region 4 with(go_at_call 128;refine HK.mono ?_;clear HK;rintro e W ⟨rfl,hB⟩)
 have kr:=hB.alloc hB.size (.cells #[str t,str t] 9)
 have iU:w.heap.size≤(W.alloc (.cells #[str t,str t] 9)).heap.size:=Nat.le_trans hB.size (by simp)
 have r6:SS Any (W.alloc (.cells #[str t,str t] 9)) (.slice (some ⟨W.heap.size,0,none⟩) 2 2) [t,t]:=SS.new Any W trivial [t,t] 9 (0,0) (by unfold maxLen;simp) (jQ ht ht)
 have nk:aJ Any (W.alloc (.cells #[str t,str t] 9)) (.slice none 0 0) []:=aJ.nil _ _ _ _
 obtain⟨L0,eL⟩:∃L:List aG,L=cN []:=⟨_,rfl⟩
 rw[show([]:List aG)=L0 from eL.symm] at nk
 have r5:=Lib.hid eL
 clear eL
 go_upto_region 5 with fail
 clear hB
 generalize CH:W.alloc (.cells #[str t,str t] 9)=W0 at *
 clear CH
 go_upto_region 44 with(go_at_call 134;refine(O9 W0).mono ?_;rintro e W5 ⟨vp,rfl,hP,rC⟩;obtain⟨pp,cp,rfl⟩:=hP.shape)
 have CB:=kr.trans (af rC iU)
 have GB:=r6.below rC (nl _)
 have Hz:=nk.below rC (nl _)
 have EZ:=Nat.le_trans iU rC.size
 clear rC kr r6 nk iU
 obtain⟨PS,KF⟩:∃PS,PS=(cK t).1:=⟨_,rfl⟩
 have SX:=Lib.hid KF
 rw[←KF] at hP hps KS
 simp only[←KF]
 clear KF O9
 go_wp2_with fail
 go_loopw [9,21] (λv y wx=>∃k:Nat,k≤PS.length∧y=.int .i64 k∧Below w.heap.size w wx∧Below W5.heap.size W5 wx∧SS Any wx (.slice (some ⟨W.heap.size,0,none⟩) 2 2) [t,t]∧∃LX,aJ Any wx v LX∧Hid (LX=cN ((PS.take k).flatMap (λp:List UInt8×List UInt8=>([⟨[109,97,107,101,95]++p.1,⟨false,[p.2],t,[]⟩⟩,⟨[105,115,95]++p.1,⟨false,[t],aX,[]⟩⟩]:List aG))))) (λ_ y _=>PS.length - (intOf y).toNat)
 case atStart=>exact⟨0,Nat.zero_le _,by go_num,CB,Below.refl _ _,GB,L0,Hz,r5⟩
 case round =>
  clear CB GB Hz r5;obtain⟨k,hk,rfl,hB,iq,hT,LX,hO,hH⟩:=hrel;have zB:=hB.size;obtain⟨pv,cv,rfl,_⟩:=hO.shape
  by_cases hlt:k<PS.length
  case neg=>
   obtain rfl:k=PS.length:=by omega
   rw[List.take_length] at hH;have hpl:=gY (λp:List UInt8×List UInt8=>([⟨[109,97,107,101,95]++p.1,⟨false,[p.2],t,[]⟩⟩,⟨[105,115,95]++p.1,⟨false,[t],aX,[]⟩⟩]:List aG)) (λ_=>rfl) PS;obtain⟨zJ,CQ⟩:∃z,z=wr:=⟨_,rfl⟩
   subst CQ;have we:=hT;have tY:=hO;have rz:=hH;have yL:=hB;have qt:=zB;clear hT hO hH hB zB;have bY:=(Below.refl zJ.heap.size zJ);go_upto_region 63 with(first
    | (go_at_call 132;refine(bU LX (⟨[101,113,117,97,108],⟨false,[t,t],aX,[]⟩⟩:aG) _ _ _ ((tY.below bY (nl _)).below ay (nl _)) ⟨_,_,rfl,l1,r1,q1⟩ (bT rz.out (Nat.le_trans (Nat.le_of_eq hpl) (by omega)))).mono ?_;rintro e W41 ⟨v2,rfl,eY,aA⟩;obtain⟨p2,c2,rfl,_⟩:=eY.shape)
    | (go_at_call 133;refine(dF [101,113,117,97,108] aX [t,t] [] _ _ _ (we.below bY (nl _)) (SS.nil Any _ none 0) (by first|exact ht|exact hat|decide) (by first|exact ht|exact hat|decide)).mono ?_;rintro e w1 ⟨u1,rfl,⟨x1,y1,rfl,l1,r1,q1⟩,ay⟩;obtain⟨uT,tN,rfl,_⟩:=r1.shape;obtain⟨uS,tM,rfl,_⟩:=q1.shape))
   obtain⟨Kw,Ie,Hy,E5,D4⟩:=cT rz.out yL qt bY ay aA eY;generalize cZ (⟨[101,113,117,97,108],⟨false,[t,t],aX,[]⟩⟩:aG) LX=L41 at *;have Ib:=we.below Ie (nl _);clear we rz tY yL qt ay aA eY Ie bY l1 r1 q1;have hL:=bT E5.out (by rw[List.length_append,hpl,List.length_singleton];omega);have zF:=Hy.fresh;go_wp2_with fail;clear Hy Ib;go_loopw [27,28] (λv y wx=>∃k:Nat,k≤L41.length∧y=.int .i64 k∧Below W41.heap.size W41 wx∧∃cs,wx.ownsRow W41.heap.size 102 6 v k cs∧iK (λb=>b<W41.heap.size) wx [] cs (L41.take k)) (λ_ y _=>L41.length - (intOf y).toNat)
   case atStart=>exact⟨0,Nat.zero_le _,by go_num,Below.refl _ _,[],World.ownsRow_nil _ _ _ _,rfl⟩
   case round=>
    obtain⟨k,hk,rfl,hb,cs,hown,hC⟩:=hrel;obtain⟨pv,cv,rfl⟩:=aS hown
    by_cases hlt:k<L41.length
    case neg=>
     obtain rfl:k=L41.length:=by omega
     rw[List.take_length] at hC;go_wp2_with fail;go_ret;exact⟨_,rfl,eE.to (eE.bG hown hC) (E5.out.trans (by rw[SX.out]<;>rfl)),Kw.trans (af hb D4)⟩
    case pos=>
     obtain⟨x,hkx⟩:∃x,L41[k]? =some x:=⟨_,List.getElem?_eq_getElem hlt⟩
     obtain⟨b1,o1,av,sv,rfl,_,hle,dy,cQ,d0,d1,d2,d3,d4⟩:=zF.at hkx;obtain⟨pa,ca,rfl,_⟩:=dy.shape;obtain⟨ps,sU,rfl,_⟩:=cQ.shape;have d0:=Below.keep hb d0;have d1:=Below.keep hb d1;have d2:=Below.keep hb d2;have d3:=Below.keep hb d3;have d4:=Below.keep hb d4;have pG:=Lib.hid (show L41.take k++[x]=L41.take (k+1) by rw[List.take_add_one,hkx];rfl);have hsz:=hb.size;clear hkx;go_wp2_with (at_builtin;refine aL _ rfl _ _ 99 rfl W41.heap.size 102 i0 _ 6 104 iI fV hz0 hz1 hz2 rfl (by decide) (.slice pv k cv) k cs rfl (hown.alloc _) ⟨wr.heap.size,0,none⟩ 1 1 [str x.name,.bool x.sig.iter,.slice pa x.sig.args.length ca,str x.sig.res,.slice ps x.sig.sigs.length sU,str []] rfl rfl (ew _ _ _) (by intro u hu;simp only[List.mem_cons,List.not_mem_nil,or_false] at hu;rcases hu with rfl|rfl|rfl|rfl|rfl|rfl<;>rfl) (by decide) (by unfold maxLen;omega) (by omega) (by simp;omega) ?_;intro v5 w5 dJ hgr n5);have cW:=(hb.alloc hsz (.cells #[str x.name,.bool x.sig.iter,.slice pa x.sig.args.length ca,str x.sig.res,.slice ps x.sig.sigs.length sU,str []] 102)).grown hgr (by simp;omega) (λk e=>(hown.lt k e).1);have CE:=iK.agree (w':=w5) (λb hbb _=>(cW.block b hbb).trans (hb.block b hbb).symm) hC;have sW:=CE.snoc hle ((dy.below cW (nl _)).mono λb hb=>hb.2) ((cQ.below cW (nl _)).mono λb hb=>hb.2);rw[pG.out] at sW;exact⟨⟨k+1,hlt,by go_num,cW,_,dJ,sW⟩,by simp only[intOf];omega⟩
  case pos=>
   obtain⟨b1,o1,cz,⟨nm,ty⟩,kj,hkx,d0,d1⟩:=(hP.below iq).at hlt;simp only[Value.slice.injEq,true_and] at kj;obtain⟨rfl,rfl⟩:=kj;obtain⟨hnm,hty⟩:=hps _ (List.mem_of_getElem? hkx);simp only at hnm hty d0 d1;have hnl:nm.length≤maxLen:=by unfold maxLen;omega
   have NC:([109,97,107,101,95]++nm).length≤maxLen:=by rw[List.length_append];simp;unfold maxLen;omega
   have ND:([105,115,95]++nm).length≤maxLen:=by rw[List.length_append];simp;unfold maxLen;omega
   have hpl:=gY (λp:List UInt8×List UInt8=>([⟨[109,97,107,101,95]++p.1,⟨false,[p.2],t,[]⟩⟩,⟨[105,115,95]++p.1,⟨false,[t],aX,[]⟩⟩]:List aG)) (λ_=>rfl) (PS.take k);rw[List.length_take] at hpl;have Ak:LX.length≤900:=by rw[hH.out,rP];omega
   have CF:=Lib.hid (show cZ ⟨[105,115,95]++nm,⟨false,[t],aX,[]⟩⟩ (cZ ⟨[109,97,107,101,95]++nm,⟨false,[ty],t,[]⟩⟩ LX)=cN ((PS.take (k+1)).flatMap (λp:List UInt8×List UInt8=>([⟨[109,97,107,101,95]++p.1,⟨false,[p.2],t,[]⟩⟩,⟨[105,115,95]++p.1,⟨false,[t],aX,[]⟩⟩]:List aG))) by rw[List.take_add_one,hkx,List.flatMap_append,hH.out,←iB,←iB];simp);clear hkx hpl;go_upto_region 47 with fail;refine dB (D:=Any) (w:=wr) 16 [(2,.eq (str t)),(9,.ops LX),(19,.eq (.slice (some ⟨b1,o1,none⟩) PS.length cp)),(21,.eq (.int .i64 k))] [(.ops LX),(.eq (.slice (some ⟨b1,o1,none⟩) PS.length cp)),(.eq (.int .i64 k)),(.eq (.pointer (some ⟨b1,o1+k * 2,none⟩))),(.eq (.pointer (some ⟨b1,o1+k * 2,none⟩))),(.eq (str nm)),(.eq (str ([109,97,107,101,95]++nm))),(.eq (.slice (some ⟨b1,o1,none⟩) PS.length cp)),(.eq (.int .i64 k)),(.eq (.pointer (some ⟨b1,o1+k * 2,none⟩))),(.eq (.pointer (some ⟨b1,o1+k * 2+1,none⟩))),(.eq (str ty)),(.ss [ty]),(.eq (str t)),(.op ⟨[109,97,107,101,95]++nm,⟨false,[ty],t,[]⟩⟩),(.ops (cZ ⟨[109,97,107,101,95]++nm,⟨false,[ty],t,[]⟩⟩ LX)),(.ops (cZ ⟨[109,97,107,101,95]++nm,⟨false,[ty],t,[]⟩⟩ LX))] (aW [(⟨b1,o1+k * 2,none⟩,str nm),(⟨b1,o1+k * 2+1,none⟩,str ty)]) (by kernel_rfl) (by kernel_rfl) (by kernel_rfl) (by kernel_rfl) (by kernel_rfl) (λ_ _ h hb=>h.below hb) (λp hp=>by simp only[List.mem_cons,List.not_mem_nil,or_false] at hp;rcases hp with rfl|rfl<;>assumption) ?_ ?_ ?_
   · intro p hp
     simp only[List.mem_cons,List.not_mem_nil,or_false] at hp;rcases hp with rfl|rfl|rfl|rfl
     · exact rfl
     · exact(hO.below (Below.refl _ wr).drew (nl _))
     · exact rfl
     · exact rfl
   · iterate 17
      refine And.intro ?_ ?_
      · first
        | exact bV (by kernel_rfl) rfl
        | exact zG (.inl rfl) (by kernel_rfl) rfl (by kernel_rfl)
        | exact zG (.inr rfl) (by kernel_rfl) rfl (by kernel_rfl)
        | exact mo rfl (by kernel_rfl) rfl rfl (by kernel_rfl)
        | exact qM rfl (by kernel_rfl) rfl rfl rfl
        | exact dS rfl (by kernel_rfl) (by kernel_rfl) rfl rfl
        | exact fK rfl (by kernel_rfl) rfl rfl (λw=>by simp[go_sem])
        | exact fZ rfl (by kernel_rfl) rfl rfl rfl (λw=>by simp[go_sem,hlt])
        | exact fq rfl (by kernel_rfl) rfl rfl (λw hS=>by simp[go_sem,(hS.get 0 rfl),(hS.get 1 rfl)])
        | exact dA rfl (by kernel_rfl) rfl rfl rfl (λw=>yG _ _ (by simp;omega) _ _ w)
        | exact EF rfl rfl (by kernel_rfl) rfl (by kernel_rfl) hty (λ_ _=>trivial)
        | exact stOp rfl (by kernel_rfl) rfl (by kernel_rfl) (by kernel_rfl) (by kernel_rfl) (by kernel_rfl) NC ht
        | exact JK rfl (by kernel_rfl) rfl (by kernel_rfl) (by kernel_rfl) (Nat.le_trans Ak (by decide)) (λ_ _ _ _=>trivial)
        | exact dA rfl (by kernel_rfl) rfl rfl rfl (λw=>by simp[go_sem])
     exact trivial
   · intro aE vE wE jv eu xe Q3 vU
     have vU:aJ Any wE vE (cZ ⟨[109,97,107,101,95]++nm,⟨false,[ty],t,[]⟩⟩ LX):=vU _ rfl;obtain⟨pE,cE,rfl,_⟩:=vU.shape;rw[xe];clear xe Q3;simp only[List.take_succ_cons,List.take_zero,dQ,pz,pw];have hl1:(cZ (⟨[109,97,107,101,95]++nm,⟨false,[ty],t,[]⟩⟩) LX).length≤1000:=by rw[AG];omega
     have d0:=Below.keep eu d0;have Kz:=hB.trans (af eu zB);have Rs:=eu.size;clear jv hO;generalize cZ (⟨[109,97,107,101,95]++nm,⟨false,[ty],t,[]⟩⟩) LX=L1 at *;go_wp2_with (first
      | (go_at_call 132;refine(bU L1 ⟨[105,115,95]++nm,⟨false,[t],aX,[]⟩⟩ _ _ _ ((vU.below ((Below.refl wE.heap.size wE).alloc (nl _) (.cells #[str t] 9)) (nl _)).below ay (nl _)) ⟨_,_,rfl,l1,r1,q1⟩ hl1).mono ?_;rintro e w2 ⟨v2,rfl,eY,aA⟩;obtain⟨p2,c2,rfl,_⟩:=eY.shape)
      | (go_at_call 133;refine(dF ([105,115,95]++nm) aX [t] [] _ _ _ (SS.new Any wE trivial [t] 9 (0,0) (by unfold maxLen;simp) (iN ht)) (SS.nil Any _ none 0) ND (by decide)).mono ?_;rintro e w1 ⟨u1,rfl,⟨x1,y1,rfl,l1,r1,q1⟩,ay⟩;obtain⟨uT,tN,rfl,_⟩:=r1.shape;obtain⟨uS,tM,rfl,_⟩:=q1.shape))
     have hbz:=(((Below.refl wE.heap.size wE).alloc (nl _) (.cells #[str t] 9)).trans (af ay (by simp))).trans (af aA (by have:=ay.size;simp at this;omega));exact⟨⟨k+1,hlt,by go_num,Kz.trans (af hbz (Nat.le_trans zB Rs)),(iq.trans (af eu iq.size)).trans (af hbz (Nat.le_trans iq.size Rs)),(hT.below eu (nl _)).below hbz (nl _),_,eY.mono λ_ _=>trivial,CF⟩,by simp only[intOf];omega⟩
end Go.Proofs.YtakgjcfkdemipaaGreatDoor
namespace Go.Proofs.YtakgjcfkdemipaaGreatDoor
open Go.RowKit
set_option maxRecDepth 8000 in
theorem Gb {D D' : Nat → Prop} (c : aR) (lv nv : Value) (t : List UInt8) (w : World) (hl : aZ D w lv c.bK) (hn : aJ D' w nv c.ag) (ht : t.length ≤ maxLen) (hk : (aq t).2.k = 5) (h0 : (aq t).1 = 0) (hps : ∀ x ∈ (cK t).1, x.1.length ≤ 1000 ∧ x.2.length ≤ maxLen) (KS : (cK t).1.length ≤ 100) :
 Calls Tryz.prog 70 #[lv,nv,str t] w λe w'=>∃v,e=.returned v∧eE w' v (cN (((cK t).1.flatMap λp=>[⟨[103,101,116,95]++p.1,⟨false,[t],p.2,[]⟩⟩,⟨[115,101,116,95]++p.1,⟨false,[t,p.2],[],[]⟩⟩])++[⟨[109,97,107,101],⟨false,(cK t).1.map (·.2),t,[]⟩⟩,⟨[101,113,117,97,108],⟨false,[t,t],aX,[]⟩⟩])) []∧Below w.heap.size w w':=by
 obtain⟨j0,hj0,hy0,hy1,hy2⟩:=bu iP
 obtain⟨i0,fV,hz0,hz1,hz2⟩:=bu kD
 have HK:=gP t ht w
 rw[hk,h0] at HK
 obtain⟨pl,cl,rfl,_⟩:=hl.shape
 obtain⟨pn,cn,rfl,_⟩:=hn.shape
 have O9:=λW=>vq t ht W
 go_enter Tryz.func70,Tryz.ntmps70
 go_upto_region 4 with(go_at_call 128;refine HK.mono ?_;clear HK;rintro e W ⟨rfl,hB⟩)
 have kr:=hB.alloc hB.size (.cells #[str t,str t] 9)
 have iU:w.heap.size≤(W.alloc (.cells #[str t,str t] 9)).heap.size:=Nat.le_trans hB.size (by simp)
 have r6:SS Any (W.alloc (.cells #[str t,str t] 9)) (.slice (some ⟨W.heap.size,0,none⟩) 2 2) [t,t]:=SS.new Any W trivial [t,t] 9 (0,0) (by unfold maxLen;simp) (jQ ht ht)
 have nk:aJ Any (W.alloc (.cells #[str t,str t] 9)) (.slice none 0 0) []:=aJ.nil _ _ _ _
 obtain⟨L0,eL⟩:∃L:List aG,L=cN []:=⟨_,rfl⟩
 rw[show([]:List aG)=L0 from eL.symm] at nk
 have r5:=Lib.hid eL
 clear eL
 go_upto_region 5 with fail
 clear hB
 generalize CH:W.alloc (.cells #[str t,str t] 9)=W0 at *
 clear CH
 go_upto_region 33 with(go_at_call 134;refine(O9 W0).mono ?_;rintro e W5 ⟨vp,rfl,hP,rC⟩;obtain⟨pp,cp,rfl⟩:=hP.shape)
 have CB:=kr.trans (af rC iU)
 have GB:=r6.below rC (nl _)
 have Hz:=nk.below rC (nl _)
 have EZ:=Nat.le_trans iU rC.size
 clear rC kr r6 iU
 obtain⟨PS,KF⟩:∃PS,PS=(cK t).1:=⟨_,rfl⟩
 have SX:=Lib.hid KF
 rw[←KF] at hP hps KS
 simp only[←KF]
 clear KF O9
 go_wp2_with fail
 go_loopw [9,17,18] (λv va y wx=>∃k:Nat,k≤PS.length∧y=.int .i64 k∧Below W5.heap.size W5 wx∧wx.ownsRow W5.heap.size 9 1 va k (aD ((PS.take k).map (·.2)))∧∃LX,aJ (λb=>va.ownBlock≠some b) wx v LX∧Hid (LX=cN ((PS.take k).flatMap (λp:List UInt8×List UInt8=>([⟨[103,101,116,95]++p.1,⟨false,[t],p.2,[]⟩⟩,⟨[115,101,116,95]++p.1,⟨false,[t,p.2],[],[]⟩⟩]:List aG))))) (λ_ _ y _=>PS.length - (intOf y).toNat)
 case atStart=>exact⟨0,Nat.zero_le _,by go_num,Below.refl _ _,World.ownsRow_nil _ _ _ _,L0,Hz.mono (λb _ e=>by cases e),r5⟩
 case round =>
  clear Hz r5;obtain⟨k,hk,rfl,iq,hown,LX,hO,hH⟩:=hrel;have zB:=iq.size;obtain⟨pv,cv,rfl,_⟩:=hO.shape;obtain⟨pa,ca,rfl⟩:=aS hown
  by_cases hlt:k<PS.length
  case neg=>
   obtain rfl:k=PS.length:=by omega
   rw[List.take_length] at hH hown;have hpl:=gY (λp:List UInt8×List UInt8=>([⟨[103,101,116,95]++p.1,⟨false,[t],p.2,[]⟩⟩,⟨[115,101,116,95]++p.1,⟨false,[t,p.2],[],[]⟩⟩]:List aG)) (λ_=>rfl) PS;have YQ:∀s∈PS.map (·.2),s.length≤maxLen:=by
    intro s hs;obtain⟨x,hx,rfl⟩:=List.mem_map.1 hs;exact(hps x hx).2
   have hS:=(SS.row (ss:=PS.map (·.2)) hown (by simp) YQ).mono (D':=Any) λ_ _=>trivial
   obtain⟨zJ,CQ⟩:∃z,z=wr:=⟨_,rfl⟩
   subst CQ;have we:=GB.below iq (nl _);have tY:=hO.mono (D':=Any) λ_ _=>trivial
   have rz:=hH;have yL:=CB.trans (af iq EZ);have qt:=Nat.le_trans EZ iq.size;have TZ:=hS;clear GB hO hH CB iq zB hS hown;generalize YN:PS.map (·.2)=QS at *;have bY:=(Below.refl zJ.heap.size zJ);go_upto_region 41 with(first
    | (go_at_call 132;refine(bU LX (⟨[109,97,107,101],⟨false,QS,t,[]⟩⟩:aG) _ _ _ ((tY.below bY (nl _)).below ay (nl _)) ⟨_,_,rfl,l1,r1,q1⟩ (bT rz.out (Nat.le_trans (Nat.le_of_eq hpl) (by omega)))).mono ?_;rintro e W41 ⟨v2,rfl,eY,aA⟩;obtain⟨p2,c2,rfl,_⟩:=eY.shape)
    | (go_at_call 133;refine(dF [109,97,107,101] t QS [] _ _ _ (TZ.below bY (nl _)) (SS.nil Any _ none 0) (by first|exact ht|exact hat|decide) (by first|exact ht|exact hat|decide)).mono ?_;rintro e w1 ⟨u1,rfl,⟨x1,y1,rfl,l1,r1,q1⟩,ay⟩;obtain⟨uT,tN,rfl,_⟩:=r1.shape;obtain⟨uS,tM,rfl,_⟩:=q1.shape))
   obtain⟨Kw,Ie,Hy,E5,D4⟩:=cT rz.out yL qt bY ay aA eY;generalize cZ (⟨[109,97,107,101],⟨false,QS,t,[]⟩⟩:aG) LX=L41 at *;have Ib:=we.below Ie (nl _);clear we rz tY yL qt ay aA eY Ie bY l1 r1 q1;have bY:=(Below.refl W41.heap.size W41);go_upto_region 63 with(first
    | (go_at_call 132;refine(bU L41 (⟨[101,113,117,97,108],⟨false,[t,t],aX,[]⟩⟩:aG) _ _ _ ((Hy.below bY (nl _)).below ay (nl _)) ⟨_,_,rfl,l1,r1,q1⟩ (bT E5.out (by rw[List.length_append,hpl,List.length_singleton];omega))).mono ?_;rintro e W42 ⟨v2,rfl,eY,aA⟩;obtain⟨p2,c2,rfl,_⟩:=eY.shape)
    | (go_at_call 133;refine(dF [101,113,117,97,108] aX [t,t] [] _ _ _ (Ib.below bY (nl _)) (SS.nil Any _ none 0) (by first|exact ht|exact hat|decide) (by first|exact ht|exact hat|decide)).mono ?_;rintro e w1 ⟨u1,rfl,⟨x1,y1,rfl,l1,r1,q1⟩,ay⟩;obtain⟨uT,tN,rfl,_⟩:=r1.shape;obtain⟨uS,tM,rfl,_⟩:=q1.shape))
   obtain⟨TB,QE,Qi,P5,PL⟩:=cT E5.out Kw D4 bY ay aA eY;generalize cZ (⟨[101,113,117,97,108],⟨false,[t,t],aX,[]⟩⟩:aG) L41=L42 at *;have Ue:=Ib.below QE (nl _);clear Ib E5 Hy Kw D4 ay aA eY QE bY l1 r1 q1;have hL:=bT P5.out (by rw[List.length_append,List.length_append,hpl,List.length_singleton,List.length_singleton];omega);have zF:=Qi.fresh;go_wp2_with fail;clear Qi Ue;go_loopw [27,28] (λv y wx=>∃k:Nat,k≤L42.length∧y=.int .i64 k∧Below W42.heap.size W42 wx∧∃cs,wx.ownsRow W42.heap.size 102 6 v k cs∧iK (λb=>b<W42.heap.size) wx [] cs (L42.take k)) (λ_ y _=>L42.length - (intOf y).toNat)
   case atStart=>exact⟨0,Nat.zero_le _,by go_num,Below.refl _ _,[],World.ownsRow_nil _ _ _ _,rfl⟩
   case round=>
    obtain⟨k,hk,rfl,hb,cs,hown,hC⟩:=hrel;obtain⟨pv,cv,rfl⟩:=aS hown
    by_cases hlt:k<L42.length
    case neg=>
     obtain rfl:k=L42.length:=by omega
     rw[List.take_length] at hC;go_wp2_with fail;go_ret;exact⟨_,rfl,eE.to (eE.bG hown hC) (P5.out.trans (by rw[←YN,SX.out,List.append_assoc]<;>rfl)),TB.trans (af hb PL)⟩
    case pos=>
     obtain⟨x,hkx⟩:∃x,L42[k]? =some x:=⟨_,List.getElem?_eq_getElem hlt⟩
     obtain⟨b1,o1,av,sv,rfl,_,hle,dy,cQ,d0,d1,d2,d3,d4⟩:=zF.at hkx;obtain⟨pa,ca,rfl,_⟩:=dy.shape;obtain⟨ps,sU,rfl,_⟩:=cQ.shape;have d0:=Below.keep hb d0;have d1:=Below.keep hb d1;have d2:=Below.keep hb d2;have d3:=Below.keep hb d3;have d4:=Below.keep hb d4;have pG:=Lib.hid (show L42.take k++[x]=L42.take (k+1) by rw[List.take_add_one,hkx];rfl);have hsz:=hb.size;clear hkx;go_wp2_with (at_builtin;refine aL _ rfl _ _ 99 rfl W42.heap.size 102 i0 _ 6 104 iI fV hz0 hz1 hz2 rfl (by decide) (.slice pv k cv) k cs rfl (hown.alloc _) ⟨wr.heap.size,0,none⟩ 1 1 [str x.name,.bool x.sig.iter,.slice pa x.sig.args.length ca,str x.sig.res,.slice ps x.sig.sigs.length sU,str []] rfl rfl (ew _ _ _) (by intro u hu;simp only[List.mem_cons,List.not_mem_nil,or_false] at hu;rcases hu with rfl|rfl|rfl|rfl|rfl|rfl<;>rfl) (by decide) (by unfold maxLen;omega) (by omega) (by simp;omega) ?_;intro v5 w5 dJ hgr n5);have cW:=(hb.alloc hsz (.cells #[str x.name,.bool x.sig.iter,.slice pa x.sig.args.length ca,str x.sig.res,.slice ps x.sig.sigs.length sU,str []] 102)).grown hgr (by simp;omega) (λk e=>(hown.lt k e).1);have CE:=iK.agree (w':=w5) (λb hbb _=>(cW.block b hbb).trans (hb.block b hbb).symm) hC;have sW:=CE.snoc hle ((dy.below cW (nl _)).mono λb hb=>hb.2) ((cQ.below cW (nl _)).mono λb hb=>hb.2);rw[pG.out] at sW;exact⟨⟨k+1,hlt,by go_num,cW,_,dJ,sW⟩,by simp only[intOf];omega⟩
  case pos =>
   obtain⟨b1,o1,cz,⟨nm,ty⟩,kj,hkx,e0,e1⟩:=hP.at hlt;simp only[Value.slice.injEq,true_and] at kj;obtain⟨rfl,rfl⟩:=kj;obtain⟨hnm,hty⟩:=hps _ (List.mem_of_getElem? hkx);simp only at hnm hty e0 e1;have d0:=Below.keep iq e0;have d1:=Below.keep iq e1;have NC:([103,101,116,95]++nm).length≤maxLen:=by rw[List.length_append];simp;unfold maxLen;omega
   have ND:([115,101,116,95]++nm).length≤maxLen:=by rw[List.length_append];simp;unfold maxLen;omega
   have hpl:=gY (λp:List UInt8×List UInt8=>([⟨[103,101,116,95]++p.1,⟨false,[t],p.2,[]⟩⟩,⟨[115,101,116,95]++p.1,⟨false,[t,p.2],[],[]⟩⟩]:List aG)) (λ_=>rfl) (PS.take k);rw[List.length_take] at hpl;have Ak:LX.length≤900:=by rw[hH.out,rP];omega
   have CF:=Lib.hid (show cZ ⟨[115,101,116,95]++nm,⟨false,[t,ty],[],[]⟩⟩ (cZ ⟨[103,101,116,95]++nm,⟨false,[t],ty,[]⟩⟩ LX)=cN ((PS.take (k+1)).flatMap (λp:List UInt8×List UInt8=>([⟨[103,101,116,95]++p.1,⟨false,[t],p.2,[]⟩⟩,⟨[115,101,116,95]++p.1,⟨false,[t,p.2],[],[]⟩⟩]:List aG))) by rw[List.take_add_one,hkx,List.flatMap_append,hH.out,←iB,←iB];simp);have pG:=Lib.hid (show aD ((PS.take k).map (·.2))++[str ty]=aD ((PS.take (k+1)).map (·.2)) by rw[List.take_add_one,hkx];simp[aD]);clear hkx hpl;go_upto_region 38 with(at_builtin;refine aL _ rfl _ _ 34 rfl W5.heap.size 9 j0 _ 1 16 fD hj0 hy0 hy1 hy2 rfl (by decide) (.slice pa k ca) k _ rfl (hown.alloc _) ⟨wr.heap.size,0,none⟩ 1 1 [str ty] rfl rfl (cell_one_new _ _ _) (by intro u hu;rw[List.mem_singleton.1 hu];rfl) (by decide) (by unfold maxLen;omega) (by omega) (by simp;omega) ?_;intro v5 w5 dJ hgr n5;obtain⟨p5,c5,rfl⟩:=aS dJ);have cW:=(iq.alloc zB (.cells #[str ty] 9)).grown hgr (by simp;omega) (λk e=>(hown.lt k e).1);have VU:=(Below.refl wr.heap.size wr).alloc (nl _) (.cells #[str ty] 9);have Sj:aJ (λb=>(Value.slice p5 (k+1) c5).ownBlock≠some b) w5 (.slice pv LX.length cv) LX:=((hO.fresh.below VU (nl _)).agree (w':=w5) (λb hb hlt=>hgr.block b hlt (λe=>hb.1 e.symm))).mono (λb hb e=>by
    rcases n5 with h|h
    · exact hb.1 (h▸e)
    · rw[h] at e
      injection e with e;have:=hb.2;simp at e;omega)
   have f0:=Below.keep cW e0;have f1:=Below.keep cW e1;have ZI:w5.heap.size≤w5.drew.heap.size:=nl _;have Sg:∀wz:World,w5.heap.size≤wz.heap.size→∀b,wz.heap.size≤b→(Value.slice p5 (k+1) c5).ownBlock≠some b:=λwz hz b hb e=>absurd (aV dJ e) (by omega)
   clear hown hO hgr n5 VU iq d0 d1;refine dB (D:=(λb=>(Value.slice p5 (k+1) c5).ownBlock≠some b)) (w:=w5) 16 [(2,.eq (str t)),(9,.ops LX),(15,.eq (.slice (some ⟨b1,o1,none⟩) PS.length cp)),(18,.eq (.int .i64 k))] [(.ops LX),(.eq (.slice (some ⟨b1,o1,none⟩) PS.length cp)),(.eq (.int .i64 k)),(.eq (.pointer (some ⟨b1,o1+k * 2,none⟩))),(.eq (.pointer (some ⟨b1,o1+k * 2,none⟩))),(.eq (str nm)),(.eq (str ([103,101,116,95]++nm))),(.eq (str t)),(.ss [t]),(.eq (.slice (some ⟨b1,o1,none⟩) PS.length cp)),(.eq (.int .i64 k)),(.eq (.pointer (some ⟨b1,o1+k * 2,none⟩))),(.eq (.pointer (some ⟨b1,o1+k * 2+1,none⟩))),(.eq (str ty)),(.op ⟨[103,101,116,95]++nm,⟨false,[t],ty,[]⟩⟩),(.ops (cZ ⟨[103,101,116,95]++nm,⟨false,[t],ty,[]⟩⟩ LX)),(.ops (cZ ⟨[103,101,116,95]++nm,⟨false,[t],ty,[]⟩⟩ LX))] (λw'=>aW [(⟨b1,o1+k * 2,none⟩,str nm),(⟨b1,o1+k * 2+1,none⟩,str ty)] w'∧w5.heap.size≤w'.heap.size) (by kernel_rfl) (by kernel_rfl) (by kernel_rfl) (by kernel_rfl) (by kernel_rfl) (λ_ _ h hb=>⟨h.1.below hb,Nat.le_trans h.2 hb.size⟩) ⟨(λp hp=>by simp only[List.mem_cons,List.not_mem_nil,or_false] at hp;rcases hp with rfl|rfl<;>assumption),ZI⟩ ?_ ?_ ?_
   · intro p hp
     simp only[List.mem_cons,List.not_mem_nil,or_false] at hp;rcases hp with rfl|rfl|rfl|rfl
     · exact rfl
     · exact(Sj.below (Below.refl _ w5).drew (nl _))
     · exact rfl
     · exact rfl
   · iterate 17
      refine And.intro ?_ ?_
      · first
        | exact bV (by kernel_rfl) rfl
        | exact zG (.inl rfl) (by kernel_rfl) rfl (by kernel_rfl)
        | exact zG (.inr rfl) (by kernel_rfl) rfl (by kernel_rfl)
        | exact mo rfl (by kernel_rfl) rfl rfl (by kernel_rfl)
        | exact qM rfl (by kernel_rfl) rfl rfl rfl
        | exact dS rfl (by kernel_rfl) (by kernel_rfl) rfl rfl
        | exact fK rfl (by kernel_rfl) rfl rfl (λw=>by simp[go_sem])
        | exact fZ rfl (by kernel_rfl) rfl rfl rfl (λw=>by simp[go_sem,hlt])
        | exact fq rfl (by kernel_rfl) rfl rfl (λw hS=>by simp[go_sem,(hS.1.get 0 rfl),(hS.1.get 1 rfl)])
        | exact dA rfl (by kernel_rfl) rfl rfl rfl (λw=>yG _ _ (by simp;omega) _ _ w)
        | exact EF rfl rfl (by kernel_rfl) rfl (by kernel_rfl) ht (λwz hS=>Sg wz hS.2 _ (nl _))
        | exact stOp rfl (by kernel_rfl) rfl (by kernel_rfl) (by kernel_rfl) (by kernel_rfl) (by kernel_rfl) NC hty
        | exact JK rfl (by kernel_rfl) rfl (by kernel_rfl) (by kernel_rfl) (Nat.le_trans Ak (by decide)) (λwz hS=>Sg wz hS.2)
        | exact dA rfl (by kernel_rfl) rfl rfl rfl (λw=>by simp[go_sem])
     exact trivial
   · intro aE vE wE jv eu xe Q3 vU
     have vU:aJ (λb=>(Value.slice p5 (k+1) c5).ownBlock≠some b) wE vE (cZ ⟨[103,101,116,95]++nm,⟨false,[t],ty,[]⟩⟩ LX):=vU _ rfl;obtain⟨pE,cE,rfl,_⟩:=vU.shape;rw[xe];clear xe Q3;simp only[List.take_succ_cons,List.take_zero,dQ,pz,pw];have hl1:(cZ (⟨[103,101,116,95]++nm,⟨false,[t],ty,[]⟩⟩) LX).length≤1000:=by rw[AG];omega
     have f0:=Below.keep eu f0;have f1:=Below.keep eu f1;have Rs:=eu.size;have ZJ:w5.heap.size≤wE.drew.heap.size:=Rs;generalize cZ (⟨[103,101,116,95]++nm,⟨false,[t],ty,[]⟩⟩) LX=L1 at *;go_upto_region 39 with fail;refine dB (D:=(λb=>(Value.slice p5 (k+1) c5).ownBlock≠some b)) (w:=wE) 16 [(2,.eq (str t)),(9,.ops L1),(15,.eq (.slice (some ⟨b1,o1,none⟩) PS.length cp)),(18,.eq (.int .i64 k))] [(.ops L1),(.eq (.slice (some ⟨b1,o1,none⟩) PS.length cp)),(.eq (.int .i64 k)),(.eq (.pointer (some ⟨b1,o1+k * 2,none⟩))),(.eq (.pointer (some ⟨b1,o1+k * 2,none⟩))),(.eq (str nm)),(.eq (str ([115,101,116,95]++nm))),(.eq (str t)),(.eq (.slice (some ⟨b1,o1,none⟩) PS.length cp)),(.eq (.int .i64 k)),(.eq (.pointer (some ⟨b1,o1+k * 2,none⟩))),(.eq (.pointer (some ⟨b1,o1+k * 2+1,none⟩))),(.eq (str ty)),(.ss [t,ty]),(.op ⟨[115,101,116,95]++nm,⟨false,[t,ty],[],[]⟩⟩),(.ops (cZ ⟨[115,101,116,95]++nm,⟨false,[t,ty],[],[]⟩⟩ L1)),(.ops (cZ ⟨[115,101,116,95]++nm,⟨false,[t,ty],[],[]⟩⟩ L1))] (λw'=>aW [(⟨b1,o1+k * 2,none⟩,str nm),(⟨b1,o1+k * 2+1,none⟩,str ty)] w'∧w5.heap.size≤w'.heap.size) (by kernel_rfl) (by kernel_rfl) (by kernel_rfl) (by kernel_rfl) (by kernel_rfl) (λ_ _ h hb=>⟨h.1.below hb,Nat.le_trans h.2 hb.size⟩) ⟨(λp hp=>by simp only[List.mem_cons,List.not_mem_nil,or_false] at hp;rcases hp with rfl|rfl<;>assumption),ZJ⟩ ?_ ?_ ?_
     · intro p hp
       simp only[List.mem_cons,List.not_mem_nil,or_false] at hp;rcases hp with rfl|rfl|rfl|rfl
       · exact rfl
       · exact(vU.below (Below.refl _ wE).drew (nl _))
       · exact rfl
       · exact rfl
     · iterate 17
        refine And.intro ?_ ?_
        · first
          | exact bV (by kernel_rfl) rfl
          | exact zG (.inl rfl) (by kernel_rfl) rfl (by kernel_rfl)
          | exact zG (.inr rfl) (by kernel_rfl) rfl (by kernel_rfl)
          | exact mo rfl (by kernel_rfl) rfl rfl (by kernel_rfl)
          | exact qM rfl (by kernel_rfl) rfl rfl rfl
          | exact dS rfl (by kernel_rfl) (by kernel_rfl) rfl rfl
          | exact fK rfl (by kernel_rfl) rfl rfl (λw=>by simp[go_sem])
          | exact fZ rfl (by kernel_rfl) rfl rfl rfl (λw=>by simp[go_sem,hlt])
          | exact fq rfl (by kernel_rfl) rfl rfl (λw hS=>by simp[go_sem,(hS.1.get 0 rfl),(hS.1.get 1 rfl)])
          | exact dA rfl (by kernel_rfl) rfl rfl rfl (λw=>yG _ _ (by simp;omega) _ _ w)
          | exact BL rfl rfl (by kernel_rfl) rfl (by kernel_rfl) (by kernel_rfl) ht hty (λwz hS=>Sg wz hS.2 _ (nl _))
          | exact stOp rfl (by kernel_rfl) rfl (by kernel_rfl) (by kernel_rfl) (by kernel_rfl) (by kernel_rfl) ND (by decide)
          | exact JK rfl (by kernel_rfl) rfl (by kernel_rfl) (by kernel_rfl) hl1 (λwz hS=>Sg wz hS.2)
          | exact dA rfl (by kernel_rfl) rfl rfl rfl (λw=>by simp[go_sem])
       exact trivial
     · intro aF vF wF Mh Wn Wm Za SA
       have SA:aJ (λb=>(Value.slice p5 (k+1) c5).ownBlock≠some b) wF vF (cZ ⟨[115,101,116,95]++nm,⟨false,[t,ty],[],[]⟩⟩ L1):=SA _ rfl;obtain⟨pF,cF,rfl,_⟩:=SA.shape;rw[Wm];clear Wm Za;simp only[List.take_succ_cons,List.take_zero,dQ,Act.put];go_wp2_with fail;have Yz:=(cW.trans (af eu cW.size)).trans (af Wn (Nat.le_trans cW.size Rs));have Mn:=az (az dJ eu (nl _)) Wn (nl _);rw[pG.out] at Mn;exact⟨⟨k+1,hlt,by go_num,Yz,Mn,_,SA,CF⟩,by simp only[intOf];omega⟩
end Go.Proofs.YtakgjcfkdemipaaGreatDoor
namespace Go.Proofs.YtakgjcfkdemipaaGreatDoor
open Go.RowKit
theorem F6 {D D':Nat→Prop} (c:aR) (lv nv:Value) (t:List UInt8) (w:World) (hl:aZ D w lv c.bK) (hn:aJ D' w nv c.ag) (h0:(aq t).1=0) (GD:c.ag.length≤900)
 (h7:(aq t).2.k=7→∃f,ez c.bK (dI t).1=some f∧f.ops.length≤900):
 Calls Tryz.prog 70 #[lv,nv,str t] w λe w'=>∃v,e=.returned v∧eE w' v (cN (nI c t)) (cG c t).2∧Below w.heap.size w w':=by
 have ht:t.length≤maxLen:=(qP h0).1
 have hat:=(qP h0).2.1
 have KS:=(qP h0).2.2.2.1
 have hps:=(qP h0).2.2.2.2
 have hk:=gm h0
 rcases h:(aq t).2.k with _|_|_|_|_|_|_|_|_|k
 · omega
 · have:=F7 c lv nv t w hl hn ht h h0
   unfold nI cG;rw[h];exact this
 · have:=DB c lv nv t w hl hn ht h h0
   unfold nI cG;rw[h];exact this
 · have:=DC c lv nv t w hl hn ht h h0
   unfold nI cG;rw[h];exact this
 · have:=Bz c lv nv t w hl hn ht h h0 _ rfl hat
   unfold nI cG;rw[h];exact this
 · have:=Gb c lv nv t w hl hn ht h h0 hps KS
   unfold nI cG;rw[h];exact this
 · have:=F9 c lv nv t w hl hn ht h h0 hps KS
   unfold nI cG;rw[h];exact this
 · obtain⟨f,hf,hfl⟩:=h7 h
   have:=F8 c lv nv t w hl hn ht h h0 _ rfl hat f hf hfl;unfold nI cG;rw[h];simp only;rw[hf];exact this
 · have:=Ga c lv nv t w hl hn ht h h0 GD
   unfold nI cG;rw[h];exact this
 · omega
end Go.Proofs.YtakgjcfkdemipaaGreatDoor
