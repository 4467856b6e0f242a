/-
  Lemmas for the statement: contracts of the reference argusref04: raws, of records. Conditions: bounds of lengths; the variable strings.asciiSpace.
-/
import Derived.Test.YtakgjcfkdemipaaGreatDoorZB24
import Derived.Test.YtakgjcfkdemipaaGreatDoorZBn
import Derived.Test.YtakgjcfkdemipaaGreatDoorZC9
set_option maxHeartbeats 25600000
namespace Go.Proofs.YtakgjcfkdemipaaGreatDoor
open Go.RowKit
set_option maxRecDepth 8000 in
theorem ve6 {D D' : Nat → Prop} (c : bw) (lv nv : Value) (t : List UInt8) (w : World) (hl : bG D w lv c.dG) (hn : aY D' w nv c.ag) (ht : t.length ≤ maxLen) (hk : (aq t).2.k = 5) (h0 : (aq t).1 = 0) (hps : ∀ x ∈ (dJ t).1, x.1.length ≤ 1000 ∧ x.2.length ≤ maxLen) (PO : (dJ t).1.length ≤ 100) :
 Calls Tryz.prog 70 #[lv,nv,str t] w λe w'=>∃v,e=.returned v∧va6 w' v (lH (((dJ t).1.flatMap λp=>[⟨[103,101,116,95]++p.1,⟨false,[t],p.2,[]⟩⟩,⟨[115,101,116,95]++p.1,⟨false,[t,p.2],[],[]⟩⟩])++[⟨[109,97,107,101],⟨false,(dJ t).1.map (·.2),t,[]⟩⟩,⟨[101,113,117,97,108],⟨false,[t,t],gC,[]⟩⟩])) []∧Below w.heap.size w w':=by
 obtain⟨j0,hj0,hy0,hy1,hy2⟩:=bY iM
 have HK:=va9 t ht w
 rw[hk,h0] at HK
 obtain⟨pl,cl,rfl,_⟩:=hl.shape
 obtain⟨pn,cn,rfl,_⟩:=hn.shape
 have vgm:=λW=>vbf t ht W
 go_enter Tryz.func70,Tryz.ntmps70
 go_upto_region 4 with(go_at_call 128;refine HK.mono ?_;clear HK;rintro e W ⟨rfl,hB⟩)
 obtain⟨L0,yS,vaf,vb8,L9,vb7⟩:=vad hB ht
 go_upto_region 5 with fail
 clear hB
 generalize vcr:W.alloc (.cells #[str t,str t] 9)=W0 at *
 clear vcr
 go_upto_region 33 with(go_at_call 134;refine(vgm W0).mono ?_;rintro e W5 ⟨vos,rfl,hP,Iw⟩;obtain⟨pp,cp,rfl⟩:=hP.shape)
 have M3:=yS.trans (af Iw vaf)
 have ved:=vb8.below Iw zr
 have vd8:=L9.below Iw zr
 have vdk:=Nat.le_trans vaf Iw.size
 clear Iw yS vb8 vaf
 obtain⟨PS,vf6⟩:∃PS,PS=(dJ t).1:=⟨_,rfl⟩
 have vin:=zh vf6
 rw[←vf6] at hP hps PO
 simp only[←vf6]
 clear vf6 vgm
 go_wp2_with fail
 go_loopw [9,17,18] (λv va y wx=>∃k:Nat,k≤PS.length∧y=.int .i64 k∧Below W5.heap.size W5 wx∧wx.ownsRow W5.heap.size 9 1 va k (aB ((PS.take k).map (·.2)))∧∃vnq,aY (λb=>va.ownBlock≠some b) wx v vnq∧Hid (vnq=lH ((PS.take k).flatMap (λp:List UInt8×List UInt8=>([⟨[103,101,116,95]++p.1,⟨false,[t],p.2,[]⟩⟩,⟨[115,101,116,95]++p.1,⟨false,[t,p.2],[],[]⟩⟩]:List aL))))) (λ_ _ y _=>PS.length - (intOf y).toNat)
 case atStart=>exact⟨0,Nat.zero_le _,by go_num,zb _,World.ownsRow_nil _ _ _ _,L0,vd8.mono (λb _ e=>by cases e),vb7⟩
 case round =>
  clear vd8 vb7;obtain⟨k,hk,rfl,kH,hown,vnq,hO,hH⟩:=hrel;have vbi:=kH.size;obtain⟨pv,cv,rfl,_⟩:=hO.shape;obtain⟨pa,ca,rfl⟩:=bu hown
  by_cases hlt:k<PS.length
  case neg=>
   obtain rfl:k=PS.length:=by omega
   rw[List.take_length] at hH hown;have hpl:=vaa (λp:List UInt8×List UInt8=>([⟨[103,101,116,95]++p.1,⟨false,[t],p.2,[]⟩⟩,⟨[115,101,116,95]++p.1,⟨false,[t,p.2],[],[]⟩⟩]:List aL)) (λ_=>rfl) PS;have vlq:∀s∈PS.map (·.2),s.length≤maxLen:=by
    intro s hs;obtain⟨x,hx,rfl⟩:=List.mem_map.1 hs;exact(hps x hx).2
   have hS:=(SS.row (ss:=PS.map (·.2)) hown (by simp) vlq).mono (D':=Any) λ_ _=>trivial
   obtain⟨vf0,vcv⟩:∃z,z=wr:=⟨_,rfl⟩
   subst vcv;have vbj:=ved.below kH zr;have vc0:=hO.mono (D':=Any) λ_ _=>trivial
   have vb4:=hH;have vbz:=M3.trans (af kH vdk);have vb2:=Nat.le_trans vdk kH.size;have vj6:=hS;clear ved hO hH M3 kH vbi hS hown;generalize vln:PS.map (·.2)=vnv at *;have lp:=(Below.refl vf0.heap.size vf0);go_upto_region 41 with(first
    | (go_at_call 132;refine(va8 ((vc0.below lp zr).below au zr) hV (va0 vb4.out (Nat.le_trans (Nat.le_of_eq hpl) (by omega)))).mono ?_;rintro e W41 ⟨vgi,p2,c2,rfl,hE,va7,aC⟩)
    | (go_at_call 133;refine(va4 [109,97,107,101] t vnv [] _ _ _ (vj6.below lp zr) (SS.nil Any _ none 0) (by decide) ht).mono ?_;rintro e w1 ⟨u1,rfl,hV,au⟩;obtain⟨x1,y1,x2,y2,rfl⟩:=hV.vbh))
   obtain⟨vf3,ven,vf5,vdl,vd6⟩:=va2 vb4.out vbz vb2 lp au aC hE.out va7;have vem:=vbj.below ven zr;clear vbj vb4 vc0 vbz vb2 au aC va7 ven lp hV hE;have lp:=(Below.refl W41.heap.size W41);go_upto_region 63 with(first
    | (go_at_call 132;refine(va8 ((vf5.below lp zr).below au zr) hV (va0 vdl.out (by rw[List.length_append,hpl,List.length_singleton];omega))).mono ?_;rintro e W42 ⟨vgq,p2,c2,rfl,hE,va7,aC⟩)
    | (go_at_call 133;refine(va4 [101,113,117,97,108] gC [t,t] [] _ _ _ (vem.below lp zr) (SS.nil Any _ none 0) (by decide) (by decide)).mono ?_;rintro e w1 ⟨u1,rfl,hV,au⟩;obtain⟨x1,y1,x2,y2,rfl⟩:=hV.vbh))
   obtain⟨viw,vi2,vj4,vhc,vh8⟩:=va2 vdl.out vf3 vd6 lp au aC hE.out va7;have vj9:=vem.below vi2 zr;clear vem vdl vf5 vf3 vd6 au aC va7 vi2 lp hV hE;have hL:=va0 vhc.out (by rw[List.length_append,List.length_append,hpl,List.length_singleton,List.length_singleton];omega);go_wp2_with fail;clear vj9;go_loopw [27,28] (λv y wx=>∃k:Nat,k≤vgq.length∧y=.int .i64 k∧va5 W42 [] vgq k v wx) (λ_ y _=>vgq.length - (intOf y).toNat)
   case atStart=>exact⟨0,Nat.zero_le _,by go_num,va5.zero _ _ _⟩
   case round=>
    obtain⟨k,hk,rfl,hR⟩:=hrel;obtain⟨pv,cv,rfl⟩:=hR.shape
    by_cases hlt:k<vgq.length
    case neg=>
     obtain rfl:k=vgq.length:=by omega
     go_wp2_with fail;go_ret;exact⟨_,rfl,va6.to hR.fin (vhc.out.trans (by rw[←vln,vin.out,List.append_assoc]<;>rfl)),viw.trans (af hR.1 vh8)⟩
    case pos=>
     obtain⟨x,b1,o1,pa,ca,ps,vex,rfl,hX,d0,d1,d2,d3,d4⟩:=hR.at vj4 hlt;go_wp2_with (at_builtin;refine va3 hR hX hL _ _ rfl rfl rfl rfl ?_;intro v5 w5 vcq);exact⟨⟨k+1,hlt,by go_num,vcq⟩,by simp only[intOf];omega⟩
  case pos =>
   obtain⟨b1,o1,cz,⟨nm,ty⟩,mq,hkx,e0,e1⟩:=hP.at hlt;simp only[Value.slice.injEq,true_and] at mq;obtain⟨rfl,rfl⟩:=mq;obtain⟨hnm,hty⟩:=hps _ (List.mem_of_getElem? hkx);simp only at hnm hty e0 e1;have d0:=Below.keep kH e0;have d1:=Below.keep kH e1;have vgc:([103,101,116,95]++nm).length≤maxLen:=by rw[List.length_append];simp;unfold maxLen;omega
   have vgd:([115,101,116,95]++nm).length≤maxLen:=by rw[List.length_append];simp;unfold maxLen;omega
   have hpl:=vaa (λp:List UInt8×List UInt8=>([⟨[103,101,116,95]++p.1,⟨false,[t],p.2,[]⟩⟩,⟨[115,101,116,95]++p.1,⟨false,[t,p.2],[],[]⟩⟩]:List aL)) (λ_=>rfl) (PS.take k);rw[List.length_take] at hpl;have FP:vnq.length≤900:=by rw[hH.out,vb6];omega
   have vcp:=zh (show qX ⟨[115,101,116,95]++nm,⟨false,[t,ty],[],[]⟩⟩ (qX ⟨[103,101,116,95]++nm,⟨false,[t],ty,[]⟩⟩ vnq)=lH ((PS.take (k+1)).flatMap (λp:List UInt8×List UInt8=>([⟨[103,101,116,95]++p.1,⟨false,[t],p.2,[]⟩⟩,⟨[115,101,116,95]++p.1,⟨false,[t,p.2],[],[]⟩⟩]:List aL))) by rw[List.take_add_one,hkx,List.flatMap_append,hH.out,←vab,←vab];simp);have FV:=zh (show aB ((PS.take k).map (·.2))++[str ty]=aB ((PS.take (k+1)).map (·.2)) by rw[List.take_add_one,hkx];simp[aB]);clear hkx hpl;go_upto_region 38 with(at_builtin;refine bq _ rfl _ _ 34 rfl W5.heap.size 9 j0 _ 1 16 eV hj0 hy0 hy1 hy2 rfl (by decide) (.slice pa k ca) k _ rfl (hown.alloc _) ⟨wr.heap.size,0,none⟩ 1 1 [str ty] rfl rfl (cell_one_new _ _ _) (by intro u hu;rw[List.mem_singleton.1 hu];rfl) (by decide) (by unfold maxLen;omega) (by omega) (by simp;omega) ?_;intro v5 w5 gX hgr sF;obtain⟨voh,c5,rfl⟩:=bu gX);have eT:=(kH.alloc vbi (.cells #[str ty] 9)).grown hgr (by simp;omega) (λk e=>(hown.lt k e).1);have vk6:=(Below.refl wr.heap.size wr).alloc zr (.cells #[str ty] 9);have vif:aY (λb=>(Value.slice voh (k+1) c5).ownBlock≠some b) w5 (.slice pv vnq.length cv) vnq:=((hO.fresh.below vk6 zr).agree (w':=w5) (λb hb hlt=>hgr.block b hlt (λe=>hb.1 e.symm))).mono (λb hb e=>by
    rcases sF with h|h
    · exact hb.1 (h▸e)
    · rw[h] at e
      injection e with e;have:=hb.2;simp at e;omega)
   have f0:=Below.keep eT e0;have f1:=Below.keep eT e1;have vm5:w5.heap.size≤w5.drew.heap.size:=nl _;have vie:∀wz:World,w5.heap.size≤wz.heap.size→∀b,wz.heap.size≤b→(Value.slice voh (k+1) c5).ownBlock≠some b:=λwz hz b hb e=>absurd (aK gX e) (by omega)
   clear hown hO hgr sF vk6 kH d0 d1;refine jc (D:=(λb=>(Value.slice voh (k+1) c5).ownBlock≠some b)) (w:=w5) 16 [(2,.eq (str t)),(9,.ops vnq),(15,.eq (.slice (some ⟨b1,o1,none⟩) PS.length cp)),(18,.eq (.int .i64 k))] [(.ops vnq),(.eq (.slice (some ⟨b1,o1,none⟩) PS.length cp)),(.eq (.int .i64 k)),(.eq (.pointer (some ⟨b1,o1+k * 2,none⟩))),(.eq (.pointer (some ⟨b1,o1+k * 2,none⟩))),(.eq (str nm)),(.eq (str ([103,101,116,95]++nm))),(.eq (str t)),(.ss [t]),(.eq (.slice (some ⟨b1,o1,none⟩) PS.length cp)),(.eq (.int .i64 k)),(.eq (.pointer (some ⟨b1,o1+k * 2,none⟩))),(.eq (.pointer (some ⟨b1,o1+k * 2+1,none⟩))),(.eq (str ty)),(.op ⟨[103,101,116,95]++nm,⟨false,[t],ty,[]⟩⟩),(.ops (qX ⟨[103,101,116,95]++nm,⟨false,[t],ty,[]⟩⟩ vnq)),(.ops (qX ⟨[103,101,116,95]++nm,⟨false,[t],ty,[]⟩⟩ vnq))] (λw'=>aZ [(⟨b1,o1+k * 2,none⟩,str nm),(⟨b1,o1+k * 2+1,none⟩,str ty)] w'∧w5.heap.size≤w'.heap.size) (by kernel_rfl) (by kernel_rfl) (by kernel_rfl) (by kernel_rfl) (by kernel_rfl) (λ_ _ h hb=>⟨h.1.below hb,Nat.le_trans h.2 hb.size⟩) ⟨(λp hp=>by simp only[List.mem_cons,List.not_mem_nil,or_false] at hp;rcases hp with rfl|rfl<;>assumption),vm5⟩ ?_ ?_ ?_
   · intro p hp
     simp only[List.mem_cons,List.not_mem_nil,or_false] at hp;rcases hp with rfl|rfl|rfl|rfl
     · exact rfl
     · exact(vif.below (zb w5).drew zr)
     · exact rfl
     · exact rfl
   · iterate 17
      refine And.intro ?_ ?_
      · first
        | exact dr (by kernel_rfl) rfl
        | exact Mn (.inl rfl) (by kernel_rfl) rfl (by kernel_rfl)
        | exact Mn (.inr rfl) (by kernel_rfl) rfl (by kernel_rfl)
        | exact EY rfl (by kernel_rfl) rfl rfl (by kernel_rfl)
        | exact Hy rfl (by kernel_rfl) rfl rfl rfl
        | exact eX rfl (by kernel_rfl) (by kernel_rfl) rfl rfl
        | exact gN rfl (by kernel_rfl) rfl rfl (λw=>by simp[go_sem])
        | exact iC rfl (by kernel_rfl) rfl rfl rfl (λw=>by simp[go_sem,hlt])
        | exact gv rfl (by kernel_rfl) rfl rfl (λw hS=>by simp[go_sem,(hS.1.get 0 rfl),(hS.1.get 1 rfl)])
        | exact eW rfl (by kernel_rfl) rfl rfl rfl (λw=>vbw _ _ (by simp;omega) _ _ w)
        | exact Hz rfl rfl (by kernel_rfl) rfl (by kernel_rfl) ht (λwz hS=>vie wz hS.2 _ zr)
        | exact stOp rfl (by kernel_rfl) rfl (by kernel_rfl) (by kernel_rfl) (by kernel_rfl) (by kernel_rfl) vgc hty
        | exact vev rfl (by kernel_rfl) rfl (by kernel_rfl) (by kernel_rfl) (Nat.le_trans FP (by decide)) (λwz hS=>vie wz hS.2)
        | exact eW rfl (by kernel_rfl) rfl rfl rfl (λw=>by simp[go_sem])
     exact trivial
   · intro aE vE wE mo fM Pv vib SI
     have SI:aY (λb=>(Value.slice voh (k+1) c5).ownBlock≠some b) wE vE (qX ⟨[103,101,116,95]++nm,⟨false,[t],ty,[]⟩⟩ vnq):=SI _ rfl;obtain⟨pE,vo5,rfl,_⟩:=SI.shape;rw[Pv];clear Pv vib;simp only[List.take_succ_cons,List.take_zero,dA,pz,pw];have hl1:(qX (⟨[103,101,116,95]++nm,⟨false,[t],ty,[]⟩⟩) vnq).length≤1000:=by rw[vcc];omega
     have f0:=Below.keep fM f0;have f1:=Below.keep fM f1;have vic:=fM.size;have vm6:w5.heap.size≤wE.drew.heap.size:=vic;generalize qX (⟨[103,101,116,95]++nm,⟨false,[t],ty,[]⟩⟩) vnq=vni at *;go_upto_region 39 with fail;refine jc (D:=(λb=>(Value.slice voh (k+1) c5).ownBlock≠some b)) (w:=wE) 16 [(2,.eq (str t)),(9,.ops vni),(15,.eq (.slice (some ⟨b1,o1,none⟩) PS.length cp)),(18,.eq (.int .i64 k))] [(.ops vni),(.eq (.slice (some ⟨b1,o1,none⟩) PS.length cp)),(.eq (.int .i64 k)),(.eq (.pointer (some ⟨b1,o1+k * 2,none⟩))),(.eq (.pointer (some ⟨b1,o1+k * 2,none⟩))),(.eq (str nm)),(.eq (str ([115,101,116,95]++nm))),(.eq (str t)),(.eq (.slice (some ⟨b1,o1,none⟩) PS.length cp)),(.eq (.int .i64 k)),(.eq (.pointer (some ⟨b1,o1+k * 2,none⟩))),(.eq (.pointer (some ⟨b1,o1+k * 2+1,none⟩))),(.eq (str ty)),(.ss [t,ty]),(.op ⟨[115,101,116,95]++nm,⟨false,[t,ty],[],[]⟩⟩),(.ops (qX ⟨[115,101,116,95]++nm,⟨false,[t,ty],[],[]⟩⟩ vni)),(.ops (qX ⟨[115,101,116,95]++nm,⟨false,[t,ty],[],[]⟩⟩ vni))] (λw'=>aZ [(⟨b1,o1+k * 2,none⟩,str nm),(⟨b1,o1+k * 2+1,none⟩,str ty)] w'∧w5.heap.size≤w'.heap.size) (by kernel_rfl) (by kernel_rfl) (by kernel_rfl) (by kernel_rfl) (by kernel_rfl) (λ_ _ h hb=>⟨h.1.below hb,Nat.le_trans h.2 hb.size⟩) ⟨(λp hp=>by simp only[List.mem_cons,List.not_mem_nil,or_false] at hp;rcases hp with rfl|rfl<;>assumption),vm6⟩ ?_ ?_ ?_
     · intro p hp
       simp only[List.mem_cons,List.not_mem_nil,or_false] at hp;rcases hp with rfl|rfl|rfl|rfl
       · exact rfl
       · exact(SI.below (zb wE).drew zr)
       · exact rfl
       · exact rfl
     · iterate 17
        refine And.intro ?_ ?_
        · first
          | exact dr (by kernel_rfl) rfl
          | exact Mn (.inl rfl) (by kernel_rfl) rfl (by kernel_rfl)
          | exact Mn (.inr rfl) (by kernel_rfl) rfl (by kernel_rfl)
          | exact EY rfl (by kernel_rfl) rfl rfl (by kernel_rfl)
          | exact Hy rfl (by kernel_rfl) rfl rfl rfl
          | exact eX rfl (by kernel_rfl) (by kernel_rfl) rfl rfl
          | exact gN rfl (by kernel_rfl) rfl rfl (λw=>by simp[go_sem])
          | exact iC rfl (by kernel_rfl) rfl rfl rfl (λw=>by simp[go_sem,hlt])
          | exact gv rfl (by kernel_rfl) rfl rfl (λw hS=>by simp[go_sem,(hS.1.get 0 rfl),(hS.1.get 1 rfl)])
          | exact eW rfl (by kernel_rfl) rfl rfl rfl (λw=>vbw _ _ (by simp;omega) _ _ w)
          | exact Bz rfl rfl (by kernel_rfl) rfl (by kernel_rfl) (by kernel_rfl) ht hty (λwz hS=>vie wz hS.2 _ zr)
          | exact stOp rfl (by kernel_rfl) rfl (by kernel_rfl) (by kernel_rfl) (by kernel_rfl) (by kernel_rfl) vgd (by decide)
          | exact vev rfl (by kernel_rfl) rfl (by kernel_rfl) (by kernel_rfl) hl1 (λwz hS=>vie wz hS.2)
          | exact eW rfl (by kernel_rfl) rfl rfl rfl (λw=>by simp[go_sem])
       exact trivial
     · intro vo2 voq vou Nq vkf vke vly vik
       have vik:aY (λb=>(Value.slice voh (k+1) c5).ownBlock≠some b) vou voq (qX ⟨[115,101,116,95]++nm,⟨false,[t,ty],[],[]⟩⟩ vni):=vik _ rfl;obtain⟨voj,vo6,rfl,_⟩:=vik.shape;rw[vke];clear vke vly;simp only[List.take_succ_cons,List.take_zero,dA,Act.put];go_wp2_with fail;have vh4:=(eT.trans (af fM eT.size)).trans (af vkf (Nat.le_trans eT.size vic));have vfr:=ay (ay gX fM zr) vkf zr;rw[FV.out] at vfr;exact⟨⟨k+1,hlt,by go_num,vh4,vfr,_,vik,vcp⟩,by simp only[intOf];omega⟩
theorem ve1 {D D':Nat→Prop} (c:bw) (lv nv:Value) (t:List UInt8) (w:World) (hl:bG D w lv c.dG) (hn:aY D' w nv c.ag) (h0:(aq t).1=0) (PI:c.ag.length≤900)
 (h7:(aq t).2.k=7→∃f,ew c.dG (eH t).1=some f∧f.ops.length≤900):
 Calls Tryz.prog 70 #[lv,nv,str t] w λe w'=>∃v,e=.returned v∧va6 w' v (lH (vap c t)) (dU c t).2∧Below w.heap.size w w':=by
 have ht:t.length≤maxLen:=(CU h0).1
 have hat:=(CU h0).2.1
 have PO:=(CU h0).2.2.2.1
 have hps:=(CU h0).2.2.2.2
 have hk:=gl h0
 rcases h:(aq t).2.k with _|_|_|_|_|_|_|_|_|k
 · omega
 · have:=ve2 c lv nv t w hl hn ht h h0
   unfold vap dU;rw[h];exact this
 · have:=vcz c lv nv t w hl hn ht h h0
   unfold vap dU;rw[h];exact this
 · have:=vd0 c lv nv t w hl hn ht h h0
   unfold vap dU;rw[h];exact this
 · have:=vci c lv nv t w hl hn ht h h0 _ rfl hat
   unfold vap dU;rw[h];exact this
 · have:=ve6 c lv nv t w hl hn ht h h0 hps PO
   unfold vap dU;rw[h];exact this
 · have:=ve4 c lv nv t w hl hn ht h h0 hps PO
   unfold vap dU;rw[h];exact this
 · obtain⟨f,hf,hfl⟩:=h7 h
   have:=ve3 c lv nv t w hl hn ht h h0 _ rfl hat f hf hfl;unfold vap dU;rw[h];simp only;rw[hf];exact this
 · have:=ve5 c lv nv t w hl hn ht h h0 PI
   unfold vap dU;rw[h];exact this
 · omega
def vee (c:bw) (n:Nat) (want:List aL) (t:List UInt8):List aL×List UInt8:=if want≠[]∧ff c n t=0 then(lH (vap c t),(dU c t).2) else([],[])
def vaj (R:List aL×List UInt8) (want:List aL) (t:List UInt8):Option (List UInt8):=(want.find? λx=> !vcf R.1 R.2 t x).map (·.name)
def vba (c:bw) (n:Nat) (want:List aL) (t:List UInt8):Option (List UInt8):=vaj (vee c n want t) want t
theorem vbo {c:bw} {n:Nat} {want:List aL} {t:List UInt8} (h0:(aq t).1=0) (ho:iq (dU c t).1) (hg:want=[]∨ff c n t=0):vba c n want t=dZ c want t:=by
 unfold vba vaj dZ vee
 rcases hg with rfl|hg
 · rfl
 · by_cases hw:want=[]
   · subst hw;rfl
   · rw[if_pos ⟨hw,hg⟩]
     congr 2
     funext x;rw[vep c t x ho ((nB _).trans (vbr c h0))];simp
theorem veg {c:bw} {n:Nat} {want:List aL} {t:List UInt8} (hw:want≠[]) (hg:ff c n t≠0):(vba c n want t).isSome=true:=by
 unfold vba vaj vee
 rw[if_neg (λh=>hg h.2)]
 cases want with
 | nil=>exact absurd rfl hw
 | cons x l=>
  rw[List.find?_cons_of_pos (by simp[vcf])]
  rfl
theorem veh {c:bw} {n:Nat} {want:List aL} {t:List UInt8} (h0:(aq t).1=0) (ho:iq (dU c t).1):wQ c n want t=(vba c n want t).isNone:=by
 unfold wQ
 by_cases hw:want=[]
 · rw[vbo h0 ho (.inl hw)]
   subst hw;simp[dZ]
 · by_cases hg:ff c n t=0
   · rw[vbo h0 ho (.inr hg)]
     simp[hg]
   · have:=veg (c:=c) (n:=n) (want:=want) (t:=t) hw hg
     rw[Option.isNone_eq_false_iff.2 this];simp[hw,hg]
theorem vcn {c : bw} {n : Nat} {t : List UInt8} (h : ff c (n + 1) t = 0) (hk : (aq t).2.k = 7) : ∃ f, ew c.dG (eH t).1 = some f := by
 unfold ff at h
 split at h
 · exact absurd h ‹_›
 · rename_i h0
   split at h
   · omega
   · rcases hf:ew c.dG (eH t).1 with _|f
     · exfalso
       have h0':(aq t).1=0:=by omega
       have hm:t∈(cT t).1:=by
        rcases hq:aq t with⟨e,T⟩;rw[hq] at h0';simp only at h0';subst h0';obtain⟨r,h1,_⟩:=ve hq;rw[h1];exact List.mem_cons_self ..
       have hz:∀(l:List Nat),dY l=0→∀e∈l,e=0:=by
        intro l
        induction l with
        | nil=>intro _ e he;cases he
        | cons a l ih=>
         intro hl e he;rw[dY] at hl;split at hl
         · rename_i ha
           rcases List.mem_cons.1 he with rfl|he
           · exact ha
           · exact ih hl e he
         · omega
       have:=hz _ h _ (List.mem_map_of_mem hm);rw[rF hk hf] at this;omega
     · exact⟨f,rfl⟩
def vbn (c:bw):Prop:=(∀f∈c.dG,dF f=true)∧aU c.ag=true
def vbm (c:bw) (n:Nat):Prop:=
 ∀(D D':Nat→Prop) (lv nv:Value) (t:List UInt8) (w:World),bG D w lv c.dG→aY D' w nv c.ag→t.length≤maxLen→jy t<n→Calls Tryz.prog 68 #[lv,nv,.bool c.par,str t] w λe w'=>e=.returned (.int .i64 (ff c n t))∧Below w.heap.size w w'
def vb0 (a:List UInt8) (y:aL) (PS:bP×Nat) (o:aL):Bool:=decide ((eF o.sig a).2=0)&&decide (o.name=y.name)&&pK (eF o.sig a).1 PS.1
theorem vfc (R:List aL) (a t:List UInt8) (y:aL):vcf R a t y=(decide ((eF y.sig t).2=0)&&R.any (vb0 a y (eF y.sig t))):=rfl
theorem vdn {R:List aL×List UInt8} {t:List UInt8} {y:aL} {l:List aL} (h:vcf R.1 R.2 t y=true):vaj R (y::l) t=vaj R l t:=by
 unfold vaj
 rw[List.find?_cons_of_neg (by simp[h])]
theorem vcd {R:List aL×List UInt8} {t:List UInt8} {y:aL} {l:List aL} (h:vcf R.1 R.2 t y=false):vaj R (y::l) t=some y.name:=by
 unfold vaj
 rw[List.find?_cons_of_pos (by simp[h])]
 rfl
theorem vef {R:List aL} {p:aL→Bool} {k:Nat} {x:aL} (h:R[k]? =some x):(R.take (k+1)).any p=((R.take k).any p||p x):=by
 rw[List.take_add_one,h]
 simp
set_option maxRecDepth 8000 in
theorem vcx {D D' vn9 : Nat → Prop} (c : bw) (k0 : Nat) (hG : vbm c k0) (lv nv wv : Value) (want : List aL) (t : List UInt8) (w : World) (hl : bG D w lv c.dG) (hn : aY D' w nv c.ag) (hw : aY vn9 w wv want) (qW : ∀ o ∈ want, o.sig.args.length ≤ 100000)
 (h0:(aq t).1=0) (hne:t≠[]) (hk:jy t<k0) (hw0:want≠[]) (lp:ff c k0 t=0) (hal:∀x∈lH (vap c t),x.sig.args.length≤100000) (h7:(aq t).2.k=7→∃f,ew c.dG (eH t).1=some f∧f.ops.length≤900) (PI:c.ag.length≤900) (vm3:(dU c t).2.length≤maxLen):
 Calls Tryz.prog 131 #[lv,nv,.bool c.par,wv,str t] w λe w'=>e=.returned (.tuple #[str ((vaj (lH (vap c t),(dU c t).2) want t).getD []),.bool (vaj (lH (vap c t),(dU c t).2) want t).isNone])∧Below w.heap.size w w':=by
 have ht:t.length≤maxLen:=(CU h0).1
 have LG:=hG D D' lv nv t w hl hn ht hk
 rw[lp] at LG
 have vk0:=λW (hW:Below w.heap.size w W)=>ve1 c lv nv t W (hl.below hW zr) (hn.below hW zr) h0 PI h7
 have hwp:0<want.length:=List.length_pos_iff.2 hw0
 have vo9:(0:Int)<(want.length:Int):=by omega
 have vip:=λ(x:Value) (s:bP) (W:World) (hx:aT Any W x s) (hl:s.args.length≤100000)=>vb1 x s t W hx hne ht hl
 generalize lH (vap c t)=vnx at *
 generalize (dU c t).2=vnw at *
 obtain⟨pl,cl,rfl,_⟩:=hl.shape
 obtain⟨pn,cn,rfl,_⟩:=hn.shape
 obtain⟨pw,cw,rfl,_,vm0,_⟩:=hw.shape
 unfold maxLen at vm0
 have vkx:=zh qW
 have Qz:=zh hal
 clear hG qW hal h7 PI h0 hne hk lp hw0
 go_enter Tryz.func131,Tryz.ntmps131
 go_wp2_with (first
  | (go_at_call 70;refine(vk0 _ au).mono ?_;clear vk0;rintro e w2 ⟨vot,rfl,hR,aC⟩;obtain⟨pR,cR,rfl,vlz⟩:=hR.shape)
  | (go_at_call 68;refine LG.mono ?_;clear LG;rintro e w1 ⟨rfl,au⟩))
 have cD:=au.trans (af aC au.size)
 unfold maxLen at vlz
 clear au aC
 go_loopw [13] (λa wx=>∃i:Nat,i≤want.length∧a=.int .i64 i∧Below w2.heap.size w2 wx∧Hid (vaj (vnx,vnw) want t=vaj (vnx,vnw) (want.drop i) t)) (λa _=>want.length - (intOf a).toNat)
 case atStart=>exact⟨0,Nat.zero_le _,by go_num,zb _,rfl⟩
 case round =>
  obtain⟨i,hi,rfl,hb,hE⟩:=hrel;have DA:=cD.trans (af hb cD.size)
  by_cases hlt:i<want.length
  case neg=>
   have HX:=zh (show vaj (vnx,vnw) want t=none by rw[hE.out,List.drop_eq_nil_of_le (by omega)];rfl);clear hE;go_wp2_with fail;go_ret2;rw[HX.out];exact⟨rfl,DA⟩
  case pos =>
   obtain⟨y,j8⟩:∃y,want[i]? =some y:=⟨_,List.getElem?_eq_getElem hlt⟩
   obtain⟨vo4,vog,av,sv,rfl,_,⟨vm7,vju⟩,fe,eE,d0,d1,d2,d3,d4⟩:=(hw.below DA zr).at j8;have wW:aT Any wr (.agg #[.bool y.sig.iter,av,str y.sig.res,sv]) y.sig:=⟨_,_,rfl,vju,fe.mono λ_ _=>trivial,eE.mono λ_ _=>trivial⟩;have HC:=vip _ y.sig wr wW (vkx.out y (List.mem_of_getElem? j8));have hd:=hE.out;rw[bp j8] at hd;have vca:=vfc vnx vnw t y;obtain⟨pa,ca,rfl,_⟩:=fe.shape;obtain⟨ps,cs,rfl,_⟩:=eE.shape;generalize eF y.sig t=PS at *;clear hE j8 fe eE wW
   by_cases hsh:PS.2=0
   case neg=>
    rw[decide_eq_false hsh] at HC vca;have HX:=zh (hd.trans (vcd (R:=(vnx,vnw)) (l:=want.drop (i+1)) (by rw[vca];rfl)));clear hd vca hsh;go_wp2_with (go_at_call 135;refine HC.mono ?_;clear HC;rintro e w1 ⟨u,rfl,⟨vo3,voo,rfl,voc,von,vol⟩,au⟩;obtain⟨px,cx,rfl,_⟩:=von.shape;obtain⟨py,cy,rfl,_⟩:=vol.shape);have vk4:=Below.keep (au.trans ((Below.refl wr.heap.size w1).alloc au.size (.cells #[.bool PS.1.iter,.slice px PS.1.args.length cx,str PS.1.res,.slice py PS.1.sigs.length cy] 36))) d0;have O4:=(DA.trans (af au DA.size)).alloc (Nat.le_trans DA.size au.size) (.cells #[.bool PS.1.iter,.slice px PS.1.args.length cx,str PS.1.res,.slice py PS.1.sigs.length cy] 36);generalize hW:w1.alloc (.cells #[.bool PS.1.iter,.slice px PS.1.args.length cx,str PS.1.res,.slice py PS.1.sigs.length cy] 36)=W2 at *;go_loopw [14,17] (λf a wx=>f=.bool false∧a=.int .i64 0∧wx=W2) (λ_ _ _=>0)
    case atStart=>exact⟨rfl,rfl,rfl⟩
    case round=>
     obtain⟨rfl,rfl,rfl⟩:=hrel;clear hW
     by_cases hz:0<vnx.length
     · have voa:(0:Int)<(vnx.length:Int):=by omega
       go_wp2_with fail;go_ret2;rw[HX.out];exact⟨rfl,O4⟩
     · have voa:¬(0:Int)<(vnx.length:Int):=by omega
       go_wp2_with fail;go_ret2;rw[HX.out];exact⟨rfl,O4⟩
   case pos =>
    rw[decide_eq_true hsh] at HC vca;rw[Bool.true_and] at vca;have MA:=zh (λh:vnx.any (vb0 vnw y PS)=true=>hd.trans (vdn (R:=(vnx,vnw)) (l:=want.drop (i+1)) (by rw[vca];exact h)));have QC:=zh (λh:vnx.any (vb0 vnw y PS)=false=>hd.trans (vcd (R:=(vnx,vnw)) (l:=want.drop (i+1)) (by rw[vca];exact h)));clear hd vca hsh;go_wp2_with (go_at_call 135;refine HC.mono ?_;clear HC;rintro e w1 ⟨u,rfl,⟨vo3,voo,rfl,voc,von,vol⟩,au⟩;obtain⟨px,cx,rfl,_⟩:=von.shape;obtain⟨py,cy,rfl,_⟩:=vol.shape);have vf9:=(Below.refl w1.heap.size w1).alloc zr (.cells #[.bool PS.1.iter,.slice px PS.1.args.length cx,str PS.1.res,.slice py PS.1.sigs.length cy] 36);have hbc:=au.trans (af vf9 au.size);have vg9:=hb.trans (af hbc hb.size);have vk4:=Below.keep hbc d0;have vf8:aT Any (w1.alloc (.cells #[.bool PS.1.iter,.slice px PS.1.args.length cx,str PS.1.res,.slice py PS.1.sigs.length cy] 36)) (.agg #[.bool PS.1.iter,.slice px PS.1.args.length cx,str PS.1.res,.slice py PS.1.sigs.length cy]) PS.1:=⟨_,_,rfl,voc,(von.mono λ_ _=>trivial).below vf9 zr,(vol.mono λ_ _=>trivial).below vf9 zr⟩;have vjr:=heap_alloc_new w1 (.cells #[.bool PS.1.iter,.slice px PS.1.args.length cx,str PS.1.res,.slice py PS.1.sigs.length cy] 36);have vlo:=hR.below vg9 zr;clear vf9 hbc von vol d0 d1 d2 d3 d4 au;generalize hW:w1.alloc (.cells #[.bool PS.1.iter,.slice px PS.1.args.length cx,str PS.1.res,.slice py PS.1.sigs.length cy] 36)=W2 at *;go_loopw [14,17] (λf a wx=>∃k:Nat,k≤vnx.length∧a=.int .i64 k∧f=.bool ((vnx.take k).any (vb0 vnw y PS))∧Below W2.heap.size W2 wx) (λ_ a _=>vnx.length - (intOf a).toNat)
    case atStart=>exact⟨0,Nat.zero_le _,by go_num,rfl,zb _⟩
    case round =>
     clear hW;obtain⟨k,NU,rfl,rfl,hbk⟩:=hrel;have O6:=vg9.trans (af hbk vg9.size);have vh6:=cD.trans (af O6 cD.size);have vk5:=Below.keep hbk vk4;obtain⟨vnd,vfp⟩:∃vnd,vnd=(vnx.take k).any (vb0 vnw y PS):=⟨_,rfl⟩
     rw[←vfp]
     by_cases hki:k<vnx.length
     case neg=>
      obtain rfl:k=vnx.length:=by omega
      rw[List.take_length] at vfp;cases vnd
      · have HX:=zh (QC.out vfp.symm)
        clear vfp;go_wp2_with fail;go_ret2;rw[HX.out];exact⟨rfl,vh6⟩
      · have HX:=zh (MA.out vfp.symm)
        clear vfp;go_wp2_with fail;exact⟨⟨i+1,hlt,by go_num,O6,HX⟩,by simp only[intOf];omega⟩
     case pos =>
      obtain⟨x,hkx⟩:∃x,vnx[k]? =some x:=⟨_,List.getElem?_eq_getElem hki⟩
      obtain⟨b6,o6,vm8,vm9,rfl,⟨F8,mI⟩,vjc,vje,e0,e1,e2,e3,e4,e5⟩:=(vlo.below hbk zr).at hkx;have vi3:=Qz.out x (List.mem_of_getElem? hkx);have vio:=vd1 (.agg #[str x.name,.bool x.sig.iter,vm8,str x.sig.res,vm9,str vnw]) x vnw wr ⟨_,_,rfl,⟨F8,mI⟩,vjc,vje⟩ vm3 vi3;have vd7:=vef (p:=vb0 vnw y PS) hkx;rw[←vfp] at vd7;have hmx:vb0 vnw y PS x=(decide ((eF x.sig vnw).2=0)&&decide (x.name=y.name)&&pK (eF x.sig vnw).1 PS.1):=rfl;rw[hmx] at vd7;obtain⟨vmw,vmo,rfl,_⟩:=vjc.shape;obtain⟨vmx,vmp,rfl,_⟩:=vje.shape;generalize eF x.sig vnw=vnu at *;obtain⟨vnr,vkb⟩:∃vnr,vnr=decide (vnu.2=0):=⟨_,rfl⟩
      rw[←vkb] at vio vd7;clear hmx hkx vfp vkb vjc vje vi3;go_upto_region 13 with(go_at_call 71;refine vio.mono ?_;clear vio;rintro e w3 ⟨u,rfl,⟨vo3,voo,rfl,voc,von,vol⟩,aH⟩;obtain⟨pu,cu,rfl,_⟩:=von.shape;obtain⟨pv,cv,rfl,_⟩:=vol.shape);have vfa:=(Below.refl w3.heap.size w3).alloc zr (.cells #[.bool vnu.1.iter,.slice pu vnu.1.args.length cu,str vnu.1.res,.slice pv vnu.1.sigs.length cv] 36);have hb4:=aH.trans (af vfa aH.size);have vht:aT Any (w3.alloc (.cells #[.bool vnu.1.iter,.slice pu vnu.1.args.length cu,str vnu.1.res,.slice pv vnu.1.sigs.length cv] 36)) (.agg #[.bool vnu.1.iter,.slice pu vnu.1.args.length cu,str vnu.1.res,.slice pv vnu.1.sigs.length cv]) vnu.1:=⟨_,_,rfl,voc,von.below vfa zr,vol.below vfa zr⟩;have vf8:=(vf8.below hbk zr).below hb4 zr;have vlj:=(aN (heap_alloc_new w3 (.cells #[.bool vnu.1.iter,.slice pu vnu.1.args.length cu,str vnu.1.res,.slice pv vnu.1.sigs.length cv] 36))).1;have vli:=(aN (ah (ah vjr hbk) hb4)).1;obtain⟨m0,m1,m2,m3⟩:=vlj;obtain⟨q0,q1,q2,q3⟩:=vli;have n0:=Below.keep hb4 e0;have n1:=Below.keep hb4 vk5;have vbk:=hbk.trans (af hb4 hbk.size);clear vfa von vol aH e0 e1 e2 e3 e4 e5 vk5 hb4 O6 vh6;generalize vg7:w3.alloc (.cells #[.bool vnu.1.iter,.slice pu vnu.1.args.length cu,str vnu.1.res,.slice pv vnu.1.sigs.length cv] 36)=W4 at *;clear vg7;cases vnd
      · cases vnr
        · simp only [Bool.false_and, Bool.or_false] at vd7
          refine dK (D:=Any) (w:=W4) 23 [(14,vN),(19,vN)] [vN,vN,vN,vN,vK,vK,vK,vK,vK,vK,vK,vK,vK,vK,vK,vK,vN,vN,vK,vK,vK,vN,vN,vN] (aZ []) (by kernel_rfl) rfl (λ_ _ h hb=>h.below hb) (λp hp=>by cases hp) ⟨rfl,rfl,trivial⟩ ?_ ?_
          · iterate 24
             refine And.intro ?_ ?_
             · first
               | exact dr (by kernel_rfl) rfl
               | exact oe rfl rfl (by kernel_rfl)
               | exact eX rfl (by kernel_rfl) (by kernel_rfl) rfl rfl
               | exact gN rfl (by kernel_rfl) rfl rfl (λw=>by simp[go_sem])
               | exact iC rfl (by kernel_rfl) rfl rfl rfl (λw=>by simp[go_sem,hlt,hki])
               | exact gv rfl (by kernel_rfl) rfl rfl (λw hS=>by simp[go_sem])
               | exact eW rfl (by kernel_rfl) rfl rfl rfl (λw=>by simp[go_sem])
            exact trivial
          · intro aE wE mo fM _
            simp only[pq,pz,pw];go_wp2_with fail;exact⟨⟨k+1,hki,by go_num,by rw[vd7],vbk.trans (af fM vbk.size)⟩,by simp only[intOf];omega⟩
        · by_cases hnm : x.name = y.name
          · rw [decide_eq_true hnm] at vd7
            rcases SB:pK vnu.1 PS.1 with _|_
            · rw [SB] at vd7
              refine dK (D:=Any) (w:=W4) 23 [(3,vL vo4 vog want.length cw),(12,vL b6 o6 vnx.length cR),(13,vI i),(14,vN),(15,vP w1.heap.size 0),(17,vI k),(18,vP w3.heap.size 0),(19,vY)] [vN,vN,vY,vY,vL b6 o6 vnx.length cR,vI k,vP b6 (o6+k * 6),vP b6 (o6+k * 6),vP b6 (o6+k * 6),vT x.name,vL vo4 vog want.length cw,vI i,vP vo4 (vog+i * 5),vP vo4 (vog+i * 5),vT y.name,vY,vY,vY,.eq (.agg #[.bool vnu.1.iter,.slice pu vnu.1.args.length cu,str vnu.1.res,.slice pv vnu.1.sigs.length cv]),.eq (.agg #[.bool PS.1.iter,.slice px PS.1.args.length cx,str PS.1.res,.slice py PS.1.sigs.length cy]),vN,vN,vN,vN] (λw'=>aZ [(⟨b6,o6+k * 6,none⟩,str x.name),(⟨vo4,vog+i * 5,none⟩,str y.name),(⟨w3.heap.size,0,none⟩,.bool vnu.1.iter),(⟨w3.heap.size,1,none⟩,.slice pu vnu.1.args.length cu),(⟨w3.heap.size,2,none⟩,str vnu.1.res),(⟨w3.heap.size,3,none⟩,.slice pv vnu.1.sigs.length cv),(⟨w1.heap.size,0,none⟩,.bool PS.1.iter),(⟨w1.heap.size,1,none⟩,.slice px PS.1.args.length cx),(⟨w1.heap.size,2,none⟩,str PS.1.res),(⟨w1.heap.size,3,none⟩,.slice py PS.1.sigs.length cy)] w'∧aT Any w' (.agg #[.bool vnu.1.iter,.slice pu vnu.1.args.length cu,str vnu.1.res,.slice pv vnu.1.sigs.length cv]) vnu.1∧aT Any w' (.agg #[.bool PS.1.iter,.slice px PS.1.args.length cx,str PS.1.res,.slice py PS.1.sigs.length cy]) PS.1) (by kernel_rfl) rfl (λ_ _ h hb=>⟨h.1.below hb,h.2.1.below hb zr,h.2.2.below hb zr⟩) ⟨(by(iterate 10 refine b9 (by assumption) ?_);exact gy),vht.below (zb W4).drew zr,vf8.below (zb W4).drew zr⟩ ⟨rfl,rfl,rfl,rfl,rfl,rfl,rfl,rfl,trivial⟩ ?_ ?_
              · iterate 24
                 refine And.intro ?_ ?_
                 · first
                   | exact dr (by kernel_rfl) rfl
                   | exact oe rfl rfl (by kernel_rfl)
                   | exact eX rfl (by kernel_rfl) (by kernel_rfl) rfl rfl
                   | exact gN rfl (by kernel_rfl) rfl rfl (λw=>by simp[go_sem])
                   | exact iC rfl (by kernel_rfl) rfl rfl rfl (λw=>by simp[go_sem,hlt,hki])
                   | exact gv rfl (by kernel_rfl) rfl rfl (λw hS=>by simp[go_sem,(hS.1.get 0 rfl),(hS.1.get 1 rfl),(hS.1.get 2 rfl),(hS.1.get 3 rfl),(hS.1.get 4 rfl),(hS.1.get 5 rfl),(hS.1.get 6 rfl),(hS.1.get 7 rfl),(hS.1.get 8 rfl),(hS.1.get 9 rfl)])
                   | exact gu (s1:=.eq (.agg #[.bool vnu.1.iter,.slice pu vnu.1.args.length cu,str vnu.1.res,.slice pv vnu.1.sigs.length cv])) (s2:=.eq (.agg #[.bool PS.1.iter,.slice px PS.1.args.length cx,str PS.1.res,.slice py PS.1.sigs.length cy])) rfl (enters_of Tryz.func26 (by kernel_rfl) rfl) (by kernel_rfl) rfl (by kernel_rfl) (by kernel_rfl) (λv v2 wx hS h1 h2=>by rw[show v=_ from h1,show v2=_ from h2];exact(EN vnu.1 PS.1 _ _ wx hS.2.1 hS.2.2).mono (by rintro e w' ⟨rfl,hb⟩;exact⟨_,rfl,(show Value.bool (pK vnu.1 PS.1)=.bool false by rw[SB]),hb⟩))
                   | exact eW rfl (by kernel_rfl) rfl rfl rfl (λw=>by simp[go_sem,hnm])
                exact trivial
              · intro aE wE mo fM _
                simp only[pq,pz,pw];go_wp2_with fail;exact⟨⟨k+1,hki,by go_num,by rw[vd7];rfl,vbk.trans (af fM vbk.size)⟩,by simp only[intOf];omega⟩
            · rw [SB] at vd7
              refine dK (D:=Any) (w:=W4) 23 [(3,vL vo4 vog want.length cw),(12,vL b6 o6 vnx.length cR),(13,vI i),(14,vN),(15,vP w1.heap.size 0),(17,vI k),(18,vP w3.heap.size 0),(19,vY)] [vN,vN,vY,vY,vL b6 o6 vnx.length cR,vI k,vP b6 (o6+k * 6),vP b6 (o6+k * 6),vP b6 (o6+k * 6),vT x.name,vL vo4 vog want.length cw,vI i,vP vo4 (vog+i * 5),vP vo4 (vog+i * 5),vT y.name,vY,vY,vY,.eq (.agg #[.bool vnu.1.iter,.slice pu vnu.1.args.length cu,str vnu.1.res,.slice pv vnu.1.sigs.length cv]),.eq (.agg #[.bool PS.1.iter,.slice px PS.1.args.length cx,str PS.1.res,.slice py PS.1.sigs.length cy]),vY,vY,vY,vY] (λw'=>aZ [(⟨b6,o6+k * 6,none⟩,str x.name),(⟨vo4,vog+i * 5,none⟩,str y.name),(⟨w3.heap.size,0,none⟩,.bool vnu.1.iter),(⟨w3.heap.size,1,none⟩,.slice pu vnu.1.args.length cu),(⟨w3.heap.size,2,none⟩,str vnu.1.res),(⟨w3.heap.size,3,none⟩,.slice pv vnu.1.sigs.length cv),(⟨w1.heap.size,0,none⟩,.bool PS.1.iter),(⟨w1.heap.size,1,none⟩,.slice px PS.1.args.length cx),(⟨w1.heap.size,2,none⟩,str PS.1.res),(⟨w1.heap.size,3,none⟩,.slice py PS.1.sigs.length cy)] w'∧aT Any w' (.agg #[.bool vnu.1.iter,.slice pu vnu.1.args.length cu,str vnu.1.res,.slice pv vnu.1.sigs.length cv]) vnu.1∧aT Any w' (.agg #[.bool PS.1.iter,.slice px PS.1.args.length cx,str PS.1.res,.slice py PS.1.sigs.length cy]) PS.1) (by kernel_rfl) rfl (λ_ _ h hb=>⟨h.1.below hb,h.2.1.below hb zr,h.2.2.below hb zr⟩) ⟨(by(iterate 10 refine b9 (by assumption) ?_);exact gy),vht.below (zb W4).drew zr,vf8.below (zb W4).drew zr⟩ ⟨rfl,rfl,rfl,rfl,rfl,rfl,rfl,rfl,trivial⟩ ?_ ?_
              · iterate 24
                 refine And.intro ?_ ?_
                 · first
                   | exact dr (by kernel_rfl) rfl
                   | exact oe rfl rfl (by kernel_rfl)
                   | exact eX rfl (by kernel_rfl) (by kernel_rfl) rfl rfl
                   | exact gN rfl (by kernel_rfl) rfl rfl (λw=>by simp[go_sem])
                   | exact iC rfl (by kernel_rfl) rfl rfl rfl (λw=>by simp[go_sem,hlt,hki])
                   | exact gv rfl (by kernel_rfl) rfl rfl (λw hS=>by simp[go_sem,(hS.1.get 0 rfl),(hS.1.get 1 rfl),(hS.1.get 2 rfl),(hS.1.get 3 rfl),(hS.1.get 4 rfl),(hS.1.get 5 rfl),(hS.1.get 6 rfl),(hS.1.get 7 rfl),(hS.1.get 8 rfl),(hS.1.get 9 rfl)])
                   | exact gu (s1:=.eq (.agg #[.bool vnu.1.iter,.slice pu vnu.1.args.length cu,str vnu.1.res,.slice pv vnu.1.sigs.length cv])) (s2:=.eq (.agg #[.bool PS.1.iter,.slice px PS.1.args.length cx,str PS.1.res,.slice py PS.1.sigs.length cy])) rfl (enters_of Tryz.func26 (by kernel_rfl) rfl) (by kernel_rfl) rfl (by kernel_rfl) (by kernel_rfl) (λv v2 wx hS h1 h2=>by rw[show v=_ from h1,show v2=_ from h2];exact(EN vnu.1 PS.1 _ _ wx hS.2.1 hS.2.2).mono (by rintro e w' ⟨rfl,hb⟩;exact⟨_,rfl,(show Value.bool (pK vnu.1 PS.1)=.bool true by rw[SB]),hb⟩))
                   | exact eW rfl (by kernel_rfl) rfl rfl rfl (λw=>by simp[go_sem,hnm])
                exact trivial
              · intro aE wE mo fM _
                simp only[pq,pz,pw];go_wp2_with fail;exact⟨⟨k+1,hki,by go_num,by rw[vd7];rfl,vbk.trans (af fM vbk.size)⟩,by simp only[intOf];omega⟩
          · rw [decide_eq_false hnm] at vd7
            refine dK (D:=Any) (w:=W4) 23 [(3,vL vo4 vog want.length cw),(12,vL b6 o6 vnx.length cR),(13,vI i),(14,vN),(17,vI k),(19,vY)] [vN,vN,vY,vY,vL b6 o6 vnx.length cR,vI k,vP b6 (o6+k * 6),vP b6 (o6+k * 6),vP b6 (o6+k * 6),vT x.name,vL vo4 vog want.length cw,vI i,vP vo4 (vog+i * 5),vP vo4 (vog+i * 5),vT y.name,vN,vN,vN,vK,vK,vK,vN,vN,vN] (aZ [(⟨b6,o6+k * 6,none⟩,str x.name),(⟨vo4,vog+i * 5,none⟩,str y.name)]) (by kernel_rfl) rfl (λ_ _ h hb=>h.below hb) (by(iterate 2 refine b9 (by assumption) ?_);exact gy) ⟨rfl,rfl,rfl,rfl,rfl,rfl,trivial⟩ ?_ ?_
            · iterate 24
               refine And.intro ?_ ?_
               · first
                 | exact dr (by kernel_rfl) rfl
                 | exact oe rfl rfl (by kernel_rfl)
                 | exact eX rfl (by kernel_rfl) (by kernel_rfl) rfl rfl
                 | exact gN rfl (by kernel_rfl) rfl rfl (λw=>by simp[go_sem])
                 | exact iC rfl (by kernel_rfl) rfl rfl rfl (λw=>by simp[go_sem,hlt,hki])
                 | exact gv rfl (by kernel_rfl) rfl rfl (λw hS=>by simp[go_sem,(hS.get 0 rfl),(hS.get 1 rfl)])
                 | exact eW rfl (by kernel_rfl) rfl rfl rfl (λw=>by simp[go_sem,hnm])
              exact trivial
            · intro aE wE mo fM _
              simp only[pq,pz,pw];go_wp2_with fail;exact⟨⟨k+1,hki,by go_num,by rw[vd7];rfl,vbk.trans (af fM vbk.size)⟩,by simp only[intOf];omega⟩
      · rw [Bool.true_or] at vd7
        refine dK (D:=Any) (w:=W4) 23 [(14,vY)] [vY,vY,vK,vK,vK,vK,vK,vK,vK,vK,vK,vK,vK,vK,vK,vK,vK,vK,vK,vK,vK,vK,vY,vY] (aZ []) (by kernel_rfl) rfl (λ_ _ h hb=>h.below hb) (λp hp=>by cases hp) ⟨rfl,trivial⟩ ?_ ?_
        · iterate 24
           refine And.intro ?_ ?_
           · first
             | exact dr (by kernel_rfl) rfl
             | exact oe rfl rfl (by kernel_rfl)
             | exact eX rfl (by kernel_rfl) (by kernel_rfl) rfl rfl
             | exact gN rfl (by kernel_rfl) rfl rfl (λw=>by simp[go_sem])
             | exact iC rfl (by kernel_rfl) rfl rfl rfl (λw=>by simp[go_sem,hlt,hki])
             | exact gv rfl (by kernel_rfl) rfl rfl (λw hS=>by simp[go_sem])
             | exact eW rfl (by kernel_rfl) rfl rfl rfl (λw=>by simp[go_sem])
          exact trivial
        · intro aE wE mo fM _
          simp only[pq,pz,pw];go_wp2_with fail;exact⟨⟨k+1,hki,by go_num,by rw[vd7],vbk.trans (af fM vbk.size)⟩,by simp only[intOf];omega⟩
set_option maxRecDepth 8000 in
theorem vdv {D D' vn9:Nat→Prop} (c:bw) (k0:Nat) (hG:vbm c k0) (lv nv wv:Value) (want:List aL) (t:List UInt8) (w:World) (hl:bG D w lv c.dG) (hn:aY D' w nv c.ag) (hw:aY vn9 w wv want) (qW:∀o∈want,o.sig.args.length≤100000)
 (ht:t.length≤maxLen) (hne:t≠[]) (hk:jy t<k0) (y:aL) (hy:want[0]? =some y) (lp:ff c k0 t≠0):
 Calls Tryz.prog 131 #[lv,nv,.bool c.par,wv,str t] w λe w'=>e=.returned (.tuple #[str y.name,.bool false])∧Below w.heap.size w w':=by
 have LG:=hG D D' lv nv t w hl hn ht hk
 obtain⟨g1,g2⟩:=bK lp
 have hwp:0<want.length:=(List.getElem?_eq_some_iff.1 hy).1
 have vo9:(0:Int)<(want.length:Int):=by omega
 have vip:=λ(x:Value) (s:bP) (W:World) (hx:aT Any W x s) (hl:s.args.length≤100000)=>vb1 x s t W hx hne ht hl
 obtain⟨pw,cw,rfl,_,hm,_⟩:=hw.shape
 obtain⟨vo4,vog,av,sv,rfl,_,⟨vm7,vju⟩,fe,eE,d0,d1,d2,d3,d4⟩:=hw.at hy
 rw[Nat.zero_mul,Nat.add_zero] at d0 d1 d2 d3 d4
 have wW:∀W,Below w.heap.size w W→aT Any W (.agg #[.bool y.sig.iter,av,str y.sig.res,sv]) y.sig:=λW hW=>⟨_,_,rfl,vju,(fe.mono λ_ _=>trivial).below hW zr,(eE.mono λ_ _=>trivial).below hW zr⟩
 have vkv:=zh wW
 obtain⟨pa,ca,rfl,_⟩:=fe.shape
 obtain⟨ps,cs,rfl,_⟩:=eE.shape
 obtain⟨pl,cl,rfl,_⟩:=hl.shape
 obtain⟨pn,cn,rfl,_⟩:=hn.shape
 have Mh:=qW y (List.mem_of_getElem? hy)
 unfold maxLen at hm
 clear qW hy hG lp fe eE wW hw
 generalize ff c k0 t=GN at *
 go_enter Tryz.func131,Tryz.ntmps131
 go_wp2_with (go_at_call 68;refine LG.mono ?_;clear LG;rintro e w1 ⟨rfl,au⟩)
 have d0:=Below.keep au d0
 have d1:=Below.keep au d1
 have d2:=Below.keep au d2
 have d3:=Below.keep au d3
 have d4:=Below.keep au d4
 have HC:=vip _ y.sig w1 (vkv.out _ au) Mh
 generalize eF y.sig t=PS at *
 go_loopw [13] (λa wx=>a=.int .i64 0∧wx=w1) (λ_ _=>0)
 case atStart=>exact⟨rfl,rfl⟩
 case round=>
  obtain⟨rfl,rfl⟩:=hrel;cases hsh:decide (PS.2=0)
  all_goals
   rw[hsh] at HC;go_wp2_with (go_at_call 135;refine HC.mono ?_;clear HC;rintro e w2 ⟨u,rfl,⟨vo3,voo,rfl,voc,von,vol⟩,aC⟩;obtain⟨px,cx,rfl,_⟩:=von.shape;obtain⟨py,cy,rfl,_⟩:=vol.shape);have mq:=aC.trans (af ((Below.refl w2.heap.size w2).alloc zr (.cells #[.bool PS.1.iter,.slice px PS.1.args.length cx,str PS.1.res,.slice py PS.1.sigs.length cy] 36)) aC.size);have vms:=Below.keep mq d0;have O4:=au.trans (af mq au.size);generalize hW:w2.alloc (.cells #[.bool PS.1.iter,.slice px PS.1.args.length cx,str PS.1.res,.slice py PS.1.sigs.length cy] 36)=W2 at *;go_loopw [14,17] (λf a wx=>f=.bool false∧a=.int .i64 0∧wx=W2) (λ_ _ _=>0)
   case atStart=>exact⟨rfl,rfl,rfl⟩
   case round=>
    obtain⟨rfl,rfl,rfl⟩:=hrel;clear hW;go_wp2_with fail;go_ret2;exact⟨rfl,O4⟩
set_option maxRecDepth 8000 in
theorem vdw {D D':Nat→Prop} (c:bw) (lv nv:Value) (p:Option Addr) (cw:Nat) (t:List UInt8) (w:World) (hl:bG D w lv c.dG) (hn:aY D' w nv c.ag):
 Calls Tryz.prog 131 #[lv,nv,.bool c.par,.slice p 0 cw,str t] w λe w'=>e=.returned (.tuple #[str [],.bool true])∧Below w.heap.size w w':=by
 obtain⟨pl,cl,rfl,_⟩:=hl.shape
 obtain⟨pn,cn,rfl,_⟩:=hn.shape
 go_enter Tryz.func131,Tryz.ntmps131
 go_wp2_with fail
 go_loopw [13] (λa wx=>a=.int .i64 0∧wx=w) (λ_ _=>0)
 case atStart=>exact⟨rfl,rfl⟩
 case round=>
  obtain⟨rfl,rfl⟩:=hrel;go_wp2_with fail;go_ret2;exact⟨rfl,zb _⟩
theorem vds {c:bw} (iw:vbn c) {t:List UInt8} (h0:(aq t).1=0):sR c t:=Ls h0 iw.1 (ec iw.2).2
theorem vdu {D D' vn9:Nat→Prop} (c:bw) (k0:Nat) (hG:vbm c (k0+1)) (iw:vbn c) (lv nv wv:Value) (want:List aL) (t:List UInt8) (w:World) (hl:bG D w lv c.dG) (hn:aY D' w nv c.ag) (hw:aY vn9 w wv want) (qW:∀o∈want,o.sig.args.length≤100000)
 (h0:(aq t).1=0) (hne:t≠[]) (hk:jy t<k0+1):
 Calls Tryz.prog 131 #[lv,nv,.bool c.par,wv,str t] w λe w'=>e=.returned (.tuple #[str ((vba c (k0+1) want t).getD []),.bool (vba c (k0+1) want t).isNone])∧Below w.heap.size w w':=by
 obtain⟨r1,r2⟩:=vds iw h0
 by_cases hw0:want=[]
 · subst hw0
   obtain⟨p,cw,rfl,_⟩:=hw.shape;exact vdw c lv nv p cw t w hl hn
 · by_cases lp:ff c (k0+1) t=0
   · have hF:vba c (k0+1) want t=vaj (lH (vap c t),(dU c t).2) want t:=by unfold vba vee;rw[if_pos ⟨hw0,lp⟩]
     rw[hF];refine vcx c (k0+1) hG lv nv wv want t w hl hn hw qW h0 hne hk hw0 lp (λx hx=>(r2 x ?_).1) (λh7=>?_) (Nat.le_trans (ec iw.2).1 (by decide)) r1
     · exact(vbr c h0).mem_iff.1 ((nB _).mem_iff.1 hx)
     · obtain⟨f,hf⟩:=vcn lp h7
       exact⟨f,hf,Nat.le_trans (dQ (iw.1 f (List.mem_of_find?_eq_some hf))).2.2.2.2.2.2.1 (by decide)⟩
   · obtain⟨y,hy⟩:∃y,want[0]? =some y:=by
      cases want with
      | nil=>exact absurd rfl hw0
      | cons y l=>exact⟨y,rfl⟩
     have hF:vba c (k0+1) want t=some y.name:=by
      unfold vba vaj vee;rw[if_neg (λh=>lp h.2)];cases want with
      | nil=>exact absurd rfl hw0
      | cons z l=>
       simp only[List.getElem?_cons_zero,Option.some.injEq] at hy;subst hy;rw[List.find?_cons_of_pos (by simp[vcf])]
       rfl
     rw[hF];exact vdv c (k0+1) hG lv nv wv want t w hl hn hw qW (CU h0).1 hne hk y hy lp
end Go.Proofs.YtakgjcfkdemipaaGreatDoor
