/-
  Lemmas: contracts of the reference argusref04: raws, of oneofs. Conditions: bounds of lengths; the variable strings.asciiSpace.
-/
import Derived.Test.YtakgjcfkdemipaaGreatDoorZB24
import Derived.Test.YtakgjcfkdemipaaGreatDoorZB29
import Derived.Test.YtakgjcfkdemipaaGreatDoorZBn
import Derived.Test.YtakgjcfkdemipaaGreatDoorZM7
set_option maxHeartbeats 25600000
set_option maxRecDepth 8000
namespace Go.Proofs.YtakgjcfkdemipaaGreatDoor
open Go.RowKit
theorem vei {D D' : Nat → Prop} (c : bw) (lv nv : Value) (t : List UInt8) (w : World) (hl : bG D w lv c.dG) (hn : aY D' w nv c.ag) (ht : t.length ≤ maxLen) (hk : (aq t).2.k = 8) (h0 : (aq t).1 = 0) (PI : c.ag.length ≤ 900) :
 Calls Tryz.prog 70 #[lv,nv,str t] w λe w'=>∃v,e=.returned v∧va5 w' v (lH c.ag) []∧Below w.heap.size w w':=by
 have HK:=va8 t ht w
 rw[hk,h0] at HK
 obtain⟨pl,cl,rfl,_⟩:=hl.shape
 obtain⟨pn,cn,rfl,_⟩:=hn.shape
 go_enter Tryz.func70,Tryz.ntmps70
 go_upto_region 4 with(go_at_call 128;refine HK.mono ?_;clear HK;rintro e W ⟨rfl,hB⟩)
 obtain⟨L0,yS,vad,vbd,L9,vbc⟩:=vab hB ht
 go_upto_region 5 with fail
 clear hB
 generalize vd0:W.alloc (.cells #[str t,str t] 9)=W0 at *
 clear vd0
 go_wp2_with fail
 go_loopw [9,26] (λv y wx=>∃k:Nat,k≤c.ag.length∧y=.int .i64 k∧Below w.heap.size w wx∧SS Any wx (.slice (some ⟨W.heap.size,0,none⟩) 2 2) [t,t]∧∃vp7,aY Any wx v vp7∧Hid (vp7=lH (c.ag.take k))) (λ_ y _=>c.ag.length - (intOf y).toNat)
 case atStart=>exact⟨0,Nat.zero_le _,by go_num,yS,vbd,L0,L9,vbc⟩
 case round =>
  clear yS vbd L9 vbc vad;obtain⟨k,hk,rfl,hB,hT,vp7,hO,hH⟩:=hrel;have vbs:=hB.size;obtain⟨pv,cv,rfl,_⟩:=hO.shape
  by_cases hlt:k<c.ag.length
  case neg=>
   obtain rfl:k=c.ag.length:=by omega
   rw[List.take_length] at hH;obtain⟨vfl,vd3⟩:∃z,z=wr:=⟨_,rfl⟩
   subst vd3;have vbt:=hT;have vcb:=hO;have vb8:=hH;have vca:=hB;have vb6:=vbs;clear hT hO hH hB vbs;have hL:=va0 vb8.out (by omega);go_wp2_with fail;clear vbt;go_loopw [27,28] (λv y wx=>∃k:Nat,k≤vp7.length∧y=.int .i64 k∧va4 vfl [] vp7 k v wx) (λ_ y _=>vp7.length - (intOf y).toNat)
   case atStart=>exact⟨0,Nat.zero_le _,by go_num,va4.zero _ _ _⟩
   case round=>
    obtain⟨k,hk,rfl,hR⟩:=hrel;obtain⟨pv,cv,rfl⟩:=hR.shape
    by_cases hlt:k<vp7.length
    case neg=>
     obtain rfl:k=vp7.length:=by omega
     go_wp2_with fail;go_ret;exact⟨_,rfl,vb8.out▸hR.fin,vca.trans (af hR.1 vb6)⟩
    case pos=>
     obtain⟨x,b1,o1,pa,ca,ps,vfi,rfl,hX,d0,d1,d2,d3,d4⟩:=hR.at vcb hlt;go_wp2_with (at_builtin;refine va3 hR hX hL _ _ rfl rfl rfl rfl ?_;intro v5 w5 vcz);exact⟨⟨k+1,hlt,by go_num,vcz⟩,by simp only[intOf];omega⟩
  case pos=>
   obtain⟨x,hkx⟩:∃x,c.ag[k]? =some x:=⟨_,List.getElem?_eq_getElem hlt⟩
   obtain⟨b1,o1,av,sv,rfl,_,hle,fe,eE,d0,d1,d2,d3,d4⟩:=(hn.below hB zr).at hkx;have hX:gx Any wr (.agg #[str x.name,.bool x.sig.iter,av,str x.sig.res,sv]) x:=⟨_,_,rfl,hle,fe.mono λ_ _=>trivial,eE.mono λ_ _=>trivial⟩;have FP:vp7.length≤1000:=va0 hH.out (by rw[List.length_take];omega);have vcy:=zh (show qX x vp7=lH (c.ag.take (k+1)) by rw[List.take_add_one,hkx,hH.out];exact(vaa _ _).symm);clear hkx;go_upto_region 62 with fail;refine jc (D:=Any) (w:=wr) 13 [(1,.eq (.slice (some ⟨b1,o1,none⟩) c.ag.length cn)),(9,.ops vp7),(26,.eq (.int .i64 k))] [(.ops vp7),(.eq (.slice (some ⟨b1,o1,none⟩) c.ag.length cn)),(.eq (.int .i64 k)),(.eq (.pointer (some ⟨b1,o1+k * 5,none⟩))),(.eq (.pointer (some ⟨b1,o1+k * 5,none⟩))),(.eq (str x.name)),(.eq (.slice (some ⟨b1,o1,none⟩) c.ag.length cn)),(.eq (.int .i64 k)),(.eq (.pointer (some ⟨b1,o1+k * 5,none⟩))),(.eq (.pointer (some ⟨b1,o1+k * 5+1,none⟩))),(.eq (.agg #[.bool x.sig.iter,av,str x.sig.res,sv])),(.eq (.agg #[str x.name,.bool x.sig.iter,av,str x.sig.res,sv])),(.ops (qX x vp7)),(.ops (qX x vp7))] (λw'=>aZ [(⟨b1,o1+k * 5,none⟩,str x.name),(⟨b1,o1+k * 5+1,none⟩,.bool x.sig.iter),(⟨b1,o1+k * 5+2,none⟩,av),(⟨b1,o1+k * 5+3,none⟩,str x.sig.res),(⟨b1,o1+k * 5+4,none⟩,sv)] w'∧gx Any w' (.agg #[str x.name,.bool x.sig.iter,av,str x.sig.res,sv]) x) (by kernel_rfl) (by kernel_rfl) (by kernel_rfl) (by kernel_rfl) (by kernel_rfl) (λ_ _ h hb=>⟨h.1.below hb,gx.below h.2 hb zr⟩) ⟨(λp hp=>by simp only[List.mem_cons,List.not_mem_nil,or_false] at hp;rcases hp with rfl|rfl|rfl|rfl|rfl<;>assumption),hX.below (zb wr).drew zr⟩ ?_ ?_ ?_
   · intro p hp
     simp only[List.mem_cons,List.not_mem_nil,or_false] at hp;rcases hp with rfl|rfl|rfl
     · exact rfl
     · exact(hO.below (zb wr).drew zr)
     · exact rfl
   · iterate 14
      refine And.intro ?_ ?_
      · first
        | exact dr (by kernel_rfl) rfl
        | exact Mn (.inl rfl) (by kernel_rfl) rfl (by kernel_rfl)
        | exact Mn (.inr rfl) (by kernel_rfl) rfl (by kernel_rfl)
        | exact EY rfl (by kernel_rfl) rfl rfl (by kernel_rfl)
        | exact Hy rfl (by kernel_rfl) rfl rfl rfl
        | exact eX rfl (by kernel_rfl) (by kernel_rfl) rfl rfl
        | exact gN rfl (by kernel_rfl) rfl rfl (λw=>by simp[go_sem])
        | exact iC rfl (by kernel_rfl) rfl rfl rfl (λw=>by simp[go_sem,hlt])
        | exact gv rfl (by kernel_rfl) rfl rfl (λw hS=>by simp[go_sem,(hS.1.get 0 rfl),(hS.1.get 1 rfl),(hS.1.get 2 rfl),(hS.1.get 3 rfl),(hS.1.get 4 rfl)])
        | exact vfb rfl (by kernel_rfl) rfl rfl rfl (λw=>by simp[go_sem])
        | exact vh7 rfl (by kernel_rfl) rfl (by kernel_rfl) (by kernel_rfl) FP (λ_ _ _ _=>trivial) (λ_ hS=>hS.2)
        | exact eW rfl (by kernel_rfl) rfl rfl rfl (λw=>by simp[go_sem])
     exact trivial
   · intro aE vE wE mo fM Pv vj9 SI
     have SI:aY Any wE vE (qX x vp7):=SI _ rfl;obtain⟨pE,vpt,rfl,_⟩:=SI.shape;rw[Pv];clear Pv vj9;simp only[List.take_succ_cons,List.take_zero,dA,pz,pw];go_wp2_with fail;exact⟨⟨k+1,hlt,by go_num,hB.trans (af fM vbs),hT.below fM zr,_,SI,vcy⟩,by simp only[intOf];omega⟩
theorem veg {D D':Nat→Prop} (c:bw) (lv nv:Value) (t:List UInt8) (w:World) (hl:bG D w lv c.dG) (hn:aY D' w nv c.ag) (ht:t.length≤maxLen) (hk:(aq t).2.k=7) (h0:(aq t).1=0) (ta:List UInt8) (Ur:(bQ t).1=ta) (_hat:ta.length≤maxLen) (f:aA) (hf:ew c.dG (eH t).1=some f) (PI:f.ops.length≤900):
 Calls Tryz.prog 70 #[lv,nv,str t] w λe w'=>∃v,e=.returned v∧va5 w' v (lH f.ops) ta∧Below w.heap.size w w':=by
 have HK:=va8 t ht w
 rw[hk,h0] at HK
 obtain⟨pl,cl,rfl,_⟩:=hl.shape
 obtain⟨pn,cn,rfl,_⟩:=hn.shape
 have HA:=λW=>vbp t ht W
 have vls:=λW=>vc0 t ht W
 have QA:=λW (hW:Below w.heap.size w W)=>vdr c.dG (eH t).1 _ W (hl.below hW zr)
 rw[Ur] at HA
 obtain⟨fi,R8,hfi⟩:∃fi:Nat,pU (vag (eH t).1) c.dG 0=(fi:Int)∧c.dG[fi]? =some f:=by
  rcases xC (vag (eH t).1) c.dG 0 with⟨_,h2⟩|⟨i,x,h1,h2,h3⟩
  · rw[vai,hf] at h2;cases h2
  · rw[vai,hf] at h2
    cases h2;exact⟨i,by simpa using h1,h3⟩
 rw[R8] at QA
 have hfl:fi<c.dG.length:=(List.getElem?_eq_some_iff.1 hfi).1
 obtain⟨b1,o1,Uz,UA,rfl,_,_,Nj,vjf,e0,e1,e2,e3,e4⟩:=hl.at hfi
 obtain⟨po,co,rfl,_⟩:=vjf.shape
 clear R8 hf hfi Nj e0 e1 e2 e3
 generalize (eH t).1=nm at *
 go_enter Tryz.func70,Tryz.ntmps70
 go_upto_region 4 with(go_at_call 128;refine HK.mono ?_;clear HK;rintro e W ⟨rfl,hB⟩)
 obtain⟨L0,yS,vad,vbd,L9,vbc⟩:=vab hB ht
 go_upto_region 5 with fail
 clear hB
 generalize vd0:W.alloc (.cells #[str t,str t] 9)=W0 at *
 clear vd0
 go_upto_region 54 with(first
  | (go_at_call 95;refine(QA W6 (yS.trans (af (Iw.trans (af vhc Iw.size)) vad))).mono ?_;rintro e W7 ⟨rfl,vkd⟩;have e4:=Below.keep ((yS.trans (af (Iw.trans (af vhc Iw.size)) vad)).trans (af vkd (Nat.le_trans vad (Nat.le_trans Iw.size vhc.size)))) e4)
  | (go_at_call 130;refine(HA W5).mono ?_;rintro e W6 ⟨rfl,vhc⟩)
  | (go_at_call 129;refine(vls W0).mono ?_;rintro e W5 ⟨rfl,Iw⟩))
 have vjg:=(Iw.trans (af vhc Iw.size)).trans (af vkd (Nat.le_trans Iw.size vhc.size))
 have M3:=yS.trans (af vjg vad)
 have vep:=vbd.below vjg zr
 have vdm:=L9.below vjg zr
 clear Iw vhc vkd vjg yS vbd L9 vad
 go_wp2_with fail
 go_loopw [9,25] (λv y wx=>∃k:Nat,k≤f.ops.length∧y=.int .i64 k∧Below w.heap.size w wx∧SS Any wx (.slice (some ⟨W.heap.size,0,none⟩) 2 2) [t,t]∧∃vp7,aY Any wx v vp7∧Hid (vp7=lH (f.ops.take k))) (λ_ y _=>f.ops.length - (intOf y).toNat)
 case atStart=>exact⟨0,Nat.zero_le _,by go_num,M3,vep,L0,vdm,vbc⟩
 case round=>
  clear M3 vep vdm vbc e4;obtain⟨k,hk,rfl,hB,hT,vp7,hO,hH⟩:=hrel;have vbs:=hB.size;obtain⟨pv,cv,rfl,_⟩:=hO.shape
  by_cases hlt:k<f.ops.length
  case neg=>
   obtain rfl:k=f.ops.length:=by omega
   rw[List.take_length] at hH;obtain⟨vfl,vd3⟩:∃z,z=wr:=⟨_,rfl⟩
   subst vd3;have vbt:=hT;have vcb:=hO;have vb8:=hH;have vca:=hB;have vb6:=vbs;clear hT hO hH hB vbs;have hL:=va0 vb8.out (by omega);go_wp2_with fail;clear vbt;go_loopw [27,28] (λv y wx=>∃k:Nat,k≤vp7.length∧y=.int .i64 k∧va4 vfl ta vp7 k v wx) (λ_ y _=>vp7.length - (intOf y).toNat)
   case atStart=>exact⟨0,Nat.zero_le _,by go_num,va4.zero _ _ _⟩
   case round=>
    obtain⟨k,hk,rfl,hR⟩:=hrel;obtain⟨pv,cv,rfl⟩:=hR.shape
    by_cases hlt:k<vp7.length
    case neg=>
     obtain rfl:k=vp7.length:=by omega
     go_wp2_with fail;go_ret;exact⟨_,rfl,vb8.out▸hR.fin,vca.trans (af hR.1 vb6)⟩
    case pos=>
     obtain⟨x,b1,o1,pa,ca,ps,vfi,rfl,hX,d0,d1,d2,d3,d4⟩:=hR.at vcb hlt;go_wp2_with (at_builtin;refine va3 hR hX hL _ _ rfl rfl rfl rfl ?_;intro v5 w5 vcz);exact⟨⟨k+1,hlt,by go_num,vcz⟩,by simp only[intOf];omega⟩
  case pos=>
   obtain⟨x,hkx⟩:∃x,f.ops[k]? =some x:=⟨_,List.getElem?_eq_getElem hlt⟩
   obtain⟨b3,o3,av,sv,rfl,_,hle,fe,eE,d0,d1,d2,d3,d4⟩:=(vjf.below hB zr).at hkx;have hX:gx D wr (.agg #[str x.name,.bool x.sig.iter,av,str x.sig.res,sv]) x:=⟨_,_,rfl,hle,fe,eE⟩;obtain⟨pa,ca,rfl,_⟩:=fe.shape;obtain⟨ps,vfi,rfl,_⟩:=eE.shape;have FP:vp7.length≤1000:=va0 hH.out (by rw[List.length_take];omega);have vcy:=zh (show qX x vp7=lH (f.ops.take (k+1)) by rw[List.take_add_one,hkx,hH.out];exact(vaa _ _).symm);clear hkx fe eE;go_wp2_with (go_at_call 132;refine(vat vp7 x _ _ wr hO hX FP).mono ?_;rintro e w2 ⟨v2,rfl,Kq,aC⟩;obtain⟨p2,c2,rfl,_⟩:=Kq.shape);exact⟨⟨k+1,hlt,by go_num,hB.trans (af aC vbs),hT.below aC zr,_,Kq.mono λ_ _=>trivial,vcy⟩,by simp only[intOf];omega⟩
theorem veh {D D' : Nat → Prop} (c : bw) (lv nv : Value) (t : List UInt8) (w : World) (hl : bG D w lv c.dG) (hn : aY D' w nv c.ag) (ht : t.length ≤ maxLen) (hk : (aq t).2.k = 6) (h0 : (aq t).1 = 0) (hps : ∀ x ∈ (dJ t).1, x.1.length ≤ 1000 ∧ x.2.length ≤ maxLen) (PO : (dJ t).1.length ≤ 100) :
 Calls Tryz.prog 70 #[lv,nv,str t] w λe w'=>∃v,e=.returned v∧va5 w' v (lH (((dJ t).1.flatMap λp=>[⟨[109,97,107,101,95]++p.1,⟨false,[p.2],t,[]⟩⟩,⟨[105,115,95]++p.1,⟨false,[t],gC,[]⟩⟩])++[⟨[101,113,117,97,108],⟨false,[t,t],gC,[]⟩⟩])) []∧Below w.heap.size w w':=by
 have HK:=va8 t ht w
 rw[hk,h0] at HK
 obtain⟨pl,cl,rfl,_⟩:=hl.shape
 obtain⟨pn,cn,rfl,_⟩:=hn.shape
 have vhe:=λW=>vbq t ht W
 go_enter Tryz.func70,Tryz.ntmps70
 go_upto_region 4 with(go_at_call 128;refine HK.mono ?_;clear HK;rintro e W ⟨rfl,hB⟩)
 obtain⟨L0,yS,vad,vbd,L9,vbc⟩:=vab hB ht
 go_upto_region 5 with fail
 clear hB
 generalize vd0:W.alloc (.cells #[str t,str t] 9)=W0 at *
 clear vd0
 go_upto_region 44 with(go_at_call 134;refine(vhe W0).mono ?_;rintro e W5 ⟨vqh,rfl,hP,Iw⟩;obtain⟨pp,cp,rfl⟩:=hP.shape)
 have M3:=yS.trans (af Iw vad)
 have vep:=vbd.below Iw zr
 have vdm:=L9.below Iw zr
 have vdz:=Nat.le_trans vad Iw.size
 clear Iw yS vbd L9 vad
 obtain⟨PS,vfq⟩:∃PS,PS=(dJ t).1:=⟨_,rfl⟩
 have vjm:=zh vfq
 rw[←vfq] at hP hps PO
 simp only[←vfq]
 clear vfq vhe
 go_wp2_with fail
 go_loopw [9,21] (λv y wx=>∃k:Nat,k≤PS.length∧y=.int .i64 k∧Below w.heap.size w wx∧Below W5.heap.size W5 wx∧SS Any wx (.slice (some ⟨W.heap.size,0,none⟩) 2 2) [t,t]∧∃vp7,aY Any wx v vp7∧Hid (vp7=lH ((PS.take k).flatMap (λp:List UInt8×List UInt8=>([⟨[109,97,107,101,95]++p.1,⟨false,[p.2],t,[]⟩⟩,⟨[105,115,95]++p.1,⟨false,[t],gC,[]⟩⟩]:List aL))))) (λ_ y _=>PS.length - (intOf y).toNat)
 case atStart=>exact⟨0,Nat.zero_le _,by go_num,M3,zb _,vep,L0,vdm,vbc⟩
 case round =>
  clear M3 vep vdm vbc;obtain⟨k,hk,rfl,hB,kH,hT,vp7,hO,hH⟩:=hrel;have vbs:=hB.size;obtain⟨pv,cv,rfl,_⟩:=hO.shape
  by_cases hlt:k<PS.length
  case neg=>
   obtain rfl:k=PS.length:=by omega
   rw[List.take_length] at hH;have hpl:=va9 (λp:List UInt8×List UInt8=>([⟨[109,97,107,101,95]++p.1,⟨false,[p.2],t,[]⟩⟩,⟨[105,115,95]++p.1,⟨false,[t],gC,[]⟩⟩]:List aL)) (λ_=>rfl) PS;obtain⟨vfl,vd3⟩:∃z,z=wr:=⟨_,rfl⟩
   subst vd3;have vbt:=hT;have vcb:=hO;have vb8:=hH;have vca:=hB;have vb6:=vbs;clear hT hO hH hB vbs;have lp:=(Below.refl vfl.heap.size vfl);go_upto_region 63 with(first
    | (go_at_call 132;refine(va7 ((vcb.below lp zr).below au zr) hV (va0 vb8.out (Nat.le_trans (Nat.le_of_eq hpl) (by omega)))).mono ?_;rintro e W41 ⟨vh9,p2,c2,rfl,hE,va6,aC⟩)
    | (go_at_call 133;refine(vah (vbt.below lp zr) (SS.nil Any _ none 0) (by decide) (by decide)).mono ?_;rintro e w1 ⟨x1,y1,x2,y2,rfl,hV,au⟩))
   obtain⟨vfn,vey,vfp,ve0,vdk⟩:=va2 vb8.out vca vb6 lp au aC hE.out va6;have vex:=vbt.below vey zr;clear vbt vb8 vcb vca vb6 au aC va6 vey lp hV hE;have hL:=va0 ve0.out (by rw[List.length_append,hpl,List.length_singleton];omega);go_wp2_with fail;clear vex;go_loopw [27,28] (λv y wx=>∃k:Nat,k≤vh9.length∧y=.int .i64 k∧va4 W41 [] vh9 k v wx) (λ_ y _=>vh9.length - (intOf y).toNat)
   case atStart=>exact⟨0,Nat.zero_le _,by go_num,va4.zero _ _ _⟩
   case round=>
    obtain⟨k,hk,rfl,hR⟩:=hrel;obtain⟨pv,cv,rfl⟩:=hR.shape
    by_cases hlt:k<vh9.length
    case neg=>
     obtain rfl:k=vh9.length:=by omega
     go_wp2_with fail;go_ret;exact⟨_,rfl,va5.to hR.fin (ve0.out.trans (by rw[vjm.out]<;>rfl)),vfn.trans (af hR.1 vdk)⟩
    case pos=>
     obtain⟨x,b1,o1,pa,ca,ps,vfi,rfl,hX,d0,d1,d2,d3,d4⟩:=hR.at vfp hlt;go_wp2_with (at_builtin;refine va3 hR hX hL _ _ rfl rfl rfl rfl ?_;intro v5 w5 vcz);exact⟨⟨k+1,hlt,by go_num,vcz⟩,by simp only[intOf];omega⟩
  case pos=>
   obtain⟨b1,o1,cz,⟨nm,ty⟩,mq,hkx,d0,d1⟩:=(hP.below kH).at hlt;simp only[Value.slice.injEq,true_and] at mq;obtain⟨rfl,rfl⟩:=mq;obtain⟨hnm,hty⟩:=hps _ (List.mem_of_getElem? hkx);simp only at hnm hty d0 d1;have hnl:nm.length≤maxLen:=by unfold maxLen;omega
   have vh5:([109,97,107,101,95]++nm).length≤maxLen:=by rw[List.length_append];simp;unfold maxLen;omega
   have vh6:([105,115,95]++nm).length≤maxLen:=by rw[List.length_append];simp;unfold maxLen;omega
   have hpl:=va9 (λp:List UInt8×List UInt8=>([⟨[109,97,107,101,95]++p.1,⟨false,[p.2],t,[]⟩⟩,⟨[105,115,95]++p.1,⟨false,[t],gC,[]⟩⟩]:List aL)) (λ_=>rfl) (PS.take k);rw[List.length_take] at hpl;have FP:vp7.length≤900:=by rw[hH.out,vba];omega
   have vcy:=zh (show qX ⟨[105,115,95]++nm,⟨false,[t],gC,[]⟩⟩ (qX ⟨[109,97,107,101,95]++nm,⟨false,[ty],t,[]⟩⟩ vp7)=lH ((PS.take (k+1)).flatMap (λp:List UInt8×List UInt8=>([⟨[109,97,107,101,95]++p.1,⟨false,[p.2],t,[]⟩⟩,⟨[105,115,95]++p.1,⟨false,[t],gC,[]⟩⟩]:List aL))) by rw[List.take_add_one,hkx,List.flatMap_append,hH.out,←vaa,←vaa];simp);clear hkx hpl;go_upto_region 47 with fail;refine jc (D:=Any) (w:=wr) 16 [(2,.eq (str t)),(9,.ops vp7),(19,.eq (.slice (some ⟨b1,o1,none⟩) PS.length cp)),(21,.eq (.int .i64 k))] [(.ops vp7),(.eq (.slice (some ⟨b1,o1,none⟩) PS.length cp)),(.eq (.int .i64 k)),(.eq (.pointer (some ⟨b1,o1+k * 2,none⟩))),(.eq (.pointer (some ⟨b1,o1+k * 2,none⟩))),(.eq (str nm)),(.eq (str ([109,97,107,101,95]++nm))),(.eq (.slice (some ⟨b1,o1,none⟩) PS.length cp)),(.eq (.int .i64 k)),(.eq (.pointer (some ⟨b1,o1+k * 2,none⟩))),(.eq (.pointer (some ⟨b1,o1+k * 2+1,none⟩))),(.eq (str ty)),(.ss [ty]),(.eq (str t)),(.op ⟨[109,97,107,101,95]++nm,⟨false,[ty],t,[]⟩⟩),(.ops (qX ⟨[109,97,107,101,95]++nm,⟨false,[ty],t,[]⟩⟩ vp7)),(.ops (qX ⟨[109,97,107,101,95]++nm,⟨false,[ty],t,[]⟩⟩ vp7))] (aZ [(⟨b1,o1+k * 2,none⟩,str nm),(⟨b1,o1+k * 2+1,none⟩,str ty)]) (by kernel_rfl) (by kernel_rfl) (by kernel_rfl) (by kernel_rfl) (by kernel_rfl) (λ_ _ h hb=>h.below hb) (λp hp=>by simp only[List.mem_cons,List.not_mem_nil,or_false] at hp;rcases hp with rfl|rfl<;>assumption) ?_ ?_ ?_
   · intro p hp
     simp only[List.mem_cons,List.not_mem_nil,or_false] at hp;rcases hp with rfl|rfl|rfl|rfl
     · exact rfl
     · exact(hO.below (zb wr).drew zr)
     · exact rfl
     · exact rfl
   · iterate 17
      refine And.intro ?_ ?_
      · first
        | exact dr (by kernel_rfl) rfl
        | exact Mn (.inl rfl) (by kernel_rfl) rfl (by kernel_rfl)
        | exact Mn (.inr rfl) (by kernel_rfl) rfl (by kernel_rfl)
        | exact EY rfl (by kernel_rfl) rfl rfl (by kernel_rfl)
        | exact Hy rfl (by kernel_rfl) rfl rfl rfl
        | exact eX rfl (by kernel_rfl) (by kernel_rfl) rfl rfl
        | exact gN rfl (by kernel_rfl) rfl rfl (λw=>by simp[go_sem])
        | exact iC rfl (by kernel_rfl) rfl rfl rfl (λw=>by simp[go_sem,hlt])
        | exact gv rfl (by kernel_rfl) rfl rfl (λw hS=>by simp[go_sem,(hS.get 0 rfl),(hS.get 1 rfl)])
        | exact eW rfl (by kernel_rfl) rfl rfl rfl (λw=>vc8 _ _ (by simp;omega) _ _ w)
        | exact Hz rfl rfl (by kernel_rfl) rfl (by kernel_rfl) hty (λ_ _=>trivial)
        | exact stOp rfl (by kernel_rfl) rfl (by kernel_rfl) (by kernel_rfl) (by kernel_rfl) (by kernel_rfl) vh5 ht
        | exact vfd rfl (by kernel_rfl) rfl (by kernel_rfl) (by kernel_rfl) (Nat.le_trans FP (by decide)) (λ_ _ _ _=>trivial)
        | exact eW rfl (by kernel_rfl) rfl rfl rfl (λw=>by simp[go_sem])
     exact trivial
   · intro aE vE wE mo fM Pv vj9 SI
     have SI:aY Any wE vE (qX ⟨[109,97,107,101,95]++nm,⟨false,[ty],t,[]⟩⟩ vp7):=SI _ rfl;obtain⟨pE,vpt,rfl,_⟩:=SI.shape;rw[Pv];clear Pv vj9;simp only[List.take_succ_cons,List.take_zero,dA,pz,pw];have hl1:(qX (⟨[109,97,107,101,95]++nm,⟨false,[ty],t,[]⟩⟩) vp7).length≤1000:=by rw[vcm];omega
     have d0:=Below.keep fM d0;have O4:=hB.trans (af fM vbs);have vja:=fM.size;clear mo hO;generalize qX (⟨[109,97,107,101,95]++nm,⟨false,[ty],t,[]⟩⟩) vp7=voz at *;go_wp2_with (first
      | (go_at_call 132;refine(vat voz ⟨[105,115,95]++nm,⟨false,[t],gC,[]⟩⟩ _ _ _ ((SI.below ((Below.refl wE.heap.size wE).alloc zr (.cells #[str t] 9)) zr).below au zr) ⟨_,_,rfl,l1,r1,q1⟩ hl1).mono ?_;rintro e w2 ⟨v2,rfl,va6,aC⟩;obtain⟨p2,c2,rfl,_⟩:=va6.shape)
      | (go_at_call 133;refine(vch ([105,115,95]++nm) gC [t] [] _ _ _ (SS.new Any wE trivial [t] 9 (0,0) (by unfold maxLen;simp) (vac ht)) (SS.nil Any _ none 0) vh6 (by decide)).mono ?_;rintro e w1 ⟨u1,rfl,⟨x1,y1,rfl,l1,r1,q1⟩,au⟩;obtain⟨vo7,vnu,rfl,_⟩:=r1.shape;obtain⟨vo6,vnt,rfl,_⟩:=q1.shape))
     have hbz:=(((Below.refl wE.heap.size wE).alloc zr (.cells #[str t] 9)).trans (af au (by simp))).trans (af aC (by have:=au.size;simp at this;omega));exact⟨⟨k+1,hlt,by go_num,O4.trans (af hbz (Nat.le_trans vbs vja)),(kH.trans (af fM kH.size)).trans (af hbz (Nat.le_trans kH.size vja)),(hT.below fM zr).below hbz zr,_,va6.mono λ_ _=>trivial,vcy⟩,by simp only[intOf];omega⟩
theorem vej {D D' : Nat → Prop} (c : bw) (lv nv : Value) (t : List UInt8) (w : World) (hl : bG D w lv c.dG) (hn : aY D' w nv c.ag) (ht : t.length ≤ maxLen) (hk : (aq t).2.k = 5) (h0 : (aq t).1 = 0) (hps : ∀ x ∈ (dJ t).1, x.1.length ≤ 1000 ∧ x.2.length ≤ maxLen) (PO : (dJ t).1.length ≤ 100) :
 Calls Tryz.prog 70 #[lv,nv,str t] w λe w'=>∃v,e=.returned v∧va5 w' v (lH (((dJ t).1.flatMap λp=>[⟨[103,101,116,95]++p.1,⟨false,[t],p.2,[]⟩⟩,⟨[115,101,116,95]++p.1,⟨false,[t,p.2],[],[]⟩⟩])++[⟨[109,97,107,101],⟨false,(dJ t).1.map (·.2),t,[]⟩⟩,⟨[101,113,117,97,108],⟨false,[t,t],gC,[]⟩⟩])) []∧Below w.heap.size w w':=by
 obtain⟨j0,hj0,hy0,hy1,hy2⟩:=bY iM
 have HK:=va8 t ht w
 rw[hk,h0] at HK
 obtain⟨pl,cl,rfl,_⟩:=hl.shape
 obtain⟨pn,cn,rfl,_⟩:=hn.shape
 have vhe:=λW=>vbq t ht W
 go_enter Tryz.func70,Tryz.ntmps70
 go_upto_region 4 with(go_at_call 128;refine HK.mono ?_;clear HK;rintro e W ⟨rfl,hB⟩)
 obtain⟨L0,yS,vad,vbd,L9,vbc⟩:=vab hB ht
 go_upto_region 5 with fail
 clear hB
 generalize vd0:W.alloc (.cells #[str t,str t] 9)=W0 at *
 clear vd0
 go_upto_region 33 with(go_at_call 134;refine(vhe W0).mono ?_;rintro e W5 ⟨vqh,rfl,hP,Iw⟩;obtain⟨pp,cp,rfl⟩:=hP.shape)
 have M3:=yS.trans (af Iw vad)
 have vep:=vbd.below Iw zr
 have vdm:=L9.below Iw zr
 have vdz:=Nat.le_trans vad Iw.size
 clear Iw yS vbd vad
 obtain⟨PS,vfq⟩:∃PS,PS=(dJ t).1:=⟨_,rfl⟩
 have vjm:=zh vfq
 rw[←vfq] at hP hps PO
 simp only[←vfq]
 clear vfq vhe
 go_wp2_with fail
 go_loopw [9,17,18] (λv va y wx=>∃k:Nat,k≤PS.length∧y=.int .i64 k∧Below W5.heap.size W5 wx∧wx.ownsRow W5.heap.size 9 1 va k (aB ((PS.take k).map (·.2)))∧∃vp7,aY (λb=>va.ownBlock≠some b) wx v vp7∧Hid (vp7=lH ((PS.take k).flatMap (λp:List UInt8×List UInt8=>([⟨[103,101,116,95]++p.1,⟨false,[t],p.2,[]⟩⟩,⟨[115,101,116,95]++p.1,⟨false,[t,p.2],[],[]⟩⟩]:List aL))))) (λ_ _ y _=>PS.length - (intOf y).toNat)
 case atStart=>exact⟨0,Nat.zero_le _,by go_num,zb _,World.ownsRow_nil _ _ _ _,L0,vdm.mono (λb _ e=>by cases e),vbc⟩
 case round =>
  clear vdm vbc;obtain⟨k,hk,rfl,kH,hown,vp7,hO,hH⟩:=hrel;have vbs:=kH.size;obtain⟨pv,cv,rfl,_⟩:=hO.shape;obtain⟨pa,ca,rfl⟩:=bu hown
  by_cases hlt:k<PS.length
  case neg=>
   obtain rfl:k=PS.length:=by omega
   rw[List.take_length] at hH hown;have hpl:=va9 (λp:List UInt8×List UInt8=>([⟨[103,101,116,95]++p.1,⟨false,[t],p.2,[]⟩⟩,⟨[115,101,116,95]++p.1,⟨false,[t,p.2],[],[]⟩⟩]:List aL)) (λ_=>rfl) PS;have vmt:∀s∈PS.map (·.2),s.length≤maxLen:=by
    intro s hs;obtain⟨x,hx,rfl⟩:=List.mem_map.1 hs;exact(hps x hx).2
   have hS:=(SS.row (ss:=PS.map (·.2)) hown (by simp) vmt).mono (D':=Any) λ_ _=>trivial
   obtain⟨vfl,vd3⟩:∃z,z=wr:=⟨_,rfl⟩
   subst vd3;have vbt:=vep.below kH zr;have vcb:=hO.mono (D':=Any) λ_ _=>trivial
   have vb8:=hH;have vca:=M3.trans (af kH vdz);have vb6:=Nat.le_trans vdz kH.size;have vk2:=hS;clear vep hO hH M3 kH vbs hS hown;generalize vmq:PS.map (·.2)=vpd at *;have lp:=(Below.refl vfl.heap.size vfl);go_upto_region 41 with(first
    | (go_at_call 132;refine(va7 ((vcb.below lp zr).below au zr) hV (va0 vb8.out (Nat.le_trans (Nat.le_of_eq hpl) (by omega)))).mono ?_;rintro e W41 ⟨vh9,p2,c2,rfl,hE,va6,aC⟩)
    | (go_at_call 133;refine(vah (vk2.below lp zr) (SS.nil Any _ none 0) (by decide) ht).mono ?_;rintro e w1 ⟨x1,y1,x2,y2,rfl,hV,au⟩))
   obtain⟨vfn,vey,vfp,ve0,vdk⟩:=va2 vb8.out vca vb6 lp au aC hE.out va6;have vex:=vbt.below vey zr;clear vbt vb8 vcb vca vb6 au aC va6 vey lp hV hE;have lp:=(Below.refl W41.heap.size W41);go_upto_region 63 with(first
    | (go_at_call 132;refine(va7 ((vfp.below lp zr).below au zr) hV (va0 ve0.out (by rw[List.length_append,hpl,List.length_singleton];omega))).mono ?_;rintro e W42 ⟨vhi,p2,c2,rfl,hE,va6,aC⟩)
    | (go_at_call 133;refine(vah (vex.below lp zr) (SS.nil Any _ none 0) (by decide) (by decide)).mono ?_;rintro e w1 ⟨x1,y1,x2,y2,rfl,hV,au⟩))
   obtain⟨vjs,vj1,vk0,vi9,vi5⟩:=va2 ve0.out vfn vdk lp au aC hE.out va6;have vk6:=vex.below vj1 zr;clear vex ve0 vfp vfn vdk au aC va6 vj1 lp hV hE;have hL:=va0 vi9.out (by rw[List.length_append,List.length_append,hpl,List.length_singleton,List.length_singleton];omega);go_wp2_with fail;clear vk6;go_loopw [27,28] (λv y wx=>∃k:Nat,k≤vhi.length∧y=.int .i64 k∧va4 W42 [] vhi k v wx) (λ_ y _=>vhi.length - (intOf y).toNat)
   case atStart=>exact⟨0,Nat.zero_le _,by go_num,va4.zero _ _ _⟩
   case round=>
    obtain⟨k,hk,rfl,hR⟩:=hrel;obtain⟨pv,cv,rfl⟩:=hR.shape
    by_cases hlt:k<vhi.length
    case neg=>
     obtain rfl:k=vhi.length:=by omega
     go_wp2_with fail;go_ret;exact⟨_,rfl,va5.to hR.fin (vi9.out.trans (by rw[←vmq,vjm.out,List.append_assoc]<;>rfl)),vjs.trans (af hR.1 vi5)⟩
    case pos=>
     obtain⟨x,b1,o1,pa,ca,ps,vfi,rfl,hX,d0,d1,d2,d3,d4⟩:=hR.at vk0 hlt;go_wp2_with (at_builtin;refine va3 hR hX hL _ _ rfl rfl rfl rfl ?_;intro v5 w5 vcz);exact⟨⟨k+1,hlt,by go_num,vcz⟩,by simp only[intOf];omega⟩
  case pos =>
   obtain⟨b1,o1,cz,⟨nm,ty⟩,mq,hkx,e0,e1⟩:=hP.at hlt;simp only[Value.slice.injEq,true_and] at mq;obtain⟨rfl,rfl⟩:=mq;obtain⟨hnm,hty⟩:=hps _ (List.mem_of_getElem? hkx);simp only at hnm hty e0 e1;have d0:=Below.keep kH e0;have d1:=Below.keep kH e1;have vh5:([103,101,116,95]++nm).length≤maxLen:=by rw[List.length_append];simp;unfold maxLen;omega
   have vh6:([115,101,116,95]++nm).length≤maxLen:=by rw[List.length_append];simp;unfold maxLen;omega
   have hpl:=va9 (λp:List UInt8×List UInt8=>([⟨[103,101,116,95]++p.1,⟨false,[t],p.2,[]⟩⟩,⟨[115,101,116,95]++p.1,⟨false,[t,p.2],[],[]⟩⟩]:List aL)) (λ_=>rfl) (PS.take k);rw[List.length_take] at hpl;have FP:vp7.length≤900:=by rw[hH.out,vba];omega
   have vcy:=zh (show qX ⟨[115,101,116,95]++nm,⟨false,[t,ty],[],[]⟩⟩ (qX ⟨[103,101,116,95]++nm,⟨false,[t],ty,[]⟩⟩ vp7)=lH ((PS.take (k+1)).flatMap (λp:List UInt8×List UInt8=>([⟨[103,101,116,95]++p.1,⟨false,[t],p.2,[]⟩⟩,⟨[115,101,116,95]++p.1,⟨false,[t,p.2],[],[]⟩⟩]:List aL))) by rw[List.take_add_one,hkx,List.flatMap_append,hH.out,←vaa,←vaa];simp);have FV:=zh (show aB ((PS.take k).map (·.2))++[str ty]=aB ((PS.take (k+1)).map (·.2)) by rw[List.take_add_one,hkx];simp[aB]);clear hkx hpl;go_upto_region 38 with(at_builtin;refine bq _ rfl _ _ 34 rfl W5.heap.size 9 j0 _ 1 16 eV hj0 hy0 hy1 hy2 rfl (by decide) (.slice pa k ca) k _ rfl (hown.alloc _) ⟨wr.heap.size,0,none⟩ 1 1 [str ty] rfl rfl (cell_one_new _ _ _) (by intro u hu;rw[List.mem_singleton.1 hu];rfl) (by decide) (by unfold maxLen;omega) (by omega) (by simp;omega) ?_;intro v5 w5 gX hgr sF;obtain⟨vq6,c5,rfl⟩:=bu gX);have eT:=(kH.alloc vbs (.cells #[str ty] 9)).grown hgr (by simp;omega) (λk e=>(hown.lt k e).1);have vl2:=(Below.refl wr.heap.size wr).alloc zr (.cells #[str ty] 9);have vjd:aY (λb=>(Value.slice vq6 (k+1) c5).ownBlock≠some b) w5 (.slice pv vp7.length cv) vp7:=((hO.fresh.below vl2 zr).agree (w':=w5) (λb hb hlt=>hgr.block b hlt (λe=>hb.1 e.symm))).mono (λb hb e=>by
    rcases sF with h|h
    · exact hb.1 (h▸e)
    · rw[h] at e
      injection e with e;have:=hb.2;simp at e;omega)
   have f0:=Below.keep eT e0;have f1:=Below.keep eT e1;have vn7:w5.heap.size≤w5.drew.heap.size:=nl _;have vgd:∀wz:World,w5.heap.size≤wz.heap.size→∀b,wz.heap.size≤b→(Value.slice vq6 (k+1) c5).ownBlock≠some b:=λwz hz b hb e=>absurd (aK gX e) (by omega)
   clear hown hO hgr sF vl2 kH d0 d1;refine jc (D:=(λb=>(Value.slice vq6 (k+1) c5).ownBlock≠some b)) (w:=w5) 16 [(2,.eq (str t)),(9,.ops vp7),(15,.eq (.slice (some ⟨b1,o1,none⟩) PS.length cp)),(18,.eq (.int .i64 k))] [(.ops vp7),(.eq (.slice (some ⟨b1,o1,none⟩) PS.length cp)),(.eq (.int .i64 k)),(.eq (.pointer (some ⟨b1,o1+k * 2,none⟩))),(.eq (.pointer (some ⟨b1,o1+k * 2,none⟩))),(.eq (str nm)),(.eq (str ([103,101,116,95]++nm))),(.eq (str t)),(.ss [t]),(.eq (.slice (some ⟨b1,o1,none⟩) PS.length cp)),(.eq (.int .i64 k)),(.eq (.pointer (some ⟨b1,o1+k * 2,none⟩))),(.eq (.pointer (some ⟨b1,o1+k * 2+1,none⟩))),(.eq (str ty)),(.op ⟨[103,101,116,95]++nm,⟨false,[t],ty,[]⟩⟩),(.ops (qX ⟨[103,101,116,95]++nm,⟨false,[t],ty,[]⟩⟩ vp7)),(.ops (qX ⟨[103,101,116,95]++nm,⟨false,[t],ty,[]⟩⟩ vp7))] (λw'=>aZ [(⟨b1,o1+k * 2,none⟩,str nm),(⟨b1,o1+k * 2+1,none⟩,str ty)] w'∧w5.heap.size≤w'.heap.size) (by kernel_rfl) (by kernel_rfl) (by kernel_rfl) (by kernel_rfl) (by kernel_rfl) (λ_ _ h hb=>⟨h.1.below hb,Nat.le_trans h.2 hb.size⟩) ⟨(λp hp=>by simp only[List.mem_cons,List.not_mem_nil,or_false] at hp;rcases hp with rfl|rfl<;>assumption),vn7⟩ ?_ ?_ ?_
   · intro p hp
     simp only[List.mem_cons,List.not_mem_nil,or_false] at hp;rcases hp with rfl|rfl|rfl|rfl
     · exact rfl
     · exact(vjd.below (zb w5).drew zr)
     · exact rfl
     · exact rfl
   · iterate 17
      refine And.intro ?_ ?_
      · first
        | exact dr (by kernel_rfl) rfl
        | exact Mn (.inl rfl) (by kernel_rfl) rfl (by kernel_rfl)
        | exact Mn (.inr rfl) (by kernel_rfl) rfl (by kernel_rfl)
        | exact EY rfl (by kernel_rfl) rfl rfl (by kernel_rfl)
        | exact Hy rfl (by kernel_rfl) rfl rfl rfl
        | exact eX rfl (by kernel_rfl) (by kernel_rfl) rfl rfl
        | exact gN rfl (by kernel_rfl) rfl rfl (λw=>by simp[go_sem])
        | exact iC rfl (by kernel_rfl) rfl rfl rfl (λw=>by simp[go_sem,hlt])
        | exact gv rfl (by kernel_rfl) rfl rfl (λw hS=>by simp[go_sem,(hS.1.get 0 rfl),(hS.1.get 1 rfl)])
        | exact eW rfl (by kernel_rfl) rfl rfl rfl (λw=>vc8 _ _ (by simp;omega) _ _ w)
        | exact Hz rfl rfl (by kernel_rfl) rfl (by kernel_rfl) ht (λwz hS=>vgd wz hS.2 _ zr)
        | exact stOp rfl (by kernel_rfl) rfl (by kernel_rfl) (by kernel_rfl) (by kernel_rfl) (by kernel_rfl) vh5 hty
        | exact vfd rfl (by kernel_rfl) rfl (by kernel_rfl) (by kernel_rfl) (Nat.le_trans FP (by decide)) (λwz hS=>vgd wz hS.2)
        | exact eW rfl (by kernel_rfl) rfl rfl rfl (λw=>by simp[go_sem])
     exact trivial
   · intro aE vE wE mo fM Pv vj9 SI
     have SI:aY (λb=>(Value.slice vq6 (k+1) c5).ownBlock≠some b) wE vE (qX ⟨[103,101,116,95]++nm,⟨false,[t],ty,[]⟩⟩ vp7):=SI _ rfl;obtain⟨pE,vpt,rfl,_⟩:=SI.shape;rw[Pv];clear Pv vj9;simp only[List.take_succ_cons,List.take_zero,dA,pz,pw];have hl1:(qX (⟨[103,101,116,95]++nm,⟨false,[t],ty,[]⟩⟩) vp7).length≤1000:=by rw[vcm];omega
     have f0:=Below.keep fM f0;have f1:=Below.keep fM f1;have vja:=fM.size;have vn8:w5.heap.size≤wE.drew.heap.size:=vja;generalize qX (⟨[103,101,116,95]++nm,⟨false,[t],ty,[]⟩⟩) vp7=voz at *;go_upto_region 39 with fail;refine jc (D:=(λb=>(Value.slice vq6 (k+1) c5).ownBlock≠some b)) (w:=wE) 16 [(2,.eq (str t)),(9,.ops voz),(15,.eq (.slice (some ⟨b1,o1,none⟩) PS.length cp)),(18,.eq (.int .i64 k))] [(.ops voz),(.eq (.slice (some ⟨b1,o1,none⟩) PS.length cp)),(.eq (.int .i64 k)),(.eq (.pointer (some ⟨b1,o1+k * 2,none⟩))),(.eq (.pointer (some ⟨b1,o1+k * 2,none⟩))),(.eq (str nm)),(.eq (str ([115,101,116,95]++nm))),(.eq (str t)),(.eq (.slice (some ⟨b1,o1,none⟩) PS.length cp)),(.eq (.int .i64 k)),(.eq (.pointer (some ⟨b1,o1+k * 2,none⟩))),(.eq (.pointer (some ⟨b1,o1+k * 2+1,none⟩))),(.eq (str ty)),(.ss [t,ty]),(.op ⟨[115,101,116,95]++nm,⟨false,[t,ty],[],[]⟩⟩),(.ops (qX ⟨[115,101,116,95]++nm,⟨false,[t,ty],[],[]⟩⟩ voz)),(.ops (qX ⟨[115,101,116,95]++nm,⟨false,[t,ty],[],[]⟩⟩ voz))] (λw'=>aZ [(⟨b1,o1+k * 2,none⟩,str nm),(⟨b1,o1+k * 2+1,none⟩,str ty)] w'∧w5.heap.size≤w'.heap.size) (by kernel_rfl) (by kernel_rfl) (by kernel_rfl) (by kernel_rfl) (by kernel_rfl) (λ_ _ h hb=>⟨h.1.below hb,Nat.le_trans h.2 hb.size⟩) ⟨(λp hp=>by simp only[List.mem_cons,List.not_mem_nil,or_false] at hp;rcases hp with rfl|rfl<;>assumption),vn8⟩ ?_ ?_ ?_
     · intro p hp
       simp only[List.mem_cons,List.not_mem_nil,or_false] at hp;rcases hp with rfl|rfl|rfl|rfl
       · exact rfl
       · exact(SI.below (zb wE).drew zr)
       · exact rfl
       · exact rfl
     · iterate 17
        refine And.intro ?_ ?_
        · first
          | exact dr (by kernel_rfl) rfl
          | exact Mn (.inl rfl) (by kernel_rfl) rfl (by kernel_rfl)
          | exact Mn (.inr rfl) (by kernel_rfl) rfl (by kernel_rfl)
          | exact EY rfl (by kernel_rfl) rfl rfl (by kernel_rfl)
          | exact Hy rfl (by kernel_rfl) rfl rfl rfl
          | exact eX rfl (by kernel_rfl) (by kernel_rfl) rfl rfl
          | exact gN rfl (by kernel_rfl) rfl rfl (λw=>by simp[go_sem])
          | exact iC rfl (by kernel_rfl) rfl rfl rfl (λw=>by simp[go_sem,hlt])
          | exact gv rfl (by kernel_rfl) rfl rfl (λw hS=>by simp[go_sem,(hS.1.get 0 rfl),(hS.1.get 1 rfl)])
          | exact eW rfl (by kernel_rfl) rfl rfl rfl (λw=>vc8 _ _ (by simp;omega) _ _ w)
          | exact Bz rfl rfl (by kernel_rfl) rfl (by kernel_rfl) (by kernel_rfl) ht hty (λwz hS=>vgd wz hS.2 _ zr)
          | exact stOp rfl (by kernel_rfl) rfl (by kernel_rfl) (by kernel_rfl) (by kernel_rfl) (by kernel_rfl) vh6 (by decide)
          | exact vfd rfl (by kernel_rfl) rfl (by kernel_rfl) (by kernel_rfl) hl1 (λwz hS=>vgd wz hS.2)
          | exact eW rfl (by kernel_rfl) rfl rfl rfl (λw=>by simp[go_sem])
       exact trivial
     · intro vpq vqf vqj Nq vlb vla vmz vjk
       have vjk:aY (λb=>(Value.slice vq6 (k+1) c5).ownBlock≠some b) vqj vqf (qX ⟨[115,101,116,95]++nm,⟨false,[t,ty],[],[]⟩⟩ voz):=vjk _ rfl;obtain⟨vq9,vpu,rfl,_⟩:=vjk.shape;rw[vla];clear vla vmz;simp only[List.take_succ_cons,List.take_zero,dA,Act.put];go_wp2_with fail;have vi1:=(eT.trans (af fM eT.size)).trans (af vlb (Nat.le_trans eT.size vja));have vgi:=ay (ay gX fM zr) vlb zr;rw[FV.out] at vgi;exact⟨⟨k+1,hlt,by go_num,vi1,vgi,_,vjk,vcy⟩,by simp only[intOf];omega⟩
theorem vc3 {D D':Nat→Prop} (c:bw) (lv nv:Value) (t:List UInt8) (w:World) (hl:bG D w lv c.dG) (hn:aY D' w nv c.ag) (h0:(aq t).1=0) (PI:c.ag.length≤900)
 (h7:(aq t).2.k=7→∃f,ew c.dG (eH t).1=some f∧f.ops.length≤900):
 Calls Tryz.prog 70 #[lv,nv,str t] w λe w'=>∃v,e=.returned v∧va5 w' v (lH (vaj c t)) (dU c t).2∧Below w.heap.size w w':=by
 have ht:t.length≤maxLen:=(CU h0).1
 have hat:=(CU h0).2.1
 have PO:=(CU h0).2.2.2.1
 have hps:=(CU h0).2.2.2.2
 have hk:=gl h0
 rcases h:(aq t).2.k with _|_|_|_|_|_|_|_|_|k
 · omega
 · have:=vef c lv nv t w hl hn ht h h0
   unfold vaj dU;rw[h];exact this
 · have:=vdd c lv nv t w hl hn ht h h0
   unfold vaj dU;rw[h];exact this
 · have:=vde c lv nv t w hl hn ht h h0
   unfold vaj dU;rw[h];exact this
 · have:=vct c lv nv t w hl hn ht h h0 _ rfl hat
   unfold vaj dU;rw[h];exact this
 · have:=vej c lv nv t w hl hn ht h h0 hps PO
   unfold vaj dU;rw[h];exact this
 · have:=veh c lv nv t w hl hn ht h h0 hps PO
   unfold vaj dU;rw[h];exact this
 · obtain⟨f,hf,hfl⟩:=h7 h
   have:=veg c lv nv t w hl hn ht h h0 _ rfl hat f hf hfl;unfold vaj dU;rw[h];simp only;rw[hf];exact this
 · have:=vei c lv nv t w hl hn ht h h0 PI
   unfold vaj dU;rw[h];exact this
 · omega
def veq (c:bw) (n:Nat) (want:List aL) (t:List UInt8):List aL×List UInt8:=if want≠[]∧ff c n t=0 then(lH (vaj c t),(dU c t).2) else([],[])
def vaf (R:List aL×List UInt8) (want:List aL) (t:List UInt8):Option (List UInt8):=(want.find? λx=> !vcp R.1 R.2 t x).map (·.name)
def vbh (c:bw) (n:Nat) (want:List aL) (t:List UInt8):Option (List UInt8):=vaf (veq c n want t) want t
theorem vby {c:bw} {n:Nat} {want:List aL} {t:List UInt8} (h0:(aq t).1=0) (ho:iq (dU c t).1) (hg:want=[]∨ff c n t=0):vbh c n want t=dZ c want t:=by
 unfold vbh vaf dZ veq
 rcases hg with rfl|hg
 · rfl
 · by_cases hw:want=[]
   · subst hw;rfl
   · rw[if_pos ⟨hw,hg⟩]
     congr 2
     funext x;rw[vf3 c t x ho ((nB _).trans (vax c h0))];simp
theorem vet {c:bw} {n:Nat} {want:List aL} {t:List UInt8} (hw:want≠[]) (hg:ff c n t≠0):(vbh c n want t).isSome=true:=by
 unfold vbh vaf veq
 rw[if_neg (λh=>hg h.2)]
 cases want with
 | nil=>exact absurd rfl hw
 | cons x l=>
  rw[List.find?_cons_of_pos (by simp[vcp])]
  rfl
theorem veu {c:bw} {n:Nat} {want:List aL} {t:List UInt8} (h0:(aq t).1=0) (ho:iq (dU c t).1):wQ c n want t=(vbh c n want t).isNone:=by
 unfold wQ
 by_cases hw:want=[]
 · rw[vby h0 ho (.inl hw)]
   subst hw;simp[dZ]
 · by_cases hg:ff c n t=0
   · rw[vby h0 ho (.inr hg)]
     simp[hg]
   · have:=vet (c:=c) (n:=n) (want:=want) (t:=t) hw hg
     rw[Option.isNone_eq_false_iff.2 this];simp[hw,hg]
theorem vbn {c : bw} {n : Nat} {t : List UInt8} (h : ff c (n + 1) t = 0) (hk : (aq t).2.k = 7) : ∃ f, ew c.dG (eH t).1 = some f := by
 unfold ff at h
 split at h
 · exact absurd h ‹_›
 · rename_i h0
   split at h
   · omega
   · rcases hf:ew c.dG (eH t).1 with _|f
     · exfalso
       have h0':(aq t).1=0:=by omega
       have hm:t∈(cT t).1:=by
        rcases hq:aq t with⟨e,T⟩;rw[hq] at h0';simp only at h0';subst h0';obtain⟨r,h1,_⟩:=ve hq;rw[h1];exact List.mem_cons_self ..
       have hz:∀(l:List Nat),dY l=0→∀e∈l,e=0:=by
        intro l
        induction l with
        | nil=>intro _ e he;cases he
        | cons a l ih=>
         intro hl e he;rw[dY] at hl;split at hl
         · rename_i ha
           rcases List.mem_cons.1 he with rfl|he
           · exact ha
           · exact ih hl e he
         · omega
       have:=hz _ h _ (List.mem_map_of_mem hm);rw[rF hk hf] at this;omega
     · exact⟨f,rfl⟩
def vap (c:bw):Prop:=(∀f∈c.dG,dF f=true)∧aU c.ag=true
def vbx (c:bw) (n:Nat):Prop:=
 ∀(D D':Nat→Prop) (lv nv:Value) (t:List UInt8) (w:World),bG D w lv c.dG→aY D' w nv c.ag→t.length≤maxLen→jy t<n→Calls Tryz.prog 68 #[lv,nv,.bool c.par,str t] w λe w'=>e=.returned (.int .i64 (ff c n t))∧Below w.heap.size w w'
def vb4 (a:List UInt8) (y:aL) (PS:bP×Nat) (o:aL):Bool:=decide ((eF o.sig a).2=0)&&decide (o.name=y.name)&&pK (eF o.sig a).1 PS.1
theorem vfw (R:List aL) (a t:List UInt8) (y:aL):vcp R a t y=(decide ((eF y.sig t).2=0)&&R.any (vb4 a y (eF y.sig t))):=rfl
theorem ve2 {R:List aL×List UInt8} {t:List UInt8} {y:aL} {l:List aL} (h:vcp R.1 R.2 t y=true):vaf R (y::l) t=vaf R l t:=by
 unfold vaf
 rw[List.find?_cons_of_neg (by simp[h])]
theorem vcn {R:List aL×List UInt8} {t:List UInt8} {y:aL} {l:List aL} (h:vcp R.1 R.2 t y=false):vaf R (y::l) t=some y.name:=by
 unfold vaf
 rw[List.find?_cons_of_pos (by simp[h])]
 rfl
theorem ver {R:List aL} {p:aL→Bool} {k:Nat} {x:aL} (h:R[k]? =some x):(R.take (k+1)).any p=((R.take k).any p||p x):=by
 rw[List.take_add_one,h]
 simp
theorem vd9 {D D' voq : Nat → Prop} (c : bw) (k0 : Nat) (hG : vbx c k0) (lv nv wv : Value) (want : List aL) (t : List UInt8) (w : World) (hl : bG D w lv c.dG) (hn : aY D' w nv c.ag) (hw : aY voq w wv want) (qW : ∀ o ∈ want, o.sig.args.length ≤ 100000)
 (h0:(aq t).1=0) (hne:t≠[]) (hk:jy t<k0) (hw0:want≠[]) (lp:ff c k0 t=0) (hal:∀x∈lH (vaj c t),x.sig.args.length≤100000) (h7:(aq t).2.k=7→∃f,ew c.dG (eH t).1=some f∧f.ops.length≤900) (PI:c.ag.length≤900) (vkp:(dU c t).2.length≤maxLen):
 Calls Tryz.prog 131 #[lv,nv,.bool c.par,wv,str t] w λe w'=>e=.returned (.tuple #[str ((vaf (lH (vaj c t),(dU c t).2) want t).getD []),.bool (vaf (lH (vaj c t),(dU c t).2) want t).isNone])∧Below w.heap.size w w':=by
 have ht:t.length≤maxLen:=(CU h0).1
 have LG:=hG D D' lv nv t w hl hn ht hk
 rw[lp] at LG
 have vfg:=λW (hW:Below w.heap.size w W)=>vc3 c lv nv t W (hl.below hW zr) (hn.below hW zr) h0 PI h7
 have hwp:0<want.length:=List.length_pos_iff.2 hw0
 have vpx:(0:Int)<(want.length:Int):=by omega
 have vjn:=λ(x:Value) (s:bP) (W:World) (hx:aT Any W x s) (hl:s.args.length≤100000)=>vb5 x s t W hx hne ht hl
 generalize lH (vaj c t)=vpg at *
 generalize (dU c t).2=vpf at *
 obtain⟨pl,cl,rfl,_⟩:=hl.shape
 obtain⟨pn,cn,rfl,_⟩:=hn.shape
 obtain⟨pw,cw,rfl,_,vn3,_⟩:=hw.shape
 unfold maxLen at vn3
 have vly:=zh qW
 have Qz:=zh hal
 clear hG qW hal h7 PI h0 hne hk lp hw0
 go_enter Tryz.func131,Tryz.ntmps131
 go_wp2_with (first
  | (go_at_call 70;refine(vfg _ au).mono ?_;clear vfg;rintro e w2 ⟨vqi,rfl,hR,aC⟩;obtain⟨pR,cR,rfl,vkk⟩:=hR.shape)
  | (go_at_call 68;refine LG.mono ?_;clear LG;rintro e w1 ⟨rfl,au⟩))
 have cD:=au.trans (af aC au.size)
 unfold maxLen at vkk
 clear au aC
 go_loopw [13] (λa wx=>∃i:Nat,i≤want.length∧a=.int .i64 i∧Below w2.heap.size w2 wx∧Hid (vaf (vpg,vpf) want t=vaf (vpg,vpf) (want.drop i) t)) (λa _=>want.length - (intOf a).toNat)
 case atStart=>exact⟨0,Nat.zero_le _,by go_num,zb _,rfl⟩
 case round =>
  obtain⟨i,hi,rfl,hb,hE⟩:=hrel;have DA:=cD.trans (af hb cD.size)
  by_cases hlt:i<want.length
  case neg=>
   have HX:=zh (show vaf (vpg,vpf) want t=none by rw[hE.out,List.drop_eq_nil_of_le (by omega)];rfl);clear hE;go_wp2_with fail;go_ret2;rw[HX.out];exact⟨rfl,DA⟩
  case pos =>
   obtain⟨y,j8⟩:∃y,want[i]? =some y:=⟨_,List.getElem?_eq_getElem hlt⟩
   obtain⟨vps,vq5,av,sv,rfl,_,⟨vn9,vkt⟩,fe,eE,d0,d1,d2,d3,d4⟩:=(hw.below DA zr).at j8;have wW:aT Any wr (.agg #[.bool y.sig.iter,av,str y.sig.res,sv]) y.sig:=⟨_,_,rfl,vkt,fe.mono λ_ _=>trivial,eE.mono λ_ _=>trivial⟩;have HC:=vjn _ y.sig wr wW (vly.out y (List.mem_of_getElem? j8));have hd:=hE.out;rw[bp j8] at hd;have vck:=vfw vpg vpf t y;obtain⟨pa,ca,rfl,_⟩:=fe.shape;obtain⟨ps,cs,rfl,_⟩:=eE.shape;generalize eF y.sig t=PS at *;clear hE j8 fe eE wW
   by_cases hsh:PS.2=0
   case neg=>
    rw[decide_eq_false hsh] at HC vck;have HX:=zh (hd.trans (vcn (R:=(vpg,vpf)) (l:=want.drop (i+1)) (by rw[vck];rfl)));clear hd vck hsh;go_wp2_with (go_at_call 135;refine HC.mono ?_;clear HC;rintro e w1 ⟨u,rfl,⟨vpr,vqd,rfl,vq0,vqc,vqb⟩,au⟩;obtain⟨px,cx,rfl,_⟩:=vqc.shape;obtain⟨py,cy,rfl,_⟩:=vqb.shape);have vl0:=Below.keep (au.trans ((Below.refl wr.heap.size w1).alloc au.size (.cells #[.bool PS.1.iter,.slice px PS.1.args.length cx,str PS.1.res,.slice py PS.1.sigs.length cy] 36))) d0;have O4:=(DA.trans (af au DA.size)).alloc (Nat.le_trans DA.size au.size) (.cells #[.bool PS.1.iter,.slice px PS.1.args.length cx,str PS.1.res,.slice py PS.1.sigs.length cy] 36);generalize hW:w1.alloc (.cells #[.bool PS.1.iter,.slice px PS.1.args.length cx,str PS.1.res,.slice py PS.1.sigs.length cy] 36)=W2 at *;go_loopw [14,17] (λf a wx=>f=.bool false∧a=.int .i64 0∧wx=W2) (λ_ _ _=>0)
    case atStart=>exact⟨rfl,rfl,rfl⟩
    case round=>
     obtain⟨rfl,rfl,rfl⟩:=hrel;clear hW
     by_cases hz:0<vpg.length
     · have vpy:(0:Int)<(vpg.length:Int):=by omega
       go_wp2_with fail;go_ret2;rw[HX.out];exact⟨rfl,O4⟩
     · have vpy:¬(0:Int)<(vpg.length:Int):=by omega
       go_wp2_with fail;go_ret2;rw[HX.out];exact⟨rfl,O4⟩
   case pos =>
    rw[decide_eq_true hsh] at HC vck;rw[Bool.true_and] at vck;have MA:=zh (λh:vpg.any (vb4 vpf y PS)=true=>hd.trans (ve2 (R:=(vpg,vpf)) (l:=want.drop (i+1)) (by rw[vck];exact h)));have QC:=zh (λh:vpg.any (vb4 vpf y PS)=false=>hd.trans (vcn (R:=(vpg,vpf)) (l:=want.drop (i+1)) (by rw[vck];exact h)));clear hd vck hsh;go_wp2_with (go_at_call 135;refine HC.mono ?_;clear HC;rintro e w1 ⟨u,rfl,⟨vpr,vqd,rfl,vq0,vqc,vqb⟩,au⟩;obtain⟨px,cx,rfl,_⟩:=vqc.shape;obtain⟨py,cy,rfl,_⟩:=vqb.shape);have vfs:=(Below.refl w1.heap.size w1).alloc zr (.cells #[.bool PS.1.iter,.slice px PS.1.args.length cx,str PS.1.res,.slice py PS.1.sigs.length cy] 36);have hbc:=au.trans (af vfs au.size);have vh3:=hb.trans (af hbc hb.size);have vl0:=Below.keep hbc d0;have vfr:aT Any (w1.alloc (.cells #[.bool PS.1.iter,.slice px PS.1.args.length cx,str PS.1.res,.slice py PS.1.sigs.length cy] 36)) (.agg #[.bool PS.1.iter,.slice px PS.1.args.length cx,str PS.1.res,.slice py PS.1.sigs.length cy]) PS.1:=⟨_,_,rfl,vq0,(vqc.mono λ_ _=>trivial).below vfs zr,(vqb.mono λ_ _=>trivial).below vfs zr⟩;have vkq:=heap_alloc_new w1 (.cells #[.bool PS.1.iter,.slice px PS.1.args.length cx,str PS.1.res,.slice py PS.1.sigs.length cy] 36);have vmr:=hR.below vh3 zr;clear vfs hbc vqc vqb d0 d1 d2 d3 d4 au;generalize hW:w1.alloc (.cells #[.bool PS.1.iter,.slice px PS.1.args.length cx,str PS.1.res,.slice py PS.1.sigs.length cy] 36)=W2 at *;go_loopw [14,17] (λf a wx=>∃k:Nat,k≤vpg.length∧a=.int .i64 k∧f=.bool ((vpg.take k).any (vb4 vpf y PS))∧Below W2.heap.size W2 wx) (λ_ a _=>vpg.length - (intOf a).toNat)
    case atStart=>exact⟨0,Nat.zero_le _,by go_num,rfl,zb _⟩
    case round =>
     clear hW;obtain⟨k,NU,rfl,rfl,hbk⟩:=hrel;have O6:=vh3.trans (af hbk vh3.size);have vi3:=cD.trans (af O6 cD.size);have vl1:=Below.keep hbk vl0;obtain⟨vov,vge⟩:∃vov,vov=(vpg.take k).any (vb4 vpf y PS):=⟨_,rfl⟩
     rw[←vge]
     by_cases hki:k<vpg.length
     case neg=>
      obtain rfl:k=vpg.length:=by omega
      rw[List.take_length] at vge;cases vov
      · have HX:=zh (QC.out vge.symm)
        clear vge;go_wp2_with fail;go_ret2;rw[HX.out];exact⟨rfl,vi3⟩
      · have HX:=zh (MA.out vge.symm)
        clear vge;go_wp2_with fail;exact⟨⟨i+1,hlt,by go_num,O6,HX⟩,by simp only[intOf];omega⟩
     case pos =>
      obtain⟨x,hkx⟩:∃x,vpg[k]? =some x:=⟨_,List.getElem?_eq_getElem hki⟩
      obtain⟨b6,o6,vna,vnb,rfl,⟨F8,mI⟩,vgg,vgh,e0,e1,e2,e3,e4,e5⟩:=(vmr.below hbk zr).at hkx;have vj2:=Qz.out x (List.mem_of_getElem? hkx);have vfh:=vdf (.agg #[str x.name,.bool x.sig.iter,vna,str x.sig.res,vnb,str vpf]) x vpf wr ⟨_,_,rfl,⟨F8,mI⟩,vgg,vgh⟩ vkp vj2;have vdl:=ver (p:=vb4 vpf y PS) hkx;rw[←vge] at vdl;have hmx:vb4 vpf y PS x=(decide ((eF x.sig vpf).2=0)&&decide (x.name=y.name)&&pK (eF x.sig vpf).1 PS.1):=rfl;rw[hmx] at vdl;obtain⟨vo3,vnr,rfl,_⟩:=vgg.shape;obtain⟨vo4,vns,rfl,_⟩:=vgh.shape;generalize eF x.sig vpf=vpc at *;obtain⟨vp9,vl7⟩:∃vp9,vp9=decide (vpc.2=0):=⟨_,rfl⟩
      rw[←vl7] at vfh vdl;clear hmx hkx vge vl7 vgg vgh vj2;go_upto_region 13 with(go_at_call 71;refine vfh.mono ?_;clear vfh;rintro e w3 ⟨u,rfl,⟨vpr,vqd,rfl,vq0,vqc,vqb⟩,aH⟩;obtain⟨pu,cu,rfl,_⟩:=vqc.shape;obtain⟨pv,cv,rfl,_⟩:=vqb.shape);have vft:=(Below.refl w3.heap.size w3).alloc zr (.cells #[.bool vpc.1.iter,.slice pu vpc.1.args.length cu,str vpc.1.res,.slice pv vpc.1.sigs.length cv] 36);have hb4:=aH.trans (af vft aH.size);have vir:aT Any (w3.alloc (.cells #[.bool vpc.1.iter,.slice pu vpc.1.args.length cu,str vpc.1.res,.slice pv vpc.1.sigs.length cv] 36)) (.agg #[.bool vpc.1.iter,.slice pu vpc.1.args.length cu,str vpc.1.res,.slice pv vpc.1.sigs.length cv]) vpc.1:=⟨_,_,rfl,vq0,vqc.below vft zr,vqb.below vft zr⟩;have vfr:=(vfr.below hbk zr).below hb4 zr;have vmj:=(aN (heap_alloc_new w3 (.cells #[.bool vpc.1.iter,.slice pu vpc.1.args.length cu,str vpc.1.res,.slice pv vpc.1.sigs.length cv] 36))).1;have vmi:=(aN (ah (ah vkq hbk) hb4)).1;obtain⟨m0,m1,m2,m3⟩:=vmj;obtain⟨q0,q1,q2,q3⟩:=vmi;have n0:=Below.keep hb4 e0;have n1:=Below.keep hb4 vl1;have vbu:=hbk.trans (af hb4 hbk.size);clear vft vqc vqb aH e0 e1 e2 e3 e4 e5 vl1 hb4 O6 vi3;generalize vh1:w3.alloc (.cells #[.bool vpc.1.iter,.slice pu vpc.1.args.length cu,str vpc.1.res,.slice pv vpc.1.sigs.length cv] 36)=W4 at *;clear vh1;cases vov
      · cases vp9
        · simp only [Bool.false_and, Bool.or_false] at vdl
          refine dK (D:=Any) (w:=W4) 23 [(14,vN),(19,vN)] [vN,vN,vN,vN,vK,vK,vK,vK,vK,vK,vK,vK,vK,vK,vK,vK,vN,vN,vK,vK,vK,vN,vN,vN] (aZ []) (by kernel_rfl) rfl (λ_ _ h hb=>h.below hb) (λp hp=>by cases hp) ⟨rfl,rfl,trivial⟩ ?_ ?_
          · iterate 24
             refine And.intro ?_ ?_
             · first
               | exact dr (by kernel_rfl) rfl
               | exact oe rfl rfl (by kernel_rfl)
               | exact eX rfl (by kernel_rfl) (by kernel_rfl) rfl rfl
               | exact gN rfl (by kernel_rfl) rfl rfl (λw=>by simp[go_sem])
               | exact iC rfl (by kernel_rfl) rfl rfl rfl (λw=>by simp[go_sem,hlt,hki])
               | exact gv rfl (by kernel_rfl) rfl rfl (λw hS=>by simp[go_sem])
               | exact eW rfl (by kernel_rfl) rfl rfl rfl (λw=>by simp[go_sem])
            exact trivial
          · intro aE wE mo fM _
            simp only[pq,pz,pw];go_wp2_with fail;exact⟨⟨k+1,hki,by go_num,by rw[vdl],vbu.trans (af fM vbu.size)⟩,by simp only[intOf];omega⟩
        · by_cases hnm : x.name = y.name
          · rw [decide_eq_true hnm] at vdl
            rcases SB:pK vpc.1 PS.1 with _|_
            · rw [SB] at vdl
              refine dK (D:=Any) (w:=W4) 23 [(3,vL vps vq5 want.length cw),(12,vL b6 o6 vpg.length cR),(13,vI i),(14,vN),(15,vP w1.heap.size 0),(17,vI k),(18,vP w3.heap.size 0),(19,vY)] [vN,vN,vY,vY,vL b6 o6 vpg.length cR,vI k,vP b6 (o6+k * 6),vP b6 (o6+k * 6),vP b6 (o6+k * 6),vT x.name,vL vps vq5 want.length cw,vI i,vP vps (vq5+i * 5),vP vps (vq5+i * 5),vT y.name,vY,vY,vY,.eq (.agg #[.bool vpc.1.iter,.slice pu vpc.1.args.length cu,str vpc.1.res,.slice pv vpc.1.sigs.length cv]),.eq (.agg #[.bool PS.1.iter,.slice px PS.1.args.length cx,str PS.1.res,.slice py PS.1.sigs.length cy]),vN,vN,vN,vN] (λw'=>aZ [(⟨b6,o6+k * 6,none⟩,str x.name),(⟨vps,vq5+i * 5,none⟩,str y.name),(⟨w3.heap.size,0,none⟩,.bool vpc.1.iter),(⟨w3.heap.size,1,none⟩,.slice pu vpc.1.args.length cu),(⟨w3.heap.size,2,none⟩,str vpc.1.res),(⟨w3.heap.size,3,none⟩,.slice pv vpc.1.sigs.length cv),(⟨w1.heap.size,0,none⟩,.bool PS.1.iter),(⟨w1.heap.size,1,none⟩,.slice px PS.1.args.length cx),(⟨w1.heap.size,2,none⟩,str PS.1.res),(⟨w1.heap.size,3,none⟩,.slice py PS.1.sigs.length cy)] w'∧aT Any w' (.agg #[.bool vpc.1.iter,.slice pu vpc.1.args.length cu,str vpc.1.res,.slice pv vpc.1.sigs.length cv]) vpc.1∧aT Any w' (.agg #[.bool PS.1.iter,.slice px PS.1.args.length cx,str PS.1.res,.slice py PS.1.sigs.length cy]) PS.1) (by kernel_rfl) rfl (λ_ _ h hb=>⟨h.1.below hb,h.2.1.below hb zr,h.2.2.below hb zr⟩) ⟨(by(iterate 10 refine b9 (by assumption) ?_);exact gy),vir.below (zb W4).drew zr,vfr.below (zb W4).drew zr⟩ ⟨rfl,rfl,rfl,rfl,rfl,rfl,rfl,rfl,trivial⟩ ?_ ?_
              · iterate 24
                 refine And.intro ?_ ?_
                 · first
                   | exact dr (by kernel_rfl) rfl
                   | exact oe rfl rfl (by kernel_rfl)
                   | exact eX rfl (by kernel_rfl) (by kernel_rfl) rfl rfl
                   | exact gN rfl (by kernel_rfl) rfl rfl (λw=>by simp[go_sem])
                   | exact iC rfl (by kernel_rfl) rfl rfl rfl (λw=>by simp[go_sem,hlt,hki])
                   | exact gv rfl (by kernel_rfl) rfl rfl (λw hS=>by simp[go_sem,(hS.1.get 0 rfl),(hS.1.get 1 rfl),(hS.1.get 2 rfl),(hS.1.get 3 rfl),(hS.1.get 4 rfl),(hS.1.get 5 rfl),(hS.1.get 6 rfl),(hS.1.get 7 rfl),(hS.1.get 8 rfl),(hS.1.get 9 rfl)])
                   | exact gu (s1:=.eq (.agg #[.bool vpc.1.iter,.slice pu vpc.1.args.length cu,str vpc.1.res,.slice pv vpc.1.sigs.length cv])) (s2:=.eq (.agg #[.bool PS.1.iter,.slice px PS.1.args.length cx,str PS.1.res,.slice py PS.1.sigs.length cy])) rfl (enters_of Tryz.func26 (by kernel_rfl) rfl) (by kernel_rfl) rfl (by kernel_rfl) (by kernel_rfl) (λv v2 wx hS h1 h2=>by rw[show v=_ from h1,show v2=_ from h2];exact(EN vpc.1 PS.1 _ _ wx hS.2.1 hS.2.2).mono (by rintro e w' ⟨rfl,hb⟩;exact⟨_,rfl,(show Value.bool (pK vpc.1 PS.1)=.bool false by rw[SB]),hb⟩))
                   | exact eW rfl (by kernel_rfl) rfl rfl rfl (λw=>by simp[go_sem,hnm])
                exact trivial
              · intro aE wE mo fM _
                simp only[pq,pz,pw];go_wp2_with fail;exact⟨⟨k+1,hki,by go_num,by rw[vdl];rfl,vbu.trans (af fM vbu.size)⟩,by simp only[intOf];omega⟩
            · rw [SB] at vdl
              refine dK (D:=Any) (w:=W4) 23 [(3,vL vps vq5 want.length cw),(12,vL b6 o6 vpg.length cR),(13,vI i),(14,vN),(15,vP w1.heap.size 0),(17,vI k),(18,vP w3.heap.size 0),(19,vY)] [vN,vN,vY,vY,vL b6 o6 vpg.length cR,vI k,vP b6 (o6+k * 6),vP b6 (o6+k * 6),vP b6 (o6+k * 6),vT x.name,vL vps vq5 want.length cw,vI i,vP vps (vq5+i * 5),vP vps (vq5+i * 5),vT y.name,vY,vY,vY,.eq (.agg #[.bool vpc.1.iter,.slice pu vpc.1.args.length cu,str vpc.1.res,.slice pv vpc.1.sigs.length cv]),.eq (.agg #[.bool PS.1.iter,.slice px PS.1.args.length cx,str PS.1.res,.slice py PS.1.sigs.length cy]),vY,vY,vY,vY] (λw'=>aZ [(⟨b6,o6+k * 6,none⟩,str x.name),(⟨vps,vq5+i * 5,none⟩,str y.name),(⟨w3.heap.size,0,none⟩,.bool vpc.1.iter),(⟨w3.heap.size,1,none⟩,.slice pu vpc.1.args.length cu),(⟨w3.heap.size,2,none⟩,str vpc.1.res),(⟨w3.heap.size,3,none⟩,.slice pv vpc.1.sigs.length cv),(⟨w1.heap.size,0,none⟩,.bool PS.1.iter),(⟨w1.heap.size,1,none⟩,.slice px PS.1.args.length cx),(⟨w1.heap.size,2,none⟩,str PS.1.res),(⟨w1.heap.size,3,none⟩,.slice py PS.1.sigs.length cy)] w'∧aT Any w' (.agg #[.bool vpc.1.iter,.slice pu vpc.1.args.length cu,str vpc.1.res,.slice pv vpc.1.sigs.length cv]) vpc.1∧aT Any w' (.agg #[.bool PS.1.iter,.slice px PS.1.args.length cx,str PS.1.res,.slice py PS.1.sigs.length cy]) PS.1) (by kernel_rfl) rfl (λ_ _ h hb=>⟨h.1.below hb,h.2.1.below hb zr,h.2.2.below hb zr⟩) ⟨(by(iterate 10 refine b9 (by assumption) ?_);exact gy),vir.below (zb W4).drew zr,vfr.below (zb W4).drew zr⟩ ⟨rfl,rfl,rfl,rfl,rfl,rfl,rfl,rfl,trivial⟩ ?_ ?_
              · iterate 24
                 refine And.intro ?_ ?_
                 · first
                   | exact dr (by kernel_rfl) rfl
                   | exact oe rfl rfl (by kernel_rfl)
                   | exact eX rfl (by kernel_rfl) (by kernel_rfl) rfl rfl
                   | exact gN rfl (by kernel_rfl) rfl rfl (λw=>by simp[go_sem])
                   | exact iC rfl (by kernel_rfl) rfl rfl rfl (λw=>by simp[go_sem,hlt,hki])
                   | exact gv rfl (by kernel_rfl) rfl rfl (λw hS=>by simp[go_sem,(hS.1.get 0 rfl),(hS.1.get 1 rfl),(hS.1.get 2 rfl),(hS.1.get 3 rfl),(hS.1.get 4 rfl),(hS.1.get 5 rfl),(hS.1.get 6 rfl),(hS.1.get 7 rfl),(hS.1.get 8 rfl),(hS.1.get 9 rfl)])
                   | exact gu (s1:=.eq (.agg #[.bool vpc.1.iter,.slice pu vpc.1.args.length cu,str vpc.1.res,.slice pv vpc.1.sigs.length cv])) (s2:=.eq (.agg #[.bool PS.1.iter,.slice px PS.1.args.length cx,str PS.1.res,.slice py PS.1.sigs.length cy])) rfl (enters_of Tryz.func26 (by kernel_rfl) rfl) (by kernel_rfl) rfl (by kernel_rfl) (by kernel_rfl) (λv v2 wx hS h1 h2=>by rw[show v=_ from h1,show v2=_ from h2];exact(EN vpc.1 PS.1 _ _ wx hS.2.1 hS.2.2).mono (by rintro e w' ⟨rfl,hb⟩;exact⟨_,rfl,(show Value.bool (pK vpc.1 PS.1)=.bool true by rw[SB]),hb⟩))
                   | exact eW rfl (by kernel_rfl) rfl rfl rfl (λw=>by simp[go_sem,hnm])
                exact trivial
              · intro aE wE mo fM _
                simp only[pq,pz,pw];go_wp2_with fail;exact⟨⟨k+1,hki,by go_num,by rw[vdl];rfl,vbu.trans (af fM vbu.size)⟩,by simp only[intOf];omega⟩
          · rw [decide_eq_false hnm] at vdl
            refine dK (D:=Any) (w:=W4) 23 [(3,vL vps vq5 want.length cw),(12,vL b6 o6 vpg.length cR),(13,vI i),(14,vN),(17,vI k),(19,vY)] [vN,vN,vY,vY,vL b6 o6 vpg.length cR,vI k,vP b6 (o6+k * 6),vP b6 (o6+k * 6),vP b6 (o6+k * 6),vT x.name,vL vps vq5 want.length cw,vI i,vP vps (vq5+i * 5),vP vps (vq5+i * 5),vT y.name,vN,vN,vN,vK,vK,vK,vN,vN,vN] (aZ [(⟨b6,o6+k * 6,none⟩,str x.name),(⟨vps,vq5+i * 5,none⟩,str y.name)]) (by kernel_rfl) rfl (λ_ _ h hb=>h.below hb) (by(iterate 2 refine b9 (by assumption) ?_);exact gy) ⟨rfl,rfl,rfl,rfl,rfl,rfl,trivial⟩ ?_ ?_
            · iterate 24
               refine And.intro ?_ ?_
               · first
                 | exact dr (by kernel_rfl) rfl
                 | exact oe rfl rfl (by kernel_rfl)
                 | exact eX rfl (by kernel_rfl) (by kernel_rfl) rfl rfl
                 | exact gN rfl (by kernel_rfl) rfl rfl (λw=>by simp[go_sem])
                 | exact iC rfl (by kernel_rfl) rfl rfl rfl (λw=>by simp[go_sem,hlt,hki])
                 | exact gv rfl (by kernel_rfl) rfl rfl (λw hS=>by simp[go_sem,(hS.get 0 rfl),(hS.get 1 rfl)])
                 | exact eW rfl (by kernel_rfl) rfl rfl rfl (λw=>by simp[go_sem,hnm])
              exact trivial
            · intro aE wE mo fM _
              simp only[pq,pz,pw];go_wp2_with fail;exact⟨⟨k+1,hki,by go_num,by rw[vdl];rfl,vbu.trans (af fM vbu.size)⟩,by simp only[intOf];omega⟩
      · rw [Bool.true_or] at vdl
        refine dK (D:=Any) (w:=W4) 23 [(14,vY)] [vY,vY,vK,vK,vK,vK,vK,vK,vK,vK,vK,vK,vK,vK,vK,vK,vK,vK,vK,vK,vK,vK,vY,vY] (aZ []) (by kernel_rfl) rfl (λ_ _ h hb=>h.below hb) (λp hp=>by cases hp) ⟨rfl,trivial⟩ ?_ ?_
        · iterate 24
           refine And.intro ?_ ?_
           · first
             | exact dr (by kernel_rfl) rfl
             | exact oe rfl rfl (by kernel_rfl)
             | exact eX rfl (by kernel_rfl) (by kernel_rfl) rfl rfl
             | exact gN rfl (by kernel_rfl) rfl rfl (λw=>by simp[go_sem])
             | exact iC rfl (by kernel_rfl) rfl rfl rfl (λw=>by simp[go_sem,hlt,hki])
             | exact gv rfl (by kernel_rfl) rfl rfl (λw hS=>by simp[go_sem])
             | exact eW rfl (by kernel_rfl) rfl rfl rfl (λw=>by simp[go_sem])
          exact trivial
        · intro aE wE mo fM _
          simp only[pq,pz,pw];go_wp2_with fail;exact⟨⟨k+1,hki,by go_num,by rw[vdl],vbu.trans (af fM vbu.size)⟩,by simp only[intOf];omega⟩
theorem ve9 {D D' voq:Nat→Prop} (c:bw) (k0:Nat) (hG:vbx c k0) (lv nv wv:Value) (want:List aL) (t:List UInt8) (w:World) (hl:bG D w lv c.dG) (hn:aY D' w nv c.ag) (hw:aY voq w wv want) (qW:∀o∈want,o.sig.args.length≤100000)
 (ht:t.length≤maxLen) (hne:t≠[]) (hk:jy t<k0) (y:aL) (hy:want[0]? =some y) (lp:ff c k0 t≠0):
 Calls Tryz.prog 131 #[lv,nv,.bool c.par,wv,str t] w λe w'=>e=.returned (.tuple #[str y.name,.bool false])∧Below w.heap.size w w':=by
 have LG:=hG D D' lv nv t w hl hn ht hk
 obtain⟨g1,g2⟩:=bK lp
 have hwp:0<want.length:=(List.getElem?_eq_some_iff.1 hy).1
 have vpx:(0:Int)<(want.length:Int):=by omega
 have vjn:=λ(x:Value) (s:bP) (W:World) (hx:aT Any W x s) (hl:s.args.length≤100000)=>vb5 x s t W hx hne ht hl
 obtain⟨pw,cw,rfl,_,hm,_⟩:=hw.shape
 obtain⟨vps,vq5,av,sv,rfl,_,⟨vn9,vkt⟩,fe,eE,d0,d1,d2,d3,d4⟩:=hw.at hy
 rw[Nat.zero_mul,Nat.add_zero] at d0 d1 d2 d3 d4
 have wW:∀W,Below w.heap.size w W→aT Any W (.agg #[.bool y.sig.iter,av,str y.sig.res,sv]) y.sig:=λW hW=>⟨_,_,rfl,vkt,(fe.mono λ_ _=>trivial).below hW zr,(eE.mono λ_ _=>trivial).below hW zr⟩
 have vlw:=zh wW
 obtain⟨pa,ca,rfl,_⟩:=fe.shape
 obtain⟨ps,cs,rfl,_⟩:=eE.shape
 obtain⟨pl,cl,rfl,_⟩:=hl.shape
 obtain⟨pn,cn,rfl,_⟩:=hn.shape
 have Mh:=qW y (List.mem_of_getElem? hy)
 unfold maxLen at hm
 clear qW hy hG lp fe eE wW hw
 generalize ff c k0 t=GN at *
 go_enter Tryz.func131,Tryz.ntmps131
 go_wp2_with (go_at_call 68;refine LG.mono ?_;clear LG;rintro e w1 ⟨rfl,au⟩)
 have d0:=Below.keep au d0
 have d1:=Below.keep au d1
 have d2:=Below.keep au d2
 have d3:=Below.keep au d3
 have d4:=Below.keep au d4
 have HC:=vjn _ y.sig w1 (vlw.out _ au) Mh
 generalize eF y.sig t=PS at *
 go_loopw [13] (λa wx=>a=.int .i64 0∧wx=w1) (λ_ _=>0)
 case atStart=>exact⟨rfl,rfl⟩
 case round=>
  obtain⟨rfl,rfl⟩:=hrel;cases hsh:decide (PS.2=0)
  all_goals
   rw[hsh] at HC;go_wp2_with (go_at_call 135;refine HC.mono ?_;clear HC;rintro e w2 ⟨u,rfl,⟨vpr,vqd,rfl,vq0,vqc,vqb⟩,aC⟩;obtain⟨px,cx,rfl,_⟩:=vqc.shape;obtain⟨py,cy,rfl,_⟩:=vqb.shape);have mq:=aC.trans (af ((Below.refl w2.heap.size w2).alloc zr (.cells #[.bool PS.1.iter,.slice px PS.1.args.length cx,str PS.1.res,.slice py PS.1.sigs.length cy] 36)) aC.size);have vnv:=Below.keep mq d0;have O4:=au.trans (af mq au.size);generalize hW:w2.alloc (.cells #[.bool PS.1.iter,.slice px PS.1.args.length cx,str PS.1.res,.slice py PS.1.sigs.length cy] 36)=W2 at *;go_loopw [14,17] (λf a wx=>f=.bool false∧a=.int .i64 0∧wx=W2) (λ_ _ _=>0)
   case atStart=>exact⟨rfl,rfl,rfl⟩
   case round=>
    obtain⟨rfl,rfl,rfl⟩:=hrel;clear hW;go_wp2_with fail;go_ret2;exact⟨rfl,O4⟩
theorem vea {D D':Nat→Prop} (c:bw) (lv nv:Value) (p:Option Addr) (cw:Nat) (t:List UInt8) (w:World) (hl:bG D w lv c.dG) (hn:aY D' w nv c.ag):
 Calls Tryz.prog 131 #[lv,nv,.bool c.par,.slice p 0 cw,str t] w λe w'=>e=.returned (.tuple #[str [],.bool true])∧Below w.heap.size w w':=by
 obtain⟨pl,cl,rfl,_⟩:=hl.shape
 obtain⟨pn,cn,rfl,_⟩:=hn.shape
 go_enter Tryz.func131,Tryz.ntmps131
 go_wp2_with fail
 go_loopw [13] (λa wx=>a=.int .i64 0∧wx=w) (λ_ _=>0)
 case atStart=>exact⟨rfl,rfl⟩
 case round=>
  obtain⟨rfl,rfl⟩:=hrel;go_wp2_with fail;go_ret2;exact⟨rfl,zb _⟩
theorem vc1 {c:bw} (iw:vap c) {t:List UInt8} (h0:(aq t).1=0):sR c t:=Ls h0 iw.1 (ec iw.2).2
theorem ve8 {D D' voq:Nat→Prop} (c:bw) (k0:Nat) (hG:vbx c (k0+1)) (iw:vap c) (lv nv wv:Value) (want:List aL) (t:List UInt8) (w:World) (hl:bG D w lv c.dG) (hn:aY D' w nv c.ag) (hw:aY voq w wv want) (qW:∀o∈want,o.sig.args.length≤100000)
 (h0:(aq t).1=0) (hne:t≠[]) (hk:jy t<k0+1):
 Calls Tryz.prog 131 #[lv,nv,.bool c.par,wv,str t] w λe w'=>e=.returned (.tuple #[str ((vbh c (k0+1) want t).getD []),.bool (vbh c (k0+1) want t).isNone])∧Below w.heap.size w w':=by
 obtain⟨r1,r2⟩:=vc1 iw h0
 by_cases hw0:want=[]
 · subst hw0
   obtain⟨p,cw,rfl,_⟩:=hw.shape;exact vea c lv nv p cw t w hl hn
 · by_cases lp:ff c (k0+1) t=0
   · have hF:vbh c (k0+1) want t=vaf (lH (vaj c t),(dU c t).2) want t:=by unfold vbh veq;rw[if_pos ⟨hw0,lp⟩]
     rw[hF];refine vd9 c (k0+1) hG lv nv wv want t w hl hn hw qW h0 hne hk hw0 lp (λx hx=>(r2 x ?_).1) (λh7=>?_) (Nat.le_trans (ec iw.2).1 (by decide)) r1
     · exact(vax c h0).mem_iff.1 ((nB _).mem_iff.1 hx)
     · obtain⟨f,hf⟩:=vbn lp h7
       exact⟨f,hf,Nat.le_trans (dQ (iw.1 f (List.mem_of_find?_eq_some hf))).2.2.2.2.2.2.1 (by decide)⟩
   · obtain⟨y,hy⟩:∃y,want[0]? =some y:=by
      cases want with
      | nil=>exact absurd rfl hw0
      | cons y l=>exact⟨y,rfl⟩
     have hF:vbh c (k0+1) want t=some y.name:=by
      unfold vbh vaf veq;rw[if_neg (λh=>lp h.2)];cases want with
      | nil=>exact absurd rfl hw0
      | cons z l=>
       simp only[List.getElem?_cons_zero,Option.some.injEq] at hy;subst hy;rw[List.find?_cons_of_pos (by simp[vcp])]
       rfl
     rw[hF];exact ve9 c (k0+1) hG lv nv wv want t w hl hn hw qW (CU h0).1 hne hk y hy lp
theorem vda (c:bw) (n:Nat) (hG:vbx c n) (iw:vap c):vbx c (n+1):=by
 intro D D' lv nv t w hl hn htl KP
 have HV:=zh (λW (hW:Below w.heap.size w W)=>hl.below hW zr)
 have vjl:=zh (λW (hW:Below w.heap.size w W)=>hn.below hW zr)
 have HO:=CL t htl w
 have HI:=λW=>Hx t htl W
 by_cases h0:(aq t).1=0
 case neg=>
  have g1:((((aq t).1:Nat):Int) != 0)=true:=by rw[bne_iff_ne];omega
  have g2:¬((((aq t).1:Nat):Int)=0):=by omega
  have HX:=zh (show ff c (n+1) t=(aq t).1 by rw[ff,if_pos h0]);obtain⟨pl,cl,rfl,_⟩:=hl.shape;obtain⟨pn,cn,rfl,_⟩:=hn.shape;clear h0 hl hn HV vjl HI;generalize (aq t).1=C at *;generalize ff c (n+1) t=GN at *;go_enter Tryz.func68,Tryz.ntmps68;go_wp2_with (go_at_call 34;refine HO.mono ?_;clear HO;rintro e w1 ⟨rfl,au⟩);go_ret;rw[HX.out];exact⟨rfl,au⟩
 case pos =>
  obtain⟨hi2,hil,NO⟩:=zL h0;rw[h0] at HO
  by_cases ho:eM t=true∧c.par=false
  case pos=>
   obtain⟨jW,zz⟩:=ho;have HX:=zh (show ff c (n+1) t=43 by rw[ff,if_neg (by simp[h0]),if_pos ⟨jW,zz⟩]);rw[jW] at HO;generalize ff c (n+1) t=GN at *;simp only[zz];obtain⟨pl,cl,rfl,_⟩:=hl.shape;obtain⟨pn,cn,rfl,_⟩:=hn.shape;clear h0 jW zz hi2 hil NO hl hn HV vjl HI;go_enter Tryz.func68,Tryz.ntmps68;go_wp2_with (go_at_call 34;refine HO.mono ?_;clear HO;rintro e w1 ⟨rfl,au⟩);go_ret;rw[HX.out];exact⟨rfl,au⟩
  case neg =>
   have HX:=zh (show ff c (n+1) t=dY ((cT t).1.map (gm c (ff c n))) by rw[ff,if_neg (by simp[h0]),if_neg ho]);generalize ff c (n+1) t=GN at *;rw[hi2] at HI;generalize (cT t).1=l at *;have PA:eM t=false∨(eM t=true∧c.par=true):=by cases h1:eM t<;>cases h2:c.par<;>simp_all
   clear ho h0 hi2;generalize eM t=O at *;obtain⟨pl,cl,rfl,hlc,hlm,_⟩:=hl.shape;obtain⟨pn,cn,rfl,_⟩:=hn.shape;unfold maxLen at hlm;have vlt:=zh hl;clear hl hn;rcases PA with rfl|⟨rfl,N2⟩
   all_goals
    try rw[N2]
    go_enter Tryz.func68,Tryz.ntmps68;go_wp2_with (first
     | (go_at_call 127;refine(HI _).mono ?_;clear HI;rintro e w2 ⟨vi,rfl,vk3,aC⟩;obtain⟨p3,c3,rfl⟩:=vk3.sh)
     | (go_at_call 34;refine HO.mono ?_;clear HO;rintro e w1 ⟨rfl,au⟩))
    have yS:=au.trans (af aC au.size);clear au aC;go_loopw [13] (λa wx=>∃i:Nat,i≤l.length∧a=.int .i64 i∧Below w.heap.size w wx∧Strs wx (.slice p3 l.length c3) l∧Hid (dY (l.map (gm c (ff c n)))=dY ((l.drop i).map (gm c (ff c n))))) (λa _=>l.length - (intOf a).toNat)
    case atStart=>exact⟨0,Nat.zero_le _,by go_num,yS,vk3,rfl⟩
    case round =>
     clear yS vk3;obtain⟨i,hi,rfl,hb,yT,hE⟩:=hrel
     by_cases hlt:i<l.length
     case neg=>
      have HY:=zh (show GN=0 by rw[HX.out,hE.out,List.drop_eq_nil_of_le (by omega)];rfl);clear hE;go_wp2_with fail;go_ret;rw[HY.out];exact⟨rfl,hb⟩
     case pos =>
      obtain⟨u,F1⟩:∃u,l[i]? =some u:=⟨_,List.getElem?_eq_getElem hlt⟩
      obtain⟨SF,Cd,huv⟩:=NO u (List.mem_of_getElem? F1);have Cd:u.length≤maxLen:=Nat.le_trans Cd (by decide);obtain⟨b1,o1,rfl,pc⟩:=yT.at F1;have hd:=hE.out;rw[bp F1,List.map_cons] at hd;clear hE F1 NO;have HK:=va8 u Cd wr
      by_cases uX:(aq u).2.k=7
      case neg=>
       have g1:(((aq u).2.k:Int) != 7)=true:=by rw[bne_iff_ne];omega
       have g2:¬(((aq u).2.k:Int)=7):=by omega
       have HY:=zh (hd.trans (jl (Cp uX)));clear uX hd;go_wp2_with (go_at_call 128;refine HK.mono ?_;clear HK;rintro e w1 ⟨rfl,au⟩;have bL:=hb.trans (af au hb.size);have hS1:=yT.below au zr;have pG:=Below.keep au pc);exact⟨⟨i+1,hlt,by go_num,bL,hS1,HY⟩,by simp only[intOf];omega⟩
      case pos =>
       obtain⟨_,hal,DM,_,hac,_⟩:=sU SF uX;rw[uX] at HK;have AP:=λW=>vc0 u Cd W
       have uJ:=λW=>vbp u Cd W
       have QA:=λW (hW:Below w.heap.size w W)=>vdr c.dG (eH u).1 _ W (HV.out W hW)
       rcases xC (vag (eH u).1) c.dG 0 with⟨R8,hq⟩|⟨fi,f,R8,hq,hfi⟩
       · rw[vai] at hq
         have HY:=zh (hd.trans ((gG (by rw[rF uX hq];decide)).trans (rF uX hq)));rw[R8] at QA;clear hd R8 hq;go_wp2_with (first
          | (go_at_call 95;refine(QA _ dx).mono ?_;clear QA;rintro e w4 ⟨rfl,hb4⟩;have eD:=dx.trans (af hb4 dx.size);have uV:=wV.below hb4 zr)
          | (go_at_call 130;refine(uJ _).mono ?_;clear uJ;rintro e w3 ⟨rfl,aH⟩;have dx:=cD.trans (af aH cD.size);have wV:=nG.below aH zr)
          | (go_at_call 129;refine(AP _).mono ?_;clear AP;rintro e w2 ⟨rfl,aC⟩;have cD:=bL.trans (af aC bL.size);have nG:=hS1.below aC zr;have od:=Below.keep aC pG)
          | (go_at_call 128;refine HK.mono ?_;clear HK;rintro e w1 ⟨rfl,au⟩;have bL:=hb.trans (af au hb.size);have hS1:=yT.below au zr;have pG:=Below.keep au pc))
         go_ret;rw[HX.out,HY.out];exact⟨rfl,eD⟩
       · rw [vai] at hq
         rw[R8,Nat.zero_add] at QA;have hfo:=iw.1 f (List.mem_of_getElem? hfi);have hfl:fi<c.dG.length:=(List.getElem?_eq_some_iff.1 hfi).1;obtain⟨bf,of,Uz,UA,rfl,_,_,Nj,vjf,_,e1,e2,e3,_⟩:=vlt.out.at hfi;obtain⟨po,co,rfl,_⟩:=Nj.shape;clear R8 hfi vjf;have g0:¬((fi:Int)<0):=by omega
         by_cases h3:f.kind=3
         case neg=>
          have HY:=zh (hd.trans ((gG (by rw[iG uX hq (λh=>h3 h.1)];decide)).trans (iG uX hq (λh=>h3 h.1))));have g1:((f.kind:Int) != 3)=true:=by rw[bne_iff_ne];omega
          have g2:¬((f.kind:Int)=3):=by omega
          clear hq hd h3 Nj hfo;go_wp2_with (first
           | (go_at_call 95;refine(QA _ dx).mono ?_;clear QA;rintro e w4 ⟨rfl,hb4⟩;have eD:=dx.trans (af hb4 dx.size);have uV:=wV.below hb4 zr;have vhp:=Below.keep eD e1;have Jz:=Below.keep eD e2;have ML:=Below.keep eD e3)
               | (go_at_call 130;refine(uJ _).mono ?_;clear uJ;rintro e w3 ⟨rfl,aH⟩;have dx:=cD.trans (af aH cD.size);have wV:=nG.below aH zr)
               | (go_at_call 129;refine(AP _).mono ?_;clear AP;rintro e w2 ⟨rfl,aC⟩;have cD:=bL.trans (af aC bL.size);have nG:=hS1.below aC zr;have od:=Below.keep aC pG)
               | (go_at_call 128;refine HK.mono ?_;clear HK;rintro e w1 ⟨rfl,au⟩;have bL:=hb.trans (af au hb.size);have hS1:=yT.below au zr;have pG:=Below.keep au pc))
          go_ret;rw[HX.out,HY.out];exact⟨rfl,eD⟩
         case pos =>
          rw[h3] at e1;rcases hha:(bQ u).2.1 with _|_<;>rcases mV:f.par with _|_
          · have HY:=zh (hd.trans (jl (zZ uX hq h3 mV hha)))
            rw[hha] at uJ;rw[mV] at e2;clear hq hd Nj hfo hha mV hac;go_wp2_with (first
             | (go_at_call 95;refine(QA _ dx).mono ?_;clear QA;rintro e w4 ⟨rfl,hb4⟩;have eD:=dx.trans (af hb4 dx.size);have uV:=wV.below hb4 zr;have vhp:=Below.keep eD e1;have Jz:=Below.keep eD e2;have ML:=Below.keep eD e3)
              | (go_at_call 130;refine(uJ _).mono ?_;clear uJ;rintro e w3 ⟨rfl,aH⟩;have dx:=cD.trans (af aH cD.size);have wV:=nG.below aH zr)
              | (go_at_call 129;refine(AP _).mono ?_;clear AP;rintro e w2 ⟨rfl,aC⟩;have cD:=bL.trans (af aC bL.size);have nG:=hS1.below aC zr;have od:=Below.keep aC pG)
              | (go_at_call 128;refine HK.mono ?_;clear HK;rintro e w1 ⟨rfl,au⟩;have bL:=hb.trans (af au hb.size);have hS1:=yT.below au zr;have pG:=Below.keep au pc))
            exact⟨⟨i+1,hlt,by go_num,eD,uV,HY⟩,by simp only[intOf];omega⟩
          · have HY:=zh (hd.trans ((gG (by rw[iG uX hq (λh=>by rw[hha,mV] at h;simp at h)];decide)).trans (iG uX hq (λh=>by rw[hha,mV] at h;simp at h))))
            rw[hha] at uJ;rw[mV] at e2;clear hq hd Nj hfo hha mV hac;go_wp2_with (first
             | (go_at_call 95;refine(QA _ dx).mono ?_;clear QA;rintro e w4 ⟨rfl,hb4⟩;have eD:=dx.trans (af hb4 dx.size);have uV:=wV.below hb4 zr;have vhp:=Below.keep eD e1;have Jz:=Below.keep eD e2;have ML:=Below.keep eD e3)
              | (go_at_call 130;refine(uJ _).mono ?_;clear uJ;rintro e w3 ⟨rfl,aH⟩;have dx:=cD.trans (af aH cD.size);have wV:=nG.below aH zr)
              | (go_at_call 129;refine(AP _).mono ?_;clear AP;rintro e w2 ⟨rfl,aC⟩;have cD:=bL.trans (af aC bL.size);have nG:=hS1.below aC zr;have od:=Below.keep aC pG)
              | (go_at_call 128;refine HK.mono ?_;clear HK;rintro e w1 ⟨rfl,au⟩;have bL:=hb.trans (af au hb.size);have hS1:=yT.below au zr;have pG:=Below.keep au pc))
            go_ret;rw[HX.out,HY.out];exact⟨rfl,eD⟩
          · have HY:=zh (hd.trans ((gG (by rw[iG uX hq (λh=>by rw[hha,mV] at h;simp at h)];decide)).trans (iG uX hq (λh=>by rw[hha,mV] at h;simp at h))))
            rw[hha] at uJ;rw[mV] at e2;clear hq hd Nj hfo hha mV hac;go_wp2_with (first
             | (go_at_call 95;refine(QA _ dx).mono ?_;clear QA;rintro e w4 ⟨rfl,hb4⟩;have eD:=dx.trans (af hb4 dx.size);have uV:=wV.below hb4 zr;have vhp:=Below.keep eD e1;have Jz:=Below.keep eD e2;have ML:=Below.keep eD e3)
              | (go_at_call 130;refine(uJ _).mono ?_;clear uJ;rintro e w3 ⟨rfl,aH⟩;have dx:=cD.trans (af aH cD.size);have wV:=nG.below aH zr)
              | (go_at_call 129;refine(AP _).mono ?_;clear AP;rintro e w2 ⟨rfl,aC⟩;have cD:=bL.trans (af aC bL.size);have nG:=hS1.below aC zr;have od:=Below.keep aC pG)
              | (go_at_call 128;refine HK.mono ?_;clear HK;rintro e w1 ⟨rfl,au⟩;have bL:=hb.trans (af au hb.size);have hS1:=yT.below au zr;have pG:=Below.keep au pc))
            go_ret;rw[HX.out,HY.out];exact⟨rfl,eD⟩
          · obtain⟨ha0,vj4,vj3⟩:=hac hha
            have PI:jy (bQ u).1<n:=by omega
            obtain⟨k0,rfl⟩:∃k0,n=k0+1:=⟨n - 1,by omega⟩
            have vld:∀o∈f.ag,o.sig.args.length≤100000:=λo ho=>Nat.le_trans ((ec (dQ hfo).2.2.2.1).2 o ho).1 (by decide)
            have vX:=λW (hW:Below w.heap.size w W)=>ve8 c k0 hG iw _ _ _ f.ag (bQ u).1 W (HV.out W hW) (vjl.out W hW) (Nj.below hW zr) vld ha0 vj4 PI
            try simp only[N2] at vX
            have hfit:=Co (n:=k0+1) uX hq h3 mV hha;rw[veu ha0 (EG c _ iw.1 iw.2)] at hfit;rw[hha] at uJ;rw[mV] at e2;clear hq Nj hfo hha mV hac ha0 vj4 vj3 PI vld;generalize vbh c (k0+1) f.ag (bQ u).1=vow at *;rcases vow with _|y
            · have HY:=zh (hd.trans (jl (hfit.trans (if_pos rfl))))
              clear hd hfit;go_wp2_with (first
               | (go_at_call 131;refine(vX _ eD).mono ?_;clear vX;rintro e w5 ⟨rfl,eT⟩;have kH:=eD.trans (af eT eD.size);have BR:=uV.below eT zr)
               | (go_at_call 95;refine(QA _ dx).mono ?_;clear QA;rintro e w4 ⟨rfl,hb4⟩;have eD:=dx.trans (af hb4 dx.size);have uV:=wV.below hb4 zr;have vhp:=Below.keep eD e1;have Jz:=Below.keep eD e2;have ML:=Below.keep eD e3)
               | (go_at_call 130;refine(uJ _).mono ?_;clear uJ;rintro e w3 ⟨rfl,aH⟩;have dx:=cD.trans (af aH cD.size);have wV:=nG.below aH zr)
               | (go_at_call 129;refine(AP _).mono ?_;clear AP;rintro e w2 ⟨rfl,aC⟩;have cD:=bL.trans (af aC bL.size);have nG:=hS1.below aC zr;have od:=Below.keep aC pG)
               | (go_at_call 128;refine HK.mono ?_;clear HK;rintro e w1 ⟨rfl,au⟩;have bL:=hb.trans (af au hb.size);have hS1:=yT.below au zr;have pG:=Below.keep au pc))
              exact⟨⟨i+1,hlt,by go_num,kH,BR,HY⟩,by simp only[intOf];omega⟩
            · have HZ:=hfit.trans (if_neg (by simp))
              have HY:=zh (hd.trans ((gG (by rw[HZ];decide)).trans HZ));clear hd hfit HZ;go_wp2_with (first
               | (go_at_call 131;refine(vX _ eD).mono ?_;clear vX;rintro e w5 ⟨rfl,eT⟩;have kH:=eD.trans (af eT eD.size);have BR:=uV.below eT zr)
               | (go_at_call 95;refine(QA _ dx).mono ?_;clear QA;rintro e w4 ⟨rfl,hb4⟩;have eD:=dx.trans (af hb4 dx.size);have uV:=wV.below hb4 zr;have vhp:=Below.keep eD e1;have Jz:=Below.keep eD e2;have ML:=Below.keep eD e3)
               | (go_at_call 130;refine(uJ _).mono ?_;clear uJ;rintro e w3 ⟨rfl,aH⟩;have dx:=cD.trans (af aH cD.size);have wV:=nG.below aH zr)
               | (go_at_call 129;refine(AP _).mono ?_;clear AP;rintro e w2 ⟨rfl,aC⟩;have cD:=bL.trans (af aC bL.size);have nG:=hS1.below aC zr;have od:=Below.keep aC pG)
               | (go_at_call 128;refine HK.mono ?_;clear HK;rintro e w1 ⟨rfl,au⟩;have bL:=hb.trans (af au hb.size);have hS1:=yT.below au zr;have pG:=Below.keep au pc))
              go_ret;rw[HX.out,HY.out];exact⟨rfl,kH⟩
theorem vbf (c:bw) (iw:vap c):∀n,vbx c n
 | 0=>λ_ _ _ _ _ _ _ _ _ h=>absurd h (Nat.not_lt_zero _)
 | n+1=>vda c n (vbf c iw n) iw
theorem vc2 {D D':Nat→Prop} (c:bw) (iw:vap c) (lv nv:Value) (t:List UInt8) (w:World) (hl:bG D w lv c.dG) (hn:aY D' w nv c.ag) (htl:t.length≤maxLen):
 Calls Tryz.prog 68 #[lv,nv,.bool c.par,str t] w λe w'=>e=.returned (.int .i64 (dz c t))∧Below w.heap.size w w':=
 vbf c iw 7 D D' lv nv t w hl hn htl (by have:=uf t;omega)
theorem vdw {l:List aA} {ag:List aL} {par:Bool} (h:cE l ag=0):vap ⟨l,ag,par⟩:=by
 unfold cE at h
 split at h
 · rename_i h1;exact absurd h h1
 · rename_i h1
   split at h
   · rename_i h2
     exact⟨(iE l 0 none (uP (by simpa using h1)).1).2.1,h2⟩
   · cases h
theorem vdc {D:Nat→Prop} (ag:List aL) (v:Value) (t:List UInt8) (w:World) (hv:aY D w v ag) (htl:t.length≤maxLen):
 Calls Tryz.prog 69 #[v,str t] w λe w'=>e=.returned (.bool (fP ag t))∧Below w.heap.size w w':=by
 have HO:=CL t htl w
 obtain⟨q,cq,rfl,_,hm,_⟩:=hv.shape
 unfold maxLen at hm
 by_cases h:0<ag.length
 · have HX:=zh (show fP ag t=true by unfold fP;rw[decide_eq_true h];rfl)
   have g:(0:Int)<(ag.length:Int):=by omega
   go_enter Tryz.func69,Tryz.ntmps69;go_wp2_with (go_at_call 34;refine HO.mono ?_;clear HO;rintro e w1 ⟨rfl,au⟩);go_ret;rw[HX.out];exact⟨rfl,au⟩
 · have HX:=zh (show fP ag t=eM t by unfold fP;rw[decide_eq_false h];rfl)
   obtain rfl:ag=[]:=List.length_eq_zero_iff.1 (by omega);go_enter Tryz.func69,Tryz.ntmps69;go_wp2_with (go_at_call 34;refine HO.mono ?_;clear HO;rintro e w1 ⟨rfl,au⟩);go_ret;rw[HX.out];exact⟨rfl,au⟩
def vhd (l:List aA):Prop:=∀(D:Nat→Prop) (v:Value) (w:World),bG D w v l→Calls Tryz.prog 41 #[v] w λe w'=>e=.returned (.tuple #[.int .i64 (kS l).1,.int .i64 (kS l).2])∧Below w.heap.size w w'
theorem vd8 {D D':Nat→Prop} (l:List aA) (hA:vhd l) (v:Value) (ag:List aL) (wv:Value) (w:World) (hv:bG D w v l) (hw:aY D' w wv ag):
 Calls Tryz.prog 60 #[v,wv] w λe w'=>e=.returned (.int .i64 (cE l ag))∧Below w.heap.size w w':=by
 have HA:=hA D v w hv
 have HN:=λW (hW:Below w.heap.size w W)=>lD ag wv W (hw.below hW zr)
 obtain⟨p,c,rfl,_⟩:=hv.shape
 obtain⟨q,cq,rfl,_⟩:=hw.shape
 have Fx:cE l ag=if(kS l).2≠0 then(kS l).2 else if aU ag=true then 0 else 42:=rfl
 generalize cE l ag=AS at *
 generalize (kS l).1=A1 at *
 generalize (kS l).2=voi at *
 generalize aU ag=NK at *
 clear hv hw hA
 by_cases h:voi=0
 · subst h
   cases NK
   all_goals
    have HX:=zh Fx;clear Fx;go_enter Tryz.func60,Tryz.ntmps60;go_wp2_with (first
     | (go_at_call 80;refine(HN _ au).mono ?_;clear HN;rintro e w2 ⟨rfl,aC⟩)
     | (go_at_call 41;refine HA.mono ?_;clear HA;rintro e w1 ⟨rfl,au⟩))
    go_ret;rw[HX.out];exact⟨by simp,au.trans (af aC au.size)⟩
 · have HX:=zh (Fx.trans (if_pos h))
   have g1:((voi:Int)==0)=false:=by rw[beq_eq_false_iff_ne];omega
   have g2:¬((voi:Int)=0):=by omega
   clear Fx;go_enter Tryz.func60,Tryz.ntmps60;go_wp2_with (go_at_call 41;refine HA.mono ?_;clear HA;rintro e w1 ⟨rfl,au⟩);go_ret;rw[HX.out];exact⟨rfl,au⟩
