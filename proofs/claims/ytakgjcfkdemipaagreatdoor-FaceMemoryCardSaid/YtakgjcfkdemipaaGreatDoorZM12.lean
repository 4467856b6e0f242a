/-
  Lemmas: the law FaceMemory answers true. Conditions: bounds of lengths; the variable strings.asciiSpace.
-/
import Derived.Test.YtakgjcfkdemipaaGreatDoorZB33
import Derived.Test.YtakgjcfkdemipaaGreatDoorZBn
import Derived.Test.YtakgjcfkdemipaaGreatDoorZM10
import Derived.Test.YtakgjcfkdemipaaGreatDoorZM11
set_option maxHeartbeats 25600000
namespace Go.Proofs.YtakgjcfkdemipaaGreatDoor
open Go Go.RowKit
theorem vcv {l:List aA} (h:pQ l=true):∀f∈l,f.ag.length≤100000:=λf hf=>by
 rw[LZ,Bool.and_eq_true,List.all_eq_true] at h
 have h1:=h.1 f hf
 unfold jk qQ iD at h1
 simp only[Bool.and_eq_true,decide_eq_true_eq] at h1
 omega
set_option maxRecDepth 8000 in
theorem vd4 (l : List aA) (ag : List aL) (t n : List UInt8) (lv nv : Value) (w : World) (hT : dW w) (hl : bG Any w lv l) (hn : aY Any w nv ag) (htl : t.length ≤ maxLen) (hnl : n.length ≤ maxLen) :
 Calls Tryz.prog 10 #[lv,nv,str t,str n] w λe w'=>e=.returned (.bool true)∧Below w.heap.size w w':=by
 obtain⟨vpz,lc,rfl,_⟩:=hl.shape
 obtain⟨np,vq1,rfl,_⟩:=hn.shape
 have hA:=Below.refl w.heap.size w
 have HT:=zh (λW (hW:Below w.heap.size w W)=>hT.below hW zr)
 have HS:=λW hW=>JW W (HT.out W hW)
 have HF:=λW (hW:Below w.heap.size w W)=>Ll l _ W (hl.below hW zr)
 have H1:=λW (hW:Below w.heap.size w W)=>xP ag _ W (hn.below hW zr)
 have vox:=λW=>gI [t,n] (.slice (some ⟨W.heap.size,0,none⟩) 2 2) (W.alloc (.cells #[str t,str n] 9)) (Bu (D:=Any) W W.heap.size rfl trivial [t,n] (by simp[maxLen]) (by intro s hs;simp only[List.mem_cons,List.not_mem_nil,or_false] at hs;rcases hs with rfl|rfl<;>assumption) 9)
 rcases q1:pQ l with _|_
 · rw[q1] at HF
   clear H1 vox q1 hl hn;go_enter Tryz.func10,Tryz.ntmps10;go_wp2_with (first
    | (go_at_call 18;refine(HS w1 B1).mono ?_;rintro e w99 ⟨rfl,vf0⟩)
    | (go_at_call 15;refine(HF w hA).mono ?_;clear HF;rintro e w1 ⟨rfl,au⟩;have B1:=hA.trans au))
   go_ret;exact⟨rfl,B1.trans (af vf0 B1.size)⟩
 rw[q1] at HF
 rcases q2:iD ag with _|_
 · rw[q2] at H1
   clear vox q1 q2 hl hn;go_enter Tryz.func10,Tryz.ntmps10;go_wp2_with (first
    | (go_at_call 18;refine(HS w2 B2).mono ?_;rintro e w99 ⟨rfl,vf0⟩)
    | (go_at_call 16;refine(H1 w1 B1).mono ?_;clear H1;rintro e w2 ⟨rfl,aC⟩;have B2:=B1.trans (af aC B1.size))
    | (go_at_call 15;refine(HF w hA).mono ?_;clear HF;rintro e w1 ⟨rfl,au⟩;have B1:=hA.trans au))
   go_ret;exact⟨rfl,B2.trans (af vf0 B2.size)⟩
 rw[q2] at H1
 have hfn:=vcv q1
 have hne:ag.length≤6:=by unfold iD at q2;simp only[Bool.and_eq_true,decide_eq_true_eq] at q2;exact q2.2
 clear q1 q2
 rcases q9:ef [t,n] with _|_
 · rw[q9] at vox
   clear q9 hl hn hfn hne;go_enter Tryz.func10,Tryz.ntmps10;go_wp2_with (first
    | (go_at_call 18;refine(HS w3 B3).mono ?_;rintro e w99 ⟨rfl,vf0⟩)
    | (go_at_call 17;refine(vox w2).mono ?_;clear vox;rintro e w3 ⟨rfl,aH⟩;have B3:=(B2.alloc B2.size (.cells #[str t,str n] 9)).trans (af aH (B2.alloc B2.size (.cells #[str t,str n] 9)).size))
    | (go_at_call 16;refine(H1 w1 B1).mono ?_;clear H1;rintro e w2 ⟨rfl,aC⟩;have B2:=B1.trans (af aC B1.size))
    | (go_at_call 15;refine(HF w hA).mono ?_;clear HF;rintro e w1 ⟨rfl,au⟩;have B1:=hA.trans au))
   go_ret;exact⟨rfl,B3.trans (af vf0 B3.size)⟩
 rw[q9] at vox
 clear q9
 have vom:=λW (hW:Below w.heap.size w W)=>Ae l _ ag _ t W (HT.out W hW) (hl.below hW zr) (hn.below hW zr) hfn (by omega) htl
 have von:=λW (hW:Below w.heap.size w W)=>vdb l ag _ _ t W (hl.below hW zr) (hn.below hW zr) htl
 have voo:=λW (hW:Below w.heap.size w W)=>vcw l _ n W (HT.out W hW) (hl.below hW zr) hfn hnl
 have vop:=λW (hW:Below w.heap.size w W)=>Az l _ ag _ n t W (HT.out W hW) (hl.below hW zr) (hn.below hW zr) hfn (by omega) htl hnl
 clear hl hn hfn hne
 generalize jA l ag t=Y at vom von
 generalize vbm l n=X at voo
 generalize lF l ag n t=Z at vop
 go_enter Tryz.func10,Tryz.ntmps10
 go_wp2_with (first
  | (go_at_call 27;refine(vop _ B6).mono ?_;clear vop;rintro e w6 ⟨u,rfl,⟨vnl,vod,rfl,vo2,vkv,vlo⟩,jJ⟩;obtain⟨p6,c6,rfl,_⟩:=vkv.shape;obtain⟨q6,d6,rfl,_⟩:=vlo.shape;have B7:=B6.trans (af jJ B6.size);have B8:=B7.alloc B7.size (.cells #[.bool Z.1.iter,.slice p6 Z.1.args.length c6,str Z.1.res,.slice q6 Z.1.sigs.length d6] 36);have voy:=aD (.cells #[.bool Z.1.iter,.slice p6 Z.1.args.length c6,str Z.1.res,.slice q6 Z.1.sigs.length d6] 36) (ah (heap_alloc_new w5 (.cells #[str X.1.name,.int .u8 X.1.kind,.bool X.1.par,.slice vq6 X.1.ag.length c5,.slice q5 X.1.ops.length d5] 58)) jJ);have K6:=heap_alloc_new w6 (.cells #[.bool Z.1.iter,.slice p6 Z.1.args.length c6,str Z.1.res,.slice q6 Z.1.sigs.length d6] 36))
  | (go_at_call 42;refine(voo _ B4).mono ?_;clear voo;rintro e w5 ⟨u,rfl,⟨vnk,voc,rfl,vo1,vlp,vku,vlm⟩,eT⟩;obtain⟨vq6,c5,rfl,_⟩:=vlp.shape;obtain⟨q5,d5,rfl,_⟩:=vku.shape;have B5:=B4.trans (af eT B4.size);have B6:=B5.alloc B5.size (.cells #[str X.1.name,.int .u8 X.1.kind,.bool X.1.par,.slice vq6 X.1.ag.length c5,.slice q5 X.1.ops.length d5] 58);have vot:=(zb w5).alloc zr (.cells #[str X.1.name,.int .u8 X.1.kind,.bool X.1.par,.slice vq6 X.1.ag.length c5,.slice q5 X.1.ops.length d5] 58))
  | (go_at_call 21;refine(vom _ B3).mono ?_;rintro e w4 ⟨u4,rfl,vp8,hb4⟩;obtain⟨q4,s4,rfl⟩:=vp8.shape;have B4:=B3.trans (af hb4 B3.size))
  | (go_at_call 17;refine(vox w2).mono ?_;clear vox;rintro e w3 ⟨rfl,aH⟩;have B3:=(B2.alloc B2.size (.cells #[str t,str n] 9)).trans (af aH (B2.alloc B2.size (.cells #[str t,str n] 9)).size))
  | (go_at_call 16;refine(H1 w1 B1).mono ?_;clear H1;rintro e w2 ⟨rfl,aC⟩;have B2:=B1.trans (af aC B1.size))
  | (go_at_call 15;refine(HF w hA).mono ?_;clear HF;rintro e w1 ⟨rfl,au⟩;have B1:=hA.trans au))
 obtain⟨_,vn0,vpe⟩:=vp8.vjc
 obtain⟨_,vn1,vpn⟩:=vku.vcu vlm
 obtain⟨_,vn2,vpo⟩:=jh.vcu vkv
 have vou:=(zb w6).alloc zr (.cells #[.bool Z.1.iter,.slice p6 Z.1.args.length c6,str Z.1.res,.slice q6 Z.1.sigs.length d6] 36)
 have vog:=hb4.size
 have z45:=eT.size
 have voh:w5.heap.size<w6.heap.size:=by have:=jJ.size;simp only[World.size_alloc] at this;omega
 have z3:=B3.size
 have r4:=((((vpe.below eT zr).below vot zr).below jJ zr).below vou zr)
 have t5:=((((vpn.mono (D':=λb=>w4.heap.size≤b∧b<w5.heap.size) λb h1 h2=>⟨h1,h2⟩).below vot zr).below jJ zr).below vou zr)
 have t6:=(vpo.mono (D':=λb=>w5.heap.size<b∧b<w6.heap.size) λb h1 h2=>⟨by simp only[World.size_alloc] at h1;omega,h2⟩).below vou zr
 clear vpe vpn vpo vp8 vlp vku vlm vkv vlo vot vou au aC aH hb4 eT jJ B4 B5 B6 B7
 generalize w6.alloc (.cells #[.bool Z.1.iter,.slice p6 Z.1.args.length c6,str Z.1.res,.slice q6 Z.1.sigs.length d6] 36)=w8 at *
 generalize w6.heap.size=vpl at *
 generalize w5.heap.size=vpk at *
 generalize w4.heap.size=vpj at *
 generalize w3.heap.size=vpi at *
 unfold maxLen at vn0 vn1 vn2
 go_loopw [15] (λy wx=>∃i:Nat,i≤Y.1.length∧y=.int .i64 i∧Below w.heap.size w wx∧vak vpi vpj wx q4 Y.1.length i∧vaz vpj w8 wx) (λy _=>Y.1.length - (intOf y).toNat)
 case atStart=>exact⟨0,Nat.zero_le _,by go_num,B8,r4,vaz.refl _ _⟩
 case round =>
  obtain⟨i,hi,rfl,hb,hr,hk⟩:=hrel
  by_cases hlt:i<Y.1.length
  case pos=>
   obtain⟨g,rfl,hg1,hg2,hg3,p,m,c,hm,hc,hx⟩:=hr i zr hlt;have N9:=hr.next
   have hil:(i:Int)<(Y.1.length:Int):=by omega
   unfold maxLen at hm;clear hr r4 t5 t6 voy K6;go_wp2_with fail;go_loopw [16] (λy wx=>∃k:Nat,k≤m∧y=.int .i64 k∧Below w.heap.size w wx∧vak vpi vpj wx (some ⟨g,0,none⟩) Y.1.length (i+1)∧vaz vpj w8 wx∧Room wx g (Y.1.length * 5)∧wx.cell? ⟨g,i * 5+2,none⟩=some (.slice p m c)∧vaq (λb=>vpi≤b∧b≠g∧b<vpj) wx p m) (λy _=>m - (intOf y).toNat)
   case atStart=>exact⟨0,Nat.zero_le _,by go_num,hb,N9,hk,hg3,hc,hx⟩
   case round=>
    clear hb N9 hk hg3 hc hx;obtain⟨k,hkm,rfl,hb,N9,hk,hg3,hc,hx⟩:=hrel
    by_cases hlk:k<m
    case pos=>
     rcases hx with rfl|⟨b,o,rfl,⟨au,aC,aH⟩,hx⟩
     · omega
     obtain⟨⟨u0,SF⟩,vgk⟩:=hx.at (i:=o+k) (by omega);have NU:(k:Int)<(m:Int):=by omega
     go_wp2_with fail;exact⟨⟨k+1,hlk,by go_num,hb.setCell (p:=⟨b,o+k,none⟩) (by simp only;omega) _,N9.set (λg' e=>by cases e;exact .inl aC) _,hk.set (by omega) _,hg3.set _ _,by rw[vbb _ _ (.inl (Ne.symm aC))];exact hc,.inr ⟨b,o,rfl,⟨au,aC,aH⟩,hx.set _ _⟩⟩,by simp only[intOf];omega⟩
    case neg=>
     obtain rfl:k=m:=by omega
     obtain⟨⟨u0,a0⟩,f0⟩:=hg3.at (i:=i * 5) (by omega);obtain⟨⟨u1,a1⟩,f1⟩:=hg3.at (i:=i * 5+1) (by omega);obtain⟨_,f2⟩:=hg3.at (i:=i * 5+2) (by omega);obtain⟨⟨u3,a3⟩,f3⟩:=hg3.at (i:=i * 5+3) (by omega);obtain⟨⟨u4,a4⟩,f4⟩:=hg3.at (i:=i * 5+4) (by omega);go_wp2_with fail;have hs:=λo (ho:o<(i+1) * 5) (W:World) (h:vak vpi vpj W (some ⟨g,0,none⟩) Y.1.length (i+1)) u=>h.set (b:=g) (o:=o) (λg' e=>.inr λj hj=>by omega) u
     refine⟨⟨i+1,hlt,by go_num,?_,?_,?_⟩,by simp only[intOf];omega⟩
     · exact((((hb.setCell (p:=⟨g,i * 5,none⟩) (by simp only;omega) _).setCell (p:=⟨g,i * 5+1,none⟩) (by simp only;omega) _).setCell (p:=⟨g,i * 5+2,none⟩) (by simp only;omega) _).setCell (p:=⟨g,i * 5+3,none⟩) (by simp only;omega) _).setCell (p:=⟨g,i * 5+4,none⟩) (by simp only;omega) _
     · exact hs _ (by omega) _ (hs _ (by omega) _ (hs _ (by omega) _ (hs _ (by omega) _ (hs _ (by omega) _ N9 _) _) _) _) _
     · exact((((hk.set hg2 _).set hg2 _).set hg2 _).set hg2 _).set hg2 _
  case neg =>
   obtain rfl:i=Y.1.length:=by omega
   have k5:=(hk.2 vpk (by omega)).trans voy;have k6:=(hk.2 vpl (by omega)).trans K6;have t5:=hk.vcu (λb h=>h.1) t5;have t6:=hk.vcu (λb h=>by omega) t6;clear hr r4 hk voy K6;go_wp2_with fail;generalize wr=w9 at *;go_loopw [17] (λy wx=>∃i:Nat,i≤X.1.ops.length∧y=.int .i64 i∧Below w.heap.size w wx∧vaq (λb=>vpj≤b∧b<vpk) wx q5 (X.1.ops.length * 5)∧vaz vpk w9 wx) (λy _=>X.1.ops.length - (intOf y).toNat)
   case atStart=>exact⟨0,Nat.zero_le _,by go_num,hb,t5,vaz.refl _ _⟩
   case round =>
    clear hb t5;obtain⟨i,hi,rfl,hb,hx,hk⟩:=hrel;have b5:=bz ((hk.2 vpk (by omega)).trans k5)
    by_cases hlt:i<X.1.ops.length
    case pos=>
     rcases hx with hx|⟨g,o,rfl,⟨hg1,hg2⟩,hg3⟩
     · omega
     have hil:(i:Int)<(X.1.ops.length:Int):=by omega
     obtain⟨⟨u0,a0⟩,f0⟩:=hg3.at (i:=o+i * 5) (by omega);obtain⟨⟨u1,a1⟩,f1⟩:=hg3.at (i:=o+i * 5+1) (by omega);obtain⟨⟨u2,a2⟩,f2⟩:=hg3.at (i:=o+i * 5+2) (by omega);obtain⟨⟨u3,a3⟩,f3⟩:=hg3.at (i:=o+i * 5+3) (by omega);obtain⟨⟨u4,a4⟩,f4⟩:=hg3.at (i:=o+i * 5+4) (by omega);clear t6 k5 k6;go_wp2_with fail;refine⟨⟨i+1,hlt,by go_num,?_,.inr ⟨g,o,rfl,⟨hg1,hg2⟩,((((hg3.set _ _).set _ _).set _ _).set _ _).set _ _⟩,?_⟩,by simp only[intOf];omega⟩
     · exact((((hb.setCell (p:=⟨g,o+i * 5,none⟩) (by simp only;omega) _).setCell (p:=⟨g,o+i * 5+1,none⟩) (by simp only;omega) _).setCell (p:=⟨g,o+i * 5+2,none⟩) (by simp only;omega) _).setCell (p:=⟨g,o+i * 5+3,none⟩) (by simp only;omega) _).setCell (p:=⟨g,o+i * 5+4,none⟩) (by simp only;omega) _
     · exact((((hk.set hg2 _).set hg2 _).set hg2 _).set hg2 _).set hg2 _
    case neg=>
     obtain rfl:i=X.1.ops.length:=by omega
     have k6:=(hk.2 vpl (by omega)).trans k6;have t6:=hk.vcu (λb h=>by omega) t6;clear hk k5 hx;go_wp2_with fail;generalize wr=yY at *;go_loopw [18] (λy wx=>∃i:Nat,i≤Z.1.args.length∧y=.int .i64 i∧Below w.heap.size w wx∧vaq (λb=>vpk<b∧b<vpl) wx p6 Z.1.args.length∧vaz vpl yY wx) (λy _=>Z.1.args.length - (intOf y).toNat)
     case atStart=>exact⟨0,Nat.zero_le _,by go_num,hb,t6,vaz.refl _ _⟩
     case round=>
      clear hb t6 b5;obtain⟨i,hi,rfl,hb,hx,hk⟩:=hrel;have b6:=aN ((hk.2 vpl (by omega)).trans k6)
      by_cases hlt:i<Z.1.args.length
      case pos=>
       rcases hx with hx|⟨g,o,rfl,⟨hg1,hg2⟩,hg3⟩
       · omega
       have hil:(i:Int)<(Z.1.args.length:Int):=by omega
       obtain⟨⟨u0,a0⟩,f0⟩:=hg3.at (i:=o+i) (by omega);clear k6;go_wp2_with fail;exact⟨⟨i+1,hlt,by go_num,hb.setCell (p:=⟨g,o+i,none⟩) (by simp only;omega) _,.inr ⟨g,o,rfl,⟨hg1,hg2⟩,hg3.set _ _⟩,hk.set hg2 _⟩,by simp only[intOf];omega⟩
      case neg=>
       clear k6 hx hk;generalize wr=Mp at *;go_wp2_with (first
        | (go_at_call 25;refine(vci Y.1 Y.1 _ _ w14 vlz vm0).mono ?_;rintro e w15 ⟨he,vkb⟩;rw[decide_eq_true (rfl:Y.1=Y.1)] at he;subst he;have vlq:=vkw.trans (af vkb vkw.size))
        | (go_at_call 18;refine(HS _ Qv).mono ?_;rintro e w14 ⟨rfl,vh2⟩;have vkw:=Qv.trans (af vh2 Qv.size);have vlz:=(vhk.below NC zr).below vh2 zr;have vm0:=vhm.below vh2 zr)
        | (go_at_call 22;refine(von _ LD).mono ?_;clear von;rintro e w13 ⟨vof,rfl,vhm,NC⟩;obtain⟨vo9,vob,rfl,_⟩:=vhm.shape;have Qv:=LD.trans (af NC LD.size))
        | (go_at_call 21;refine(vom _ hb).mono ?_;clear vom;rintro e w12 ⟨voe,rfl,vhl,NB⟩;have vhk:=vhl.Ow.x9;obtain⟨vo8,voa,rfl,_⟩:=vhk.shape;clear vhl;have LD:=hb.trans (af NB hb.size)))
       go_ret;exact⟨by simp,vlq⟩
