/-
  Lemmas: the law FaceTexts answers true. Conditions: bounds of lengths; the variable strings.asciiSpace.
-/
import Derived.Test.YtakgjcfkdemipaaGreatDoorZB33
import Derived.Test.YtakgjcfkdemipaaGreatDoorZBn
import Derived.Test.YtakgjcfkdemipaaGreatDoorZT5
import Derived.Test.YtakgjcfkdemipaaGreatDoorZT11
import Derived.Test.YtakgjcfkdemipaaGreatDoorZT13
set_option maxHeartbeats 25600000
namespace Go.Proofs.YtakgjcfkdemipaaGreatDoor
open Go Go.RowKit
theorem vft {f:aA} (hf:dF f=true):(AX f).length≤100000:=by
 obtain⟨hnm,yX,hos⟩:=zv hf
 have hp:=vbj hf
 have h1:=lB (wd:=[104,97,115]) (by simp) f.ag yX
 have h2:=lB (wd:=[111,112]) (by simp) f.ops hos
 have h3:=Bc f.kind
 have h4:(if f.par=true then([91,116,93]:List UInt8) else []).length≤3:=by split<;>simp
 unfold FA at h3
 unfold AX
 simp only[List.length_append,List.length_cons,List.length_nil]
 have h5:=hp.2.2.2.2.2.1
 have h6:=hp.2.2.2.2.2.2.2
 omega
theorem vdv {f:aA} (hf:dF f=true):(va1 10 (Lib.trimSuffix (AX f) [10])).length≤1001:=by
 have hp:=vbj hf
 have hne:∃s,AX f=s++[10]:=by
  rw[vb8];unfold vau;have hq:∀l:List (List UInt8),l≠[]→∃s,l.flatMap (· ++[10])=s++[(10:UInt8)]:=λl hl=>by
   obtain⟨m,x,rfl⟩:∃m x,l=m++[x]:=⟨l.dropLast,l.getLast hl,(List.dropLast_concat_getLast hl).symm⟩
   exact⟨m.flatMap (· ++[10])++x,by simp⟩
  exact hq _ (by simp)
 obtain⟨s,hs⟩:=hne
 rw[hs,(vbm s 10).2,vcj _ (vcv hf) (by rw[←hs,vb8])]
 unfold vau
 simp only[List.length_cons,List.length_append,List.length_map]
 have h5:=hp.2.2.2.2.2.1
 have h6:=hp.2.2.2.2.2.2.2
 omega
theorem vcy {f:aA} (h:(su f).2=0):(su f).1.length≤100000∧(va1 10 (Lib.trimSuffix (su f).1 [10])).length≤1001∧vae vad (su f).1=(f,0):=by
 obtain⟨hf,e⟩:=vc4 h
 rw[e]
 refine⟨vft hf,vdv hf,?_⟩
 unfold vae
 rw[vcx hf,if_pos ⟨h,e⟩]
theorem vfl {s:List UInt8} (h:(vae vad s).2=0):su (vae vad s).1=(s,0):=by
 unfold vae at h ⊢
 split at h
 · rename_i hq
   rw[if_pos hq];exact Prod.ext hq.2 hq.1
 · cases h
theorem veu (s:List UInt8):(vae vad s).1.ag.length≤100000:=by
 unfold vae
 split
 · rename_i hq
   have:=(vbj (vc4 hq.1).1).2.2.2.2.2.1
   show(vad s).ag.length≤100000
   omega
 · exact Nat.zero_le _
theorem vef {l:List aA} (h:pQ l=true):∀f∈l,f.ag.length≤100000:=λf hf=>by
 rw[LZ,Bool.and_eq_true,List.all_eq_true] at h
 have h1:=h.1 f hf
 unfold jk qQ iD at h1
 simp only[Bool.and_eq_true,decide_eq_true_eq] at h1
 omega
set_option maxRecDepth 8000 in
theorem vea (f:aA) (s:List UInt8) (vf:Value) (w:World) (ht:dW w) (hm:vcl w) (hf:dO Any w vf f):
 Calls Tryz.prog 14 #[vf,str s] w λe w'=>e=.returned (.bool true)∧Below w.heap.size w w':=by
 obtain⟨fn,fk,fp,vma,vmb⟩:=f
 obtain⟨v1,v4,rfl,fl,f1,f4⟩:=hf
 dsimp only at fl f1 f4
 obtain⟨p1,c1,rfl,_⟩:=f1.shape
 obtain⟨p4,c4,rfl,_⟩:=f4.shape
 have hA:=(zb w).alloc zr (.cells #[str fn,.int .u8 fk,.bool fp,.slice p1 vma.length c1,.slice p4 vmb.length c4] 58)
 have k1:=heap_alloc_new w (.cells #[str fn,.int .u8 fk,.bool fp,.slice p1 vma.length c1,.slice p4 vmb.length c4] 58)
 have vl0:dO Any (w.alloc (.cells #[str fn,.int .u8 fk,.bool fp,.slice p1 vma.length c1,.slice p4 vmb.length c4] 58)) (.agg #[str fn,.int .u8 fk,.bool fp,.slice p1 vma.length c1,.slice p4 vmb.length c4]) ⟨fn,fk,fp,vma,vmb⟩:=⟨_,_,rfl,fl,f1.below hA zr,f4.below hA zr⟩
 have HT:=zh (λW (hW:Below w.heap.size w W)=>And.intro (ht.below hW zr) (hm.below hW))
 have vgq:=Ll [⟨fn,fk,fp,vma,vmb⟩] _ _ (wO (D:=Any) (w.alloc (.cells #[str fn,.int .u8 fk,.bool fp,.slice p1 vma.length c1,.slice p4 vmb.length c4] 58)) (w.heap.size+1) (by simp) trivial (l:=[⟨fn,fk,fp,vma,vmb⟩]) 58 (by simp[maxLen]) ⟨_,_,_,rfl,fl,f1.below hA zr,f4.below hA zr,rfl⟩)
 have b1:=bz k1
 have hD:=hA.alloc hA.size (.cells #[str fn,.int .u8 fk,.bool fp,.slice p1 vma.length c1,.slice p4 vmb.length c4] 58)
 rcases q0:pQ [⟨fn,fk,fp,vma,vmb⟩] with _|_
 · rw[q0] at vgq
   clear vl0 q0;go_enter Tryz.func14,Tryz.ntmps14;go_wp2_with (first
    | (go_at_call 18;refine(JW _ (HT.out w5 B5).1).mono ?_;rintro e w6 ⟨rfl,jJ⟩)
    | (go_at_call 15;refine vgq.mono ?_;clear vgq;rintro e w5 ⟨rfl,eT⟩;have B5:=hD.trans (af eT hD.size)))
   go_ret;exact⟨rfl,B5.trans (af jJ B5.size)⟩
 rw[q0] at vgq
 by_cases hs:s.length≤1000
 case neg=>
  have hs1:(1000:Int)<(s.length:Int):=by omega
  have hs2:decide ((1000:Int)<(s.length:Int))=true:=decide_eq_true hs1;clear vl0 q0;go_enter Tryz.func14,Tryz.ntmps14;go_wp2_with (first
   | (go_at_call 18;refine(JW _ (HT.out w5 B5).1).mono ?_;rintro e w6 ⟨rfl,jJ⟩)
   | (go_at_call 15;refine vgq.mono ?_;clear vgq;rintro e w5 ⟨rfl,eT⟩;have B5:=hD.trans (af eT hD.size)))
  go_ret;exact⟨rfl,B5.trans (af jJ B5.size)⟩
 have hs1:¬(1000:Int)<(s.length:Int):=by omega
 have hs2:decide ((1000:Int)<(s.length:Int))=false:=decide_eq_false hs1
 have fb:=vef q0 ⟨fn,fk,fp,vma,vmb⟩ (by simp)
 have PI:(va1 10 (Lib.trimSuffix s [10])).length≤1001:=by
  have h1:=vb4 10 (Lib.trimSuffix s [10]);have h2:=vao s [10];omega
 have HS:=λW' (hW:Below (w.alloc (.cells #[str fn,.int .u8 fk,.bool fp,.slice p1 vma.length c1,.slice p4 vmb.length c4] 58)).heap.size (w.alloc (.cells #[str fn,.int .u8 fk,.bool fp,.slice p1 vma.length c1,.slice p4 vmb.length c4] 58)) W')=>JW W' (HT.out W' (hA.trans (af hW hA.size))).1
 have vku:=λW' (hW:Below (w.alloc (.cells #[str fn,.int .u8 fk,.bool fp,.slice p1 vma.length c1,.slice p4 vmb.length c4] 58)).heap.size (w.alloc (.cells #[str fn,.int .u8 fk,.bool fp,.slice p1 vma.length c1,.slice p4 vmb.length c4] 58)) W')=>C1 _ _ W' (HT.out W' (hA.trans (af hW hA.size))).1 (vl0.below hW zr) fb
 have vkv:=λW' (hW:Below (w.alloc (.cells #[str fn,.int .u8 fk,.bool fp,.slice p1 vma.length c1,.slice p4 vmb.length c4] 58)).heap.size (w.alloc (.cells #[str fn,.int .u8 fk,.bool fp,.slice p1 vma.length c1,.slice p4 vmb.length c4] 58)) W')=>vbv _ _ W' (vl0.below hW zr)
 have E3:=λW' (hW:Below (w.alloc (.cells #[str fn,.int .u8 fk,.bool fp,.slice p1 vma.length c1,.slice p4 vmb.length c4] 58)).heap.size (w.alloc (.cells #[str fn,.int .u8 fk,.bool fp,.slice p1 vma.length c1,.slice p4 vmb.length c4] 58)) W')=>vd8 s W' (by omega) PI (HT.out W' (hA.trans (af hW hA.size))).1 (HT.out W' (hA.trans (af hW hA.size))).2
 have E4:=λW'=>vfi s W' (by omega)
 have vkw:=λW' (hW:Below (w.alloc (.cells #[str fn,.int .u8 fk,.bool fp,.slice p1 vma.length c1,.slice p4 vmb.length c4] 58)).heap.size (w.alloc (.cells #[str fn,.int .u8 fk,.bool fp,.slice p1 vma.length c1,.slice p4 vmb.length c4] 58)) W') (h:(su ⟨fn,fk,fp,vma,vmb⟩).2=0)=>vd8 (su ⟨fn,fk,fp,vma,vmb⟩).1 W' (vcy h).1 (vcy h).2.1 (HT.out W' (hA.trans (af hW hA.size))).1 (HT.out W' (hA.trans (af hW hA.size))).2
 have vlg:=λ(h:(su ⟨fn,fk,fp,vma,vmb⟩).2=0)=>(vcy h).2.2
 have vlh:=λ(h:(vae vad s).2=0)=>vfl h
 have vld:=veu s
 have vkx:=λW' (hW:Below (w.alloc (.cells #[str fn,.int .u8 fk,.bool fp,.slice p1 vma.length c1,.slice p4 vmb.length c4] 58)).heap.size (w.alloc (.cells #[str fn,.int .u8 fk,.bool fp,.slice p1 vma.length c1,.slice p4 vmb.length c4] 58)) W') (u:Value) (hu:dO Any W' u (vae vad s).1)=>C1 u _ W' (HT.out W' (hA.trans (af hW hA.size))).1 hu vld
 have HK:=zh (λW' (hW:Below (w.alloc (.cells #[str fn,.int .u8 fk,.bool fp,.slice p1 vma.length c1,.slice p4 vmb.length c4] 58)).heap.size (w.alloc (.cells #[str fn,.int .u8 fk,.bool fp,.slice p1 vma.length c1,.slice p4 vmb.length c4] 58)) W')=>bz (ah k1 hW))
 have HF:=zh (λW' (hW:Below (w.alloc (.cells #[str fn,.int .u8 fk,.bool fp,.slice p1 vma.length c1,.slice p4 vmb.length c4] 58)).heap.size (w.alloc (.cells #[str fn,.int .u8 fk,.bool fp,.slice p1 vma.length c1,.slice p4 vmb.length c4] 58)) W')=>vl0.below hW zr)
 have hR:=(zb (w.alloc (.cells #[str fn,.int .u8 fk,.bool fp,.slice p1 vma.length c1,.slice p4 vmb.length c4] 58))).alloc zr (.cells #[str fn,.int .u8 fk,.bool fp,.slice p1 vma.length c1,.slice p4 vmb.length c4] 58)
 have vht:=zh hA
 have vlo:=vfh s
 rw[←vlo] at E4
 clear vl0 q0 k1 hD hA f1 f4 fb HT PI vlo vld
 generalize vae vad s=vlt at *
 have vlg:(su ⟨fn,fk,fp,vma,vmb⟩).2=0→vae vad (su ⟨fn,fk,fp,vma,vmb⟩).1=(⟨fn,fk,fp,vma,vmb⟩,0):=vlg
 generalize su ⟨fn,fk,fp,vma,vmb⟩=WK at *
 obtain⟨wt,vmo⟩:=WK
 dsimp only at *
 go_enter Tryz.func14,Tryz.ntmps14
 go_upto_region 9 with(first
  | (go_at_call 44;refine(ve7 vlt.1 _ _ _ vi4 V9).mono ?_;rintro e yY ⟨rfl,DL⟩;have OE:=B9.trans (af DL B9.size))
  | (go_at_call 54;refine(E4 _).mono ?_;clear E4;rintro e w9 ⟨u9,rfl,⟨vjx,vk8,rfl,vj2,vil,vij⟩,Me⟩;obtain⟨p9,c9,rfl,_⟩:=vil.shape;obtain⟨vmm,d9,rfl,_⟩:=vij.shape;have vkz:=(zb w9).alloc zr (.cells #[str vlt.1.name,.int .u8 vlt.1.kind,.bool vlt.1.par,.slice p9 vlt.1.ag.length c9,.slice vmm vlt.1.ops.length d9] 58);have vl7:=heap_alloc_new w9 (.cells #[str vlt.1.name,.int .u8 vlt.1.kind,.bool vlt.1.par,.slice p9 vlt.1.ag.length c9,.slice vmm vlt.1.ops.length d9] 58);have V9:=dO.below ⟨_,_,rfl,vj2,vil,vij⟩ vkz zr;have B9:=(B8.trans (af Me B8.size)).alloc (Nat.le_trans B8.size Me.size) (.cells #[str vlt.1.name,.int .u8 vlt.1.kind,.bool vlt.1.par,.slice p9 vlt.1.ag.length c9,.slice vmm vlt.1.ops.length d9] 58);clear vj2 vil vij;have vmp:=bz (aD (.cells #[str vlt.1.name,.int .u8 vlt.1.kind,.bool vlt.1.par,.slice p9 vlt.1.ag.length c9,.slice vmm vlt.1.ops.length d9] 58) (ah vl6 Me));have vmq:=bz vl7;have vi4:=(V8.below Me zr).below vkz zr)
  | (go_at_call 53;refine(E3 _ B7).mono ?_;clear E3;rintro e w8 ⟨u8,rfl,⟨vjw,vk7,rfl,vj1,vik,vii⟩,tG⟩;obtain⟨vmi,c8,rfl,_⟩:=vik.shape;obtain⟨vml,d8,rfl,_⟩:=vii.shape;have vky:=(zb w8).alloc zr (.cells #[str vlt.1.name,.int .u8 vlt.1.kind,.bool vlt.1.par,.slice vmi vlt.1.ag.length c8,.slice vml vlt.1.ops.length d8] 58);have vl6:=heap_alloc_new w8 (.cells #[str vlt.1.name,.int .u8 vlt.1.kind,.bool vlt.1.par,.slice vmi vlt.1.ag.length c8,.slice vml vlt.1.ops.length d8] 58);have V8:=dO.below ⟨_,_,rfl,vj1,vik,vii⟩ vky zr;have B8:=(B7.trans (af tG B7.size)).alloc (Nat.le_trans B7.size tG.size) (.cells #[str vlt.1.name,.int .u8 vlt.1.kind,.bool vlt.1.par,.slice vmi vlt.1.ag.length c8,.slice vml vlt.1.ops.length d8] 58);clear vj1 vik vii)
  | (go_at_call 52;refine(vkv w6 B6).mono ?_;clear vkv;rintro e w7 ⟨rfl,sB⟩;have B7:=B6.trans (af sB B6.size))
  | (go_at_call 51;refine(vku w5 B5).mono ?_;clear vku;rintro e w6 ⟨rfl,jJ⟩;have B6:=B5.trans (af jJ B5.size);have vjs:=HK.out w6 B6)
  | (go_at_call 15;refine vgq.mono ?_;clear vgq;rintro e w5 ⟨rfl,eT⟩;have B5:=hR.trans (af eT hR.size);have vjr:=HK.out w5 B5))
 go_upto_if 67 with fail
 have vhq:=ah (aD (.cells #[str vlt.1.name,.int .u8 vlt.1.kind,.bool vlt.1.par,.slice p9 vlt.1.ag.length c9,.slice vmm vlt.1.ops.length d9] 58) (ah vl6 Me)) DL
 have vi5:=vi4.below DL zr
 have vlc:=bA vhq
 clear vmp vmq vi4 V9 vl7 vl6 V8 DL Me tG sB jJ eT B9 B8 B7 B6 B5 vjr vjs vky vkz b1 hs1 hs2
 generalize w8.heap.size=vlf at *
 go_cut [] from 17 (λwx=>Below (w.alloc (.cells #[str fn,.int .u8 fk,.bool fp,.slice p1 vma.length c1,.slice p4 vmb.length c4] 58)).heap.size (w.alloc (.cells #[str fn,.int .u8 fk,.bool fp,.slice p1 vma.length c1,.slice p4 vmb.length c4] 58)) wx∧wx.heap[vlf]? =some (.cells #[str vlt.1.name,.int .u8 vlt.1.kind,.bool vlt.1.par,.slice vmi vlt.1.ag.length c8,.slice vml vlt.1.ops.length d8] 58)∧dO Any wx (.agg #[str vlt.1.name,.int .u8 vlt.1.kind,.bool vlt.1.par,.slice vmi vlt.1.ag.length c8,.slice vml vlt.1.ops.length d8]) vlt.1)
 case first=>
  by_cases hw:vmo=0
  case neg=>
   have hq:((vmo:Int)==0)=false:=by simp;omega
   clear vkw vkx vlg vlh;go_wp2_with fail
   go_meet
   exact⟨OE,vhq,vi5.mono λ_ _=>trivial⟩
  case pos=>
   have vhy:=λW' hW=>vkw W' hW hw
   simp only[vlg hw] at vhy;subst hw;clear vkw vlg vkx vlh;go_wp2_with (first
    | (go_at_call 44;refine(ve7 ⟨fn,fk,fp,vma,vmb⟩ _ _ _ vj8 vj5).mono ?_;rintro e w12 ⟨rfl,NB⟩;have LD:=LC.trans (af NB LC.size))
    | (go_at_call 53;refine(vhy _ OE).mono ?_;clear vhy;rintro e Mp ⟨vk9,rfl,⟨vj9,vju,rfl,vh6,vgm,vgk⟩,vbt⟩;dsimp only at vh6 vgm vgk;obtain⟨Hu,c11,rfl,_⟩:=vgm.shape;obtain⟨vhw,d11,rfl,_⟩:=vgk.shape;have vhx:=(zb Mp).alloc zr (.cells #[str fn,.int .u8 fk,.bool fp,.slice Hu vma.length c11,.slice vhw vmb.length d11] 58);have vi0:=heap_alloc_new Mp (.cells #[str fn,.int .u8 fk,.bool fp,.slice Hu vma.length c11,.slice vhw vmb.length d11] 58);have vj8:=dO.below (f:=⟨fn,fk,fp,vma,vmb⟩) ⟨_,_,rfl,vh6,vgm,vgk⟩ vhx zr;have LC:=(OE.trans (af vbt OE.size)).alloc (Nat.le_trans OE.size vbt.size) (.cells #[str fn,.int .u8 fk,.bool fp,.slice Hu vma.length c11,.slice vhw vmb.length d11] 58);clear vh6 vgm vgk;have vka:=bz vi0;have SV:=HK.out _ LC;have vj5:=HF.out _ LC))
   go_meet
   have kc:=(af NB vhx.size);exact⟨LD,ah (aD (.cells #[str fn,.int .u8 fk,.bool fp,.slice Hu vma.length c11,.slice vhw vmb.length d11] 58) (ah vhq vbt)) NB,(((vi5.below vbt zr).below vhx zr).below NB zr).mono λ_ _=>trivial⟩
 case rest=>
  obtain⟨vkf,vl8,Vc⟩:=hcut;have xc:=bz vl8;clear vkw vlg OE vhq vi5
  by_cases hw:vlt.2=0
  case neg=>
   have hq:((vlt.2:Int)==0)=false:=by simp;omega
   clear vkx vlh;go_wp2_with (go_at_call 18;refine(HS wc vkf).mono ?_;rintro e w13 ⟨rfl,NC⟩);go_ret;exact⟨rfl,vht.out.trans (af (vkf.trans (af NC vkf.size)) vht.out.size)⟩
  case pos=>
   have Kv:=vlh hw;have vhp:=vkx wc vkf _ Vc;rw[Kv] at vhp;dsimp only at vhp;clear vkx vlh Kv;go_wp2_with (first
    | (go_at_call 18;refine(HS w13 Qv).mono ?_;rintro e w14 ⟨rfl,vic⟩)
    | (go_at_call 51;refine vhp.mono ?_;clear vhp;rintro e w13 ⟨rfl,NC⟩;have Qv:=vkf.trans (af NC vkf.size)))
   go_ret;exact⟨rfl,vht.out.trans (af (Qv.trans (af vic Qv.size)) vht.out.size)⟩
