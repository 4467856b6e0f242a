/-
  Lemmas: contract: of the package face: signature. Conditions: bounds of lengths; the variable strings.asciiSpace.
-/
import Derived.Test.YtakgjcfkdemipaaGreatDoorZBn
import Derived.Test.YtakgjcfkdemipaaGreatDoorZT8
import Derived.Test.YtakgjcfkdemipaaGreatDoorZT9
set_option maxHeartbeats 25600000
set_option maxRecDepth 8000
namespace Go.Proofs.YtakgjcfkdemipaaGreatDoor
open Go Go.RowKit
theorem vao (s p:List UInt8):(Lib.trimSuffix s p).length≤s.length:=by
 unfold Lib.trimSuffix
 split
 · simp
 · exact nl _
theorem vc8:∀(s:List UInt8) (d:Int),∀a∈va3 d s,a.length≤s.length
 | [],d,a,h=>by simp[va3] at h;simp[h]
 | x :: s, d, a, h => by
  rw[va3] at h;split at h
  · rcases List.mem_cons.1 h with rfl|h
    · simp
    · have:=vc8 s d a h;simp;omega
  · cases hq:va3 (if x=91 then d+1 else if x=93 then d - 1 else d) s with
    | nil=>rw[hq] at h;simp[vaj] at h;simp[h]
    | cons b l=>
     have ih:=vc8 s (if x=91 then d+1 else if x=93 then d - 1 else d);rw[hq] at h ih;simp only[vaj,List.mem_cons] at h;rcases h with rfl|h
     · have:=ih b (by simp);simp;omega
     · have:=ih a (by simp[h]);simp;omega
theorem vca (s:List UInt8):∀a∈va7 s,a.length≤s.length:=λa h=>by
 unfold va7 at h
 split at h
 · cases h
 · exact vc8 s 0 a h
structure vfm (s:List UInt8) (q:List UInt8×List (List UInt8)) (u:Bool×List UInt8×List UInt8) (args:List (List UInt8)):Prop where
 a1:Lib.hasSuffix s [41]=true→(va0 [32,115,105,103,110,97,108,115,40] (Lib.trimSuffix s [41])).2.2=true→q=((va0 [32,115,105,103,110,97,108,115,40] (Lib.trimSuffix s [41])).1,va1 44 (va0 [32,115,105,103,110,97,108,115,40] (Lib.trimSuffix s [41])).2.1)
 a2:(Lib.hasSuffix s [41]=false∨(va0 [32,115,105,103,110,97,108,115,40] (Lib.trimSuffix s [41])).2.2=false)→q=(s,[])
 b1:(va0 [32,121,105,101,108,100,115,32] q.1).2.2=true→u=(true,(va0 [32,121,105,101,108,100,115,32] q.1).2.1,(va0 [32,121,105,101,108,100,115,32] q.1).1)
 b2:(va0 [32,121,105,101,108,100,115,32] q.1).2.2=false→(va0 [32,114,101,116,117,114,110,115,32] q.1).2.2=true→u=(false,(va0 [32,114,101,116,117,114,110,115,32] q.1).2.1,(va0 [32,114,101,116,117,114,110,115,32] q.1).1)
 b3:(va0 [32,121,105,101,108,100,115,32] q.1).2.2=false→(va0 [32,114,101,116,117,114,110,115,32] q.1).2.2=false→u=(false,[],q.1)
 c1:5<u.2.2.length→args=va7 (Lib.trimSuffix (u.2.2.drop 5) [41])
 c2:¬5<u.2.2.length→args=[]
 e:vck s=⟨u.1,args,u.2.1,q.2⟩
 vmk:q.1.length≤s.length
theorem vfk (s:List UInt8):∃q u args,vfm s q u args:=by
 refine⟨_,_,_,⟨?_,?_,?_,?_,?_,?_,?_,rfl,?_⟩⟩
 · exact λh1 h2=>by rw[if_pos ⟨h1,h2⟩]
 · exact λh=>by
    rw[if_neg];rintro⟨h1,h2⟩;rcases h with h|h
    · rw[h] at h1;cases h1
    · rw[h] at h2;cases h2
 · exact λh=>by rw[if_pos h]
 · exact λh h2=>by rw[if_neg (by rw[h];simp),if_pos h2]
 · exact λh h2=>by rw[if_neg (by rw[h];simp),if_neg (by rw[h2];simp)]
 · exact λh=>by rw[if_pos h]
 · exact λh=>by rw[if_neg h]
 · split
   · exact Nat.le_trans (va4 _).1 (vao _ _)
   · exact nl _
theorem vfy (s:List UInt8) (w:World) (hs:s.length≤100000) (hm:vcl w):
 Calls Tryz.prog 113 #[str s] w λe w'=>∃v,e=.returned v∧aT (λb=>w.heap.size≤b) w' v (vck s)∧Below w.heap.size w w':=by
 obtain⟨q,u,args,H⟩:=vfk s
 have HE:=zh H.e
 have vk4:=H.vmk
 have HM:=zh (λW (hW:Below w.heap.size w W)=>hm.below hW)
 have hA:=(zb w).alloc zr (.cells #[.bool false,.slice none 0 0,.string ⟨#[]⟩,.slice none 0 0] 36)
 have hB:=hA.alloc (by simp) (.cells #[.bool false,.slice none 0 0,.string ⟨#[]⟩,.slice none 0 0] 36)
 have vez:=aD (.cells #[.bool false,.slice none 0 0,.string ⟨#[]⟩,.slice none 0 0] 36) (heap_alloc_new w (.cells #[.bool false,.slice none 0 0,.string ⟨#[]⟩,.slice none 0 0] 36))
 have vix:=cI (w:=w.alloc (.cells #[.bool false,.slice none 0 0,.string ⟨#[]⟩,.slice none 0 0] 36)) (n:=w.heap.size+1) (by simp) #[.bool false,.slice none 0 0,.string ⟨#[]⟩,.slice none 0 0] 36
 have vkg:=λW=>vba s [41] W hs
 generalize vck s=vm2 at *
 go_enter Tryz.func113,Tryz.ntmps113
 go_upto_if 20 with(go_at_call 112;refine(vkg _).mono ?_;clear vkg;rintro e w1 ⟨rfl,hw1⟩;subst hw1)
 generalize Ir:(w.alloc (.cells #[.bool false,.slice none 0 0,.string ⟨#[]⟩,.slice none 0 0] 36)).alloc (.cells #[.bool false,.slice none 0 0,.string ⟨#[]⟩,.slice none 0 0] 36)=W1 at *
 have bL:Below w.heap.size w W1:=Ir▸hB
 have vhv:W1.heap[w.heap.size]? =some (.cells #[.bool false,.slice none 0 0,.string ⟨#[]⟩,.slice none 0 0] 36):=Ir▸vez
 have vhl:W1.heap[w.heap.size+1]? =some (.cells #[.bool false,.slice none 0 0,.string ⟨#[]⟩,.slice none 0 0] 36):=Ir▸vix
 clear Ir hA hB vez vix hm
 go_cut [0] from 4 to 31 (λx wx=>x=str q.1∧∃g,wx.heap[w.heap.size+1]? =some (.cells #[.bool false,.slice none 0 0,.string ⟨#[]⟩,g] 36)∧SS (λb=>w.heap.size+1<b) wx g q.2∧wx.heap[w.heap.size]? =some (.cells #[.bool false,.slice none 0 0,.string ⟨#[]⟩,.slice none 0 0] 36)∧Below w.heap.size w wx)
 case first =>
  have vkh:=λW (hW:Below w.heap.size w W)=>vbb (Lib.trimSuffix s [41]) [32,115,105,103,110,97,108,115,40] W (by have:=vao s [41];omega) (by simp) (HM.out W hW)
  have vki:=λW (hW:Below w.heap.size w W)=>ve0 (va0 [32,115,105,103,110,97,108,115,40] (Lib.trimSuffix s [41])).2.1 44 W (by have:=(va4 (p:=[32,115,105,103,110,97,108,115,40]) (Lib.trimSuffix s [41])).2;have:=vao s [41];omega) (HM.out W hW)
  have ha1:=H.a1;have ha2:=H.a2;clear H HE;rcases h1:Lib.hasSuffix s [41] with _|_
  · have hq:=ha2 (.inl h1)
    subst hq;clear vkh vki ha1 ha2 h1;go_wp2_with fail
    go_meet
    case rel=>exact⟨rfl,_,vhl,SS.nil _ _ _ _,vhv,bL⟩
  · generalize va0 [32,115,105,103,110,97,108,115,40] (Lib.trimSuffix s [41])=vkp at *
    obtain⟨vk0,vk1,vjb⟩:=vkp;dsimp only at vkh vki ha1 ha2;rcases vjb with _|_
    · have hq:=ha2 (.inr rfl)
      subst hq;clear vki ha1 ha2 h1;go_wp2_with (go_at_call 110;refine(vkh _ bL).mono ?_;clear vkh;rintro e w2 ⟨rfl,aC⟩)
      go_meet
      case rel=>exact⟨rfl,_,ah vhl aC,SS.nil _ _ _ _,ah vhv aC,bL.trans (af aC bL.size)⟩
    · have hq:=ha1 h1 rfl
      subst hq;clear ha1 ha2 h1;go_wp2_with (first
       | (go_at_call 168;refine(vki _ B2).mono ?_;clear vki;rintro e w3 ⟨v3,rfl,wV,aH⟩;obtain⟨p3,c3,rfl,_⟩:=wV.shape;have vme:=ah (ah vhl aC) aH;have vm6:=aN vme)
       | (go_at_call 110;refine(vkh _ bL).mono ?_;clear vkh;rintro e w2 ⟨rfl,aC⟩;have B2:=bL.trans (af aC bL.size)))
      go_meet
      case rel=>
       have B3:=B2.trans (af aH B2.size);have hz1:=bA vhl;have hz2:=aC.size;refine⟨rfl,_,heap_setCell_same _ _ _ _ _ _ vme,(wV.mono λb hb=>by omega).set (λb hb=>by simp only;omega) _,?_,B3.setCell (p:=⟨w.heap.size+1,3,none⟩) (by simp) _⟩;exact(heap_setCell_other _ _ _ _ (by simp)).trans (ah (ah vhv aC) aH)
 case rest =>
  obtain⟨rfl,g,hX,hG,hR,hb⟩:=hcut;have hk1:=H.b1;have hk2:=H.b2;have yW:=H.b3;have vkj:=vbb q.1 [32,121,105,101,108,100,115,32] wc (by omega) (by simp) (HM.out wc hb);have vkk:=λW (hW:Below w.heap.size w W)=>vbb q.1 [32,114,101,116,117,114,110,115,32] W (by omega) (by simp) (HM.out W hW)
  have hcl:=(va4 (p:=[32,121,105,101,108,100,115,32]) q.1);have vgb:=(va4 (p:=[32,114,101,116,117,114,110,115,32]) q.1);have hc1:=H.c1;have ij:=H.c2;obtain⟨pg,cg,rfl,_⟩:=hG.shape;clear H vhv vhl bL;generalize va0 [32,121,105,101,108,100,115,32] q.1=YT at *;generalize va0 [32,114,101,116,117,114,110,115,32] q.1=vlu at *;obtain⟨vkb,vkc,vjv⟩:=YT;obtain⟨vk5,vk6,vjt⟩:=vlu;obtain⟨q1,q2⟩:=q;obtain⟨u1,u2,u3⟩:=u;dsimp only at *;have vm6:=aN hX
  go_upto_if 38 with(go_at_call 110;refine vkj.mono ?_;clear vkj;rintro e w2 ⟨rfl,aC⟩)
  have B2:=hb.trans (af aC hb.size);have vme:=ah hX aC;have vmd:=ah hR aC;have vhu:=hG.below aC zr;have hsz:=bA hX;have vjm:=aC.size;clear vm6 hX hR hG hb aC
  go_cut [0] from 9 to 52 (λx wx=>x=str u3∧u3.length≤s.length∧u2.length≤maxLen∧wx.heap[w.heap.size+1]? =some (.cells #[.bool u1,.slice none 0 0,.string ⟨u2.toArray⟩,.slice pg q2.length cg] 36)∧SS (λb=>w.heap.size+1<b) wx (.slice pg q2.length cg) q2∧wx.heap[w.heap.size]? =some (.cells #[.bool false,.slice none 0 0,.string ⟨#[]⟩,.slice none 0 0] 36)∧Below w.heap.size w wx)
  case first =>
   rcases vjv with _|_
   · rcases vjt with _|_
     · have hu:=yW rfl rfl
       simp only[Prod.mk.injEq] at hu;obtain⟨rfl,rfl,rfl⟩:=hu;clear hk1 hk2 yW hc1 ij HE;go_wp2_with (go_at_call 110;refine(vkk _ B2).mono ?_;clear vkk;rintro e w3 ⟨rfl,aH⟩)
       go_meet
       case rel=>exact⟨rfl,by omega,Nat.zero_le _,ah vme aH,vhu.below aH zr,ah vmd aH,B2.trans (af aH B2.size)⟩
     · have hu:=hk2 rfl rfl
       simp only[Prod.mk.injEq] at hu;obtain⟨rfl,rfl,rfl⟩:=hu;clear hk1 hk2 yW hc1 ij HE;go_wp2_with (go_at_call 110;refine(vkk _ B2).mono ?_;clear vkk;rintro e w3 ⟨rfl,aH⟩;have vjz:=aN (ah vme aH))
       go_meet
       case rel=>exact⟨rfl,by omega,by unfold maxLen;omega,heap_setCell_same _ _ _ _ _ _ (ah vme aH),(vhu.below aH zr).set (λb hb=>by simp only;omega) _,(heap_setCell_other _ _ _ _ (by simp)).trans (ah vmd aH),(B2.trans (af aH B2.size)).setCell (p:=⟨w.heap.size+1,2,none⟩) (by simp) _⟩
   · have hu:=hk1 rfl
     simp only[Prod.mk.injEq] at hu;obtain⟨rfl,rfl,rfl⟩:=hu;have vm6:=aN vme;clear hk1 hk2 yW hc1 ij HE vkk;go_wp2_with fail
     go_meet
     case rel=>exact⟨rfl,by omega,by unfold maxLen;omega,heap_setCell_same _ _ _ _ _ _ (heap_setCell_same _ _ _ _ _ _ vme),(vhu.set (λb hb=>by simp only;omega) _).set (λb hb=>by simp only;omega) _,((heap_setCell_other _ _ _ _ (by simp)).trans (heap_setCell_other _ _ _ _ (by simp))).trans vmd,(B2.setCell (p:=⟨w.heap.size+1,0,none⟩) (by simp) _).setCell (p:=⟨w.heap.size+1,2,none⟩) (by simp) _⟩
  case rest=>
   obtain⟨rfl,Cd,viz,hX,hG,hR,hb⟩:=hcut;have zC:=bA hX;clear hk1 hk2 yW vkk B2 vme vmd vhu hcl vgb
   by_cases h5:5<u3.length
   · obtain rfl:=hc1 h5
     have g5:(5:Int)<(u3.length:Int):=by omega
     have vkl:=vb5 (u3.drop 5) [41] wc (by rw[List.length_drop];omega);have htl:=vao (u3.drop 5) [41];rw[List.length_drop] at htl;have vkm:=vep (Lib.trimSuffix (u3.drop 5) [41]) wc (by omega);have hpl:=vca (Lib.trimSuffix (u3.drop 5) [41]);generalize Lib.trimSuffix (u3.drop 5) [41]=vm4 at *;generalize va7 vm4=PP at *;have vj6:=zh (show ∀a∈PP,a.length≤maxLen from λa ha=>by have:=hpl a ha;unfold maxLen;omega);clear hc1 ij hpl;go_wp2_with (first
      | (go_at_call 172;refine vkm.mono ?_;clear vkm;rintro e w3 ⟨v3,rfl,RF,aH⟩;obtain⟨p3,c3,rfl⟩:=bu RF;have vme:=ah hX aH;have vmd:=ah hR aH;have vm6:=aN (heap_setCell_same _ _ 1 _ _ (.slice p3 PP.length c3) vme);have vjy:=aN vme;have bR:=aN ((heap_setCell_other w3 ⟨w.heap.size+1,1,none⟩ w.heap.size (.slice p3 PP.length c3) (by simp)).trans vmd))
      | (go_at_call 169;refine vkl.mono ?_;clear vkl;rintro e w2 ⟨rfl,SL⟩;subst SL))
     have zG:=aH.size;refine bodyPost_ret (v:=.agg #[.bool u1,.slice p3 PP.length c3,.string ⟨u2.toArray⟩,.slice pg q2.length cg]) (by simp[results,Tryz.results113,go_sem,bR]) rfl ?_;rw[HE.out];have hP:SS (λb=>w.heap.size+1<b) w3 (.slice p3 PP.length c3) PP:=SS.bH RF vj6.out λb hb=>by have:=(RF.lt b hb).1;omega
     have B3:=hb.trans (af aH hb.size);refine⟨_,rfl,⟨_,_,rfl,viz,?_,?_⟩,?_⟩
     · exact(SS.ep (hP.set (a:=⟨w.heap.size+1,1,none⟩) (λb hb=>by simp only;omega) _) (b:=w.heap.size) (λb hb=>by omega) _ _ _ _).mono λb hb=>by omega
     · exact(SS.ep ((hG.below aH zr).set (a:=⟨w.heap.size+1,1,none⟩) (λb hb=>by simp only;omega) _) (b:=w.heap.size) (λb hb=>by omega) _ _ _ _).mono λb hb=>by omega
     · exact Below.ep (B3.setCell (p:=⟨w.heap.size+1,1,none⟩) (by simp) _) (b:=w.heap.size) zr _ _ _ _
   · obtain rfl:=ij h5
     have g5:¬(5:Int)<(u3.length:Int):=by omega
     have vm6:=aN hX;have bR:=aN hR;clear hc1 ij;go_wp2_with fail;refine bodyPost_ret (v:=.agg #[.bool u1,.slice none 0 0,.string ⟨u2.toArray⟩,.slice pg q2.length cg]) (by simp[results,Tryz.results113,go_sem,bR]) rfl ?_;rw[HE.out];refine⟨_,rfl,⟨_,_,rfl,viz,SS.nil _ _ _ _,?_⟩,?_⟩
     · exact(SS.ep hG (b:=w.heap.size) (λb hb=>by omega) _ _ _ _).mono λb hb=>by omega
     · exact Below.ep hb (b:=w.heap.size) zr _ _ _ _
theorem vdi (s:List UInt8) (w:World) (hs:s.length≤100000):
 Calls Tryz.prog 115 #[str s] w λe w'=>∃v,e=.returned v∧aT (λb=>w.heap.size≤b) w' v (ve9 s)∧Below w.heap.size w w':=by
 obtain⟨vm3,vi9⟩:∃vm3,ve9 s=vm3:=⟨_,rfl⟩
 rw[vi9]
 have hE:=vi9.symm
 clear vi9
 unfold ve9 at hE
 dsimp only at hE
 have n1:=va4 (p:=[40]) s
 have vkg:=λW=>vaa s [40] W (by omega) (by simp) (by simp)
 generalize va0 [40] s=H1 at *
 obtain⟨h1,h2,h3⟩:=H1
 dsimp only at n1 vkg hE
 have n2:=va4 (p:=[41]) h2
 have vkh:=λW=>vaa h2 [41] W (by omega) (by simp) (by simp)
 generalize va0 [41] h2=H2 at *
 obtain⟨a1,a2,a3⟩:=H2
 dsimp only at n2 vkh hE
 have vki:=λW=>vcf a1 W (by omega)
 have vin:=vca a1
 generalize va7 a1=vli at *
 have n3:=va4 (p:=[32,115,105,103,110,97,108,115,40]) a2
 have vkj:=λW=>vaa a2 [32,115,105,103,110,97,108,115,40] W (by omega) (by simp) (by simp)
 generalize va0 [32,115,105,103,110,97,108,115,40] a2=H3 at *
 obtain⟨b1,b2,b3⟩:=H3
 dsimp only at n3 vkj hE
 have n4:=va4 (p:=[41]) b2
 have vkk:=λW=>vaa b2 [41] W (by omega) (by simp) (by simp)
 generalize va0 [41] b2=H4 at *
 obtain⟨i1,i2,i3⟩:=H4
 dsimp only at n4 vkk hE
 have vkl:=λW=>vcf i1 W (by omega)
 have vio:=vca i1
 generalize va7 i1=vlj at *
 have vmf:=va4 (p:=[32,114,101,116,117,114,110,115,32]) b1
 have vkm:=λW=>vaa b1 [32,114,101,116,117,114,110,115,32] W (by omega) (by simp) (by simp)
 generalize va0 [32,114,101,116,117,114,110,115,32] b1=H5 at *
 obtain⟨r1,r2,r3⟩:=H5
 dsimp only at vmf vkm hE
 have n6:=va4 (p:=[32,121,105,101,108,100,115,32]) b1
 have vkn:=λW=>vaa b1 [32,121,105,101,108,100,115,32] W (by omega) (by simp) (by simp)
 generalize va0 [32,121,105,101,108,100,115,32] b1=vl9 at *
 obtain⟨y1,y2,y3⟩:=vl9
 dsimp only at n6 vkn hE
 have vhr:=zh (show ∀a∈vli,a.length≤maxLen from λa ha=>by have:=vin a ha;unfold maxLen;omega)
 have vim:=zh (show ∀a∈vlj,a.length≤maxLen from λa ha=>by have:=vio a ha;unfold maxLen;omega)
 have ml:r2.length≤maxLen∧y2.length≤maxLen:=by unfold maxLen;omega
 clear vin vio n1 n2 n3 n4 vmf n6
 have hA:=(zb w).alloc zr (.cells #[.bool false,.slice none 0 0,.string ⟨#[]⟩,.slice none 0 0] 36)
 have vez:=heap_alloc_new w (.cells #[.bool false,.slice none 0 0,.string ⟨#[]⟩,.slice none 0 0] 36)
 obtain⟨it,hit⟩:∃it,decide (h1=[105,116,101,114])=it:=⟨_,rfl⟩
 rw[hit] at hE
 have hib:(h1==[105,116,101,114])=it:=by rw[←hit];by_cases h:h1=[105,116,101,114]<;>simp[h]
 clear hit
 rcases b3 with _|_<;>rcases r3 with _|_
 case false.false=>
  simp only[Bool.false_eq_true,if_false] at hE;have HE:=zh hE;clear hE;go_enter Tryz.func115,Tryz.ntmps115;go_upto_region 3 with(go_at_call 114;refine(vkg _).mono ?_;clear vkg;rintro e w1 ⟨rfl,au⟩;have B1:=hA.trans (af au hA.size);have vkv:=B1.alloc B1.size (.cells #[.bool it,.slice none 0 0,.string ⟨#[]⟩,.slice none 0 0] 36);have k2:=heap_alloc_new w1 (.cells #[.bool it,.slice none 0 0,.string ⟨#[]⟩,.slice none 0 0] 36);have vll:=aD (.cells #[.bool it,.slice none 0 0,.string ⟨#[]⟩,.slice none 0 0] 36) (ah vez au);have hz1:=bA (ah vez au));go_upto_region 4 with(go_at_call 114;refine(vkh _).mono ?_;clear vkh;rintro e w3 ⟨rfl,aH⟩;have B3:=vkv.trans (af aH vkv.size);have k3:=ah k2 aH;have vlm:=ah vll aH);go_upto_region 5 with(go_at_call 173;refine(vki w3).mono ?_;clear vki;rintro e w4 ⟨v4,rfl,vle,hb4⟩;obtain⟨p4,c4,rfl⟩:=bu vle;have B4:=B3.trans (af hb4 B3.size);have k4:=ah k3 hb4;have vln:=ah vlm hb4;have O0:=aN k4;have vlx:SS (λb=>w1.heap.size<b) w4 (.slice p4 vli.length c4) vli:=SS.bH vle vhr.out λb hb=>by(have h5:=(vle.lt b hb).1;have h6:=aH.size;simp only[World.size_alloc] at h6;omega));have B5:=B4.setCell (p:=⟨w1.heap.size,1,none⟩) B1.size (.slice p4 vli.length c4);have k5:=heap_setCell_same _ _ 1 _ _ (.slice p4 vli.length c4) k4;have vlo:=(heap_setCell_other w4 ⟨w1.heap.size,1,none⟩ w.heap.size (.slice p4 vli.length c4) (by simp only;omega)).trans vln;have vly:=vlx.set (a:=⟨w1.heap.size,1,none⟩) (λb hb=>by simp only;omega) (.slice p4 vli.length c4);go_upto_region 9 with(go_at_call 114;refine(vkj _).mono ?_;clear vkj;rintro e w6 ⟨rfl,jJ⟩;have B6:=B5.trans (af jJ B5.size);have k6:=ah k5 jJ;have vlp:=ah vlo jJ;have vlz:=vly.below jJ zr);go_upto_region 11 with(go_at_call 114;refine(vkm _).mono ?_;clear vkm;rintro e yY ⟨rfl,DL⟩;have OE:=B6.trans (af DL B6.size);have vfe:=ah k6 DL;have vg6:=ah vlp DL;have vgv:=vlz.below DL zr)
  have vgy:=aN vfe;have vgx:=aN (heap_setCell_same _ _ 2 _ _ (str y2) vfe);have vfq:=aN ((heap_setCell_other yY ⟨w1.heap.size,2,none⟩ w.heap.size (str y2) (by simp only;omega)).trans vg6);go_upto_region 12 with(go_at_call 114;refine(vkn yY).mono ?_;clear vkn;rintro e Mp ⟨rfl,vbt⟩;have LC:=OE.trans (af vbt OE.size);have vhm:=ah vfe vbt;have vi1:=ah vg6 vbt;have vi3:=vgv.below vbt zr);have vi7:=aN vhm;have vi6:=aN (heap_setCell_same _ _ 2 _ _ (str y2) vhm);have vgw:=aN ((heap_setCell_other Mp ⟨w1.heap.size,2,none⟩ w.heap.size (str y2) (by simp only;omega)).trans vi1);go_wp2_with fail;refine bodyPost_ret (v:=.agg #[.bool it,.slice p4 vli.length c4,.string ⟨y2.toArray⟩,.slice none 0 0]) (by simp[results,Tryz.results115,go_sem,vgw]) rfl ?_;rw[HE.out];exact⟨_,rfl,⟨_,_,rfl,ml.2,(SS.ep (vi3.set (a:=⟨w1.heap.size,2,none⟩) (λb hb=>by simp only;omega) _) (b:=w.heap.size) (λb hb=>by omega) _ _ _ _).mono λb hb=>by omega,SS.nil _ _ _ _⟩,Below.ep (LC.setCell (p:=⟨w1.heap.size,2,none⟩) B1.size _) (b:=w.heap.size) zr _ _ _ _⟩
 case false.true=>
  simp only[Bool.false_eq_true,if_false,if_true] at hE;have HE:=zh hE;clear hE;go_enter Tryz.func115,Tryz.ntmps115;go_upto_region 3 with(go_at_call 114;refine(vkg _).mono ?_;clear vkg;rintro e w1 ⟨rfl,au⟩;have B1:=hA.trans (af au hA.size);have vkv:=B1.alloc B1.size (.cells #[.bool it,.slice none 0 0,.string ⟨#[]⟩,.slice none 0 0] 36);have k2:=heap_alloc_new w1 (.cells #[.bool it,.slice none 0 0,.string ⟨#[]⟩,.slice none 0 0] 36);have vll:=aD (.cells #[.bool it,.slice none 0 0,.string ⟨#[]⟩,.slice none 0 0] 36) (ah vez au);have hz1:=bA (ah vez au));go_upto_region 4 with(go_at_call 114;refine(vkh _).mono ?_;clear vkh;rintro e w3 ⟨rfl,aH⟩;have B3:=vkv.trans (af aH vkv.size);have k3:=ah k2 aH;have vlm:=ah vll aH);go_upto_region 5 with(go_at_call 173;refine(vki w3).mono ?_;clear vki;rintro e w4 ⟨v4,rfl,vle,hb4⟩;obtain⟨p4,c4,rfl⟩:=bu vle;have B4:=B3.trans (af hb4 B3.size);have k4:=ah k3 hb4;have vln:=ah vlm hb4;have O0:=aN k4;have vlx:SS (λb=>w1.heap.size<b) w4 (.slice p4 vli.length c4) vli:=SS.bH vle vhr.out λb hb=>by(have h5:=(vle.lt b hb).1;have h6:=aH.size;simp only[World.size_alloc] at h6;omega));have B5:=B4.setCell (p:=⟨w1.heap.size,1,none⟩) B1.size (.slice p4 vli.length c4);have k5:=heap_setCell_same _ _ 1 _ _ (.slice p4 vli.length c4) k4;have vlo:=(heap_setCell_other w4 ⟨w1.heap.size,1,none⟩ w.heap.size (.slice p4 vli.length c4) (by simp only;omega)).trans vln;have vly:=vlx.set (a:=⟨w1.heap.size,1,none⟩) (λb hb=>by simp only;omega) (.slice p4 vli.length c4);go_upto_region 9 with(go_at_call 114;refine(vkj _).mono ?_;clear vkj;rintro e w6 ⟨rfl,jJ⟩;have B6:=B5.trans (af jJ B5.size);have k6:=ah k5 jJ;have vlp:=ah vlo jJ;have vlz:=vly.below jJ zr);go_upto_region 12 with(go_at_call 114;refine(vkm _).mono ?_;clear vkm;rintro e yY ⟨rfl,DL⟩;have OE:=B6.trans (af DL B6.size);have vfe:=ah k6 DL;have vg6:=ah vlp DL;have vgv:=vlz.below DL zr)
  have vgy:=aN vfe;have vgx:=aN (heap_setCell_same _ _ 2 _ _ (str r2) vfe);have vfq:=aN ((heap_setCell_other yY ⟨w1.heap.size,2,none⟩ w.heap.size (str r2) (by simp only;omega)).trans vg6);go_wp2_with fail;refine bodyPost_ret (v:=.agg #[.bool it,.slice p4 vli.length c4,.string ⟨r2.toArray⟩,.slice none 0 0]) (by simp[results,Tryz.results115,go_sem,vfq]) rfl ?_;rw[HE.out];exact⟨_,rfl,⟨_,_,rfl,ml.1,(SS.ep (vgv.set (a:=⟨w1.heap.size,2,none⟩) (λb hb=>by simp only;omega) _) (b:=w.heap.size) (λb hb=>by omega) _ _ _ _).mono λb hb=>by omega,SS.nil _ _ _ _⟩,Below.ep (OE.setCell (p:=⟨w1.heap.size,2,none⟩) B1.size _) (b:=w.heap.size) zr _ _ _ _⟩
 case true.false=>
  simp only[Bool.false_eq_true,if_false,if_true] at hE;have HE:=zh hE;clear hE;go_enter Tryz.func115,Tryz.ntmps115;go_upto_region 3 with(go_at_call 114;refine(vkg _).mono ?_;clear vkg;rintro e w1 ⟨rfl,au⟩;have B1:=hA.trans (af au hA.size);have vkv:=B1.alloc B1.size (.cells #[.bool it,.slice none 0 0,.string ⟨#[]⟩,.slice none 0 0] 36);have k2:=heap_alloc_new w1 (.cells #[.bool it,.slice none 0 0,.string ⟨#[]⟩,.slice none 0 0] 36);have vll:=aD (.cells #[.bool it,.slice none 0 0,.string ⟨#[]⟩,.slice none 0 0] 36) (ah vez au);have hz1:=bA (ah vez au));go_upto_region 4 with(go_at_call 114;refine(vkh _).mono ?_;clear vkh;rintro e w3 ⟨rfl,aH⟩;have B3:=vkv.trans (af aH vkv.size);have k3:=ah k2 aH;have vlm:=ah vll aH);go_upto_region 5 with(go_at_call 173;refine(vki w3).mono ?_;clear vki;rintro e w4 ⟨v4,rfl,vle,hb4⟩;obtain⟨p4,c4,rfl⟩:=bu vle;have B4:=B3.trans (af hb4 B3.size);have k4:=ah k3 hb4;have vln:=ah vlm hb4;have O0:=aN k4;have vlx:SS (λb=>w1.heap.size<b) w4 (.slice p4 vli.length c4) vli:=SS.bH vle vhr.out λb hb=>by(have h5:=(vle.lt b hb).1;have h6:=aH.size;simp only[World.size_alloc] at h6;omega));have B5:=B4.setCell (p:=⟨w1.heap.size,1,none⟩) B1.size (.slice p4 vli.length c4);have k5:=heap_setCell_same _ _ 1 _ _ (.slice p4 vli.length c4) k4;have vlo:=(heap_setCell_other w4 ⟨w1.heap.size,1,none⟩ w.heap.size (.slice p4 vli.length c4) (by simp only;omega)).trans vln;have vly:=vlx.set (a:=⟨w1.heap.size,1,none⟩) (λb hb=>by simp only;omega) (.slice p4 vli.length c4);go_upto_region 7 with(go_at_call 114;refine(vkj _).mono ?_;clear vkj;rintro e w6 ⟨rfl,jJ⟩;have B6:=B5.trans (af jJ B5.size);have k6:=ah k5 jJ;have vlp:=ah vlo jJ;have vlz:=vly.below jJ zr);go_upto_region 8 with(go_at_call 114;refine(vkk w6).mono ?_;clear vkk;rintro e w7 ⟨rfl,sB⟩;have B7:=B6.trans (af sB B6.size);have k7:=ah k6 sB;have vlq:=ah vlp sB;have S7:=vlz.below sB zr)
  go_upto_region 9 with(go_at_call 173;refine(vkl w7).mono ?_;clear vkl;rintro e w8 ⟨vmn,rfl,vlf,tG⟩;obtain⟨vmi,c8,rfl⟩:=bu vlf;have B8:=B7.trans (af tG B7.size);have k8:=ah k7 tG;have vlr:=ah vlq tG;have vja:=aN k8;have S8:=S7.below tG zr;have vl6:SS (λb=>w1.heap.size<b) w8 (.slice vmi vlj.length c8) vlj:=SS.bH vlf vim.out λb hb=>by(have h5:=(vlf.lt b hb).1;have h6:=bA k7;omega));have B9:=B8.setCell (p:=⟨w1.heap.size,3,none⟩) B1.size (.slice vmi vlj.length c8);have k9:=heap_setCell_same _ _ 3 _ _ (.slice vmi vlj.length c8) k8;have vls:=(heap_setCell_other w8 ⟨w1.heap.size,3,none⟩ w.heap.size (.slice vmi vlj.length c8) (by simp only;omega)).trans vlr;have vm0:=S8.set (a:=⟨w1.heap.size,3,none⟩) (λb hb=>by simp only;omega) (.slice vmi vlj.length c8);have vl7:=vl6.set (a:=⟨w1.heap.size,3,none⟩) (λb hb=>by simp only;omega) (.slice vmi vlj.length c8);go_upto_region 11 with(go_at_call 114;refine(vkm _).mono ?_;clear vkm;rintro e yY ⟨rfl,DL⟩;have OE:=B9.trans (af DL B9.size);have vfe:=ah k9 DL;have vg6:=ah vls DL;have vgv:=vm0.below DL zr;have vhz:=vl7.below DL zr);have vgy:=aN vfe;have vgx:=aN (heap_setCell_same _ _ 2 _ _ (str y2) vfe);have vfq:=aN ((heap_setCell_other yY ⟨w1.heap.size,2,none⟩ w.heap.size (str y2) (by simp only;omega)).trans vg6);go_upto_region 12 with(go_at_call 114;refine(vkn yY).mono ?_;clear vkn;rintro e Mp ⟨rfl,vbt⟩;have LC:=OE.trans (af vbt OE.size);have vhm:=ah vfe vbt;have vi1:=ah vg6 vbt;have vi3:=vgv.below vbt zr;have vi0:=vhz.below vbt zr);have vi7:=aN vhm;have vi6:=aN (heap_setCell_same _ _ 2 _ _ (str y2) vhm);have vgw:=aN ((heap_setCell_other Mp ⟨w1.heap.size,2,none⟩ w.heap.size (str y2) (by simp only;omega)).trans vi1);go_wp2_with fail;refine bodyPost_ret (v:=.agg #[.bool it,.slice p4 vli.length c4,.string ⟨y2.toArray⟩,.slice vmi vlj.length c8]) (by simp[results,Tryz.results115,go_sem,vgw]) rfl ?_
  rw[HE.out];exact⟨_,rfl,⟨_,_,rfl,ml.2,(SS.ep (vi3.set (a:=⟨w1.heap.size,2,none⟩) (λb hb=>by simp only;omega) _) (b:=w.heap.size) (λb hb=>by omega) _ _ _ _).mono λb hb=>by omega,(SS.ep (vi0.set (a:=⟨w1.heap.size,2,none⟩) (λb hb=>by simp only;omega) _) (b:=w.heap.size) (λb hb=>by omega) _ _ _ _).mono λb hb=>by omega⟩,Below.ep (LC.setCell (p:=⟨w1.heap.size,2,none⟩) B1.size _) (b:=w.heap.size) zr _ _ _ _⟩
 case true.true=>
  simp only[if_true] at hE;have HE:=zh hE;clear hE;go_enter Tryz.func115,Tryz.ntmps115;go_upto_region 3 with(go_at_call 114;refine(vkg _).mono ?_;clear vkg;rintro e w1 ⟨rfl,au⟩;have B1:=hA.trans (af au hA.size);have vkv:=B1.alloc B1.size (.cells #[.bool it,.slice none 0 0,.string ⟨#[]⟩,.slice none 0 0] 36);have k2:=heap_alloc_new w1 (.cells #[.bool it,.slice none 0 0,.string ⟨#[]⟩,.slice none 0 0] 36);have vll:=aD (.cells #[.bool it,.slice none 0 0,.string ⟨#[]⟩,.slice none 0 0] 36) (ah vez au);have hz1:=bA (ah vez au));go_upto_region 4 with(go_at_call 114;refine(vkh _).mono ?_;clear vkh;rintro e w3 ⟨rfl,aH⟩;have B3:=vkv.trans (af aH vkv.size);have k3:=ah k2 aH;have vlm:=ah vll aH);go_upto_region 5 with(go_at_call 173;refine(vki w3).mono ?_;clear vki;rintro e w4 ⟨v4,rfl,vle,hb4⟩;obtain⟨p4,c4,rfl⟩:=bu vle;have B4:=B3.trans (af hb4 B3.size);have k4:=ah k3 hb4;have vln:=ah vlm hb4;have O0:=aN k4;have vlx:SS (λb=>w1.heap.size<b) w4 (.slice p4 vli.length c4) vli:=SS.bH vle vhr.out λb hb=>by(have h5:=(vle.lt b hb).1;have h6:=aH.size;simp only[World.size_alloc] at h6;omega));have B5:=B4.setCell (p:=⟨w1.heap.size,1,none⟩) B1.size (.slice p4 vli.length c4);have k5:=heap_setCell_same _ _ 1 _ _ (.slice p4 vli.length c4) k4;have vlo:=(heap_setCell_other w4 ⟨w1.heap.size,1,none⟩ w.heap.size (.slice p4 vli.length c4) (by simp only;omega)).trans vln;have vly:=vlx.set (a:=⟨w1.heap.size,1,none⟩) (λb hb=>by simp only;omega) (.slice p4 vli.length c4);go_upto_region 7 with(go_at_call 114;refine(vkj _).mono ?_;clear vkj;rintro e w6 ⟨rfl,jJ⟩;have B6:=B5.trans (af jJ B5.size);have k6:=ah k5 jJ;have vlp:=ah vlo jJ;have vlz:=vly.below jJ zr);go_upto_region 8 with(go_at_call 114;refine(vkk w6).mono ?_;clear vkk;rintro e w7 ⟨rfl,sB⟩;have B7:=B6.trans (af sB B6.size);have k7:=ah k6 sB;have vlq:=ah vlp sB;have S7:=vlz.below sB zr)
  go_upto_region 9 with(go_at_call 173;refine(vkl w7).mono ?_;clear vkl;rintro e w8 ⟨vmn,rfl,vlf,tG⟩;obtain⟨vmi,c8,rfl⟩:=bu vlf;have B8:=B7.trans (af tG B7.size);have k8:=ah k7 tG;have vlr:=ah vlq tG;have vja:=aN k8;have S8:=S7.below tG zr;have vl6:SS (λb=>w1.heap.size<b) w8 (.slice vmi vlj.length c8) vlj:=SS.bH vlf vim.out λb hb=>by(have h5:=(vlf.lt b hb).1;have h6:=bA k7;omega));have B9:=B8.setCell (p:=⟨w1.heap.size,3,none⟩) B1.size (.slice vmi vlj.length c8);have k9:=heap_setCell_same _ _ 3 _ _ (.slice vmi vlj.length c8) k8;have vls:=(heap_setCell_other w8 ⟨w1.heap.size,3,none⟩ w.heap.size (.slice vmi vlj.length c8) (by simp only;omega)).trans vlr;have vm0:=S8.set (a:=⟨w1.heap.size,3,none⟩) (λb hb=>by simp only;omega) (.slice vmi vlj.length c8);have vl7:=vl6.set (a:=⟨w1.heap.size,3,none⟩) (λb hb=>by simp only;omega) (.slice vmi vlj.length c8);go_upto_region 12 with(go_at_call 114;refine(vkm _).mono ?_;clear vkm;rintro e yY ⟨rfl,DL⟩;have OE:=B9.trans (af DL B9.size);have vfe:=ah k9 DL;have vg6:=ah vls DL;have vgv:=vm0.below DL zr;have vhz:=vl7.below DL zr);have vgy:=aN vfe;have vgx:=aN (heap_setCell_same _ _ 2 _ _ (str r2) vfe);have vfq:=aN ((heap_setCell_other yY ⟨w1.heap.size,2,none⟩ w.heap.size (str r2) (by simp only;omega)).trans vg6);go_wp2_with fail;refine bodyPost_ret (v:=.agg #[.bool it,.slice p4 vli.length c4,.string ⟨r2.toArray⟩,.slice vmi vlj.length c8]) (by simp[results,Tryz.results115,go_sem,vfq]) rfl ?_;rw[HE.out];exact⟨_,rfl,⟨_,_,rfl,ml.1,(SS.ep (vgv.set (a:=⟨w1.heap.size,2,none⟩) (λb hb=>by simp only;omega) _) (b:=w.heap.size) (λb hb=>by omega) _ _ _ _).mono λb hb=>by omega,(SS.ep (vhz.set (a:=⟨w1.heap.size,2,none⟩) (λb hb=>by simp only;omega) _) (b:=w.heap.size) (λb hb=>by omega) _ _ _ _).mono λb hb=>by omega⟩,Below.ep (OE.setCell (p:=⟨w1.heap.size,2,none⟩) B1.size _) (b:=w.heap.size) zr _ _ _ _⟩
