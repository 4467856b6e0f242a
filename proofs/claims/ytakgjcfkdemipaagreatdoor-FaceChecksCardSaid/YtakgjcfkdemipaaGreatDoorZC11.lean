/-
  Lemmas for the statement: contract of the reference argusref04: CheckAll. Conditions: bounds of lengths; the variable strings.asciiSpace.
-/
import Derived.Test.YtakgjcfkdemipaaGreatDoorZB29
import Derived.Test.YtakgjcfkdemipaaGreatDoorZBn
import Derived.Test.YtakgjcfkdemipaaGreatDoorZC10
set_option maxHeartbeats 25600000
namespace Go.Proofs.YtakgjcfkdemipaaGreatDoor
open Go.RowKit
set_option maxRecDepth 8000 in
theorem vcy (c:bw) (n:Nat) (hG:vbm c n) (iw:vbn c):vbm c (n+1):=by
 intro D D' lv nv t w hl hn htl KP
 have HV:=zh (λW (hW:Below w.heap.size w W)=>hl.below hW zr)
 have vim:=zh (λW (hW:Below w.heap.size w W)=>hn.below hW zr)
 have HO:=CL t htl w
 have HI:=λW=>Hx t htl W
 by_cases h0:(aq t).1=0
 case neg=>
  have g1:((((aq t).1:Nat):Int) != 0)=true:=by rw[bne_iff_ne];omega
  have g2:¬((((aq t).1:Nat):Int)=0):=by omega
  have HX:=zh (show ff c (n+1) t=(aq t).1 by rw[ff,if_pos h0]);obtain⟨pl,cl,rfl,_⟩:=hl.shape;obtain⟨pn,cn,rfl,_⟩:=hn.shape;clear h0 hl hn HV vim HI;generalize (aq t).1=C at *;generalize ff c (n+1) t=GN at *;go_enter Tryz.func68,Tryz.ntmps68;go_wp2_with (go_at_call 34;refine HO.mono ?_;clear HO;rintro e w1 ⟨rfl,au⟩);go_ret;rw[HX.out];exact⟨rfl,au⟩
 case pos =>
  obtain⟨hi2,hil,NO⟩:=zL h0;rw[h0] at HO
  by_cases ho:eM t=true∧c.par=false
  case pos=>
   obtain⟨jW,zz⟩:=ho;have HX:=zh (show ff c (n+1) t=43 by rw[ff,if_neg (by simp[h0]),if_pos ⟨jW,zz⟩]);rw[jW] at HO;generalize ff c (n+1) t=GN at *;simp only[zz];obtain⟨pl,cl,rfl,_⟩:=hl.shape;obtain⟨pn,cn,rfl,_⟩:=hn.shape;clear h0 jW zz hi2 hil NO hl hn HV vim HI;go_enter Tryz.func68,Tryz.ntmps68;go_wp2_with (go_at_call 34;refine HO.mono ?_;clear HO;rintro e w1 ⟨rfl,au⟩);go_ret;rw[HX.out];exact⟨rfl,au⟩
  case neg =>
   have HX:=zh (show ff c (n+1) t=dY ((cT t).1.map (gm c (ff c n))) by rw[ff,if_neg (by simp[h0]),if_neg ho]);generalize ff c (n+1) t=GN at *;rw[hi2] at HI;generalize (cT t).1=l at *;have PA:eM t=false∨(eM t=true∧c.par=true):=by cases h1:eM t<;>cases h2:c.par<;>simp_all
   clear ho h0 hi2;generalize eM t=O at *;obtain⟨pl,cl,rfl,hlc,hlm,_⟩:=hl.shape;obtain⟨pn,cn,rfl,_⟩:=hn.shape;unfold maxLen at hlm;have vkt:=zh hl;clear hl hn;rcases PA with rfl|⟨rfl,N2⟩
   all_goals
    try rw[N2]
    go_enter Tryz.func68,Tryz.ntmps68;go_wp2_with (first
     | (go_at_call 127;refine(HI _).mono ?_;clear HI;rintro e w2 ⟨vi,rfl,vj7,aC⟩;obtain⟨p3,c3,rfl⟩:=vj7.sh)
     | (go_at_call 34;refine HO.mono ?_;clear HO;rintro e w1 ⟨rfl,au⟩))
    have yS:=au.trans (af aC au.size);clear au aC;go_loopw [13] (λa wx=>∃i:Nat,i≤l.length∧a=.int .i64 i∧Below w.heap.size w wx∧Strs wx (.slice p3 l.length c3) l∧Hid (dY (l.map (gm c (ff c n)))=dY ((l.drop i).map (gm c (ff c n))))) (λa _=>l.length - (intOf a).toNat)
    case atStart=>exact⟨0,Nat.zero_le _,by go_num,yS,vj7,rfl⟩
    case round =>
     clear yS vj7;obtain⟨i,hi,rfl,hb,yT,hE⟩:=hrel
     by_cases hlt:i<l.length
     case neg=>
      have HY:=zh (show GN=0 by rw[HX.out,hE.out,List.drop_eq_nil_of_le (by omega)];rfl);clear hE;go_wp2_with fail;go_ret;rw[HY.out];exact⟨rfl,hb⟩
     case pos =>
      obtain⟨u,F1⟩:∃u,l[i]? =some u:=⟨_,List.getElem?_eq_getElem hlt⟩
      obtain⟨SF,Cd,huv⟩:=NO u (List.mem_of_getElem? F1);have Cd:u.length≤maxLen:=Nat.le_trans Cd (by decide);obtain⟨b1,o1,rfl,pc⟩:=yT.at F1;have hd:=hE.out;rw[bp F1,List.map_cons] at hd;clear hE F1 NO;have HK:=va9 u Cd wr
      by_cases uX:(aq u).2.k=7
      case neg=>
       have g1:(((aq u).2.k:Int) != 7)=true:=by rw[bne_iff_ne];omega
       have g2:¬(((aq u).2.k:Int)=7):=by omega
       have HY:=zh (hd.trans (jl (Cp uX)));clear uX hd;go_wp2_with (go_at_call 128;refine HK.mono ?_;clear HK;rintro e w1 ⟨rfl,au⟩;have bL:=hb.trans (af au hb.size);have hS1:=yT.below au zr;have pG:=Below.keep au pc);exact⟨⟨i+1,hlt,by go_num,bL,hS1,HY⟩,by simp only[intOf];omega⟩
      case pos =>
       obtain⟨_,hal,DM,_,hac,_⟩:=sU SF uX;rw[uX] at HK;have AP:=λW=>vbs u Cd W
       have uJ:=λW=>vbe u Cd W
       have QA:=λW (hW:Below w.heap.size w W)=>vc5 c.dG (eH u).1 _ W (HV.out W hW)
       rcases xC (vag (eH u).1) c.dG 0 with⟨R8,hq⟩|⟨fi,f,R8,hq,hfi⟩
       · rw[vac] at hq
         have HY:=zh (hd.trans ((gG (by rw[rF uX hq];decide)).trans (rF uX hq)));rw[R8] at QA;clear hd R8 hq;go_wp2_with (first
          | (go_at_call 95;refine(QA _ dx).mono ?_;clear QA;rintro e w4 ⟨rfl,hb4⟩;have eD:=dx.trans (af hb4 dx.size);have uV:=wV.below hb4 zr)
          | (go_at_call 130;refine(uJ _).mono ?_;clear uJ;rintro e w3 ⟨rfl,aH⟩;have dx:=cD.trans (af aH cD.size);have wV:=nG.below aH zr)
          | (go_at_call 129;refine(AP _).mono ?_;clear AP;rintro e w2 ⟨rfl,aC⟩;have cD:=bL.trans (af aC bL.size);have nG:=hS1.below aC zr;have od:=Below.keep aC pG)
          | (go_at_call 128;refine HK.mono ?_;clear HK;rintro e w1 ⟨rfl,au⟩;have bL:=hb.trans (af au hb.size);have hS1:=yT.below au zr;have pG:=Below.keep au pc))
         go_ret;rw[HX.out,HY.out];exact⟨rfl,eD⟩
       · rw [vac] at hq
         rw[R8,Nat.zero_add] at QA;have hfo:=iw.1 f (List.mem_of_getElem? hfi);have hfl:fi<c.dG.length:=(List.getElem?_eq_some_iff.1 hfi).1;obtain⟨bf,of,Uz,UA,rfl,_,_,Nj,vih,_,e1,e2,e3,_⟩:=vkt.out.at hfi;obtain⟨po,co,rfl,_⟩:=Nj.shape;clear R8 hfi vih;have g0:¬((fi:Int)<0):=by omega
         by_cases h3:f.kind=3
         case neg=>
          have HY:=zh (hd.trans ((gG (by rw[iG uX hq (λh=>h3 h.1)];decide)).trans (iG uX hq (λh=>h3 h.1))));have g1:((f.kind:Int) != 3)=true:=by rw[bne_iff_ne];omega
          have g2:¬((f.kind:Int)=3):=by omega
          clear hq hd h3 Nj hfo;go_wp2_with (first
           | (go_at_call 95;refine(QA _ dx).mono ?_;clear QA;rintro e w4 ⟨rfl,hb4⟩;have eD:=dx.trans (af hb4 dx.size);have uV:=wV.below hb4 zr;have vf1:=Below.keep eD e1;have Jz:=Below.keep eD e2;have ML:=Below.keep eD e3)
               | (go_at_call 130;refine(uJ _).mono ?_;clear uJ;rintro e w3 ⟨rfl,aH⟩;have dx:=cD.trans (af aH cD.size);have wV:=nG.below aH zr)
               | (go_at_call 129;refine(AP _).mono ?_;clear AP;rintro e w2 ⟨rfl,aC⟩;have cD:=bL.trans (af aC bL.size);have nG:=hS1.below aC zr;have od:=Below.keep aC pG)
               | (go_at_call 128;refine HK.mono ?_;clear HK;rintro e w1 ⟨rfl,au⟩;have bL:=hb.trans (af au hb.size);have hS1:=yT.below au zr;have pG:=Below.keep au pc))
          go_ret;rw[HX.out,HY.out];exact⟨rfl,eD⟩
         case pos =>
          rw[h3] at e1;rcases hha:(bQ u).2.1 with _|_<;>rcases mV:f.par with _|_
          · have HY:=zh (hd.trans (jl (zZ uX hq h3 mV hha)))
            rw[hha] at uJ;rw[mV] at e2;clear hq hd Nj hfo hha mV hac;go_wp2_with (first
             | (go_at_call 95;refine(QA _ dx).mono ?_;clear QA;rintro e w4 ⟨rfl,hb4⟩;have eD:=dx.trans (af hb4 dx.size);have uV:=wV.below hb4 zr;have vf1:=Below.keep eD e1;have Jz:=Below.keep eD e2;have ML:=Below.keep eD e3)
              | (go_at_call 130;refine(uJ _).mono ?_;clear uJ;rintro e w3 ⟨rfl,aH⟩;have dx:=cD.trans (af aH cD.size);have wV:=nG.below aH zr)
              | (go_at_call 129;refine(AP _).mono ?_;clear AP;rintro e w2 ⟨rfl,aC⟩;have cD:=bL.trans (af aC bL.size);have nG:=hS1.below aC zr;have od:=Below.keep aC pG)
              | (go_at_call 128;refine HK.mono ?_;clear HK;rintro e w1 ⟨rfl,au⟩;have bL:=hb.trans (af au hb.size);have hS1:=yT.below au zr;have pG:=Below.keep au pc))
            exact⟨⟨i+1,hlt,by go_num,eD,uV,HY⟩,by simp only[intOf];omega⟩
          · have HY:=zh (hd.trans ((gG (by rw[iG uX hq (λh=>by rw[hha,mV] at h;simp at h)];decide)).trans (iG uX hq (λh=>by rw[hha,mV] at h;simp at h))))
            rw[hha] at uJ;rw[mV] at e2;clear hq hd Nj hfo hha mV hac;go_wp2_with (first
             | (go_at_call 95;refine(QA _ dx).mono ?_;clear QA;rintro e w4 ⟨rfl,hb4⟩;have eD:=dx.trans (af hb4 dx.size);have uV:=wV.below hb4 zr;have vf1:=Below.keep eD e1;have Jz:=Below.keep eD e2;have ML:=Below.keep eD e3)
              | (go_at_call 130;refine(uJ _).mono ?_;clear uJ;rintro e w3 ⟨rfl,aH⟩;have dx:=cD.trans (af aH cD.size);have wV:=nG.below aH zr)
              | (go_at_call 129;refine(AP _).mono ?_;clear AP;rintro e w2 ⟨rfl,aC⟩;have cD:=bL.trans (af aC bL.size);have nG:=hS1.below aC zr;have od:=Below.keep aC pG)
              | (go_at_call 128;refine HK.mono ?_;clear HK;rintro e w1 ⟨rfl,au⟩;have bL:=hb.trans (af au hb.size);have hS1:=yT.below au zr;have pG:=Below.keep au pc))
            go_ret;rw[HX.out,HY.out];exact⟨rfl,eD⟩
          · have HY:=zh (hd.trans ((gG (by rw[iG uX hq (λh=>by rw[hha,mV] at h;simp at h)];decide)).trans (iG uX hq (λh=>by rw[hha,mV] at h;simp at h))))
            rw[hha] at uJ;rw[mV] at e2;clear hq hd Nj hfo hha mV hac;go_wp2_with (first
             | (go_at_call 95;refine(QA _ dx).mono ?_;clear QA;rintro e w4 ⟨rfl,hb4⟩;have eD:=dx.trans (af hb4 dx.size);have uV:=wV.below hb4 zr;have vf1:=Below.keep eD e1;have Jz:=Below.keep eD e2;have ML:=Below.keep eD e3)
              | (go_at_call 130;refine(uJ _).mono ?_;clear uJ;rintro e w3 ⟨rfl,aH⟩;have dx:=cD.trans (af aH cD.size);have wV:=nG.below aH zr)
              | (go_at_call 129;refine(AP _).mono ?_;clear AP;rintro e w2 ⟨rfl,aC⟩;have cD:=bL.trans (af aC bL.size);have nG:=hS1.below aC zr;have od:=Below.keep aC pG)
              | (go_at_call 128;refine HK.mono ?_;clear HK;rintro e w1 ⟨rfl,au⟩;have bL:=hb.trans (af au hb.size);have hS1:=yT.below au zr;have pG:=Below.keep au pc))
            go_ret;rw[HX.out,HY.out];exact⟨rfl,eD⟩
          · obtain⟨ha0,vi5,vi4⟩:=hac hha
            have PI:jy (bQ u).1<n:=by omega
            obtain⟨k0,rfl⟩:∃k0,n=k0+1:=⟨n - 1,by omega⟩
            have vki:∀o∈f.ag,o.sig.args.length≤100000:=λo ho=>Nat.le_trans ((ec (dQ hfo).2.2.2.1).2 o ho).1 (by decide)
            have vX:=λW (hW:Below w.heap.size w W)=>vdu c k0 hG iw _ _ _ f.ag (bQ u).1 W (HV.out W hW) (vim.out W hW) (Nj.below hW zr) vki ha0 vi5 PI
            try simp only[N2] at vX
            have hfit:=Co (n:=k0+1) uX hq h3 mV hha;rw[veh ha0 (EG c _ iw.1 iw.2)] at hfit;rw[hha] at uJ;rw[mV] at e2;clear hq Nj hfo hha mV hac ha0 vi5 vi4 PI vki;generalize vba c (k0+1) f.ag (bQ u).1=vne at *;rcases vne with _|y
            · have HY:=zh (hd.trans (jl (hfit.trans (if_pos rfl))))
              clear hd hfit;go_wp2_with (first
               | (go_at_call 131;refine(vX _ eD).mono ?_;clear vX;rintro e w5 ⟨rfl,eT⟩;have kH:=eD.trans (af eT eD.size);have BR:=uV.below eT zr)
               | (go_at_call 95;refine(QA _ dx).mono ?_;clear QA;rintro e w4 ⟨rfl,hb4⟩;have eD:=dx.trans (af hb4 dx.size);have uV:=wV.below hb4 zr;have vf1:=Below.keep eD e1;have Jz:=Below.keep eD e2;have ML:=Below.keep eD e3)
               | (go_at_call 130;refine(uJ _).mono ?_;clear uJ;rintro e w3 ⟨rfl,aH⟩;have dx:=cD.trans (af aH cD.size);have wV:=nG.below aH zr)
               | (go_at_call 129;refine(AP _).mono ?_;clear AP;rintro e w2 ⟨rfl,aC⟩;have cD:=bL.trans (af aC bL.size);have nG:=hS1.below aC zr;have od:=Below.keep aC pG)
               | (go_at_call 128;refine HK.mono ?_;clear HK;rintro e w1 ⟨rfl,au⟩;have bL:=hb.trans (af au hb.size);have hS1:=yT.below au zr;have pG:=Below.keep au pc))
              exact⟨⟨i+1,hlt,by go_num,kH,BR,HY⟩,by simp only[intOf];omega⟩
            · have HZ:=hfit.trans (if_neg (by simp))
              have HY:=zh (hd.trans ((gG (by rw[HZ];decide)).trans HZ));clear hd hfit HZ;go_wp2_with (first
               | (go_at_call 131;refine(vX _ eD).mono ?_;clear vX;rintro e w5 ⟨rfl,eT⟩;have kH:=eD.trans (af eT eD.size);have BR:=uV.below eT zr)
               | (go_at_call 95;refine(QA _ dx).mono ?_;clear QA;rintro e w4 ⟨rfl,hb4⟩;have eD:=dx.trans (af hb4 dx.size);have uV:=wV.below hb4 zr;have vf1:=Below.keep eD e1;have Jz:=Below.keep eD e2;have ML:=Below.keep eD e3)
               | (go_at_call 130;refine(uJ _).mono ?_;clear uJ;rintro e w3 ⟨rfl,aH⟩;have dx:=cD.trans (af aH cD.size);have wV:=nG.below aH zr)
               | (go_at_call 129;refine(AP _).mono ?_;clear AP;rintro e w2 ⟨rfl,aC⟩;have cD:=bL.trans (af aC bL.size);have nG:=hS1.below aC zr;have od:=Below.keep aC pG)
               | (go_at_call 128;refine HK.mono ?_;clear HK;rintro e w1 ⟨rfl,au⟩;have bL:=hb.trans (af au hb.size);have hS1:=yT.below au zr;have pG:=Below.keep au pc))
              go_ret;rw[HX.out,HY.out];exact⟨rfl,kH⟩
theorem vb9 (c:bw) (iw:vbn c):∀n,vbm c n
 | 0=>λ_ _ _ _ _ _ _ _ _ h=>absurd h (Nat.not_lt_zero _)
 | n+1=>vcy c n (vb9 c iw n) iw
theorem vdx {D D':Nat→Prop} (c:bw) (iw:vbn c) (lv nv:Value) (t:List UInt8) (w:World) (hl:bG D w lv c.dG) (hn:aY D' w nv c.ag) (htl:t.length≤maxLen):
 Calls Tryz.prog 68 #[lv,nv,.bool c.par,str t] w λe w'=>e=.returned (.int .i64 (dz c t))∧Below w.heap.size w w':=
 vb9 c iw 7 D D' lv nv t w hl hn htl (by have:=uf t;omega)
def vil (l:List aA):Prop:=∀(D:Nat→Prop) (v:Value) (w:World),bG D w v l→Calls Tryz.prog 41 #[v] w λe w'=>e=.returned (.tuple #[.int .i64 (kS l).1,.int .i64 (kS l).2])∧Below w.heap.size w w'
theorem vam:∀{L:List bP},(∀x∈L,x.args.length≤6)→(L.flatMap aQ).length≤7 * L.length
 | [],_=>by simp
 | x::L,h=>by
  have h1:=vam (L:=L) λy hy=>h y (List.mem_cons_of_mem _ hy)
  have h2:=h x (List.mem_cons_self ..);have h3:(aQ x).length≤7:=by unfold aQ;rw[List.length_append];split<;>simp<;>omega
  rw[List.flatMap_cons,List.length_append,List.length_cons];omega
set_option maxRecDepth 8000 in
theorem vcg (l : List aA) : vil l := by
 intro D v w hv
 obtain⟨p,c,rfl,_,hm,hle⟩:=hv.shape
 unfold maxLen at hm
 clear hle
 go_enter Tryz.func41,Tryz.ntmps41
 go_wp2_with fail
 go_loopw [4] (λy wx=>∃i:Nat,i≤l.length∧y=.int .i64 i∧Below w.heap.size w wx∧Hid (cU l 0 none=cU (l.drop i) i (nR l i))) (λy _=>l.length - (intOf y).toNat)
 case atStart=>exact⟨0,Nat.zero_le _,by go_num,zb _,rfl⟩
 case round =>
  obtain⟨i,hi,rfl,hb,hA⟩:=hrel
  by_cases hlt:i<l.length
  case neg => as_aux_lemma =>
   have HX:=zh (show cU l 0 none=none by rw[hA.out,List.drop_eq_nil_of_le (by omega)];rfl);clear hA;obtain⟨NV,O9,_,_⟩:=iE l 0 none HX.out;have OK:=zh (show kS l=(fI l l 0).getD (0,0) by unfold kS;rw[HX.out];rfl);have sG:=hv.below hb zr;clear HX;go_wp2_with fail;go_loopw [6] (λy wx=>∃i:Nat,i≤l.length∧y=.int .i64 i∧Below w.heap.size w wx∧Hid (fI l l 0=fI l (l.drop i) i)) (λy _=>l.length - (intOf y).toNat)
   case atStart=>exact⟨0,Nat.zero_le _,by go_num,hb,rfl⟩
   case round =>
    clear hb sG;obtain⟨i,hi,rfl,hb,GX⟩:=hrel
    by_cases hlt:i<l.length
    case neg=>as_aux_lemma=>
     have HZ:=zh (show kS l=(0,0) by rw[OK.out,GX.out,List.drop_eq_nil_of_le (by omega)];rfl);clear GX;go_wp2_with fail;go_ret2;rw[HZ.out];exact⟨rfl,hb⟩
    case pos => as_aux_lemma =>
     obtain⟨f,hkx⟩:∃f,l[i]? =some f:=⟨_,List.getElem?_eq_getElem hlt⟩
     have tJ:=List.mem_of_getElem? hkx;have hil:=hlt;have sG:=hv.below hb zr;obtain⟨b1,o1,nv,ov,rfl,_,hfl,hN,hO,c0,c1,c2,c3,c4⟩:=sG.at hkx;obtain⟨p1,z1,rfl,_⟩:=hN.shape;obtain⟨p2,z2,rfl,_⟩:=hO.shape;rw[bp hkx] at GX;have mV:=dQ (O9 f tJ);have hnl:=(ec mV.2.2.2.1).1;have hol:=mV.2.2.2.2.2.2.1;have iw:vbn ⟨l,f.ag,f.par⟩:=⟨O9,mV.2.2.2.1⟩;have hnx:∀x∈f.ag,x.sig.args.length≤6:=λo ho=>((ec mV.2.2.2.1).2 o ho).1
     have Ss:∀x∈f.ops,x.sig.args.length≤6:=λo ho=>(eN (mV.2.2.2.2.2.2.2.1 o ho).2).1
     have vm1:∀u∈(f.ag.map (·.sig)).flatMap aQ++(f.ops.map (·.sig)).flatMap aQ,u.length≤maxLen:=by
      intro u hu;rcases List.mem_append.1 hu with hu|hu<;>obtain⟨s,hs,hu⟩:=List.mem_flatMap.1 hu<;>obtain⟨o,ho,rfl⟩:=List.mem_map.1 hs
      · have h9:=mV.2.2.2.1
        rw[iU,Bool.and_eq_true,List.all_eq_true] at h9;exact(CU ((eN (h9.1 o ho)).2.2.2.2 u hu).1).1
      · exact(CU ((eN (mV.2.2.2.2.2.2.2.1 o ho).2).2.2.2.2 u hu).1).1
     have Nq:Hid ((mL f).flatMap aQ=(f.ag.map (·.sig)).flatMap aQ++(f.ops.map (·.sig)).flatMap aQ):=by
      show _=_
      unfold mL;rw[List.flatMap_append]
     obtain⟨W2,vg6⟩:∃x,x=wr:=⟨_,rfl⟩
     subst vg6;clear hkx mV c0 c1 sG;go_wp2_with fail;go_loopw [7,8] (λa y wx=>∃k:Nat,k≤f.ag.length∧y=.int .i64 k∧wx.ownsRow W2.heap.size 9 1 a (((f.ag.take k).map (·.sig)).flatMap aQ).length (aB (((f.ag.take k).map (·.sig)).flatMap aQ))∧Below W2.heap.size W2 wx) (λ_ y _=>f.ag.length - (intOf y).toNat)
     case atStart=>exact⟨0,Nat.zero_le _,by go_num,World.ownsRow_nil _ _ _ _,zb _⟩
     case round =>
      obtain⟨k,hk,rfl,hown,mE⟩:=hrel;obtain⟨pv,cv,rfl⟩:=bu hown;have vit:=Below.keep mE c3
      by_cases hlt:k<f.ag.length
      case neg => as_aux_lemma =>
       obtain rfl:k=f.ag.length:=by omega
       simp only[List.take_length] at hown ⊢;have xk:=hown;have DN:=mE;clear hown mE;go_wp2_with fail;clear vit;go_loopw [7,9] (λa y wx=>∃k:Nat,k≤f.ops.length∧y=.int .i64 k∧wx.ownsRow W2.heap.size 9 1 a ((f.ag.map (·.sig)).flatMap aQ++((f.ops.take k).map (·.sig)).flatMap aQ).length (aB ((f.ag.map (·.sig)).flatMap aQ++((f.ops.take k).map (·.sig)).flatMap aQ))∧Below W2.heap.size W2 wx) (λ_ y _=>f.ops.length - (intOf y).toNat)
       case atStart=>exact⟨0,Nat.zero_le _,by go_num,by simpa using xk,DN⟩
       case round =>
        clear xk DN;obtain⟨k,hk,rfl,hown,mE⟩:=hrel;obtain⟨pv,cv,rfl⟩:=bu hown;have vl4:=Below.keep mE c4
        by_cases hlt:k<f.ops.length
        case neg => as_aux_lemma =>
         obtain rfl:k=f.ops.length:=by omega
         simp only[List.take_length] at hown ⊢;have DN:=mE;generalize (f.ag.map (·.sig)).flatMap aQ++(f.ops.map (·.sig)).flatMap aQ=LS at *;have yT:SS (λ_=>True) wr (.slice pv LS.length cv) LS:=SS.bH hown vm1 (λ_ _=>trivial);clear hown mE;go_wp2_with fail;clear vl4;go_loopw [10] (λy wx=>∃k:Nat,k≤LS.length∧y=.int .i64 k∧SS (λ_=>True) wx (.slice pv LS.length cv) LS∧Below W2.heap.size W2 wx∧Hid (dY (LS.map (dz ⟨l,f.ag,f.par⟩))=dY ((LS.drop k).map (dz ⟨l,f.ag,f.par⟩)))) (λy _=>LS.length - (intOf y).toNat)
         case atStart=>exact⟨0,Nat.zero_le _,by go_num,yT,DN,rfl⟩
         case round =>
          clear yT DN;obtain⟨k,hk,rfl,yT,mE,hF⟩:=hrel
          by_cases hlt5:k<LS.length
          case neg=>as_aux_lemma=>
           have h0:dY (LS.map (dz ⟨l,f.ag,f.par⟩))=0:=by rw[hF.out,List.drop_eq_nil_of_le (by omega)];rfl
           have HZ:=zh (show fI l l 0=fI l (l.drop (i+1)) (i+1) by rw[GX.out,Fa (by rw[Nq.out];exact h0)]);clear hF h0;go_wp2_with fail;exact⟨⟨i+1,by omega,by go_num,hb.trans (af mE hb.size),HZ⟩,by simp only[intOf];omega⟩
          case pos => as_aux_lemma =>
           obtain⟨u,F1⟩:∃u,LS[k]? =some u:=⟨_,List.getElem?_eq_getElem hlt5⟩
           have Cd:=yT.le u (List.mem_of_getElem? F1);obtain⟨b2,o2,rfl,_,pc⟩:=yT.at F1;have hd:=hF.out;rw[bp F1,List.map_cons] at hd;clear hF F1;have Ny:=hb.trans (af mE hb.size);have vls:=hv.below Ny zr;have Nh:=hN.below mE zr;have vl3:=Below.keep mE c2;have vit:=Below.keep mE c3;have vmm:=Below.keep (zb wr).drew vl3;have vmn:=Below.keep (zb wr).drew vit;have vmy:=Below.keep (zb wr).drew pc;clear c2 c3 c4;have vmu:LS.length≤9223372036854775807:=by
            obtain⟨_,_,_,_,h,_⟩:=yT.shape;unfold maxLen at h;omega
           obtain⟨GK,vgj⟩:∃g,dz ⟨l,f.ag,f.par⟩ u=g:=⟨_,rfl⟩
           rw[vgj] at hd;have vgj:=vgj;go_upto_region 26 with fail;refine dK (D:=Any) (w:=wr) 16 [(0,vL b1 o1 l.length c),(6,vI i),(7,vL b2 o2 LS.length cv),(10,vI k)] [vL b1 o1 l.length c,vL b1 o1 l.length c,vI i,vP b1 (o1+i * 5),vP b1 (o1+i * 5+3),.eq (.slice p1 f.ag.length z1),vL b1 o1 l.length c,vI i,vP b1 (o1+i * 5),vP b1 (o1+i * 5+2),.eq (.bool f.par),vL b2 o2 LS.length cv,vI k,vP b2 (o2+k),vT u,vI GK,vI GK] (λw'=>aZ [(⟨b1,o1+i * 5+3,none⟩,.slice p1 f.ag.length z1),(⟨b1,o1+i * 5+2,none⟩,.bool f.par),(⟨b2,o2+k,none⟩,str u)] w'∧bG D w' (.slice (some ⟨b1,o1,none⟩) l.length c) l∧aY D w' (.slice p1 f.ag.length z1) f.ag) (by kernel_rfl) rfl (λ_ _ h hb=>⟨h.1.below hb,h.2.1.below hb zr,h.2.2.below hb zr⟩) ⟨(by(iterate 3 refine b9 (by assumption) ?_);exact gy),vls.below (zb wr).drew zr,Nh.below (zb wr).drew zr⟩ ⟨rfl,rfl,rfl,rfl,trivial⟩ ?_ ?_
           · iterate 17
              refine And.intro ?_ ?_
              · first
                | exact dr (by kernel_rfl) rfl
                | exact oe rfl rfl (by kernel_rfl)
                | exact eX rfl (by kernel_rfl) (by kernel_rfl) rfl rfl
                | exact gN rfl (by kernel_rfl) rfl rfl (λw=>by simp[go_sem])
                | exact iC rfl (by kernel_rfl) rfl rfl rfl (λw=>by simp[go_sem,hil,hlt5])
                | exact gv rfl (by kernel_rfl) rfl rfl (λw hS=>by simp[go_sem,(hS.1.get 0 rfl),(hS.1.get 1 rfl),(hS.1.get 2 rfl)])
                | exact vdf (s1:=.eq (.slice (some ⟨b1,o1,none⟩) l.length c)) (s2:=.eq (.slice p1 f.ag.length z1)) (s3:=.eq (.bool f.par)) (s4:=.eq (str u)) rfl (enters_of Tryz.func68 (by kernel_rfl) rfl) (by kernel_rfl) rfl (by kernel_rfl) (by kernel_rfl) (by kernel_rfl) (by kernel_rfl) (λv v2 v3 v4 wx hS h1 h2 h3 h4=>by rw[show v=_ from h1,show v2=_ from h2,show v3=_ from h3,show v4=_ from h4];exact(vdx ⟨l,f.ag,f.par⟩ iw _ _ u wx hS.2.1 hS.2.2 Cd).mono (by rintro e w' ⟨rfl,hb⟩;exact⟨_,rfl,(show Value.int .i64 (dz ⟨l,f.ag,f.par⟩ u:Nat)=.int .i64 (GK:Nat) by rw[vgj]),hb⟩))
                | exact eW rfl (by kernel_rfl) rfl rfl rfl (λw=>by simp[go_sem])
             exact trivial
           · intro aE wE mo fM _
             simp only[pq,pz,pw]
             by_cases h0:GK=0
             · as_aux_lemma=>
               subst h0;rw[jl rfl] at hd;have HZ:=zh hd;clear hd vgj;go_wp2_with fail;exact⟨⟨k+1,hlt5,by go_num,yT.below fM zr,mE.trans (af fM mE.size),HZ⟩,by simp only[intOf];omega⟩
             · as_aux_lemma=>
               obtain⟨g1,g2⟩:=bK h0;rw[gG h0] at hd;have HZ:=zh (show kS l=(i,GK) by rw[OK.out,GX.out,CV (by rw[Nq.out,hd];exact h0),Nq.out,hd];rfl);clear hd h0 vgj;go_wp2_with fail;go_ret2;rw[HZ.out];exact⟨rfl,Ny.trans (af fM Ny.size)⟩
        case pos=>as_aux_lemma=>
         obtain⟨x,hx⟩:∃x,f.ops[k]? =some x:=⟨_,List.getElem?_eq_getElem hlt⟩
         obtain⟨b2,o2,av,sv,mq,Il,⟨F8,mI⟩,fe,eE,d0,d1,d2,d3,d4⟩:=(hO.below mE zr).at hx;subst mq;have hxl:=Ss x (List.mem_of_getElem? hx);have OU:=Ay _ x.sig wr ⟨_,_,rfl,mI,fe,eE⟩ (by omega);obtain⟨pa,ca,rfl,_⟩:=fe.shape;obtain⟨ps,cs,rfl,_⟩:=eE.shape;have FV:=zh (show((f.ag.map (·.sig)).flatMap aQ++((f.ops.take k).map (·.sig)).flatMap aQ)++aQ x.sig=(f.ag.map (·.sig)).flatMap aQ++((f.ops.take (k+1)).map (·.sig)).flatMap aQ by rw[List.take_add_one,hx];simp);have hlen:((f.ag.map (·.sig)).flatMap aQ++((f.ops.take k).map (·.sig)).flatMap aQ).length≤300:=by
          have h1:=vam (L:=f.ag.map (·.sig)) (by intro y hy;obtain⟨o,ho,rfl⟩:=List.mem_map.1 hy;exact hnx o ho);have h2:=vam (L:=(f.ops.take k).map (·.sig)) (by intro y hy;obtain⟨o,ho,rfl⟩:=List.mem_map.1 hy;exact Ss o (List.mem_of_mem_take ho));rw[List.length_map] at h1 h2;rw[List.length_take] at h2;rw[List.length_append];omega
         have htl:(aQ x.sig).length≤300:=by unfold aQ;rw[List.length_append];split<;>simp<;>omega
         generalize ((f.ag.map (·.sig)).flatMap aQ++((f.ops.take k).map (·.sig)).flatMap aQ)=LS at *;generalize aQ x.sig=vo1 at *;clear hx;go_wp2_with (first
          | (at_builtin;refine jV _ rfl _ _ rfl W2.heap.size (.slice pv LS.length cv) LS rfl vao (.slice pt vo1.length ct) vo1 rfl vhl (by omega) vct.size ?_;intro v' w5 gX hgr sF)
          | (go_at_call 93;refine OU.mono ?_;clear OU;rintro e w3 ⟨tv,rfl,_,vhl,aH⟩;obtain⟨pt,ct,rfl,_⟩:=vhl.shape;have vao:=ay hown aH zr;have vct:=mE.trans (af aH mE.size)))
         have kH:=Below.grown vct hgr vct.size (λk e=>(vao.lt k e).1);exact⟨⟨k+1,hlt,by go_num,FV.out▸gX,kH⟩,by simp only[intOf];omega⟩
      case pos=>as_aux_lemma=>
       obtain⟨x,hx⟩:∃x,f.ag[k]? =some x:=⟨_,List.getElem?_eq_getElem hlt⟩
       obtain⟨b2,o2,av,sv,mq,Il,⟨F8,mI⟩,fe,eE,d0,d1,d2,d3,d4⟩:=(hN.below mE zr).at hx;subst mq;have hxl:=hnx x (List.mem_of_getElem? hx);have OU:=Ay _ x.sig wr ⟨_,_,rfl,mI,fe,eE⟩ (by omega);obtain⟨pa,ca,rfl,_⟩:=fe.shape;obtain⟨ps,cs,rfl,_⟩:=eE.shape;have FV:=zh (show((f.ag.take k).map (·.sig)).flatMap aQ++aQ x.sig=((f.ag.take (k+1)).map (·.sig)).flatMap aQ by rw[List.take_add_one,hx];simp);have hlen:(((f.ag.take k).map (·.sig)).flatMap aQ).length≤300:=by
        have h2:=vam (L:=(f.ag.take k).map (·.sig)) (by intro y hy;obtain⟨o,ho,rfl⟩:=List.mem_map.1 hy;exact hnx o (List.mem_of_mem_take ho));rw[List.length_map,List.length_take] at h2;omega
       have htl:(aQ x.sig).length≤300:=by unfold aQ;rw[List.length_append];split<;>simp<;>omega
       generalize (((f.ag.take k).map (·.sig)).flatMap aQ)=LS at *;generalize aQ x.sig=vo1 at *;clear hx;go_wp2_with (first
        | (at_builtin;refine jV _ rfl _ _ rfl W2.heap.size (.slice pv LS.length cv) LS rfl vao (.slice pt vo1.length ct) vo1 rfl vhl (by omega) vct.size ?_;intro v' w5 gX hgr sF)
        | (go_at_call 93;refine OU.mono ?_;clear OU;rintro e w3 ⟨tv,rfl,_,vhl,aH⟩;obtain⟨pt,ct,rfl,_⟩:=vhl.shape;have vao:=ay hown aH zr;have vct:=mE.trans (af aH mE.size)))
       have kH:=Below.grown vct hgr vct.size (λk e=>(vao.lt k e).1);exact⟨⟨k+1,hlt,by go_num,FV.out▸gX,kH⟩,by simp only[intOf];omega⟩
  case pos => as_aux_lemma =>
   obtain⟨f,hkx⟩:∃f,l[i]? =some f:=⟨_,List.getElem?_eq_getElem hlt⟩
   have sG:=hv.below hb zr;obtain⟨b1,o1,nv,ov,rfl,_,hfl,hN,hO,c0,c1,c2,c3,c4⟩:=sG.at hkx;have hd:=hA.out;rw[bp hkx] at hd;clear hA;have HC:=Hw _ f wr ⟨nv,ov,rfl,hfl,hN,hO⟩;obtain⟨p1,z1,rfl,_⟩:=hN.shape;obtain⟨p2,z2,rfl,_⟩:=hO.shape
   by_cases h20:20≤i
   · have HX:=zh (qq (hd.trans (zu h20)))
     have g0:(20:Int)≤(i:Int):=by omega
     clear hd hkx;go_wp2_with fail;go_ret2;rw[HX.out];exact⟨rfl,hb⟩
   · have g0 : ¬(20 : Int) ≤ (i : Int) := by omega
     rcases qT:dF f with _|_
     · rw[kW qT] at HC
       have HX:=zh (qq (hd.trans (zq h20 qT)));clear hd hkx qT;go_wp2_with (go_at_call 39;refine HC.mono ?_;clear HC;rintro e w1 ⟨rfl,au⟩);go_ret2;rw[HX.out];exact⟨rfl,hb.trans (af au hb.size)⟩
     · rw [sZ qT] at HC
       cases i with
       | zero=>
        have HX:=zh (show cU l 0 none=cU (l.drop 1) 1 (nR l 1) by rw[hd,sY h20 qT (by rfl)];simp[nR,hkx]);simp only[Nat.zero_mul,Nat.add_zero] at c0 c1 c2 c3 c4;clear hd hkx qT;go_upto_region 9 with(go_at_call 39;refine HC.mono ?_;clear HC;rintro e w1 ⟨rfl,au⟩);go_quiet (fail);go_wp2_with fail;exact⟨⟨1,by omega,by go_num,Dm (hb.trans (af au hb.size)) _,HX⟩,by simp only[intOf];omega⟩
       | succ j=>
        have hj:j<l.length:=by omega
        obtain⟨y,j8⟩:∃y,l[j]? =some y:=⟨_,List.getElem?_eq_getElem hj⟩
        obtain⟨b2,o2,Uz,UA,e2,_,_,_,_,d0,_⟩:=sG.at j8;injection e2 with e2;injection e2 with e2 e3;subst e2 e3;rcases hl:Op.bytesLess y.name f.name with _|_
        · have HX:=zh (qq (hd.trans (by rw[show nR l (j+1)=some y.name by rw[nR,j8];rfl];exact uR h20 qT hl)))
          clear hd hkx j8 qT;go_upto_region 9 with(go_at_call 39;refine HC.mono ?_;clear HC;rintro e w1 ⟨rfl,au⟩;have vl5:=Below.keep au d0;have vl2:=Below.keep au c0);go_quiet (fail);go_wp2_with fail;go_ret2;rw[HX.out];exact⟨rfl,Dm (hb.trans (af au hb.size)) _⟩
        · have HX:=zh (show cU l 0 none=cU (l.drop (j+2)) (j+2) (nR l (j+2)) by rw[hd,sY h20 qT (by rw[show nR l (j+1)=some y.name by rw[nR,j8];rfl];simp[hl])];simp[nR,hkx])
          clear hd hkx j8 qT;go_upto_region 9 with(go_at_call 39;refine HC.mono ?_;clear HC;rintro e w1 ⟨rfl,au⟩;have vl5:=Below.keep au d0;have vl2:=Below.keep au c0);go_quiet (fail);go_wp2_with fail;exact⟨⟨j+2,by omega,by go_num,Dm (hb.trans (af au hb.size)) _,HX⟩,by simp only[intOf];omega⟩
end Go.Proofs.YtakgjcfkdemipaaGreatDoor
